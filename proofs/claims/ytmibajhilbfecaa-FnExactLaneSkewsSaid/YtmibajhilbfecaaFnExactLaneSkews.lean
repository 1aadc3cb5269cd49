/- FnExactLaneSkews: for every input the Go law returns true and leaves its arguments as they were. No condition beyond the given statement's own. -/
import Derived.Test.YtmibajhilbfecaaRows
import Derived.WalkKit
import Derived.ProofKit
import Derived.OpenShut
import Derived.ChangeOld
import Derived.Below
import Derived.Test.YtmibajhilbfecaaWalks4c
namespace Go.Proofs.Ytmibajhilbfecaa
open Go.ChangeShapes Go.WideShapes Go.ChangeAt Go.RowKit Go.Deep
set_option linter.unusedVariables false



theorem own_fnExactLaneSkews : ownKnob Try.prog.godebug = none := by kernel_rfl
theorem laidOut_fnExactLaneSkews : laidOutB Try.prog = true := by kernel_rfl
set_option maxRecDepth 100000 in
theorem lifted_fnExactLaneSkews (os : Os) (started : os.Started) (H : Type) (enc : TypeId × Value → H) :
    ReturnsInHanded {} Try.checked os 10 .any (Rows.fnExactLaneSkewsSpec.pre6 enc Try.prog Try.f10 Rows.fnExactLaneSkewsRow.domain false) (Rows.fnExactLaneSkewsSpec.post enc Try.prog Try.f10 false true false false) := by
  refine returnsInHanded_of_change (C := Try.checked) own_fnExactLaneSkews started (by kernel_rfl) Try.func10
    (ChangeSpec.witness6 (enc := enc) (C := Try.checked) false ⟨#[], #[.agg #[.slice none 0 0, .slice none 0 0], .agg #[.int .i64 0, .int .i64 0, .int .i64 0]], []⟩ 8 (by kernel_rfl) (by kernel_rfl) (by kernel_rfl) (by kernel_rfl)) ?_
  intro W base args ds gs before hval0 hW hcnd _
  have hval : ∀ (j : Nat) t v, Try.f10.params[j]? = some t → args[j]? = some v → Value.okWide Try.prog W .any base t v := hval0
  have hW' := hW
  obtain ⟨p, q, hA0, hV, rfl, hfz, hnd⟩ := hW
  have hA : DataW.TrodAll enc Try.prog W 0 (fun _ => true) true Try.f10.params.toList args.toList ds p := hA0
  rw [Try.params10] at hA hval
  obtain ⟨v0, vs0, d0, ds0, p0, q0, hargs, rfl, rfl, h0, r0⟩ := trodAll_cons hA
  obtain ⟨v1, vs1, d1, ds1, p1, q1, rfl, rfl, rfl, h1, r1⟩ := trodAll_cons r0
  obtain ⟨rfl, rfl, rfl⟩ := trodAll_nil r1
  obtain rfl : args = #[v0, v1] := by cases args; simp_all
  obtain ⟨rfl, rfl⟩ := trodVars_none hV
  have k0 := h0
  have lt0 : ∀ x ∈ p0, x.block < W.heap.size := by obtain ⟨m, hm⟩ := k0; exact DataW.trod_lt m _ _ _ hm
  have k1 := h1
  have lt1 : ∀ x ∈ p1, x.block < W.heap.size := by obtain ⟨m, hm⟩ := k1; exact DataW.trod_lt m _ _ _ hm
  obtain ⟨cs0, rfl, hs0, hg0⟩ := open_agg Try.underlying43 (by kernel_rfl) (by kernel_rfl) (hval 0 43 v0 rfl rfl) h0
  obtain ⟨Q0, nq0, cq0, zq0, eq0, rq0, fq0, gq0, iq0⟩ := agg_RI Try.underlying24 Try.underlying3 (by kernel_rfl) (hg0 0 _ rfl)
  obtain ⟨S0, ns0, cs0', zs0, es0, rs0, fs0, gs0, is0⟩ := agg_RI Try.underlying24 Try.underlying3 (by kernel_rfl) (hg0 1 _ rfl)
  obtain rfl : cs0 = #[.slice Q0 nq0 cq0, .slice S0 ns0 cs0'] := agg_eq2 hs0 eq0 es0
  obtain ⟨cs1, rfl, hs1, hg1⟩ := open_agg Try.underlying37 (by kernel_rfl) (by kernel_rfl) (hval 1 37 v1 rfl rfl) h1
  obtain ⟨x1_0, e1_0, b1_0⟩ := agg_int Try.underlying3 (hg1 0 _ rfl)
  obtain ⟨x1_1, e1_1, b1_1⟩ := agg_int Try.underlying3 (hg1 1 _ rfl)
  obtain ⟨x1_2, e1_2, b1_2⟩ := agg_int Try.underlying3 (hg1 2 _ rfl)
  obtain rfl : cs1 = #[.int .i64 x1_0, .int .i64 x1_1, .int .i64 x1_2] := agg_eq3 hs1 e1_0 e1_1 e1_2
  clear hA0 hval0
  refine (walk_fnExactLaneSkews W Q0 nq0 cq0 zq0 rq0 fq0 gq0 iq0 S0 ns0 cs0' zs0 rs0 fs0 gs0 is0 x1_0 b1_0 x1_1 b1_1 x1_2 b1_2).mono fun e W' ⟨he, bel⟩ => ?_
  subst he
  exact ⟨_, rfl, _, _, _, [], _, [], hW', trodAll_mk1 (shut_bool Try.underlying4 _), (trodAll_cons_mk (Below.trod laidOut_fnExactLaneSkews (by kernel_rfl) (of_decide_eq_true (by kernel_rfl)) k0 bel lt0) (trodAll_cons_mk (Below.trod laidOut_fnExactLaneSkews (by kernel_rfl) (of_decide_eq_true (by kernel_rfl)) k1 bel lt1) trodAll_mk0)), rfl, bel.frame _, fun h => by cases h⟩

theorem fnExactLaneSkews_over : Rows.fnExactLaneSkewsRow.holds Try.pinned (OpenSpec.ofChange Rows.fnExactLaneSkewsSpec) :=
  OpenClaim.holds_of_wide 10 Try.f10 rfl rfl rfl rfl rfl rfl rfl ⟨rfl, rfl, rfl, rfl, rfl⟩ rfl rfl rfl rfl rfl (by kernel_rfl) Try.func10 (by kernel_rfl)
    (of_decide_eq_true (by kernel_rfl)) (by unfold Func.isWrapper; first | (rw [if_pos (by decide +kernel)]; kernel_rfl) | (rw [if_neg (by decide +kernel)]; exact ⟨rfl, rfl⟩))
    (fun os started H enc _ => lifted_fnExactLaneSkews os started H enc)

theorem fnExactLaneSkews_holds : Rows.FnExactLaneSkewsSaid := fnExactLaneSkews_over
#print axioms fnExactLaneSkews_holds
end Go.Proofs.Ytmibajhilbfecaa
