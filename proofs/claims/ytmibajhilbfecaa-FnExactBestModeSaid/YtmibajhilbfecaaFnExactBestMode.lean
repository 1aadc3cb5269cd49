/- FnExactBestMode: for every input the Go law returns true and leaves its arguments as they were. No condition beyond the given statement's own. -/
import Derived.Test.YtmibajhilbfecaaRows
import Derived.WalkKit
import Derived.ProofKit
import Derived.OpenShut
import Derived.ChangeOld
import Derived.Below
import Derived.Test.YtmibajhilbfecaaWalks4e
import Derived.Test.YtmibajhilbfecaaOpenM
namespace Go.Proofs.Ytmibajhilbfecaa
open Go.ChangeShapes Go.WideShapes Go.ChangeAt Go.RowKit Go.Deep
set_option linter.unusedVariables false



theorem own_fnExactBestMode : ownKnob Try.prog.godebug = none := by kernel_rfl
theorem laidOut_fnExactBestMode : laidOutB Try.prog = true := by kernel_rfl
set_option maxRecDepth 100000 in
theorem lifted_fnExactBestMode (os : Os) (started : os.Started) (H : Type) (enc : TypeId × Value → H) :
    ReturnsInHanded {} Try.checked os 12 .any (Rows.fnExactBestModeSpec.pre6 enc Try.prog Try.f12 Rows.fnExactBestModeRow.domain false) (Rows.fnExactBestModeSpec.post enc Try.prog Try.f12 false true false false) := by
  refine returnsInHanded_of_change (C := Try.checked) own_fnExactBestMode started (by kernel_rfl) Try.func12
    (ChangeSpec.witness6 (enc := enc) (C := Try.checked) false ⟨#[], #[.agg #[.string ⟨#[]⟩, .slice none 0 0, .int .i64 0], .int .i64 0, .int .i64 0, .agg #[.int .i64 0, .int .i64 0, .int .i64 0]], []⟩ 8 (by kernel_rfl) (by kernel_rfl) (by kernel_rfl) (by kernel_rfl)) ?_
  intro W base args ds gs before hval0 hW hcnd _
  have hval : ∀ (j : Nat) t v, Try.f12.params[j]? = some t → args[j]? = some v → Value.okWide Try.prog W .any base t v := hval0
  have hW' := hW
  obtain ⟨p, q, hA0, hV, rfl, hfz, hnd⟩ := hW
  have hA : DataW.TrodAll enc Try.prog W 0 (fun _ => true) true Try.f12.params.toList args.toList ds p := hA0
  rw [Try.params12] at hA hval
  obtain ⟨v0, vs0, d0, ds0, p0, q0, hargs, rfl, rfl, h0, r0⟩ := trodAll_cons hA
  obtain ⟨v1, vs1, d1, ds1, p1, q1, rfl, rfl, rfl, h1, r1⟩ := trodAll_cons r0
  obtain ⟨v2, vs2, d2, ds2, p2, q2, rfl, rfl, rfl, h2, r2⟩ := trodAll_cons r1
  obtain ⟨v3, vs3, d3, ds3, p3, q3, rfl, rfl, rfl, h3, r3⟩ := trodAll_cons r2
  obtain ⟨rfl, rfl, rfl⟩ := trodAll_nil r3
  obtain rfl : args = #[v0, v1, v2, v3] := by cases args; simp_all
  obtain ⟨rfl, rfl⟩ := trodVars_none hV
  have k0 := h0
  have lt0 : ∀ x ∈ p0, x.block < W.heap.size := by obtain ⟨m, hm⟩ := k0; exact DataW.trod_lt m _ _ _ hm
  have k1 := h1
  have lt1 : ∀ x ∈ p1, x.block < W.heap.size := by obtain ⟨m, hm⟩ := k1; exact DataW.trod_lt m _ _ _ hm
  have k2 := h2
  have lt2 : ∀ x ∈ p2, x.block < W.heap.size := by obtain ⟨m, hm⟩ := k2; exact DataW.trod_lt m _ _ _ hm
  have k3 := h3
  have lt3 : ∀ x ∈ p3, x.block < W.heap.size := by obtain ⟨m, hm⟩ := k3; exact DataW.trod_lt m _ _ _ hm
  obtain ⟨cs0, rfl, hs0, hg0⟩ := open_agg Try.underlying66 (by kernel_rfl) (by kernel_rfl) (hval 0 66 v0 rfl rfl) h0
  obtain ⟨N0, eN0, bN0⟩ := agg_str Try.underlying9 (hg0 0 _ rfl)
  obtain ⟨A0, n0, c0, ms0, em0, rm0, gm0, im0⟩ := agg_RM Try.underlying64 Try.underlying36 (by kernel_rfl) (by kernel_rfl) (by kernel_rfl) Try.underlying3 (by kernel_rfl) (hg0 1 _ rfl)
  obtain ⟨x0_2, e0_2, b0_2⟩ := agg_int Try.underlying3 (hg0 2 _ rfl)
  obtain rfl : cs0 = #[.string N0, .slice A0 n0 c0, .int .i64 x0_2] := agg_eq3 hs0 eN0 em0 e0_2
  obtain ⟨a1, rfl, rfl, rfl, w1⟩ := open_int Try.underlying3 (hval 1 3 v1 rfl rfl) h1
  have b1 : I64 a1 := bounds_i64 w1
  obtain ⟨a2, rfl, rfl, rfl, w2⟩ := open_int Try.underlying3 (hval 2 3 v2 rfl rfl) h2
  have b2 : I64 a2 := bounds_i64 w2
  obtain ⟨cs3, rfl, hs3, hg3⟩ := open_agg Try.underlying37 (by kernel_rfl) (by kernel_rfl) (hval 3 37 v3 rfl rfl) h3
  obtain ⟨x3_0, e3_0, b3_0⟩ := agg_int Try.underlying3 (hg3 0 _ rfl)
  obtain ⟨x3_1, e3_1, b3_1⟩ := agg_int Try.underlying3 (hg3 1 _ rfl)
  obtain ⟨x3_2, e3_2, b3_2⟩ := agg_int Try.underlying3 (hg3 2 _ rfl)
  obtain rfl : cs3 = #[.int .i64 x3_0, .int .i64 x3_1, .int .i64 x3_2] := agg_eq3 hs3 e3_0 e3_1 e3_2
  clear hA0 hval0
  refine (walk_fnExactBestMode W N0 bN0 A0 n0 c0 ms0 rm0 gm0 im0 x0_2 b0_2 a1 b1 a2 b2 x3_0 b3_0 x3_1 b3_1 x3_2 b3_2).mono fun e W' ⟨he, bel⟩ => ?_
  subst he
  exact ⟨_, rfl, _, _, _, [], _, [], hW', trodAll_mk1 (shut_bool Try.underlying4 _), (trodAll_cons_mk (Below.trod laidOut_fnExactBestMode (by kernel_rfl) (of_decide_eq_true (by kernel_rfl)) k0 bel lt0) (trodAll_cons_mk (Below.trod laidOut_fnExactBestMode (by kernel_rfl) (of_decide_eq_true (by kernel_rfl)) k1 bel lt1) (trodAll_cons_mk (Below.trod laidOut_fnExactBestMode (by kernel_rfl) (of_decide_eq_true (by kernel_rfl)) k2 bel lt2) (trodAll_cons_mk (Below.trod laidOut_fnExactBestMode (by kernel_rfl) (of_decide_eq_true (by kernel_rfl)) k3 bel lt3) trodAll_mk0)))), rfl, bel.frame _, fun h => by cases h⟩

theorem fnExactBestMode_over : Rows.fnExactBestModeRow.holds Try.pinned (OpenSpec.ofChange Rows.fnExactBestModeSpec) :=
  OpenClaim.holds_of_wide 12 Try.f12 rfl rfl rfl rfl rfl rfl rfl ⟨rfl, rfl, rfl, rfl, rfl⟩ rfl rfl rfl rfl rfl (by kernel_rfl) Try.func12 (by kernel_rfl)
    (of_decide_eq_true (by kernel_rfl)) (by unfold Func.isWrapper; first | (rw [if_pos (by decide +kernel)]; kernel_rfl) | (rw [if_neg (by decide +kernel)]; exact ⟨rfl, rfl⟩))
    (fun os started H enc _ => lifted_fnExactBestMode os started H enc)

theorem fnExactBestMode_holds : Rows.FnExactBestModeSaid := fnExactBestMode_over
#print axioms fnExactBestMode_holds
end Go.Proofs.Ytmibajhilbfecaa
