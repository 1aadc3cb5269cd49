/- FnExactTrainLink: for every input the Go law returns true and leaves its arguments as they were. No condition beyond the given statement's own. -/
import Derived.Test.YtmibajhilbfecaaRows
import Derived.WalkKit
import Derived.ProofKit
import Derived.OpenShut
import Derived.ChangeOld
import Derived.Below
import Derived.Test.YtmibajhilbfecaaWalks4t
namespace Go.Proofs.Ytmibajhilbfecaa
open Go.ChangeShapes Go.WideShapes Go.ChangeAt Go.RowKit Go.Deep
set_option linter.unusedVariables false



theorem own_fnExactTrainLink : ownKnob Try.prog.godebug = none := by kernel_rfl
theorem laidOut_fnExactTrainLink : laidOutB Try.prog = true := by kernel_rfl
set_option maxRecDepth 100000 in
theorem lifted_fnExactTrainLink (os : Os) (started : os.Started) (H : Type) (enc : TypeId × Value → H) :
    ReturnsInHanded {} Try.checked os 14 .any (Rows.fnExactTrainLinkSpec.pre6 enc Try.prog Try.f14 Rows.fnExactTrainLinkRow.domain false) (Rows.fnExactTrainLinkSpec.post enc Try.prog Try.f14 false true false false) := by
  refine returnsInHanded_of_change (C := Try.checked) own_fnExactTrainLink started (by kernel_rfl) Try.func14
    (ChangeSpec.witness6 (enc := enc) (C := Try.checked) false ⟨#[], #[.agg #[.slice none 0 0, .slice none 0 0]], []⟩ 8 (by kernel_rfl) (by kernel_rfl) (by kernel_rfl) (by kernel_rfl)) ?_
  intro W base args ds gs before hval0 hW hcnd _
  have hval : ∀ (j : Nat) t v, Try.f14.params[j]? = some t → args[j]? = some v → Value.okWide Try.prog W .any base t v := hval0
  have hW' := hW
  obtain ⟨p, q, hA0, hV, rfl, hfz, hnd⟩ := hW
  have hA : DataW.TrodAll enc Try.prog W 0 (fun _ => true) true Try.f14.params.toList args.toList ds p := hA0
  rw [Try.params14] at hA hval
  obtain ⟨v0, vs0, d0, ds0, p0, q0, hargs, rfl, rfl, h0, r0⟩ := trodAll_cons hA
  obtain ⟨rfl, rfl, rfl⟩ := trodAll_nil r0
  obtain rfl : args = #[v0] := by cases args; simp_all
  obtain ⟨rfl, rfl⟩ := trodVars_none hV
  have k0 := h0
  have lt0 : ∀ x ∈ p0, x.block < W.heap.size := by obtain ⟨m, hm⟩ := k0; exact DataW.trod_lt m _ _ _ hm
  obtain ⟨cs0, rfl, hs0, hg0⟩ := open_agg Try.underlying43 (by kernel_rfl) (by kernel_rfl) (hval 0 43 v0 rfl rfl) h0
  obtain ⟨Q0, nq0, cq0, zq0, eq0, rq0, fq0, gq0, iq0⟩ := agg_RI Try.underlying24 Try.underlying3 (by kernel_rfl) (hg0 0 _ rfl)
  obtain ⟨S0, ns0, cs0', zs0, es0, rs0, fs0, gs0, is0⟩ := agg_RI Try.underlying24 Try.underlying3 (by kernel_rfl) (hg0 1 _ rfl)
  obtain rfl : cs0 = #[.slice Q0 nq0 cq0, .slice S0 ns0 cs0'] := agg_eq2 hs0 eq0 es0
  clear hA0 hval0
  refine (walk_fnExactTrainLink W Q0 nq0 cq0 zq0 rq0 fq0 gq0 iq0 S0 ns0 cs0' zs0 rs0 fs0 gs0 is0).mono fun e W' ⟨he, bel⟩ => ?_
  subst he
  exact ⟨_, rfl, _, _, _, [], _, [], hW', trodAll_mk1 (shut_bool Try.underlying4 _), (trodAll_cons_mk (Below.trod laidOut_fnExactTrainLink (by kernel_rfl) (of_decide_eq_true (by kernel_rfl)) k0 bel lt0) trodAll_mk0), rfl, bel.frame _, fun h => by cases h⟩

theorem fnExactTrainLink_over : Rows.fnExactTrainLinkRow.holds Try.pinned (OpenSpec.ofChange Rows.fnExactTrainLinkSpec) :=
  OpenClaim.holds_of_wide 14 Try.f14 rfl rfl rfl rfl rfl rfl rfl ⟨rfl, rfl, rfl, rfl, rfl⟩ rfl rfl rfl rfl rfl (by kernel_rfl) Try.func14 (by kernel_rfl)
    (of_decide_eq_true (by kernel_rfl)) (by unfold Func.isWrapper; first | (rw [if_pos (by decide +kernel)]; kernel_rfl) | (rw [if_neg (by decide +kernel)]; exact ⟨rfl, rfl⟩))
    (fun os started H enc _ => lifted_fnExactTrainLink os started H enc)

theorem fnExactTrainLink_holds : Rows.FnExactTrainLinkSaid := fnExactTrainLink_over
#print axioms fnExactTrainLink_holds
end Go.Proofs.Ytmibajhilbfecaa
