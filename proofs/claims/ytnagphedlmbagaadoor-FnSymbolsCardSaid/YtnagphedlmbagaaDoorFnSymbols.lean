/- FnSymbols, the tied card: for every input the Go law returns true and leaves its arguments and the table as they were; the table nibbleSymbols holds what the program's text lays. No condition beyond the given statement's own. -/
import Derived.Test.YtnagphedlmbagaaDoorCards
import Derived.Test.YtnagphedlmbagaaDoorTie
import Derived.WalkKit
import Derived.ProofKit
import Derived.OpenShut
import Derived.ChangeOld
import Derived.ChangeVars
import Derived.Below
import Derived.LaidMore
import Derived.Stop.Joined
import Derived.Test.YtnagphedlmbagaaDoorSymLaw
namespace Go.Proofs.YtnagphedlmbagaaDoor
open Go.ChangeShapes Go.WideShapes Go.ChangeAt Go.RowKit Go.Deep
set_option linter.unusedVariables false

theorem own_fnSymbols : ownKnob Tryd.prog.godebug = none := by kernel_rfl
theorem laidOut_fnSymbols : laidOutB Tryd.prog = true := by kernel_rfl
theorem door_fnSymbols (os : Os) (args : Array Value) : laidMetH Tryd.prog Rows.fnSymbolsRow.laid ((World.doorLaid Tryd.prog 400 os).forCall (fun _ _ => 0) ⟨#[], args, []⟩).memory :=
  laidMetH_of_parts3 (fuel := 8) (laidMet_of_run' 8 (by kernel_rfl) (by kernel_rfl)) (by kernel_rfl) (by kernel_rfl)
set_option maxRecDepth 100000 in
theorem lifted_fnSymbols (os : Os) (started : os.Started) (H : Type) (enc : TypeId × Value → H) :
    ReturnsInHanded {} Tryd.checked os 5 .any (fun w args => (Rows.fnSymbolsSpec.pre enc Tryd.prog Tryd.f5 [] false w args ∧ laidMetH Tryd.prog Rows.fnSymbolsRow.laid w) ∧ sizedMet enc Tryd.prog Tryd.f5 (OpenSpec.ofChange Rows.fnSymbolsSpec) false w args)
      (Rows.fnSymbolsSpec.post enc Tryd.prog Tryd.f5 false true false false) := by
  refine returnsInHanded_of_change_and (C := Tryd.checked) (X := fun w _ => laidMetH Tryd.prog Rows.fnSymbolsRow.laid w) (fun _ _ _ hh h => h.of_heap hh) own_fnSymbols started (by kernel_rfl) Tryd.func5
    (ChangeSpec.witness_shaped (enc := enc) (C := Tryd.checked) (os := os) (X := fun w _ => laidMetH Tryd.prog Rows.fnSymbolsRow.laid w) false (World.doorLaid Tryd.prog 400 os) #[.slice none 0 0] 8 rfl (World.shaped_of_RefB (by kernel_rfl) (by kernel_rfl)) (by kernel_rfl) (by kernel_rfl) (by kernel_rfl) (door_fnSymbols os _)) ?_
  intro W base args ds gs before hval0 hW _ _ hL _
  have hval : ∀ (j : Nat) t v, Tryd.f5.params[j]? = some t → args[j]? = some v → Value.okWide Tryd.prog W .any base t v := hval0
  have hW' := hW
  obtain ⟨p, q, hA0, hV, rfl, hfz, hnd⟩ := hW
  have hA : DataW.TrodAll enc Tryd.prog W 0 (fun _ => true) true Tryd.f5.params.toList args.toList ds p := hA0
  rw [Tryd.params5] at hA hval
  obtain ⟨v0, vs0, d0, ds0, p0, q0, hargs, rfl, rfl, h0, r0⟩ := trodAll_cons hA
  obtain ⟨rfl, rfl, rfl⟩ := trodAll_nil r0
  obtain rfl : args = #[v0] := by cases args; simp_all
  obtain ⟨gv, tv, csv, fuelv, dv, pv, rfl, hgv, htv, hvar, htrod, rfl⟩ := trodVars_one hV
  obtain rfl := Option.some.inj (gTab.symm.trans hgv)
  obtain rfl := Option.some.inj (gTabType.symm.trans htv)
  have k0 := h0
  have lt0 : ∀ x ∈ p0, x.block < W.heap.size := by obtain ⟨m, hm⟩ := k0; exact DataW.trod_lt m _ _ _ hm
  obtain ⟨A0, n0, c0, rfl⟩ := okWide_slice Tryd.underlying29 (hval 0 29 v0 rfl rfl)
  obtain ⟨z0, r0_, f0, g0, i0⟩ := open_RB Tryd.underlying29 Tryd.underlying5 (by kernel_rfl) h0
  have hT : Tab W := tab_of_laid hL
  clear hA0 hval0
  refine (walk_fnSymbols W hT A0 n0 c0 z0 r0_ f0 g0 i0).mono fun e W' ⟨he, bel⟩ => ?_
  subst he
  have hTv : DataW.Trod enc Tryd.prog W 0 (fun _ => true) true 34 (.agg csv) dv pv := ⟨fuelv, htrod⟩
  have hlv : ∀ x ∈ pv, x.block < W.heap.size := DataW.trod_lt fuelv _ _ _ htrod
  obtain ⟨fuel', htrod'⟩ := Below.trod laidOut_fnSymbols (by kernel_rfl) (of_decide_eq_true (by kernel_rfl)) hTv bel hlv
  exact ⟨_, rfl, _, _, _, [], _, _, hW', trodAll_mk1 (shut_bool Tryd.underlying4 _), (trodAll_cons_mk (Below.trod laidOut_fnSymbols (by kernel_rfl) (of_decide_eq_true (by kernel_rfl)) k0 bel lt0) trodAll_mk0), trodVars_mk1 gTab gTabType (var_below gTab hvar bel) htrod', bel.frame _, fun h => by cases h⟩

theorem fnSymbols_over : Rows.FnSymbolsSaid :=
  OpenClaim.holds_of_wide 5 Tryd.f5 rfl rfl rfl rfl rfl rfl rfl ⟨rfl, rfl, rfl, rfl, rfl⟩ rfl rfl rfl rfl rfl (by kernel_rfl) Tryd.func5 (by kernel_rfl)
    (of_decide_eq_true (by kernel_rfl)) (by unfold Func.isWrapper; first | (rw [if_pos (by decide +kernel)]; kernel_rfl) | (rw [if_neg (by decide +kernel)]; exact ⟨rfl, rfl⟩))
    (fun os started H enc _ => lifted_fnSymbols os started H enc)

theorem plain_fnSymbols (f : FuncId) (fn : Func) (hf : Tryd.pinned.checked.prog.funcNamed "loop.example/g03313/laws.FnSymbols" = some f) (hfn : Tryd.pinned.checked.prog.funcs[f]? = some fn) :
    false = Tryd.pinned.checked.prog.looks [] ∧ ∀ (j : Nat) t, fn.params[j]? = some t → Tryd.pinned.checked.prog.wantsStandIn t = false := by
  obtain rfl : f = 5 := Option.some.inj ((show Tryd.prog.funcNamed "loop.example/g03313/laws.FnSymbols" = some 5 by kernel_rfl).symm.trans hf) |>.symm
  obtain rfl : fn = Tryd.f5 := (Option.some.inj (Tryd.func5.symm.trans hfn)).symm
  refine ⟨by kernel_rfl, fun j t ht => ?_⟩
  rw [Tryd.params5] at ht
  have hm : t ∈ [29] := by simpa using Array.mem_of_getElem? ht
  have hall : ([29].all fun u => !Tryd.prog.wantsStandIn u) = true := by kernel_rfl
  exact (show Tryd.prog.wantsStandIn t = false by simpa using List.all_eq_true.1 hall t hm)

theorem fnSymbols_holds : Rows.FnSymbolsCardSaid :=
  Claim7.holds_tied_plain_at .later [] _ _ _ _ fnSymbols_over (fun _ h => by cases h) (by kernel_rfl) (fun _ h => by cases h) fnSymbols_row_tie rfl ⟨rfl, rfl⟩ (by kernel_rfl) rfl plain_fnSymbols (by kernel_rfl)
#print axioms fnSymbols_holds
end Go.Proofs.YtnagphedlmbagaaDoor
