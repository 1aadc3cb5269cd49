/- The walks of FnExactSymbolOf and FnExactNibbleOf. -/
import Derived.Test.YtabdcobameklbaaDoorTab
namespace Go.Proofs.YtabdcobameklbaaDoor
open Go.RowKit Go.Deep
theorem tab_lt {w : World} (h : Tab w) : 1 ≤ w.heap.size := by
  have hc := h.cell (show 0 < 16 by omega)
  by_cases hx : 1 ≤ w.heap.size
  · exact hx
  · have : w.heap[0]? = none := Array.getElem?_eq_none (by omega)
    simp [World.cell?, this] at hc
theorem walk_fnExactSymbolOf (w : World) (ht : Tab w) (a : Int) (_ha : I64 a) : Calls Tryd.prog 3 #[.int .i64 a] w fun e w' => e = .returned (.bool true) ∧ Below w.heap.size w w' := by
  have h1 := tab_lt ht
  go_enter Tryd.func3, Tryd.ntmps3
  go_wp2_with (first | (go_at_call 5; refine (symbolOf_s _ _).mono ?_; rintro e w1 ⟨rfl, hb1⟩) | (go_at_call 6; refine (symbolOf_i _ _ (ht.below hb1 h1)).mono ?_; rintro e w' ⟨rfl, rfl⟩))
  go_ret
  exact ⟨rfl, hb1⟩
theorem walk_fnExactNibbleOf (w : World) (ht : Tab w) (a : Int) (_ha : I64 a) : Calls Tryd.prog 4 #[.int .i64 a] w fun e w' => e = .returned (.bool true) ∧ Below w.heap.size w w' := by
  have h1 := tab_lt ht
  go_enter Tryd.func4, Tryd.ntmps4
  go_wp2_with (first | (go_at_call 7; refine (nibbleOf_s _ _).mono ?_; rintro e w1 ⟨rfl, hb1⟩) | (go_at_call 8; refine (nibbleOf_i _ _ (ht.below hb1 h1)).mono ?_; rintro e w' ⟨rfl, rfl⟩))
  go_ret
  exact ⟨rfl, hb1⟩
end Go.Proofs.YtabdcobameklbaaDoor
