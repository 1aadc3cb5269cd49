/- The table nibbleSymbols: SymbolOf and NibbleOf of the program (which reads the package-level variable) and of the reference. -/
import Derived.Test.YtnagphedlmbagaaDoorSl
import Derived.Lib.LaidTab
namespace Go.Proofs.YtnagphedlmbagaaDoor
open Go.RowKit Go.Deep

def tabL : List Int := [30, 9, 20, 21, 10, 11, 14, 15, 18, 19, 22, 23, 26, 27, 28, 29]
/-- The variable's block (the first of all) holds the table. -/
def Tab (w : World) : Prop := RI w 1 (some ⟨0, 0, none⟩) 16 tabL
theorem Tab.below {w w' : World} {B : Nat} (h : Tab w) (hb : Below B w w') (hB : 1 ≤ B) : Tab w' := RI.below h hb hB
theorem Tab.cell {w : World} (h : Tab w) {i : Nat} (hi : i < 16) : w.cell? ⟨0, i, none⟩ = some (.int .i64 (zat tabL i)) := by
  obtain ⟨b, off, e, _, hc⟩ := RI.at_ h hi
  simp only [Option.some.injEq, Addr.mk.injEq, and_true] at e
  obtain ⟨rfl, rfl⟩ := e
  simpa using hc
theorem gTab : Tryd.prog.globalNamed "loop.example/g03313/impl.nibbleSymbols" = some 0 := by kernel_rfl
theorem gTabType : (Tryd.prog.globals[0]?).map (·.type) = some 34 := by kernel_rfl
theorem cellsTab : Tryd.prog.cellsOf 34 = 16 := by kernel_rfl
theorem cellsTabInt : Tryd.prog.cellsOf 3 = 1 := by kernel_rfl
/-- From the row's list to the table's cells. -/
theorem tab_of_laid {W : World} (h : laidMet Tryd.prog [("loop.example/g03313/impl.nibbleSymbols", Rows.laid_loop_example_g03313_impl_nibbleSymbols)] W) : Tab W := by
  have hT : Lib.TabIs Tryd.prog W "loop.example/g03313/impl.nibbleSymbols" .i64 tabL := Lib.tabIs_of_head (rest := []) gTab gTabType Tryd.underlying34 Tryd.underlying3 cellsTabInt cellsTab h
  refine ⟨rfl, fun _ => ⟨0, 0, rfl, by omega, fun j u hu => ?_⟩⟩
  have hj : j < tabL.length := by have := (List.getElem?_eq_some_iff.1 hu).1; simpa using this
  have hc := hT.cell gTab j hj
  rw [Nat.zero_add, hc]
  rw [List.getElem?_map, List.getElem?_eq_getElem hj] at hu
  simp only [Option.map_some, Option.some.injEq] at hu
  rw [← hu]
  simp [vInt, hj]
theorem var_below {P : Program} {W W' : World} {n : String} {g : Nat} {cs : Array Value} (hg : P.globalNamed n = some g) (h : W.var? P n = some cs) (hb : Below W.heap.size W W') : W'.var? P n = some cs := by
  simp only [World.var?, hg, Option.bind_some] at h ⊢
  have hlt : g < W.heap.size := by
    by_cases hx : g < W.heap.size
    · exact hx
    · rw [Array.getElem?_eq_none (by omega)] at h; simp at h
  rw [hb.block g hlt]; exact h
def symF (n : Int) : Int := if inB n 0 15 then zat tabL n.toNat else -1
def nibF (s : Int) : Int := findI s tabL
theorem own_tab (w : World) : Own (w.alloc (.cells #[.int .i64 30, .int .i64 9, .int .i64 20, .int .i64 21, .int .i64 10, .int .i64 11, .int .i64 14, .int .i64 15, .int .i64 18, .int .i64 19, .int .i64 22, .int .i64 23, .int .i64 26, .int .i64 27, .int .i64 28, .int .i64 29] 3)) w.heap.size (w.heap.size + 1) (some ⟨w.heap.size, 0, none⟩) 16 16 tabL :=
  OwnV.new w 3 #[.int .i64 30, .int .i64 9, .int .i64 20, .int .i64 21, .int .i64 10, .int .i64 11, .int .i64 14, .int .i64 15, .int .i64 18, .int .i64 19, .int .i64 22, .int .i64 23, .int .i64 26, .int .i64 27, .int .i64 28, .int .i64 29] (by simp [maxLen])
theorem l29Table_any (w : World) : Calls Tryd.prog 28 #[] w (RetOwn w tabL) := by
  have HO := own_tab w
  go_enter Tryd.func28, Tryd.ntmps28
  go_wp2
  go_ret
  exact ⟨_, _, _, rfl, HO.top, (Below.refl _ _).alloc (Nat.le_refl _) _⟩
theorem symbolOf_s (n : Int) (w : World) :
    Calls Tryd.prog 21 #[.int .i64 n] w fun e w' => e = .returned (.int .i64 (symF n)) ∧ Below w.heap.size w w' := by
  cases h : inB n 0 15
  · go_enter Tryd.func21, Tryd.ntmps21
    go_wp2_with (go_at_call 27; refine (l01In_any _ _ _ _).mono ?_; rintro e w' ⟨rfl, rfl⟩)
    go_ret
    exact ⟨by simp [symF, h], Below.refl _ _⟩
  · have hx := inB_t.1 h
    obtain ⟨k, rfl⟩ := Int.eq_ofNat_of_zero_le (show 0 ≤ n by omega)
    have hk1 : (0 : Int) ≤ (k : Int) := by omega
    have hk2 : (k : Int) < 16 := by omega
    have HS := Lib.hid (show symF (k : Int) = zat tabL k by simp [symF, h])
    go_enter Tryd.func21, Tryd.ntmps21
    go_wp2_with (first | (go_at_call 27; refine (l01In_any _ _ _ _).mono ?_; rintro e w' ⟨rfl, rfl⟩) | (go_at_call 28; refine (l29Table_any _).mono ?_; rintro e w1 ⟨A1, n1, c1, rfl, ho1, hb1⟩; obtain rfl : n1 = 16 := ho1.len.symm; obtain ⟨g, rfl, _, _, hc, _⟩ := ho1.cell (show k < 16 by omega)))
    go_ret
    exact ⟨ret_int HS.out.symm, hb1⟩
theorem run_tab (W : World) (k : Nat) (hk : k < 16) : (Instr.index 34 (.agg #[.int .i64 30, .int .i64 9, .int .i64 20, .int .i64 21, .int .i64 10, .int .i64 11, .int .i64 14, .int .i64 15, .int .i64 18, .int .i64 19, .int .i64 22, .int .i64 23, .int .i64 26, .int .i64 27, .int .i64 28, .int .i64 29]) (.int .i64 (k : Int))).run Tryd.prog W = .ok (.int .i64 (zat tabL k)) W := by
  obtain rfl | rfl | rfl | rfl | rfl | rfl | rfl | rfl | rfl | rfl | rfl | rfl | rfl | rfl | rfl | rfl : k = 0 ∨ k = 1 ∨ k = 2 ∨ k = 3 ∨ k = 4 ∨ k = 5 ∨ k = 6 ∨ k = 7 ∨ k = 8 ∨ k = 9 ∨ k = 10 ∨ k = 11 ∨ k = 12 ∨ k = 13 ∨ k = 14 ∨ k = 15 := by omega
  all_goals kernel_rfl
set_option maxHeartbeats 1000000 in
theorem nibbleOf_i (s : Int) (w : World) (ht : Tab w) :
    Calls Tryd.prog 17 #[.int .i64 s] w fun e w' => e = .returned (.int .i64 (nibF s)) ∧ w = w' := by
  have c0 : w.cell? ⟨0, 0, none⟩ = some (.int .i64 30) := ht.cell (show 0 < 16 by omega)
  have c1 : w.cell? ⟨0, 1, none⟩ = some (.int .i64 9) := ht.cell (show 1 < 16 by omega)
  have c2 : w.cell? ⟨0, 2, none⟩ = some (.int .i64 20) := ht.cell (show 2 < 16 by omega)
  have c3 : w.cell? ⟨0, 3, none⟩ = some (.int .i64 21) := ht.cell (show 3 < 16 by omega)
  have c4 : w.cell? ⟨0, 4, none⟩ = some (.int .i64 10) := ht.cell (show 4 < 16 by omega)
  have c5 : w.cell? ⟨0, 5, none⟩ = some (.int .i64 11) := ht.cell (show 5 < 16 by omega)
  have c6 : w.cell? ⟨0, 6, none⟩ = some (.int .i64 14) := ht.cell (show 6 < 16 by omega)
  have c7 : w.cell? ⟨0, 7, none⟩ = some (.int .i64 15) := ht.cell (show 7 < 16 by omega)
  have c8 : w.cell? ⟨0, 8, none⟩ = some (.int .i64 18) := ht.cell (show 8 < 16 by omega)
  have c9 : w.cell? ⟨0, 9, none⟩ = some (.int .i64 19) := ht.cell (show 9 < 16 by omega)
  have c10 : w.cell? ⟨0, 10, none⟩ = some (.int .i64 22) := ht.cell (show 10 < 16 by omega)
  have c11 : w.cell? ⟨0, 11, none⟩ = some (.int .i64 23) := ht.cell (show 11 < 16 by omega)
  have c12 : w.cell? ⟨0, 12, none⟩ = some (.int .i64 26) := ht.cell (show 12 < 16 by omega)
  have c13 : w.cell? ⟨0, 13, none⟩ = some (.int .i64 27) := ht.cell (show 13 < 16 by omega)
  have c14 : w.cell? ⟨0, 14, none⟩ = some (.int .i64 28) := ht.cell (show 14 < 16 by omega)
  have c15 : w.cell? ⟨0, 15, none⟩ = some (.int .i64 29) := ht.cell (show 15 < 16 by omega)
  clear ht
  go_enter Tryd.func17, Tryd.ntmps17
  go_wp2
  clear c0 c1 c2 c3 c4 c5 c6 c7 c8 c9 c10 c11 c12 c13 c14 c15
  go_loop [6] (fun i => ∃ k : Nat, k ≤ 16 ∧ i = .int .i64 k ∧ Hid (∀ j, j < k → zat tabL j ≠ s)) (fun i => 16 - (intOf i).toNat)
  case atStart => exact ⟨0, Nat.zero_le _, rfl, Lib.hid (fun j hj => absurd hj (by omega))⟩
  case round =>
    obtain ⟨k, hk, rfl, hne⟩ := hrel
    by_cases hlt : k < 16
    · have hidx := run_tab w k hlt
      by_cases he : zat tabL k = s
      · have HF := Lib.hid (findI_some (zs := tabL) (i := k) (by exact hlt) he hne.out)
        have hv : (zat tabL k == s) = true := by simp [he]
        clear he
        go_wp2
        go_ret
        exact ⟨ret_int HF.out.symm, rfl⟩
      · have HS := Lib.hid (ne_step hne.out he)
        have hv : (zat tabL k == s) = false := by simp [he]
        clear he
        go_wp2
        go_round
        case rel => exact ⟨k + 1, by omega, by go_num, HS⟩
        case measure => simp [intOf]; omega
    · obtain rfl : k = 16 := by omega
      have HF := Lib.hid (findI_none (zs := tabL) (v := s) hne.out)
      go_wp2
      go_ret
      exact ⟨ret_int HF.out.symm, rfl⟩
theorem nibbleOf_s (s : Int) (w : World) :
    Calls Tryd.prog 23 #[.int .i64 s] w fun e w' => e = .returned (.int .i64 (nibF s)) ∧ Below w.heap.size w w' := by
  go_enter Tryd.func23, Tryd.ntmps23
  go_wp2_with (go_at_call 28; refine (l29Table_any _).mono ?_; rintro e w1 ⟨A1, n1, c1, rfl, ho1, hb1⟩; obtain rfl : n1 = 16 := ho1.len.symm)
  have hr := ho1.ri
  go_loopw [4] (fun i wr => ∃ k : Nat, k ≤ 16 ∧ i = .int .i64 k ∧ Hid (∀ j, j < k → zat tabL j ≠ s) ∧ wr = w1) (fun i _ => 16 - (intOf i).toNat)
  case atStart => exact ⟨0, Nat.zero_le _, rfl, Lib.hid (fun j hj => absurd hj (by omega)), rfl⟩
  case round =>
    obtain ⟨k, hk, rfl, hne, rfl⟩ := hrel
    by_cases hlt : k < 16
    · obtain ⟨b, off, rfl, hb, hc⟩ := hr.at_ hlt
      have hi1 : (0 : Int) ≤ (k : Int) := by omega
      have hi2 : (k : Int) < 16 := by omega
      by_cases he : zat tabL k = s
      · have HF := Lib.hid (findI_some (zs := tabL) (i := k) (by exact hlt) he hne.out)
        have hv : (zat tabL k == s) = true := by simp [he]
        clear he
        go_wp2
        go_ret
        exact ⟨ret_int HF.out.symm, hb1⟩
      · have HS := Lib.hid (ne_step hne.out he)
        have hv : (zat tabL k == s) = false := by simp [he]
        clear he
        go_wp2
        go_roundw
        case rel => exact ⟨k + 1, by omega, by go_num, HS, trivial⟩
        case measure => simp [intOf]; omega
    · obtain rfl : k = 16 := by omega
      have HF := Lib.hid (findI_none (zs := tabL) (v := s) hne.out)
      go_wp2
      go_ret
      exact ⟨ret_int HF.out.symm, hb1⟩
end Go.Proofs.YtnagphedlmbagaaDoor
