/- The table nibbleSymbols: SymbolOf and NibbleOf of the program (which reads the package-level variable) and of the reference. -/
import Derived.Test.YtkmbblooofmnpaaSl
import Derived.Lib.LaidTab
namespace Go.Proofs.Ytkmbblooofmnpaa
open Go.RowKit Go.Deep

def tabL : List Int := [30, 9, 20, 21, 10, 11, 14, 15, 18, 19, 22, 23, 26, 27, 28, 29]
/-- The variable's block (the first of all) holds the table. -/
def Tab (w : World) : Prop := RI w 1 (some ⟨0, 0, none⟩) 16 tabL
theorem Tab.below {w w' : World} {B : Nat} (h : Tab w) (hb : Below B w w') (hB : 1 ≤ B) : Tab w' := RI.below h hb hB
theorem Tab.cell {w : World} (h : Tab w) {i : Nat} (hi : i < 16) : w.cell? ⟨0, i, none⟩ = some (.int .i64 (zat tabL i)) := by
  obtain ⟨b, off, e, _, hc⟩ := RI.at_ h hi
  simp only [Option.some.injEq, Addr.mk.injEq, and_true] at e
  obtain ⟨rfl, rfl⟩ := e
  simpa using hc
theorem var_below {P : Program} {W W' : World} {n : String} {g : Nat} {cs : Array Value} (hg : P.globalNamed n = some g) (h : W.var? P n = some cs) (hb : Below W.heap.size W W') : W'.var? P n = some cs := by
  simp only [World.var?, hg, Option.bind_some] at h ⊢
  have hlt : g < W.heap.size := by
    by_cases hx : g < W.heap.size
    · exact hx
    · rw [Array.getElem?_eq_none (by omega)] at h; simp at h
  rw [hb.block g hlt]; exact h
def symF (n : Int) : Int := if inB n 0 15 then zat tabL n.toNat else -1
def nibF (s : Int) : Int := findI s tabL
theorem own_tab (w : World) : Own (w.alloc (.cells #[.int .i64 30, .int .i64 9, .int .i64 20, .int .i64 21, .int .i64 10, .int .i64 11, .int .i64 14, .int .i64 15, .int .i64 18, .int .i64 19, .int .i64 22, .int .i64 23, .int .i64 26, .int .i64 27, .int .i64 28, .int .i64 29] 3)) w.heap.size (w.heap.size + 1) (some ⟨w.heap.size, 0, none⟩) 16 16 tabL :=
  OwnV.new w 3 #[.int .i64 30, .int .i64 9, .int .i64 20, .int .i64 21, .int .i64 10, .int .i64 11, .int .i64 14, .int .i64 15, .int .i64 18, .int .i64 19, .int .i64 22, .int .i64 23, .int .i64 26, .int .i64 27, .int .i64 28, .int .i64 29] (by simp [maxLen])
theorem l29Table_any (w : World) : Calls Try.prog 89 #[] w (RetOwn w tabL) := by
  have HO := own_tab w
  go_enter Try.func89, Try.ntmps89
  go_wp2
  go_ret
  exact ⟨_, _, _, rfl, HO.top, (Below.refl _ _).alloc (Nat.le_refl _) _⟩
theorem symbolOf_s (n : Int) (w : World) :
    Calls Try.prog 71 #[.int .i64 n] w fun e w' => e = .returned (.int .i64 (symF n)) ∧ Below w.heap.size w w' := by
  cases h : inB n 0 15
  · go_enter Try.func71, Try.ntmps71
    go_wp2_with (go_at_call 58; refine (l01In_any _ _ _ _).mono ?_; rintro e w' ⟨rfl, rfl⟩)
    go_ret
    exact ⟨by simp [symF, h], Below.refl _ _⟩
  · have hx := inB_t.1 h
    obtain ⟨k, rfl⟩ := Int.eq_ofNat_of_zero_le (show 0 ≤ n by omega)
    have hk1 : (0 : Int) ≤ (k : Int) := by omega
    have hk2 : (k : Int) < 16 := by omega
    have HS := Lib.hid (show symF (k : Int) = zat tabL k by simp [symF, h])
    go_enter Try.func71, Try.ntmps71
    go_wp2_with (first | (go_at_call 58; refine (l01In_any _ _ _ _).mono ?_; rintro e w' ⟨rfl, rfl⟩) | (go_at_call 89; refine (l29Table_any _).mono ?_; rintro e w1 ⟨A1, n1, c1, rfl, ho1, hb1⟩; obtain rfl : n1 = 16 := ho1.len.symm; obtain ⟨g, rfl, _, _, hc, _⟩ := ho1.cell (show k < 16 by omega)))
    go_ret
    exact ⟨ret_int HS.out.symm, hb1⟩
end Go.Proofs.Ytkmbblooofmnpaa
