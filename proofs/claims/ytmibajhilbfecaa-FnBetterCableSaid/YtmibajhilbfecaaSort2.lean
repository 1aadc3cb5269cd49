/- The comparison of links, and insertionSort over a row of links. -/
import Derived.Test.YtmibajhilbfecaaSort
import Derived.Test.YtmibajhilbfecaaMode
import Derived.Test.YtmibajhilbfecaaApp3
namespace Go.Proofs.Ytmibajhilbfecaa
open Go.RowKit Go.Deep
def cmpF (x y : Int) : Int := if x < y then -1 else if y < x then 1 else 0
def orF (a b c : Int) : Int := if a ≠ 0 then a else if b ≠ 0 then b else c
def capK (a : LK) : Int := capOf a.ln a.rt a.dr
def cmpK (a b : LK) : Int := orF (cmpF (capK b) (capK a)) (cmpF b.ln a.ln) (cmpF a.dr b.dr)
theorem isNaN_any (x : Int) (w : World) : Calls Try.prog 96 #[.int .i64 x] w fun e w' => e = .returned (.bool false) ∧ w = w' := by
  go_enter Try.func96, Try.ntmps96
  go_wp2
  go_ret
  exact ⟨ret_bool (by simp), rfl⟩
theorem compare_any (x y : Int) (w : World) : Calls Try.prog 86 #[.int .i64 x, .int .i64 y] w fun e w' => e = .returned (.int .i64 (cmpF x y)) ∧ w = w' := by
  by_cases h1 : x < y
  · have HF : Hid (cmpF x y = -1) := Lib.hid (by simp [cmpF, h1])
    go_enter Try.func86, Try.ntmps86
    go_wp2_with (go_at_call 96; refine (isNaN_any _ _).mono ?_; rintro e w' ⟨rfl, rfl⟩)
    go_ret
    exact ⟨ret_int HF.out.symm, rfl⟩
  · by_cases h2 : y < x
    · have HF : Hid (cmpF x y = 1) := Lib.hid (by simp [cmpF, h1, h2])
      go_enter Try.func86, Try.ntmps86
      go_wp2_with (go_at_call 96; refine (isNaN_any _ _).mono ?_; rintro e w' ⟨rfl, rfl⟩)
      go_ret
      exact ⟨ret_int HF.out.symm, rfl⟩
    · have HF : Hid (cmpF x y = 0) := Lib.hid (by simp [cmpF, h1, h2])
      go_enter Try.func86, Try.ntmps86
      go_wp2_with (go_at_call 96; refine (isNaN_any _ _).mono ?_; rintro e w' ⟨rfl, rfl⟩)
      go_ret
      exact ⟨ret_int HF.out.symm, rfl⟩
theorem or_any (g : Nat) (a b c : Int) (w : World) (h0 : w.cell? ⟨g, 0, none⟩ = some (.int .i64 a)) (h1 : w.cell? ⟨g, 1, none⟩ = some (.int .i64 b)) (h2 : w.cell? ⟨g, 2, none⟩ = some (.int .i64 c)) :
    Calls Try.prog 85 #[.slice (some ⟨g, 0, none⟩) 3 3] w fun e w' => e = .returned (.int .i64 (orF a b c)) ∧ w = w' := by
  by_cases ha : a = 0
  · have ha' : (a == 0) = true := by simp [ha]
    by_cases hb : b = 0
    · have hb' : (b == 0) = true := by simp [hb]
      have HF : Hid (orF a b c = c) := Lib.hid (by simp [orF, ha, hb])
      by_cases hc : c = 0
      · subst ha hb hc
        go_enter Try.func85, Try.ntmps85
        go_wp2
        refine wp_loop_rounds 4 ?_
        iterate 4 (rw [rounds_succ]; go_wp2)
        go_ret
        exact ⟨ret_int HF.out.symm, rfl⟩
      · have hc' : (c == 0) = false := by simp [hc]
        subst ha hb
        go_enter Try.func85, Try.ntmps85
        go_wp2
        refine wp_loop_rounds 3 ?_
        iterate 3 (rw [rounds_succ]; go_wp2)
        go_ret
        exact ⟨ret_int HF.out.symm, rfl⟩
    · have hb' : (b == 0) = false := by simp [hb]
      have HF : Hid (orF a b c = b) := Lib.hid (by simp [orF, ha, hb])
      subst ha
      go_enter Try.func85, Try.ntmps85
      go_wp2
      refine wp_loop_rounds 2 ?_
      iterate 2 (rw [rounds_succ]; go_wp2)
      go_ret
      exact ⟨ret_int HF.out.symm, rfl⟩
  · have ha' : (a == 0) = false := by simp [ha]
    have HF : Hid (orF a b c = a) := Lib.hid (by simp [orF, ha])
    go_enter Try.func85, Try.ntmps85
    go_wp2
    refine wp_loop_rounds 1 ?_
    rw [rounds_succ]
    go_wp2
    go_ret
    exact ⟨ret_int HF.out.symm, rfl⟩
theorem startLL (w w2 : World) (a b : LK) (S T : TypeId) (hw : w2 = ((w.alloc (.cells #[.int .i64 a.ln, .int .i64 a.rt, .int .i64 a.dr] S)).alloc (.cells #[.int .i64 b.ln, .int .i64 b.rt, .int .i64 b.dr] T)).drew) :
    (w2.cell? ⟨w.heap.size, 0, none⟩ = some (.int .i64 a.ln) ∧ w2.cell? ⟨w.heap.size, 1, none⟩ = some (.int .i64 a.rt) ∧ w2.cell? ⟨w.heap.size, 2, none⟩ = some (.int .i64 a.dr)) ∧ (w2.cell? ⟨w.heap.size + 1, 0, none⟩ = some (.int .i64 b.ln) ∧ w2.cell? ⟨w.heap.size + 1, 1, none⟩ = some (.int .i64 b.rt) ∧ w2.cell? ⟨w.heap.size + 1, 2, none⟩ = some (.int .i64 b.dr)) ∧ Below w.heap.size w w2 ∧ w.heap.size + 1 < w2.heap.size := by
  subst hw
  refine ⟨⟨?_, ?_, ?_⟩, ⟨?_, ?_, ?_⟩, (((Below.refl _ _).alloc (Nat.le_refl _) _).alloc (by simp) _).drew, by simp⟩
  all_goals simp
theorem keepLL {B g : Nat} {w w' w1 : World} {a b : LK} (hb : Below w'.heap.size w' w1) (hB : B ≤ g)
    (h : (w'.cell? ⟨g, 0, none⟩ = some (.int .i64 a.ln) ∧ w'.cell? ⟨g, 1, none⟩ = some (.int .i64 a.rt) ∧ w'.cell? ⟨g, 2, none⟩ = some (.int .i64 a.dr)) ∧ (w'.cell? ⟨g + 1, 0, none⟩ = some (.int .i64 b.ln) ∧ w'.cell? ⟨g + 1, 1, none⟩ = some (.int .i64 b.rt) ∧ w'.cell? ⟨g + 1, 2, none⟩ = some (.int .i64 b.dr)) ∧ Below B w w' ∧ g + 1 < w'.heap.size) :
    (w1.cell? ⟨g, 0, none⟩ = some (.int .i64 a.ln) ∧ w1.cell? ⟨g, 1, none⟩ = some (.int .i64 a.rt) ∧ w1.cell? ⟨g, 2, none⟩ = some (.int .i64 a.dr)) ∧ (w1.cell? ⟨g + 1, 0, none⟩ = some (.int .i64 b.ln) ∧ w1.cell? ⟨g + 1, 1, none⟩ = some (.int .i64 b.rt) ∧ w1.cell? ⟨g + 1, 2, none⟩ = some (.int .i64 b.dr)) ∧ Below B w w1 ∧ g + 1 < w1.heap.size := by
  obtain ⟨⟨x1, x2, x3⟩, ⟨y1, y2, y3⟩, z1, z2⟩ := h
  have hc := (bcell hb).1
  have hs := hb.size
  refine ⟨⟨?_, ?_, ?_⟩, ⟨?_, ?_, ?_⟩, z1.trans (hb.mono (by omega)), by omega⟩
  all_goals (rw [hc _ _ (by omega)]; assumption)
set_option maxHeartbeats 1000000 in
theorem cmpK_any (a b : LK) (w : World) :
    Calls Try.prog 84 #[.agg #[.int .i64 a.ln, .int .i64 a.rt, .int .i64 a.dr], .agg #[.int .i64 b.ln, .int .i64 b.rt, .int .i64 b.dr]] w fun e w' => e = .returned (.int .i64 (cmpK a b)) ∧ Below w.heap.size w w' := by
  go_enter Try.func84, Try.ntmps84
  go_wp2_with fail
  go_region_held3 (fun w' => (w'.cell? ⟨w.heap.size, 0, none⟩ = some (.int .i64 a.ln) ∧ w'.cell? ⟨w.heap.size, 1, none⟩ = some (.int .i64 a.rt) ∧ w'.cell? ⟨w.heap.size, 2, none⟩ = some (.int .i64 a.dr)) ∧ (w'.cell? ⟨w.heap.size + 1, 0, none⟩ = some (.int .i64 b.ln) ∧ w'.cell? ⟨w.heap.size + 1, 1, none⟩ = some (.int .i64 b.rt) ∧ w'.cell? ⟨w.heap.size + 1, 2, none⟩ = some (.int .i64 b.dr)) ∧ Below w.heap.size w w' ∧ w.heap.size + 1 < w'.heap.size)
    (first | assumption | exact startLL w _ a b _ _ rfl | exact keepLL ‹_› (Nat.le_refl _) ‹_ ∧ _› | exact keepLL ((Below.refl _ _).alloc (Nat.le_refl _) _) (Nat.le_refl _) ‹_ ∧ _›)
    (first | (go_at_call 20; refine (capacity_i _ _ _ _).mono ?_; rintro e w2 ⟨rfl, hb2⟩) | (go_at_call 86; refine (compare_any _ _ _).mono ?_; rintro e w' ⟨rfl, rfl⟩) | (go_at_call 85; refine (or_any _ (cmpF (capOf b.ln b.rt b.dr) (capOf a.ln a.rt a.dr)) (cmpF b.ln a.ln) (cmpF a.dr b.dr) _ (by simp) (by simp) (by simp)).mono ?_; rintro e w' ⟨rfl, rfl⟩))
  rename_i HL
  obtain ⟨_, _, K, _⟩ := HL
  go_wp2
  go_ret
  exact ⟨rfl, K⟩
end Go.Proofs.Ytmibajhilbfecaa
