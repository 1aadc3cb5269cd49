/- A row of links in memory, and slices.SortStableFunc's parts over it: each does what its mirror on lists does. -/
import Derived.Test.YtmibajhilbfecaaSl
import Derived.Test.YtmibajhilbfecaaBase2
import Derived.Test.YtmibajhilbfecaaNum3
import Derived.Deep.RegionHeld3
import Derived.Deep.RegionWith
namespace Go.Proofs.Ytmibajhilbfecaa
open Go.RowKit Go.Deep
structure LK where
  ln : Int
  rt : Int
  dr : Int
  deriving DecidableEq, Inhabited
/-- Block g holds the links L, three cells each, none of it frozen. -/
def Row (w : World) (g : Nat) (L : List LK) : Prop :=
  ∃ cur : Array Value, w.heap[g]? = some (.cells cur 29 (0, 0)) ∧ ∀ i l, L[i]? = some l → cur[i * 3]? = some (.int .i64 l.ln) ∧ cur[i * 3 + 1]? = some (.int .i64 l.rt) ∧ cur[i * 3 + 2]? = some (.int .i64 l.dr)
def lat (L : List LK) (i : Nat) : LK := L.getD i ⟨0, 0, 0⟩
theorem lat_some {L : List LK} {i : Nat} (h : i < L.length) : L[i]? = some (lat L i) := by
  unfold lat; rw [List.getD_eq_getElem?_getD, List.getElem?_eq_getElem h]; rfl
theorem Row.cell {w : World} {g : Nat} {L : List LK} (h : Row w g L) {i : Nat} (hi : i < L.length) :
    w.cell? ⟨g, i * 3, none⟩ = some (.int .i64 (lat L i).ln) ∧ w.cell? ⟨g, i * 3 + 1, none⟩ = some (.int .i64 (lat L i).rt) ∧ w.cell? ⟨g, i * 3 + 2, none⟩ = some (.int .i64 (lat L i).dr) := by
  obtain ⟨cur, hg, hc⟩ := h
  obtain ⟨h1, h2, h3⟩ := hc i _ (lat_some hi)
  exact ⟨(cell_in hg _).trans h1, (cell_in hg _).trans h2, (cell_in hg _).trans h3⟩
theorem Row.unfrozen {w : World} {g : Nat} {L : List LK} (h : Row w g L) (j : Nat) : w.frozen? ⟨g, j, none⟩ = false := by
  obtain ⟨cur, hg, _⟩ := h
  simp [World.frozen?, hg]
theorem Row.lt {w : World} {g : Nat} {L : List LK} (h : Row w g L) : g < w.heap.size := by
  obtain ⟨cur, hg, _⟩ := h
  exact heap_lt hg
theorem Row.off {w w' : World} {g lo hi : Nat} {L : List LK} (h : Row w g L) (ho : Off lo hi w w') (hd : g < lo ∨ hi ≤ g) : Row w' g L := by
  obtain ⟨cur, hg, hc⟩ := h
  exact ⟨cur, (ho.block g (heap_lt hg) hd).trans hg, hc⟩
theorem Row.below {w w' : World} {g B : Nat} {L : List LK} (h : Row w g L) (hb : Below B w w') (hB : g < B) : Row w' g L := by
  obtain ⟨cur, hg, hc⟩ := h
  exact ⟨cur, (hb.block g hB).trans hg, hc⟩
theorem Row.drewN {w : World} {g : Nat} {L : List LK} (h : Row w g L) (q : Nat) : Row (w.drewN q) g L := h
theorem Row.drew {w : World} {g : Nat} {L : List LK} (h : Row w g L) : Row w.drew g L := h
theorem Row.set {w : World} {g : Nat} {L : List LK} (h : Row w g L) {i : Nat} (hi : i < L.length) (a : LK) :
    Row (((w.setCell ⟨g, i * 3, none⟩ (.int .i64 a.ln)).setCell ⟨g, i * 3 + 1, none⟩ (.int .i64 a.rt)).setCell ⟨g, i * 3 + 2, none⟩ (.int .i64 a.dr)) g (L.set i a) := by
  obtain ⟨cur, hg, hc⟩ := h
  have h1 := heap_setCell_same (j := i * 3) hg (.int .i64 a.ln)
  have h2 := heap_setCell_same (j := i * 3 + 1) h1 (.int .i64 a.rt)
  have h3 := heap_setCell_same (j := i * 3 + 2) h2 (.int .i64 a.dr)
  refine ⟨_, h3, fun j l hj => ?_⟩
  obtain ⟨c1, c2, c3⟩ := hc i _ (lat_some hi)
  have b1 : i * 3 < cur.size := (Array.getElem?_eq_some_iff.1 c1).1
  have b2 : i * 3 + 1 < cur.size := (Array.getElem?_eq_some_iff.1 c2).1
  have b3 : i * 3 + 2 < cur.size := (Array.getElem?_eq_some_iff.1 c3).1
  by_cases hij : i = j
  · subst hij
    rw [List.getElem?_set_self hi] at hj
    cases hj
    simp [b1, b2, b3]
  · rw [List.getElem?_set_ne hij] at hj
    obtain ⟨d1, d2, d3⟩ := hc j l hj
    refine ⟨?_, ?_, ?_⟩
    · rw [Array.getElem?_setIfInBounds_ne (by omega), Array.getElem?_setIfInBounds_ne (by omega), Array.getElem?_setIfInBounds_ne (by omega)]; exact d1
    · rw [Array.getElem?_setIfInBounds_ne (by omega), Array.getElem?_setIfInBounds_ne (by omega), Array.getElem?_setIfInBounds_ne (by omega)]; exact d2
    · rw [Array.getElem?_setIfInBounds_ne (by omega), Array.getElem?_setIfInBounds_ne (by omega), Array.getElem?_setIfInBounds_ne (by omega)]; exact d3
def swap2 (L : List LK) (i j : Nat) : List LK := (L.set i (lat L j)).set j (lat L i)
theorem swap2_len (L : List LK) (i j : Nat) : (swap2 L i j).length = L.length := by simp [swap2]
/-- What a swap of two elements leaves in memory, as the walk spells it. -/
def swW (w : World) (g i j : Nat) (a b : LK) : World :=
  ((((((w.setCell ⟨g, i * 3, none⟩ (.int .i64 b.ln)).setCell ⟨g, i * 3 + 1, none⟩ (.int .i64 b.rt)).setCell ⟨g, i * 3 + 2, none⟩ (.int .i64 b.dr)).setCell ⟨g, j * 3, none⟩ (.int .i64 a.ln)).setCell ⟨g, j * 3 + 1, none⟩ (.int .i64 a.rt)).setCell ⟨g, j * 3 + 2, none⟩ (.int .i64 a.dr)).drew
theorem Row.swW {w : World} {g : Nat} {L : List LK} (h : Row w g L) {i j : Nat} (hi : i < L.length) (hj : j < L.length) : Row (swW w g i j (lat L i) (lat L j)) g (swap2 L i j) :=
  ((h.set hi (lat L j)).set (i := j) (by simpa using hj) (lat L i)).drew
theorem Off.swW {w0 w : World} {g : Nat} (h : Off g (g + 1) w0 w) (i j : Nat) (a b : LK) : Off g (g + 1) w0 (swW w g i j a b) :=
  ((((((h.setCell (Nat.le_refl _) (Nat.lt_succ_self _) _).setCell (Nat.le_refl _) (Nat.lt_succ_self _) _).setCell (Nat.le_refl _) (Nat.lt_succ_self _) _).setCell (Nat.le_refl _) (Nat.lt_succ_self _) _).setCell (Nat.le_refl _) (Nat.lt_succ_self _) _).setCell (Nat.le_refl _) (Nat.lt_succ_self _) _).drew
/-- The mirror of swapRange: n swaps. -/
def swr (L : List LK) (a b : Nat) : Nat → List LK
  | 0 => L
  | n + 1 => swap2 (swr L a b n) (a + n) (b + n)
theorem swr_len (L : List LK) (a b : Nat) : ∀ n, (swr L a b n).length = L.length
  | 0 => rfl
  | n + 1 => by rw [swr, swap2_len, swr_len L a b n]
set_option maxHeartbeats 1000000 in
theorem swapRange_any (g c a b n : Nat) (F : Value) (L : List LK) (w : World) (h : Row w g L) (h1 : a + n ≤ L.length) (h2 : b + n ≤ L.length) (hL : L.length ≤ 1000) (hab : a ≠ b) :
    Calls Try.prog 101 #[.slice (some ⟨g, 0, none⟩) L.length c, .int .i64 a, .int .i64 b, .int .i64 n, F] w fun e w' => e = .returned (.tuple #[]) ∧ Row w' g (swr L a b n) ∧ Off g (g + 1) w w' := by
  go_enter Try.func101, Try.ntmps101
  go_wp2
  go_loopw [10] (fun i wr => ∃ k : Nat, k ≤ n ∧ i = .int .i64 k ∧ Row wr g (swr L a b k) ∧ Off g (g + 1) w wr) (fun i _ => n - (intOf i).toNat)
  case atStart => exact ⟨0, Nat.zero_le _, rfl, h, Off.refl _ _ _⟩
  case round =>
    obtain ⟨k, hk, rfl, hr, ho⟩ := hrel
    by_cases hlt : k < n
    · have ca := hr.cell (i := a + k) (by rw [swr_len]; omega)
      have cb := hr.cell (i := b + k) (by rw [swr_len]; omega)
      have i1 : (0 : Int) ≤ (a : Int) + (k : Int) := by omega
      have i2 : (a : Int) + (k : Int) < (L.length : Int) := by omega
      have i3 : (0 : Int) ≤ (b : Int) + (k : Int) := by omega
      have i4 : (b : Int) + (k : Int) < (L.length : Int) := by omega
      have i5 : ((a : Int) + (k : Int)).toNat = a + k := by omega
      have i6 : ((b : Int) + (k : Int)).toNat = b + k := by omega
      have i7 : IntKind.i64.wrap ((a : Int) + (k : Int)) = (a : Int) + (k : Int) := IntWalk.i64_in _ (by omega)
      have i8 : IntKind.i64.wrap ((b : Int) + (k : Int)) = (b : Int) + (k : Int) := IntWalk.i64_in _ (by omega)
      have hab' : ¬ b = a := fun e => hab e.symm
      have e00 : ¬ (b + k) * 3 = (a + k) * 3 := by omega
      have d00 : ¬ (a + k) * 3 = (b + k) * 3 := by omega
      have e01 : ¬ (b + k) * 3 = (a + k) * 3 + 1 := by omega
      have d01 : ¬ (a + k) * 3 + 1 = (b + k) * 3 := by omega
      have e02 : ¬ (b + k) * 3 = (a + k) * 3 + 2 := by omega
      have d02 : ¬ (a + k) * 3 + 2 = (b + k) * 3 := by omega
      have e10 : ¬ (b + k) * 3 + 1 = (a + k) * 3 := by omega
      have d10 : ¬ (a + k) * 3 = (b + k) * 3 + 1 := by omega
      have e11 : ¬ (b + k) * 3 + 1 = (a + k) * 3 + 1 := by omega
      have d11 : ¬ (a + k) * 3 + 1 = (b + k) * 3 + 1 := by omega
      have e12 : ¬ (b + k) * 3 + 1 = (a + k) * 3 + 2 := by omega
      have d12 : ¬ (a + k) * 3 + 2 = (b + k) * 3 + 1 := by omega
      have e20 : ¬ (b + k) * 3 + 2 = (a + k) * 3 := by omega
      have d20 : ¬ (a + k) * 3 = (b + k) * 3 + 2 := by omega
      have e21 : ¬ (b + k) * 3 + 2 = (a + k) * 3 + 1 := by omega
      have d21 : ¬ (a + k) * 3 + 1 = (b + k) * 3 + 2 := by omega
      have e22 : ¬ (b + k) * 3 + 2 = (a + k) * 3 + 2 := by omega
      have d22 : ¬ (a + k) * 3 + 2 = (b + k) * 3 + 2 := by omega
      have fz := hr.unfrozen
      obtain ⟨a1, a2, a3⟩ := ca
      obtain ⟨b1, b2, b3⟩ := cb
      go_wp2
      go_region_with (fail)
      all_goals
        have R1 := hr.swW (i := a + k) (j := b + k) (by rw [swr_len]; omega) (by rw [swr_len]; omega)
        have O1 := ho.swW (a + k) (b + k) (lat (swr L a b k) (a + k)) (lat (swr L a b k) (b + k))
        clear hr ho fz
        go_wp2
        go_roundw
        case rel => exact ⟨k + 1, by omega, by go_num, R1, O1⟩
        case measure => simp [intOf]; omega
    · obtain rfl : k = n := by omega
      go_wp2
      go_end0
      exact ⟨rfl, hr, ho⟩
end Go.Proofs.Ytmibajhilbfecaa
