/- rotate over a row of links. -/
import Derived.Test.YtmibajhilbfecaaSort3
namespace Go.Proofs.Ytmibajhilbfecaa
open Go.RowKit Go.Deep
/-- The mirror of rotate's loop. -/
def rotL (m : Nat) : Nat → Nat → Nat → List LK → List LK
  | 0, i, _, L => swr L (m - i) m i
  | f + 1, i, j, L => if i = j then swr L (m - i) m i else if j < i then rotL m f (i - j) j (swr L (m - i) m j) else rotL m f i (j - i) (swr L (m - i) (m + j - i) i)
def rotS (L : List LK) (a m b : Nat) : List LK := rotL m (b - a) (m - a) (b - m) L
theorem rotL_len (m : Nat) : ∀ (f i j : Nat) (L : List LK), (rotL m f i j L).length = L.length
  | 0, i, j, L => by simp [rotL, swr_len]
  | f + 1, i, j, L => by
    unfold rotL
    split
    · exact swr_len ..
    · split
      · rw [rotL_len m f, swr_len]
      · rw [rotL_len m f, swr_len]
theorem rotL_eq (m f i : Nat) (L : List LK) : rotL m f i i L = swr L (m - i) m i := by cases f <;> simp [rotL]
theorem rotL_gt {m f i j : Nat} {L : List LK} (h : j < i) (hf : i + j ≤ f) (hj : 1 ≤ j) : ∃ f', i - j + j ≤ f' ∧ rotL m f i j L = rotL m f' (i - j) j (swr L (m - i) m j) := by
  cases f with
  | zero => omega
  | succ f => exact ⟨f, by omega, by rw [rotL, if_neg (by omega), if_pos h]⟩
theorem rotL_lt {m f i j : Nat} {L : List LK} (h : i < j) (hf : i + j ≤ f) (hi : 1 ≤ i) : ∃ f', i + (j - i) ≤ f' ∧ rotL m f i j L = rotL m f' i (j - i) (swr L (m - i) (m + j - i) i) := by
  cases f with
  | zero => omega
  | succ f => exact ⟨f, by omega, by rw [rotL, if_neg (by omega), if_neg (by omega)]⟩
set_option maxHeartbeats 2000000 in
theorem rotate_any (g c a m b : Nat) (F : Value) (L : List LK) (w : World) (h : Row w g L) (ham : a < m) (hmb : m < b) (hb : b ≤ L.length) (hL : L.length ≤ 1000) :
    Calls Try.prog 100 #[.slice (some ⟨g, 0, none⟩) L.length c, .int .i64 a, .int .i64 m, .int .i64 b, F] w fun e w' => e = .returned (.tuple #[]) ∧ Row w' g (rotS L a m b) ∧ Off g (g + 1) w w' := by
  obtain ⟨i0, hi0⟩ : ∃ i0, Hid (i0 = m - a) := ⟨_, Lib.hid rfl⟩
  obtain ⟨j0, hj0⟩ : ∃ j0, Hid (j0 = b - m) := ⟨_, Lib.hid rfl⟩
  have e1 : (m : Int) - (a : Int) = (i0 : Int) := by have := hi0.out; omega
  have e2 : (b : Int) - (m : Int) = (j0 : Int) := by have := hj0.out; omega
  have hi1 : 1 ≤ i0 := by have := hi0.out; omega
  have hj1 : 1 ≤ j0 := by have := hj0.out; omega
  have him : i0 ≤ m := by have := hi0.out; omega
  have hjm : m + j0 ≤ L.length := by have := hj0.out; omega
  have HE : Hid (rotL m (i0 + j0) i0 j0 L = rotS L a m b) := Lib.hid (by unfold rotS; rw [hi0.out, hj0.out, show m - a + (b - m) = b - a by omega])
  go_enter Try.func100, Try.ntmps100
  go_wp2
  clear e1 e2
  go_loopw [10, 11] (fun v u wr => ∃ (i j f : Nat) (X : List LK), 1 ≤ i ∧ 1 ≤ j ∧ i ≤ m ∧ m + j ≤ L.length ∧ v = .int .i64 i ∧ u = .int .i64 j ∧ i + j ≤ f ∧ Row wr g X ∧ Hid (X.length = L.length) ∧ Hid (rotL m f i j X = rotS L a m b) ∧ Off g (g + 1) w wr) (fun v u _ => (intOf v).toNat + (intOf u).toNat)
  case atStart => exact ⟨i0, j0, i0 + j0, L, hi1, hj1, him, hjm, rfl, rfl, Nat.le_refl _, h, Lib.hid rfl, HE, Off.refl _ _ _⟩
  case round =>
    rename World => w1
    obtain ⟨i, j, f, X, hi, hj, hiM, hjM, rfl, rfl, hf, hr, hxl, hR, ho⟩ := hrel
    clear HE hi1 hj1 him hjm
    obtain ⟨p, hp⟩ : ∃ p, Hid (p = m - i) := ⟨_, Lib.hid rfl⟩
    have ep : (m : Int) - (i : Int) = (p : Int) := by have := hp.out; omega
    have hpm : p ≠ m := by have := hp.out; omega
    have hpi : p + i = m := by have := hp.out; omega
    have hmL : m ≤ X.length := by rw [hxl.out]; omega
    have hX1 : X.length ≤ 1000 := by rw [hxl.out]; exact hL
    have hjX : m + j ≤ X.length := by rw [hxl.out]; exact hjM
    have HSR : ∀ (x y n : Nat) (W : World), Row W g X → x + n ≤ X.length → y + n ≤ X.length → x ≠ y → Calls Try.prog 101 #[.slice (some ⟨g, 0, none⟩) L.length c, .int .i64 x, .int .i64 y, .int .i64 n, F] W fun e w' => e = .returned (.tuple #[]) ∧ Row w' g (swr X x y n) ∧ Off g (g + 1) W w' := fun x y n W hW h1 h2 h3 => by
      have := swapRange_any g c x y n F X W hW h1 h2 hX1 h3
      rw [hxl.out] at this
      exact this
    by_cases hij : i = j
    · subst hij
      have HF : Hid (swr X p m i = rotS L a m b) := Lib.hid (by rw [← hR.out, rotL_eq, hp.out])
      have hb1 : ((i : Int) == (i : Int)) = true := by simp
      clear hR hp
      go_wp2_with fail
      refine (HSR p m i _ hr (by omega) (by omega) hpm).mono ?_
      rintro e w2 ⟨rfl, hr2, ho2⟩
      rw [HF.out] at hr2
      go_wp2
      go_end0
      exact ⟨rfl, hr2, ho.trans ho2⟩
    · have hb1 : ((i : Int) == (j : Int)) = false := beq_eq_false_iff_ne.2 (by omega)
      by_cases hgt : j < i
      · obtain ⟨f', hf', hR'⟩ := rotL_gt (m := m) (L := X) hgt hf hj
        have HN : Hid (rotL m f' (i - j) j (swr X p m j) = rotS L a m b) := Lib.hid (by rw [← hR.out, hR', hp.out])
        obtain ⟨i', hi'⟩ : ∃ i', Hid (i' = i - j) := ⟨_, Lib.hid rfl⟩
        have ei : (i : Int) - (j : Int) = (i' : Int) := by have := hi'.out; omega
        have hi1' : 1 ≤ i' := by have := hi'.out; omega
        have hi2' : i' ≤ i := by have := hi'.out; omega
        have hi3' : i' + j = i := by have := hi'.out; omega
        have hgti : (j : Int) < (i : Int) := by omega
        rw [← hi'.out] at HN hf'
        clear hR hR' hp hij hb1
        have hne : ((i : Int) == (j : Int)) = false := beq_eq_false_iff_ne.2 (by omega)
        go_wp2_with fail
        refine (HSR p m j _ hr (by omega) hjX hpm).mono ?_
        rintro e w2 ⟨rfl, hr2, ho2⟩
        clear hr HSR
        go_wp2
        go_roundw
        case rel => exact ⟨i', j, f', _, hi1', hj, by omega, hjM, rfl, rfl, hf', hr2, Lib.hid (by rw [swr_len]; exact hxl.out), HN, ho.trans ho2⟩
        case measure => simp [intOf]; omega
      · have hlt : i < j := by omega
        obtain ⟨f', hf', hR'⟩ := rotL_lt (m := m) (L := X) hlt hf hi
        obtain ⟨q, hq⟩ : ∃ q, Hid (q = m + j - i) := ⟨_, Lib.hid rfl⟩
        have eq' : (m : Int) + (j : Int) - (i : Int) = (q : Int) := by have := hq.out; omega
        have hqi : q + i = m + j := by have := hq.out; omega
        have hpq : p ≠ q := by omega
        have HN : Hid (rotL m f' i (j - i) (swr X p q i) = rotS L a m b) := Lib.hid (by rw [← hR.out, hR', hp.out, hq.out])
        obtain ⟨j', hj'⟩ : ∃ j', Hid (j' = j - i) := ⟨_, Lib.hid rfl⟩
        have ej : (j : Int) - (i : Int) = (j' : Int) := by have := hj'.out; omega
        have hj1' : 1 ≤ j' := by have := hj'.out; omega
        have hj3' : j' + i = j := by have := hj'.out; omega
        have hgti : ¬ (j : Int) < (i : Int) := by omega
        rw [← hj'.out] at HN hf'
        clear hR hR' hp hq hij hb1
        have hne : ((i : Int) == (j : Int)) = false := beq_eq_false_iff_ne.2 (by omega)
        go_wp2_with fail
        refine (HSR p q i _ hr (by omega) (by omega) hpq).mono ?_
        rintro e w2 ⟨rfl, hr2, ho2⟩
        clear hr HSR
        go_wp2
        go_roundw
        case rel => exact ⟨i, j', f', _, hi, hj1', hiM, by omega, rfl, rfl, hf', hr2, Lib.hid (by rw [swr_len]; exact hxl.out), HN, ho.trans ho2⟩
        case measure => simp [intOf]; omega
end Go.Proofs.Ytmibajhilbfecaa
