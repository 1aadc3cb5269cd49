/- symMerge over a row of links, whole: it does what its mirror does. -/
import Derived.Test.YtmibajhilbfecaaSort6
namespace Go.Proofs.Ytmibajhilbfecaa
open Go.RowKit Go.Deep
/-- A row of n links. -/
def RowN (w : World) (g : Nat) (X : List LK) (n : Nat) : Prop := Row w g X ∧ X.length = n
theorem upF_len : ∀ (n k : Nat) (L : List LK), (upF n k L).length = L.length
  | 0, _, _ => rfl
  | n + 1, k, L => by rw [upF, upF_len n, swap2_len]
theorem dnF_len : ∀ (n k : Nat) (L : List LK), (dnF n k L).length = L.length
  | 0, _, _ => rfl
  | n + 1, k, L => by rw [dnF, dnF_len n, swap2_len]
theorem smF_A {f a m b : Nat} {L : List LK} (h : m - a = 1) : smF (f + 1) a m b L = smA a m b L := by rw [smF, if_pos h]
theorem smF_B {f a m b : Nat} {L : List LK} (h : m - a ≠ 1) (h2 : b - m = 1) : smF (f + 1) a m b L = smB a m L := by rw [smF, if_neg h, if_pos h2]
theorem smF_C {f a m b mid i en : Nat} {L : List LK} (h : m - a ≠ 1) (h2 : b - m ≠ 1) (hm : mid = (a + b) / 2) (hi : i = smS a m b L) (he : en = mid + m - i) :
    smF (f + 1) a m b L = if mid < en ∧ en < b then smF f mid en b (if a < i ∧ i < mid then smF f a i mid (if i < m ∧ m < en then rotS L i m en else L) else (if i < m ∧ m < en then rotS L i m en else L)) else (if a < i ∧ i < mid then smF f a i mid (if i < m ∧ m < en then rotS L i m en else L) else (if i < m ∧ m < en then rotS L i m en else L)) := by
  subst he hi hm
  rw [smF, if_neg h, if_neg h2]
theorem rotN (g c a m b n : Nat) (F : Value) (X : List LK) (w : World) (h : RowN w g X n) (ham : a < m) (hmb : m < b) (hb : b ≤ n) (hL : n ≤ 1000) :
    Calls Try.prog 100 #[.slice (some ⟨g, 0, none⟩) n c, .int .i64 a, .int .i64 m, .int .i64 b, F] w fun e w' => e = .returned (.tuple #[]) ∧ RowN w' g (rotS X a m b) n ∧ Off g (g + 1) w w' := by
  obtain ⟨h1, rfl⟩ := h
  exact (rotate_any g c a m b F X w h1 ham hmb hb hL).mono fun e w' ⟨p, q, r⟩ => ⟨p, ⟨q, rotL_len ..⟩, r⟩
def SymOk (g c n f : Nat) : Prop := ∀ (a m b : Nat) (X : List LK) (w : World), RowN w g X n → a < m → m < b → b ≤ n → b - a ≤ f →
    Calls Try.prog 99 #[.slice (some ⟨g, 0, none⟩) n c, .int .i64 a, .int .i64 m, .int .i64 b, .func (.func 84) #[] #[]] w fun e w' => e = .returned (.tuple #[]) ∧ RowN w' g (smF f a m b X) n ∧ Off g (g + 1) w w'
set_option maxHeartbeats 20000000 in
set_option maxRecDepth 100000 in
theorem symC (g c f a m b : Nat) (L : List LK) (w : World) (h : Row w g L) (ham : a < m) (hma : m - a ≠ 1) (hmb : m < b) (hbm : b - m ≠ 1) (hb : b ≤ L.length) (hL : L.length ≤ 1000) (hf : b - a ≤ f + 1) (ih : SymOk g c L.length f) :
    Calls Try.prog 99 #[.slice (some ⟨g, 0, none⟩) L.length c, .int .i64 a, .int .i64 m, .int .i64 b, .func (.func 84) #[] #[]] w fun e w' => e = .returned (.tuple #[]) ∧ RowN w' g (smF (f + 1) a m b L) L.length ∧ Off g (g + 1) w w' := by
  have e0 : (((m : Int) - (a : Int)) == 1) = false := beq_eq_false_iff_ne.2 (by omega)
  have e0' : (((b : Int) - (m : Int)) == 1) = false := beq_eq_false_iff_ne.2 (by omega)
  obtain ⟨mid, hmid⟩ : ∃ mid, Hid (mid = (a + b) / 2) := ⟨_, Lib.hid rfl⟩
  have em : ((a : Int) + (b : Int)) / 2 = (mid : Int) := by have := hmid.out; omega
  have hm1 : a < mid := by have := hmid.out; omega
  have hm2 : mid < b := by have := hmid.out; omega
  obtain ⟨nn, hnn⟩ : ∃ nn, Hid (nn = mid + m) := ⟨_, Lib.hid rfl⟩
  have en1 : (mid : Int) + (m : Int) = (nn : Int) := by have := hnn.out; omega
  obtain ⟨pp, hpp⟩ : ∃ pp, Hid (pp + 1 = nn) := ⟨nn - 1, Lib.hid (by have := hnn.out; omega)⟩
  have ep : (nn : Int) - 1 = (pp : Int) := by have := hpp.out; omega
  have HC := fun (i en : Nat) (hi : i = smS a m b L) (he : en = mid + m - i) => smF_C (f := f) hma hbm hmid.out hi he
  have HCH := Lib.hid HC
  have IH : Hid (∀ (a m b : Nat) (X : List LK) (w : World), RowN w g X L.length → a < m → m < b → b ≤ L.length → b - a ≤ f → Calls Try.prog 99 #[.slice (some ⟨g, 0, none⟩) L.length c, .int .i64 a, .int .i64 m, .int .i64 b, .func (.func 84) #[] #[]] w fun e w' => e = .returned (.tuple #[]) ∧ RowN w' g (smF f a m b X) L.length ∧ Off g (g + 1) w w') := Lib.hid ih
  clear HC ih hma hbm
  have hcase : ∃ s0 r0 : Nat, a ≤ s0 ∧ s0 ≤ r0 ∧ r0 ≤ mid ∧ r0 ≤ m ∧ mid + m ≤ s0 + b ∧ Hid (bsF (fun x => !(ltB L (mid + m - 1 - x) x)) (r0 - s0) s0 r0 = smS a m b L) ∧ ((mid < m ∧ Hid (s0 + b = nn) ∧ Hid (r0 = mid)) ∨ (¬ mid < m ∧ Hid (s0 = a) ∧ Hid (r0 = m))) := by
    have h1 := hmid.out
    have h2 := hnn.out
    by_cases hmm : mid < m
    · exact ⟨mid + m - b, mid, by omega, by omega, by omega, by omega, by omega, Lib.hid (by unfold smS; rw [← h1, if_pos hmm, if_pos hmm]), .inl ⟨hmm, Lib.hid (by omega), Lib.hid rfl⟩⟩
    · exact ⟨a, m, by omega, by omega, by omega, by omega, by omega, Lib.hid (by unfold smS; rw [← h1, if_neg hmm, if_neg hmm]), .inr ⟨hmm, Lib.hid rfl, Lib.hid rfl⟩⟩
  obtain ⟨s0, r0, hs1, hs2, hs3, hs4, hs5, hS, hcase⟩ := hcase
  rcases hcase with ⟨hmm, hq1, hq2⟩ | ⟨hmm, hq1, hq2⟩
  all_goals
    go_enter Try.func99, Try.ntmps99
    first
      | (have es : (nn : Int) - (b : Int) = (s0 : Int) := by have := hq1.out; omega
         go_wp2
         clear es)
      | go_wp2
    clear e0 e0' em en1 ep
    go_loopw [20, 21, 23] (fun v u _ wr => ∃ (i j f : Nat), s0 ≤ i ∧ i ≤ j ∧ j ≤ r0 ∧ v = .int .i64 i ∧ u = .int .i64 j ∧ j - i ≤ f ∧ Row wr g L ∧ Hid (bsF (fun x => !(ltB L (mid + m - 1 - x) x)) f i j = smS a m b L) ∧ Off g (g + 1) w wr) (fun v u _ _ => (intOf u - intOf v).toNat)
    case atStart => exact ⟨s0, r0, r0 - s0, Nat.le_refl _, hs2, Nat.le_refl _, by first | rfl | rw [hq1.out], by rw [hq2.out], Nat.le_refl _, h, hS, Off.refl _ _ _⟩
    case round =>
      rename World => w2
      obtain ⟨i, j, fu, hi, hij, hj, rfl, rfl, hfu, hr2, hB, ho2⟩ := hrel
      have hl2 := hr2.lt
      by_cases hlt : i < j
      · obtain ⟨x, hx⟩ : ∃ x, Hid (x = (i + j) / 2) := ⟨_, Lib.hid rfl⟩
        have hx1 : i ≤ x := by have := hx.out; omega
        have hx2 : x < j := by have := hx.out; omega
        have hxe : ((i : Int) + (j : Int)) / 2 = (x : Int) := by have := hx.out; omega
        obtain ⟨y, hy⟩ : ∃ y, Hid (y = mid + m - 1 - x) := ⟨_, Lib.hid rfl⟩
        have hyb : y < b := by have h1 := hy.out; omega
        have eyx : (pp : Int) - (x : Int) = (y : Int) := by have h1 := hy.out; have h2 := hpp.out; have h3 := hnn.out; omega
        have ewy : IntKind.i64.wrap (y : Int) = (y : Int) := by rw [IntKind.wrap_i64]; omega
        have hij' : (i : Int) < (j : Int) := by omega
        have hrd : RR w2.drew g y x (lat L y) (lat L x) := hr2.rr (by omega) (by omega)
        have x0 : (0 : Int) ≤ (x : Int) := by omega
        have x1 : (x : Int) < (L.length : Int) := by omega
        have xN : x < L.length := by omega
        have y0 : (0 : Int) ≤ (y : Int) := by omega
        have y1 : (y : Int) < (L.length : Int) := by omega
        have yN : y < L.length := by omega
        by_cases hc : cmpK (lat L y) (lat L x) < 0
        · obtain ⟨f', hf', hB'⟩ := bsF_dn (p := fun x => !(ltB L (mid + m - 1 - x) x)) hlt hfu hx.out (by have := hy.out; simp [ltB, ← this, hc])
          have HB := Lib.hid (hB'.symm.trans hB.out)
          clear hB hB'
          go_wp2_with fail
          go_region_held3 (fun w' => (w'.cell? ⟨g, y * 3, none⟩ = some (.int .i64 (lat L y).ln) ∧ w'.cell? ⟨g, y * 3 + 1, none⟩ = some (.int .i64 (lat L y).rt) ∧ w'.cell? ⟨g, y * 3 + 2, none⟩ = some (.int .i64 (lat L y).dr)) ∧ (w'.cell? ⟨g, x * 3, none⟩ = some (.int .i64 (lat L x).ln) ∧ w'.cell? ⟨g, x * 3 + 1, none⟩ = some (.int .i64 (lat L x).rt) ∧ w'.cell? ⟨g, x * 3 + 2, none⟩ = some (.int .i64 (lat L x).dr)))
            (first | exact hrd | exact hrd.below hb3 hl2)
            (first | (go_at_call 84; refine (cmpK_any (lat L y) (lat L x) _).mono ?_; rintro e w3 ⟨rfl, hb3⟩))
          rename_i HS
          clear HS
          have hr3 : Row w3 g L := hr2.drew.below hb3 hl2
          have ho3 : Off g (g + 1) w w3 := ho2.drew.trans (Off.of_below hb3)
          clear hrd hr2 ho2 hb3 ewy
          go_wp2
          go_roundw
          case rel => exact ⟨i, x, f', hi, hx1, by omega, rfl, rfl, hf', hr3, HB, ho3⟩
          case measure => simp [intOf]; omega
        · obtain ⟨f', hf', hB'⟩ := bsF_up (p := fun x => !(ltB L (mid + m - 1 - x) x)) hlt hfu hx.out (by have := hy.out; simp [ltB, ← this, hc])
          have hnd : decide (cmpK (lat L y) (lat L x) < 0) = false := decide_eq_false hc
          have HB := Lib.hid (hB'.symm.trans hB.out)
          clear hB hB'
          go_wp2_with fail
          go_region_held3 (fun w' => (w'.cell? ⟨g, y * 3, none⟩ = some (.int .i64 (lat L y).ln) ∧ w'.cell? ⟨g, y * 3 + 1, none⟩ = some (.int .i64 (lat L y).rt) ∧ w'.cell? ⟨g, y * 3 + 2, none⟩ = some (.int .i64 (lat L y).dr)) ∧ (w'.cell? ⟨g, x * 3, none⟩ = some (.int .i64 (lat L x).ln) ∧ w'.cell? ⟨g, x * 3 + 1, none⟩ = some (.int .i64 (lat L x).rt) ∧ w'.cell? ⟨g, x * 3 + 2, none⟩ = some (.int .i64 (lat L x).dr)))
            (first | exact hrd | exact hrd.below hb3 hl2)
            (first | (go_at_call 84; refine (cmpK_any (lat L y) (lat L x) _).mono ?_; rintro e w3 ⟨rfl, hb3⟩))
          rename_i HS
          clear HS
          have hr3 : Row w3 g L := hr2.drew.below hb3 hl2
          have ho3 : Off g (g + 1) w w3 := ho2.drew.trans (Off.of_below hb3)
          clear hrd hr2 ho2 hb3 ewy
          go_wp2
          go_roundw
          case rel => exact ⟨x + 1, j, f', by omega, by omega, hj, by go_num, rfl, hf', hr3, HB, ho3⟩
          case measure => simp [intOf]; omega
      · obtain rfl : i = j := by omega
        have HST : Hid (i = smS a m b L) := Lib.hid (by have := hB.out; rw [bsF_end hlt] at this; exact this)
        obtain ⟨en, hen⟩ : ∃ en, Hid (en = mid + m - i) := ⟨_, Lib.hid rfl⟩
        have een : (nn : Int) - (i : Int) = (en : Int) := by have h1 := hen.out; have h2 := hnn.out; omega
        have HCC := Lib.hid (HCH.out i en HST.out hen.out)
        have r1 : (m < en) ↔ (i < mid) := by have := hen.out; omega
        have r2 : (mid < en) ↔ (i < m) := by have := hen.out; omega
        have henb : en ≤ b := by have := hen.out; omega
        have him : i ≤ mid := by omega
        have hRN : RowN w2 g L L.length := ⟨hr2, rfl⟩
        have hai : a ≤ i := by omega
        have hfa : mid - a ≤ f := by omega
        have hfb : b - mid ≤ f := by omega
        clear hB HST HCH hS hq1 hq2 hr2 hpp hnn hmid hen h hlt
        by_cases q1 : i < m <;> by_cases q2 : i < mid <;> by_cases q3 : a < i <;> by_cases q4 : en < b
        all_goals
          have r3 : decide (m < en) = decide (i < mid) := decide_eq_decide.2 r1
          have r4 : decide (mid < en) = decide (i < m) := decide_eq_decide.2 r2
          go_wp2_with (first
            | (go_at_call 100; (with_reducible refine (rotN g c i m en L.length _ _ _ hRN (by omega) (by omega) (by omega) hL).mono ?_); rintro e w4 ⟨rfl, hRN', ho'⟩; have hRN := hRN'; have ho2 := Off.trans (a := w) (by assumption) ho'; clear hRN' ho')
            | (go_at_call 99; (with_reducible refine (IH.out a i mid _ _ hRN (by omega) (by omega) (by omega) hfa).mono ?_); rintro e w4 ⟨rfl, hRN', ho'⟩; have hRN := hRN'; have ho2 := Off.trans (a := w) (by assumption) ho'; clear hRN' ho')
            | (go_at_call 99; (with_reducible refine (IH.out mid en b _ _ hRN (by omega) (by omega) (by omega) hfb).mono ?_); rintro e w4 ⟨rfl, hRN', ho'⟩; have hRN := hRN'; have ho2 := Off.trans (a := w) (by assumption) ho'; clear hRN' ho'))
          all_goals
            go_end0
            refine ⟨rfl, ?_, by assumption⟩
            rw [HCC.out]
            repeat' split
            all_goals (first | exact hRN | (exfalso; omega))
end Go.Proofs.Ytmibajhilbfecaa
