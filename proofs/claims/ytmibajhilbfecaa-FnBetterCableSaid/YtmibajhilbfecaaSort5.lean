/- symMerge over a row of links: it does what its mirror does. -/
import Derived.Test.YtmibajhilbfecaaSort4
import Derived.Deep.QuietTactic
import Derived.BigQuiet
namespace Go.Proofs.Ytmibajhilbfecaa
open Go.RowKit Go.Deep
/-- The mirror of a binary search. -/
def bsF (p : Nat → Bool) : Nat → Nat → Nat → Nat
  | 0, i, _ => i
  | f + 1, i, j => if i < j then (if p ((i + j) / 2) then bsF p f ((i + j) / 2 + 1) j else bsF p f i ((i + j) / 2)) else i
theorem bsF_end {p : Nat → Bool} {f i j : Nat} (h : ¬ i < j) : bsF p f i j = i := by
  cases f with
  | zero => rfl
  | succ f => rw [bsF, if_neg h]
theorem bsF_up {p : Nat → Bool} {f i j h : Nat} (hij : i < j) (hf : j - i ≤ f) (hh : h = (i + j) / 2) (hp : p h = true) : ∃ f', j - (h + 1) ≤ f' ∧ bsF p f i j = bsF p f' (h + 1) j := by
  cases f with
  | zero => omega
  | succ f => subst hh; exact ⟨f, by omega, by rw [bsF, if_pos hij, if_pos hp]⟩
theorem bsF_dn {p : Nat → Bool} {f i j h : Nat} (hij : i < j) (hf : j - i ≤ f) (hh : h = (i + j) / 2) (hp : p h = false) : ∃ f', h - i ≤ f' ∧ bsF p f i j = bsF p f' i h := by
  cases f with
  | zero => omega
  | succ f => subst hh; exact ⟨f, by omega, by rw [bsF, if_pos hij, if_neg (by rw [hp]; decide)]⟩
def upF : Nat → Nat → List LK → List LK
  | 0, _, L => L
  | n + 1, k, L => upF n (k + 1) (swap2 L k (k + 1))
def dnF : Nat → Nat → List LK → List LK
  | 0, _, L => L
  | n + 1, k, L => dnF n (k - 1) (swap2 L k (k - 1))
def ltB (L : List LK) (x y : Nat) : Bool := decide (cmpK (lat L x) (lat L y) < 0)
def smA (a m b : Nat) (L : List LK) : List LK := upF (bsF (fun h => ltB L h a) (b - m) m b - 1 - a) a L
def smB (a m : Nat) (L : List LK) : List LK := dnF (m - bsF (fun h => !(ltB L m h)) (m - a) a m) m L
def smS (a m b : Nat) (L : List LK) : Nat :=
  bsF (fun c => !(ltB L ((a + b) / 2 + m - 1 - c) c)) ((if (a + b) / 2 < m then (a + b) / 2 else m) - (if (a + b) / 2 < m then (a + b) / 2 + m - b else a)) (if (a + b) / 2 < m then (a + b) / 2 + m - b else a) (if (a + b) / 2 < m then (a + b) / 2 else m)
def smF : Nat → Nat → Nat → Nat → List LK → List LK
  | 0, _, _, _, L => L
  | f + 1, a, m, b, L =>
    if m - a = 1 then smA a m b L
    else if b - m = 1 then smB a m L
    else
      let L1 := if smS a m b L < m ∧ m < (a + b) / 2 + m - smS a m b L then rotS L (smS a m b L) m ((a + b) / 2 + m - smS a m b L) else L
      let L2 := if a < smS a m b L ∧ smS a m b L < (a + b) / 2 then smF f a (smS a m b L) ((a + b) / 2) L1 else L1
      if (a + b) / 2 < (a + b) / 2 + m - smS a m b L ∧ (a + b) / 2 + m - smS a m b L < b then smF f ((a + b) / 2) ((a + b) / 2 + m - smS a m b L) b L2 else L2
set_option maxHeartbeats 4000000 in
set_option maxRecDepth 100000 in
theorem symA (g c a m b : Nat) (L : List LK) (w : World) (h : Row w g L) (ham : m - a = 1) (hmb : m < b) (hb : b ≤ L.length) (hL : L.length ≤ 1000) :
    Calls Try.prog 99 #[.slice (some ⟨g, 0, none⟩) L.length c, .int .i64 a, .int .i64 m, .int .i64 b, .func (.func 84) #[] #[]] w fun e w' => e = .returned (.tuple #[]) ∧ Row w' g (smA a m b L) ∧ Off g (g + 1) w w' := by
  have e1 : (m : Int) - (a : Int) = 1 := by omega
  have ham' : m = a + 1 := by omega
  have HM := Lib.hid ham'
  have hm1 : a < m := by omega
  clear ham ham'
  go_enter Try.func99, Try.ntmps99
  go_wp2
  clear e1
  go_loopw [10, 11, 12] (fun v u _ wr => ∃ (i j f : Nat), m ≤ i ∧ i ≤ j ∧ j ≤ b ∧ v = .int .i64 i ∧ u = .int .i64 j ∧ j - i ≤ f ∧ Row wr g L ∧ Hid (bsF (fun h => ltB L h a) f i j = bsF (fun h => ltB L h a) (b - m) m b) ∧ Off g (g + 1) w wr) (fun v u _ _ => (intOf u - intOf v).toNat)
  case atStart => exact ⟨m, b, b - m, Nat.le_refl _, by omega, Nat.le_refl _, rfl, rfl, Nat.le_refl _, h, Lib.hid rfl, Off.refl _ _ _⟩
  case round =>
    rename World => w2
    obtain ⟨i, j, f, hi, hij, hj, rfl, rfl, hf, hr2, hB, ho2⟩ := hrel
    have hl2 := hr2.lt
    by_cases hlt : i < j
    · obtain ⟨x, hx⟩ : ∃ x, Hid (x = (i + j) / 2) := ⟨_, Lib.hid rfl⟩
      have hx1 : i ≤ x := by have := hx.out; omega
      have hx2 : x < j := by have := hx.out; omega
      have hxe : ((i : Int) + (j : Int)) / 2 = (x : Int) := by have := hx.out; omega
      have hij' : (i : Int) < (j : Int) := by omega
      have hrd : RR w2.drew g x a (lat L x) (lat L a) := hr2.rr (by omega) (by omega)
      have x0 : (0 : Int) ≤ (x : Int) := by omega
      have x1 : (x : Int) < (L.length : Int) := by omega
      have xN : x < L.length := by omega
      have a0 : (0 : Int) ≤ (a : Int) := by omega
      have a1 : (a : Int) < (L.length : Int) := by omega
      have aN : a < L.length := by omega
      by_cases hc : cmpK (lat L x) (lat L a) < 0
      · obtain ⟨f', hf', hB'⟩ := bsF_up (p := fun h => ltB L h a) hlt hf hx.out (by simp [ltB, hc])
        have HB := Lib.hid (hB'.symm.trans hB.out)
        clear hB hB'
        go_wp2_with fail
        go_region_held3 (fun w' => (w'.cell? ⟨g, x * 3, none⟩ = some (.int .i64 (lat L x).ln) ∧ w'.cell? ⟨g, x * 3 + 1, none⟩ = some (.int .i64 (lat L x).rt) ∧ w'.cell? ⟨g, x * 3 + 2, none⟩ = some (.int .i64 (lat L x).dr)) ∧ (w'.cell? ⟨g, a * 3, none⟩ = some (.int .i64 (lat L a).ln) ∧ w'.cell? ⟨g, a * 3 + 1, none⟩ = some (.int .i64 (lat L a).rt) ∧ w'.cell? ⟨g, a * 3 + 2, none⟩ = some (.int .i64 (lat L a).dr)))
          (first | exact hrd | exact hrd.below hb3 hl2)
          (first | (go_at_call 84; refine (cmpK_any (lat L x) (lat L a) _).mono ?_; rintro e w3 ⟨rfl, hb3⟩))
        rename_i HS
        clear HS
        have hr3 : Row w3 g L := hr2.drew.below hb3 hl2
        have ho3 : Off g (g + 1) w w3 := ho2.drew.trans (Off.of_below hb3)
        clear hrd hr2 ho2 hb3
        go_wp2
        go_roundw
        case rel => exact ⟨x + 1, j, f', by omega, by omega, hj, by go_num, rfl, hf', hr3, HB, ho3⟩
        case measure => simp [intOf]; omega
      · obtain ⟨f', hf', hB'⟩ := bsF_dn (p := fun h => ltB L h a) hlt hf hx.out (by simp [ltB, hc])
        have HB := Lib.hid (hB'.symm.trans hB.out)
        clear hB hB'
        go_wp2_with fail
        go_region_held3 (fun w' => (w'.cell? ⟨g, x * 3, none⟩ = some (.int .i64 (lat L x).ln) ∧ w'.cell? ⟨g, x * 3 + 1, none⟩ = some (.int .i64 (lat L x).rt) ∧ w'.cell? ⟨g, x * 3 + 2, none⟩ = some (.int .i64 (lat L x).dr)) ∧ (w'.cell? ⟨g, a * 3, none⟩ = some (.int .i64 (lat L a).ln) ∧ w'.cell? ⟨g, a * 3 + 1, none⟩ = some (.int .i64 (lat L a).rt) ∧ w'.cell? ⟨g, a * 3 + 2, none⟩ = some (.int .i64 (lat L a).dr)))
          (first | exact hrd | exact hrd.below hb3 hl2)
          (first | (go_at_call 84; refine (cmpK_any (lat L x) (lat L a) _).mono ?_; rintro e w3 ⟨rfl, hb3⟩))
        rename_i HS
        clear HS
        have hr3 : Row w3 g L := hr2.drew.below hb3 hl2
        have ho3 : Off g (g + 1) w w3 := ho2.drew.trans (Off.of_below hb3)
        clear hrd hr2 ho2 hb3
        go_wp2
        go_roundw
        case rel => exact ⟨i, x, f', hi, hx1, by omega, rfl, rfl, hf', hr3, HB, ho3⟩
        case measure => simp [intOf]; omega
    · obtain rfl : i = j := by omega
      have HI : Hid (i = bsF (fun h => ltB L h a) (b - m) m b) := Lib.hid (by have := hB.out; rw [bsF_end hlt] at this; exact this)
      obtain ⟨n, hn⟩ : ∃ n, Hid (n = i - 1 - a) := ⟨_, Lib.hid rfl⟩
      have HU : Hid (upF n a L = smA a m b L) := Lib.hid (by unfold smA; rw [← HI.out, hn.out])
      have hni : a + n + 1 = i := by have h1 := hn.out; have h2 := HM.out; omega
      clear hB
      go_wp2
      go_loopw [13] (fun v wr => ∃ (k q : Nat) (X : List LK), a ≤ k ∧ k + q + 1 = i ∧ v = .int .i64 k ∧ Row wr g X ∧ Hid (X.length = L.length) ∧ Hid (upF q k X = smA a m b L) ∧ Off g (g + 1) w wr) (fun v _ => i - (intOf v).toNat)
      case atStart => exact ⟨a, n, L, Nat.le_refl _, hni, rfl, hr2, Lib.hid rfl, HU, ho2⟩
      case round =>
        rename World => w4
        obtain ⟨k, q, X, hk, hkq, rfl, hr4, hxl, hU, ho4⟩ := hrel
        clear hr2 ho2 HU
        have ei : (i : Int) - 1 = (k : Int) + (q : Int) := by omega
        cases q with
        | zero =>
          have HE : Hid (X = smA a m b L) := Lib.hid hU.out
          have ei' : (i : Int) - 1 = (k : Int) := by omega
          clear ei
          go_wp2
          refine bodyPost_ret (results_none rfl _ _ _) rfl ?_
          exact ⟨rfl, by rw [← HE.out]; exact hr4, ho4⟩
        | succ q =>
          obtain ⟨y, hy⟩ : ∃ y, Hid (y = k + 1) := ⟨_, Lib.hid rfl⟩
          have HN : Hid (upF q y (swap2 X k y) = smA a m b L) := Lib.hid (by have := hU.out; rw [hy.out]; exact this)
          have hyk : k < y := by have := hy.out; omega
          have hy1 : y + q + 1 = i := by have := hy.out; omega
          have ey : (k : Int) + 1 = (y : Int) := by have := hy.out; omega
          have ew : IntKind.i64.wrap (y : Int) = (y : Int) := by rw [IntKind.wrap_i64]; omega
          have hki : (k : Int) < (i : Int) - 1 := by omega
          have kX : k < X.length := by rw [hxl.out]; omega
          have yX : y < X.length := by rw [hxl.out]; omega
          have k0 : (0 : Int) ≤ (k : Int) := by omega
          have kN : k < L.length := by omega
          have y0 : (0 : Int) ≤ (y : Int) := by omega
          have yN : y < L.length := by omega
          obtain ⟨⟨c1, c2, c3⟩, c4, c5, c6⟩ := hr4.rr kX yX
          have fz := hr4.unfrozen
          clear ei hU
          have d00 : ¬ k * 3 = y * 3 := by omega
          have e00 : ¬ y * 3 = k * 3 := by omega
          have d01 : ¬ k * 3 = y * 3 + 1 := by omega
          have e01 : ¬ y * 3 + 1 = k * 3 := by omega
          have d02 : ¬ k * 3 = y * 3 + 2 := by omega
          have e02 : ¬ y * 3 + 2 = k * 3 := by omega
          have d10 : ¬ k * 3 + 1 = y * 3 := by omega
          have e10 : ¬ y * 3 = k * 3 + 1 := by omega
          have d11 : ¬ k * 3 + 1 = y * 3 + 1 := by omega
          have e11 : ¬ y * 3 + 1 = k * 3 + 1 := by omega
          have d12 : ¬ k * 3 + 1 = y * 3 + 2 := by omega
          have e12 : ¬ y * 3 + 2 = k * 3 + 1 := by omega
          have d20 : ¬ k * 3 + 2 = y * 3 := by omega
          have e20 : ¬ y * 3 = k * 3 + 2 := by omega
          have d21 : ¬ k * 3 + 2 = y * 3 + 1 := by omega
          have e21 : ¬ y * 3 + 1 = k * 3 + 2 := by omega
          have d22 : ¬ k * 3 + 2 = y * 3 + 2 := by omega
          have e22 : ¬ y * 3 + 2 = k * 3 + 2 := by omega
          go_wp2_with fail
          go_region_with (fail)
          all_goals
            have R1 := hr4.swW kX yX
            have O1 := ho4.swW k y (lat X k) (lat X y)
            clear hr4 ho4 fz ew c1 c2 c3 c4 c5 c6
            go_wp2
            go_roundw
            case rel => exact ⟨y, q, _, by omega, by omega, by first | rfl | go_num, R1, Lib.hid (by rw [swap2_len]; exact hxl.out), HN, O1⟩
            case measure => simp [intOf]; omega
end Go.Proofs.Ytmibajhilbfecaa
