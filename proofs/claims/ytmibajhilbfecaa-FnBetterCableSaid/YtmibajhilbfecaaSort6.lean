/- symMerge, the case of one element behind: it does what its mirror does. -/
import Derived.Test.YtmibajhilbfecaaSort5
namespace Go.Proofs.Ytmibajhilbfecaa
open Go.RowKit Go.Deep
set_option maxHeartbeats 4000000 in
set_option maxRecDepth 100000 in
theorem symB (g c a m b : Nat) (L : List LK) (w : World) (h : Row w g L) (ham : a < m) (hma : m - a ≠ 1) (hmb : b - m = 1) (hb : b ≤ L.length) (hL : L.length ≤ 1000) :
    Calls Try.prog 99 #[.slice (some ⟨g, 0, none⟩) L.length c, .int .i64 a, .int .i64 m, .int .i64 b, .func (.func 84) #[] #[]] w fun e w' => e = .returned (.tuple #[]) ∧ Row w' g (smB a m L) ∧ Off g (g + 1) w w' := by
  have e0 : (((m : Int) - (a : Int)) == 1) = false := beq_eq_false_iff_ne.2 (by omega)
  have e1 : (b : Int) - (m : Int) = 1 := by omega
  have hmL : m < L.length := by omega
  clear hma hmb
  go_enter Try.func99, Try.ntmps99
  go_wp2
  clear e1
  go_loopw [14, 15, 16] (fun v u _ wr => ∃ (i j f : Nat), a ≤ i ∧ i ≤ j ∧ j ≤ m ∧ v = .int .i64 i ∧ u = .int .i64 j ∧ j - i ≤ f ∧ Row wr g L ∧ Hid (bsF (fun h => !(ltB L m h)) f i j = bsF (fun h => !(ltB L m h)) (m - a) a m) ∧ Off g (g + 1) w wr) (fun v u _ _ => (intOf u - intOf v).toNat)
  case atStart => exact ⟨a, m, m - a, Nat.le_refl _, by omega, Nat.le_refl _, rfl, rfl, Nat.le_refl _, h, Lib.hid rfl, Off.refl _ _ _⟩
  case round =>
    rename World => w2
    obtain ⟨i, j, f, hi, hij, hj, rfl, rfl, hf, hr2, hB, ho2⟩ := hrel
    have hl2 := hr2.lt
    by_cases hlt : i < j
    · obtain ⟨x, hx⟩ : ∃ x, Hid (x = (i + j) / 2) := ⟨_, Lib.hid rfl⟩
      have hx1 : i ≤ x := by have := hx.out; omega
      have hx2 : x < j := by have := hx.out; omega
      have hxe : ((i : Int) + (j : Int)) / 2 = (x : Int) := by have := hx.out; omega
      have hij' : (i : Int) < (j : Int) := by omega
      have hrd : RR w2.drew g m x (lat L m) (lat L x) := hr2.rr (by omega) (by omega)
      have x0 : (0 : Int) ≤ (x : Int) := by omega
      have x1 : (x : Int) < (L.length : Int) := by omega
      have xN : x < L.length := by omega
      have a0 : (0 : Int) ≤ (m : Int) := by omega
      have a1 : (m : Int) < (L.length : Int) := by omega
      by_cases hc : cmpK (lat L m) (lat L x) < 0
      · obtain ⟨f', hf', hB'⟩ := bsF_dn (p := fun h => !(ltB L m h)) hlt hf hx.out (by simp [ltB, hc])
        have HB := Lib.hid (hB'.symm.trans hB.out)
        clear hB hB'
        go_wp2_with fail
        go_region_held3 (fun w' => (w'.cell? ⟨g, m * 3, none⟩ = some (.int .i64 (lat L m).ln) ∧ w'.cell? ⟨g, m * 3 + 1, none⟩ = some (.int .i64 (lat L m).rt) ∧ w'.cell? ⟨g, m * 3 + 2, none⟩ = some (.int .i64 (lat L m).dr)) ∧ (w'.cell? ⟨g, x * 3, none⟩ = some (.int .i64 (lat L x).ln) ∧ w'.cell? ⟨g, x * 3 + 1, none⟩ = some (.int .i64 (lat L x).rt) ∧ w'.cell? ⟨g, x * 3 + 2, none⟩ = some (.int .i64 (lat L x).dr)))
          (first | exact hrd | exact hrd.below hb3 hl2)
          (first | (go_at_call 84; refine (cmpK_any (lat L m) (lat L x) _).mono ?_; rintro e w3 ⟨rfl, hb3⟩))
        rename_i HS
        clear HS
        have hr3 : Row w3 g L := hr2.drew.below hb3 hl2
        have ho3 : Off g (g + 1) w w3 := ho2.drew.trans (Off.of_below hb3)
        clear hrd hr2 ho2 hb3
        go_wp2
        go_roundw
        case rel => exact ⟨i, x, f', hi, hx1, by omega, rfl, rfl, hf', hr3, HB, ho3⟩
        case measure => simp [intOf]; omega
      · obtain ⟨f', hf', hB'⟩ := bsF_up (p := fun h => !(ltB L m h)) hlt hf hx.out (by simp [ltB, hc])
        have hnd : decide (cmpK (lat L m) (lat L x) < 0) = false := decide_eq_false hc
        have HB := Lib.hid (hB'.symm.trans hB.out)
        clear hB hB'
        go_wp2_with fail
        go_region_held3 (fun w' => (w'.cell? ⟨g, m * 3, none⟩ = some (.int .i64 (lat L m).ln) ∧ w'.cell? ⟨g, m * 3 + 1, none⟩ = some (.int .i64 (lat L m).rt) ∧ w'.cell? ⟨g, m * 3 + 2, none⟩ = some (.int .i64 (lat L m).dr)) ∧ (w'.cell? ⟨g, x * 3, none⟩ = some (.int .i64 (lat L x).ln) ∧ w'.cell? ⟨g, x * 3 + 1, none⟩ = some (.int .i64 (lat L x).rt) ∧ w'.cell? ⟨g, x * 3 + 2, none⟩ = some (.int .i64 (lat L x).dr)))
          (first | exact hrd | exact hrd.below hb3 hl2)
          (first | (go_at_call 84; refine (cmpK_any (lat L m) (lat L x) _).mono ?_; rintro e w3 ⟨rfl, hb3⟩))
        rename_i HS
        clear HS
        have hr3 : Row w3 g L := hr2.drew.below hb3 hl2
        have ho3 : Off g (g + 1) w w3 := ho2.drew.trans (Off.of_below hb3)
        clear hrd hr2 ho2 hb3
        go_wp2
        go_roundw
        case rel => exact ⟨x + 1, j, f', by omega, by omega, hj, by go_num, rfl, hf', hr3, HB, ho3⟩
        case measure => simp [intOf]; omega
    · obtain rfl : i = j := by omega
      have HI : Hid (i = bsF (fun h => !(ltB L m h)) (m - a) a m) := Lib.hid (by have := hB.out; rw [bsF_end hlt] at this; exact this)
      obtain ⟨n, hn⟩ : ∃ n, Hid (n = m - i) := ⟨_, Lib.hid rfl⟩
      have HU : Hid (dnF n m L = smB a m L) := Lib.hid (by unfold smB; rw [← HI.out, hn.out])
      have hni : i + n = m := by have h1 := hn.out; omega
      clear hB
      go_wp2
      go_loopw [17] (fun v wr => ∃ (k q : Nat) (X : List LK), k ≤ m ∧ i + q = k ∧ v = .int .i64 k ∧ Row wr g X ∧ Hid (X.length = L.length) ∧ Hid (dnF q k X = smB a m L) ∧ Off g (g + 1) w wr) (fun v _ => (intOf v).toNat)
      case atStart => exact ⟨m, n, L, Nat.le_refl _, hni, rfl, hr2, Lib.hid rfl, HU, ho2⟩
      case round =>
        rename World => w4
        obtain ⟨k, q, X, hk, hkq, rfl, hr4, hxl, hU, ho4⟩ := hrel
        clear hr2 ho2 HU
        cases q with
        | zero =>
          have HE : Hid (X = smB a m L) := Lib.hid hU.out
          have hki : ¬ (i : Int) < (k : Int) := by omega
          have hki' : ¬ i < k := by omega
          go_wp2
          refine bodyPost_ret (results_none rfl _ _ _) rfl ?_
          exact ⟨rfl, by rw [← HE.out]; exact hr4, ho4⟩
        | succ q =>
          obtain ⟨y, hy⟩ : ∃ y, Hid (y = k - 1) := ⟨_, Lib.hid rfl⟩
          have HN : Hid (dnF q y (swap2 X k y) = smB a m L) := Lib.hid (by have := hU.out; rw [hy.out]; exact this)
          have hyk : y < k := by have := hy.out; omega
          have hy1 : i + q = y := by have := hy.out; omega
          have ey : (k : Int) - 1 = (y : Int) := by have := hy.out; omega
          have ew : IntKind.i64.wrap (y : Int) = (y : Int) := by rw [IntKind.wrap_i64]; omega
          have hki : (i : Int) < (k : Int) := by omega
          have hki' : i < k := by omega
          have kX : k < X.length := by rw [hxl.out]; omega
          have yX : y < X.length := by rw [hxl.out]; omega
          have k0 : (0 : Int) ≤ (k : Int) := by omega
          have kN : k < L.length := by omega
          have y0 : (0 : Int) ≤ (y : Int) := by omega
          have yN : y < L.length := by omega
          obtain ⟨⟨c1, c2, c3⟩, c4, c5, c6⟩ := hr4.rr kX yX
          have fz := hr4.unfrozen
          clear hU
          have d00 : ¬ k * 3 = y * 3 := by omega
          have e00 : ¬ y * 3 = k * 3 := by omega
          have d01 : ¬ k * 3 = y * 3 + 1 := by omega
          have e01 : ¬ y * 3 + 1 = k * 3 := by omega
          have d02 : ¬ k * 3 = y * 3 + 2 := by omega
          have e02 : ¬ y * 3 + 2 = k * 3 := by omega
          have d10 : ¬ k * 3 + 1 = y * 3 := by omega
          have e10 : ¬ y * 3 = k * 3 + 1 := by omega
          have d11 : ¬ k * 3 + 1 = y * 3 + 1 := by omega
          have e11 : ¬ y * 3 + 1 = k * 3 + 1 := by omega
          have d12 : ¬ k * 3 + 1 = y * 3 + 2 := by omega
          have e12 : ¬ y * 3 + 2 = k * 3 + 1 := by omega
          have d20 : ¬ k * 3 + 2 = y * 3 := by omega
          have e20 : ¬ y * 3 = k * 3 + 2 := by omega
          have d21 : ¬ k * 3 + 2 = y * 3 + 1 := by omega
          have e21 : ¬ y * 3 + 1 = k * 3 + 2 := by omega
          have d22 : ¬ k * 3 + 2 = y * 3 + 2 := by omega
          have e22 : ¬ y * 3 + 2 = k * 3 + 2 := by omega
          go_wp2_with fail
          go_region_with (fail)
          all_goals
            have R1 := hr4.swW kX yX
            have O1 := ho4.swW k y (lat X k) (lat X y)
            clear hr4 ho4 fz ew c1 c2 c3 c4 c5 c6
            go_wp2
            go_roundw
            case rel => exact ⟨y, q, _, by omega, hy1, by first | rfl | go_num, R1, Lib.hid (by rw [swap2_len]; exact hxl.out), HN, O1⟩
            case measure => simp [intOf]; omega
end Go.Proofs.Ytmibajhilbfecaa
