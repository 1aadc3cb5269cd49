/- The field of sixteen: contracts of FieldProduct, FieldPower, FieldLog, FieldQuotient, program and reference; both return the same plain functions, which are finite tables as far as nibbles go. -/
import Derived.Test.YtkmbblooofmnpaaSl
import Derived.Test.YtkmbblooofmnpaaNum2
namespace Go.Proofs.Ytkmbblooofmnpaa
open Go.RowKit Go.Deep

/-! ### plain functions on nibbles -/
def dbl (a : Nat) : Nat := if 15 < 2 * a then (2 * a) ^^^ 19 else 2 * a
/-- After k rounds of the program's product: a doubled k times, and what has been summed. -/
def pr (a b : Nat) : Nat → Nat × Nat
  | 0 => (a, 0)
  | k + 1 => (dbl (pr a b k).1, if b / 2 ^ k % 2 = 1 then (pr a b k).2 ^^^ (pr a b k).1 else (pr a b k).2)
def gmul (a b : Nat) : Nat := (pr a b 4).2
/-- The reference's product: first the carry-less product, then the remainder. -/
def s1 (a b : Nat) : Nat → Nat
  | 0 => 0
  | k + 1 => if b / 2 ^ k % 2 = 1 then s1 a b k ^^^ (a * 2 ^ k) else s1 a b k
def s2 (y : Nat) : Nat → Nat
  | 0 => y
  | k + 1 => if s2 y k / 2 ^ (6 - k) % 2 = 1 then s2 y k ^^^ (19 * 2 ^ (2 - k)) else s2 y k
theorem dbl_lt : ∀ a : Fin 16, dbl a.val < 16 := by decide
theorem pr_lt : ∀ a b : Fin 16, ∀ k : Fin 5, (pr a.val b.val k.val).1 < 16 ∧ (pr a.val b.val k.val).2 < 16 := by decide +kernel
theorem s1_lt : ∀ a b : Fin 16, ∀ k : Fin 5, s1 a.val b.val k.val < 128 := by decide +kernel
theorem s2_lt : ∀ a b : Fin 16, ∀ k : Fin 4, s2 (s1 a.val b.val 4) k.val < 128 := by decide +kernel
theorem s_eq : ∀ a b : Fin 16, s2 (s1 a.val b.val 4) 3 = gmul a.val b.val := by decide +kernel
theorem gmul_lt {a b : Nat} (ha : a < 16) (hb : b < 16) : gmul a b < 16 := (pr_lt ⟨a, ha⟩ ⟨b, hb⟩ 4).2
def fprod (a b : Int) : Int := if inB a 0 15 && inB b 0 15 then ((gmul a.toNat b.toNat : Nat) : Int) else -1
def powN (k : Nat) : Nat := itN dbl k 1
def fpow (k : Int) : Int := if k < 0 then -1 else ((powN (k % 15).toNat : Nat) : Int)
theorem powN_lt : ∀ k : Fin 15, powN k.val < 16 := by decide
theorem gmul_two : ∀ a : Fin 16, gmul a.val 2 = dbl a.val := by decide +kernel
def powTab : List Int := [1, 2, 4, 8, 3, 6, 12, 11, 5, 10, 7, 14, 15, 13, 9]
theorem powTab_eq : ∀ k : Fin 15, zat powTab k.val = ((powN k.val : Nat) : Int) := by decide
theorem fpow_nat {k : Nat} (h : k < 15) : fpow (k : Int) = ((powN k : Nat) : Int) := by
  unfold fpow
  rw [if_neg (by omega)]
  have : ((k : Int) % 15).toNat = k := by omega
  rw [this]
def flog (a : Int) : Int := findI a powTab
/-- The quotient of a nibble by a nibble that is not 0. -/
def gquo (a b : Nat) : Nat := gmul a (powN ((15 - (flog (b : Int)).toNat) % 15))
def fquo (a b : Int) : Int := if inB a 0 15 && inB b 1 15 then ((gquo a.toNat b.toNat : Nat) : Int) else -1
theorem flog_rng : ∀ b : Fin 16, b.val ≠ 0 → 0 ≤ flog (b.val : Int) ∧ flog (b.val : Int) ≤ 14 := by decide +kernel
theorem gquo_lt : ∀ a b : Fin 16, gquo a.val b.val < 16 := by decide +kernel
theorem gquo_mul : ∀ a b : Fin 16, b.val ≠ 0 → gmul (gquo a.val b.val) b.val = a.val := by decide +kernel
theorem gquo_uni : ∀ a b x : Fin 16, b.val ≠ 0 → gmul x.val b.val = a.val → x.val = gquo a.val b.val := by decide +kernel

/-! ### doubled, FieldProduct -/
theorem doubled_i (a : Nat) (ha : a < 16) (w : World) :
    Calls Try.prog 90 #[.int .i64 a] w fun e w' => e = .returned (.int .i64 (dbl a : Nat)) ∧ w = w' := by
  by_cases h : 15 < 2 * a
  · have HX := Lib.hid (show bits .xor .i64 ((a : Int) * 2) 19 = ((dbl a : Nat) : Int) by
      have : ((a : Int) * 2) = ((2 * a : Nat) : Int) := by omega
      rw [this, dbl, if_pos h]
      exact i64_xor_nat (2 * a) 19 (by omega) (by omega))
    go_enter Try.func90, Try.ntmps90
    go_wp2
    go_ret
    exact ⟨ret_int HX.out, rfl⟩
  · have HX := Lib.hid (show ((a : Int) * 2) = ((dbl a : Nat) : Int) by rw [dbl, if_neg h]; omega)
    go_enter Try.func90, Try.ntmps90
    go_wp2
    go_ret
    exact ⟨ret_int HX.out, rfl⟩
theorem and1_bit : ∀ b : Fin 16, (bits .and .i64 (b.val : Int) 1 != 0) = decide (b.val / 2 ^ 0 % 2 = 1) := by decide +kernel
theorem and2_bit : ∀ b : Fin 16, (bits .and .i64 (b.val : Int) 2 != 0) = decide (b.val / 2 ^ 1 % 2 = 1) := by decide +kernel
theorem and4_bit : ∀ b : Fin 16, (bits .and .i64 (b.val : Int) 4 != 0) = decide (b.val / 2 ^ 2 % 2 = 1) := by decide +kernel
theorem and8_bit : ∀ b : Fin 16, (bits .and .i64 (b.val : Int) 8 != 0) = decide (b.val / 2 ^ 3 % 2 = 1) := by decide +kernel
theorem fieldProduct_n (a b : Nat) (ha : a < 16) (hb : b < 16) (w : World) :
    Calls Try.prog 82 #[.int .i64 a, .int .i64 b] w fun e w' => e = .returned (.int .i64 (gmul a b : Nat)) ∧ w = w' := by
  have h1 : inB (a : Int) 0 15 = true := inB_t.2 (by omega)
  have h2 : inB (b : Int) 0 15 = true := inB_t.2 (by omega)
  go_enter Try.func82, Try.ntmps82
  go_wp2_with (go_at_call 78; refine (isNibble_any _ _).mono ?_; rintro e w' ⟨rfl, rfl⟩)
  go_loop [0, 5, 15] (fun x y i => ∃ k : Nat, k ≤ 4 ∧ i = .int .i64 k ∧ ∃ t u : Nat, x = .int .i64 t ∧ y = .int .i64 u ∧ t < 16 ∧ u < 16 ∧ Hid ((t, u) = pr a b k)) (fun _ _ i => 4 - (intOf i).toNat)
  case atStart => exact ⟨0, by omega, rfl, a, 0, rfl, rfl, ha, by omega, Lib.hid rfl⟩
  case round =>
    obtain ⟨k, hk, rfl, t, u, rfl, rfl, ht, hu, hp⟩ := hrel
    have HD := Lib.hid (dbl_lt ⟨t, ht⟩)
    have HU := Lib.hid (show u ^^^ t < 16 from Nat.xor_lt_two_pow (n := 4) hu ht)
    have HX := Lib.hid (i64_xor_nat u t (by omega) (by omega))
    rcases (show k = 0 ∨ k = 1 ∨ k = 2 ∨ k = 3 ∨ k = 4 by omega) with rfl | rfl | rfl | rfl | rfl
    · by_cases hbit : b / 2 ^ 0 % 2 = 1
      · have hv : (bits .and .i64 (b : Int) 1 != 0) = true := by rw [and1_bit ⟨b, hb⟩]; simpa using hbit
        have HP := Lib.hid (show (dbl t, u ^^^ t) = pr a b 1 by
          have e : pr a b 1 = (dbl (pr a b 0).1, if b / 2 ^ 0 % 2 = 1 then (pr a b 0).2 ^^^ (pr a b 0).1 else (pr a b 0).2) := rfl
          rw [e, ← hp.out, if_pos hbit])
        clear hbit
        go_wp2_with (go_at_call 90; refine (doubled_i t ht _).mono ?_; rintro e w' ⟨rfl, rfl⟩)
        go_round
        case rel => exact ⟨1, by omega, rfl, _, _, rfl, by rw [HX.out], HD.out, HU.out, HP⟩
        case measure => simp [intOf]
      · have hv : (bits .and .i64 (b : Int) 1 != 0) = false := by rw [and1_bit ⟨b, hb⟩]; simpa using hbit
        have HP := Lib.hid (show (dbl t, u) = pr a b 1 by
          have e : pr a b 1 = (dbl (pr a b 0).1, if b / 2 ^ 0 % 2 = 1 then (pr a b 0).2 ^^^ (pr a b 0).1 else (pr a b 0).2) := rfl
          rw [e, ← hp.out, if_neg hbit])
        clear hbit
        go_wp2_with (go_at_call 90; refine (doubled_i t ht _).mono ?_; rintro e w' ⟨rfl, rfl⟩)
        go_round
        case rel => exact ⟨1, by omega, rfl, _, _, rfl, rfl, HD.out, hu, HP⟩
        case measure => simp [intOf]
    · by_cases hbit : b / 2 ^ 1 % 2 = 1
      · have hv : (bits .and .i64 (b : Int) 2 != 0) = true := by rw [and2_bit ⟨b, hb⟩]; simpa using hbit
        have HP := Lib.hid (show (dbl t, u ^^^ t) = pr a b 2 by
          have e : pr a b 2 = (dbl (pr a b 1).1, if b / 2 ^ 1 % 2 = 1 then (pr a b 1).2 ^^^ (pr a b 1).1 else (pr a b 1).2) := rfl
          rw [e, ← hp.out, if_pos hbit])
        clear hbit
        go_wp2_with (go_at_call 90; refine (doubled_i t ht _).mono ?_; rintro e w' ⟨rfl, rfl⟩)
        go_round
        case rel => exact ⟨2, by omega, rfl, _, _, rfl, by rw [HX.out], HD.out, HU.out, HP⟩
        case measure => simp [intOf]
      · have hv : (bits .and .i64 (b : Int) 2 != 0) = false := by rw [and2_bit ⟨b, hb⟩]; simpa using hbit
        have HP := Lib.hid (show (dbl t, u) = pr a b 2 by
          have e : pr a b 2 = (dbl (pr a b 1).1, if b / 2 ^ 1 % 2 = 1 then (pr a b 1).2 ^^^ (pr a b 1).1 else (pr a b 1).2) := rfl
          rw [e, ← hp.out, if_neg hbit])
        clear hbit
        go_wp2_with (go_at_call 90; refine (doubled_i t ht _).mono ?_; rintro e w' ⟨rfl, rfl⟩)
        go_round
        case rel => exact ⟨2, by omega, rfl, _, _, rfl, rfl, HD.out, hu, HP⟩
        case measure => simp [intOf]
    · by_cases hbit : b / 2 ^ 2 % 2 = 1
      · have hv : (bits .and .i64 (b : Int) 4 != 0) = true := by rw [and4_bit ⟨b, hb⟩]; simpa using hbit
        have HP := Lib.hid (show (dbl t, u ^^^ t) = pr a b 3 by
          have e : pr a b 3 = (dbl (pr a b 2).1, if b / 2 ^ 2 % 2 = 1 then (pr a b 2).2 ^^^ (pr a b 2).1 else (pr a b 2).2) := rfl
          rw [e, ← hp.out, if_pos hbit])
        clear hbit
        go_wp2_with (go_at_call 90; refine (doubled_i t ht _).mono ?_; rintro e w' ⟨rfl, rfl⟩)
        go_round
        case rel => exact ⟨3, by omega, rfl, _, _, rfl, by rw [HX.out], HD.out, HU.out, HP⟩
        case measure => simp [intOf]
      · have hv : (bits .and .i64 (b : Int) 4 != 0) = false := by rw [and4_bit ⟨b, hb⟩]; simpa using hbit
        have HP := Lib.hid (show (dbl t, u) = pr a b 3 by
          have e : pr a b 3 = (dbl (pr a b 2).1, if b / 2 ^ 2 % 2 = 1 then (pr a b 2).2 ^^^ (pr a b 2).1 else (pr a b 2).2) := rfl
          rw [e, ← hp.out, if_neg hbit])
        clear hbit
        go_wp2_with (go_at_call 90; refine (doubled_i t ht _).mono ?_; rintro e w' ⟨rfl, rfl⟩)
        go_round
        case rel => exact ⟨3, by omega, rfl, _, _, rfl, rfl, HD.out, hu, HP⟩
        case measure => simp [intOf]
    · by_cases hbit : b / 2 ^ 3 % 2 = 1
      · have hv : (bits .and .i64 (b : Int) 8 != 0) = true := by rw [and8_bit ⟨b, hb⟩]; simpa using hbit
        have HP := Lib.hid (show (dbl t, u ^^^ t) = pr a b 4 by
          have e : pr a b 4 = (dbl (pr a b 3).1, if b / 2 ^ 3 % 2 = 1 then (pr a b 3).2 ^^^ (pr a b 3).1 else (pr a b 3).2) := rfl
          rw [e, ← hp.out, if_pos hbit])
        clear hbit
        go_wp2_with (go_at_call 90; refine (doubled_i t ht _).mono ?_; rintro e w' ⟨rfl, rfl⟩)
        go_round
        case rel => exact ⟨4, by omega, rfl, _, _, rfl, by rw [HX.out], HD.out, HU.out, HP⟩
        case measure => simp [intOf]
      · have hv : (bits .and .i64 (b : Int) 8 != 0) = false := by rw [and8_bit ⟨b, hb⟩]; simpa using hbit
        have HP := Lib.hid (show (dbl t, u) = pr a b 4 by
          have e : pr a b 4 = (dbl (pr a b 3).1, if b / 2 ^ 3 % 2 = 1 then (pr a b 3).2 ^^^ (pr a b 3).1 else (pr a b 3).2) := rfl
          rw [e, ← hp.out, if_neg hbit])
        clear hbit
        go_wp2_with (go_at_call 90; refine (doubled_i t ht _).mono ?_; rintro e w' ⟨rfl, rfl⟩)
        go_round
        case rel => exact ⟨4, by omega, rfl, _, _, rfl, rfl, HD.out, hu, HP⟩
        case measure => simp [intOf]
    · go_wp2
      go_ret
      exact ⟨ret_int (by show (u : Int) = ((pr a b 4).2 : Nat); rw [← hp.out]), rfl⟩
theorem fieldProduct_i (a b : Int) (w : World) :
    Calls Try.prog 82 #[.int .i64 a, .int .i64 b] w fun e w' => e = .returned (.int .i64 (fprod a b)) ∧ w = w' := by
  cases h1 : inB a 0 15 <;> cases h2 : inB b 0 15
  iterate 3
    · have HF := Lib.hid (show fprod a b = -1 by simp [fprod, h1, h2])
      go_enter Try.func82, Try.ntmps82
      go_wp2_with (go_at_call 78; refine (isNibble_any _ _).mono ?_; rintro e w' ⟨rfl, rfl⟩)
      go_ret
      exact ⟨ret_int HF.out.symm, rfl⟩
  · have b1 := inB_t.1 h1
    have b2 := inB_t.1 h2
    obtain ⟨x, rfl⟩ := Int.eq_ofNat_of_zero_le b1.1
    obtain ⟨y, rfl⟩ := Int.eq_ofNat_of_zero_le b2.1
    simpa [fprod, h1, h2] using fieldProduct_n x y (by omega) (by omega) w
theorem sh0_bit : ∀ b : Fin 16, (bits .and .i64 (b.val : Int) 1 == 1) = decide (b.val / 2 ^ 0 % 2 = 1) := by decide +kernel
theorem sh1_bit : ∀ b : Fin 16, (bits .and .i64 ((b.val : Int) / 2) 1 == 1) = decide (b.val / 2 ^ 1 % 2 = 1) := by decide +kernel
theorem sh2_bit : ∀ b : Fin 16, (bits .and .i64 ((b.val : Int) / 4) 1 == 1) = decide (b.val / 2 ^ 2 % 2 = 1) := by decide +kernel
theorem sh3_bit : ∀ b : Fin 16, (bits .and .i64 ((b.val : Int) / 8) 1 == 1) = decide (b.val / 2 ^ 3 % 2 = 1) := by decide +kernel
theorem st6_bit : ∀ b : Fin 128, (bits .and .i64 ((b.val : Int) / 64) 1 == 1) = decide (b.val / 2 ^ 6 % 2 = 1) := by decide +kernel
theorem st5_bit : ∀ b : Fin 128, (bits .and .i64 ((b.val : Int) / 32) 1 == 1) = decide (b.val / 2 ^ 5 % 2 = 1) := by decide +kernel
theorem st4_bit : ∀ b : Fin 128, (bits .and .i64 ((b.val : Int) / 16) 1 == 1) = decide (b.val / 2 ^ 4 % 2 = 1) := by decide +kernel

/-! ### FieldPower -/
theorem powN_lt' {k : Nat} (h : k < 15) : powN k < 16 := powN_lt ⟨k, h⟩
theorem fieldPower_i (k : Int) (w : World) :
    Calls Try.prog 83 #[.int .i64 k] w fun e w' => e = .returned (.int .i64 (fpow k)) ∧ w = w' := by
  by_cases h0 : k < 0
  · have HF := Lib.hid (show fpow k = -1 by simp [fpow, h0])
    go_enter Try.func83, Try.ntmps83
    go_wp2
    go_ret
    exact ⟨ret_int HF.out.symm, rfl⟩
  · obtain ⟨n, hn⟩ := Int.eq_ofNat_of_zero_le (show 0 ≤ k % 15 by omega)
    have hn15 : n < 15 := by omega
    have HF := Lib.hid (show fpow k = ((powN n : Nat) : Int) by rw [fpow, if_neg h0, hn]; rfl)
    have HN := Lib.hid hn
    clear hn
    go_enter Try.func83, Try.ntmps83
    go_wp2
    rw [HN.out]
    go_loop [3, 8] (fun y i => ∃ j : Nat, j ≤ n ∧ i = .int .i64 j ∧ ∃ u : Nat, y = .int .i64 u ∧ u < 16 ∧ Hid (u = powN j)) (fun _ i => n - (intOf i).toNat)
    case atStart => exact ⟨0, Nat.zero_le _, rfl, 1, rfl, by omega, Lib.hid rfl⟩
    case round =>
      obtain ⟨j, hj, rfl, u, rfl, hu, hp⟩ := hrel
      by_cases hlt : j < n
      · have HD := Lib.hid (dbl_lt ⟨u, hu⟩)
        go_wp2_with (go_at_call 90; refine (doubled_i u hu _).mono ?_; rintro e w' ⟨rfl, rfl⟩)
        go_round
        case rel => exact ⟨j + 1, by omega, by go_num, _, rfl, HD.out, Lib.hid (by rw [hp.out]; rfl)⟩
        case measure => simp [intOf]; omega
      · obtain rfl : j = n := by omega
        go_wp2
        go_ret
        exact ⟨ret_int (by rw [HF.out, hp.out]), rfl⟩

/-! ### FieldLog -/
theorem powTab_len : powTab.length = 15 := rfl
theorem fieldLog_i (a : Int) (w : World) :
    Calls Try.prog 84 #[.int .i64 a] w fun e w' => e = .returned (.int .i64 (flog a)) ∧ w = w' := by
  go_enter Try.func84, Try.ntmps84
  go_wp2
  go_loop [4] (fun i => ∃ k : Nat, k ≤ 15 ∧ i = .int .i64 k ∧ Hid (∀ j, j < k → zat powTab j ≠ a)) (fun i => 15 - (intOf i).toNat)
  case atStart => exact ⟨0, Nat.zero_le _, rfl, Lib.hid (fun j hj => absurd hj (by omega))⟩
  case round =>
    obtain ⟨k, hk, rfl, hne⟩ := hrel
    by_cases hlt : k < 15
    · have HP := Lib.hid (show fpow (k : Int) = zat powTab k by rw [fpow_nat hlt]; exact (powTab_eq ⟨k, hlt⟩).symm)
      by_cases he : zat powTab k = a
      · have HF := Lib.hid (findI_some (by rw [powTab_len]; exact hlt) he hne.out)
        have hv : (fpow (k : Int) == a) = true := by rw [HP.out]; simp [he]
        clear he
        go_wp2_with (go_at_call 83; refine (fieldPower_i _ _).mono ?_; rintro e w' ⟨rfl, rfl⟩)
        go_ret
        exact ⟨ret_int HF.out.symm, rfl⟩
      · have HS := Lib.hid (ne_step hne.out he)
        have hv : (fpow (k : Int) == a) = false := by rw [HP.out]; simp [he]
        clear he
        go_wp2_with (go_at_call 83; refine (fieldPower_i _ _).mono ?_; rintro e w' ⟨rfl, rfl⟩)
        go_round
        case rel => exact ⟨k + 1, by omega, by go_num, HS⟩
        case measure => simp [intOf]; omega
    · obtain rfl : k = 15 := by omega
      have HF := Lib.hid (findI_none (zs := powTab) (fun j hj => hne.out j (by rw [powTab_len] at hj; omega)))
      go_wp2
      go_ret
      exact ⟨ret_int HF.out.symm, rfl⟩

/-! ### FieldQuotient -/
theorem fieldQuotient_i (a b : Int) (w : World) :
    Calls Try.prog 81 #[.int .i64 a, .int .i64 b] w fun e w' => e = .returned (.int .i64 (fquo a b)) ∧ w = w' := by
  cases h1 : inB a 0 15 <;> cases h2 : inB b 1 15
  iterate 3
    · have HF := Lib.hid (show fquo a b = -1 by simp [fquo, h1, h2])
      go_enter Try.func81, Try.ntmps81
      go_wp2_with (first | (go_at_call 78; refine (isNibble_any _ _).mono ?_; rintro e w' ⟨rfl, rfl⟩) | (go_at_call 49; refine (within_any _ _ _ _).mono ?_; rintro e w' ⟨rfl, rfl⟩))
      go_ret
      exact ⟨ret_int HF.out.symm, rfl⟩
  · have b1 := inB_t.1 h1
    have b2 := inB_t.1 h2
    obtain ⟨x, rfl⟩ := Int.eq_ofNat_of_zero_le b1.1
    obtain ⟨y, rfl⟩ := Int.eq_ofNat_of_zero_le (show 0 ≤ b by omega)
    have hy : y < 16 := by omega
    have hr := flog_rng ⟨y, hy⟩ (by show y ≠ 0; omega)
    simp only at hr
    have HF := Lib.hid (show fquo (x : Int) (y : Int) = fprod x (fpow (15 - flog y)) by
      have hq : powN ((15 - (flog (y : Int)).toNat) % 15) < 16 := powN_lt' (Nat.mod_lt _ (by omega))
      have e1 : fpow (15 - flog y) = ((powN ((15 - (flog (y : Int)).toNat) % 15) : Nat) : Int) := by
        rw [fpow, if_neg (by omega)]
        have : ((15 - flog (y : Int)) % 15).toNat = (15 - (flog (y : Int)).toNat) % 15 := by omega
        rw [this]
      have e2 : inB ((powN ((15 - (flog (y : Int)).toNat) % 15) : Nat) : Int) 0 15 = true := inB_t.2 (by omega)
      rw [e1, fprod, h1, e2]
      simp [fquo, h1, h2, gquo])
    go_enter Try.func81, Try.ntmps81
    go_wp2_with (first | (go_at_call 78; refine (isNibble_any _ _).mono ?_; rintro e w' ⟨rfl, rfl⟩) | (go_at_call 49; refine (within_any _ _ _ _).mono ?_; rintro e w' ⟨rfl, rfl⟩) | (go_at_call 84; refine (fieldLog_i _ _).mono ?_; rintro e w' ⟨rfl, rfl⟩) | (go_at_call 83; refine (fieldPower_i _ _).mono ?_; rintro e w' ⟨rfl, rfl⟩) | (go_at_call 82; refine (fieldProduct_i _ _ _).mono ?_; rintro e w' ⟨rfl, rfl⟩))
    go_ret
    exact ⟨ret_int HF.out.symm, rfl⟩
end Go.Proofs.Ytkmbblooofmnpaa
