/- The field of sixteen: contracts of FieldProduct, FieldPower, FieldLog, FieldQuotient, program and reference; both return the same plain functions, which are finite tables as far as nibbles go. -/
import Derived.Test.YtbdpmibbfnkabaaSl
import Derived.Test.YtbdpmibbfnkabaaNum2
namespace Go.Proofs.Ytbdpmibbfnkabaa
open Go.RowKit Go.Deep

/-! ### plain functions on nibbles -/
def dbl (a : Nat) : Nat := if 15 < 2 * a then (2 * a) ^^^ 19 else 2 * a
/-- After k rounds of the program's product: a doubled k times, and what has been summed. -/
def pr (a b : Nat) : Nat → Nat × Nat
  | 0 => (a, 0)
  | k + 1 => (dbl (pr a b k).1, if b / 2 ^ k % 2 = 1 then (pr a b k).2 ^^^ (pr a b k).1 else (pr a b k).2)
def gmul (a b : Nat) : Nat := (pr a b 4).2
/-- The reference's product: first the carry-less product, then the remainder. -/
def s1 (a b : Nat) : Nat → Nat
  | 0 => 0
  | k + 1 => if b / 2 ^ k % 2 = 1 then s1 a b k ^^^ (a * 2 ^ k) else s1 a b k
def s2 (y : Nat) : Nat → Nat
  | 0 => y
  | k + 1 => if s2 y k / 2 ^ (6 - k) % 2 = 1 then s2 y k ^^^ (19 * 2 ^ (2 - k)) else s2 y k
theorem dbl_lt : ∀ a : Fin 16, dbl a.val < 16 := by decide
theorem pr_lt : ∀ a b : Fin 16, ∀ k : Fin 5, (pr a.val b.val k.val).1 < 16 ∧ (pr a.val b.val k.val).2 < 16 := by decide +kernel
theorem s1_lt : ∀ a b : Fin 16, ∀ k : Fin 5, s1 a.val b.val k.val < 128 := by decide +kernel
theorem s2_lt : ∀ a b : Fin 16, ∀ k : Fin 4, s2 (s1 a.val b.val 4) k.val < 128 := by decide +kernel
theorem s_eq : ∀ a b : Fin 16, s2 (s1 a.val b.val 4) 3 = gmul a.val b.val := by decide +kernel
theorem gmul_lt {a b : Nat} (ha : a < 16) (hb : b < 16) : gmul a b < 16 := (pr_lt ⟨a, ha⟩ ⟨b, hb⟩ 4).2
def fprod (a b : Int) : Int := if inB a 0 15 && inB b 0 15 then ((gmul a.toNat b.toNat : Nat) : Int) else -1
def powN (k : Nat) : Nat := itN dbl k 1
def fpow (k : Int) : Int := if k < 0 then -1 else ((powN (k % 15).toNat : Nat) : Int)
theorem powN_lt : ∀ k : Fin 15, powN k.val < 16 := by decide
theorem gmul_two : ∀ a : Fin 16, gmul a.val 2 = dbl a.val := by decide +kernel
def powTab : List Int := [1, 2, 4, 8, 3, 6, 12, 11, 5, 10, 7, 14, 15, 13, 9]
theorem powTab_eq : ∀ k : Fin 15, zat powTab k.val = ((powN k.val : Nat) : Int) := by decide
theorem fpow_nat {k : Nat} (h : k < 15) : fpow (k : Int) = ((powN k : Nat) : Int) := by
  unfold fpow
  rw [if_neg (by omega)]
  have : ((k : Int) % 15).toNat = k := by omega
  rw [this]
def flog (a : Int) : Int := findI a powTab
/-- The quotient of a nibble by a nibble that is not 0. -/
def gquo (a b : Nat) : Nat := gmul a (powN ((15 - (flog (b : Int)).toNat) % 15))
def fquo (a b : Int) : Int := if inB a 0 15 && inB b 1 15 then ((gquo a.toNat b.toNat : Nat) : Int) else -1
theorem flog_rng : ∀ b : Fin 16, b.val ≠ 0 → 0 ≤ flog (b.val : Int) ∧ flog (b.val : Int) ≤ 14 := by decide +kernel
theorem gquo_lt : ∀ a b : Fin 16, gquo a.val b.val < 16 := by decide +kernel
theorem gquo_mul : ∀ a b : Fin 16, b.val ≠ 0 → gmul (gquo a.val b.val) b.val = a.val := by decide +kernel
theorem gquo_uni : ∀ a b x : Fin 16, b.val ≠ 0 → gmul x.val b.val = a.val → x.val = gquo a.val b.val := by decide +kernel

/-! ### doubled, FieldProduct -/
theorem doubled_i (a : Nat) (ha : a < 16) (w : World) :
    Calls Try.prog 44 #[.int .i64 a] w fun e w' => e = .returned (.int .i64 (dbl a : Nat)) ∧ w = w' := by
  by_cases h : 15 < 2 * a
  · have HX := Lib.hid (show bits .xor .i64 ((a : Int) * 2) 19 = ((dbl a : Nat) : Int) by
      have : ((a : Int) * 2) = ((2 * a : Nat) : Int) := by omega
      rw [this, dbl, if_pos h]
      exact i64_xor_nat (2 * a) 19 (by omega) (by omega))
    go_enter Try.func44, Try.ntmps44
    go_wp2
    go_ret
    exact ⟨ret_int HX.out, rfl⟩
  · have HX := Lib.hid (show ((a : Int) * 2) = ((dbl a : Nat) : Int) by rw [dbl, if_neg h]; omega)
    go_enter Try.func44, Try.ntmps44
    go_wp2
    go_ret
    exact ⟨ret_int HX.out, rfl⟩
theorem and1_bit : ∀ b : Fin 16, (bits .and .i64 (b.val : Int) 1 != 0) = decide (b.val / 2 ^ 0 % 2 = 1) := by decide +kernel
theorem and2_bit : ∀ b : Fin 16, (bits .and .i64 (b.val : Int) 2 != 0) = decide (b.val / 2 ^ 1 % 2 = 1) := by decide +kernel
theorem and4_bit : ∀ b : Fin 16, (bits .and .i64 (b.val : Int) 4 != 0) = decide (b.val / 2 ^ 2 % 2 = 1) := by decide +kernel
theorem and8_bit : ∀ b : Fin 16, (bits .and .i64 (b.val : Int) 8 != 0) = decide (b.val / 2 ^ 3 % 2 = 1) := by decide +kernel
theorem fieldProduct_n (a b : Nat) (ha : a < 16) (hb : b < 16) (w : World) :
    Calls Try.prog 16 #[.int .i64 a, .int .i64 b] w fun e w' => e = .returned (.int .i64 (gmul a b : Nat)) ∧ w = w' := by
  have h1 : inB (a : Int) 0 15 = true := inB_t.2 (by omega)
  have h2 : inB (b : Int) 0 15 = true := inB_t.2 (by omega)
  go_enter Try.func16, Try.ntmps16
  go_wp2_with (go_at_call 43; refine (isNibble_any _ _).mono ?_; rintro e w' ⟨rfl, rfl⟩)
  go_loop [0, 5, 15] (fun x y i => ∃ k : Nat, k ≤ 4 ∧ i = .int .i64 k ∧ ∃ t u : Nat, x = .int .i64 t ∧ y = .int .i64 u ∧ t < 16 ∧ u < 16 ∧ Hid ((t, u) = pr a b k)) (fun _ _ i => 4 - (intOf i).toNat)
  case atStart => exact ⟨0, by omega, rfl, a, 0, rfl, rfl, ha, by omega, Lib.hid rfl⟩
  case round =>
    obtain ⟨k, hk, rfl, t, u, rfl, rfl, ht, hu, hp⟩ := hrel
    have HD := Lib.hid (dbl_lt ⟨t, ht⟩)
    have HU := Lib.hid (show u ^^^ t < 16 from Nat.xor_lt_two_pow (n := 4) hu ht)
    have HX := Lib.hid (i64_xor_nat u t (by omega) (by omega))
    rcases (show k = 0 ∨ k = 1 ∨ k = 2 ∨ k = 3 ∨ k = 4 by omega) with rfl | rfl | rfl | rfl | rfl
    · by_cases hbit : b / 2 ^ 0 % 2 = 1
      · have hv : (bits .and .i64 (b : Int) 1 != 0) = true := by rw [and1_bit ⟨b, hb⟩]; simpa using hbit
        have HP := Lib.hid (show (dbl t, u ^^^ t) = pr a b 1 by
          have e : pr a b 1 = (dbl (pr a b 0).1, if b / 2 ^ 0 % 2 = 1 then (pr a b 0).2 ^^^ (pr a b 0).1 else (pr a b 0).2) := rfl
          rw [e, ← hp.out, if_pos hbit])
        clear hbit
        go_wp2_with (go_at_call 44; refine (doubled_i t ht _).mono ?_; rintro e w' ⟨rfl, rfl⟩)
        go_round
        case rel => exact ⟨1, by omega, rfl, _, _, rfl, by rw [HX.out], HD.out, HU.out, HP⟩
        case measure => simp [intOf]
      · have hv : (bits .and .i64 (b : Int) 1 != 0) = false := by rw [and1_bit ⟨b, hb⟩]; simpa using hbit
        have HP := Lib.hid (show (dbl t, u) = pr a b 1 by
          have e : pr a b 1 = (dbl (pr a b 0).1, if b / 2 ^ 0 % 2 = 1 then (pr a b 0).2 ^^^ (pr a b 0).1 else (pr a b 0).2) := rfl
          rw [e, ← hp.out, if_neg hbit])
        clear hbit
        go_wp2_with (go_at_call 44; refine (doubled_i t ht _).mono ?_; rintro e w' ⟨rfl, rfl⟩)
        go_round
        case rel => exact ⟨1, by omega, rfl, _, _, rfl, rfl, HD.out, hu, HP⟩
        case measure => simp [intOf]
    · by_cases hbit : b / 2 ^ 1 % 2 = 1
      · have hv : (bits .and .i64 (b : Int) 2 != 0) = true := by rw [and2_bit ⟨b, hb⟩]; simpa using hbit
        have HP := Lib.hid (show (dbl t, u ^^^ t) = pr a b 2 by
          have e : pr a b 2 = (dbl (pr a b 1).1, if b / 2 ^ 1 % 2 = 1 then (pr a b 1).2 ^^^ (pr a b 1).1 else (pr a b 1).2) := rfl
          rw [e, ← hp.out, if_pos hbit])
        clear hbit
        go_wp2_with (go_at_call 44; refine (doubled_i t ht _).mono ?_; rintro e w' ⟨rfl, rfl⟩)
        go_round
        case rel => exact ⟨2, by omega, rfl, _, _, rfl, by rw [HX.out], HD.out, HU.out, HP⟩
        case measure => simp [intOf]
      · have hv : (bits .and .i64 (b : Int) 2 != 0) = false := by rw [and2_bit ⟨b, hb⟩]; simpa using hbit
        have HP := Lib.hid (show (dbl t, u) = pr a b 2 by
          have e : pr a b 2 = (dbl (pr a b 1).1, if b / 2 ^ 1 % 2 = 1 then (pr a b 1).2 ^^^ (pr a b 1).1 else (pr a b 1).2) := rfl
          rw [e, ← hp.out, if_neg hbit])
        clear hbit
        go_wp2_with (go_at_call 44; refine (doubled_i t ht _).mono ?_; rintro e w' ⟨rfl, rfl⟩)
        go_round
        case rel => exact ⟨2, by omega, rfl, _, _, rfl, rfl, HD.out, hu, HP⟩
        case measure => simp [intOf]
    · by_cases hbit : b / 2 ^ 2 % 2 = 1
      · have hv : (bits .and .i64 (b : Int) 4 != 0) = true := by rw [and4_bit ⟨b, hb⟩]; simpa using hbit
        have HP := Lib.hid (show (dbl t, u ^^^ t) = pr a b 3 by
          have e : pr a b 3 = (dbl (pr a b 2).1, if b / 2 ^ 2 % 2 = 1 then (pr a b 2).2 ^^^ (pr a b 2).1 else (pr a b 2).2) := rfl
          rw [e, ← hp.out, if_pos hbit])
        clear hbit
        go_wp2_with (go_at_call 44; refine (doubled_i t ht _).mono ?_; rintro e w' ⟨rfl, rfl⟩)
        go_round
        case rel => exact ⟨3, by omega, rfl, _, _, rfl, by rw [HX.out], HD.out, HU.out, HP⟩
        case measure => simp [intOf]
      · have hv : (bits .and .i64 (b : Int) 4 != 0) = false := by rw [and4_bit ⟨b, hb⟩]; simpa using hbit
        have HP := Lib.hid (show (dbl t, u) = pr a b 3 by
          have e : pr a b 3 = (dbl (pr a b 2).1, if b / 2 ^ 2 % 2 = 1 then (pr a b 2).2 ^^^ (pr a b 2).1 else (pr a b 2).2) := rfl
          rw [e, ← hp.out, if_neg hbit])
        clear hbit
        go_wp2_with (go_at_call 44; refine (doubled_i t ht _).mono ?_; rintro e w' ⟨rfl, rfl⟩)
        go_round
        case rel => exact ⟨3, by omega, rfl, _, _, rfl, rfl, HD.out, hu, HP⟩
        case measure => simp [intOf]
    · by_cases hbit : b / 2 ^ 3 % 2 = 1
      · have hv : (bits .and .i64 (b : Int) 8 != 0) = true := by rw [and8_bit ⟨b, hb⟩]; simpa using hbit
        have HP := Lib.hid (show (dbl t, u ^^^ t) = pr a b 4 by
          have e : pr a b 4 = (dbl (pr a b 3).1, if b / 2 ^ 3 % 2 = 1 then (pr a b 3).2 ^^^ (pr a b 3).1 else (pr a b 3).2) := rfl
          rw [e, ← hp.out, if_pos hbit])
        clear hbit
        go_wp2_with (go_at_call 44; refine (doubled_i t ht _).mono ?_; rintro e w' ⟨rfl, rfl⟩)
        go_round
        case rel => exact ⟨4, by omega, rfl, _, _, rfl, by rw [HX.out], HD.out, HU.out, HP⟩
        case measure => simp [intOf]
      · have hv : (bits .and .i64 (b : Int) 8 != 0) = false := by rw [and8_bit ⟨b, hb⟩]; simpa using hbit
        have HP := Lib.hid (show (dbl t, u) = pr a b 4 by
          have e : pr a b 4 = (dbl (pr a b 3).1, if b / 2 ^ 3 % 2 = 1 then (pr a b 3).2 ^^^ (pr a b 3).1 else (pr a b 3).2) := rfl
          rw [e, ← hp.out, if_neg hbit])
        clear hbit
        go_wp2_with (go_at_call 44; refine (doubled_i t ht _).mono ?_; rintro e w' ⟨rfl, rfl⟩)
        go_round
        case rel => exact ⟨4, by omega, rfl, _, _, rfl, rfl, HD.out, hu, HP⟩
        case measure => simp [intOf]
    · go_wp2
      go_ret
      exact ⟨ret_int (by show (u : Int) = ((pr a b 4).2 : Nat); rw [← hp.out]), rfl⟩
theorem fieldProduct_i (a b : Int) (w : World) :
    Calls Try.prog 16 #[.int .i64 a, .int .i64 b] w fun e w' => e = .returned (.int .i64 (fprod a b)) ∧ w = w' := by
  cases h1 : inB a 0 15 <;> cases h2 : inB b 0 15
  iterate 3
    · have HF := Lib.hid (show fprod a b = -1 by simp [fprod, h1, h2])
      go_enter Try.func16, Try.ntmps16
      go_wp2_with (go_at_call 43; refine (isNibble_any _ _).mono ?_; rintro e w' ⟨rfl, rfl⟩)
      go_ret
      exact ⟨ret_int HF.out.symm, rfl⟩
  · have b1 := inB_t.1 h1
    have b2 := inB_t.1 h2
    obtain ⟨x, rfl⟩ := Int.eq_ofNat_of_zero_le b1.1
    obtain ⟨y, rfl⟩ := Int.eq_ofNat_of_zero_le b2.1
    simpa [fprod, h1, h2] using fieldProduct_n x y (by omega) (by omega) w
theorem sh0_bit : ∀ b : Fin 16, (bits .and .i64 (b.val : Int) 1 == 1) = decide (b.val / 2 ^ 0 % 2 = 1) := by decide +kernel
theorem sh1_bit : ∀ b : Fin 16, (bits .and .i64 ((b.val : Int) / 2) 1 == 1) = decide (b.val / 2 ^ 1 % 2 = 1) := by decide +kernel
theorem sh2_bit : ∀ b : Fin 16, (bits .and .i64 ((b.val : Int) / 4) 1 == 1) = decide (b.val / 2 ^ 2 % 2 = 1) := by decide +kernel
theorem sh3_bit : ∀ b : Fin 16, (bits .and .i64 ((b.val : Int) / 8) 1 == 1) = decide (b.val / 2 ^ 3 % 2 = 1) := by decide +kernel
theorem st6_bit : ∀ b : Fin 128, (bits .and .i64 ((b.val : Int) / 64) 1 == 1) = decide (b.val / 2 ^ 6 % 2 = 1) := by decide +kernel
theorem st5_bit : ∀ b : Fin 128, (bits .and .i64 ((b.val : Int) / 32) 1 == 1) = decide (b.val / 2 ^ 5 % 2 = 1) := by decide +kernel
theorem st4_bit : ∀ b : Fin 128, (bits .and .i64 ((b.val : Int) / 16) 1 == 1) = decide (b.val / 2 ^ 4 % 2 = 1) := by decide +kernel
set_option maxHeartbeats 1000000 in
theorem fieldProduct_sn (a b : Nat) (ha : a < 16) (hb : b < 16) (w : World) :
    Calls Try.prog 15 #[.int .i64 a, .int .i64 b] w fun e w' => e = .returned (.int .i64 (gmul a b : Nat)) ∧ w = w' := by
  have h1 : inB (a : Int) 0 15 = true := inB_t.2 (by omega)
  have h2 : inB (b : Int) 0 15 = true := inB_t.2 (by omega)
  have HS1 := Lib.hid (s1_lt ⟨a, ha⟩ ⟨b, hb⟩)
  have HS2 := Lib.hid (s2_lt ⟨a, ha⟩ ⟨b, hb⟩)
  go_enter Try.func15, Try.ntmps15
  go_wp2_with (go_at_call 42; refine (l01In_any _ _ _ _).mono ?_; rintro e w' ⟨rfl, rfl⟩)
  go_loop [5, 6] (fun y i => ∃ k : Nat, k ≤ 4 ∧ i = .int .i64 k ∧ ∃ u : Nat, y = .int .i64 u ∧ u < 128 ∧ Hid (u = s1 a b k)) (fun _ i => 4 - (intOf i).toNat)
  case atStart => exact ⟨0, by omega, rfl, 0, rfl, by omega, Lib.hid rfl⟩
  case round =>
    obtain ⟨k, hk, rfl, u, rfl, hu, hp⟩ := hrel
    rcases (show k = 0 ∨ k = 1 ∨ k = 2 ∨ k = 3 ∨ k = 4 by omega) with rfl | rfl | rfl | rfl | rfl
    · by_cases hbit : b / 2 ^ 0 % 2 = 1
      · have hv : (bits .and .i64 (b : Int) 1 == 1) = true := by rw [sh0_bit ⟨b, hb⟩]; simpa using hbit
        have HP := Lib.hid (show u ^^^ (a * 2 ^ 0) = s1 a b 1 by
          have e : s1 a b 1 = if b / 2 ^ 0 % 2 = 1 then s1 a b 0 ^^^ (a * 2 ^ 0) else s1 a b 0 := rfl
          rw [e, ← hp.out, if_pos hbit])
        have HX := Lib.hid (show bits .xor .i64 (u : Int) (a : Int) = ((u ^^^ (a * 2 ^ 0) : Nat) : Int) by
          have e : (a : Int) = ((a * 2 ^ 0 : Nat) : Int) := by omega
          rw [e]; exact i64_xor_nat u (a * 2 ^ 0) (by omega) (by omega))
        clear hbit
        go_wp2
        go_round
        case rel => exact ⟨1, by omega, rfl, _, by rw [HX.out], by rw [HP.out]; exact HS1.out 1, HP⟩
        case measure => simp [intOf]
      · have hv : (bits .and .i64 (b : Int) 1 == 1) = false := by rw [sh0_bit ⟨b, hb⟩]; simpa using hbit
        have HP := Lib.hid (show u = s1 a b 1 by
          have e : s1 a b 1 = if b / 2 ^ 0 % 2 = 1 then s1 a b 0 ^^^ (a * 2 ^ 0) else s1 a b 0 := rfl
          rw [e, ← hp.out, if_neg hbit])
        clear hbit
        go_wp2
        go_round
        case rel => exact ⟨1, by omega, rfl, _, rfl, hu, HP⟩
        case measure => simp [intOf]
    · by_cases hbit : b / 2 ^ 1 % 2 = 1
      · have hv : (bits .and .i64 ((b : Int) / 2) 1 == 1) = true := by rw [sh1_bit ⟨b, hb⟩]; simpa using hbit
        have HP := Lib.hid (show u ^^^ (a * 2 ^ 1) = s1 a b 2 by
          have e : s1 a b 2 = if b / 2 ^ 1 % 2 = 1 then s1 a b 1 ^^^ (a * 2 ^ 1) else s1 a b 1 := rfl
          rw [e, ← hp.out, if_pos hbit])
        have HX := Lib.hid (show bits .xor .i64 (u : Int) ((a : Int) * 2) = ((u ^^^ (a * 2 ^ 1) : Nat) : Int) by
          have e : ((a : Int) * 2) = ((a * 2 ^ 1 : Nat) : Int) := by omega
          rw [e]; exact i64_xor_nat u (a * 2 ^ 1) (by omega) (by omega))
        clear hbit
        go_wp2
        go_round
        case rel => exact ⟨2, by omega, rfl, _, by rw [HX.out], by rw [HP.out]; exact HS1.out 2, HP⟩
        case measure => simp [intOf]
      · have hv : (bits .and .i64 ((b : Int) / 2) 1 == 1) = false := by rw [sh1_bit ⟨b, hb⟩]; simpa using hbit
        have HP := Lib.hid (show u = s1 a b 2 by
          have e : s1 a b 2 = if b / 2 ^ 1 % 2 = 1 then s1 a b 1 ^^^ (a * 2 ^ 1) else s1 a b 1 := rfl
          rw [e, ← hp.out, if_neg hbit])
        clear hbit
        go_wp2
        go_round
        case rel => exact ⟨2, by omega, rfl, _, rfl, hu, HP⟩
        case measure => simp [intOf]
    · by_cases hbit : b / 2 ^ 2 % 2 = 1
      · have hv : (bits .and .i64 ((b : Int) / 4) 1 == 1) = true := by rw [sh2_bit ⟨b, hb⟩]; simpa using hbit
        have HP := Lib.hid (show u ^^^ (a * 2 ^ 2) = s1 a b 3 by
          have e : s1 a b 3 = if b / 2 ^ 2 % 2 = 1 then s1 a b 2 ^^^ (a * 2 ^ 2) else s1 a b 2 := rfl
          rw [e, ← hp.out, if_pos hbit])
        have HX := Lib.hid (show bits .xor .i64 (u : Int) ((a : Int) * 4) = ((u ^^^ (a * 2 ^ 2) : Nat) : Int) by
          have e : ((a : Int) * 4) = ((a * 2 ^ 2 : Nat) : Int) := by omega
          rw [e]; exact i64_xor_nat u (a * 2 ^ 2) (by omega) (by omega))
        clear hbit
        go_wp2
        go_round
        case rel => exact ⟨3, by omega, rfl, _, by rw [HX.out], by rw [HP.out]; exact HS1.out 3, HP⟩
        case measure => simp [intOf]
      · have hv : (bits .and .i64 ((b : Int) / 4) 1 == 1) = false := by rw [sh2_bit ⟨b, hb⟩]; simpa using hbit
        have HP := Lib.hid (show u = s1 a b 3 by
          have e : s1 a b 3 = if b / 2 ^ 2 % 2 = 1 then s1 a b 2 ^^^ (a * 2 ^ 2) else s1 a b 2 := rfl
          rw [e, ← hp.out, if_neg hbit])
        clear hbit
        go_wp2
        go_round
        case rel => exact ⟨3, by omega, rfl, _, rfl, hu, HP⟩
        case measure => simp [intOf]
    · by_cases hbit : b / 2 ^ 3 % 2 = 1
      · have hv : (bits .and .i64 ((b : Int) / 8) 1 == 1) = true := by rw [sh3_bit ⟨b, hb⟩]; simpa using hbit
        have HP := Lib.hid (show u ^^^ (a * 2 ^ 3) = s1 a b 4 by
          have e : s1 a b 4 = if b / 2 ^ 3 % 2 = 1 then s1 a b 3 ^^^ (a * 2 ^ 3) else s1 a b 3 := rfl
          rw [e, ← hp.out, if_pos hbit])
        have HX := Lib.hid (show bits .xor .i64 (u : Int) ((a : Int) * 8) = ((u ^^^ (a * 2 ^ 3) : Nat) : Int) by
          have e : ((a : Int) * 8) = ((a * 2 ^ 3 : Nat) : Int) := by omega
          rw [e]; exact i64_xor_nat u (a * 2 ^ 3) (by omega) (by omega))
        clear hbit
        go_wp2
        go_round
        case rel => exact ⟨4, by omega, rfl, _, by rw [HX.out], by rw [HP.out]; exact HS1.out 4, HP⟩
        case measure => simp [intOf]
      · have hv : (bits .and .i64 ((b : Int) / 8) 1 == 1) = false := by rw [sh3_bit ⟨b, hb⟩]; simpa using hbit
        have HP := Lib.hid (show u = s1 a b 4 by
          have e : s1 a b 4 = if b / 2 ^ 3 % 2 = 1 then s1 a b 3 ^^^ (a * 2 ^ 3) else s1 a b 3 := rfl
          rw [e, ← hp.out, if_neg hbit])
        clear hbit
        go_wp2
        go_round
        case rel => exact ⟨4, by omega, rfl, _, rfl, hu, HP⟩
        case measure => simp [intOf]
    · have HE := Lib.hid (show s2 u 3 = gmul a b by rw [hp.out]; exact s_eq ⟨a, ha⟩ ⟨b, hb⟩)
      have HB : Hid (∀ k : Fin 4, s2 u k.val < 128) := Lib.hid (by rw [hp.out]; exact HS2.out)
      clear hp HS1 HS2
      go_wp2
      go_loop [5, 7] (fun y i => ∃ (x : Int) (j : Nat), i = .int .i64 x ∧ ((x = 6 ∧ j = 0) ∨ (x = 5 ∧ j = 1) ∨ (x = 4 ∧ j = 2) ∨ (x = 3 ∧ j = 3)) ∧ ∃ v : Nat, y = .int .i64 v ∧ v < 128 ∧ Hid (v = s2 u j)) (fun _ i => (intOf i).toNat)
      case atStart => exact ⟨6, 0, rfl, .inl ⟨rfl, rfl⟩, u, rfl, hu, Lib.hid rfl⟩
      case round =>
        obtain ⟨x, j, rfl, hj, v, rfl, hv7, hp⟩ := hrel
        rcases hj with ⟨rfl, rfl⟩ | ⟨rfl, rfl⟩ | ⟨rfl, rfl⟩ | ⟨rfl, rfl⟩
        · by_cases hbit : v / 2 ^ 6 % 2 = 1
          · have hv : (bits .and .i64 ((v : Int) / 64) 1 == 1) = true := by rw [st6_bit ⟨v, hv7⟩]; simpa using hbit
            have HP := Lib.hid (show v ^^^ 76 = s2 u 1 by
              have e : s2 u 1 = if s2 u 0 / 2 ^ (6 - 0) % 2 = 1 then s2 u 0 ^^^ (19 * 2 ^ (2 - 0)) else s2 u 0 := rfl
              rw [e, ← hp.out, if_pos hbit])
            have HX := Lib.hid (show bits .xor .i64 (v : Int) 76 = ((v ^^^ 76 : Nat) : Int) from i64_xor_nat v 76 (by omega) (by omega))
            clear hbit
            go_wp2
            go_round
            case rel => exact ⟨5, 1, rfl, .inr (.inl ⟨rfl, rfl⟩), _, by rw [HX.out], by rw [HP.out]; exact HB.out 1, HP⟩
            case measure => simp [intOf]
          · have hv : (bits .and .i64 ((v : Int) / 64) 1 == 1) = false := by rw [st6_bit ⟨v, hv7⟩]; simpa using hbit
            have HP := Lib.hid (show v = s2 u 1 by
              have e : s2 u 1 = if s2 u 0 / 2 ^ (6 - 0) % 2 = 1 then s2 u 0 ^^^ (19 * 2 ^ (2 - 0)) else s2 u 0 := rfl
              rw [e, ← hp.out, if_neg hbit])
            clear hbit
            go_wp2
            go_round
            case rel => exact ⟨5, 1, rfl, .inr (.inl ⟨rfl, rfl⟩), _, rfl, hv7, HP⟩
            case measure => simp [intOf]
        · by_cases hbit : v / 2 ^ 5 % 2 = 1
          · have hv : (bits .and .i64 ((v : Int) / 32) 1 == 1) = true := by rw [st5_bit ⟨v, hv7⟩]; simpa using hbit
            have HP := Lib.hid (show v ^^^ 38 = s2 u 2 by
              have e : s2 u 2 = if s2 u 1 / 2 ^ (6 - 1) % 2 = 1 then s2 u 1 ^^^ (19 * 2 ^ (2 - 1)) else s2 u 1 := rfl
              rw [e, ← hp.out, if_pos hbit])
            have HX := Lib.hid (show bits .xor .i64 (v : Int) 38 = ((v ^^^ 38 : Nat) : Int) from i64_xor_nat v 38 (by omega) (by omega))
            clear hbit
            go_wp2
            go_round
            case rel => exact ⟨4, 2, rfl, .inr (.inr (.inl ⟨rfl, rfl⟩)), _, by rw [HX.out], by rw [HP.out]; exact HB.out 2, HP⟩
            case measure => simp [intOf]
          · have hv : (bits .and .i64 ((v : Int) / 32) 1 == 1) = false := by rw [st5_bit ⟨v, hv7⟩]; simpa using hbit
            have HP := Lib.hid (show v = s2 u 2 by
              have e : s2 u 2 = if s2 u 1 / 2 ^ (6 - 1) % 2 = 1 then s2 u 1 ^^^ (19 * 2 ^ (2 - 1)) else s2 u 1 := rfl
              rw [e, ← hp.out, if_neg hbit])
            clear hbit
            go_wp2
            go_round
            case rel => exact ⟨4, 2, rfl, .inr (.inr (.inl ⟨rfl, rfl⟩)), _, rfl, hv7, HP⟩
            case measure => simp [intOf]
        · by_cases hbit : v / 2 ^ 4 % 2 = 1
          · have hv : (bits .and .i64 ((v : Int) / 16) 1 == 1) = true := by rw [st4_bit ⟨v, hv7⟩]; simpa using hbit
            have HP := Lib.hid (show v ^^^ 19 = s2 u 3 by
              have e : s2 u 3 = if s2 u 2 / 2 ^ (6 - 2) % 2 = 1 then s2 u 2 ^^^ (19 * 2 ^ (2 - 2)) else s2 u 2 := rfl
              rw [e, ← hp.out, if_pos hbit])
            have HX := Lib.hid (show bits .xor .i64 (v : Int) 19 = ((v ^^^ 19 : Nat) : Int) from i64_xor_nat v 19 (by omega) (by omega))
            clear hbit
            go_wp2
            go_round
            case rel => exact ⟨3, 3, rfl, .inr (.inr (.inr ⟨rfl, rfl⟩)), _, by rw [HX.out], by rw [HP.out]; exact HB.out 3, HP⟩
            case measure => simp [intOf]
          · have hv : (bits .and .i64 ((v : Int) / 16) 1 == 1) = false := by rw [st4_bit ⟨v, hv7⟩]; simpa using hbit
            have HP := Lib.hid (show v = s2 u 3 by
              have e : s2 u 3 = if s2 u 2 / 2 ^ (6 - 2) % 2 = 1 then s2 u 2 ^^^ (19 * 2 ^ (2 - 2)) else s2 u 2 := rfl
              rw [e, ← hp.out, if_neg hbit])
            clear hbit
            go_wp2
            go_round
            case rel => exact ⟨3, 3, rfl, .inr (.inr (.inr ⟨rfl, rfl⟩)), _, rfl, hv7, HP⟩
            case measure => simp [intOf]
        · go_wp2
          go_ret
          exact ⟨ret_int (by rw [hp.out, HE.out]), rfl⟩
theorem fieldProduct_s (a b : Int) (w : World) :
    Calls Try.prog 15 #[.int .i64 a, .int .i64 b] w fun e w' => e = .returned (.int .i64 (fprod a b)) ∧ w = w' := by
  cases h1 : inB a 0 15 <;> cases h2 : inB b 0 15
  iterate 3
    · have HF := Lib.hid (show fprod a b = -1 by simp [fprod, h1, h2])
      go_enter Try.func15, Try.ntmps15
      go_wp2_with (go_at_call 42; refine (l01In_any _ _ _ _).mono ?_; rintro e w' ⟨rfl, rfl⟩)
      go_ret
      exact ⟨ret_int HF.out.symm, rfl⟩
  · have b1 := inB_t.1 h1
    have b2 := inB_t.1 h2
    obtain ⟨x, rfl⟩ := Int.eq_ofNat_of_zero_le b1.1
    obtain ⟨y, rfl⟩ := Int.eq_ofNat_of_zero_le b2.1
    simpa [fprod, h1, h2] using fieldProduct_sn x y (by omega) (by omega) w

/-! ### FieldPower -/
theorem powN_lt' {k : Nat} (h : k < 15) : powN k < 16 := powN_lt ⟨k, h⟩
theorem fieldPower_i (k : Int) (w : World) :
    Calls Try.prog 18 #[.int .i64 k] w fun e w' => e = .returned (.int .i64 (fpow k)) ∧ w = w' := by
  by_cases h0 : k < 0
  · have HF := Lib.hid (show fpow k = -1 by simp [fpow, h0])
    go_enter Try.func18, Try.ntmps18
    go_wp2
    go_ret
    exact ⟨ret_int HF.out.symm, rfl⟩
  · obtain ⟨n, hn⟩ := Int.eq_ofNat_of_zero_le (show 0 ≤ k % 15 by omega)
    have hn15 : n < 15 := by omega
    have HF := Lib.hid (show fpow k = ((powN n : Nat) : Int) by rw [fpow, if_neg h0, hn]; rfl)
    have HN := Lib.hid hn
    clear hn
    go_enter Try.func18, Try.ntmps18
    go_wp2
    rw [HN.out]
    go_loop [3, 8] (fun y i => ∃ j : Nat, j ≤ n ∧ i = .int .i64 j ∧ ∃ u : Nat, y = .int .i64 u ∧ u < 16 ∧ Hid (u = powN j)) (fun _ i => n - (intOf i).toNat)
    case atStart => exact ⟨0, Nat.zero_le _, rfl, 1, rfl, by omega, Lib.hid rfl⟩
    case round =>
      obtain ⟨j, hj, rfl, u, rfl, hu, hp⟩ := hrel
      by_cases hlt : j < n
      · have HD := Lib.hid (dbl_lt ⟨u, hu⟩)
        go_wp2_with (go_at_call 44; refine (doubled_i u hu _).mono ?_; rintro e w' ⟨rfl, rfl⟩)
        go_round
        case rel => exact ⟨j + 1, by omega, by go_num, _, rfl, HD.out, Lib.hid (by rw [hp.out]; rfl)⟩
        case measure => simp [intOf]; omega
      · obtain rfl : j = n := by omega
        go_wp2
        go_ret
        exact ⟨ret_int (by rw [HF.out, hp.out]), rfl⟩
theorem fieldPower_s (k : Int) (w : World) :
    Calls Try.prog 17 #[.int .i64 k] w fun e w' => e = .returned (.int .i64 (fpow k)) ∧ w = w' := by
  by_cases h0 : k < 0
  · have HF := Lib.hid (show fpow k = -1 by simp [fpow, h0])
    go_enter Try.func17, Try.ntmps17
    go_wp2
    go_ret
    exact ⟨ret_int HF.out.symm, rfl⟩
  · obtain ⟨n, hn⟩ := Int.eq_ofNat_of_zero_le (show 0 ≤ k % 15 by omega)
    have hn15 : n < 15 := by omega
    have HF := Lib.hid (show fpow k = ((powN n : Nat) : Int) by rw [fpow, if_neg h0, hn]; rfl)
    go_enter Try.func17, Try.ntmps17
    go_wp2
    go_loop [3, 4] (fun y i => ∃ j : Nat, j ≤ n ∧ i = .int .i64 j ∧ ∃ u : Nat, y = .int .i64 u ∧ u < 16 ∧ Hid (u = powN j)) (fun _ i => n - (intOf i).toNat)
    case atStart => exact ⟨0, Nat.zero_le _, rfl, 1, rfl, by omega, Lib.hid rfl⟩
    case round =>
      obtain ⟨j, hj, rfl, u, rfl, hu, hp⟩ := hrel
      by_cases hlt : j < n
      · have HD := Lib.hid (dbl_lt ⟨u, hu⟩)
        have HG := Lib.hid (gmul_two ⟨u, hu⟩)
        have HL : gmul u 2 < 16 := gmul_lt hu (by omega)
        go_wp2_with (go_at_call 15; refine (fieldProduct_sn u 2 hu (by omega) _).mono ?_; rintro e w' ⟨rfl, rfl⟩)
        go_round
        case rel => exact ⟨j + 1, by omega, by go_num, _, rfl, HL, Lib.hid (by have := HG.out; rw [this, hp.out]; rfl)⟩
        case measure => simp [intOf]; omega
      · obtain rfl : j = n := by omega
        go_wp2
        go_ret
        exact ⟨ret_int (by rw [HF.out, hp.out]), rfl⟩

/-! ### FieldLog -/
theorem powTab_len : powTab.length = 15 := rfl
theorem fieldLog_i (a : Int) (w : World) :
    Calls Try.prog 23 #[.int .i64 a] w fun e w' => e = .returned (.int .i64 (flog a)) ∧ w = w' := by
  go_enter Try.func23, Try.ntmps23
  go_wp2
  go_loop [4] (fun i => ∃ k : Nat, k ≤ 15 ∧ i = .int .i64 k ∧ Hid (∀ j, j < k → zat powTab j ≠ a)) (fun i => 15 - (intOf i).toNat)
  case atStart => exact ⟨0, Nat.zero_le _, rfl, Lib.hid (fun j hj => absurd hj (by omega))⟩
  case round =>
    obtain ⟨k, hk, rfl, hne⟩ := hrel
    by_cases hlt : k < 15
    · have HP := Lib.hid (show fpow (k : Int) = zat powTab k by rw [fpow_nat hlt]; exact (powTab_eq ⟨k, hlt⟩).symm)
      by_cases he : zat powTab k = a
      · have HF := Lib.hid (findI_some (by rw [powTab_len]; exact hlt) he hne.out)
        have hv : (fpow (k : Int) == a) = true := by rw [HP.out]; simp [he]
        clear he
        go_wp2_with (go_at_call 18; refine (fieldPower_i _ _).mono ?_; rintro e w' ⟨rfl, rfl⟩)
        go_ret
        exact ⟨ret_int HF.out.symm, rfl⟩
      · have HS := Lib.hid (ne_step hne.out he)
        have hv : (fpow (k : Int) == a) = false := by rw [HP.out]; simp [he]
        clear he
        go_wp2_with (go_at_call 18; refine (fieldPower_i _ _).mono ?_; rintro e w' ⟨rfl, rfl⟩)
        go_round
        case rel => exact ⟨k + 1, by omega, by go_num, HS⟩
        case measure => simp [intOf]; omega
    · obtain rfl : k = 15 := by omega
      have HF := Lib.hid (findI_none (zs := powTab) (fun j hj => hne.out j (by rw [powTab_len] at hj; omega)))
      go_wp2
      go_ret
      exact ⟨ret_int HF.out.symm, rfl⟩
theorem fieldLog_s (a : Int) (w : World) :
    Calls Try.prog 24 #[.int .i64 a] w fun e w' => e = .returned (.int .i64 (flog a)) ∧ w = w' := by
  go_enter Try.func24, Try.ntmps24
  go_wp2
  go_loop [3] (fun i => ∃ k : Nat, k ≤ 15 ∧ i = .int .i64 k ∧ Hid (∀ j, j < k → zat powTab j ≠ a)) (fun i => 15 - (intOf i).toNat)
  case atStart => exact ⟨0, Nat.zero_le _, rfl, Lib.hid (fun j hj => absurd hj (by omega))⟩
  case round =>
    obtain ⟨k, hk, rfl, hne⟩ := hrel
    by_cases hlt : k < 15
    · have HP := Lib.hid (show fpow (k : Int) = zat powTab k by rw [fpow_nat hlt]; exact (powTab_eq ⟨k, hlt⟩).symm)
      by_cases he : zat powTab k = a
      · have HF := Lib.hid (findI_some (by rw [powTab_len]; exact hlt) he hne.out)
        have hv : (fpow (k : Int) == a) = true := by rw [HP.out]; simp [he]
        clear he
        go_wp2_with (go_at_call 17; refine (fieldPower_s _ _).mono ?_; rintro e w' ⟨rfl, rfl⟩)
        go_ret
        exact ⟨ret_int HF.out.symm, rfl⟩
      · have HS := Lib.hid (ne_step hne.out he)
        have hv : (fpow (k : Int) == a) = false := by rw [HP.out]; simp [he]
        clear he
        go_wp2_with (go_at_call 17; refine (fieldPower_s _ _).mono ?_; rintro e w' ⟨rfl, rfl⟩)
        go_round
        case rel => exact ⟨k + 1, by omega, by go_num, HS⟩
        case measure => simp [intOf]; omega
    · obtain rfl : k = 15 := by omega
      have HF := Lib.hid (findI_none (zs := powTab) (fun j hj => hne.out j (by rw [powTab_len] at hj; omega)))
      go_wp2
      go_ret
      exact ⟨ret_int HF.out.symm, rfl⟩

/-! ### FieldQuotient -/
theorem fieldQuotient_i (a b : Int) (w : World) :
    Calls Try.prog 22 #[.int .i64 a, .int .i64 b] w fun e w' => e = .returned (.int .i64 (fquo a b)) ∧ w = w' := by
  cases h1 : inB a 0 15 <;> cases h2 : inB b 1 15
  iterate 3
    · have HF := Lib.hid (show fquo a b = -1 by simp [fquo, h1, h2])
      go_enter Try.func22, Try.ntmps22
      go_wp2_with (first | (go_at_call 43; refine (isNibble_any _ _).mono ?_; rintro e w' ⟨rfl, rfl⟩) | (go_at_call 45; refine (within_any _ _ _ _).mono ?_; rintro e w' ⟨rfl, rfl⟩))
      go_ret
      exact ⟨ret_int HF.out.symm, rfl⟩
  · have b1 := inB_t.1 h1
    have b2 := inB_t.1 h2
    obtain ⟨x, rfl⟩ := Int.eq_ofNat_of_zero_le b1.1
    obtain ⟨y, rfl⟩ := Int.eq_ofNat_of_zero_le (show 0 ≤ b by omega)
    have hy : y < 16 := by omega
    have hr := flog_rng ⟨y, hy⟩ (by show y ≠ 0; omega)
    simp only at hr
    have HF := Lib.hid (show fquo (x : Int) (y : Int) = fprod x (fpow (15 - flog y)) by
      have hq : powN ((15 - (flog (y : Int)).toNat) % 15) < 16 := powN_lt' (Nat.mod_lt _ (by omega))
      have e1 : fpow (15 - flog y) = ((powN ((15 - (flog (y : Int)).toNat) % 15) : Nat) : Int) := by
        rw [fpow, if_neg (by omega)]
        have : ((15 - flog (y : Int)) % 15).toNat = (15 - (flog (y : Int)).toNat) % 15 := by omega
        rw [this]
      have e2 : inB ((powN ((15 - (flog (y : Int)).toNat) % 15) : Nat) : Int) 0 15 = true := inB_t.2 (by omega)
      rw [e1, fprod, h1, e2]
      simp [fquo, h1, h2, gquo])
    go_enter Try.func22, Try.ntmps22
    go_wp2_with (first | (go_at_call 43; refine (isNibble_any _ _).mono ?_; rintro e w' ⟨rfl, rfl⟩) | (go_at_call 45; refine (within_any _ _ _ _).mono ?_; rintro e w' ⟨rfl, rfl⟩) | (go_at_call 23; refine (fieldLog_i _ _).mono ?_; rintro e w' ⟨rfl, rfl⟩) | (go_at_call 18; refine (fieldPower_i _ _).mono ?_; rintro e w' ⟨rfl, rfl⟩) | (go_at_call 16; refine (fieldProduct_i _ _ _).mono ?_; rintro e w' ⟨rfl, rfl⟩))
    go_ret
    exact ⟨ret_int HF.out.symm, rfl⟩
theorem quo_find {a b : Int} {k : Nat} (hk : k < 16) (ha : inB a 0 15 = true) (hb : b ≠ 0) (h : fprod k b = a) : fquo a b = k := by
  have b1 := inB_t.1 ha
  have hkn : inB (k : Int) 0 15 = true := inB_t.2 (by omega)
  cases hbn : inB b 0 15
  · rw [fprod, hkn, hbn] at h; simp at h; omega
  · have b2 := inB_t.1 hbn
    have hb1 : inB b 1 15 = true := inB_t.2 (by omega)
    obtain ⟨x, rfl⟩ := Int.eq_ofNat_of_zero_le b1.1
    obtain ⟨y, rfl⟩ := Int.eq_ofNat_of_zero_le b2.1
    rw [fprod, hkn, hbn] at h
    simp only [Bool.and_self, if_true, Int.toNat_natCast] at h
    have := gquo_uni ⟨x, by omega⟩ ⟨y, by omega⟩ ⟨k, hk⟩ (by show y ≠ 0; omega) (by show gmul k y = x; omega)
    rw [fquo, ha, hb1]
    simp only [Bool.and_self, if_true, Int.toNat_natCast]
    simp only at this
    omega
theorem quo_none {a b : Int} (ha : inB a 0 15 = true) (h : ∀ j, j < 16 → fprod (j : Nat) b ≠ a) : fquo a b = -1 := by
  have b1 := inB_t.1 ha
  cases hb1 : inB b 1 15
  · simp [fquo, hb1]
  · exfalso
    have b2 := inB_t.1 hb1
    obtain ⟨x, rfl⟩ := Int.eq_ofNat_of_zero_le b1.1
    obtain ⟨y, rfl⟩ := Int.eq_ofNat_of_zero_le (show 0 ≤ b by omega)
    have hx : x < 16 := by omega
    have hy : y < 16 := by omega
    have hq := gquo_lt ⟨x, hx⟩ ⟨y, hy⟩
    have hm := gquo_mul ⟨x, hx⟩ ⟨y, hy⟩ (by show y ≠ 0; omega)
    simp only at hq hm
    refine h (gquo x y) hq ?_
    have e1 : inB ((gquo x y : Nat) : Int) 0 15 = true := inB_t.2 (by omega)
    have e2 : inB (y : Int) 0 15 = true := inB_t.2 (by omega)
    rw [fprod, e1, e2]
    simp [hm]
theorem fieldQuotient_s (a b : Int) (w : World) :
    Calls Try.prog 25 #[.int .i64 a, .int .i64 b] w fun e w' => e = .returned (.int .i64 (fquo a b)) ∧ w = w' := by
  by_cases hb0 : b = 0
  · subst hb0
    have HF := Lib.hid (show fquo a 0 = -1 by have : inB 0 1 15 = false := by decide
                                              simp [fquo, this])
    go_enter Try.func25, Try.ntmps25
    go_wp2
    refine wp_loop_rounds 1 ?_
    rw [rounds_succ]
    go_wp2
    go_ret
    exact ⟨ret_int HF.out.symm, rfl⟩
  · have hb0' : (b != 0) = true := by simp [hb0]
    have HB := Lib.hid hb0
    clear hb0
    cases ha : inB a 0 15
    · have HF := Lib.hid (show fquo a b = -1 by simp [fquo, ha])
      go_enter Try.func25, Try.ntmps25
      go_wp2
      refine wp_loop_rounds 1 ?_
      rw [rounds_succ]
      go_wp2_with (go_at_call 42; refine (l01In_any _ _ _ _).mono ?_; rintro e w' ⟨rfl, rfl⟩)
      go_ret
      exact ⟨ret_int HF.out.symm, rfl⟩
    · go_enter Try.func25, Try.ntmps25
      go_wp2
      go_loop [5] (fun i => ∃ k : Nat, k ≤ 16 ∧ i = .int .i64 k ∧ Hid (∀ j, j < k → fprod (j : Nat) b ≠ a)) (fun i => 16 - (intOf i).toNat)
      case atStart => exact ⟨0, Nat.zero_le _, rfl, Lib.hid (fun j hj => absurd hj (by omega))⟩
      case round =>
        obtain ⟨k, hk, rfl, hne⟩ := hrel
        by_cases hlt : k < 16
        · by_cases he : fprod (k : Int) b = a
          · have HF := Lib.hid (quo_find hlt ha HB.out he)
            have hv : (fprod (k : Int) b == a) = true := by simp [he]
            clear he
            go_wp2_with (first | (go_at_call 42; refine (l01In_any _ _ _ _).mono ?_; rintro e w' ⟨rfl, rfl⟩) | (go_at_call 15; refine (fieldProduct_s _ _ _).mono ?_; rintro e w' ⟨rfl, rfl⟩))
            go_ret
            exact ⟨ret_int HF.out.symm, rfl⟩
          · have HS := Lib.hid (fun j (hj : j < k + 1) => show fprod (j : Nat) b ≠ a by
              rcases Nat.lt_succ_iff_lt_or_eq.1 hj with h1 | h1
              · exact hne.out j h1
              · subst h1; exact he)
            have hv : (fprod (k : Int) b == a) = false := by simp [he]
            clear he
            go_wp2_with (first | (go_at_call 42; refine (l01In_any _ _ _ _).mono ?_; rintro e w' ⟨rfl, rfl⟩) | (go_at_call 15; refine (fieldProduct_s _ _ _).mono ?_; rintro e w' ⟨rfl, rfl⟩))
            go_round
            case rel => exact ⟨k + 1, by omega, by go_num, HS⟩
            case measure => simp [intOf]; omega
        · obtain rfl : k = 16 := by omega
          have HF := Lib.hid (quo_none ha (fun j hj => hne.out j hj) : fquo a b = -1)
          go_wp2
          go_ret
          exact ⟨ret_int HF.out.symm, rfl⟩
end Go.Proofs.Ytbdpmibbfnkabaa
