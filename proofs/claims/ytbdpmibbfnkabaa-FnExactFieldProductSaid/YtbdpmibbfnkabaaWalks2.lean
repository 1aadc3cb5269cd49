/- The walks of the laws on the field of sixteen. -/
import Derived.Test.YtbdpmibbfnkabaaField
import Derived.Test.YtbdpmibbfnkabaaAt
namespace Go.Proofs.Ytbdpmibbfnkabaa
open Go.RowKit Go.Deep
theorem walk_fnExactFieldProduct (w : World) (a : Int) (_ha : I64 a) (b : Int) (_hb : I64 b) : Calls Try.prog 3 #[.int .i64 a, .int .i64 b] w fun e w' => e = .returned (.bool true) ∧ Below w.heap.size w w' := by
  go_enter Try.func3, Try.ntmps3
  go_wp2_with (first | (go_at_call 15; refine (fieldProduct_s _ _ _).mono ?_; rintro e w' ⟨rfl, rfl⟩) | (go_at_call 16; refine (fieldProduct_i _ _ _).mono ?_; rintro e w' ⟨rfl, rfl⟩))
  go_ret
  exact ⟨rfl, Below.refl _ _⟩
theorem walk_fnExactFieldPower (w : World) (a : Int) (_ha : I64 a) : Calls Try.prog 4 #[.int .i64 a] w fun e w' => e = .returned (.bool true) ∧ Below w.heap.size w w' := by
  go_enter Try.func4, Try.ntmps4
  go_wp2_with (first | (go_at_call 17; refine (fieldPower_s _ _).mono ?_; rintro e w' ⟨rfl, rfl⟩) | (go_at_call 18; refine (fieldPower_i _ _).mono ?_; rintro e w' ⟨rfl, rfl⟩))
  go_ret
  exact ⟨rfl, Below.refl _ _⟩
theorem walk_fnExactFieldLog (w : World) (a : Int) (_ha : I64 a) : Calls Try.prog 6 #[.int .i64 a] w fun e w' => e = .returned (.bool true) ∧ Below w.heap.size w w' := by
  go_enter Try.func6, Try.ntmps6
  go_wp2_with (first | (go_at_call 24; refine (fieldLog_s _ _).mono ?_; rintro e w' ⟨rfl, rfl⟩) | (go_at_call 23; refine (fieldLog_i _ _).mono ?_; rintro e w' ⟨rfl, rfl⟩))
  go_ret
  exact ⟨rfl, Below.refl _ _⟩
theorem walk_fnExactFieldQuotient (w : World) (a : Int) (_ha : I64 a) (b : Int) (_hb : I64 b) : Calls Try.prog 7 #[.int .i64 a, .int .i64 b] w fun e w' => e = .returned (.bool true) ∧ Below w.heap.size w w' := by
  go_enter Try.func7, Try.ntmps7
  go_wp2_with (first | (go_at_call 25; refine (fieldQuotient_s _ _ _).mono ?_; rintro e w' ⟨rfl, rfl⟩) | (go_at_call 22; refine (fieldQuotient_i _ _ _).mono ?_; rintro e w' ⟨rfl, rfl⟩))
  go_ret
  exact ⟨rfl, Below.refl _ _⟩
/-! ### FnField -/
theorem gm_dist : ∀ a b c : Fin 16, gmul a.val (b.val ^^^ c.val) = gmul a.val b.val ^^^ gmul a.val c.val := by decide +kernel
theorem gm_assoc : ∀ a b c : Fin 16, gmul a.val (gmul b.val c.val) = gmul (gmul a.val b.val) c.val := by decide +kernel
theorem gm_comm : ∀ a b : Fin 16, gmul a.val b.val = gmul b.val a.val := by decide +kernel
theorem gm_one : ∀ a : Fin 16, gmul a.val 1 = a.val := by decide +kernel
theorem pow_log : ∀ b : Fin 16, b.val ≠ 0 → fpow (flog (b.val : Int)) = (b.val : Int) := by decide +kernel
theorem pow_add : ∀ i j : Fin 15, gmul (powN i.val) (powN j.val) = powN ((i.val + j.val) % 15) := by decide +kernel
theorem fprod_nat {a b : Nat} (ha : a < 16) (hb : b < 16) : fprod (a : Int) (b : Int) = ((gmul a b : Nat) : Int) := by
  have h1 : inB (a : Int) 0 15 = true := inB_t.2 (by omega)
  have h2 : inB (b : Int) 0 15 = true := inB_t.2 (by omega)
  simp [fprod, h1, h2]
theorem fsum_nat {a b : Nat} (ha : a < 16) (hb : b < 16) : fsum (a : Int) (b : Int) = ((a ^^^ b : Nat) : Int) := by
  have h1 : inB (a : Int) 0 15 = true := inB_t.2 (by omega)
  have h2 : inB (b : Int) 0 15 = true := inB_t.2 (by omega)
  simp only [fsum, h1, h2, Bool.and_self, if_true]
  exact i64_xor_nat a b (by omega) (by omega)
theorem xor16 {a b : Nat} (ha : a < 16) (hb : b < 16) : a ^^^ b < 16 := Nat.xor_lt_two_pow (n := 4) ha hb
theorem fpow_add (x y : Int) (hx : 0 ≤ x) (hy : 0 ≤ y) : fpow (x + y) = fprod (fpow x) (fpow y) := by
  have e : ∀ z : Int, 0 ≤ z → fpow z = ((powN (z % 15).toNat : Nat) : Int) := fun z hz => by rw [fpow, if_neg (by omega)]
  have h := pow_add ⟨(x % 15).toNat, by omega⟩ ⟨(y % 15).toNat, by omega⟩
  simp only at h
  rw [e x hx, e y hy, e (x + y) (by omega), fprod_nat (powN_lt' (by omega)) (powN_lt' (by omega)), h]
  have h2 : ((x + y) % 15).toNat = ((x % 15).toNat + (y % 15).toNat) % 15 := by omega
  rw [h2]
theorem flog_zero : flog 0 = -1 := by decide
theorem fquo_zero (a : Int) : fquo a 0 = -1 := by
  have : inB 0 1 15 = false := by decide
  simp [fquo, this]
theorem fquo_mul {a b : Nat} (ha : a < 16) (hb : b < 16) (h0 : b ≠ 0) : fprod (fquo (a : Int) (b : Int)) (b : Int) = (a : Int) := by
  have h1 : inB (a : Int) 0 15 = true := inB_t.2 (by omega)
  have h2 : inB (b : Int) 1 15 = true := inB_t.2 (by omega)
  have hq := gquo_lt ⟨a, ha⟩ ⟨b, hb⟩
  have hm := gquo_mul ⟨a, ha⟩ ⟨b, hb⟩ h0
  simp only at hq hm
  have : fquo (a : Int) (b : Int) = ((gquo a b : Nat) : Int) := by simp [fquo, h1, h2]
  rw [this, fprod_nat hq hb, hm]
theorem walk_fnField (w : World) (A : Option Addr) (n c : Nat) (zs : List Int) (r0 : RB w w.heap.size A n zs) (hz : BY zs) (_g : n ≤ c) (_i : c ≤ maxLen) :
    Calls Try.prog 5 #[.slice A n c] w fun e w' => e = .returned (.bool true) ∧ Below w.heap.size w w' := by
  by_cases hbig : 1048576 < n
  · go_enter Try.func5, Try.ntmps5
    go_wp2_with (go_at_call 19; refine (big_any _ _ _ _).mono ?_; rintro e w' ⟨rfl, rfl⟩)
    go_ret
    exact ⟨rfl, Below.refl _ _⟩
  · have hn : n ≤ 1048576 := by omega
    obtain ⟨x, hx⟩ : ∃ x, x = atF zs := ⟨_, rfl⟩
    have hr : ∀ i, 0 ≤ x i ∧ x i ≤ 255 := fun i => by rw [hx]; exact atF_rng hz i
    have HC : Hid (∀ (i : Int) (w : World), RB w w.heap.size A n zs → 0 ≤ i → i ≤ 1000000 → Calls Try.prog 20 #[.slice A n c, .int .i64 i] w fun e w' => e = .returned (.int .i64 (x i.toNat)) ∧ w = w') :=
      Lib.hid (fun i w R h0 hi => by rw [hx]; exact at_int A n c _ zs i w R hz hn h0 hi)
    clear hx
    obtain ⟨a, ha⟩ := Int.eq_ofNat_of_zero_le (show 0 ≤ x 0 % 16 by omega)
    obtain ⟨b, hb⟩ := Int.eq_ofNat_of_zero_le (show 0 ≤ x 1 % 16 by omega)
    obtain ⟨d, hd⟩ := Int.eq_ofNat_of_zero_le (show 0 ≤ x 2 % 16 by omega)
    have la : a < 16 := by omega
    have lb : b < 16 := by omega
    have ld : d < 16 := by omega
    have r3 := hr 3
    have r4 := hr 4
    have r01 := hr 0
    have r11 := hr 1
    have r21 := hr 2
    clear hr
    have f1 : fprod a (fsum b d) = fsum (fprod a b) (fprod a d) := by
      rw [fsum_nat lb ld, fprod_nat la lb, fprod_nat la ld, fprod_nat la (xor16 lb ld), fsum_nat (gmul_lt la lb) (gmul_lt la ld)]
      have := gm_dist ⟨a, la⟩ ⟨b, lb⟩ ⟨d, ld⟩
      simp only at this
      rw [this]
    have f2 : fprod a (fprod b d) = fprod (fprod a b) d := by
      rw [fprod_nat lb ld, fprod_nat la lb, fprod_nat la (gmul_lt lb ld), fprod_nat (gmul_lt la lb) ld]
      have := gm_assoc ⟨a, la⟩ ⟨b, lb⟩ ⟨d, ld⟩
      simp only at this
      rw [this]
    have f3 : fprod a b = fprod b a := by
      rw [fprod_nat la lb, fprod_nat lb la]
      have := gm_comm ⟨a, la⟩ ⟨b, lb⟩
      simp only at this
      rw [this]
    have f4 : fprod a 1 = a := by
      have := fprod_nat la (show 1 < 16 by omega)
      rw [show ((1 : Nat) : Int) = 1 from rfl] at this
      rw [this]
      have := gm_one ⟨a, la⟩
      simp only at this
      rw [this]
    have g1 : (fprod a (fsum b d) != fsum (fprod a b) (fprod a d)) = false := by simp [f1]
    have g2 : (fprod a (fprod b d) != fprod (fprod a b) d) = false := by simp [f2]
    have g3 : (fprod a b != fprod b a) = false := by rw [f3]; simp
    have g4 : (fprod a 1 != (a : Int)) = false := by simp [f4]
    clear f1 f2 f3 f4
    by_cases hb0 : b = 0
    · subst hb0
      rw [show ((0 : Nat) : Int) = 0 from rfl] at g1 g2 g3 hb
      have q1 := fquo_zero (a : Int)
      have q2 := flog_zero
      go_enter Try.func5, Try.ntmps5
      go_wp2_with (first | (go_at_call 19; refine (big_any _ _ _ _).mono ?_; rintro e w' ⟨rfl, rfl⟩) | (go_at_call 20; refine (HC.out _ _ r0 (by omega) (by omega)).mono ?_; rintro e w' ⟨rfl, rfl⟩) | (go_at_call 16; refine (fieldProduct_i _ _ _).mono ?_; rintro e w' ⟨rfl, rfl⟩) | (go_at_call 21; refine (fieldSum_i _ _ _).mono ?_; rintro e w' ⟨rfl, rfl⟩) | (go_at_call 22; refine (fieldQuotient_i _ _ _).mono ?_; rintro e w' ⟨rfl, rfl⟩) | (go_at_call 23; refine (fieldLog_i _ _).mono ?_; rintro e w' ⟨rfl, rfl⟩) | (go_at_call 18; refine (fieldPower_i _ _).mono ?_; rintro e w' ⟨rfl, rfl⟩))
      go_ret
      exact ⟨rfl, Below.refl _ _⟩
    · have hb0' : ((b : Int) == 0) = false := by simp; omega
      have q1 : (fprod (fquo a b) b == (a : Int)) = true := by rw [fquo_mul la lb hb0]; simp
      have q2 : (fpow (flog b) == (b : Int)) = true := by have := pow_log ⟨b, lb⟩ hb0; simp only at this; rw [this]; simp
      have q3 : (fpow (x 3 + x 4) == fprod (fpow (x 3)) (fpow (x 4))) = true := by rw [fpow_add _ _ r3.1 r4.1]; simp
      clear hb0
      go_enter Try.func5, Try.ntmps5
      go_wp2_with (first | (go_at_call 19; refine (big_any _ _ _ _).mono ?_; rintro e w' ⟨rfl, rfl⟩) | (go_at_call 20; refine (HC.out _ _ r0 (by omega) (by omega)).mono ?_; rintro e w' ⟨rfl, rfl⟩) | (go_at_call 16; refine (fieldProduct_i _ _ _).mono ?_; rintro e w' ⟨rfl, rfl⟩) | (go_at_call 21; refine (fieldSum_i _ _ _).mono ?_; rintro e w' ⟨rfl, rfl⟩) | (go_at_call 22; refine (fieldQuotient_i _ _ _).mono ?_; rintro e w' ⟨rfl, rfl⟩) | (go_at_call 23; refine (fieldLog_i _ _).mono ?_; rintro e w' ⟨rfl, rfl⟩) | (go_at_call 18; refine (fieldPower_i _ _).mono ?_; rintro e w' ⟨rfl, rfl⟩))
      go_ret
      exact ⟨rfl, Below.refl _ _⟩
end Go.Proofs.Ytbdpmibbfnkabaa
