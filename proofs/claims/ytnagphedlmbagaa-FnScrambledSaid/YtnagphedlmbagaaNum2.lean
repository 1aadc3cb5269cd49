/- Contracts of the functions on numbers that call others: Capacity, Mix, NextScramble, PacketLength, SymbolsFor and the cipher's. -/
import Derived.Test.YtnagphedlmbagaaNum
namespace Go.Proofs.Ytnagphedlmbagaa
open Go.RowKit

theorem cap_bd {l r d : Int} (h : linkB l r d = true) : 1 ≤ l * r ∧ l * r ≤ 16 := by
  obtain ⟨h1, ⟨h2, h3⟩, _⟩ := linkB_t.1 h
  rcases h1 with rfl | rfl | rfl <;> omega

/-! ### Mix and its callers -/

/-! ### NextScramble -/
theorem nx4_it (s : Nat) : itN nx1 4 s = nx4 s := rfl
theorem nextScramble_in (s : Nat) (w : World) (h1 : 1 ≤ s) (h2 : s ≤ 65535) :
    Calls Try.prog 34 #[.int .i64 s] w fun e w' => e = .returned (.int .i64 (nx4 s : Nat)) ∧ w = w' := by
  have hb : inB (s : Int) 1 65535 = true := inB_t.2 (by omega)
  go_enter Try.func34, Try.ntmps34
  go_wp2_with (go_at_call 39; refine (isScramble_any _ _).mono ?_; rintro e w' ⟨rfl, rfl⟩)
  go_loop [0, 7] (fun y i => ∃ k : Nat, k ≤ 4 ∧ i = .int .i64 k ∧ ∃ t : Nat, t = itN nx1 k s ∧ t < 65536 ∧ y = .int .i64 t) (fun _ i => 4 - (intOf i).toNat)
  case atStart => exact ⟨0, by omega, rfl, _, rfl, by simp [itN]; omega, rfl⟩
  case round =>
    obtain ⟨k, hk, rfl, t, ht, hlt, rfl⟩ := hrel
    have HT := Lib.hid ht; clear ht
    have HB := Lib.hid (nx1_bits t hlt)
    by_cases h3 : k < 4
    · go_wp2
      go_round
      case rel => exact ⟨k + 1, by omega, by go_num, nx1 t, by rw [HT.out]; rfl, nx1_lt t, by rw [HB.out]⟩
      case measure => simp [intOf]; omega
    · obtain rfl : k = 4 := by omega
      go_wp2
      go_ret
      exact ⟨by rw [← nx4_it, ← HT.out]; rfl, rfl⟩
theorem nextScramble_i (s : Int) (w : World) :
    Calls Try.prog 34 #[.int .i64 s] w fun e w' => e = .returned (.int .i64 (nxF s)) ∧ w = w' := by
  cases hb : inB s 1 65535
  · go_enter Try.func34, Try.ntmps34
    go_wp2_with (go_at_call 39; refine (isScramble_any _ _).mono ?_; rintro e w' ⟨rfl, rfl⟩)
    go_ret
    exact ⟨by simp [nxF, hb], rfl⟩
  · have h := inB_t.1 hb
    obtain ⟨t, rfl⟩ := Int.eq_ofNat_of_zero_le (show 0 ≤ s by omega)
    simpa [nxF, hb] using nextScramble_in t w (by omega) (by omega)
theorem nextScramble_sn (s : Nat) (w : World) (h1 : 1 ≤ s) (h2 : s ≤ 65535) :
    Calls Try.prog 38 #[.int .i64 s] w fun e w' => e = .returned (.int .i64 (nx4 s : Nat)) ∧ w = w' := by
  have hb : inB (s : Int) 1 65535 = true := inB_t.2 (by omega)
  go_enter Try.func38, Try.ntmps38
  go_wp2_with (go_at_call 37; refine (l01In_any _ _ _ _).mono ?_; rintro e w' ⟨rfl, rfl⟩)
  go_loop [0, 3] (fun y i => ∃ k : Nat, k ≤ 4 ∧ i = .int .i64 k ∧ ∃ t : Nat, t = itN nx1 k s ∧ t < 65536 ∧ y = .int .i64 t) (fun _ i => 4 - (intOf i).toNat)
  case atStart => exact ⟨0, by omega, rfl, _, rfl, by simp [itN]; omega, rfl⟩
  case round =>
    obtain ⟨k, hk, rfl, t, ht, hlt, rfl⟩ := hrel
    have HT := Lib.hid ht; clear ht
    have HB := Lib.hid (nx1_bits t hlt)
    by_cases h3 : k < 4
    · go_wp2
      go_round
      case rel => exact ⟨k + 1, by omega, by go_num, nx1 t, by rw [HT.out]; rfl, nx1_lt t, by rw [← HB.out, Int.mul_comm]⟩
      case measure => simp [intOf]; omega
    · obtain rfl : k = 4 := by omega
      go_wp2
      go_ret
      exact ⟨by rw [← nx4_it, ← HT.out]; rfl, rfl⟩
theorem nextScramble_s (s : Int) (w : World) :
    Calls Try.prog 38 #[.int .i64 s] w fun e w' => e = .returned (.int .i64 (nxF s)) ∧ w = w' := by
  cases hb : inB s 1 65535
  · go_enter Try.func38, Try.ntmps38
    go_wp2_with (go_at_call 37; refine (l01In_any _ _ _ _).mono ?_; rintro e w' ⟨rfl, rfl⟩)
    go_ret
    exact ⟨by simp [nxF, hb], rfl⟩
  · have h := inB_t.1 hb
    obtain ⟨t, rfl⟩ := Int.eq_ofNat_of_zero_le (show 0 ≤ s by omega)
    simpa [nxF, hb] using nextScramble_sn t w (by omega) (by omega)

/-! ### PacketLength, SymbolsFor -/
end Go.Proofs.Ytnagphedlmbagaa
