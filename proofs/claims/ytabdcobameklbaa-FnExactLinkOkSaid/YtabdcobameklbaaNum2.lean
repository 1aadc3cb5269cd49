/- Contracts of the functions on numbers that call others: Capacity, Mix, NextScramble, PacketLength, SymbolsFor and the cipher's. -/
import Derived.Test.YtabdcobameklbaaNum
namespace Go.Proofs.Ytabdcobameklbaa
open Go.RowKit

theorem cap_bd {l r d : Int} (h : linkB l r d = true) : 1 ≤ l * r ∧ l * r ≤ 16 := by
  obtain ⟨h1, ⟨h2, h3⟩, _⟩ := linkB_t.1 h
  rcases h1 with rfl | rfl | rfl <;> omega
theorem capacity_i (l r d : Int) (w : World) :
    Calls Try.prog 33 #[.agg #[.int .i64 l, .int .i64 r, .int .i64 d]] w fun e w' => e = .returned (.int .i64 (capOf l r d)) ∧ Below w.heap.size w w' := by
  cases hl : linkB l r d
  · go_enter Try.func33, Try.ntmps33
    go_wp2_with (go_at_call 21; refine (linkOk_i _ _ _ _).mono ?_; rintro e w1 ⟨rfl, hb⟩)
    go_ret
    exact ⟨by simp [capOf, hl], ((Below.refl _ _).alloc (Nat.le_refl _) _).trans (hb.mono (by simp))⟩
  · have hm := cap_bd hl
    have hw : IntKind.i64.wrap (l * r) = l * r := IntWalk.i64_in _ (by omega)
    go_enter Try.func33, Try.ntmps33
    go_wp2_with (go_at_call 21; refine (linkOk_i _ _ _ _).mono ?_; rintro e w1 ⟨rfl, hb⟩; obtain ⟨hc, hf⟩ := bcell hb)
    go_ret
    exact ⟨by simp [capOf, hl], ((Below.refl _ _).alloc (Nat.le_refl _) _).trans (hb.mono (by simp))⟩
theorem capacity_s (l r d : Int) (w : World) :
    Calls Try.prog 32 #[.agg #[.int .i64 l, .int .i64 r, .int .i64 d]] w fun e w' => e = .returned (.int .i64 (capOf l r d)) ∧ Below w.heap.size w w' := by
  cases hl : linkB l r d
  · go_enter Try.func32, Try.ntmps32
    go_wp2_with (go_at_call 19; refine (linkOk_s _ _ _ _).mono ?_; rintro e w1 ⟨rfl, hb⟩)
    go_ret
    exact ⟨by simp [capOf, hl], ((Below.refl _ _).alloc (Nat.le_refl _) _).trans (hb.mono (by simp))⟩
  · have hm := cap_bd hl
    have hw : IntKind.i64.wrap (l * r) = l * r := IntWalk.i64_in _ (by omega)
    go_enter Try.func32, Try.ntmps32
    go_wp2_with (go_at_call 19; refine (linkOk_s _ _ _ _).mono ?_; rintro e w1 ⟨rfl, hb⟩; obtain ⟨hc, hf⟩ := bcell hb)
    go_ret
    exact ⟨by simp [capOf, hl], ((Below.refl _ _).alloc (Nat.le_refl _) _).trans (hb.mono (by simp))⟩

/-! ### Mix and its callers -/
theorem mix_i (x : Int) (w : World) :
    Calls Try.prog 18 #[.int .i64 x] w fun e w' => e = .returned (.int .i64 (mixF x)) ∧ w = w' := by
  unfold mixF mixM
  go_enter Try.func18, Try.ntmps18
  go_wp2
  go_loop [3, 6] (fun y i => ∃ k : Nat, k ≤ 3 ∧ i = .int .i64 k ∧ y = .int .i64 (itN mixStep k (bits .and .i64 x 2147483647))) (fun _ i => 3 - (intOf i).toNat)
  case atStart => exact ⟨0, by omega, rfl, rfl⟩
  case round =>
    obtain ⟨k, hk, rfl, rfl⟩ := hrel
    by_cases h3 : k < 3
    · go_wp2
      go_round
      case rel => exact ⟨k + 1, by omega, by go_num, rfl⟩
      case measure => simp [intOf]; omega
    · obtain rfl : k = 3 := by omega
      go_wp2
      go_ret
      exact ⟨rfl, rfl⟩
theorem mix_s (x : Int) (w : World) :
    Calls Try.prog 17 #[.int .i64 x] w fun e w' => e = .returned (.int .i64 (mixF x)) ∧ w = w' := by
  unfold mixF mixM
  go_enter Try.func17, Try.ntmps17
  go_wp2
  go_loop [0, 3] (fun y i => ∃ k : Nat, k ≤ 3 ∧ i = .int .i64 k ∧ y = .int .i64 (itN mixStep k (bits .and .i64 x 2147483647))) (fun _ i => 3 - (intOf i).toNat)
  case atStart => exact ⟨0, by omega, rfl, rfl⟩
  case round =>
    obtain ⟨k, hk, rfl, rfl⟩ := hrel
    by_cases h3 : k < 3
    · go_wp2
      go_round
      case rel => exact ⟨k + 1, by omega, by go_num, rfl⟩
      case measure => simp [intOf]; omega
    · obtain rfl : k = 3 := by omega
      go_wp2
      go_ret
      exact ⟨rfl, rfl⟩
theorem sessionKey_i (a b : Int) (w : World) :
    Calls Try.prog 25 #[.int .i64 a, .int .i64 b] w fun e w' => e = .returned (.int .i64 (mixF (bits .xor .i64 (mixF a) b))) ∧ w = w' := by
  go_enter Try.func25, Try.ntmps25
  go_wp2_with (go_at_call 18; refine (mix_i _ _).mono ?_; rintro e w' ⟨rfl, rfl⟩)
  go_ret
  exact ⟨rfl, rfl⟩
theorem sessionKey_s (a b : Int) (w : World) :
    Calls Try.prog 24 #[.int .i64 a, .int .i64 b] w fun e w' => e = .returned (.int .i64 (mixF (bits .xor .i64 (mixF a) b))) ∧ w = w' := by
  go_enter Try.func24, Try.ntmps24
  go_wp2_with (go_at_call 17; refine (mix_s _ _).mono ?_; rintro e w' ⟨rfl, rfl⟩)
  go_ret
  exact ⟨rfl, rfl⟩
theorem answerOf_i (a b : Int) (w : World) :
    Calls Try.prog 23 #[.int .i64 a, .int .i64 b] w fun e w' => e = .returned (.int .i64 (bits .and .i64 (mixF (bits .xor .i64 a (mixF b))) 65535)) ∧ w = w' := by
  go_enter Try.func23, Try.ntmps23
  go_wp2_with (go_at_call 18; refine (mix_i _ _).mono ?_; rintro e w' ⟨rfl, rfl⟩)
  go_ret
  exact ⟨rfl, rfl⟩
theorem answerOf_s (a b : Int) (w : World) :
    Calls Try.prog 22 #[.int .i64 a, .int .i64 b] w fun e w' => e = .returned (.int .i64 (bits .and .i64 (mixF (bits .xor .i64 a (mixF b))) 65535)) ∧ w = w' := by
  go_enter Try.func22, Try.ntmps22
  go_wp2_with (go_at_call 17; refine (mix_s _ _).mono ?_; rintro e w' ⟨rfl, rfl⟩)
  go_ret
  exact ⟨rfl, rfl⟩
def cipI (a f l k : Int) : Int := bits .xor .i64 (bits .xor .i64 (bits .xor .i64 a (wrap64 (f * 65536))) (wrap64 (l * 4096))) k
def cipS (a f l k : Int) : Int := bits .xor .i64 (bits .xor .i64 (bits .xor .i64 a (wrap64 (bits .and .i64 f 32767 * 65536))) (wrap64 (bits .and .i64 l 524287 * 4096))) k
theorem cipherNibble_i (a f l k : Int) (w : World) :
    Calls Try.prog 27 #[.int .i64 a, .int .i64 f, .int .i64 l, .int .i64 k] w fun e w' => e = .returned (.int .i64 (bits .and .i64 (mixF (cipI a f l k)) 15)) ∧ w = w' := by
  go_enter Try.func27, Try.ntmps27
  go_wp2_with (go_at_call 18; refine (mix_i _ _).mono ?_; rintro e w' ⟨rfl, rfl⟩)
  go_ret
  exact ⟨rfl, rfl⟩
theorem cipherNibble_s (a f l k : Int) (w : World) :
    Calls Try.prog 26 #[.int .i64 a, .int .i64 f, .int .i64 l, .int .i64 k] w fun e w' => e = .returned (.int .i64 (bits .and .i64 (mixF (cipS a f l k)) 15)) ∧ w = w' := by
  go_enter Try.func26, Try.ntmps26
  go_wp2_with (go_at_call 17; refine (mix_s _ _).mono ?_; rintro e w' ⟨rfl, rfl⟩)
  go_ret
  exact ⟨rfl, rfl⟩

/-! ### NextScramble -/
theorem nx4_it (s : Nat) : itN nx1 4 s = nx4 s := rfl
theorem nextScramble_in (s : Nat) (w : World) (h1 : 1 ≤ s) (h2 : s ≤ 65535) :
    Calls Try.prog 29 #[.int .i64 s] w fun e w' => e = .returned (.int .i64 (nx4 s : Nat)) ∧ w = w' := by
  have hb : inB (s : Int) 1 65535 = true := inB_t.2 (by omega)
  go_enter Try.func29, Try.ntmps29
  go_wp2_with (go_at_call 37; refine (isScramble_any _ _).mono ?_; rintro e w' ⟨rfl, rfl⟩)
  go_loop [0, 7] (fun y i => ∃ k : Nat, k ≤ 4 ∧ i = .int .i64 k ∧ ∃ t : Nat, t = itN nx1 k s ∧ t < 65536 ∧ y = .int .i64 t) (fun _ i => 4 - (intOf i).toNat)
  case atStart => exact ⟨0, by omega, rfl, _, rfl, by simp [itN]; omega, rfl⟩
  case round =>
    obtain ⟨k, hk, rfl, t, ht, hlt, rfl⟩ := hrel
    have HT := Lib.hid ht; clear ht
    have HB := Lib.hid (nx1_bits t hlt)
    by_cases h3 : k < 4
    · go_wp2
      go_round
      case rel => exact ⟨k + 1, by omega, by go_num, nx1 t, by rw [HT.out]; rfl, nx1_lt t, by rw [HB.out]⟩
      case measure => simp [intOf]; omega
    · obtain rfl : k = 4 := by omega
      go_wp2
      go_ret
      exact ⟨by rw [← nx4_it, ← HT.out]; rfl, rfl⟩
theorem nextScramble_i (s : Int) (w : World) :
    Calls Try.prog 29 #[.int .i64 s] w fun e w' => e = .returned (.int .i64 (nxF s)) ∧ w = w' := by
  cases hb : inB s 1 65535
  · go_enter Try.func29, Try.ntmps29
    go_wp2_with (go_at_call 37; refine (isScramble_any _ _).mono ?_; rintro e w' ⟨rfl, rfl⟩)
    go_ret
    exact ⟨by simp [nxF, hb], rfl⟩
  · have h := inB_t.1 hb
    obtain ⟨t, rfl⟩ := Int.eq_ofNat_of_zero_le (show 0 ≤ s by omega)
    simpa [nxF, hb] using nextScramble_in t w (by omega) (by omega)
theorem nextScramble_sn (s : Nat) (w : World) (h1 : 1 ≤ s) (h2 : s ≤ 65535) :
    Calls Try.prog 28 #[.int .i64 s] w fun e w' => e = .returned (.int .i64 (nx4 s : Nat)) ∧ w = w' := by
  have hb : inB (s : Int) 1 65535 = true := inB_t.2 (by omega)
  go_enter Try.func28, Try.ntmps28
  go_wp2_with (go_at_call 34; refine (l01In_any _ _ _ _).mono ?_; rintro e w' ⟨rfl, rfl⟩)
  go_loop [0, 3] (fun y i => ∃ k : Nat, k ≤ 4 ∧ i = .int .i64 k ∧ ∃ t : Nat, t = itN nx1 k s ∧ t < 65536 ∧ y = .int .i64 t) (fun _ i => 4 - (intOf i).toNat)
  case atStart => exact ⟨0, by omega, rfl, _, rfl, by simp [itN]; omega, rfl⟩
  case round =>
    obtain ⟨k, hk, rfl, t, ht, hlt, rfl⟩ := hrel
    have HT := Lib.hid ht; clear ht
    have HB := Lib.hid (nx1_bits t hlt)
    by_cases h3 : k < 4
    · go_wp2
      go_round
      case rel => exact ⟨k + 1, by omega, by go_num, nx1 t, by rw [HT.out]; rfl, nx1_lt t, by rw [← HB.out, Int.mul_comm]⟩
      case measure => simp [intOf]; omega
    · obtain rfl : k = 4 := by omega
      go_wp2
      go_ret
      exact ⟨by rw [← nx4_it, ← HT.out]; rfl, rfl⟩
theorem nextScramble_s (s : Int) (w : World) :
    Calls Try.prog 28 #[.int .i64 s] w fun e w' => e = .returned (.int .i64 (nxF s)) ∧ w = w' := by
  cases hb : inB s 1 65535
  · go_enter Try.func28, Try.ntmps28
    go_wp2_with (go_at_call 34; refine (l01In_any _ _ _ _).mono ?_; rintro e w' ⟨rfl, rfl⟩)
    go_ret
    exact ⟨by simp [nxF, hb], rfl⟩
  · have h := inB_t.1 hb
    obtain ⟨t, rfl⟩ := Int.eq_ofNat_of_zero_le (show 0 ≤ s by omega)
    simpa [nxF, hb] using nextScramble_sn t w (by omega) (by omega)

/-! ### PacketLength, SymbolsFor -/
theorem packetLength_i (k d : Int) (w : World) :
    Calls Try.prog 38 #[.int .i64 k, .int .i64 d] w fun e w' => e = .returned (.int .i64 (packLen k d)) ∧ w = w' := by
  cases h : inB d 1 16
  · have hx := inB_f.1 h
    by_cases k0 : k = 0
    · subst k0
      go_enter Try.func38, Try.ntmps38
      go_wp2_with (go_at_call 40; refine (isSide_any _ _).mono ?_; rintro e w' ⟨rfl, rfl⟩)
      all_goals (go_ret; exact ⟨by simp [packLen, *], rfl⟩)
    · go_enter Try.func38, Try.ntmps38
      go_wp2_with (go_at_call 40; refine (isSide_any _ _).mono ?_; rintro e w' ⟨rfl, rfl⟩)
      all_goals (go_ret; exact ⟨by simp [packLen, *], rfl⟩)
  · have hx := inB_t.1 h
    have d0 : ((d : Int) == 0) = false := by simp; omega
    by_cases k0 : k = 0
    · subst k0
      go_enter Try.func38, Try.ntmps38
      go_wp2_with (go_at_call 40; refine (isSide_any _ _).mono ?_; rintro e w' ⟨rfl, rfl⟩)
      all_goals (go_ret; exact ⟨by simp [packLen, *], rfl⟩)
    · go_enter Try.func38, Try.ntmps38
      go_wp2_with (go_at_call 40; refine (isSide_any _ _).mono ?_; rintro e w' ⟨rfl, rfl⟩)
      all_goals (go_ret; exact ⟨by simp [packLen, *], rfl⟩)
end Go.Proofs.Ytabdcobameklbaa
