import Derived.Test.YtabdcobameklbaaNum2
namespace Go.Proofs.Ytabdcobameklbaa
open Go.RowKit
theorem ret_int {k : IntKind} {a b : Int} (h : a = b) : Ending.returned (.int k a) = .returned (.int k b) := by rw [h]
theorem ret_bool {a b : Bool} (h : a = b) : Ending.returned (.bool a) = .returned (.bool b) := by rw [h]
theorem ceilDiv_i (a b : Int) (w : World) (ha : 0 ≤ a) (ha' : a ≤ 1000000) (hb : 1 ≤ b) (hb' : b ≤ 1000000) :
    Calls Try.prog 39 #[.int .i64 a, .int .i64 b] w fun e w' => e = .returned (.int .i64 ((a + b - 1) / b)) ∧ w = w' := by
  have hb0 : (b == 0) = false := by simp; omega
  go_enter Try.func39, Try.ntmps39
  go_wp2
  go_ret
  exact ⟨rfl, rfl⟩
theorem packLen_k0 (d : Int) (h : 1 ≤ d ∧ d ≤ 16) : packLen 0 d = 7 + 5 * d := by simp [packLen, inB_t.2 h]
theorem packLen_k1 : packLen 1 0 = 7 := by decide
theorem symFor_0 : symFor 0 = 15 := by decide
theorem symFor_i (d : Int) (w : World) :
    Calls Try.prog 31 #[.int .i64 d] w fun e w' => e = .returned (.int .i64 (symFor d)) ∧ w = w' := by
  by_cases h0 : d = 0
  · subst h0
    have hp := packLen_k1
    go_enter Try.func31, Try.ntmps31
    go_wp2_with (first | (go_at_call 38; refine (packetLength_i _ _ _).mono ?_; rintro e w' ⟨rfl, rfl⟩) | (go_at_call 39; refine (ceilDiv_i _ _ _ (by omega) (by omega) (by omega) (by omega)).mono ?_; rintro e w' ⟨rfl, rfl⟩))
    go_ret
    exact ⟨ret_int symFor_0.symm, rfl⟩
  · have h0' : (d == 0) = false := by simp [h0]
    by_cases h : 1 ≤ d ∧ d ≤ 16
    · have hp := packLen_k0 d h
      have hs : symFor d = (7 + 5 * d + 12) / 13 * 15 := by rw [symFor, if_pos (inB_t.2 (by omega))]
      have HS := Lib.hid hs; clear hs
      go_enter Try.func31, Try.ntmps31
      go_wp2_with (first | (go_at_call 38; refine (packetLength_i _ _ _).mono ?_; rintro e w' ⟨rfl, rfl⟩) | (go_at_call 39; refine (ceilDiv_i _ _ _ (by omega) (by omega) (by omega) (by omega)).mono ?_; rintro e w' ⟨rfl, rfl⟩))
      go_ret
      exact ⟨ret_int (by rw [HS.out]; congr 2; omega), rfl⟩
    · have hp : packLen 0 d = -1 := by
        have : inB d 1 16 = false := inB_f.2 h
        simp [packLen, this]
      have hs : symFor d = -1 := by rw [symFor, if_neg (by rw [inB_t]; omega)]
      go_enter Try.func31, Try.ntmps31
      go_wp2_with (first | (go_at_call 38; refine (packetLength_i _ _ _).mono ?_; rintro e w' ⟨rfl, rfl⟩) | (go_at_call 39; refine (ceilDiv_i _ _ _ (by omega) (by omega) (by omega) (by omega)).mono ?_; rintro e w' ⟨rfl, rfl⟩))
      go_ret
      exact ⟨ret_int hs.symm, rfl⟩
theorem symFor_s (d : Int) (w : World) :
    Calls Try.prog 30 #[.int .i64 d] w fun e w' => e = .returned (.int .i64 (symFor d)) ∧ w = w' := by
  cases h : inB d 0 16
  · go_enter Try.func30, Try.ntmps30
    go_wp2_with (go_at_call 34; refine (l01In_any _ _ _ _).mono ?_; rintro e w' ⟨rfl, rfl⟩)
    go_ret
    exact ⟨by simp [symFor, h], rfl⟩
  · have hx := inB_t.1 h
    go_enter Try.func30, Try.ntmps30
    go_wp2_with (go_at_call 34; refine (l01In_any _ _ _ _).mono ?_; rintro e w' ⟨rfl, rfl⟩)
    go_ret
    exact ⟨ret_int (by simp only [symFor, h, if_true]; congr 2; omega), rfl⟩
/-- The 64 bits of an int as a natural number. -/
def U (x : Int) : Nat := (BitVec.ofInt 64 x).toNat
theorem U_eq (x : Int) : (U x : Int) = x % 18446744073709551616 := by
  unfold U
  rw [BitVec.toNat_ofInt]
  have : (((2 ^ 64 : Nat) : Nat) : Int) = 18446744073709551616 := by decide
  rw [this]
  omega
theorem U_lt (x : Int) : U x < 18446744073709551616 := by have := U_eq x; omega
theorem U_wrap (n : Int) : U (wrap64 n) = U n := by
  have h1 := U_eq (wrap64 n)
  have h2 := U_eq n
  unfold wrap64 at h1
  unfold wrap64
  omega
theorem bits_and_U (x y : Int) : bits .and .i64 x y = wrap64 ((U x &&& U y : Nat) : Int) := by
  show IntKind.i64.wrap ((BitVec.ofInt 64 x &&& BitVec.ofInt 64 y).toNat : Int) = _
  rw [BitVec.toNat_and, IntKind.wrap_i64]; simp only [wrap64, U]
theorem bits_xor_U (x y : Int) : bits .xor .i64 x y = wrap64 ((U x ^^^ U y : Nat) : Int) := by
  show IntKind.i64.wrap ((BitVec.ofInt 64 x ^^^ BitVec.ofInt 64 y).toNat : Int) = _
  rw [BitVec.toNat_xor, IntKind.wrap_i64]; simp only [wrap64, U]
theorem U_nat (n : Nat) (h : n < 18446744073709551616) : U (n : Int) = n := by have := U_eq (n : Int); omega
theorem U_and (x y : Int) : U (bits .and .i64 x y) = U x &&& U y := by
  rw [bits_and_U, U_wrap, U_nat]
  exact Nat.lt_of_le_of_lt Nat.and_le_left (U_lt x)
theorem U_xor (x y : Int) : U (bits .xor .i64 x y) = U x ^^^ U y := by
  rw [bits_xor_U, U_wrap, U_nat]
  exact Nat.xor_lt_two_pow (n := 64) (U_lt x) (U_lt y)
theorem and_mask31 (x : Int) : bits .and .i64 x 2147483647 = ((U x % 2147483648 : Nat) : Int) := by
  rw [bits_and_U]
  have h : U 2147483647 = 2147483647 := by decide
  have h2 : U x &&& 2147483647 = U x % 2147483648 := Nat.and_two_pow_sub_one_eq_mod (U x) 31
  rw [h, h2]
  exact IntWalk.wrap64_in _ (by omega)
theorem xor_mod31 (a b : Nat) : (a ^^^ b) % 2147483648 = (a % 2147483648) ^^^ (b % 2147483648) := Nat.xor_mod_two_pow (a := a) (b := b) (n := 31)
theorem frame31 (f : Int) : U (wrap64 (f * 65536)) % 2147483648 = U (wrap64 (bits .and .i64 f 32767 * 65536)) % 2147483648 := by
  have h1 : bits .and .i64 f 32767 = ((U f % 32768 : Nat) : Int) := by
    rw [bits_and_U]
    have h : U 32767 = 32767 := by decide
    have h2 : U f &&& 32767 = U f % 32768 := Nat.and_two_pow_sub_one_eq_mod (U f) 15
    rw [h, h2]
    exact IntWalk.wrap64_in _ (by omega)
  rw [U_wrap, U_wrap, h1]
  have e1 := U_eq (f * 65536)
  have e2 := U_eq (((U f % 32768 : Nat) : Int) * 65536)
  have e3 := U_eq f
  omega
theorem line31 (f : Int) : U (wrap64 (f * 4096)) % 2147483648 = U (wrap64 (bits .and .i64 f 524287 * 4096)) % 2147483648 := by
  have h1 : bits .and .i64 f 524287 = ((U f % 524288 : Nat) : Int) := by
    rw [bits_and_U]
    have h : U 524287 = 524287 := by decide
    have h2 : U f &&& 524287 = U f % 524288 := Nat.and_two_pow_sub_one_eq_mod (U f) 19
    rw [h, h2]
    exact IntWalk.wrap64_in _ (by omega)
  rw [U_wrap, U_wrap, h1]
  have e1 := U_eq (f * 4096)
  have e2 := U_eq (((U f % 524288 : Nat) : Int) * 4096)
  have e3 := U_eq f
  omega
theorem cip_eq (a f l k : Int) : mixF (cipI a f l k) = mixF (cipS a f l k) := by
  unfold mixF
  rw [and_mask31, and_mask31]
  unfold cipI cipS
  simp only [U_xor, xor_mod31]
  rw [frame31 f, line31 l]
end Go.Proofs.Ytabdcobameklbaa
