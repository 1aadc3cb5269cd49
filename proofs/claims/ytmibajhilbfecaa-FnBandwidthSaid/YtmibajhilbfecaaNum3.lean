import Derived.Test.YtmibajhilbfecaaNum2
namespace Go.Proofs.Ytmibajhilbfecaa
open Go.RowKit
theorem ceilDiv_i (a b : Int) (w : World) (ha : 0 ≤ a) (ha' : a ≤ 1000000) (hb : 1 ≤ b) (hb' : b ≤ 1000000) :
    Calls Try.prog 70 #[.int .i64 a, .int .i64 b] w fun e w' => e = .returned (.int .i64 ((a + b - 1) / b)) ∧ w = w' := by
  have hb0 : (b == 0) = false := by simp; omega
  go_enter Try.func70, Try.ntmps70
  go_wp2
  go_ret
  exact ⟨rfl, rfl⟩
theorem packLen_k0 (d : Int) (h : 1 ≤ d ∧ d ≤ 16) : packLen 0 d = 7 + 5 * d := by simp [packLen, inB_t.2 h]
theorem packLen_k1 : packLen 1 0 = 7 := by decide
theorem symFor_0 : symFor 0 = 15 := by decide
theorem symFor_i (d : Int) (w : World) :
    Calls Try.prog 45 #[.int .i64 d] w fun e w' => e = .returned (.int .i64 (symFor d)) ∧ w = w' := by
  by_cases h0 : d = 0
  · subst h0
    have hp := packLen_k1
    go_enter Try.func45, Try.ntmps45
    go_wp2_with (first | (go_at_call 74; refine (packetLength_i _ _ _).mono ?_; rintro e w' ⟨rfl, rfl⟩) | (go_at_call 70; refine (ceilDiv_i _ _ _ (by omega) (by omega) (by omega) (by omega)).mono ?_; rintro e w' ⟨rfl, rfl⟩))
    go_ret
    exact ⟨ret_int symFor_0.symm, rfl⟩
  · have h0' : (d == 0) = false := by simp [h0]
    by_cases h : 1 ≤ d ∧ d ≤ 16
    · have hp := packLen_k0 d h
      have hs : symFor d = (7 + 5 * d + 12) / 13 * 15 := by rw [symFor, if_pos (inB_t.2 (by omega))]
      have HS := Lib.hid hs; clear hs
      go_enter Try.func45, Try.ntmps45
      go_wp2_with (first | (go_at_call 74; refine (packetLength_i _ _ _).mono ?_; rintro e w' ⟨rfl, rfl⟩) | (go_at_call 70; refine (ceilDiv_i _ _ _ (by omega) (by omega) (by omega) (by omega)).mono ?_; rintro e w' ⟨rfl, rfl⟩))
      go_ret
      exact ⟨ret_int (by rw [HS.out]; congr 2; omega), rfl⟩
    · have hp : packLen 0 d = -1 := by
        have : inB d 1 16 = false := inB_f.2 h
        simp [packLen, this]
      have hs : symFor d = -1 := by rw [symFor, if_neg (by rw [inB_t]; omega)]
      go_enter Try.func45, Try.ntmps45
      go_wp2_with (first | (go_at_call 74; refine (packetLength_i _ _ _).mono ?_; rintro e w' ⟨rfl, rfl⟩) | (go_at_call 70; refine (ceilDiv_i _ _ _ (by omega) (by omega) (by omega) (by omega)).mono ?_; rintro e w' ⟨rfl, rfl⟩))
      go_ret
      exact ⟨ret_int hs.symm, rfl⟩
theorem symFor_s (d : Int) (w : World) :
    Calls Try.prog 68 #[.int .i64 d] w fun e w' => e = .returned (.int .i64 (symFor d)) ∧ w = w' := by
  cases h : inB d 0 16
  · go_enter Try.func68, Try.ntmps68
    go_wp2_with (go_at_call 63; refine (l01In_any _ _ _ _).mono ?_; rintro e w' ⟨rfl, rfl⟩)
    go_ret
    exact ⟨by simp [symFor, h], rfl⟩
  · have hx := inB_t.1 h
    go_enter Try.func68, Try.ntmps68
    go_wp2_with (go_at_call 63; refine (l01In_any _ _ _ _).mono ?_; rintro e w' ⟨rfl, rfl⟩)
    go_ret
    exact ⟨ret_int (by simp only [symFor, h, if_true]; congr 2; omega), rfl⟩
end Go.Proofs.Ytmibajhilbfecaa
