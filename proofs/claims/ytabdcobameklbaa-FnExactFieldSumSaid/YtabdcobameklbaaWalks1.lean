/- The walks of the laws on numbers: each law's Go text returns true. -/
import Derived.Test.YtabdcobameklbaaOpen
import Derived.Test.YtabdcobameklbaaNum3
namespace Go.Proofs.Ytabdcobameklbaa
open Go.RowKit
theorem walk_fnExactLaneCountOk (w : World) (a : Int) (_ha : I64 a) : Calls Try.prog 3 #[.int .i64 a] w fun e w' => e = .returned (.bool true) ∧ Below w.heap.size w w' := by
  go_enter Try.func3, Try.ntmps3
  go_wp2_with (first | (go_at_call 13; refine (laneCountOk_s _ _).mono ?_; rintro e w' ⟨rfl, rfl⟩) | (go_at_call 14; refine (laneCountOk_i _ _).mono ?_; rintro e w' ⟨rfl, rfl⟩))
  go_ret
  exact ⟨rfl, Below.refl _ _⟩
theorem walk_fnExactFieldSum (w : World) (a : Int) (_ha : I64 a) (b : Int) (_hb : I64 b) : Calls Try.prog 4 #[.int .i64 a, .int .i64 b] w fun e w' => e = .returned (.bool true) ∧ Below w.heap.size w w' := by
  go_enter Try.func4, Try.ntmps4
  go_wp2_with (first | (go_at_call 15; refine (fieldSum_s _ _ _).mono ?_; rintro e w' ⟨rfl, rfl⟩) | (go_at_call 16; refine (fieldSum_i _ _ _).mono ?_; rintro e w' ⟨rfl, rfl⟩))
  go_ret
  exact ⟨rfl, Below.refl _ _⟩
theorem walk_fnExactMix (w : World) (a : Int) (_ha : I64 a) : Calls Try.prog 5 #[.int .i64 a] w fun e w' => e = .returned (.bool true) ∧ Below w.heap.size w w' := by
  go_enter Try.func5, Try.ntmps5
  go_wp2_with (first | (go_at_call 17; refine (mix_s _ _).mono ?_; rintro e w' ⟨rfl, rfl⟩) | (go_at_call 18; refine (mix_i _ _).mono ?_; rintro e w' ⟨rfl, rfl⟩))
  go_ret
  exact ⟨rfl, Below.refl _ _⟩
theorem walk_fnExactAnswerOf (w : World) (a : Int) (_ha : I64 a) (b : Int) (_hb : I64 b) : Calls Try.prog 7 #[.int .i64 a, .int .i64 b] w fun e w' => e = .returned (.bool true) ∧ Below w.heap.size w w' := by
  go_enter Try.func7, Try.ntmps7
  go_wp2_with (first | (go_at_call 22; refine (answerOf_s _ _ _).mono ?_; rintro e w' ⟨rfl, rfl⟩) | (go_at_call 23; refine (answerOf_i _ _ _).mono ?_; rintro e w' ⟨rfl, rfl⟩))
  go_ret
  exact ⟨rfl, Below.refl _ _⟩
theorem walk_fnExactSessionKey (w : World) (a : Int) (_ha : I64 a) (b : Int) (_hb : I64 b) : Calls Try.prog 8 #[.int .i64 a, .int .i64 b] w fun e w' => e = .returned (.bool true) ∧ Below w.heap.size w w' := by
  go_enter Try.func8, Try.ntmps8
  go_wp2_with (first | (go_at_call 24; refine (sessionKey_s _ _ _).mono ?_; rintro e w' ⟨rfl, rfl⟩) | (go_at_call 25; refine (sessionKey_i _ _ _).mono ?_; rintro e w' ⟨rfl, rfl⟩))
  go_ret
  exact ⟨rfl, Below.refl _ _⟩
theorem walk_fnExactCipherNibble (w : World) (a : Int) (_ha : I64 a) (f : Int) (_hf : I64 f) (l : Int) (_hl : I64 l) (k : Int) (_hk : I64 k) : Calls Try.prog 9 #[.int .i64 a, .int .i64 f, .int .i64 l, .int .i64 k] w fun e w' => e = .returned (.bool true) ∧ Below w.heap.size w w' := by
  have HE := Lib.hid (cip_eq a f l k)
  go_enter Try.func9, Try.ntmps9
  go_wp2_with (first | (go_at_call 26; refine (cipherNibble_s _ _ _ _ _).mono ?_; rintro e w' ⟨rfl, rfl⟩) | (go_at_call 27; refine (cipherNibble_i _ _ _ _ _).mono ?_; rw [HE.out]; rintro e w' ⟨rfl, rfl⟩))
  go_ret
  exact ⟨rfl, Below.refl _ _⟩
theorem walk_fnExactNextScramble (w : World) (a : Int) (_ha : I64 a) : Calls Try.prog 10 #[.int .i64 a] w fun e w' => e = .returned (.bool true) ∧ Below w.heap.size w w' := by
  go_enter Try.func10, Try.ntmps10
  go_wp2_with (first | (go_at_call 28; refine (nextScramble_s _ _).mono ?_; rintro e w' ⟨rfl, rfl⟩) | (go_at_call 29; refine (nextScramble_i _ _).mono ?_; rintro e w' ⟨rfl, rfl⟩))
  go_ret
  exact ⟨rfl, Below.refl _ _⟩
theorem walk_fnExactSymbolsFor (w : World) (a : Int) (_ha : I64 a) : Calls Try.prog 11 #[.int .i64 a] w fun e w' => e = .returned (.bool true) ∧ Below w.heap.size w w' := by
  go_enter Try.func11, Try.ntmps11
  go_wp2_with (first | (go_at_call 30; refine (symFor_s _ _).mono ?_; rintro e w' ⟨rfl, rfl⟩) | (go_at_call 31; refine (symFor_i _ _).mono ?_; rintro e w' ⟨rfl, rfl⟩))
  go_ret
  exact ⟨rfl, Below.refl _ _⟩
theorem walk_fnExactLinkOk (w : World) (l : Int) (_hl : I64 l) (r : Int) (_hr : I64 r) (d : Int) (_hd : I64 d) : Calls Try.prog 6 #[.agg #[.int .i64 l, .int .i64 r, .int .i64 d]] w fun e w' => e = .returned (.bool true) ∧ Below w.heap.size w w' := by
  go_enter Try.func6, Try.ntmps6
  go_wp2_with fail
  refine (toLink_any _ _ _ _).mono ?_; rintro e w1 ⟨rfl, hb1⟩; obtain ⟨hc1, _⟩ := bcell hb1
  have s1 : w.heap.size < w1.heap.size := by have := hb1.size; simp at this; omega
  go_wp2_with fail
  refine (linkOk_s _ _ _ _).mono ?_; rintro e w2 ⟨rfl, hb2⟩; obtain ⟨hc2, _⟩ := bcell hb2
  have s2 := hb2.size; have s2' : w.heap.size < w2.heap.size := by omega
  go_wp2_with fail
  refine (toLink_any _ _ _ _).mono ?_; rintro e w3 ⟨rfl, hb3⟩
  go_wp2_with fail
  refine (linkOk_i _ _ _ _).mono ?_; rintro e w4 ⟨rfl, hb4⟩
  go_wp2
  go_ret
  exact ⟨rfl, ((Below.refl _ _).alloc (Nat.le_refl _) _).trans (((hb1.mono (by simp)).trans (hb2.mono (by omega))).trans ((hb3.mono (by omega)).trans (hb4.mono (by have := hb3.size; omega))))⟩
theorem walk_fnExactCapacity (w : World) (l : Int) (_hl : I64 l) (r : Int) (_hr : I64 r) (d : Int) (_hd : I64 d) : Calls Try.prog 12 #[.agg #[.int .i64 l, .int .i64 r, .int .i64 d]] w fun e w' => e = .returned (.bool true) ∧ Below w.heap.size w w' := by
  go_enter Try.func12, Try.ntmps12
  go_wp2_with fail
  refine (toLink_any _ _ _ _).mono ?_; rintro e w1 ⟨rfl, hb1⟩; obtain ⟨hc1, _⟩ := bcell hb1
  have s1 : w.heap.size < w1.heap.size := by have := hb1.size; simp at this; omega
  go_wp2_with fail
  refine (capacity_s _ _ _ _).mono ?_; rintro e w2 ⟨rfl, hb2⟩; obtain ⟨hc2, _⟩ := bcell hb2
  have s2 := hb2.size; have s2' : w.heap.size < w2.heap.size := by omega
  go_wp2_with fail
  refine (toLink_any _ _ _ _).mono ?_; rintro e w3 ⟨rfl, hb3⟩
  go_wp2_with fail
  refine (capacity_i _ _ _ _).mono ?_; rintro e w4 ⟨rfl, hb4⟩
  go_wp2
  go_ret
  exact ⟨rfl, ((Below.refl _ _).alloc (Nat.le_refl _) _).trans (((hb1.mono (by simp)).trans (hb2.mono (by omega))).trans ((hb3.mono (by omega)).trans (hb4.mono (by have := hb3.size; omega))))⟩
end Go.Proofs.Ytabdcobameklbaa
