/- Contracts of the functions on numbers that call others: Capacity, Mix, NextScramble, PacketLength, SymbolsFor and the cipher's. -/
import Derived.Test.YtkmbblooofmnpaaNum
namespace Go.Proofs.Ytkmbblooofmnpaa
open Go.RowKit

theorem cap_bd {l r d : Int} (h : linkB l r d = true) : 1 ≤ l * r ∧ l * r ≤ 16 := by
  obtain ⟨h1, ⟨h2, h3⟩, _⟩ := linkB_t.1 h
  rcases h1 with rfl | rfl | rfl <;> omega

/-! ### Mix and its callers -/

/-! ### NextScramble -/

/-! ### PacketLength, SymbolsFor -/
theorem packetLength_i (k d : Int) (w : World) :
    Calls Try.prog 16 #[.int .i64 k, .int .i64 d] w fun e w' => e = .returned (.int .i64 (packLen k d)) ∧ w = w' := by
  cases h : inB d 1 16
  · have hx := inB_f.1 h
    by_cases k0 : k = 0
    · subst k0
      go_enter Try.func16, Try.ntmps16
      go_wp2_with (go_at_call 51; refine (isSide_any _ _).mono ?_; rintro e w' ⟨rfl, rfl⟩)
      all_goals (go_ret; exact ⟨by simp [packLen, *], rfl⟩)
    · go_enter Try.func16, Try.ntmps16
      go_wp2_with (go_at_call 51; refine (isSide_any _ _).mono ?_; rintro e w' ⟨rfl, rfl⟩)
      all_goals (go_ret; exact ⟨by simp [packLen, *], rfl⟩)
  · have hx := inB_t.1 h
    have d0 : ((d : Int) == 0) = false := by simp; omega
    by_cases k0 : k = 0
    · subst k0
      go_enter Try.func16, Try.ntmps16
      go_wp2_with (go_at_call 51; refine (isSide_any _ _).mono ?_; rintro e w' ⟨rfl, rfl⟩)
      all_goals (go_ret; exact ⟨by simp [packLen, *], rfl⟩)
    · go_enter Try.func16, Try.ntmps16
      go_wp2_with (go_at_call 51; refine (isSide_any _ _).mono ?_; rintro e w' ⟨rfl, rfl⟩)
      all_goals (go_ret; exact ⟨by simp [packLen, *], rfl⟩)
end Go.Proofs.Ytkmbblooofmnpaa
