/- Contracts of the functions on numbers that call others: Capacity, Mix, NextScramble, PacketLength, SymbolsFor and the cipher's. -/
import Derived.Test.YtmibajhilbfecaaNum
namespace Go.Proofs.Ytmibajhilbfecaa
open Go.RowKit

theorem cap_bd {l r d : Int} (h : linkB l r d = true) : 1 ≤ l * r ∧ l * r ≤ 16 := by
  obtain ⟨h1, ⟨h2, h3⟩, _⟩ := linkB_t.1 h
  rcases h1 with rfl | rfl | rfl <;> omega
theorem capacity_i (l r d : Int) (w : World) :
    Calls Try.prog 20 #[.agg #[.int .i64 l, .int .i64 r, .int .i64 d]] w fun e w' => e = .returned (.int .i64 (capOf l r d)) ∧ Below w.heap.size w w' := by
  cases hl : linkB l r d
  · go_enter Try.func20, Try.ntmps20
    go_wp2_with (go_at_call 56; refine (linkOk_i _ _ _ _).mono ?_; rintro e w1 ⟨rfl, hb⟩)
    go_ret
    exact ⟨by simp [capOf, hl], ((Below.refl _ _).alloc (Nat.le_refl _) _).trans (hb.mono (by simp))⟩
  · have hm := cap_bd hl
    have hw : IntKind.i64.wrap (l * r) = l * r := IntWalk.i64_in _ (by omega)
    go_enter Try.func20, Try.ntmps20
    go_wp2_with (go_at_call 56; refine (linkOk_i _ _ _ _).mono ?_; rintro e w1 ⟨rfl, hb⟩; obtain ⟨hc, hf⟩ := bcell hb)
    go_ret
    exact ⟨by simp [capOf, hl], ((Below.refl _ _).alloc (Nat.le_refl _) _).trans (hb.mono (by simp))⟩
theorem capacity_s (l r d : Int) (w : World) :
    Calls Try.prog 60 #[.agg #[.int .i64 l, .int .i64 r, .int .i64 d]] w fun e w' => e = .returned (.int .i64 (capOf l r d)) ∧ Below w.heap.size w w' := by
  cases hl : linkB l r d
  · go_enter Try.func60, Try.ntmps60
    go_wp2_with (go_at_call 57; refine (linkOk_s _ _ _ _).mono ?_; rintro e w1 ⟨rfl, hb⟩)
    go_ret
    exact ⟨by simp [capOf, hl], ((Below.refl _ _).alloc (Nat.le_refl _) _).trans (hb.mono (by simp))⟩
  · have hm := cap_bd hl
    have hw : IntKind.i64.wrap (l * r) = l * r := IntWalk.i64_in _ (by omega)
    go_enter Try.func60, Try.ntmps60
    go_wp2_with (go_at_call 57; refine (linkOk_s _ _ _ _).mono ?_; rintro e w1 ⟨rfl, hb⟩; obtain ⟨hc, hf⟩ := bcell hb)
    go_ret
    exact ⟨by simp [capOf, hl], ((Below.refl _ _).alloc (Nat.le_refl _) _).trans (hb.mono (by simp))⟩

/-! ### Mix and its callers -/

/-! ### NextScramble -/

/-! ### PacketLength, SymbolsFor -/
theorem packetLength_i (k d : Int) (w : World) :
    Calls Try.prog 74 #[.int .i64 k, .int .i64 d] w fun e w' => e = .returned (.int .i64 (packLen k d)) ∧ w = w' := by
  cases h : inB d 1 16
  · have hx := inB_f.1 h
    by_cases k0 : k = 0
    · subst k0
      go_enter Try.func74, Try.ntmps74
      go_wp2_with (go_at_call 91; refine (isSide_any _ _).mono ?_; rintro e w' ⟨rfl, rfl⟩)
      all_goals (go_ret; exact ⟨by simp [packLen, *], rfl⟩)
    · go_enter Try.func74, Try.ntmps74
      go_wp2_with (go_at_call 91; refine (isSide_any _ _).mono ?_; rintro e w' ⟨rfl, rfl⟩)
      all_goals (go_ret; exact ⟨by simp [packLen, *], rfl⟩)
  · have hx := inB_t.1 h
    have d0 : ((d : Int) == 0) = false := by simp; omega
    by_cases k0 : k = 0
    · subst k0
      go_enter Try.func74, Try.ntmps74
      go_wp2_with (go_at_call 91; refine (isSide_any _ _).mono ?_; rintro e w' ⟨rfl, rfl⟩)
      all_goals (go_ret; exact ⟨by simp [packLen, *], rfl⟩)
    · go_enter Try.func74, Try.ntmps74
      go_wp2_with (go_at_call 91; refine (isSide_any _ _).mono ?_; rintro e w' ⟨rfl, rfl⟩)
      all_goals (go_ret; exact ⟨by simp [packLen, *], rfl⟩)
end Go.Proofs.Ytmibajhilbfecaa
