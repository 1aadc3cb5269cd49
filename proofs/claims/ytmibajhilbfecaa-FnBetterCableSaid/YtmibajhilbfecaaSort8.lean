/- symMerge for every row, and slices.SortStableFunc at links: the sort's mirror. -/
import Derived.Test.YtmibajhilbfecaaSort7
namespace Go.Proofs.Ytmibajhilbfecaa
open Go.RowKit Go.Deep
theorem sym_any (g c n : Nat) (hn : n ≤ 1000) : ∀ f, SymOk g c n f
  | 0 => fun a m b X w h ham hmb hb hf => by omega
  | f + 1 => fun a m b X w h ham hmb hb hf => by
    obtain ⟨h1, rfl⟩ := h
    by_cases hA : m - a = 1
    · rw [smF_A hA]
      exact (symA g c a m b X w h1 hA hmb hb hn).mono fun e w' ⟨p, q, r⟩ => ⟨p, ⟨q, upF_len ..⟩, r⟩
    · by_cases hB : b - m = 1
      · rw [smF_B hA hB]
        exact (symB g c a m b X w h1 ham hA hB hb hn).mono fun e w' ⟨p, q, r⟩ => ⟨p, ⟨q, dnF_len ..⟩, r⟩
      · exact symC g c f a m b X w h1 ham hA hmb hB hb hn hf (sym_any g c X.length hn f)
theorem insOut_len (a : Nat) : ∀ (n i : Nat) (L : List LK), (insOut a n i L).length = L.length
  | 0, _, _ => rfl
  | n + 1, i, L => by rw [insOut, insOut_len a n, insIn_len]
theorem insN (g c a b n : Nat) (X : List LK) (w : World) (h : RowN w g X n) (hb : b ≤ n) (hL : n ≤ 1000) (ha : a ≤ 1000) :
    Calls Try.prog 98 #[.slice (some ⟨g, 0, none⟩) n c, .int .i64 a, .int .i64 b, .func (.func 84) #[] #[]] w fun e w' => e = .returned (.tuple #[]) ∧ RowN w' g (insS X a b) n ∧ Off g (g + 1) w w' := by
  obtain ⟨h1, rfl⟩ := h
  exact (insertion_any g c a b X w h1 hb hL ha).mono fun e w' ⟨p, q, r⟩ => ⟨p, ⟨q, insOut_len ..⟩, r⟩
/-- The mirror of the stable sort of 48 elements: three blocks of twenty, merged twice. -/
def stF (X : List LK) : List LK := smF 48 0 40 48 (smF 40 0 20 40 (insS (insS (insS X 0 20) 20 40) 40 48))
set_option maxHeartbeats 4000000 in
set_option maxRecDepth 100000 in
theorem stable_any (g c : Nat) (X : List LK) (w : World) (h : RowN w g X 48) :
    Calls Try.prog 95 #[.slice (some ⟨g, 0, none⟩) 48 c, .int .i64 48, .func (.func 84) #[] #[]] w fun e w' => e = .returned (.tuple #[]) ∧ RowN w' g (stF X) 48 ∧ Off g (g + 1) w w' := by
  have I1 : ∀ X W, RowN W g X 48 → Calls Try.prog 98 #[.slice (some ⟨g, 0, none⟩) 48 c, .int .i64 0, .int .i64 20, .func (.func 84) #[] #[]] W fun e w' => e = .returned (.tuple #[]) ∧ RowN w' g (insS X 0 20) 48 ∧ Off g (g + 1) W w' := fun X W h => insN g c 0 20 48 X W h (by omega) (by omega) (by omega)
  have I2 : ∀ X W, RowN W g X 48 → Calls Try.prog 98 #[.slice (some ⟨g, 0, none⟩) 48 c, .int .i64 20, .int .i64 40, .func (.func 84) #[] #[]] W fun e w' => e = .returned (.tuple #[]) ∧ RowN w' g (insS X 20 40) 48 ∧ Off g (g + 1) W w' := fun X W h => insN g c 20 40 48 X W h (by omega) (by omega) (by omega)
  have I3 : ∀ X W, RowN W g X 48 → Calls Try.prog 98 #[.slice (some ⟨g, 0, none⟩) 48 c, .int .i64 40, .int .i64 48, .func (.func 84) #[] #[]] W fun e w' => e = .returned (.tuple #[]) ∧ RowN w' g (insS X 40 48) 48 ∧ Off g (g + 1) W w' := fun X W h => insN g c 40 48 48 X W h (by omega) (by omega) (by omega)
  have M1 : ∀ X W, RowN W g X 48 → Calls Try.prog 99 #[.slice (some ⟨g, 0, none⟩) 48 c, .int .i64 0, .int .i64 20, .int .i64 40, .func (.func 84) #[] #[]] W fun e w' => e = .returned (.tuple #[]) ∧ RowN w' g (smF 40 0 20 40 X) 48 ∧ Off g (g + 1) W w' := fun X W h => sym_any g c 48 (by omega) 40 0 20 40 X W h (by omega) (by omega) (by omega) (by omega)
  have M2 : ∀ X W, RowN W g X 48 → Calls Try.prog 99 #[.slice (some ⟨g, 0, none⟩) 48 c, .int .i64 0, .int .i64 40, .int .i64 48, .func (.func 84) #[] #[]] W fun e w' => e = .returned (.tuple #[]) ∧ RowN w' g (smF 48 0 40 48 X) 48 ∧ Off g (g + 1) W w' := fun X W h => sym_any g c 48 (by omega) 48 0 40 48 X W h (by omega) (by omega) (by omega) (by omega)
  go_enter Try.func95, Try.ntmps95
  go_wp2
  refine wp_loop_rounds 3 ?_
  rw [rounds_succ]
  go_wp2_with fail
  refine (I1 X _ h).mono ?_
  rintro e w1 ⟨rfl, h1, o1⟩
  go_wp2
  rw [rounds_succ]
  go_wp2_with fail
  refine (I2 _ _ h1).mono ?_
  rintro e w2 ⟨rfl, h2, o2⟩
  go_wp2
  rw [rounds_succ]
  go_wp2_with fail
  refine (I3 _ _ h2).mono ?_
  rintro e w3 ⟨rfl, h3, o3⟩
  go_wp2
  refine wp_loop_rounds 3 ?_
  rw [rounds_succ]
  go_wp2
  refine wp_loop_rounds 2 ?_
  rw [rounds_succ]
  go_wp2_with fail
  refine (M1 _ _ h3).mono ?_
  rintro e w4 ⟨rfl, h4, o4⟩
  go_wp2
  rw [rounds_succ]
  go_wp2
  rw [rounds_succ]
  go_wp2
  refine wp_loop_rounds 1 ?_
  rw [rounds_succ]
  go_wp2_with fail
  refine (M2 _ _ h4).mono ?_
  rintro e w5 ⟨rfl, h5, o5⟩
  go_wp2
  rw [rounds_succ]
  go_wp2
  go_end0
  exact ⟨rfl, h5, ((((o1.trans o2).trans o3).trans o4).trans o5)⟩
theorem sortStable_any (g c : Nat) (X : List LK) (w : World) (h : RowN w g X 48) :
    Calls Try.prog 83 #[.slice (some ⟨g, 0, none⟩) 48 c, .func (.func 84) #[] #[]] w fun e w' => e = .returned (.tuple #[]) ∧ RowN w' g (stF X) 48 ∧ Off g (g + 1) w w' := by
  go_enter Try.func83, Try.ntmps83
  go_wp2_with fail
  refine (stable_any g c X w h).mono ?_
  rintro e w1 ⟨rfl, h1, o1⟩
  go_wp2
  go_end0
  exact ⟨rfl, h1, o1⟩
end Go.Proofs.Ytmibajhilbfecaa
