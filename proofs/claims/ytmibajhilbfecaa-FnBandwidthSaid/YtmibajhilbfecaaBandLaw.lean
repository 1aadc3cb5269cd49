/- Bandwidth, the plain law: a mode that fits has room for all its lines; the best mode fits. -/
import Derived.Test.YtmibajhilbfecaaMon
namespace Go.Proofs.Ytmibajhilbfecaa
/-- What the law asks of one good mode on a good link, in the numbers that the program returns. -/
theorem band_at {m : MD} {l r d : Int} (hm : modeB m = true) (hl : linkB l r d = true) :
    (1 ≤ roomF m l r d ∧ roomF m l r d ≤ 4352) ∧ (1 ≤ symFor m.w ∧ symFor m.w ≤ 105) ∧ (1 ≤ slotsF m l r d ∧ slotsF m l r d ≤ 1681) ∧
    (fitB l r d m = decide (symFor m.w ≤ roomF m l r d)) ∧ 16 * symFor m.w ≤ slotsF m l r d * roomF m l r d ∧ (slotsF m l r d - 1) * roomF m l r d < 16 * symFor m.w := by
  have hb := modeB_t.1 hm
  have h1 := roomF_pos hm hl
  have h2 := (roomF_bd m l r d).2
  have hs : 1 ≤ symFor m.w ∧ symFor m.w ≤ 105 := by
    unfold symFor; rw [if_pos (inB_t.2 (by omega))]; omega
  have e := slotsF_yes hm hl
  unfold fitB
  rw [e]
  generalize roomF m l r d = R at *
  generalize symFor m.w = Y at *
  have hq := Int.mul_ediv_add_emod (16 * Y + R - 1) R
  have m1 := Int.emod_nonneg (16 * Y + R - 1) (show R ≠ 0 by omega)
  have m2 := Int.emod_lt_of_pos (16 * Y + R - 1) (show 0 < R by omega)
  generalize (16 * Y + R - 1) / R = q at *
  generalize (16 * Y + R - 1) % R = t at *
  have hqR : q * R = R * q := Int.mul_comm q R
  have hq1 : 1 ≤ q := by
    by_cases h : 1 ≤ q
    · exact h
    · have : R * q ≤ R * 0 := Int.mul_le_mul_of_nonneg_left (by omega) (by omega)
      omega
  have hq2 : q ≤ 1681 := by
    have : 1 * q ≤ R * q := Int.mul_le_mul_of_nonneg_right (by omega) (by omega)
    by_cases hR : R ≤ 1
    · have : R = 1 := by omega
      subst this
      omega
    · have : 2 * q ≤ R * q := Int.mul_le_mul_of_nonneg_right (by omega) (by omega)
      have h3 : R * q ≤ 16 * Y + R - 1 := by omega
      by_cases h4 : q ≤ 1681
      · exact h4
      · have h5 : R * 1682 ≤ R * q := Int.mul_le_mul_of_nonneg_left (by omega) (by omega)
        omega
  refine ⟨⟨h1, h2⟩, hs, ⟨hq1, hq2⟩, ?_, by omega, ?_⟩
  · have hiff : inB q 1 16 = true ↔ Y ≤ R := by
      rw [inB_t]
      constructor
      · rintro ⟨_, h16⟩
        have : R * q ≤ R * 16 := Int.mul_le_mul_of_nonneg_left (by omega) (by omega)
        omega
      · intro hYR
        refine ⟨hq1, ?_⟩
        by_cases h : q ≤ 16
        · exact h
        · have : R * 17 ≤ R * q := Int.mul_le_mul_of_nonneg_left (by omega) (by omega)
          omega
    by_cases hYR : Y ≤ R
    · rw [hiff.2 hYR]; simp [hYR]
    · have : inB q 1 16 = false := by
        cases hh : inB q 1 16
        · rfl
        · exact absurd (hiff.1 hh) hYR
      rw [this]; simp [hYR]
  · have : (q - 1) * R = R * q - R := by rw [Int.sub_mul, hqR]; omega
    omega
/-- The best mode is there where any mode fits, and it fits. -/
theorem best_law {N : ByteArray} {ms : List MD} {s x y l r d : Int} (h : monB N ms s = true) (hl : linkB l r d = true) :
    (bestF N ms s x y l r d).2 = ms.any (fitB l r d) ∧ ((bestF N ms s x y l r d).2 = true → fitB l r d (bestF N ms s x y l r d).1 = true) := by
  have e : bestF N ms s x y l r d = chooseF N (ms.filter (fitB l r d)) s x y := by simp [bestF, h, hl]
  have hf := filter_monB (fitB l r d) h
  rw [e]
  by_cases hn : ms.filter (fitB l r d) = []
  · have hf' : monB N (ms.filter (fitB l r d)) s = false := by rw [hf]; simp [hn]
    have hc : chooseF N (ms.filter (fitB l r d)) s x y = (zMD, false) := by unfold chooseF; rw [hf']; rfl
    rw [hc]
    refine ⟨?_, fun h => by cases h⟩
    symm
    rw [List.any_eq_false]
    intro m hm hfit
    have : m ∈ ms.filter (fitB l r d) := List.mem_filter.2 ⟨hm, hfit⟩
    rw [hn] at this
    cases this
  · have hc : chooseF N (ms.filter (fitB l r d)) s x y = (chG x y (ms.filter (fitB l r d)) (mat (ms.filter (fitB l r d)) 0), true) := by
      have hf' : monB N (ms.filter (fitB l r d)) s = true := by rw [hf]; simp [hn]
      unfold chooseF; rw [hf']; rfl
    rw [hc]
    have hpos := List.length_pos_iff.2 hn
    refine ⟨?_, fun _ => ?_⟩
    · symm
      have h0 := mat_mem hpos
      rw [List.any_eq_true]
      exact ⟨_, (List.mem_filter.1 h0).1, (List.mem_filter.1 h0).2⟩
    · rcases chG_mem x y (ms.filter (fitB l r d)) (mat (ms.filter (fitB l r d)) 0) with h1 | h1
      · rw [h1]; exact (List.mem_filter.1 (mat_mem hpos)).2
      · exact (List.mem_filter.1 h1).2
end Go.Proofs.Ytmibajhilbfecaa
