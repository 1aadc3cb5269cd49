/- Program and reference read the same packets: where one accepts, all nibbles are in range, and '|' is '+'. -/
import Derived.Test.YtkmbblooofmnpaaRead2
namespace Go.Proofs.Ytkmbblooofmnpaa
open Go.RowKit Go.Deep
theorem op_eq {d n : Int} (h0 : 0 ≤ d) (h1 : d < 1099511627776) (k0 : 0 ≤ n) (k1 : n ≤ 15) : opI d n = d * 16 + n ∧ opS d n = d * 16 + n := by
  obtain ⟨a, rfl⟩ := Int.eq_ofNat_of_zero_le h0
  obtain ⟨b, rfl⟩ := Int.eq_ofNat_of_zero_le k0
  have hw : wrap64 ((a : Int) * 16) = ((16 * a : Nat) : Int) := by unfold wrap64; omega
  constructor
  · unfold opI
    rw [hw, i64_or_nat _ _ (by omega) (by omega)]
    have := Nat.two_pow_add_eq_or_of_lt (i := 4) (b := b) (by omega) a
    rw [show 16 * a ||| b = 16 * a + b from this.symm]
    omega
  · unfold opS
    rw [hw]
    unfold wrap64
    omega
theorem pow16_pos : ∀ k : Nat, (1 : Int) ≤ 16 ^ k
  | 0 => by decide
  | k + 1 => by rw [Int.pow_succ]; have := pow16_pos k; omega
theorem fold_eq : ∀ (L : List Int) (d : Int), (∀ z ∈ L, 0 ≤ z ∧ z ≤ 15) → 0 ≤ d → (d + 1) * 16 ^ L.length ≤ 1099511627776 → L.foldl opI d = L.foldl opS d
  | [], _, _, _, _ => rfl
  | z :: L, d, h, h0, h1 => by
    have hz := h z (by simp)
    have hp : (1 : Int) ≤ 16 ^ L.length := pow16_pos L.length
    have e1 : (16 : Int) ^ (z :: L).length = 16 * 16 ^ L.length := by rw [List.length_cons, Int.pow_succ, Int.mul_comm]
    have hd : d + 1 ≤ 1099511627776 := by
      have h2 : (d + 1) * 1 ≤ (d + 1) * 16 ^ (z :: L).length := Int.mul_le_mul_of_nonneg_left (by rw [e1]; omega) (by omega)
      omega
    obtain ⟨o1, o2⟩ := op_eq h0 (by omega) hz.1 hz.2
    simp only [List.foldl_cons]
    rw [o1, o2]
    refine fold_eq L _ (fun y hy => h y (by simp [hy])) (by omega) ?_
    have h3 : (d * 16 + z + 1) * 16 ^ L.length ≤ ((d + 1) * 16) * 16 ^ L.length := Int.mul_le_mul_of_nonneg_right (by omega) (by omega)
    have h4 : ((d + 1) * 16) * 16 ^ L.length = (d + 1) * 16 ^ (z :: L).length := by rw [e1, Int.mul_assoc]
    omega
theorem pkF_rng {k f l : Int} {ds : List Int} (h : pkB k f l ds = true) : ∀ z ∈ pkF k f l ds, 0 ≤ z ∧ z ≤ 15 := by
  intro z hz
  unfold pkF at hz
  rw [if_pos h] at hz
  rcases List.mem_append.1 hz with hz | hz
  · exact pkBody_rng h z hz
  · simp only [List.mem_cons, List.not_mem_nil, or_false] at hz
    rcases hz with rfl | rfl <;> exact and15 _
theorem acc_rng {op : Int → Int → Int} {zs : List Int} (h : accO op zs = true) : ∀ j, j < 7 + 5 * rdN zs → 0 ≤ zat zs j ∧ zat zs j ≤ 15 := by
  simp only [accO, Bool.and_eq_true, decide_eq_true_eq] at h
  obtain ⟨⟨⟨_, h2⟩, h3⟩, h4⟩ := h
  have hr := pkF_rng h2
  rw [h4] at hr
  intro j hj
  have hjl : j < (zs.take (7 + 5 * rdN zs)).length := by rw [List.length_take]; omega
  have := hr _ (zat_mem hjl)
  have e : zat (zs.take (7 + 5 * rdN zs)) j = zat zs j := by rw [zat_eq hjl, zat_eq (by omega)]; simp
  rwa [e] at this
theorem rng_eq {zs : List Int} (hl : 7 + 5 * rdN zs ≤ zs.length) (h : ∀ j, j < 7 + 5 * rdN zs → 0 ≤ zat zs j ∧ zat zs j ≤ 15) :
    opI (zat zs 1) (zat zs 2) = opS (zat zs 1) (zat zs 2) ∧ dotsOf opI zs (rdN zs) = dotsOf opS zs (rdN zs) := by
  constructor
  · have h1 := h 1 (by omega)
    have h2 := h 2 (by omega)
    obtain ⟨o1, o2⟩ := op_eq h1.1 (by omega) h2.1 h2.2
    rw [o1, o2]
  · unfold dotsOf
    apply List.map_congr_left
    intro k hk
    have hk' : k < rdN zs := by simpa using hk
    unfold dotOf
    refine fold_eq _ 0 (fun z hz => ?_) (by omega) ?_
    · obtain ⟨i, hi, rfl⟩ := List.getElem_of_mem hz
      have hi5 : i < 5 := by simp at hi; omega
      have := h (5 + 5 * k + i) (by omega)
      rw [zat_eq (by omega)] at this
      simpa using this
    · have : ((zs.drop (5 + 5 * k)).take 5).length = 5 := by simp; omega
      rw [this]; decide
theorem acc_same (zs : List Int) : accO opI zs = accO opS zs ∧ (accO opS zs = true → opI (zat zs 1) (zat zs 2) = opS (zat zs 1) (zat zs 2) ∧ dotsOf opI zs (rdN zs) = dotsOf opS zs (rdN zs)) := by
  have key : ∀ op, accO op zs = true → accO opI zs = accO opS zs ∧ (opI (zat zs 1) (zat zs 2) = opS (zat zs 1) (zat zs 2) ∧ dotsOf opI zs (rdN zs) = dotsOf opS zs (rdN zs)) := by
    intro op h
    have hl : 7 + 5 * rdN zs ≤ zs.length := by
      simp only [accO, Bool.and_eq_true, decide_eq_true_eq] at h
      exact h.1.2
    obtain ⟨e1, e2⟩ := rng_eq hl (acc_rng h)
    refine ⟨?_, e1, e2⟩
    unfold accO
    rw [e1, e2]
  constructor
  · cases h1 : accO opI zs
    · cases h2 : accO opS zs
      · rfl
      · exact absurd (key opS h2).1 (by rw [h1, h2]; decide)
    · rw [← h1]; exact (key opI h1).1
  · intro h; exact (key opS h).2
end Go.Proofs.Ytkmbblooofmnpaa
