/- Plain law of the blocks: nibbles come back from their blocks, followed by zeros. -/
import Derived.Test.YtkmbblooofmnpaaBlocks
import Derived.Test.YtkmbblooofmnpaaDBlocks
import Derived.Test.YtkmbblooofmnpaaDist
import Derived.Test.YtkmbblooofmnpaaDraw
namespace Go.Proofs.Ytkmbblooofmnpaa
open Go.RowKit Go.Deep
theorem nib_nibs {L : List Int} (h : NIB L) : nibs L = true := by
  unfold nibs; rw [List.all_eq_true]; exact fun z hz => inB_t.2 (h z hz)
theorem blk_ok13 {L : List Int} (h : NIB L) (i : Nat) : ok13 (blk L i) = true := by
  have h1 : (blk L i).length = 13 := by unfold blk; simp; omega
  have h2 : nibs (blk L i) = true := by
    unfold nibs; rw [List.all_eq_true]
    intro z hz
    unfold blk at hz
    rcases List.mem_append.1 hz with hz | hz
    · exact inB_t.2 (h z (List.mem_of_mem_drop (List.mem_of_mem_take hz)))
    · rw [List.eq_of_mem_replicate hz]; decide
  simp [ok13, h1, h2]
theorem zat_append_l {xs ys : List Int} {k : Nat} (h : k < xs.length) : zat (xs ++ ys) k = zat xs k := by
  rw [zat_eq (by simp; omega), zat_eq h, List.getElem_append_left h]
theorem zat_append_r {xs ys : List Int} {k : Nat} (h : xs.length ≤ k) : zat (xs ++ ys) k = zat ys (k - xs.length) := by
  unfold zat; rw [List.getD_eq_getElem?_getD, List.getD_eq_getElem?_getD, List.getElem?_append_right h]
theorem zat_none {xs : List Int} {k : Nat} (h : xs.length ≤ k) : zat xs k = 0 := by
  unfold zat; rw [List.getD_eq_getElem?_getD, List.getElem?_eq_none h]; rfl
theorem zat_blk (L : List Int) (i r : Nat) (hr : r < 13) : zat (blk L i) r = zat L (13 * i + r) := by
  unfold blk
  by_cases h : r < ((L.drop (13 * i)).take 13).length
  · rw [zat_append_l h, zat_eq h]
    have h2 : 13 * i + r < L.length := by simp at h; omega
    rw [zat_eq h2]; simp
  · rw [zat_append_r (by omega)]
    have h2 : L.length ≤ 13 * i + r := by simp at h; omega
    rw [zat_none h2]
    unfold zat
    rw [List.getD_eq_getElem?_getD, List.getElem?_replicate]
    split <;> rfl
def bkL (L : List Int) (j : Nat) : List Int := (List.range j).flatMap (blk L)
theorem bkL_succ (L : List Int) (j : Nat) : bkL L (j + 1) = bkL L j ++ blk L j := by simp [bkL, List.range_succ]
theorem blk_len (L : List Int) (i : Nat) : (blk L i).length = 13 := by unfold blk; simp; omega
theorem bkL_len (L : List Int) : ∀ j, (bkL L j).length = 13 * j
  | 0 => rfl
  | j + 1 => by rw [bkL_succ, List.length_append, bkL_len L j, blk_len]; omega
theorem zat_bkL (L : List Int) : ∀ j k, k < 13 * j → zat (bkL L j) k = zat L k
  | 0, k, h => by omega
  | j + 1, k, h => by
    rw [bkL_succ]
    by_cases hk : k < 13 * j
    · rw [zat_append_l (by rw [bkL_len]; exact hk), zat_bkL L j k hk]
    · rw [zat_append_r (by rw [bkL_len]; omega), bkL_len, zat_blk L j _ (by omega)]
      congr 1; omega
theorem dblk_flat (f : Nat → List Int) (hf : ∀ i, (f i).length = 15) : ∀ (j i : Nat) (t : List Int), i < j → dblk ((List.range j).flatMap f ++ t) i = f i
  | 0, i, t, h => by omega
  | j + 1, i, t, h => by
    have e : (List.range (j + 1)).flatMap f = (List.range j).flatMap f ++ f j := by simp [List.range_succ]
    have hl : ∀ j, ((List.range j).flatMap f).length = 15 * j := by
      intro j
      induction j with
      | zero => rfl
      | succ j ih => rw [show (List.range (j + 1)).flatMap f = (List.range j).flatMap f ++ f j by simp [List.range_succ], List.length_append, ih, hf]; omega
    rw [e, List.append_assoc]
    by_cases hi : i < j
    · exact dblk_flat f hf j i _ hi
    · obtain rfl : i = j := by omega
      unfold dblk
      have hd : 15 * i = ((List.range i).flatMap f).length := (hl i).symm
      rw [hd, List.drop_left, List.take_left' (hf i)]
theorem encF_blk {L : List Int} (h : NIB L) (i : Nat) : encF (blk L i) = encW (blk L i) := by simp [encF, blk_ok13 h i]
theorem encTo_W {L : List Int} (h : NIB L) (j : Nat) : encTo L j = (List.range j).flatMap fun i => encW (blk L i) := by
  unfold encTo
  congr 1
  funext i
  exact encF_blk h i
theorem encTo_len {L : List Int} (h : NIB L) : ∀ j, (encTo L j).length = 15 * j
  | 0 => rfl
  | j + 1 => by rw [encTo_succ, List.length_append, encTo_len h j, encF_blk h, encW_len (blk_ok13 h j)]; omega
theorem encTo_nibs {L : List Int} (h : NIB L) : ∀ j, nibs (encTo L j) = true
  | 0 => rfl
  | j + 1 => by
    rw [encTo_succ, encF_blk h]
    have h1 := encTo_nibs h j
    have h2 := encW_nibs (blk_ok13 h j)
    unfold nibs at h1 h2 ⊢
    rw [List.all_append, h1, h2]; rfl
theorem dblk_enc {L : List Int} (h : NIB L) (j i : Nat) (t : List Int) (hi : i < j) : dblk (encTo L j ++ t) i = encW (blk L i) := by
  rw [encTo_W h]
  exact dblk_flat _ (fun i => encW_len (blk_ok13 h i)) j i t hi
theorem dec_enc {L : List Int} (h : NIB L) (j : Nat) (t : List Int) : ∀ m, m ≤ j → decTo (encTo L j ++ t) m = bkL L m ∧ (∀ v, v ≠ 0 → cntTo v (encTo L j ++ t) m = 0)
  | 0, _ => ⟨rfl, fun _ _ => rfl⟩
  | m + 1, hm => by
    obtain ⟨h1, h2⟩ := dec_enc h j t m (by omega)
    have hb := dblk_enc h j m t (by omega)
    have hc := dec_clean (blk_ok13 h m)
    refine ⟨by rw [decTo_succ, h1, hb, hc.1, bkL_succ], fun v hv => ?_⟩
    rw [cntTo_succ, h2 v hv, hb, hc.2, if_neg (by simp; exact fun e => hv e.symm)]
/-- What DecodeBlocks gives of the blocks and three nibbles behind them. -/
theorem dec_blocks {L : List Int} (h : NIB L) : decBs (encTo L ((L.length + 12) / 13) ++ [1, 2, 3]) = bkL L ((L.length + 12) / 13) ∧ decX 1 (encTo L ((L.length + 12) / 13) ++ [1, 2, 3]) = 0 ∧ decX 2 (encTo L ((L.length + 12) / 13) ++ [1, 2, 3]) = 0 := by
  have hl := encTo_len h ((L.length + 12) / 13)
  have hn : nibs (encTo L ((L.length + 12) / 13) ++ [1, 2, 3]) = true := by
    have h1 := encTo_nibs h ((L.length + 12) / 13)
    unfold nibs at h1 ⊢
    rw [List.all_append, h1]; decide
  have hd : (encTo L ((L.length + 12) / 13) ++ [1, 2, 3]).length / 15 = (L.length + 12) / 13 := by rw [List.length_append, hl]; simp; omega
  obtain ⟨h1, h2⟩ := dec_enc h ((L.length + 12) / 13) [1, 2, 3] _ (Nat.le_refl _)
  refine ⟨by unfold decBs; rw [if_pos hn, hd, h1], ?_, ?_⟩
  · unfold decX; rw [if_pos hn, hd, h2 1 (by decide)]; rfl
  · unfold decX; rw [if_pos hn, hd, h2 2 (by decide)]; rfl
theorem encBs_nib {L : List Int} (h : NIB L) : encBs L = encTo L ((L.length + 12) / 13) := by unfold encBs; rw [if_pos (nib_nibs h)]
end Go.Proofs.Ytkmbblooofmnpaa
