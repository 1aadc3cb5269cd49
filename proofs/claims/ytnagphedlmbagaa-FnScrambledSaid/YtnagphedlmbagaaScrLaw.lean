/- Plain laws of the scrambler: scrambling twice changes nothing; it can be done in two parts. -/
import Derived.Test.YtnagphedlmbagaaS3b
import Derived.Test.YtnagphedlmbagaaDraw
namespace Go.Proofs.Ytnagphedlmbagaa
open Go.RowKit Go.Deep
theorem xor_nib (z : Int) (s : Nat) (h0 : 0 ≤ z) (h1 : z ≤ 15) (hs : s < 65536) :
    (0 ≤ bits .xor .i64 z (bits .and .i64 s 15) ∧ bits .xor .i64 z (bits .and .i64 s 15) ≤ 15) ∧ bits .xor .i64 (bits .xor .i64 z (bits .and .i64 s 15)) (bits .and .i64 s 15) = z := by
  obtain ⟨a, rfl⟩ := Int.eq_ofNat_of_zero_le h0
  have e1 : bits .and .i64 (s : Int) 15 = ((s &&& 15 : Nat) : Int) := i64_and_nat s 15 (by omega) (by omega)
  have b1 : s &&& 15 < 16 := Nat.lt_of_le_of_lt Nat.and_le_right (by omega)
  have b2 : a ^^^ (s &&& 15) < 16 := Nat.xor_lt_two_pow (n := 4) (by omega) b1
  rw [e1, i64_xor_nat _ _ (by omega) (by omega), i64_xor_nat _ _ (by omega) (by omega), Nat.xor_assoc, Nat.xor_self, Nat.xor_zero]
  exact ⟨⟨by omega, by omega⟩, rfl⟩
theorem scrF_nib : ∀ (L : List Int) (t : Nat), NIB L → t < 65536 → NIB (scrF L t)
  | [], _, _, _ => fun z hz => by cases hz
  | z :: L, t, h, ht => by
    have hz := h z (by simp)
    have ih := scrF_nib L (nx4 t) (fun y hy => h y (by simp [hy])) (nx4_lt t)
    intro y hy
    simp only [scrF, List.mem_cons] at hy
    rcases hy with rfl | hy
    · exact (xor_nib z t hz.1 hz.2 ht).1
    · exact ih y hy
theorem scrF_twice : ∀ (L : List Int) (t : Nat), NIB L → t < 65536 → scrF (scrF L t) t = L
  | [], _, _, _ => rfl
  | z :: L, t, h, ht => by
    have hz := h z (by simp)
    simp only [scrF]
    rw [(xor_nib z t hz.1 hz.2 ht).2, scrF_twice L (nx4 t) (fun y hy => h y (by simp [hy])) (nx4_lt t)]
theorem scrF_parts : ∀ (L : List Int) (t k : Nat), k ≤ L.length → scrF (L.take k) t ++ scrF (L.drop k) (itN nx4 k t) = scrF L t
  | L, t, 0, _ => by simp [scrF, itN]
  | [], _, k + 1, h => by simp at h
  | z :: L, t, k + 1, h => by
    simp only [List.take_succ_cons, List.drop_succ_cons, scrF, List.cons_append]
    rw [← scrF_parts L (nx4 t) k (by simpa using h)]
    show _ :: (scrF (L.take k) (nx4 t) ++ scrF (L.drop k) (nx4 (itN nx4 k t))) = _
    rw [← itN_out nx4 k t]
theorem scramF_eq {L : List Int} {t : Nat} (h : NIB L) (h1 : 1 ≤ t) (h2 : t ≤ 65535) : scramF L t = scrF L t := by
  have : L.all (fun z => inB z 0 15) = true := by rw [List.all_eq_true]; exact fun z hz => inB_t.2 (h z hz)
  simp [scramF, this, inB_t.2 (show (1 : Int) ≤ (t : Int) ∧ (t : Int) ≤ 65535 by omega)]
theorem saF_eq {t k : Nat} (h1 : 1 ≤ t) (h2 : t ≤ 65535) (hk : k ≤ 1000000) : saF t k = (itN nx4 k t : Nat) := by
  simp [saF, inB_t.2 (show (1 : Int) ≤ (t : Int) ∧ (t : Int) ≤ 65535 by omega), inB_t.2 (show (0 : Int) ≤ (k : Int) ∧ (k : Int) ≤ 1000000 by omega)]
theorem NIB.take {L : List Int} (h : NIB L) (k : Nat) : NIB (L.take k) := fun z hz => h z (List.mem_of_mem_take hz)
theorem NIB.drop {L : List Int} (h : NIB L) (k : Nat) : NIB (L.drop k) := fun z hz => h z (List.mem_of_mem_drop hz)
end Go.Proofs.Ytnagphedlmbagaa
