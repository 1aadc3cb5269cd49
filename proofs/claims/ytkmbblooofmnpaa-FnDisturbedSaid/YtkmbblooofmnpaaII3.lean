/- Slices of slices of ints: marked, held. -/
import Derived.Test.YtkmbblooofmnpaaII2
namespace Go.Proofs.Ytkmbblooofmnpaa
open Go.RowKit Go.Deep
theorem lat_mark {k0 : Int} {L : List (List Int)} {k : Nat} (h : k < L.length) : lat (markSS k0 (L.take k) ++ L.drop k) k = lat L k := by
  have e : (markSS k0 (L.take k)).length = k := by rw [markSS_len]; simp; omega
  unfold lat
  rw [List.getD_eq_getElem?_getD, List.getElem?_append_right (by omega), e, Nat.sub_self, List.getElem?_drop, Nat.add_zero, ← List.getD_eq_getElem?_getD]
set_option maxHeartbeats 1000000 in
theorem markIntSS_any (A : Option Addr) (n c lo hi : Nat) (k0 : Int) (L : List (List Int)) (w : World) (h : OwnSS w lo hi A n c L) (hn : n + tot L ≤ 4194304) (h0 : 0 ≤ k0) (h1 : k0 ≤ 100000000) :
    Calls Try.prog 26 #[.slice A n c, .int .i64 k0] w fun e w' => e = .returned (.int .i64 (k0 + tot L)) ∧ OwnSS w' lo hi A n c (markSS k0 L) ∧ Off lo hi w w' := by
  have hl := Lib.hid h.len
  have H0 : OwnSS w lo hi A n c (markSS k0 (L.take 0) ++ L.drop 0) := by simpa [markSS] using h
  go_enter Try.func26, Try.ntmps26
  go_wp2
  go_loopw [1, 5] (fun x i wr => ∃ k : Nat, k ≤ n ∧ i = .int .i64 k ∧ x = .int .i64 (k0 + tot (L.take k)) ∧ OwnSS wr lo hi A n c (markSS k0 (L.take k) ++ L.drop k) ∧ Off lo hi w wr) (fun _ i _ => n - (intOf i).toNat)
  case atStart => exact ⟨0, Nat.zero_le _, rfl, by simp [tot], H0, Off.refl _ _ _⟩
  case round =>
    obtain ⟨k, hk, rfl, rfl, hown, hoff⟩ := hrel
    clear H0 h
    by_cases hlt : k < n
    · obtain ⟨g, Ak, nk, ck, lok, hik, rfl, hcell, hf, b1, b2, ho, hput⟩ := hown.at_ hlt
      have hkl : k < L.length := by have := hl.out; omega
      have HT := Lib.hid (tot_take (L := L) (k := k) hkl)
      have HLE := Lib.hid (tot_take_le L (k + 1))
      have HN : Hid (nk = (lat L k).length) := Lib.hid (by rw [← lat_mark hkl]; exact ho.len.symm)
      have hbound : tot (L.take k) + nk ≤ 4194304 := by have h1 := HT.out; have h2 := HLE.out; have h3 := HN.out; omega
      have hi1 : (0 : Int) ≤ (k : Int) := by omega
      have hi2 : (k : Int) < (n : Int) := by omega
      obtain ⟨t, ht⟩ : ∃ t : Nat, Hid (t = tot (L.take k)) := ⟨_, Lib.hid rfl⟩
      rw [← ht.out] at hbound ⊢
      go_wp2_with fail
      refine (markIntS_any Ak nk ck lok hik (k0 + t) _ _ ho (by omega) (by omega) (by omega)).mono ?_
      rintro e w1 ⟨rfl, ho1, hoff1⟩
      have R := hput.out _ _ hoff1 ho1
      have e1 : (markSS k0 (L.take k) ++ L.drop k).set k (marks (k0 + t) nk) = markSS k0 (L.take (k + 1)) ++ L.drop (k + 1) := by
        rw [ht.out, HN.out]; exact markSS_set hkl
      rw [e1] at R
      have F1 := hoff.trans (hoff1.widen b1 b2)
      have TT := Lib.hid (show k0 + t + (nk : Int) = k0 + tot (L.take (k + 1)) by have h1 := HT.out; have h2 := HN.out; have h3 := ht.out; omega)
      clear e1 hown hput ho hoff hoff1 ho1 hcell hf
      go_wp2
      go_roundw
      case rel => exact ⟨k + 1, by omega, by go_num, by rw [TT.out], R, F1⟩
      case measure => simp [intOf]; omega
    · obtain rfl : k = n := by omega
      have R := hown
      have e1 : L.take k = L := List.take_of_length_le (by have := hl.out; omega)
      have e2 : L.drop k = [] := List.drop_eq_nil_of_le (by have := hl.out; omega)
      rw [e1, e2, List.append_nil] at R
      rw [e1]
      clear e1 e2 hown
      go_wp2
      go_ret
      exact ⟨rfl, R, hoff⟩
theorem lat_markSS {k0 : Int} {L : List (List Int)} {k : Nat} (h : k < L.length) : lat (markSS k0 L) k = marks (k0 + tot (L.take k)) (lat L k).length := by
  have e1 : markSS k0 L = markSS k0 (L.take (k + 1) ++ L.drop (k + 1)) := by rw [List.take_append_drop]
  have e2 : ∀ (M N : List (List Int)) (k0 : Int), markSS k0 (M ++ N) = markSS k0 M ++ markSS (k0 + tot M) N := by
    intro M N
    induction M with
    | nil => intro k0; simp [markSS, tot]
    | cons a M ih => intro k0; simp only [List.cons_append, markSS, ih, tot, List.map_cons, List.sum_cons]; congr 3; omega
  rw [e1, e2, take_lat h, markSS_snoc]
  have e3 : (markSS k0 (L.take k)).length = k := by rw [markSS_len]; simp; omega
  generalize markSS k0 (L.take k) = M at e3
  generalize marks (k0 + tot (L.take k)) (lat L k).length = m
  unfold lat
  rw [List.getD_eq_getElem?_getD, List.append_assoc, List.getElem?_append_right (by omega), e3, Nat.sub_self]
  rfl
set_option maxHeartbeats 1000000 in
theorem heldIntSS_any (A : Option Addr) (n c B : Nat) (k0 : Int) (L : List (List Int)) (w : World) (h : RSS w B A n (markSS k0 L)) (hn : n + tot L ≤ 4194304) (h0 : 0 ≤ k0) (h1 : k0 ≤ 100000000) :
    Calls Try.prog 31 #[.slice A n c, .int .i64 k0] w fun e w' => e = .returned (.int .i64 (k0 + tot L)) ∧ Below w.heap.size w w' := by
  have hl := Lib.hid (show L.length = n by have := h.len; rwa [markSS_len] at this)
  go_enter Try.func31, Try.ntmps31
  go_wp2
  go_loopw [1, 5] (fun x i wr => ∃ k : Nat, k ≤ n ∧ i = .int .i64 k ∧ x = .int .i64 (k0 + tot (L.take k)) ∧ ∃ q, wr = w.drewN q) (fun _ i _ => n - (intOf i).toNat)
  case atStart => exact ⟨0, Nat.zero_le _, rfl, by simp [tot], 0, rfl⟩
  case round =>
    obtain ⟨k, hk, rfl, rfl, q, rfl⟩ := hrel
    by_cases hlt : k < n
    · obtain ⟨b, off, Ak, nk, ck, rfl, hb, hcell, ho, _, _⟩ := h.at_ hlt
      have hkl : k < L.length := by have := hl.out; omega
      have HT := Lib.hid (tot_take (L := L) (k := k) hkl)
      have HLE := Lib.hid (tot_take_le L (k + 1))
      rw [lat_markSS hkl] at ho
      have HN : Hid (nk = (lat L k).length) := Lib.hid (by have := ho.len; rw [marks_len] at this; exact this.symm)
      rw [← HN.out] at ho
      have hbound : tot (L.take k) + nk ≤ 4194304 := by have h1 := HT.out; have h2 := HLE.out; have h3 := HN.out; omega
      have hi1 : (0 : Int) ≤ (k : Int) := by omega
      have hi2 : (k : Int) < (n : Int) := by omega
      obtain ⟨t, ht⟩ : ∃ t : Nat, Hid (t = tot (L.take k)) := ⟨_, Lib.hid rfl⟩
      rw [← ht.out] at hbound ho ⊢
      have hD : ∀ m, (w.drewN m).cell? ⟨b, off + k, none⟩ = some (.slice Ak nk ck) := fun _ => hcell
      have hp : decide (k0 + (t : Int) + nk < 0) = false := by simp; omega
      have hp' : ¬ (k0 + (t : Int) + nk < 0) := by omega
      go_wp2_with fail
      refine (heldIntS_any Ak nk ck B (k0 + t) _ (RV.drewN ho _) (by omega) (by omega) (by omega)).mono ?_
      rintro e w1 ⟨rfl, q2, rfl⟩
      have TT := Lib.hid (show k0 + t + (nk : Int) = k0 + tot (L.take (k + 1)) by have h1 := HT.out; have h2 := HN.out; have h3 := ht.out; omega)
      clear hcell hD ho
      go_wp2
      go_roundw
      case rel => exact ⟨k + 1, by omega, by go_num, by rw [TT.out], _, rfl⟩
      case measure => simp [intOf]; omega
    · obtain rfl : k = n := by omega
      have e1 : L.take k = L := List.take_of_length_le (by have := hl.out; omega)
      rw [e1]
      clear e1
      go_wp2
      go_ret
      exact ⟨rfl, below_of_drewN _⟩
end Go.Proofs.Ytkmbblooofmnpaa
