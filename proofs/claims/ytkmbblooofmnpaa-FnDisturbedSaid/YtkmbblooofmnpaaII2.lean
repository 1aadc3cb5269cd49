/- Slices of slices of ints: measured, marked, held. -/
import Derived.Test.YtkmbblooofmnpaaII
import Derived.Test.YtkmbblooofmnpaaPkt3
namespace Go.Proofs.Ytkmbblooofmnpaa
open Go.RowKit Go.Deep
def tot (L : List (List Int)) : Nat := (L.map List.length).sum
theorem tot_take {L : List (List Int)} {k : Nat} (h : k < L.length) : tot (L.take (k + 1)) = tot (L.take k) + (lat L k).length := by rw [take_lat h]; simp [tot]
theorem tot_take_le (L : List (List Int)) (k : Nat) : tot (L.take k) ≤ tot L := by
  have h : tot (L.take k ++ L.drop k) = tot (L.take k) + tot (L.drop k) := by simp only [tot, List.map_append, List.sum_append]
  rw [List.take_append_drop] at h
  omega
theorem tot_mem {L : List (List Int)} {l : List Int} (h : l ∈ L) : l.length ≤ tot L := by
  induction L with
  | nil => cases h
  | cons a L ih =>
    simp only [tot, List.map_cons, List.sum_cons] at *
    rcases List.mem_cons.1 h with rfl | h
    · omega
    · have := ih h; omega
theorem szIntSS_any (A : Option Addr) (n c B : Nat) (x : Int) (L : List (List Int)) (w : World) (h : RSS w B A n L) (h0 : 0 ≤ x) (h1 : x ≤ 1048576) (hc : n ≤ c) (hm : c ≤ maxLen) :
    Calls Try.prog 20 #[.slice A n c, .int .i64 x] w fun e w' => (∃ r : Int, e = .returned (.int .i64 r) ∧ r ≤ x ∧ (0 ≤ r → (n : Int) + tot L ≤ x)) ∧ w = w' := by
  have hl := Lib.hid h.len
  have hn : n ≤ maxLen := by omega
  unfold maxLen at hn
  by_cases hx : x < n
  · have hd : decide (x - (n : Int) < 0) = true := by simp; omega
    go_enter Try.func20, Try.ntmps20
    go_wp2
    go_ret
    exact ⟨⟨_, rfl, by omega, by omega⟩, rfl⟩
  · have hd : decide (x - (n : Int) < 0) = false := by simp; omega
    have hx' : ¬ x - (n : Int) < 0 := by omega
    go_enter Try.func20, Try.ntmps20
    go_wp2
    clear hd hx'
    go_loop [1, 5] (fun v i => ∃ k : Nat, k ≤ n ∧ i = .int .i64 k ∧ ∃ y : Int, v = .int .i64 y ∧ 0 ≤ y ∧ y ≤ x ∧ Hid ((n : Int) + tot (L.take k) + y = x)) (fun _ i => n - (intOf i).toNat)
    case atStart => exact ⟨0, Nat.zero_le _, rfl, _, rfl, by omega, by omega, Lib.hid (by simp [tot]; omega)⟩
    case round =>
      obtain ⟨k, hk, rfl, y, rfl, hy0, hy1, hy⟩ := hrel
      by_cases hlt : k < n
      · obtain ⟨b, off, Ak, nk, ck, rfl, hb, hc0, hri, hck, hcm⟩ := h.at_ hlt
        have hi1 : (0 : Int) ≤ (k : Int) := by omega
        have hi2 : (k : Int) < (n : Int) := by omega
        have HT := Lib.hid (tot_take (L := L) (k := k) (by have := hl.out; omega))
        have HN := Lib.hid hri.len
        have HLE := Lib.hid (tot_take_le L (k + 1))
        by_cases hs : y < nk
        · have he : (if y < (nk : Int) then (-1 : Int) else y - nk) = -1 := if_pos hs
          go_wp2_with (go_at_call 53; refine (szIntS_pk Ak nk ck y _ hy0 (by omega) hck hcm).mono ?_; rw [he]; rintro e w' ⟨rfl, rfl⟩)
          go_ret
          exact ⟨⟨_, rfl, by omega, by omega⟩, rfl⟩
        · have he : (if y < (nk : Int) then (-1 : Int) else y - nk) = y - nk := if_neg hs
          have hd : decide (y - (nk : Int) < 0) = false := by simp; omega
          have hd' : ¬ y - (nk : Int) < 0 := by omega
          go_wp2_with (go_at_call 53; refine (szIntS_pk Ak nk ck y _ hy0 (by omega) hck hcm).mono ?_; rw [he]; rintro e w' ⟨rfl, rfl⟩)
          go_round
          case rel => exact ⟨k + 1, by omega, by go_num, _, rfl, by omega, by omega, Lib.hid (by have h1 := HT.out; have h2 := HN.out; have h3 := hy.out; omega)⟩
          case measure => simp [intOf]; omega
      · obtain rfl : k = n := by omega
        rw [List.take_of_length_le (by have := hl.out; omega)] at hy
        go_wp2
        go_ret
        exact ⟨⟨_, rfl, hy1, fun _ => by have := hy.out; omega⟩, rfl⟩
def markSS : Int → List (List Int) → List (List Int)
  | _, [] => []
  | k0, l :: L => marks k0 l.length :: markSS (k0 + l.length) L
theorem markSS_len : ∀ (k0 : Int) (L : List (List Int)), (markSS k0 L).length = L.length
  | _, [] => rfl
  | k0, l :: L => by simp [markSS, markSS_len _ L]
theorem markSS_snoc : ∀ (k0 : Int) (L : List (List Int)) (l : List Int), markSS k0 (L ++ [l]) = markSS k0 L ++ [marks (k0 + tot L) l.length]
  | k0, [], l => by simp [markSS, tot]
  | k0, a :: L, l => by
    have := markSS_snoc (k0 + a.length) L l
    simp only [List.cons_append, markSS, this, tot, List.map_cons, List.sum_cons]
    congr 4
    omega
theorem markSS_set {k0 : Int} {L : List (List Int)} {k : Nat} (h : k < L.length) :
    (markSS k0 (L.take k) ++ L.drop k).set k (marks (k0 + tot (L.take k)) (lat L k).length) = markSS k0 (L.take (k + 1)) ++ L.drop (k + 1) := by
  rw [take_lat h, markSS_snoc, List.drop_eq_getElem_cons h, List.set_append_right _ _ (by rw [markSS_len]; simp; omega), markSS_len]
  have : k - (L.take k).length = 0 := by simp; omega
  rw [this, List.set_cons_zero]
  simp
theorem Rws.set {w w' : World} {lo hi k : Nat} {ps : List Rw} (h : Rws w lo hi ps) (hk : k < ps.length) {z : List Int} (ho : Off ps[k].lo ps[k].hi w w') (hown : Own w' ps[k].lo ps[k].hi ps[k].A ps[k].n ps[k].c z) :
    Rws w' lo hi (ps.set k { ps[k] with zs := z }) := by
  have hp := List.pairwise_iff_getElem.1 h.2
  refine ⟨fun q hq => ?_, List.pairwise_iff_getElem.2 fun i j hi hj hij => ?_⟩
  · obtain ⟨i, hi', rfl⟩ := List.getElem_of_mem hq
    have hi2 : i < ps.length := by simpa using hi'
    have hb := h.1 _ (List.getElem_mem hi2)
    have hkk := h.1 _ (List.getElem_mem hk)
    rw [List.getElem_set]
    split
    · exact ⟨hkk.1, hkk.2.1, hown⟩
    · rename_i hne
      refine ⟨hb.1, hb.2.1, hb.2.2.off ho ?_⟩
      rcases Nat.lt_or_gt_of_ne hne with hlt | hgt
      · have := hp k i hk hi2 hlt; omega
      · have := hp i k hi2 hk hgt; omega
  · have hi2 : i < ps.length := by simpa using hi
    have hj2 : j < ps.length := by simpa using hj
    have := hp i j hi2 hj2 hij
    rw [List.getElem_set, List.getElem_set]
    split <;> split <;> simp_all
/-- One inner slice of an owned list of lists, and how it is put back after it has turned. -/
theorem OwnSS.at_ {w : World} {lo hi n c k : Nat} {A : Option Addr} {L : List (List Int)} (h : OwnSS w lo hi A n c L) (hk : k < n) :
    ∃ g Ak nk ck lok hik, A = some ⟨g, 0, none⟩ ∧ w.cell? ⟨g, k, none⟩ = some (.slice Ak nk ck) ∧ w.frozen? ⟨g, k, none⟩ = false ∧ lo ≤ lok ∧ hik ≤ hi ∧ Own w lok hik Ak nk ck (lat L k) ∧
      Hid (∀ w' z, Off lok hik w w' → Own w' lok hik Ak nk ck z → OwnSS w' lo hi A n c (L.set k z)) := by
  obtain ⟨ps, olo, ohi, h1, h2, h3, h4, h5, h6⟩ := h
  have hkq : k < ps.length := by have := h3.len; simp at this; omega
  obtain ⟨g, u, e, _, _, hu, hc, hf⟩ := h3.cell hk
  rw [List.getElem?_map, List.getElem?_eq_getElem hkq] at hu
  simp only [Option.map_some, Option.some.injEq, Rw.v] at hu
  subst hu
  have hb := h6.1 _ (List.getElem_mem hkq)
  have hap := h5 _ (List.getElem_mem hkq)
  refine ⟨g, ps[k].A, ps[k].n, ps[k].c, ps[k].lo, ps[k].hi, e, hc, hf, hb.1, hb.2.1, ?_, Lib.hid fun w' z ho hz => ?_⟩
  · rw [← h4, lat_eq (by simpa using hkq)]
    simpa using hb.2.2
  · have V1 : (ps.set k { ps[k] with zs := z }).map Rw.v = ps.map Rw.v := by
      rw [List.map_set]
      show (ps.map Rw.v).set k (ps[k].v) = ps.map Rw.v
      apply List.ext_getElem (by simp)
      intro i h1 h2
      rw [List.getElem_set]
      split
      · rename_i e; subst e; simp
      · rfl
    refine ⟨ps.set k { ps[k] with zs := z }, olo, ohi, h1, h2, by rw [V1]; exact h3.off ho (by omega), ?_, fun p hp => ?_, h6.set hkq ho hz⟩
    · rw [List.map_set, h4]
    · rcases List.mem_or_eq_of_mem_set hp with hp | rfl
      · exact h5 p hp
      · exact hap
end Go.Proofs.Ytkmbblooofmnpaa
