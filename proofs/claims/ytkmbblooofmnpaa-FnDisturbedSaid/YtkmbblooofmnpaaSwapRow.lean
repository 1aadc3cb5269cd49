/- One row of an owned list of lists is replaced by another, as by 'out[i] = append(out[i], x)'. -/
import Derived.Test.YtkmbblooofmnpaaII4
namespace Go.Proofs.Ytkmbblooofmnpaa
open Go.RowKit Go.Deep
theorem OwnV.real {T : TypeId} {w : World} {lo hi n c : Nat} {A : Option Addr} {xs : List Value} (h : OwnV T w lo hi A n c xs) (hn : 0 < n) : ∃ g, A = some ⟨g, 0, none⟩ ∧ lo ≤ g ∧ g < hi ∧ g < w.heap.size := by
  obtain ⟨_, h2, _, h4⟩ := h
  rcases h4 with ⟨_, h4⟩ | ⟨g, cur, e, hl, hh, hg, _⟩
  · omega
  · exact ⟨g, e, hl, hh, heap_lt hg⟩
theorem OwnSS.swap {w : World} {lo hi n c k : Nat} {A : Option Addr} {L : List (List Int)} (h : OwnSS w lo hi A n c L) (hk : k < n) (hne : 0 < (lat L k).length) (hhi : hi ≤ w.heap.size) :
    ∃ g Ak nk ck gk, A = some ⟨g, 0, none⟩ ∧ w.cell? ⟨g, k, none⟩ = some (.slice Ak nk ck) ∧ (lat L k).length = nk ∧ Own w gk (gk + 1) Ak nk ck (lat L k) ∧ lo ≤ gk ∧ gk < hi ∧ lo ≤ g ∧ g < hi ∧ g ≠ gk ∧
      Hid (∀ (w' : World) (A' : Option Addr) (n' c' g' : Nat) (z : List Int), Off gk (gk + 1) w w' → Own w' g' (g' + 1) A' n' c' z → (g' = gk ∨ w.heap.size ≤ g') → 0 < n' →
        OwnSS (w'.setCell ⟨g, k, none⟩ (.slice A' n' c')) lo w'.heap.size A n c (L.set k z) ∧ w'.cell? ⟨g, k, none⟩ = some (.slice Ak nk ck) ∧ w'.frozen? ⟨g, k, none⟩ = false) := by
  obtain ⟨ps, olo, ohi, h1, h2, h3, h4, h5, h6⟩ := h
  have hkq : k < ps.length := by have := h3.len; simp at this; omega
  obtain ⟨g, u, e, hg1, hg2, hu, hc, hf⟩ := h3.cell hk
  rw [List.getElem?_map, List.getElem?_eq_getElem hkq] at hu
  simp only [Option.map_some, Option.some.injEq, Rw.v] at hu
  subst hu
  have hb := h6.1 _ (List.getElem_mem hkq)
  have hap := h5 _ (List.getElem_mem hkq)
  have hlk : lat L k = ps[k].zs := by rw [← h4, lat_eq (by simpa using hkq)]; simp
  have hlen := hb.2.2.len
  rw [← hlk] at hlen
  obtain ⟨g0, _, hq1, hq2, _⟩ := OwnV.real hb.2.2 (by omega)
  obtain ⟨gk, hx, hk1, hk2⟩ := hb.2.2.exact_ (by omega)
  rw [← hlk] at hx
  subst e
  have hgg : g < w.heap.size := by omega
  refine ⟨g, _, _, _, gk, rfl, hc, hlen, hx, by omega, by omega, by omega, by omega, by omega, Lib.hid fun w' A' n' c' g' z ho hz hg' hn' => ?_⟩
  obtain ⟨g1, _, hr1, hr2, hr3⟩ := OwnV.real hz hn'
  have hsz := ho.size
  have hV := h3.off ho (by omega)
  have hV2 := hV.set k (.slice A' n' c')
  have hp := List.pairwise_iff_getElem.1 h6.2
  have hcell := ho.block g hgg (by omega)
  refine ⟨⟨ps.set k ⟨A', n', c', g', g' + 1, z⟩, olo, ohi, h1, by omega, ?_, ?_, fun p hp => ?_, fun q hq => ?_, List.pairwise_iff_getElem.2 fun i j hi hj hij => ?_⟩, ?_, ?_⟩
  · rw [List.map_set]; exact hV2
  · rw [List.map_set, h4]
  · rcases List.mem_or_eq_of_mem_set hp with hp | rfl
    · exact h5 p hp
    · show g' + 1 ≤ olo ∨ ohi ≤ g'
      omega
  · obtain ⟨i, hi', rfl⟩ := List.getElem_of_mem hq
    have hi2 : i < ps.length := by simpa using hi'
    have hb2 := h6.1 _ (List.getElem_mem hi2)
    have hap2 := h5 _ (List.getElem_mem hi2)
    rw [List.getElem_set]
    split
    · refine ⟨by show lo ≤ g'; omega, by show g' + 1 ≤ _; omega, ?_⟩
      exact OwnV.far hz (by show g < g' ∨ g' + 1 ≤ g; omega) _
    · rename_i hne'
      refine ⟨hb2.1, by have := hb2.2.1; omega, ?_⟩
      have hapart : ps[i].hi ≤ gk ∨ gk + 1 ≤ ps[i].lo := by
        rcases Nat.lt_or_gt_of_ne hne' with hlt | hgt
        · have := hp k i hkq hi2 hlt; omega
        · have := hp i k hi2 hkq hgt; omega
      exact OwnV.far (hb2.2.2.off ho hapart) (by show g < ps[i].lo ∨ ps[i].hi ≤ g; omega) _
  · have hi2 : i < ps.length := by simpa using hi
    have hj2 : j < ps.length := by simpa using hj
    have := hp i j hi2 hj2 hij
    have b1 := h6.1 _ (List.getElem_mem hi2)
    have b2 := h6.1 _ (List.getElem_mem hj2)
    rw [List.getElem_set, List.getElem_set]
    split <;> split
    · omega
    · rename_i e1 e2
      subst e1
      show g' + 1 ≤ ps[j].lo ∨ ps[j].hi ≤ g'
      omega
    · rename_i e1 e2
      subst e2
      show ps[i].hi ≤ g' ∨ g' + 1 ≤ ps[i].lo
      omega
    · exact this
  · rw [← hc]; exact World.cell?_of_block hcell
  · rw [← hf]; exact World.frozen?_of_block hcell
end Go.Proofs.Ytkmbblooofmnpaa
