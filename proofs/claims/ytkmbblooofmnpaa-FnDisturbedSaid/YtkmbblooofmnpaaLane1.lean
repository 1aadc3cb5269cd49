/- DisturbLane, program and reference: both return distF. -/
import Derived.Test.YtkmbblooofmnpaaII4
import Derived.Test.YtkmbblooofmnpaaS3
namespace Go.Proofs.Ytkmbblooofmnpaa
open Go.RowKit Go.Deep
/-- lanes in which symbol k behind the first 24 of lane a is s. -/
def distF (L : List (List Int)) (a k s : Int) : List (List Int) :=
  if 0 ≤ a ∧ a < L.length ∧ 0 ≤ k ∧ inB s 0 31 = true ∧ 0 ≤ findI 24 (lat L a.toNat) ∧ k < (lat L a.toNat).length - findI 24 (lat L a.toNat) - 1 then
    L.set a.toNat ((lat L a.toNat).set (findI 24 (lat L a.toNat) + 1 + k).toNat s) else L
theorem idxOf_rng (v : Int) : ∀ (zs : List Int) (k : Nat), idxOf v zs k = -1 ∨ ∃ j, j < zs.length ∧ idxOf v zs k = ((k + j : Nat) : Int) ∧ zat zs j = v
  | [], _ => .inl rfl
  | z :: zs, k => by
    unfold idxOf
    split
    · rename_i e; exact .inr ⟨0, by simp, by simp, by simp [zat, e]⟩
    · rcases idxOf_rng v zs (k + 1) with h | ⟨j, h1, h2, h3⟩
      · exact .inl h
      · exact .inr ⟨j + 1, by simp; omega, by rw [h2]; congr 1; omega, by simpa [zat] using h3⟩
theorem findI_rng (v : Int) (zs : List Int) : findI v zs = -1 ∨ ∃ j : Nat, j < zs.length ∧ findI v zs = j ∧ zat zs j = v := by
  have := idxOf_rng v zs 0
  simpa [findI] using this
theorem distF_len (L : List (List Int)) (a k s : Int) : (distF L a k s).length = L.length := by unfold distF; split <;> simp
theorem tot_set {L : List (List Int)} {i : Nat} {z : List Int} (hi : i < L.length) (hz : z.length = (lat L i).length) : tot (L.set i z) = tot L := by
  unfold tot
  rw [List.map_set]
  congr 1
  apply List.ext_getElem (by simp)
  intro j h1 h2
  rw [List.getElem_set]
  split
  · rename_i e; subst e; rw [hz, lat_eq hi]; simp
  · rfl
theorem distF_tot (L : List (List Int)) (a k s : Int) : tot (distF L a k s) = tot L := by
  unfold distF
  split
  · rename_i h; exact tot_set (by omega) (by simp)
  · rfl
theorem distF_no {L : List (List Int)} {a k s : Int} (h : ¬ (0 ≤ a ∧ a < L.length ∧ 0 ≤ k ∧ inB s 0 31 = true)) : distF L a k s = L := if_neg (fun ⟨h1, h2, h3, h4, _⟩ => h ⟨h1, h2, h3, h4⟩)
theorem distF_none {L : List (List Int)} {i : Nat} {k s : Int} (h : findI 24 (lat L i) = -1) : distF L i k s = L := if_neg (fun ⟨_, _, _, _, h5, _⟩ => by rw [Int.toNat_natCast, h] at h5; omega)
theorem distF_far {L : List (List Int)} {i j m : Nat} {s : Int} (h : findI 24 (lat L i) = j) (hm : ¬ (m : Int) < (lat L i).length - j - 1) : distF L i m s = L := if_neg (fun ⟨_, _, _, _, _, h6⟩ => by rw [Int.toNat_natCast, h] at h6; exact hm h6)
theorem distF_yes {L : List (List Int)} {i j m : Nat} {s : Int} (hi : i < L.length) (hs : inB s 0 31 = true) (h : findI 24 (lat L i) = j) (hm : (m : Int) < (lat L i).length - j - 1) : distF L i m s = L.set i ((lat L i).set (j + 1 + m) s) := by
  unfold distF
  rw [Int.toNat_natCast, h, if_pos ⟨by omega, by omega, by omega, hs, by omega, hm⟩]
  congr 2
/-- The store into an inner slice of an owned list of lists. -/
theorem OwnSS.put {w w0 : World} {lo hi n c i x : Nat} {A : Option Addr} {L : List (List Int)} (h : OwnSS w lo hi A n c L) (hi' : i < n) (hx : x < (lat L i).length) (s : Int) (hb : Below lo w0 w) (hlo : lo ≤ w.heap.size) :
    ∃ g Ak nk ck g2, A = some ⟨g, 0, none⟩ ∧ w.cell? ⟨g, i, none⟩ = some (.slice Ak nk ck) ∧ nk = (lat L i).length ∧ Ak = some ⟨g2, 0, none⟩ ∧ w.cell? ⟨g2, x, none⟩ = some (.int .i64 (zat (lat L i) x)) ∧ w.frozen? ⟨g2, x, none⟩ = false ∧
      OwnSS (w.setCell ⟨g2, x, none⟩ (.int .i64 s)) lo hi A n c (L.set i ((lat L i).set x s)) ∧ Below lo w0 (w.setCell ⟨g2, x, none⟩ (.int .i64 s)) := by
  obtain ⟨g, Ak, nk, ck, lok, hik, e, hc, hf, b1, b2, ho, hput⟩ := h.at_ hi'
  have hl := ho.len
  obtain ⟨g2, rfl, c1, c2, c3, c4⟩ := ho.cell (j := x) (by omega)
  have O := (Off.refl lok hik w).setCell (p := ⟨g2, x, none⟩) c1 c2 (.int .i64 s)
  exact ⟨g, _, nk, ck, g2, e, hc, hl.symm, rfl, c3, c4, hput.out _ _ O (ho.set x s), hb.trans (O.below b1 hlo)⟩
set_option maxHeartbeats 1000000 in
theorem disturb_s (A : Option Addr) (n c B : Nat) (L : List (List Int)) (a k s : Int) (w : World) (h : RSS w B A n L) (hB : B ≤ w.heap.size) (hn : n ≤ 1048576) (hr : ∀ l ∈ L, l.length ≤ 4294967296) :
    Calls Try.prog 29 #[.slice A n c, .int .i64 a, .int .i64 k, .int .i64 s] w (RetOwnSS w (distF L a k s)) := by
  have hl := Lib.hid h.len
  have HR := Lib.hid hr
  go_enter Try.func29, Try.ntmps29
  go_wp2_with fail
  refine (l30Copy_any A n c B L _ h hB hn hr).mono ?_
  rintro e w1 ⟨A1, n1, c1, rfl, ho, hb⟩
  obtain rfl : n = n1 := h.len.symm.trans ho.len
  have s1 := hb.size
  clear hr
  by_cases hg : 0 ≤ a ∧ a < n ∧ 0 ≤ k ∧ inB s 0 31 = true
  · obtain ⟨h1, h2, h3, h4⟩ := hg
    obtain ⟨i, rfl⟩ : ∃ i : Nat, a = i := ⟨a.toNat, by omega⟩
    obtain ⟨m, rfl⟩ : ∃ m : Nat, k = m := ⟨k.toNat, by omega⟩
    have hin : i < n := by omega
    obtain ⟨b, off, Ai, ni, ci, rfl, hb0, hc0, hri0, hck, _⟩ := h.at_ hin
    have hc : w1.cell? ⟨b, off + i, none⟩ = some (.slice Ai ni ci) := (hb.cell (show b < w.heap.size by omega)).trans hc0
    have hri := hri0.below hb hB
    have HN := Lib.hid hri.len
    have hni : ni ≤ 4294967296 := by
      rw [← hri.len, lat_eq (by have := hl.out; omega)]
      exact HR.out _ (List.getElem_mem _)
    clear hc0 hri0 h
    rcases findI_rng 24 (lat L i) with hf | ⟨j, hj, hf, _⟩
    · have hST := (startOf_s Ai ni ci B _ w1 hri hni)
      rw [hf] at hST
      have HD := Lib.hid (distF_none (k := m) (s := s) hf)
      clear hf
      go_wp2_with (first | (go_at_call 58; refine (l01In_any _ _ _ _).mono ?_; rintro e w' ⟨rfl, rfl⟩) | (go_at_call 55; refine hST.mono ?_; rintro e w' ⟨rfl, rfl⟩))
      go_ret
      exact ⟨_, _, _, rfl, by rw [HD.out]; exact ho, hb⟩
    · have hST := (startOf_s Ai ni ci B _ w1 hri hni)
      rw [hf] at hST
      have hj' : j < ni := by have := HN.out; omega
      by_cases hm : (m : Int) < ni - j - 1
      · have hx : j + 1 + m < (lat L i).length := by have := HN.out; omega
        have HD := Lib.hid (distF_yes (m := m) (s := s) (by have := hl.out; omega) h4 hf (by have := HN.out; omega))
        obtain ⟨g, Ak, nk, ck, g2, rfl, p1, p2, rfl, p3, p4, R, RB⟩ := ho.put hin hx s hb s1
        obtain rfl : ni = nk := HN.out.symm.trans p2.symm
        have ht : ((j : Int) + 1 + (m : Int)).toNat = j + 1 + m := by omega
        have hx1 : (0 : Int) ≤ (j : Int) + 1 + m := by omega
        have hx2 : (j : Int) + 1 + m < ni := by omega
        have hi1 : (0 : Int) ≤ (i : Int) := by omega
        clear hf p2 ho hb hri hx
        go_wp2_with (first | (go_at_call 58; refine (l01In_any _ _ _ _).mono ?_; rintro e w' ⟨rfl, rfl⟩) | (go_at_call 55; refine hST.mono ?_; rintro e w' ⟨rfl, rfl⟩))
        go_ret
        exact ⟨_, _, _, rfl, by rw [HD.out]; simpa using R, RB⟩
      · have HD := Lib.hid (distF_far (m := m) (s := s) hf (by have := HN.out; omega))
        have hd : decide ((m : Int) < (ni : Int) - j - 1) = false := by simpa using hm
        clear hf
        go_wp2_with (first | (go_at_call 58; refine (l01In_any _ _ _ _).mono ?_; rintro e w' ⟨rfl, rfl⟩) | (go_at_call 55; refine hST.mono ?_; rintro e w' ⟨rfl, rfl⟩))
        go_ret
        exact ⟨_, _, _, rfl, by rw [HD.out]; exact ho, hb⟩
  · have HD := Lib.hid (distF_no (L := L) (a := a) (k := k) (s := s) (by have := hl.out; rw [this]; exact hg))
    by_cases h1 : a < 0
    · go_wp2_with (go_at_call 58; refine (l01In_any _ _ _ _).mono ?_; rintro e w' ⟨rfl, rfl⟩)
      go_ret
      exact ⟨_, _, _, rfl, by rw [HD.out]; exact ho, hb⟩
    · by_cases h2 : (n : Int) ≤ a
      · have d1 : decide (a < 0) = false := by simpa using h1
        go_wp2_with (go_at_call 58; refine (l01In_any _ _ _ _).mono ?_; rintro e w' ⟨rfl, rfl⟩)
        go_ret
        exact ⟨_, _, _, rfl, by rw [HD.out]; exact ho, hb⟩
      · have d1 : decide (a < 0) = false := by simpa using h1
        have d2 : decide ((n : Int) ≤ a) = false := by simpa using h2
        by_cases h3 : k < 0
        · go_wp2_with (go_at_call 58; refine (l01In_any _ _ _ _).mono ?_; rintro e w' ⟨rfl, rfl⟩)
          go_ret
          exact ⟨_, _, _, rfl, by rw [HD.out]; exact ho, hb⟩
        · have d3 : decide (k < 0) = false := by simpa using h3
          have h4 : inB s 0 31 = false := by
            cases hs : inB s 0 31
            · rfl
            · exact absurd ⟨by omega, by omega, by omega, hs⟩ hg
          clear hg
          go_wp2_with (go_at_call 58; refine (l01In_any _ _ _ _).mono ?_; rintro e w' ⟨rfl, rfl⟩)
          go_ret
          exact ⟨_, _, _, rfl, by rw [HD.out]; exact ho, hb⟩
end Go.Proofs.Ytkmbblooofmnpaa
