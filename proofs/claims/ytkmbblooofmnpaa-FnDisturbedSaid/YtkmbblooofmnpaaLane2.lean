/- DisturbLane, the program's. -/
import Derived.Test.YtkmbblooofmnpaaLane1
namespace Go.Proofs.Ytkmbblooofmnpaa
open Go.RowKit Go.Deep
theorem within_lane (a n : Int) (w : World) : Calls Try.prog 49 #[.int .i64 a, .int .i64 0, .int .i64 (n - 1)] w fun e w' => e = .returned (.bool (inB a 0 (n - 1))) ∧ w = w' := within_any _ _ _ _
set_option maxHeartbeats 2000000 in
theorem disturb_i (A : Option Addr) (n c B : Nat) (L : List (List Int)) (a k s : Int) (w : World) (h : RSS w B A n L) (hB : B ≤ w.heap.size) (hn : n ≤ 1048576) (hr : ∀ l ∈ L, l.length ≤ 4294967296) :
    Calls Try.prog 30 #[.slice A n c, .int .i64 a, .int .i64 k, .int .i64 s] w (RetOwnSS w (distF L a k s)) := by
  have hmk := run_make_row' (P := Try.prog) 36 24 (.slice none 0 0) 24 Try.underlying36 infoII rfl .i64 .i64 n (by omega) (by omega)
  have hl := Lib.hid h.len
  have HR := Lib.hid hr
  have HO : OwnV 24 (w.alloc (.cells (madeCells #[.slice none 0 0] n) 24)) w.heap.size (w.heap.size + 1) (some ⟨w.heap.size, 0, none⟩) n n (List.replicate n (.slice none 0 0)) := made_ss w n (by omega)
  clear hr
  go_enter Try.func30, Try.ntmps30
  go_wp2
  go_loopw [18] (fun i wr => ∃ k : Nat, k ≤ n ∧ i = .int .i64 k ∧ ∃ ps : List Rw, ps.length = k ∧ Hid (ps.map Rw.zs = L.take k) ∧ OwnV 24 wr w.heap.size (w.heap.size + 1) (some ⟨w.heap.size, 0, none⟩) n n (ps.map Rw.v ++ List.replicate (n - k) (.slice none 0 0)) ∧ Rws wr (w.heap.size + 1) wr.heap.size ps ∧ Below w.heap.size w wr ∧ w.heap.size + 1 ≤ wr.heap.size) (fun i _ => n - (intOf i).toNat)
  case atStart => exact ⟨0, Nat.zero_le _, rfl, [], rfl, Lib.hid rfl, HO, Rws.nil, (Below.refl _ _).alloc (Nat.le_refl _) _, by simp⟩
  case round =>
    obtain ⟨q, hk, rfl, ps, hps, hzs, hown, hrws, hbel, hsz⟩ := hrel
    clear HO
    by_cases hlt : q < n
    · obtain ⟨b, off, Ak, nk, ck, rfl, hb, hc0, hri, hck, _⟩ := (h.below hbel hB).at_ hlt
      have hnk : nk ≤ 4294967296 := by
        rw [← hri.len, lat_eq (by have := hl.out; omega)]
        exact HR.out _ (List.getElem_mem _)
      have hi1 : (0 : Int) ≤ (q : Int) := by omega
      have hi2 : (q : Int) < (n : Int) := by omega
      go_wp2_with fail
      refine (clone_any Ak nk ck B _ _ hri (by omega) hnk).mono ?_
      rintro e w1 ⟨A1, n1, c1, rfl, ho1, hb1⟩
      have s1 := hb1.size
      have own1 := hown.below hb1 (by omega)
      have rws1 := hrws.below hb1 (Nat.le_refl _)
      have K1 := bthen hbel hb1 hbel.size
      clear hown hrws hbel hb1 hc0
      obtain ⟨g, u, hg, _, _, _, hcell, hf⟩ := own1.cell hlt
      simp only [Option.some.injEq, Addr.mk.injEq, and_true] at hg
      subst hg
      have R := own1.set q (.slice A1 n1 c1)
      rw [fill_set ps q n hps hlt A1 n1 c1 wr.heap.size w1.heap.size (lat L q)] at R
      have R2 : Rws (w1.setCell ⟨w.heap.size, q, none⟩ (.slice A1 n1 c1)) (w.heap.size + 1) w1.heap.size (ps ++ [⟨A1, n1, c1, wr.heap.size, w1.heap.size, lat L q⟩]) :=
        (rws1.snoc (p := ⟨A1, n1, c1, wr.heap.size, w1.heap.size, lat L q⟩) (Nat.le_refl _) hsz (Nat.le_refl _) s1 ho1).far (.inl (by simp)) _
      have K2 := K1.setCell (p := ⟨w.heap.size, q, none⟩) (Nat.le_refl _) (.slice A1 n1 c1)
      have HZ2 : Hid ((ps ++ [(⟨A1, n1, c1, wr.heap.size, w1.heap.size, lat L q⟩ : Rw)]).map Rw.zs = L.take (q + 1)) := Lib.hid (by rw [take_lat (by have := hl.out; omega), List.map_append, hzs.out]; rfl)
      clear own1 rws1 K1
      go_wp2
      go_roundw
      case rel => exact ⟨q + 1, by omega, by go_num, _, by simp; omega, HZ2, R, by simpa using R2, K2, by simp; omega⟩
      case measure => simp [intOf]; omega
    · obtain rfl : q = n := by omega
      rw [Nat.sub_self, List.replicate_zero, List.append_nil] at hown
      have HZ := hzs
      rw [List.take_of_length_le (by have := hl.out; omega)] at HZ
      have ho : OwnSS wr w.heap.size wr.heap.size (some ⟨w.heap.size, 0, none⟩) q q L := ⟨ps, w.heap.size, w.heap.size + 1, Nat.le_refl _, hsz, hown, HZ.out, fun p hp => .inr (hrws.1 p hp).1, hrws.mono (by omega) (Nat.le_refl _)⟩
      have s1 := hbel.size
      clear hown HZ hzs hrws hps hk
      clear hlt
      clear ps
      by_cases hg : 0 ≤ a ∧ a < q ∧ 0 ≤ k ∧ inB s 0 31 = true
      · obtain ⟨h1, h2, h3, h4⟩ := hg
        obtain ⟨i, rfl⟩ : ∃ i : Nat, a = i := ⟨a.toNat, by omega⟩
        obtain ⟨m, rfl⟩ : ∃ m : Nat, k = m := ⟨k.toNat, by omega⟩
        have hin : i < q := by omega
        have h0 : inB (i : Int) 0 ((q : Int) - 1) = true := inB_t.2 (by omega)
        obtain ⟨b, off, Ai, ni, ci, rfl, hb0, hc0, hri0, hck, _⟩ := h.at_ hin
        have hc : wr.cell? ⟨b, off + i, none⟩ = some (.slice Ai ni ci) := (hbel.cell (show b < w.heap.size by omega)).trans hc0
        have hri := hri0.below hbel hB
        have HN := Lib.hid hri.len
        have hni : ni ≤ 4294967296 := by
          rw [← hri.len, lat_eq (by have := hl.out; omega)]
          exact HR.out _ (List.getElem_mem _)
        clear hc0 hri0 h
        have i1 : (0 : Int) ≤ (i : Int) := by omega
        rcases findI_rng 24 (lat L i) with hf | ⟨j, hj, hf, _⟩
        · have hST := (startOf_i Ai ni ci B _ wr hri hni)
          rw [hf] at hST
          have HD := Lib.hid (distF_none (k := m) (s := s) hf)
          clear hf
          go_wp2_with (first | (go_at_call 49; refine (within_lane _ _ _).mono ?_; rintro e w' ⟨rfl, rfl⟩) | (go_at_call 60; refine (isSymbol_any _ _).mono ?_; rintro e w' ⟨rfl, rfl⟩) | (go_at_call 44; refine hST.mono ?_; rintro e w' ⟨rfl, rfl⟩))
          go_ret
          exact ⟨_, _, _, rfl, by rw [HD.out]; exact ho, hbel⟩
        · have hST := (startOf_i Ai ni ci B _ wr hri hni)
          rw [hf] at hST
          have hj' : j < ni := by have := HN.out; omega
          by_cases hm : (m : Int) < ni - j - 1
          · have hx : j + 1 + m < (lat L i).length := by have := HN.out; omega
            have HD := Lib.hid (distF_yes (m := m) (s := s) (by have := hl.out; omega) h4 hf (by have := HN.out; omega))
            obtain ⟨g, Ak, nk, ck, g2, e0, p1, p2, rfl, p3, p4, R, RB⟩ := ho.put hin hx s hbel s1
            simp only [Option.some.injEq, Addr.mk.injEq, and_true] at e0
            subst e0
            obtain rfl : ni = nk := HN.out.symm.trans p2.symm
            have ht : ((j : Int) + 1 + (m : Int)).toNat = j + 1 + m := by omega
            have hx1 : (0 : Int) ≤ (j : Int) + 1 + m := by omega
            have hx2 : (j : Int) + 1 + m < ni := by omega
            clear hf p2 ho hbel hri hx
            go_wp2_with (first | (go_at_call 49; refine (within_lane _ _ _).mono ?_; rintro e w' ⟨rfl, rfl⟩) | (go_at_call 60; refine (isSymbol_any _ _).mono ?_; rintro e w' ⟨rfl, rfl⟩) | (go_at_call 44; refine hST.mono ?_; rintro e w' ⟨rfl, rfl⟩))
            go_ret
            exact ⟨_, _, _, rfl, by rw [HD.out]; simpa using R, RB⟩
          · have HD := Lib.hid (distF_far (m := m) (s := s) hf (by have := HN.out; omega))
            have hd : decide ((m : Int) < (ni : Int) - j - 1) = false := by simpa using hm
            clear hf
            go_wp2_with (first | (go_at_call 49; refine (within_lane _ _ _).mono ?_; rintro e w' ⟨rfl, rfl⟩) | (go_at_call 60; refine (isSymbol_any _ _).mono ?_; rintro e w' ⟨rfl, rfl⟩) | (go_at_call 44; refine hST.mono ?_; rintro e w' ⟨rfl, rfl⟩))
            go_ret
            exact ⟨_, _, _, rfl, by rw [HD.out]; exact ho, hbel⟩
      · have HD := Lib.hid (distF_no (L := L) (a := a) (k := k) (s := s) (by have := hl.out; rw [this]; exact hg))
        by_cases h1 : 0 ≤ a ∧ a < q
        · have h0 : inB a 0 ((q : Int) - 1) = true := inB_t.2 (by omega)
          by_cases h3 : k < 0
          · clear hg h1
            go_wp2_with (first | (go_at_call 49; refine (within_lane _ _ _).mono ?_; rintro e w' ⟨rfl, rfl⟩) | (go_at_call 60; refine (isSymbol_any _ _).mono ?_; rintro e w' ⟨rfl, rfl⟩))
            go_ret
            exact ⟨_, _, _, rfl, by rw [HD.out]; exact ho, hbel⟩
          · have d3 : decide (k < 0) = false := by simpa using h3
            have h4 : inB s 0 31 = false := by
              cases hs : inB s 0 31
              · rfl
              · exact absurd ⟨by omega, by omega, by omega, hs⟩ hg
            clear hg h1
            go_wp2_with (first | (go_at_call 49; refine (within_lane _ _ _).mono ?_; rintro e w' ⟨rfl, rfl⟩) | (go_at_call 60; refine (isSymbol_any _ _).mono ?_; rintro e w' ⟨rfl, rfl⟩))
            go_ret
            exact ⟨_, _, _, rfl, by rw [HD.out]; exact ho, hbel⟩
        · have h0 : inB a 0 ((q : Int) - 1) = false := inB_f.2 (by omega)
          clear hg h1
          go_wp2_with (first | (go_at_call 49; refine (within_lane _ _ _).mono ?_; rintro e w' ⟨rfl, rfl⟩) | (go_at_call 60; refine (isSymbol_any _ _).mono ?_; rintro e w' ⟨rfl, rfl⟩))
          go_ret
          exact ⟨_, _, _, rfl, by rw [HD.out]; exact ho, hbel⟩
end Go.Proofs.Ytkmbblooofmnpaa
