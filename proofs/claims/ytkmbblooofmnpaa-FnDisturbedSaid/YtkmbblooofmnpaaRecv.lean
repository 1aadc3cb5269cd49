/- ReceiveLanes, program and reference: both return recvF. -/
import Derived.Test.YtkmbblooofmnpaaLaneF
import Derived.Test.YtkmbblooofmnpaaII4
import Derived.Test.YtkmbblooofmnpaaLane1
namespace Go.Proofs.Ytkmbblooofmnpaa
open Go.RowKit Go.Deep
/-- '.slice A n c' owns its outer array (blocks lo .. hi-1); its inner slices lie below B and read as M. -/
def OutSS (w : World) (lo hi B : Nat) (A : Option Addr) (n c : Nat) (M : List (List Int)) : Prop :=
  ∃ ps : List Rw, OwnV 24 w lo hi A n c (ps.map Rw.v) ∧ ps.map Rw.zs = M ∧ ∀ p ∈ ps, RI w B p.A p.n p.zs
section
variable {w w' : World} {lo hi B n c : Nat} {A : Option Addr} {M : List (List Int)}
theorem OutSS.len (h : OutSS w lo hi B A n c M) : M.length = n := by
  obtain ⟨ps, h1, rfl, _⟩ := h
  have := h1.len
  simpa using this
theorem OutSS.below {C : Nat} (h : OutSS w lo hi B A n c M) (hb : Below C w w') (h1 : hi ≤ C) (h2 : B ≤ C) : OutSS w' lo hi B A n c M := by
  obtain ⟨ps, a, b, d⟩ := h
  exact ⟨ps, a.below hb h1, b, fun p hp => (d p hp).below hb h2⟩
theorem OutSS.alloc (h : OutSS w lo hi B A n c M) (hB : B ≤ w.heap.size) (o : Obj) : OutSS (w.alloc o) lo hi B A n c M := by
  obtain ⟨ps, a, b, d⟩ := h
  exact ⟨ps, a.alloc o, b, fun p hp => RI.alloc (d p hp) hB o⟩
theorem OutSS.at_ {k : Nat} (h : OutSS w lo hi B A n c M) (hk : k < n) : ∃ g Ak nk ck, A = some ⟨g, 0, none⟩ ∧ w.cell? ⟨g, k, none⟩ = some (.slice Ak nk ck) ∧ RI w B Ak nk (lat M k) := by
  obtain ⟨ps, a, rfl, d⟩ := h
  have hl : k < ps.length := by have := a.len; simp at this; omega
  obtain ⟨g, u, e, _, _, hu, hc, _⟩ := a.cell hk
  rw [List.getElem?_map, List.getElem?_eq_getElem hl] at hu
  simp only [Option.map_some, Option.some.injEq, Rw.v] at hu
  subst hu
  refine ⟨g, ps[k].A, ps[k].n, ps[k].c, e, hc, ?_⟩
  rw [lat_eq (by simpa using hl)]
  simpa using d _ (List.getElem_mem hl)
end
theorem outss_nil (w : World) (B : Nat) : OutSS (w.alloc (.cells #[] 24)) w.heap.size (w.heap.size + 1) B (some ⟨w.heap.size, 0, none⟩) 0 0 [] :=
  ⟨[], OwnV.new w 24 #[] (by simp [maxLen]), rfl, fun p hp => by cases hp⟩
section
variable {P : Program}
theorem wpList_append_out {ops : Array Oper} {rest : List Oper} {o : Oper} {a : Act} {Q : Exit → Act → World → Prop} {w : World} (hgd : o.guard = none) (s x : Operand) (t : TypeId)
    (ho : o.op = .call { callee := .builtin .append, args := #[s, x], argTypes := #[t, t] })
    (ht : P.underlying t = some (.slice 24)) (hinfo : (P.info? 24).map (fun i => (i.zero, i.size, i.bytes)) = some (some (.slice none 0 0), 1, 24))
    (lo hi B : Nat) (A : Option Addr) (n c : Nat) (M : List (List Int)) (hs : a.eval s = .slice A n c) (hown : OutSS w lo hi B A n c M)
    (Ap : Option Addr) (np cp : Nat) (z : List Int) (hp : RI w B Ap np z)
    (B2 : Nat) (S : Option Addr) (d : Nat) (hx : a.eval x = .slice S 1 d) (hr : RV w B2 S 1 [.slice Ap np cp])
    (hbd : n ≤ 1000000000) (h1 : B ≤ lo) (h2 : lo ≤ w.heap.size)
    (h : ∀ A' c' w', OutSS w' lo w'.heap.size B A' (n + 1) c' (M ++ [z]) → Below lo w w' → wpList P ops Q rest (a.put o.dst (.slice A' (n + 1) c')) w') : wpList P ops Q (o :: rest) a w := by
  obtain ⟨ps, g1, g2, g3⟩ := hown
  refine wpList_append_rv hgd s x t ho 24 lo hi (.slice none 0 0) 24 ht hinfo rfl A n c (ps.map Rw.v) hs g1 B2 S 1 d [.slice Ap np cp] hx hr (by simp [Value.oneCell']) (by simp only [maxLen]; omega) (by omega) h2 ?_
  intro A' c' w' b2 b3 b4
  refine h A' c' w' ⟨ps ++ [⟨Ap, np, cp, 0, 0, z⟩], by simpa [Rw.v] using b2, by simp [g2], fun p hp' => ?_⟩ b4
  rcases List.mem_append.1 hp' with hp' | hp'
  · exact (g3 p hp').below b4 h1
  · rcases List.mem_singleton.1 hp' with rfl
    exact RI.below hp b4 h1
end
theorem mn_first {M : List (List Int)} {l : List Int} (h : M.length = 0) : mnL (M ++ [l]) = l.length := by
  rw [mnL_snoc, if_pos (.inl (List.eq_nil_of_length_eq_zero h))]
theorem mn_less {M : List (List Int)} {l : List Int} (h : l.length < mnL M) : mnL (M ++ [l]) = l.length := by
  rw [mnL_snoc, if_pos (.inr h)]
theorem mn_more {M : List (List Int)} {l : List Int} (h0 : M.length ≠ 0) (h : ¬ l.length < mnL M) : mnL (M ++ [l]) = mnL M := by
  rw [mnL_snoc, if_neg]
  rintro (h1 | h1)
  · exact h0 (by simp [h1])
  · exact h h1
theorem restL_len {l : List Int} {j : Nat} (h : findI 24 l = j) : (restL l).length = l.length - (j + 1) := by rw [restL_at h]; simp
theorem mn_rest_le {L : List (List Int)} {i : Nat} (h : i < L.length) : mnL (L.map restL) ≤ (restL (lat L i)).length :=
  mnL_le (by rw [← lat_map_rest h, lat_eq (by simpa using h)]; exact List.getElem_mem _)
theorem restL_le (l : List Int) : (restL l).length ≤ l.length := by unfold restL; simp
theorem starts_step {L : List (List Int)} {k : Nat} (h : ∀ i, i < k → 0 ≤ findI 24 (lat L i)) (hk : 0 ≤ findI 24 (lat L k)) : ∀ i, i < k + 1 → 0 ≤ findI 24 (lat L i) := fun i hi => by
  rcases Nat.lt_succ_iff_lt_or_eq.1 hi with h1 | rfl
  · exact h i h1
  · exact hk
set_option maxHeartbeats 4000000 in
theorem recv_i (A : Option Addr) (n c B : Nat) (L : List (List Int)) (w : World) (h : RSS w B A n L) (hB : B ≤ w.heap.size) (hn : n ≤ 1048576) (hr : ∀ l ∈ L, l.length ≤ 4294967296) :
    Calls Try.prog 23 #[.slice A n c] w (RetOwnBool w (recvF L).1 (recvF L).2) := by
  have hl := Lib.hid h.len
  have HR := Lib.hid hr
  clear hr
  cases hc : lcB (n : Int)
  · have HF := Lib.hid (recvF_no (recvOk_cnt (L := L) (by rw [hl.out]; exact hc)))
    go_enter Try.func23, Try.ntmps23
    go_wp2_with (go_at_call 56; refine (laneCountOk_i _ _).mono ?_; rw [hc]; rintro e w' ⟨rfl, rfl⟩)
    go_ret2
    rw [HF.out]
    exact ⟨_, _, _, rfl, Own.nil, Below.refl _ _⟩
  · have hn4 := lcB_le hc
    have HC := Lib.hid hc
    have HO := outss_nil w B
    have HLC := (laneCountOk_i (n : Int) w)
    rw [hc] at HLC
    clear hc
    go_enter Try.func23, Try.ntmps23
    go_wp2_with (go_at_call 56; refine HLC.mono ?_; rintro e w' ⟨rfl, rfl⟩)
    go_loopw [4, 5, 20] (fun o t i wr => ∃ k : Nat, k ≤ n ∧ i = .int .i64 k ∧ ∃ (A' : Option Addr) (c' T : Nat), o = .slice A' k c' ∧ t = .int .i64 T ∧ T ≤ 4294967296 ∧ Hid (T = mnL ((L.map restL).take k)) ∧ Hid (∀ i, i < k → 0 ≤ findI 24 (lat L i)) ∧ OutSS wr w.heap.size wr.heap.size B A' k c' ((L.map restL).take k) ∧ Below w.heap.size w wr) (fun _ _ i _ => n - (intOf i).toNat)
    case atStart => exact ⟨0, Nat.zero_le _, rfl, _, _, 0, rfl, rfl, by omega, Lib.hid rfl, Lib.hid (fun i hi => by omega), by simpa using HO, (Below.refl _ _).alloc (Nat.le_refl _) _⟩
    case round =>
      obtain ⟨k, hk, rfl, A', c', T, rfl, rfl, hT, hTm, hst, hown, hbel⟩ := hrel
      clear HO HLC
      have hsz := hbel.size
      by_cases hlt : k < n
      · obtain ⟨b, off, Ak, nk, ck, rfl, hb, hc0, hri, hck, _⟩ := (h.below hbel hB).at_ hlt
        have hkl : k < L.length := by have := hl.out; omega
        have hnk : nk ≤ 4294967296 := by
          rw [← hri.len, lat_eq hkl]
          exact HR.out _ (List.getElem_mem _)
        have hi1 : (0 : Int) ≤ (k : Int) := by omega
        have hi2 : (k : Int) < (n : Int) := by omega
        have HN := Lib.hid hri.len
        rcases findI_rng 24 (lat L k) with hf | ⟨j, hj, hf, _⟩
        · have hST := startOf_i Ak nk ck B _ wr hri hnk
          rw [hf] at hST
          have HF := Lib.hid (recvF_no (recvOk_at hkl hf))
          clear hf hown
          go_wp2_with (go_at_call 44; refine hST.mono ?_; rintro e w' ⟨rfl, rfl⟩)
          go_ret2
          rw [HF.out]
          exact ⟨_, _, _, rfl, Own.nil, hbel⟩
        · have hST := startOf_i Ak nk ck B _ wr hri hnk
          rw [hf] at hST
          have hj' : j < nk := by have := HN.out; omega
          have HST := Lib.hid (starts_step hst.out (show 0 ≤ findI 24 (lat L k) by rw [hf]; omega))
          have hcut := hri.cut (k := j + 1) (cap := ck) (by omega) hck
          rw [← restL_at hf] at hcut
          have HRL := Lib.hid (restL_len hf)
          have HTK := Lib.hid (take_map_rest hkl)
          have HML : Hid (((L.map restL).take k).length = k) := Lib.hid (by simp; omega)
          have d0 : decide ((j : Int) < 0) = false := by simp
          have hri0 := hri
          clear hf hri hst
          have hj1 : ((j : Int) + 1).toNat = j + 1 := by omega
          have j0 : (0 : Int) ≤ (j : Int) + 1 := by omega
          have j1 : (j : Int) + 1 ≤ (nk : Int) := by omega
          have three : (((k : Int) == 0) = true ∧ Hid (nk - (j + 1) = mnL ((L.map restL).take (k + 1)))) ∨ (((k : Int) == 0) = false ∧ nk - (j + 1) < T ∧ Hid (nk - (j + 1) = mnL ((L.map restL).take (k + 1)))) ∨ (((k : Int) == 0) = false ∧ ¬ (nk - (j + 1) < T) ∧ Hid (T = mnL ((L.map restL).take (k + 1)))) := by
            have e1 := HRL.out
            have e2 := HN.out
            have e3 := hTm.out
            have e4 := HML.out
            rw [HTK.out]
            by_cases hk0 : k = 0
            · exact .inl ⟨by simp [hk0], Lib.hid (by rw [mn_first (by omega)]; omega)⟩
            · by_cases hRT : nk - (j + 1) < T
              · exact .inr (.inl ⟨by simp [hk0], hRT, Lib.hid (by rw [mn_less (by omega)]; omega)⟩)
              · exact .inr (.inr ⟨by simp [hk0], hRT, Lib.hid (by rw [mn_more (by omega) (by omega)]; omega)⟩)
          have HLK : Hid (lat ((L.map restL).take (k + 1)) k = restL (lat L k)) := Lib.hid (by rw [HTK.out]; have e4 := HML.out; unfold lat; rw [List.getD_eq_getElem?_getD, List.getElem?_append_right (by omega), e4, Nat.sub_self]; rfl)
          by_cases hcc : ck = j + 1
          · subst hcc
            obtain rfl : nk = j + 1 := by omega
            rw [if_pos rfl, Nat.sub_self] at hcut
            rw [Nat.sub_self] at three
            clear hri0
            rcases three with ⟨hz, H3⟩ | ⟨hz, hlt3, H3⟩ | ⟨hz, hlt3, H3⟩
            all_goals
              go_wp2_with (first
                | (go_at_call 44; refine hST.mono ?_; rintro e w' ⟨rfl, rfl⟩)
                | (at_builtin; refine wpList_append_out rfl _ _ _ rfl Try.underlying36 infoII _ _ _ _ _ _ _ rfl (hown.alloc (by omega) _) _ _ _ _ (RI.alloc hcut (by omega) _) _ _ _ rfl (rv_one _ _ _) (by omega) hB (by simp; omega) ?_
                   intro A2 c2 w2 hown2 hbel2
                   rw [← HTK.out] at hown2
                   have K2 := (hbel.alloc hsz (.cells #[.slice Ak 0 0] 24)).trans hbel2
                   obtain ⟨g2, Ak2, nk2, ck2, rfl, hc2, hri2⟩ := hown2.at_ (show k < k + 1 by omega)
                   rw [HLK.out] at hri2
                   obtain rfl : 0 = nk2 := by have e1 := hri2.len; have e2 := HRL.out; have e3 := HN.out; omega
                   clear hri2 hbel2))
              go_roundw
              case rel => first
                | exact ⟨k + 1, by omega, by go_num, _, _, 0, rfl, by go_num, by omega, H3, HST, hown2, K2⟩
                | exact ⟨k + 1, by omega, by go_num, _, _, T, rfl, by go_num, by omega, H3, HST, hown2, K2⟩
              case measure => simp [intOf]; omega
          · rw [if_neg hcc] at hcut
            obtain ⟨bk, offk, rfl, hbk, _⟩ := hri0.at_ (show 0 < nk by omega)
            clear hri0
            have HC2 : RI wr B (some ⟨bk, offk + (j + 1), none⟩) (nk - (j + 1)) (restL (lat L k)) := by simpa [Addr.add] using hcut
            clear hcut
            rcases three with ⟨hz, H3⟩ | ⟨hz, hlt3, H3⟩ | ⟨hz, hlt3, H3⟩
            all_goals
              go_wp2_with (first
                | (go_at_call 44; refine hST.mono ?_; rintro e w' ⟨rfl, rfl⟩)
                | (at_builtin; refine wpList_append_out rfl _ _ _ rfl Try.underlying36 infoII _ _ _ _ _ _ _ rfl (hown.alloc (by omega) _) _ _ _ _ (RI.alloc HC2 (by omega) _) _ _ _ rfl (rv_one _ _ _) (by omega) hB (by simp; omega) ?_
                   intro A2 c2 w2 hown2 hbel2
                   rw [← HTK.out] at hown2
                   have K2 := (hbel.alloc hsz (.cells #[.slice (some ⟨bk, offk + (j + 1), none⟩) (nk - (j + 1)) (ck - (j + 1))] 24)).trans hbel2
                   obtain ⟨g2, Ak2, nk2, ck2, rfl, hc2, hri2⟩ := hown2.at_ (show k < k + 1 by omega)
                   rw [HLK.out] at hri2
                   obtain rfl : nk - (j + 1) = nk2 := by have e1 := hri2.len; have e2 := HRL.out; have e3 := HN.out; omega
                   clear hri2 hbel2))
              go_roundw
              case rel => first
                | exact ⟨k + 1, by omega, by go_num, _, _, nk - (j + 1), rfl, by go_num, by omega, H3, HST, hown2, K2⟩
                | exact ⟨k + 1, by omega, by go_num, _, _, T, rfl, by go_num, by omega, H3, HST, hown2, K2⟩
              case measure => simp [intOf]; omega
      · rename World => w1
        obtain rfl : k = n := by omega
        have HOK := Lib.hid (recvF_yes (recvOk_all (L := L) (by rw [hl.out]; exact HC.out) (fun j hj => hst.out j (by have := hl.out; omega))))
        have e1 : (L.map restL).take k = L.map restL := List.take_of_length_le (by have := hl.out; simp; omega)
        rw [e1] at hown
        have HTM : Hid (T = mnL (L.map restL)) := Lib.hid (by rw [hTm.out, e1])
        have HT2 : Hid (∀ i, i < k → T ≤ (restL (lat L i)).length) := Lib.hid fun i hi => by rw [HTM.out]; exact mn_rest_le (by have := hl.out; omega)
        have HL2 := own_lit0 w1
        have HML := Lib.hid hown.len
        clear e1 hTm hst hlt h hk
        go_wp2
        go_loopw [9, 10, 55] (fun v _ i wq => ∃ t : Nat, t ≤ T ∧ i = .int .i64 t ∧ ∃ (A2 : Option Addr) (N c2 : Nat), v = .slice A2 N c2 ∧ N ≤ 4 * t ∧ Own wq w1.heap.size wq.heap.size A2 N c2 (rvF (L.map restL) t) ∧ Below w1.heap.size w1 wq) (fun _ _ i _ => T - (intOf i).toNat)
        case atStart => exact ⟨0, Nat.zero_le _, rfl, _, 0, _, rfl, by omega, by simpa [rvF] using HL2.top, (Below.refl _ _).alloc (Nat.le_refl _) _⟩
        case round =>
          rename World => wq
          obtain ⟨t, ht, rfl, A2, N, c2, rfl, hN, hown2, hb2⟩ := hrel
          clear HL2
          have hsz2 := hb2.size
          by_cases htlt : t < T
          · have HX : Own wq w1.heap.size wq.heap.size A2 (N + 0) c2 (rvF (L.map restL) t ++ rowT ((L.map restL).take 0) t) := by simpa [rowT] using hown2
            clear hown2
            have ti0 : (0 : Int) ≤ (t : Int) := by omega
            have ti1 : (t : Int) < (T : Int) := by omega
            go_wp2
            go_loopw [9, 12, 60] (fun v _ i wp => ∃ i' : Nat, i' ≤ k ∧ i = .int .i64 i' ∧ ∃ (A3 : Option Addr) (c3 : Nat), v = .slice A3 (N + i') c3 ∧ Own wp w1.heap.size wp.heap.size A3 (N + i') c3 (rvF (L.map restL) t ++ rowT ((L.map restL).take i') t) ∧ Below w1.heap.size w1 wp) (fun _ _ i _ => k - (intOf i).toNat)
            case atStart => exact ⟨0, Nat.zero_le _, rfl, _, _, rfl, HX, hb2⟩
            case round =>
              rename World => wp
              obtain ⟨i', hi', rfl, A3, c3, rfl, hown3, hb3⟩ := hrel
              clear HX
              have hsz3 := hb3.size
              by_cases hilt : i' < k
              · obtain ⟨g, Ai, ni, ci, rfl, hcell, hri⟩ := (hown.below hb3 (Nat.le_refl _) (by omega)).at_ hilt
                have hni := hri.len
                rw [lat_map_rest (by have := hl.out; omega)] at hri hni
                have htn : t < ni := by have := HT2.out i' hilt; omega
                obtain ⟨b4, off4, rfl, hb4, hc4⟩ := hri.at_ htn
                have HRS := Lib.hid (rowT_snoc (M := L.map restL) (t := t) (i := i') (by have := HML.out; omega))
                have HLM := Lib.hid (lat_map_rest (L := L) (k := i') (by have := hl.out; omega))
                have ii0 : (0 : Int) ≤ (i' : Int) := by omega
                have ii1 : (i' : Int) < (k : Int) := by omega
                have tn1 : (t : Int) < (ni : Int) := by omega
                clear hni hri
                go_wp2_with (at_builtin; refine wpList_append_ints rfl _ _ _ rfl Try.underlying24 infoInt _ _ _ _ _ _ rfl (hown3.alloc _) _ _ _ _ _ rfl (ri_one _ _ _) (by omega) (by simp; omega) ?_; intro A5 c5 w5 hown5 hoff5 hbel5; rw [List.append_assoc, ← HLM.out, ← HRS.out] at hown5; have K5 := (hb3.alloc hsz3 (.cells #[.int .i64 (zat (restL (lat L i')) t)] 3)).trans hbel5)
                go_roundw
                case rel => exact ⟨i' + 1, by omega, by go_num, _, _, rfl, hown5, K5⟩
                case measure => simp [intOf]; omega
              · obtain rfl : i' = k := by omega
                have HE : Hid (rvF (L.map restL) t ++ rowT ((L.map restL).take i') t = rvF (L.map restL) (t + 1)) := Lib.hid (by rw [rvF_succ, List.take_of_length_le (by have := HML.out; omega)])
                rw [HE.out] at hown3
                go_wp2
                go_roundw
                case rel => exact ⟨t + 1, by omega, by go_num, _, _, _, rfl, by omega, hown3, hb3⟩
                case measure => simp [intOf]; omega
          · obtain rfl : t = T := by omega
            have R := hown2
            rw [HTM.out] at R
            go_wp2
            go_ret2
            rw [HOK.out]
            exact ⟨_, _, _, rfl, R.mono hsz (Nat.le_refl _), hbel.trans (hb2.mono hsz)⟩
end Go.Proofs.Ytkmbblooofmnpaa
