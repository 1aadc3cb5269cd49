/- ReceiveLanes, the reference's: returns recvF. -/
import Derived.Test.YtkmbblooofmnpaaRecv
namespace Go.Proofs.Ytkmbblooofmnpaa
open Go.RowKit Go.Deep
def tnS (M : List (List Int)) : Int := if M.length = 0 then -1 else mnL M
theorem tnS_first {M : List (List Int)} {l : List Int} (h : M.length = 0) : tnS (M ++ [l]) = l.length := by
  unfold tnS; rw [if_neg (by simp), mn_first h]
theorem tnS_less {M : List (List Int)} {l : List Int} (h : M.length ≠ 0) (h' : (l.length : Int) < tnS M) : tnS (M ++ [l]) = l.length := by
  unfold tnS at *; rw [if_neg h] at h'; rw [if_neg (by simp), mn_less (by omega)]
theorem tnS_more {M : List (List Int)} {l : List Int} (h : M.length ≠ 0) (h' : ¬ (l.length : Int) < tnS M) : tnS (M ++ [l]) = tnS M := by
  unfold tnS at *; rw [if_neg h] at h' ⊢; rw [if_neg (by simp), mn_more h (by omega)]
theorem tnS_eq {M : List (List Int)} (h : M.length ≠ 0) : tnS M = mnL M := by unfold tnS; rw [if_neg h]
/-- What stays behind a step of the region of ReceiveLanes: two cells. -/
theorem keep2 {B : Nat} {w w' : World} {p q : Addr} {u v : Value} (h : w.cell? p = some u ∧ w.cell? q = some v) (hb : Below B w w') (hp : p.block < B) (hq : q.block < B) : w'.cell? p = some u ∧ w'.cell? q = some v :=
  ⟨(hb.cell hp).trans h.1, (hb.cell hq).trans h.2⟩
set_option maxHeartbeats 4000000 in
theorem recv_s (A : Option Addr) (n c B : Nat) (L : List (List Int)) (w : World) (h : RSS w B A n L) (hB : B ≤ w.heap.size) (hn : n ≤ 1048576) (hr : ∀ l ∈ L, l.length ≤ 4294967296) :
    Calls Try.prog 21 #[.slice A n c] w (RetOwnBool w (recvF L).1 (recvF L).2) := by
  have hl := Lib.hid h.len
  have HR := Lib.hid hr
  clear hr
  cases hc : lcB (n : Int)
  · have HF := Lib.hid (recvF_no (recvOk_cnt (L := L) (by rw [hl.out]; exact hc)))
    have HL := own_lit0 w
    go_enter Try.func21, Try.ntmps21
    go_wp2_with (go_at_call 54; refine (laneCountOk_s _ _).mono ?_; rw [hc]; rintro e w' ⟨rfl, rfl⟩)
    go_ret2
    rw [HF.out]
    exact ⟨_, _, _, rfl, HL.top, (Below.refl _ _).alloc (Nat.le_refl _) _⟩
  · have hn4 := lcB_le hc
    have HC := Lib.hid hc
    have HLC := (laneCountOk_s (n : Int) w)
    rw [hc] at HLC
    clear hc
    go_enter Try.func21, Try.ntmps21
    go_wp2_with (go_at_call 54; refine HLC.mono ?_; rintro e w' ⟨rfl, rfl⟩)
    go_loop [4, 5] (fun t i => ∃ k : Nat, k ≤ n ∧ i = .int .i64 k ∧ ∃ T : Int, t = .int .i64 T ∧ -1 ≤ T ∧ T ≤ 4294967296 ∧ (k = 0 → T = -1) ∧ (k ≠ 0 → 0 ≤ T) ∧ Hid (T = tnS ((L.map restL).take k)) ∧ Hid (∀ i, i < k → 0 ≤ findI 24 (lat L i))) (fun _ i => n - (intOf i).toNat)
    case atStart => exact ⟨0, Nat.zero_le _, rfl, -1, rfl, by omega, by omega, fun _ => rfl, fun h => absurd rfl h, Lib.hid (by simp [tnS]), Lib.hid (fun i hi => by omega)⟩
    case round =>
      obtain ⟨k, hk, rfl, T, rfl, hT0, hT1, hT2, hT3, hTm, hst⟩ := hrel
      clear HLC
      by_cases hlt : k < n
      · obtain ⟨b, off, Ak, nk, ck, rfl, hb, hc0, hri, hck, _⟩ := h.at_ hlt
        have hkl : k < L.length := by have := hl.out; omega
        have hnk : nk ≤ 4294967296 := by
          rw [← hri.len, lat_eq hkl]
          exact HR.out _ (List.getElem_mem _)
        have hi1 : (0 : Int) ≤ (k : Int) := by omega
        have hi2 : (k : Int) < (n : Int) := by omega
        have HN := Lib.hid hri.len
        rcases findI_rng 24 (lat L k) with hf | ⟨j, hj, hf, _⟩
        · have hST := startOf_s Ak nk ck B _ w hri hnk
          rw [hf] at hST
          have HF := Lib.hid (recvF_no (recvOk_at hkl hf))
          have HL := own_lit0 w
          clear hf hT2 hT3
          go_wp2_with (go_at_call 55; refine hST.mono ?_; rintro e w' ⟨rfl, rfl⟩)
          go_ret2
          rw [HF.out]
          exact ⟨_, _, _, rfl, HL.top, (Below.refl _ _).alloc (Nat.le_refl _) _⟩
        · have hST := startOf_s Ak nk ck B _ w hri hnk
          rw [hf] at hST
          have hj' : j < nk := by have := HN.out; omega
          have HST := Lib.hid (starts_step hst.out (show 0 ≤ findI 24 (lat L k) by rw [hf]; omega))
          have HRL := Lib.hid (restL_len hf)
          have HTK := Lib.hid (take_map_rest hkl)
          have HML : Hid (((L.map restL).take k).length = k) := Lib.hid (by simp; omega)
          have d0 : decide ((j : Int) < 0) = false := by simp
          have hs0 : (0 : Int) ≤ (nk : Int) - j - 1 := by omega
          clear hf hri hst
          have three : (T < 0 ∧ Hid ((nk : Int) - j - 1 = tnS ((L.map restL).take (k + 1)))) ∨ (¬ T < 0 ∧ (nk : Int) - j - 1 < T ∧ Hid ((nk : Int) - j - 1 = tnS ((L.map restL).take (k + 1)))) ∨ (¬ T < 0 ∧ ¬ ((nk : Int) - j - 1 < T) ∧ Hid (T = tnS ((L.map restL).take (k + 1)))) := by
            have e1 := HRL.out
            have e2 := HN.out
            have e3 := hTm.out
            have e4 := HML.out
            rw [HTK.out]
            by_cases hk0 : k = 0
            · exact .inl ⟨by have := hT2 hk0; omega, Lib.hid (by rw [tnS_first (by omega)]; omega)⟩
            · by_cases hRT : (nk : Int) - j - 1 < T
              · exact .inr (.inl ⟨by have := hT3 hk0; omega, hRT, Lib.hid (by rw [tnS_less (by omega) (by omega)]; omega)⟩)
              · exact .inr (.inr ⟨by have := hT3 hk0; omega, hRT, Lib.hid (by rw [tnS_more (by omega) (by omega)]; omega)⟩)
          clear hT2
          rcases three with ⟨hz, H3⟩ | ⟨hz, hlt3, H3⟩ | ⟨hz, hlt3, H3⟩
          all_goals
            clear hT3
            go_wp2_with (go_at_call 55; refine hST.mono ?_; rintro e w' ⟨rfl, rfl⟩)
            go_round
            case rel => first
              | exact ⟨k + 1, by omega, by go_num, (nk : Int) - j - 1, rfl, by omega, by omega, fun h => by omega, fun _ => by omega, H3, HST⟩
              | exact ⟨k + 1, by omega, by go_num, T, rfl, by omega, by omega, fun h => by omega, fun _ => by omega, H3, HST⟩
            case measure => simp [intOf]; omega
      · obtain rfl : k = n := by omega
        have HOK := Lib.hid (recvF_yes (recvOk_all (L := L) (by rw [hl.out]; exact HC.out) (fun j hj => hst.out j (by have := hl.out; omega))))
        have e1 : (L.map restL).take k = L.map restL := List.take_of_length_le (by have := hl.out; simp; omega)
        have hTn := hTm.out
        rw [e1, tnS_eq (by rw [List.length_map, hl.out]; omega)] at hTn
        obtain ⟨T', rfl⟩ : ∃ T' : Nat, T = T' := ⟨T.toNat, by have := hT3 (by omega); omega⟩
        have HTM : Hid (T' = mnL (L.map restL)) := Lib.hid (by exact_mod_cast hTn)
        have HT2 : Hid (∀ i, i < k → T' ≤ (restL (lat L i)).length) := Lib.hid fun i hi => by rw [HTM.out]; exact mn_rest_le (by have := hl.out; omega)
        have HML : Hid ((L.map restL).length = k) := Lib.hid (by simp; exact hl.out)
        have HL2 := own_lit0 w
        clear e1 hTm hlt hk hT2 hT3 hTn
        go_wp2
        go_loopw [8, 9, 10] (fun v i _ wq => ∃ t : Nat, t ≤ T' ∧ i = .int .i64 t ∧ ∃ (A2 : Option Addr) (N c2 : Nat), v = .slice A2 N c2 ∧ N ≤ 4 * t ∧ Own wq w.heap.size wq.heap.size A2 N c2 (rvF (L.map restL) t) ∧ Below w.heap.size w wq) (fun _ i _ _ => T' - (intOf i).toNat)
        case atStart => exact ⟨0, Nat.zero_le _, rfl, _, 0, _, rfl, by omega, by simpa [rvF] using HL2.top, (Below.refl _ _).alloc (Nat.le_refl _) _⟩
        case round =>
          rename World => wq
          obtain ⟨t, ht, rfl, A2, N, c2, rfl, hN, hown2, hb2⟩ := hrel
          clear HL2
          have hsz2 := hb2.size
          by_cases htlt : t < T'
          · have HX : Own wq w.heap.size wq.heap.size A2 (N + 0) c2 (rvF (L.map restL) t ++ rowT ((L.map restL).take 0) t) := by simpa [rowT] using hown2
            clear hown2
            have ti0 : (0 : Int) ≤ (t : Int) := by omega
            have ti1 : (t : Int) < (T' : Int) := by omega
            go_wp2
            go_loopw [8, 10] (fun v i wp => ∃ i' : Nat, i' ≤ k ∧ i = .int .i64 i' ∧ ∃ (A3 : Option Addr) (c3 : Nat), v = .slice A3 (N + i') c3 ∧ Own wp w.heap.size wp.heap.size A3 (N + i') c3 (rvF (L.map restL) t ++ rowT ((L.map restL).take i') t) ∧ Below w.heap.size w wp) (fun _ i _ => k - (intOf i).toNat)
            case atStart => exact ⟨0, Nat.zero_le _, rfl, _, _, rfl, HX, hb2⟩
            case round =>
              rename World => wp
              obtain ⟨i', hi', rfl, A3, c3, rfl, hown3, hb3⟩ := hrel
              clear HX
              have hsz3 := hb3.size
              by_cases hilt : i' < k
              · have hil : i' < L.length := by have := hl.out; omega
                obtain ⟨b, off, Ai, ni, ci, rfl, hb, hcell0, hri0, _, _⟩ := h.at_ hilt
                have hcell : wp.cell? ⟨b, off + i', none⟩ = some (.slice Ai ni ci) := (hb3.cell (show b < w.heap.size by omega)).trans hcell0
                have hri := hri0.below hb3 hB
                have hni := hri.len
                have hnk : ni ≤ 4294967296 := by
                  rw [← hni, lat_eq hil]
                  exact HR.out _ (List.getElem_mem _)
                obtain ⟨j, hj, hf, _⟩ : ∃ j : Nat, j < (lat L i').length ∧ findI 24 (lat L i') = j ∧ True := by
                  rcases findI_rng 24 (lat L i') with hf | ⟨j, hj, hf, _⟩
                  · have := hst.out i' hilt; omega
                  · exact ⟨j, hj, hf, trivial⟩
                have htn : j + 1 + t < ni := by
                  have e1 := HT2.out i' hilt
                  rw [restL_len hf] at e1
                  omega
                have hST := fun W hW => startOf_s Ai ni ci B (lat L i') W hW hnk
                rw [hf] at hST
                obtain ⟨b4, off4, rfl, hb4, hc4⟩ := hri.at_ htn
                have HRS := Lib.hid (rowT_snoc (M := L.map restL) (t := t) (i := i') (by have := HML.out; omega))
                have HLM : Hid (zat (lat (L.map restL) i') t = zat (lat L i') (j + 1 + t)) := Lib.hid (by rw [lat_map_rest hil, restL_at hf, zat_drop])
                have ii0 : (0 : Int) ≤ (i' : Int) := by omega
                have ii1 : (i' : Int) < (k : Int) := by omega
                have tn0 : (0 : Int) ≤ (j : Int) + 1 + t := by omega
                have tn1 : (j : Int) + 1 + t < (ni : Int) := by omega
                have tn2 : ((j : Int) + 1 + t).toNat = j + 1 + t := by omega
                have wr1 : IntKind.i64.wrap ((j : Int) + 1) = (j : Int) + 1 := IntWalk.i64_in _ (by omega)
                have wr2 : IntKind.i64.wrap ((j : Int) + 1 + t) = (j : Int) + 1 + t := IntWalk.i64_in _ (by omega)
                have hbw : b < w.heap.size := by omega
                have hb4w : b4 < w.heap.size := by omega
                clear hni hcell0 hri0 hf
                go_wp2_with fail
                have hriD : RI wp.drew B (some ⟨b4, off4, none⟩) ni (lat L i') := RV.drewN hri 1
                have hownD : Own (wp.alloc (.cells #[.int .i64 (zat (lat L i') (j + 1 + t))] 3)).drew w.heap.size wp.heap.size A3 (N + i') c3 (rvF (L.map restL) t ++ rowT ((L.map restL).take i') t) := hown3.alloc _
                have hroD : RI (wp.alloc (.cells #[.int .i64 (zat (lat L i') (j + 1 + t))] 3)).drew (wp.heap.size + 1) (some ⟨wp.heap.size, 0, none⟩) 1 [zat (lat L i') (j + 1 + t)] := RV.drewN (ri_one wp _ 3) 1
                have hbD : Below w.heap.size w (wp.alloc (.cells #[.int .i64 (zat (lat L i') (j + 1 + t))] 3)).drew := (hb3.alloc hsz3 _).drew
                go_region_law (first
                  | (refine step_append_ints rfl _ _ _ rfl Try.underlying24 infoInt _ _ _ _ _ _ rfl hownD _ _ _ _ _ rfl hroD (by omega) (by first | (simp; done) | (simp; omega)) ?_; intro A5 c5 w5 hown5 hoff5 hbel5)
                  | (go_simp; go_at_call 55; refine (hST _ hriD).mono ?_; rintro e w' ⟨rfl, rfl⟩))
                all_goals
                  rw [List.append_assoc, ← HLM.out, ← HRS.out] at hown5
                  have K5 := hbD.trans hbel5
                  clear wr1 wr2 tn2 hownD hroD hbD hbel5 hoff5 hown3 hb3 hST hriD
                  go_wp2
                  go_roundw
                  case rel => exact ⟨i' + 1, by omega, by go_num, _, _, rfl, hown5, K5⟩
                  case measure => simp [intOf]; omega
              · obtain rfl : i' = k := by omega
                have HE : Hid (rvF (L.map restL) t ++ rowT ((L.map restL).take i') t = rvF (L.map restL) (t + 1)) := Lib.hid (by rw [rvF_succ, List.take_of_length_le (by have := HML.out; omega)])
                rw [HE.out] at hown3
                go_wp2
                go_roundw
                case rel => exact ⟨t + 1, by omega, by go_num, _, _, _, rfl, by omega, hown3, hb3⟩
                case measure => simp [intOf]; omega
          · obtain rfl : t = T' := by omega
            have R := hown2
            rw [HTM.out] at R
            go_wp2
            go_ret2
            rw [HOK.out]
            exact ⟨_, _, _, rfl, R, hb2⟩
end Go.Proofs.Ytkmbblooofmnpaa
