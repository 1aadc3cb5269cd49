/- TrainLink, the reference's: the same. -/
import Derived.Test.YtmibajhilbfecaaTrain2
namespace Go.Proofs.Ytmibajhilbfecaa
open Go.RowKit Go.Deep
theorem lnT_facts : ∀ o, o < 3 → 1 ≤ lnT o ∧ lnT o ≤ 4 ∧ lnT (o + 1) = lnT o / 2 ∧ lnT (o + 1) < lnT o := by decide
/-- The two boxes: the cable's and the result's. -/
def TBox (w0 w : World) (Q : Option Addr) (nq cq : Nat) (S : Option Addr) (ns cs : Nat) : Prop :=
  w.heap[w0.heap.size + 1]? = some (.cells #[.int .i64 0, .int .i64 0, .int .i64 0] 29 (0, 0)) ∧ w.heap[w0.heap.size]? = some (.cells #[.slice Q nq cq, .slice S ns cs] 26 (0, 0)) ∧ Below w0.heap.size w0 w ∧ w0.heap.size + 2 ≤ w.heap.size
theorem TBox.below {w0 w w' : World} {Q S : Option Addr} {nq cq ns cs : Nat} (h : TBox w0 w Q nq cq S ns cs) (hb : Below w.heap.size w w') : TBox w0 w' Q nq cq S ns cs := by
  obtain ⟨a, b, c, d⟩ := h
  have := hb.size
  exact ⟨(hb.block _ (by omega)).trans a, (hb.block _ (by omega)).trans b, c.trans (hb.mono (by omega)), by omega⟩
set_option maxHeartbeats 4000000 in
set_option maxRecDepth 100000 in
theorem trainLink_s (Q S : Option Addr) (nq cq ns cs B : Nat) (q s : List Int) (w : World) (h : RC w B Q nq q S ns s) (hB : B ≤ w.heap.size) (hnq : nq ≤ 4294967296) (hns : ns ≤ 4294967296) :
    Calls Try.prog 51 #[.agg #[.slice Q nq cq, .slice S ns cs]] w fun e w' => e = .returned (vTr (trainF q s)) ∧ Below w.heap.size w w' := by
  obtain ⟨w0, hw0⟩ : ∃ w0, w0 = (w.alloc (.cells #[.slice Q nq cq, .slice S ns cs] 26)).alloc (.cells #[.int .i64 0, .int .i64 0, .int .i64 0] 29) := ⟨_, rfl⟩
  have T0 : TBox w w0 Q nq cq S ns cs := by
    rw [hw0]
    refine ⟨?_, by rw [Below.heap_alloc _ _ _ (by simp), heap_alloc_new], ((Below.refl w.heap.size w).alloc (Nat.le_refl _) _).alloc (by simp) _, by simp⟩
    have := heap_alloc_new (w.alloc (.cells #[.slice Q nq cq, .slice S ns cs] 26)) (.cells #[.int .i64 0, .int .i64 0, .int .i64 0] 29)
    simpa using this
  cases hcb : cableB q s
  · have HF : Hid (trainF q s = (⟨0, 0, 0⟩, 0, false)) := Lib.hid (by simp [trainF, hcb])
    obtain ⟨d1, d2, _, _⟩ := cells2 T0.2.1
    go_enter Try.func51, Try.ntmps51
    go_wp2_with fail
    rw [← hw0]
    clear hw0
    refine wp_loop_rounds 1 ?_
    rw [rounds_succ]
    go_wp2_with fail
    refine (cableOk_s Q S nq cq ns cs B q s w0 (h.below T0.2.2.1 hB) (by have := T0.2.2.2; omega) hnq hns).mono ?_
    rw [hcb]
    rintro e w1 ⟨rfl, hb1⟩
    have T1 := T0.below hb1
    obtain ⟨a1, a2, a3, b1, b2, b3⟩ := cells3 T1.1
    obtain ⟨j1, j2, j3, _⟩ := cells3 (set3 T1.1 (.int .i64 0) (.int .i64 0) (.int .i64 0))
    have K1 := T1.2.2.1
    clear hb1 T1 T0 hcb d1 d2
    go_wp2
    refine bodyPost_ret (v := .tuple #[.agg #[.int .i64 0, .int .i64 0, .int .i64 0], .int .i64 0, .bool false]) (by simp [results, Try.results51, go_sem, j1, j2, j3]) rfl ⟨by rw [HF.out]; rfl, ?_⟩
    have hle : w.heap.size ≤ w.heap.size + 1 := by omega
    exact ((K1.setCell hle _).setCell hle _).setCell hle _
  · have HF : Hid (goT q s (linksS.drop 0) 0 = trainF q s) := Lib.hid (by simp [trainF, hcb])
    have HCB := Lib.hid hcb
    have HL48 := Lib.hid linksS_len
    clear hcb
    go_enter Try.func51, Try.ntmps51
    go_wp2_with fail
    rw [← hw0]
    clear hw0
    go_loopw [5, 6, 7, 8, 9] (fun n sz _ _ _ wr => ∃ (k Z N : Nat), k ≤ 16 ∧ Z + k = 16 ∧ sz = .int .i64 Z ∧ n = .int .i64 N ∧ N ≤ 48 ∧ Hid (N = trP k 0) ∧ Hid (goT q s (linksS.drop N) N = trainF q s) ∧ Hid (TBox w wr Q nq cq S ns cs)) (fun _ sz _ _ _ _ => (intOf sz).toNat)
    case atStart => exact ⟨0, 16, 0, by omega, by omega, by first | rfl | go_num, by first | rfl | go_num, by omega, Lib.hid trP_0.symm, HF, Lib.hid T0⟩
    case round =>
      rename World => w1
      obtain ⟨k, Z, N, hk, hZ, rfl, rfl, hN48, hN, hG, hT⟩ := hrel
      clear HF T0
      by_cases hk16 : k < 16
      · obtain ⟨d1, d2, _, _⟩ := cells2 hT.out.2.1
        have hZ1 : (1 : Int) ≤ (Z : Int) := by omega
        have hZ2 : 1 ≤ Z := by omega
        go_wp2_with fail
        refine (cableOk_s Q S nq cq ns cs B q s w1 (h.below hT.out.2.2.1 hB) (by have := hT.out.2.2.2; omega) hnq hns).mono ?_
        rw [HCB.out]
        rintro e w2 ⟨rfl, hb2⟩
        have hT2 := Lib.hid (hT.out.below hb2)
        clear hT hb2 d1 d2
        go_wp2
        go_loopw [5, 7, 8, 9] (fun n ln _ _ wr => ∃ (o LN M : Nat), o ≤ 3 ∧ ln = .int .i64 LN ∧ Hid (LN = lnT o) ∧ n = .int .i64 M ∧ M ≤ 48 ∧ Hid (M = trP k o) ∧ Hid (goT q s (linksS.drop M) M = trainF q s) ∧ Hid (TBox w wr Q nq cq S ns cs)) (fun _ ln _ _ _ => (intOf ln).toNat)
        case atStart => exact ⟨0, 4, N, by omega, by first | rfl | go_num, Lib.hid rfl, rfl, hN48, hN, hG, hT2⟩
        case round =>
          rename World => w3
          obtain ⟨o, LN, M, ho, rfl, hLN, rfl, hM48, hM, hGM, hT3⟩ := hrel
          clear hT2 hG
          by_cases ho3 : o < 3
          · have hf := lnT_facts o ho3
            rw [← hLN.out] at hf
            obtain ⟨hf1, hf2, hf3, hf4⟩ := hf
            obtain ⟨L2, hL2⟩ : ∃ L2, Hid (L2 = LN / 2) := ⟨_, Lib.hid rfl⟩
            have HL2 : Hid (L2 = lnT (o + 1)) := Lib.hid (by rw [hf3, hL2.out])
            have hlt2 : L2 < LN := by have := hL2.out; omega
            have e2 : (LN : Int) / 2 = (L2 : Int) := by have := hL2.out; omega
            obtain ⟨R, hR⟩ : ∃ R, Hid (R = Z % LN) := ⟨_, Lib.hid rfl⟩
            obtain ⟨D, hD⟩ : ∃ D, Hid (D = Z / LN) := ⟨_, Lib.hid rfl⟩
            have eR : (Z : Int) % (LN : Int) = (R : Int) := by rw [hR.out]; simp
            have eD : (Z : Int) / (LN : Int) = (D : Int) := by rw [hD.out]; simp
            have hD16 : D ≤ 16 := by rw [hD.out]; exact Nat.le_trans (Nat.div_le_self _ _) (by omega)
            have l0 : ¬ LN = 0 := by omega
            have l1 : (1 : Int) ≤ (LN : Int) := by omega
            have hst := trP_step k hk16 o ho3
            have hat := trP_at k hk16 o ho3
            rw [← hLN.out, show 16 - k = Z by omega, ← hR.out, ← hD.out] at hst
            rw [← hLN.out, show 16 - k = Z by omega, ← hR.out, ← hD.out, ← hM.out] at hat
            have HST := Lib.hid hst
            have HAT := Lib.hid hat
            have HF3 := Lib.hid hf3
            clear hst hat hf3 hf4
            by_cases hadm : R = 0 ∧ D ≤ 4
            · obtain ⟨hR0, hD4⟩ := hadm
              have hMM : M + 4 ≤ 48 := by
                have := (List.getElem?_eq_some_iff.1 (HAT.out ⟨hR0, hD4⟩ 3 (by omega))).1
                rw [HL48.out] at this
                omega
              have HNX : Hid (M + 4 = trP k (o + 1)) := Lib.hid (by rw [HST.out, if_pos ⟨hR0, hD4⟩, ← hM.out])
              have tR : ((R : Int) == 0) = true := by simp [hR0]
              have tD : ¬ (4 : Int) < (D : Int) := by omega
              have tD' : ¬ 4 < D := by omega
              have HADM : Hid (R = 0 ∧ D ≤ 4) := Lib.hid ⟨hR0, hD4⟩
              go_wp2
              clear hR0
              go_loopw [5, 8, 9] (fun n d _ wr => ∃ (dr P : Nat), dr ≤ 4 ∧ d = .int .i64 dr ∧ n = .int .i64 P ∧ Hid (P = M + dr) ∧ Hid (goT q s (linksS.drop P) P = trainF q s) ∧ Hid (TBox w wr Q nq cq S ns cs)) (fun _ d _ _ => 4 - (intOf d).toNat)
              case atStart => exact ⟨0, M, by omega, by first | rfl | go_num, rfl, Lib.hid rfl, hGM, hT3⟩
              case round =>
                rename World => w4
                obtain ⟨dr, P, hd4, rfl, rfl, hP, hGP, hT4⟩ := hrel
                clear hT3 hGM
                by_cases hd3 : dr ≤ 3
                · have hd3' : (dr : Int) ≤ 3 := by omega
                  have hat := HAT.out HADM.out dr (by omega)
                  rw [← hP.out] at hat
                  obtain ⟨hPl, hPe⟩ := List.getElem?_eq_some_iff.1 hat
                  have HDR : Hid (linksS.drop P = (⟨LN, D, dr⟩ : LK) :: linksS.drop (P + 1)) := Lib.hid (by rw [List.drop_eq_getElem_cons hPl, hPe])
                  have hP48 : P ≤ 47 := by have := HL48.out; omega
                  obtain ⟨t1, t2, t3, t4⟩ := hT4.out
                  obtain ⟨d1, d2, _, _⟩ := cells2 t2
                  have n1 : ¬ w4.heap.size = w.heap.size := by omega
                  have n2 : ¬ w.heap.size = w4.heap.size := by omega
                  have D1 : ∀ o, (w4.alloc o).cell? ⟨w.heap.size, 0, none⟩ = some (.slice Q nq cq) := fun o => (World.cell?_alloc_lt w4 o ⟨w.heap.size, 0, none⟩ (by show w.heap.size < _; omega)).trans d1
                  have D2 : ∀ o, (w4.alloc o).cell? ⟨w.heap.size, 1, none⟩ = some (.slice S ns cs) := fun o => (World.cell?_alloc_lt w4 o ⟨w.heap.size, 1, none⟩ (by show w.heap.size < _; omega)).trans d2
                  clear hat hPl hPe t1 t2 t3
                  have NEW := Lib.hid (heap_alloc_new w4 (.cells #[.int .i64 (LN : Int), .int .i64 (D : Int), .int .i64 (dr : Int)] 29))
                  have T5 := Lib.hid (hT4.out.below ((Below.refl w4.heap.size w4).alloc (Nat.le_refl _) (.cells #[.int .i64 (LN : Int), .int .i64 (D : Int), .int .i64 (dr : Int)] 29)))
                  have hC4 : RC (w4.alloc (.cells #[.int .i64 (LN : Int), .int .i64 (D : Int), .int .i64 (dr : Int)] 29)) B Q nq q S ns s := h.below T5.out.2.2.1 hB
                  have hBs : B ≤ (w4.alloc (.cells #[.int .i64 (LN : Int), .int .i64 (D : Int), .int .i64 (dr : Int)] 29)).heap.size := by have := T5.out.2.2.2; omega
                  cases hw : linkW q s (LN : Int) (D : Int) (dr : Int)
                  · have HN : Hid (goT q s (linksS.drop (P + 1)) (P + 1) = trainF q s) := Lib.hid (by
                      have h1 := hGP.out
                      rw [HDR.out, goT, if_neg (by simp only [wK, hw]; decide)] at h1
                      exact h1)
                    clear hGP HDR
                    go_wp2_with fail
                    refine (linkWorks_s Q S nq cq ns cs B q s LN D dr _ hC4 hBs hnq hns).mono ?_
                    rw [hw]
                    rintro e w5 ⟨rfl, hb5⟩
                    have T6 := Lib.hid (T5.out.below hb5)
                    clear hw hT4 T5 hb5 D1 D2 NEW d1 d2 n1 n2 hC4 hBs
                    go_wp2
                    go_roundw
                    case rel => exact ⟨dr + 1, P + 1, by omega, by go_num, by go_num, Lib.hid (by have := hP.out; omega), HN, T6⟩
                    case measure => simp [intOf]; omega
                  · have HN : Hid (trainF q s = ((⟨LN, D, dr⟩ : LK), P + 1, true)) := Lib.hid (by
                      have h1 := hGP.out
                      rw [HDR.out, goT, if_pos (by simp only [wK]; exact hw)] at h1
                      exact h1.symm)
                    clear hGP HDR
                    go_wp2_with fail
                    refine (linkWorks_s Q S nq cq ns cs B q s LN D dr _ hC4 hBs hnq hns).mono ?_
                    rw [hw]
                    rintro e w5 ⟨rfl, hb5⟩
                    have T6 := T5.out.below hb5
                    have g75 := (hb5.block _ (by simp)).trans NEW.out
                    obtain ⟨a1, a2, a3, b1, b2, b3⟩ := cells3 T6.1
                    obtain ⟨f1, f2, f3, _⟩ := cells3 g75
                    obtain ⟨j1, j2, j3, _⟩ := cells3 (set3 T6.1 (.int .i64 (LN : Int)) (.int .i64 (D : Int)) (.int .i64 (dr : Int)))
                    have K5 := T6.2.2.1
                    clear hw hT4 T5 T6 hb5 D1 D2 NEW d1 d2 n1 n2 hC4 hBs g75
                    go_wp2
                    refine bodyPost_ret (v := .tuple #[.agg #[.int .i64 (LN : Int), .int .i64 (D : Int), .int .i64 (dr : Int)], .int .i64 ((P : Int) + 1), .bool true]) (by simp [results, Try.results51, go_sem, j1, j2, j3]) rfl ⟨by rw [HN.out]; rfl, ?_⟩
                    have hle : w.heap.size ≤ w.heap.size + 1 := by omega
                    exact ((K5.setCell hle _).setCell hle _).setCell hle _
                · obtain rfl : dr = 4 := by omega
                  obtain rfl : P = M + 4 := hP.out
                  go_wp2
                  go_roundw
                  case rel => exact ⟨o + 1, L2, M + 4, by omega, rfl, HL2, by go_num, hMM, HNX, hGP, hT4⟩
                  case measure => simp [intOf]; omega
            · have HNX : Hid (M = trP k (o + 1)) := Lib.hid (by rw [HST.out, if_neg hadm, ← hM.out]; rfl)
              by_cases hR0 : R = 0
              · have tR : ((R : Int) == 0) = true := by simp [hR0]
                have tD : (4 : Int) < (D : Int) := by omega
                have tD' : 4 < D := by omega
                clear hadm
                go_wp2
                go_roundw
                case rel => exact ⟨o + 1, L2, M, by omega, rfl, HL2, rfl, hM48, HNX, hGM, hT3⟩
                case measure => simp [intOf]; omega
              · have tR : ((R : Int) == 0) = false := beq_eq_false_iff_ne.2 (by omega)
                clear hadm
                go_wp2
                go_roundw
                case rel => exact ⟨o + 1, L2, M, by omega, rfl, HL2, rfl, hM48, HNX, hGM, hT3⟩
                case measure => simp [intOf]; omega
          · obtain rfl : o = 3 := by omega
            obtain rfl : LN = 0 := hLN.out
            have hNN : Hid (M = trP (k + 1) 0) := Lib.hid (by rw [trP_next k hk16]; exact hM.out)
            obtain ⟨Z', rfl⟩ : ∃ Z', Z = Z' + 1 := ⟨Z - 1, by omega⟩
            go_wp2
            go_roundw
            case rel => exact ⟨k + 1, Z', M, by omega, by omega, by go_num, rfl, hM48, hNN, hGM, hT3⟩
            case measure => simp [intOf] <;> omega
      · obtain rfl : k = 16 := by omega
        obtain rfl : Z = 0 := by omega
        obtain rfl : N = 48 := by rw [hN.out]; exact trP_end
        have HE : Hid (trainF q s = (⟨0, 0, 0⟩, 48, false)) := Lib.hid (by rw [← hG.out, List.drop_eq_nil_of_le (by have := HL48.out; omega)]; rfl)
        obtain ⟨a1, a2, a3, b1, b2, b3⟩ := cells3 hT.out.1
        obtain ⟨j1, j2, j3, _⟩ := cells3 (set3 hT.out.1 (.int .i64 0) (.int .i64 0) (.int .i64 0))
        have K1 := hT.out.2.2.1
        go_wp2
        refine bodyPost_ret (v := .tuple #[.agg #[.int .i64 0, .int .i64 0, .int .i64 0], .int .i64 48, .bool false]) (by simp [results, Try.results51, go_sem, j1, j2, j3]) rfl ⟨by rw [HE.out]; rfl, ?_⟩
        have hle : w.heap.size ≤ w.heap.size + 1 := by omega
        exact ((K1.setCell hle _).setCell hle _).setCell hle _
end Go.Proofs.Ytmibajhilbfecaa
