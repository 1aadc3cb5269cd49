/- The walk of FnExactTrainLink: turned from that of FnExactCableOk. Under way. -/
import Derived.Test.YtmibajhilbfecaaEqLink
import Derived.Test.YtmibajhilbfecaaCable2
import Derived.Test.YtmibajhilbfecaaWalks4c
namespace Go.Proofs.Ytmibajhilbfecaa
open Go.RowKit Go.Deep
set_option maxHeartbeats 2000000 in
set_option maxRecDepth 10000 in
theorem walk_fnExactTrainLink (w : World) (Q : Option Addr) (nq cq : Nat) (q : List Int) (rq : RI w w.heap.size Q nq q) (_fq : WF q) (gq : nq ≤ cq) (iq : cq ≤ maxLen) (S : Option Addr) (ns cs : Nat) (s : List Int) (rs : RI w w.heap.size S ns s) (_fs : WF s) (gs : ns ≤ cs) (is : cs ≤ maxLen) :
    Calls Try.prog 14 #[.agg #[.slice Q nq cq, .slice S ns cs]] w fun e w' => e = .returned (.bool true) ∧ Below w.heap.size w w' := by
  have h : RC w w.heap.size Q nq q S ns s := ⟨rq, rs⟩
  have LQ := Lib.hid rq.len
  have LS := Lib.hid rs.len
  have K0 := (Below.refl w.heap.size w).alloc (Nat.le_refl _) (.cells #[.slice Q nq cq, .slice S ns cs] 43)
  have G0 := heap_alloc_new w (.cells #[.slice Q nq cq, .slice S ns cs] 43)
  obtain ⟨⟨l, m, v⟩, hr⟩ : ∃ r, trainF q s = r := ⟨_, rfl⟩
  have HTR := Lib.hid hr
  clear hr
  go_enter Try.func14, Try.ntmps14
  go_wp2_with fail
  refine (szCable_any Q S nq cq ns cs _ gq iq gs is).mono ?_
  rintro e w1 ⟨⟨x, rfl, hx⟩, hb1⟩
  have s1 := hb1.size
  simp only [World.size_alloc] at s1
  have K_1 := K0.trans (hb1.mono (by simp))
  have HC_1 := (hb1.block _ (by simp)).trans G0
  clear K0 G0 hb1
  by_cases hbig : 1048576 < nq + ns
  · have hneg : x < 0 := hx.2 hbig
    clear hx
    go_wp2
    go_ret
    exact ⟨rfl, K_1⟩
  have hneg : ¬ x < 0 := fun hn => hbig (hx.1 hn)
  have R_1 := h.below K_1 (Nat.le_refl _)
  have bq : q.length ≤ 1048576 := by have := LQ.out; omega
  have bs : s.length ≤ 1048576 := by have := LS.out; omega
  clear hx h rq rs
  obtain ⟨HCc0, HCc1, _, _⟩ := cells2 HC_1
  go_wp2_with fail
  refine (toCable_any _ _ _ _ _ _ _ q s _ R_1 (by omega) (by omega) (by omega)).mono ?_
  rintro e w2 ⟨QT, cqT, ST, csT, mT, rfl, hqT, hsT, hmT, hMT, hb2⟩
  have s2 := hb2.size
  clear HCc0 HCc1
  have K_2 := bthen K_1 hb2 (by omega)
  have HC_2 := (hb2.block _ (by omega)).trans HC_1
  have R_2 := R_1.below hb2 (by omega)
  clear K_1 HC_1 R_1
  clear hb2
  have hRT : RC w2 w2.heap.size QT q.length q ST s.length s := ⟨hqT.ri.more hMT, hsT.ri⟩
  obtain ⟨HCc0, HCc1, _, _⟩ := cells2 HC_2
  go_wp2_with fail
  refine (trainLink_s _ _ _ _ _ _ _ q s _ hRT (Nat.le_refl _) (by omega) (by omega)).mono ?_
  rw [HTR.out]
  simp only [vTr]
  rintro e w3 ⟨rfl, hb3⟩
  have s3 := hb3.size
  clear HCc0 HCc1 hRT hqT hsT
  have K_3 := bthen K_2 hb3 (by omega)
  have HC_3 := (hb3.block _ (by omega)).trans HC_2
  have R_3 := R_2.below hb3 (by omega)
  clear K_2 HC_2 R_2
  clear hb3
  obtain ⟨B1, B2, _, _⟩ := cells2 HC_3
  have E1 : ∀ o, (w3.alloc o).cell? ⟨w.heap.size, 0, none⟩ = some (.slice Q nq cq) := fun o => (World.cell?_alloc_lt w3 o ⟨w.heap.size, 0, none⟩ (by show w.heap.size < _; omega)).trans B1
  have E2 : ∀ o, (w3.alloc o).cell? ⟨w.heap.size, 1, none⟩ = some (.slice S ns cs) := fun o => (World.cell?_alloc_lt w3 o ⟨w.heap.size, 1, none⟩ (by show w.heap.size < _; omega)).trans B2
  clear B1 B2
  obtain ⟨w3b, hw3b⟩ : ∃ z, z = w3.alloc (.cells #[.int .i64 l.ln, .int .i64 l.rt, .int .i64 l.dr] 29) := ⟨_, rfl⟩
  have hbb : Below w3.heap.size w3 w3b := by rw [hw3b]; exact (Below.refl _ _).alloc (Nat.le_refl _) _
  have HA_3 : w3b.heap[w3.heap.size]? = some (.cells #[.int .i64 l.ln, .int .i64 l.rt, .int .i64 l.dr] 29 (0, 0)) := by rw [hw3b]; exact heap_alloc_new w3 _
  have s3b : w3b.heap.size = w3.heap.size + 1 := by rw [hw3b]; simp
  have K_3 := bthen K_3 hbb (by omega)
  have HC_3 := (hbb.block _ (by omega)).trans HC_3
  have R_3 := R_3.below hbb (by omega)
  clear hbb
  obtain ⟨HCc0, HCc1, _, _⟩ := cells2 HC_3
  go_wp2_with fail
  rw [← hw3b]
  clear hw3b E1 E2
  refine (toCable_any _ _ _ _ _ _ _ q s _ R_3 (by omega) (by omega) (by omega)).mono ?_
  rintro e w4 ⟨QX, cqX, SX, csX, mX, rfl, hqX, hsX, hmX, hMX, hb4⟩
  have s4 := hb4.size
  clear HCc0 HCc1
  have K_4 := bthen K_3 hb4 (by omega)
  have HC_4 := (hb4.block _ (by omega)).trans HC_3
  have R_4 := R_3.below hb4 (by omega)
  have HA_4 := (hb4.block _ (by omega)).trans HA_3
  clear K_3 HC_3 R_3
  clear hb4
  have hbB := (Below.refl w4.heap.size w4).alloc (Nat.le_refl _) (.cells #[.slice QX q.length cqX, .slice SX s.length csX] 26)
  have HX_5 := heap_alloc_new w4 (.cells #[.slice QX q.length cqX, .slice SX s.length csX] 26)
  have s5 : w4.heap.size < (w4.alloc (.cells #[.slice QX q.length cqX, .slice SX s.length csX] 26)).heap.size := by simp
  obtain ⟨HCc0, HCc1, _, _⟩ := cells2 HC_4
  clear HCc0 HCc1
  obtain ⟨w5, hw5⟩ : ∃ z, z = w4.alloc (.cells #[.slice QX q.length cqX, .slice SX s.length csX] 26) := ⟨_, rfl⟩
  rw [← hw5] at hbB HX_5 s5
  have K_5 := bthen K_4 hbB (by omega)
  have HC_5 := (hbB.block _ (by omega)).trans HC_4
  have R_5 := R_4.below hbB (by omega)
  have HA_5 := (hbB.block _ (by omega)).trans HA_4
  have Xq_5 := hqX.below hbB (by omega)
  have Xs_5 := hsX.below hbB (by omega)
  clear K_4 HC_4 R_4 hqX hsX
  clear hbB
  obtain ⟨HCc0, HCc1, _, _⟩ := cells2 HC_5
  obtain ⟨HXc0, HXc1, _, _⟩ := cells2 HX_5
  go_wp2_with fail
  rw [← hw5]
  clear hw5
  refine (trainLink_i _ _ _ _ _ _ w4.heap.size q s _ (RC.mk ((Xq_5).ri.more (by omega)) (Xs_5).ri) (by omega) (by omega) (by omega)).mono ?_
  rw [HTR.out]
  simp only [vTr]
  rintro e w6 ⟨rfl, hb6⟩
  have s6 := hb6.size
  clear HCc0 HCc1 HXc0 HXc1
  have K_6 := bthen K_5 hb6 (by omega)
  have HC_6 := (hb6.block _ (by omega)).trans HC_5
  have R_6 := R_5.below hb6 (by omega)
  have HA_6 := (hb6.block _ (by omega)).trans HA_5
  have Xq_6 := Xq_5.below hb6 (by omega)
  have Xs_6 := Xs_5.below hb6 (by omega)
  have HX_6 := (hb6.block _ (by omega)).trans HX_5
  clear K_5 HC_5 R_5 Xq_5 Xs_5 HX_5
  clear hb6
  obtain ⟨A1, A2, A3, _, _, _⟩ := cells3 HA_6
  have D1 : ∀ o, (w6.alloc o).cell? ⟨w3.heap.size, 0, none⟩ = some (.int .i64 l.ln) := fun o => (World.cell?_alloc_lt w6 o ⟨w3.heap.size, 0, none⟩ (by show w3.heap.size < _; omega)).trans A1
  have D2 : ∀ o, (w6.alloc o).cell? ⟨w3.heap.size, 1, none⟩ = some (.int .i64 l.rt) := fun o => (World.cell?_alloc_lt w6 o ⟨w3.heap.size, 1, none⟩ (by show w3.heap.size < _; omega)).trans A2
  have D3 : ∀ o, (w6.alloc o).cell? ⟨w3.heap.size, 2, none⟩ = some (.int .i64 l.dr) := fun o => (World.cell?_alloc_lt w6 o ⟨w3.heap.size, 2, none⟩ (by show w3.heap.size < _; omega)).trans A3
  go_wp2_with fail
  refine (eqLink_t l _).mono ?_
  rintro e w6b ⟨rfl, hbE0⟩
  have hbE : Below w6.heap.size w6 w6b := ((Below.refl w6.heap.size w6).alloc (Nat.le_refl _) (.cells #[.int .i64 l.ln, .int .i64 l.rt, .int .i64 l.dr] 29)).trans (hbE0.mono (by simp))
  have s6b := hbE.size
  have K_6 := bthen K_6 hbE (by omega)
  have HC_6 := (hbE.block _ (by omega)).trans HC_6
  have R_6 := R_6.below hbE (by omega)
  have Xq_6 := Xq_6.below hbE (by omega)
  have Xs_6 := Xs_6.below hbE (by omega)
  have HX_6 := (hbE.block _ (by omega)).trans HX_6
  clear hbE hbE0 D1 D2 D3 A1 A2 A3 HA_6
  obtain ⟨HCc0, HCc1, _, _⟩ := cells2 HC_6
  obtain ⟨HXc0, HXc1, _, _⟩ := cells2 HX_6
  go_wp2_with fail
  have hRX : RC w6b w4.heap.size QX q.length q SX s.length s := RC.mk ((Xq_6).ri.more (by omega)) (Xs_6).ri
  go_region_held3 (fun w' => w'.cell? ⟨w.heap.size, 0, none⟩ = some (.slice Q nq cq) ∧ w'.cell? ⟨w.heap.size, 1, none⟩ = some (.slice S ns cs) ∧ w'.cell? ⟨w4.heap.size, 0, none⟩ = some (.slice QX q.length cqX) ∧ w'.cell? ⟨w4.heap.size, 1, none⟩ = some (.slice SX s.length csX) ∧ Below w6b.heap.size w6b w')
    (first | exact ⟨HCc0, HCc1, HXc0, HXc1, (Below.refl _ _).drew⟩ | exact keep4 ‹_› (by simp; omega) (by simp; omega) (by simp; omega) (by simp; omega) ‹_ ∧ _›)
    (first | (go_at_call 28; refine (toCable_any _ _ _ _ _ _ _ q s _ (R_6.drew) (by simp; omega) (by omega) (by omega)).mono ?_; rintro e w7a ⟨QY, cqY, SY, csY, mY, rfl, hqY, hsY, hmY, hMY, hba⟩) | (go_at_call 30; refine (eqCable_t _ _ _ _ _ _ _ _ _ _ _ _ w4.heap.size w7a.heap.size q s _ (hRX.drew.below hba (by simp; omega)) ⟨hqY.ri.more hMY, hsY.ri⟩ (by have := hba.size; simp at this; omega) (Nat.le_refl _) (by omega) (by omega)).mono ?_; rintro e w7 ⟨rfl, hbc⟩))
  rename_i HH
  obtain ⟨_, _, _, _, hbR⟩ := HH
  have s7 := hbR.size
  clear HCc0 HCc1 HXc0 HXc1 hba hbc hRX hqY hsY
  have K_7 := bthen K_6 hbR (by omega)
  have HC_7 := (hbR.block _ (by omega)).trans HC_6
  have R_7 := R_6.below hbR (by omega)
  have Xq_7 := Xq_6.below hbR (by omega)
  have Xs_7 := Xs_6.below hbR (by omega)
  have HX_7 := (hbR.block _ (by omega)).trans HX_6
  clear K_6 HC_6 R_6 Xq_6 Xs_6 HX_6
  clear hbR
  go_wp2
  go_ret
  exact ⟨rfl, K_7⟩
end Go.Proofs.Ytmibajhilbfecaa
