/- The walks of the laws on cables. Made by wip/tools/cab.py. -/
import Derived.Test.YtmibajhilbfecaaCable2
import Derived.Deep.RegionHeld3
namespace Go.Proofs.Ytmibajhilbfecaa
open Go.RowKit Go.Deep
theorem RC.drew {w : World} {B nq ns : Nat} {Q S : Option Addr} {q s : List Int} (h : RC w B Q nq q S ns s) : RC w.drew B Q nq q S ns s := ⟨RV.drewN h.q 1, RV.drewN h.s 1⟩
theorem skewsF_len (q s : List Int) (l r d : Int) : (skewsF q s l r d).length ≤ s.length := by unfold skewsF; split <;> simp; omega
theorem keep2 {W w' w1 : World} {p0 p1 : Addr} {v0 v1 : Value} (hb : Below w'.heap.size w' w1) (b0 : p0.block < W.heap.size) (b1 : p1.block < W.heap.size) (h : w'.cell? p0 = some v0 ∧ w'.cell? p1 = some v1 ∧ Below W.heap.size W w') : w1.cell? p0 = some v0 ∧ w1.cell? p1 = some v1 ∧ Below W.heap.size W w1 := by
  obtain ⟨h0, h1, k⟩ := h
  have hs := k.size
  exact ⟨(hb.cell (by omega)).trans h0, (hb.cell (by omega)).trans h1, k.trans (hb.mono hs)⟩
theorem keep4 {W w' w1 : World} {p0 p1 p2 p3 : Addr} {v0 v1 v2 v3 : Value} (hb : Below w'.heap.size w' w1) (b0 : p0.block < W.heap.size) (b1 : p1.block < W.heap.size) (b2 : p2.block < W.heap.size) (b3 : p3.block < W.heap.size) (h : w'.cell? p0 = some v0 ∧ w'.cell? p1 = some v1 ∧ w'.cell? p2 = some v2 ∧ w'.cell? p3 = some v3 ∧ Below W.heap.size W w') : w1.cell? p0 = some v0 ∧ w1.cell? p1 = some v1 ∧ w1.cell? p2 = some v2 ∧ w1.cell? p3 = some v3 ∧ Below W.heap.size W w1 := by
  obtain ⟨h0, h1, h2, h3, k⟩ := h
  have hs := k.size
  exact ⟨(hb.cell (by omega)).trans h0, (hb.cell (by omega)).trans h1, (hb.cell (by omega)).trans h2, (hb.cell (by omega)).trans h3, k.trans (hb.mono hs)⟩
theorem keep5 {W w' w1 : World} {p0 p1 p2 p3 p4 : Addr} {v0 v1 v2 v3 v4 : Value} (hb : Below w'.heap.size w' w1) (b0 : p0.block < W.heap.size) (b1 : p1.block < W.heap.size) (b2 : p2.block < W.heap.size) (b3 : p3.block < W.heap.size) (b4 : p4.block < W.heap.size) (h : w'.cell? p0 = some v0 ∧ w'.cell? p1 = some v1 ∧ w'.cell? p2 = some v2 ∧ w'.cell? p3 = some v3 ∧ w'.cell? p4 = some v4 ∧ Below W.heap.size W w') : w1.cell? p0 = some v0 ∧ w1.cell? p1 = some v1 ∧ w1.cell? p2 = some v2 ∧ w1.cell? p3 = some v3 ∧ w1.cell? p4 = some v4 ∧ Below W.heap.size W w1 := by
  obtain ⟨h0, h1, h2, h3, h4, k⟩ := h
  have hs := k.size
  exact ⟨(hb.cell (by omega)).trans h0, (hb.cell (by omega)).trans h1, (hb.cell (by omega)).trans h2, (hb.cell (by omega)).trans h3, (hb.cell (by omega)).trans h4, k.trans (hb.mono hs)⟩
theorem keep7 {W w' w1 : World} {p0 p1 p2 p3 p4 p5 p6 : Addr} {v0 v1 v2 v3 v4 v5 v6 : Value} (hb : Below w'.heap.size w' w1) (b0 : p0.block < W.heap.size) (b1 : p1.block < W.heap.size) (b2 : p2.block < W.heap.size) (b3 : p3.block < W.heap.size) (b4 : p4.block < W.heap.size) (b5 : p5.block < W.heap.size) (b6 : p6.block < W.heap.size) (h : w'.cell? p0 = some v0 ∧ w'.cell? p1 = some v1 ∧ w'.cell? p2 = some v2 ∧ w'.cell? p3 = some v3 ∧ w'.cell? p4 = some v4 ∧ w'.cell? p5 = some v5 ∧ w'.cell? p6 = some v6 ∧ Below W.heap.size W w') : w1.cell? p0 = some v0 ∧ w1.cell? p1 = some v1 ∧ w1.cell? p2 = some v2 ∧ w1.cell? p3 = some v3 ∧ w1.cell? p4 = some v4 ∧ w1.cell? p5 = some v5 ∧ w1.cell? p6 = some v6 ∧ Below W.heap.size W w1 := by
  obtain ⟨h0, h1, h2, h3, h4, h5, h6, k⟩ := h
  have hs := k.size
  exact ⟨(hb.cell (by omega)).trans h0, (hb.cell (by omega)).trans h1, (hb.cell (by omega)).trans h2, (hb.cell (by omega)).trans h3, (hb.cell (by omega)).trans h4, (hb.cell (by omega)).trans h5, (hb.cell (by omega)).trans h6, k.trans (hb.mono hs)⟩
set_option maxHeartbeats 2000000 in
set_option maxRecDepth 10000 in
theorem walk_fnExactCableOk (w : World) (Q : Option Addr) (nq cq : Nat) (q : List Int) (rq : RI w w.heap.size Q nq q) (_fq : WF q) (gq : nq ≤ cq) (iq : cq ≤ maxLen) (S : Option Addr) (ns cs : Nat) (s : List Int) (rs : RI w w.heap.size S ns s) (_fs : WF s) (gs : ns ≤ cs) (is : cs ≤ maxLen) :
    Calls Try.prog 5 #[.agg #[.slice Q nq cq, .slice S ns cs]] w fun e w' => e = .returned (.bool true) ∧ Below w.heap.size w w' := by
  have h : RC w w.heap.size Q nq q S ns s := ⟨rq, rs⟩
  have LQ := Lib.hid rq.len
  have LS := Lib.hid rs.len
  have K0 := (Below.refl w.heap.size w).alloc (Nat.le_refl _) (.cells #[.slice Q nq cq, .slice S ns cs] 43)
  have G0 := heap_alloc_new w (.cells #[.slice Q nq cq, .slice S ns cs] 43)
  go_enter Try.func5, Try.ntmps5
  go_wp2_with fail
  refine (szCable_any Q S nq cq ns cs _ gq iq gs is).mono ?_
  rintro e w1 ⟨⟨x, rfl, hx⟩, hb1⟩
  have s1 := hb1.size
  simp only [World.size_alloc] at s1
  have K_1 := K0.trans (hb1.mono (by simp))
  have HC_1 := (hb1.block _ (by simp)).trans G0
  clear K0 G0 hb1
  by_cases hbig : 1048576 < nq + ns
  · have hneg : x < 0 := hx.2 hbig
    clear hx
    go_wp2
    go_ret
    exact ⟨rfl, K_1⟩
  have hneg : ¬ x < 0 := fun hn => hbig (hx.1 hn)
  have R_1 := h.below K_1 (Nat.le_refl _)
  have bq : q.length ≤ 1048576 := by have := LQ.out; omega
  have bs : s.length ≤ 1048576 := by have := LS.out; omega
  clear hx h rq rs
  obtain ⟨HCc0, HCc1, _, _⟩ := cells2 HC_1
  go_wp2_with fail
  refine (toCable_any _ _ _ _ _ _ _ q s _ R_1 (by omega) (by omega) (by omega)).mono ?_
  rintro e w2 ⟨QT, cqT, ST, csT, mT, rfl, hqT, hsT, hmT, hMT, hb2⟩
  have s2 := hb2.size
  clear HCc0 HCc1
  have K_2 := bthen K_1 hb2 (by omega)
  have HC_2 := (hb2.block _ (by omega)).trans HC_1
  have R_2 := R_1.below hb2 (by omega)
  clear K_1 HC_1 R_1
  clear hb2
  have hRT : RC w2 w2.heap.size QT q.length q ST s.length s := ⟨hqT.ri.more hMT, hsT.ri⟩
  obtain ⟨HCc0, HCc1, _, _⟩ := cells2 HC_2
  go_wp2_with fail
  refine (cableOk_s _ _ _ _ _ _ _ q s _ hRT (Nat.le_refl _) (by omega) (by omega)).mono ?_
  rintro e w3 ⟨rfl, hb3⟩
  have s3 := hb3.size
  clear HCc0 HCc1 hRT hqT hsT
  have K_3 := bthen K_2 hb3 (by omega)
  have HC_3 := (hb3.block _ (by omega)).trans HC_2
  have R_3 := R_2.below hb3 (by omega)
  clear K_2 HC_2 R_2
  clear hb3
  obtain ⟨HCc0, HCc1, _, _⟩ := cells2 HC_3
  go_wp2_with fail
  refine (toCable_any _ _ _ _ _ _ _ q s _ R_3 (by omega) (by omega) (by omega)).mono ?_
  rintro e w4 ⟨QX, cqX, SX, csX, mX, rfl, hqX, hsX, hmX, hMX, hb4⟩
  have s4 := hb4.size
  clear HCc0 HCc1
  have K_4 := bthen K_3 hb4 (by omega)
  have HC_4 := (hb4.block _ (by omega)).trans HC_3
  have R_4 := R_3.below hb4 (by omega)
  clear K_3 HC_3 R_3
  clear hb4
  have hbB := (Below.refl w4.heap.size w4).alloc (Nat.le_refl _) (.cells #[.slice QX q.length cqX, .slice SX s.length csX] 26)
  have HX_5 := heap_alloc_new w4 (.cells #[.slice QX q.length cqX, .slice SX s.length csX] 26)
  have s5 : w4.heap.size < (w4.alloc (.cells #[.slice QX q.length cqX, .slice SX s.length csX] 26)).heap.size := by simp
  obtain ⟨HCc0, HCc1, _, _⟩ := cells2 HC_4
  clear HCc0 HCc1
  obtain ⟨w5, hw5⟩ : ∃ z, z = w4.alloc (.cells #[.slice QX q.length cqX, .slice SX s.length csX] 26) := ⟨_, rfl⟩
  rw [← hw5] at hbB HX_5 s5
  have K_5 := bthen K_4 hbB (by omega)
  have HC_5 := (hbB.block _ (by omega)).trans HC_4
  have R_5 := R_4.below hbB (by omega)
  have Xq_5 := hqX.below hbB (by omega)
  have Xs_5 := hsX.below hbB (by omega)
  clear K_4 HC_4 R_4 hqX hsX
  clear hbB
  obtain ⟨HCc0, HCc1, _, _⟩ := cells2 HC_5
  obtain ⟨HXc0, HXc1, _, _⟩ := cells2 HX_5
  go_wp2_with fail
  rw [← hw5]
  clear hw5
  refine (cableOk_i _ _ _ _ _ _ w4.heap.size q s _ (RC.mk ((Xq_5).ri.more (by omega)) (Xs_5).ri) (by omega) (by omega) (by omega)).mono ?_
  rintro e w6 ⟨rfl, hb6⟩
  have s6 := hb6.size
  clear HCc0 HCc1 HXc0 HXc1
  have K_6 := bthen K_5 hb6 (by omega)
  have HC_6 := (hb6.block _ (by omega)).trans HC_5
  have R_6 := R_5.below hb6 (by omega)
  have Xq_6 := Xq_5.below hb6 (by omega)
  have Xs_6 := Xs_5.below hb6 (by omega)
  have HX_6 := (hb6.block _ (by omega)).trans HX_5
  clear K_5 HC_5 R_5 Xq_5 Xs_5 HX_5
  clear hb6
  obtain ⟨HCc0, HCc1, _, _⟩ := cells2 HC_6
  obtain ⟨HXc0, HXc1, _, _⟩ := cells2 HX_6
  go_wp2_with fail
  have hRX : RC w6 w4.heap.size QX q.length q SX s.length s := RC.mk ((Xq_6).ri.more (by omega)) (Xs_6).ri
  go_region_held3 (fun w' => w'.cell? ⟨w.heap.size, 0, none⟩ = some (.slice Q nq cq) ∧ w'.cell? ⟨w.heap.size, 1, none⟩ = some (.slice S ns cs) ∧ w'.cell? ⟨w4.heap.size, 0, none⟩ = some (.slice QX q.length cqX) ∧ w'.cell? ⟨w4.heap.size, 1, none⟩ = some (.slice SX s.length csX) ∧ Below w6.heap.size w6 w')
    (first | exact ⟨HCc0, HCc1, HXc0, HXc1, (Below.refl _ _).drew⟩ | exact keep4 ‹_› (by simp; omega) (by simp; omega) (by simp; omega) (by simp; omega) ‹_ ∧ _›)
    (first | (go_at_call 28; refine (toCable_any _ _ _ _ _ _ _ q s _ (R_6.drew) (by simp; omega) (by omega) (by omega)).mono ?_; rintro e w7a ⟨QY, cqY, SY, csY, mY, rfl, hqY, hsY, hmY, hMY, hba⟩) | (go_at_call 30; refine (eqCable_t _ _ _ _ _ _ _ _ _ _ _ _ w4.heap.size w7a.heap.size q s _ (hRX.drew.below hba (by simp; omega)) ⟨hqY.ri.more hMY, hsY.ri⟩ (by have := hba.size; simp at this; omega) (Nat.le_refl _) (by omega) (by omega)).mono ?_; rintro e w7 ⟨rfl, hbc⟩))
  rename_i HH
  obtain ⟨_, _, _, _, hbR⟩ := HH
  have s7 := hbR.size
  clear HCc0 HCc1 HXc0 HXc1 hba hbc hRX hqY hsY
  have K_7 := bthen K_6 hbR (by omega)
  have HC_7 := (hbR.block _ (by omega)).trans HC_6
  have R_7 := R_6.below hbR (by omega)
  have Xq_7 := Xq_6.below hbR (by omega)
  have Xs_7 := Xs_6.below hbR (by omega)
  have HX_7 := (hbR.block _ (by omega)).trans HX_6
  clear K_6 HC_6 R_6 Xq_6 Xs_6 HX_6
  clear hbR
  go_wp2
  go_ret
  exact ⟨rfl, K_7⟩
set_option maxHeartbeats 2000000 in
set_option maxRecDepth 10000 in
theorem walk_fnExactLaneWorks (w : World) (Q : Option Addr) (nq cq : Nat) (q : List Int) (rq : RI w w.heap.size Q nq q) (_fq : WF q) (gq : nq ≤ cq) (iq : cq ≤ maxLen) (S : Option Addr) (ns cs : Nat) (s : List Int) (rs : RI w w.heap.size S ns s) (_fs : WF s) (gs : ns ≤ cs) (is : cs ≤ maxLen) (e1 : Int) (_he1 : I64 e1) (e2 : Int) (_he2 : I64 e2) (e3 : Int) (_he3 : I64 e3) :
    Calls Try.prog 6 #[.agg #[.slice Q nq cq, .slice S ns cs], .int .i64 e1, .int .i64 e2, .int .i64 e3] w fun e w' => e = .returned (.bool true) ∧ Below w.heap.size w w' := by
  have h : RC w w.heap.size Q nq q S ns s := ⟨rq, rs⟩
  have LQ := Lib.hid rq.len
  have LS := Lib.hid rs.len
  have K0 := (Below.refl w.heap.size w).alloc (Nat.le_refl _) (.cells #[.slice Q nq cq, .slice S ns cs] 43)
  have G0 := heap_alloc_new w (.cells #[.slice Q nq cq, .slice S ns cs] 43)
  go_enter Try.func6, Try.ntmps6
  go_wp2_with fail
  refine (szCable_any Q S nq cq ns cs _ gq iq gs is).mono ?_
  rintro e w1 ⟨⟨x, rfl, hx⟩, hb1⟩
  have s1 := hb1.size
  simp only [World.size_alloc] at s1
  have K_1 := K0.trans (hb1.mono (by simp))
  have HC_1 := (hb1.block _ (by simp)).trans G0
  clear K0 G0 hb1
  by_cases hbig : 1048576 < nq + ns
  · have hneg : x < 0 := hx.2 hbig
    clear hx
    go_wp2
    go_ret
    exact ⟨rfl, K_1⟩
  have hneg : ¬ x < 0 := fun hn => hbig (hx.1 hn)
  have R_1 := h.below K_1 (Nat.le_refl _)
  have bq : q.length ≤ 1048576 := by have := LQ.out; omega
  have bs : s.length ≤ 1048576 := by have := LS.out; omega
  clear hx h rq rs
  obtain ⟨HCc0, HCc1, _, _⟩ := cells2 HC_1
  go_wp2_with fail
  refine (toCable_any _ _ _ _ _ _ _ q s _ R_1 (by omega) (by omega) (by omega)).mono ?_
  rintro e w2 ⟨QT, cqT, ST, csT, mT, rfl, hqT, hsT, hmT, hMT, hb2⟩
  have s2 := hb2.size
  clear HCc0 HCc1
  have K_2 := bthen K_1 hb2 (by omega)
  have HC_2 := (hb2.block _ (by omega)).trans HC_1
  have R_2 := R_1.below hb2 (by omega)
  clear K_1 HC_1 R_1
  clear hb2
  have hRT : RC w2 w2.heap.size QT q.length q ST s.length s := ⟨hqT.ri.more hMT, hsT.ri⟩
  obtain ⟨HCc0, HCc1, _, _⟩ := cells2 HC_2
  go_wp2_with fail
  refine (laneWorks_s _ _ _ _ _ _ _ q s e1 e2 e3 _ hRT (Nat.le_refl _) (by omega) (by omega)).mono ?_
  rintro e w3 ⟨rfl, hb3⟩
  have s3 := hb3.size
  clear HCc0 HCc1 hRT hqT hsT
  have K_3 := bthen K_2 hb3 (by omega)
  have HC_3 := (hb3.block _ (by omega)).trans HC_2
  have R_3 := R_2.below hb3 (by omega)
  clear K_2 HC_2 R_2
  clear hb3
  obtain ⟨HCc0, HCc1, _, _⟩ := cells2 HC_3
  go_wp2_with fail
  refine (toCable_any _ _ _ _ _ _ _ q s _ R_3 (by omega) (by omega) (by omega)).mono ?_
  rintro e w4 ⟨QX, cqX, SX, csX, mX, rfl, hqX, hsX, hmX, hMX, hb4⟩
  have s4 := hb4.size
  clear HCc0 HCc1
  have K_4 := bthen K_3 hb4 (by omega)
  have HC_4 := (hb4.block _ (by omega)).trans HC_3
  have R_4 := R_3.below hb4 (by omega)
  clear K_3 HC_3 R_3
  clear hb4
  have hbB := (Below.refl w4.heap.size w4).alloc (Nat.le_refl _) (.cells #[.slice QX q.length cqX, .slice SX s.length csX] 26)
  have HX_5 := heap_alloc_new w4 (.cells #[.slice QX q.length cqX, .slice SX s.length csX] 26)
  have s5 : w4.heap.size < (w4.alloc (.cells #[.slice QX q.length cqX, .slice SX s.length csX] 26)).heap.size := by simp
  obtain ⟨HCc0, HCc1, _, _⟩ := cells2 HC_4
  clear HCc0 HCc1
  obtain ⟨w5, hw5⟩ : ∃ z, z = w4.alloc (.cells #[.slice QX q.length cqX, .slice SX s.length csX] 26) := ⟨_, rfl⟩
  rw [← hw5] at hbB HX_5 s5
  have K_5 := bthen K_4 hbB (by omega)
  have HC_5 := (hbB.block _ (by omega)).trans HC_4
  have R_5 := R_4.below hbB (by omega)
  have Xq_5 := hqX.below hbB (by omega)
  have Xs_5 := hsX.below hbB (by omega)
  clear K_4 HC_4 R_4 hqX hsX
  clear hbB
  obtain ⟨HCc0, HCc1, _, _⟩ := cells2 HC_5
  obtain ⟨HXc0, HXc1, _, _⟩ := cells2 HX_5
  go_wp2_with fail
  rw [← hw5]
  clear hw5
  refine (laneWorks_i _ _ _ _ _ _ w4.heap.size q s e1 e2 e3 _ (RC.mk ((Xq_5).ri.more (by omega)) (Xs_5).ri) (by omega) (by omega) (by omega)).mono ?_
  rintro e w6 ⟨rfl, hb6⟩
  have s6 := hb6.size
  clear HCc0 HCc1 HXc0 HXc1
  have K_6 := bthen K_5 hb6 (by omega)
  have HC_6 := (hb6.block _ (by omega)).trans HC_5
  have R_6 := R_5.below hb6 (by omega)
  have Xq_6 := Xq_5.below hb6 (by omega)
  have Xs_6 := Xs_5.below hb6 (by omega)
  have HX_6 := (hb6.block _ (by omega)).trans HX_5
  clear K_5 HC_5 R_5 Xq_5 Xs_5 HX_5
  clear hb6
  obtain ⟨HCc0, HCc1, _, _⟩ := cells2 HC_6
  obtain ⟨HXc0, HXc1, _, _⟩ := cells2 HX_6
  go_wp2_with fail
  have hRX : RC w6 w4.heap.size QX q.length q SX s.length s := RC.mk ((Xq_6).ri.more (by omega)) (Xs_6).ri
  go_region_held3 (fun w' => w'.cell? ⟨w.heap.size, 0, none⟩ = some (.slice Q nq cq) ∧ w'.cell? ⟨w.heap.size, 1, none⟩ = some (.slice S ns cs) ∧ w'.cell? ⟨w4.heap.size, 0, none⟩ = some (.slice QX q.length cqX) ∧ w'.cell? ⟨w4.heap.size, 1, none⟩ = some (.slice SX s.length csX) ∧ Below w6.heap.size w6 w')
    (first | exact ⟨HCc0, HCc1, HXc0, HXc1, (Below.refl _ _).drew⟩ | exact keep4 ‹_› (by simp; omega) (by simp; omega) (by simp; omega) (by simp; omega) ‹_ ∧ _›)
    (first | (go_at_call 28; refine (toCable_any _ _ _ _ _ _ _ q s _ (R_6.drew) (by simp; omega) (by omega) (by omega)).mono ?_; rintro e w7a ⟨QY, cqY, SY, csY, mY, rfl, hqY, hsY, hmY, hMY, hba⟩) | (go_at_call 30; refine (eqCable_t _ _ _ _ _ _ _ _ _ _ _ _ w4.heap.size w7a.heap.size q s _ (hRX.drew.below hba (by simp; omega)) ⟨hqY.ri.more hMY, hsY.ri⟩ (by have := hba.size; simp at this; omega) (Nat.le_refl _) (by omega) (by omega)).mono ?_; rintro e w7 ⟨rfl, hbc⟩))
  rename_i HH
  obtain ⟨_, _, _, _, hbR⟩ := HH
  have s7 := hbR.size
  clear HCc0 HCc1 HXc0 HXc1 hba hbc hRX hqY hsY
  have K_7 := bthen K_6 hbR (by omega)
  have HC_7 := (hbR.block _ (by omega)).trans HC_6
  have R_7 := R_6.below hbR (by omega)
  have Xq_7 := Xq_6.below hbR (by omega)
  have Xs_7 := Xs_6.below hbR (by omega)
  have HX_7 := (hbR.block _ (by omega)).trans HX_6
  clear K_6 HC_6 R_6 Xq_6 Xs_6 HX_6
  clear hbR
  go_wp2
  go_ret
  exact ⟨rfl, K_7⟩
set_option maxHeartbeats 2000000 in
set_option maxRecDepth 10000 in
theorem walk_fnExactLinkWorks (w : World) (Q : Option Addr) (nq cq : Nat) (q : List Int) (rq : RI w w.heap.size Q nq q) (_fq : WF q) (gq : nq ≤ cq) (iq : cq ≤ maxLen) (S : Option Addr) (ns cs : Nat) (s : List Int) (rs : RI w w.heap.size S ns s) (_fs : WF s) (gs : ns ≤ cs) (is : cs ≤ maxLen) (l : Int) (_hl : I64 l) (r : Int) (_hr : I64 r) (d : Int) (_hd : I64 d) :
    Calls Try.prog 9 #[.agg #[.slice Q nq cq, .slice S ns cs], .agg #[.int .i64 l, .int .i64 r, .int .i64 d]] w fun e w' => e = .returned (.bool true) ∧ Below w.heap.size w w' := by
  have h : RC w w.heap.size Q nq q S ns s := ⟨rq, rs⟩
  have LQ := Lib.hid rq.len
  have LS := Lib.hid rs.len
  have K0 := ((Below.refl w.heap.size w).alloc (Nat.le_refl _) (.cells #[.slice Q nq cq, .slice S ns cs] 43)).alloc (by simp) (.cells #[.int .i64 l, .int .i64 r, .int .i64 d] 37)
  have G1 := heap_alloc_new (w.alloc (.cells #[.slice Q nq cq, .slice S ns cs] 43)) (.cells #[.int .i64 l, .int .i64 r, .int .i64 d] 37)
  have G0 : ((w.alloc (.cells #[.slice Q nq cq, .slice S ns cs] 43)).alloc (.cells #[.int .i64 l, .int .i64 r, .int .i64 d] 37)).heap[w.heap.size]? = some (.cells #[.slice Q nq cq, .slice S ns cs] 43) := by rw [Below.heap_alloc _ _ _ (by simp), heap_alloc_new]
  simp only [World.size_alloc] at G1
  go_enter Try.func9, Try.ntmps9
  go_wp2_with fail
  refine (szCable_any Q S nq cq ns cs _ gq iq gs is).mono ?_
  rintro e w1 ⟨⟨x, rfl, hx⟩, hb1⟩
  have s1 := hb1.size
  simp only [World.size_alloc] at s1
  have K_1 := K0.trans (hb1.mono (by simp; omega))
  have HC_1 := (hb1.block _ (by simp; omega)).trans G0
  have HL_1 := (hb1.block _ (by simp)).trans G1
  clear K0 G0 hb1 G1
  by_cases hbig : 1048576 < nq + ns
  · have hneg : x < 0 := hx.2 hbig
    clear hx
    go_wp2
    go_ret
    exact ⟨rfl, K_1⟩
  have hneg : ¬ x < 0 := fun hn => hbig (hx.1 hn)
  have R_1 := h.below K_1 (Nat.le_refl _)
  have bq : q.length ≤ 1048576 := by have := LQ.out; omega
  have bs : s.length ≤ 1048576 := by have := LS.out; omega
  clear hx h rq rs
  obtain ⟨HCc0, HCc1, _, _⟩ := cells2 HC_1
  obtain ⟨HLc0, HLc1, HLc2, _, _, _⟩ := cells3 HL_1
  go_wp2_with fail
  go_region_held3 (fun w' => w'.cell? ⟨w.heap.size, 0, none⟩ = some (.slice Q nq cq) ∧ w'.cell? ⟨w.heap.size, 1, none⟩ = some (.slice S ns cs) ∧ w'.cell? ⟨w.heap.size + 1, 0, none⟩ = some (.int .i64 l) ∧ w'.cell? ⟨w.heap.size + 1, 1, none⟩ = some (.int .i64 r) ∧ w'.cell? ⟨w.heap.size + 1, 2, none⟩ = some (.int .i64 d) ∧ Below w1.heap.size w1 w')
    (first | exact ⟨HCc0, HCc1, HLc0, HLc1, HLc2, (Below.refl _ _).drew⟩ | exact keep5 ‹_› (by simp; omega) (by simp; omega) (by simp; omega) (by simp; omega) (by simp; omega) ‹_ ∧ _›)
    (first | (go_at_call 28; refine (toCable_any _ _ _ _ _ _ _ q s _ (R_1.drew) (by simp; omega) (by omega) (by omega)).mono ?_; rintro e w2a ⟨QT, cqT, ST, csT, mT, rfl, hqT, hsT, hmT, hMT, hba⟩) | (go_at_call 24; refine (toLink_any _ _ _ _).mono ?_; rintro e w2b ⟨rfl, hbb⟩) | (go_at_call 19; refine (linkWorks_s _ _ _ _ _ _ w2a.heap.size q s l r d _ (RC.below ⟨hqT.ri.more hMT, hsT.ri⟩ hbb (Nat.le_refl _)) hbb.size (by omega) (by omega)).mono ?_; rintro e w2 ⟨rfl, hbc⟩))
  rename_i HH
  obtain ⟨_, _, _, _, _, hbR⟩ := HH
  have s2 := hbR.size
  clear HCc0 HCc1 HLc0 HLc1 HLc2 hba hbb hbc hqT hsT
  have K_2 := bthen K_1 hbR (by omega)
  have HC_2 := (hbR.block _ (by omega)).trans HC_1
  have R_2 := R_1.below hbR (by omega)
  have HL_2 := (hbR.block _ (by omega)).trans HL_1
  clear K_1 HC_1 R_1 HL_1
  clear hbR
  obtain ⟨HCc0, HCc1, _, _⟩ := cells2 HC_2
  obtain ⟨HLc0, HLc1, HLc2, _, _, _⟩ := cells3 HL_2
  go_wp2_with fail
  refine (toCable_any _ _ _ _ _ _ _ q s _ R_2 (by omega) (by omega) (by omega)).mono ?_
  rintro e w3 ⟨QX, cqX, SX, csX, mX, rfl, hqX, hsX, hmX, hMX, hb3⟩
  have s3 := hb3.size
  clear HCc0 HCc1 HLc0 HLc1 HLc2
  have K_3 := bthen K_2 hb3 (by omega)
  have HC_3 := (hb3.block _ (by omega)).trans HC_2
  have R_3 := R_2.below hb3 (by omega)
  have HL_3 := (hb3.block _ (by omega)).trans HL_2
  clear K_2 HC_2 R_2 HL_2
  clear hb3
  have hbB := (Below.refl w3.heap.size w3).alloc (Nat.le_refl _) (.cells #[.slice QX q.length cqX, .slice SX s.length csX] 26)
  have HX_4 := heap_alloc_new w3 (.cells #[.slice QX q.length cqX, .slice SX s.length csX] 26)
  have s4 : w3.heap.size < (w3.alloc (.cells #[.slice QX q.length cqX, .slice SX s.length csX] 26)).heap.size := by simp
  obtain ⟨HCc0, HCc1, _, _⟩ := cells2 HC_3
  obtain ⟨HLc0, HLc1, HLc2, _, _, _⟩ := cells3 HL_3
  clear HCc0 HCc1 HLc0 HLc1 HLc2
  obtain ⟨w4, hw4⟩ : ∃ z, z = w3.alloc (.cells #[.slice QX q.length cqX, .slice SX s.length csX] 26) := ⟨_, rfl⟩
  rw [← hw4] at hbB HX_4 s4
  have K_4 := bthen K_3 hbB (by omega)
  have HC_4 := (hbB.block _ (by omega)).trans HC_3
  have R_4 := R_3.below hbB (by omega)
  have HL_4 := (hbB.block _ (by omega)).trans HL_3
  have Xq_4 := hqX.below hbB (by omega)
  have Xs_4 := hsX.below hbB (by omega)
  clear K_3 HC_3 R_3 HL_3 hqX hsX
  clear hbB
  obtain ⟨HCc0, HCc1, _, _⟩ := cells2 HC_4
  obtain ⟨HLc0, HLc1, HLc2, _, _, _⟩ := cells3 HL_4
  obtain ⟨HXc0, HXc1, _, _⟩ := cells2 HX_4
  go_wp2_with fail
  rw [← hw4]
  clear hw4
  have hRX : RC w4 w3.heap.size QX q.length q SX s.length s := RC.mk ((Xq_4).ri.more (by omega)) (Xs_4).ri
  go_region_held3 (fun w' => w'.cell? ⟨w.heap.size, 0, none⟩ = some (.slice Q nq cq) ∧ w'.cell? ⟨w.heap.size, 1, none⟩ = some (.slice S ns cs) ∧ w'.cell? ⟨w.heap.size + 1, 0, none⟩ = some (.int .i64 l) ∧ w'.cell? ⟨w.heap.size + 1, 1, none⟩ = some (.int .i64 r) ∧ w'.cell? ⟨w.heap.size + 1, 2, none⟩ = some (.int .i64 d) ∧ w'.cell? ⟨w3.heap.size, 0, none⟩ = some (.slice QX q.length cqX) ∧ w'.cell? ⟨w3.heap.size, 1, none⟩ = some (.slice SX s.length csX) ∧ Below w4.heap.size w4 w')
    (first | exact ⟨HCc0, HCc1, HLc0, HLc1, HLc2, HXc0, HXc1, (Below.refl _ _).drew⟩ | exact keep7 ‹_› (by simp; omega) (by simp; omega) (by simp; omega) (by simp; omega) (by simp; omega) (by simp; omega) (by simp; omega) ‹_ ∧ _›)
    (first | (go_at_call 24; refine (toLink_any _ _ _ _).mono ?_; rintro e w5b ⟨rfl, hbb⟩) | (go_at_call 18; refine (linkWorks_i _ _ _ _ _ _ w3.heap.size q s l r d _ (hRX.drew.below hbb (by simp; omega)) (by have := hbb.size; simp at this; omega) (by omega) (by omega)).mono ?_; rintro e w5 ⟨rfl, hbc⟩))
  rename_i HH
  obtain ⟨_, _, _, _, _, _, _, hbR⟩ := HH
  have s5 := hbR.size
  clear HCc0 HCc1 HLc0 HLc1 HLc2 HXc0 HXc1 hbb hbc hRX
  have K_5 := bthen K_4 hbR (by omega)
  have HC_5 := (hbR.block _ (by omega)).trans HC_4
  have R_5 := R_4.below hbR (by omega)
  have HL_5 := (hbR.block _ (by omega)).trans HL_4
  have Xq_5 := Xq_4.below hbR (by omega)
  have Xs_5 := Xs_4.below hbR (by omega)
  have HX_5 := (hbR.block _ (by omega)).trans HX_4
  clear K_4 HC_4 R_4 HL_4 Xq_4 Xs_4 HX_4
  clear hbR
  obtain ⟨HCc0, HCc1, _, _⟩ := cells2 HC_5
  obtain ⟨HLc0, HLc1, HLc2, _, _, _⟩ := cells3 HL_5
  obtain ⟨HXc0, HXc1, _, _⟩ := cells2 HX_5
  go_wp2_with fail
  have hRX : RC w5 w3.heap.size QX q.length q SX s.length s := RC.mk ((Xq_5).ri.more (by omega)) (Xs_5).ri
  go_region_held3 (fun w' => w'.cell? ⟨w.heap.size, 0, none⟩ = some (.slice Q nq cq) ∧ w'.cell? ⟨w.heap.size, 1, none⟩ = some (.slice S ns cs) ∧ w'.cell? ⟨w.heap.size + 1, 0, none⟩ = some (.int .i64 l) ∧ w'.cell? ⟨w.heap.size + 1, 1, none⟩ = some (.int .i64 r) ∧ w'.cell? ⟨w.heap.size + 1, 2, none⟩ = some (.int .i64 d) ∧ w'.cell? ⟨w3.heap.size, 0, none⟩ = some (.slice QX q.length cqX) ∧ w'.cell? ⟨w3.heap.size, 1, none⟩ = some (.slice SX s.length csX) ∧ Below w5.heap.size w5 w')
    (first | exact ⟨HCc0, HCc1, HLc0, HLc1, HLc2, HXc0, HXc1, (Below.refl _ _).drew⟩ | exact keep7 ‹_› (by simp; omega) (by simp; omega) (by simp; omega) (by simp; omega) (by simp; omega) (by simp; omega) (by simp; omega) ‹_ ∧ _›)
    (first | (go_at_call 28; refine (toCable_any _ _ _ _ _ _ _ q s _ (R_5.drew) (by simp; omega) (by omega) (by omega)).mono ?_; rintro e w6a ⟨QY, cqY, SY, csY, mY, rfl, hqY, hsY, hmY, hMY, hba⟩) | (go_at_call 30; refine (eqCable_t _ _ _ _ _ _ _ _ _ _ _ _ w3.heap.size w6a.heap.size q s _ (hRX.drew.below hba (by simp; omega)) ⟨hqY.ri.more hMY, hsY.ri⟩ (by have := hba.size; simp at this; omega) (Nat.le_refl _) (by omega) (by omega)).mono ?_; rintro e w6 ⟨rfl, hbc⟩))
  rename_i HH
  obtain ⟨_, _, _, _, _, _, _, hbR⟩ := HH
  have s6 := hbR.size
  clear HCc0 HCc1 HLc0 HLc1 HLc2 HXc0 HXc1 hba hbc hRX hqY hsY
  have K_6 := bthen K_5 hbR (by omega)
  have HC_6 := (hbR.block _ (by omega)).trans HC_5
  have R_6 := R_5.below hbR (by omega)
  have HL_6 := (hbR.block _ (by omega)).trans HL_5
  have Xq_6 := Xq_5.below hbR (by omega)
  have Xs_6 := Xs_5.below hbR (by omega)
  have HX_6 := (hbR.block _ (by omega)).trans HX_5
  clear K_5 HC_5 R_5 HL_5 Xq_5 Xs_5 HX_5
  clear hbR
  go_wp2
  go_ret
  exact ⟨rfl, K_6⟩
set_option maxHeartbeats 2000000 in
set_option maxRecDepth 10000 in
theorem walk_fnExactLaneSkews (w : World) (Q : Option Addr) (nq cq : Nat) (q : List Int) (rq : RI w w.heap.size Q nq q) (_fq : WF q) (gq : nq ≤ cq) (iq : cq ≤ maxLen) (S : Option Addr) (ns cs : Nat) (s : List Int) (rs : RI w w.heap.size S ns s) (_fs : WF s) (gs : ns ≤ cs) (is : cs ≤ maxLen) (l : Int) (_hl : I64 l) (r : Int) (_hr : I64 r) (d : Int) (_hd : I64 d) :
    Calls Try.prog 10 #[.agg #[.slice Q nq cq, .slice S ns cs], .agg #[.int .i64 l, .int .i64 r, .int .i64 d]] w fun e w' => e = .returned (.bool true) ∧ Below w.heap.size w w' := by
  have h : RC w w.heap.size Q nq q S ns s := ⟨rq, rs⟩
  have LQ := Lib.hid rq.len
  have LS := Lib.hid rs.len
  have K0 := ((Below.refl w.heap.size w).alloc (Nat.le_refl _) (.cells #[.slice Q nq cq, .slice S ns cs] 43)).alloc (by simp) (.cells #[.int .i64 l, .int .i64 r, .int .i64 d] 37)
  have G1 := heap_alloc_new (w.alloc (.cells #[.slice Q nq cq, .slice S ns cs] 43)) (.cells #[.int .i64 l, .int .i64 r, .int .i64 d] 37)
  have G0 : ((w.alloc (.cells #[.slice Q nq cq, .slice S ns cs] 43)).alloc (.cells #[.int .i64 l, .int .i64 r, .int .i64 d] 37)).heap[w.heap.size]? = some (.cells #[.slice Q nq cq, .slice S ns cs] 43) := by rw [Below.heap_alloc _ _ _ (by simp), heap_alloc_new]
  simp only [World.size_alloc] at G1
  go_enter Try.func10, Try.ntmps10
  go_wp2_with fail
  refine (szCable_any Q S nq cq ns cs _ gq iq gs is).mono ?_
  rintro e w1 ⟨⟨x, rfl, hx⟩, hb1⟩
  have s1 := hb1.size
  simp only [World.size_alloc] at s1
  have K_1 := K0.trans (hb1.mono (by simp; omega))
  have HC_1 := (hb1.block _ (by simp; omega)).trans G0
  have HL_1 := (hb1.block _ (by simp)).trans G1
  clear K0 G0 hb1 G1
  by_cases hbig : 1048576 < nq + ns
  · have hneg : x < 0 := hx.2 hbig
    clear hx
    go_wp2
    go_ret
    exact ⟨rfl, K_1⟩
  have hneg : ¬ x < 0 := fun hn => hbig (hx.1 hn)
  have R_1 := h.below K_1 (Nat.le_refl _)
  have bq : q.length ≤ 1048576 := by have := LQ.out; omega
  have bs : s.length ≤ 1048576 := by have := LS.out; omega
  clear hx h rq rs
  obtain ⟨HCc0, HCc1, _, _⟩ := cells2 HC_1
  obtain ⟨HLc0, HLc1, HLc2, _, _, _⟩ := cells3 HL_1
  go_wp2_with fail
  go_region_held3 (fun w' => w'.cell? ⟨w.heap.size, 0, none⟩ = some (.slice Q nq cq) ∧ w'.cell? ⟨w.heap.size, 1, none⟩ = some (.slice S ns cs) ∧ w'.cell? ⟨w.heap.size + 1, 0, none⟩ = some (.int .i64 l) ∧ w'.cell? ⟨w.heap.size + 1, 1, none⟩ = some (.int .i64 r) ∧ w'.cell? ⟨w.heap.size + 1, 2, none⟩ = some (.int .i64 d) ∧ Below w1.heap.size w1 w')
    (first | exact ⟨HCc0, HCc1, HLc0, HLc1, HLc2, (Below.refl _ _).drew⟩ | exact keep5 ‹_› (by simp; omega) (by simp; omega) (by simp; omega) (by simp; omega) (by simp; omega) ‹_ ∧ _›)
    (first | (go_at_call 28; refine (toCable_any _ _ _ _ _ _ _ q s _ (R_1.drew) (by simp; omega) (by omega) (by omega)).mono ?_; rintro e w2a ⟨QT, cqT, ST, csT, mT, rfl, hqT, hsT, hmT, hMT, hba⟩) | (go_at_call 24; refine (toLink_any _ _ _ _).mono ?_; rintro e w2b ⟨rfl, hbb⟩) | (go_at_call 37; refine (laneSkews_s _ _ _ _ _ _ w2a.heap.size q s l r d _ (RC.below ⟨hqT.ri.more hMT, hsT.ri⟩ hbb (Nat.le_refl _)) hbb.size (by omega) (by omega) hsT.cap).mono ?_; rintro e w2 ⟨AW, nW, cW, rfl, hoW, hbc⟩))
  rename_i HH
  obtain ⟨_, _, _, _, _, hbR⟩ := HH
  have s2 := hbR.size
  have ssa := hba.size
  have ssb := hbb.size
  have ssc := hbc.size
  have hoW' := hoW.mono (lo' := w1.heap.size) (hi' := w2.heap.size) (by simp at ssa; omega) (Nat.le_refl _)
  clear hoW ssa ssb ssc
  clear HCc0 HCc1 HLc0 HLc1 HLc2 hba hbb hbc hqT hsT
  have K_2 := bthen K_1 hbR (by omega)
  have HC_2 := (hbR.block _ (by omega)).trans HC_1
  have R_2 := R_1.below hbR (by omega)
  have HL_2 := (hbR.block _ (by omega)).trans HL_1
  clear K_1 HC_1 R_1 HL_1
  clear hbR
  have hmW : nW ≤ 4294967296 := by have := (hoW').len; have h2 : (skewsF q s l r d).length ≤ s.length := skewsF_len q s l r d; omega
  obtain ⟨HCc0, HCc1, _, _⟩ := cells2 HC_2
  obtain ⟨HLc0, HLc1, HLc2, _, _, _⟩ := cells3 HL_2
  go_wp2_with fail
  refine (toCable_any _ _ _ _ _ _ _ q s _ R_2 (by omega) (by omega) (by omega)).mono ?_
  rintro e w3 ⟨QX, cqX, SX, csX, mX, rfl, hqX, hsX, hmX, hMX, hb3⟩
  have s3 := hb3.size
  clear HCc0 HCc1 HLc0 HLc1 HLc2
  have K_3 := bthen K_2 hb3 (by omega)
  have HC_3 := (hb3.block _ (by omega)).trans HC_2
  have R_3 := R_2.below hb3 (by omega)
  have HL_3 := (hb3.block _ (by omega)).trans HL_2
  have OW_3 := hoW'.below hb3 (by omega)
  clear K_2 HC_2 R_2 HL_2 hoW'
  clear hb3
  have hbB := (Below.refl w3.heap.size w3).alloc (Nat.le_refl _) (.cells #[.slice QX q.length cqX, .slice SX s.length csX] 26)
  have HX_4 := heap_alloc_new w3 (.cells #[.slice QX q.length cqX, .slice SX s.length csX] 26)
  have s4 : w3.heap.size < (w3.alloc (.cells #[.slice QX q.length cqX, .slice SX s.length csX] 26)).heap.size := by simp
  obtain ⟨HCc0, HCc1, _, _⟩ := cells2 HC_3
  obtain ⟨HLc0, HLc1, HLc2, _, _, _⟩ := cells3 HL_3
  clear HCc0 HCc1 HLc0 HLc1 HLc2
  obtain ⟨w4, hw4⟩ : ∃ z, z = w3.alloc (.cells #[.slice QX q.length cqX, .slice SX s.length csX] 26) := ⟨_, rfl⟩
  rw [← hw4] at hbB HX_4 s4
  have K_4 := bthen K_3 hbB (by omega)
  have HC_4 := (hbB.block _ (by omega)).trans HC_3
  have R_4 := R_3.below hbB (by omega)
  have HL_4 := (hbB.block _ (by omega)).trans HL_3
  have OW_4 := OW_3.below hbB (by omega)
  have Xq_4 := hqX.below hbB (by omega)
  have Xs_4 := hsX.below hbB (by omega)
  clear K_3 HC_3 R_3 HL_3 OW_3 hqX hsX
  clear hbB
  obtain ⟨HCc0, HCc1, _, _⟩ := cells2 HC_4
  obtain ⟨HLc0, HLc1, HLc2, _, _, _⟩ := cells3 HL_4
  obtain ⟨HXc0, HXc1, _, _⟩ := cells2 HX_4
  go_wp2_with fail
  rw [← hw4]
  clear hw4
  have hRX : RC w4 w3.heap.size QX q.length q SX s.length s := RC.mk ((Xq_4).ri.more (by omega)) (Xs_4).ri
  go_region_held3 (fun w' => w'.cell? ⟨w.heap.size, 0, none⟩ = some (.slice Q nq cq) ∧ w'.cell? ⟨w.heap.size, 1, none⟩ = some (.slice S ns cs) ∧ w'.cell? ⟨w.heap.size + 1, 0, none⟩ = some (.int .i64 l) ∧ w'.cell? ⟨w.heap.size + 1, 1, none⟩ = some (.int .i64 r) ∧ w'.cell? ⟨w.heap.size + 1, 2, none⟩ = some (.int .i64 d) ∧ w'.cell? ⟨w3.heap.size, 0, none⟩ = some (.slice QX q.length cqX) ∧ w'.cell? ⟨w3.heap.size, 1, none⟩ = some (.slice SX s.length csX) ∧ Below w4.heap.size w4 w')
    (first | exact ⟨HCc0, HCc1, HLc0, HLc1, HLc2, HXc0, HXc1, (Below.refl _ _).drew⟩ | exact keep7 ‹_› (by simp; omega) (by simp; omega) (by simp; omega) (by simp; omega) (by simp; omega) (by simp; omega) (by simp; omega) ‹_ ∧ _›)
    (first | (go_at_call 24; refine (toLink_any _ _ _ _).mono ?_; rintro e w5b ⟨rfl, hbb⟩) | (go_at_call 21; refine (laneSkews_i _ _ _ _ _ _ w3.heap.size q s l r d _ (hRX.drew.below hbb (by simp; omega)) (by have := hbb.size; simp at this; omega) (by omega) (by omega) (Xs_4).cap).mono ?_; rintro e w5 ⟨AG, nG, cG, rfl, hoG, hbc⟩))
  rename_i HH
  obtain ⟨_, _, _, _, _, _, _, hbR⟩ := HH
  have s5 := hbR.size
  have ssb := hbb.size
  have ssc := hbc.size
  have hoG' := hoG.mono (lo' := w4.heap.size) (hi' := w5.heap.size) (by simp at ssb; omega) (Nat.le_refl _)
  clear hoG ssb ssc
  clear HCc0 HCc1 HLc0 HLc1 HLc2 HXc0 HXc1 hbb hbc hRX
  have K_5 := bthen K_4 hbR (by omega)
  have HC_5 := (hbR.block _ (by omega)).trans HC_4
  have R_5 := R_4.below hbR (by omega)
  have HL_5 := (hbR.block _ (by omega)).trans HL_4
  have OW_5 := OW_4.below hbR (by omega)
  have Xq_5 := Xq_4.below hbR (by omega)
  have Xs_5 := Xs_4.below hbR (by omega)
  have HX_5 := (hbR.block _ (by omega)).trans HX_4
  clear K_4 HC_4 R_4 HL_4 OW_4 Xq_4 Xs_4 HX_4
  clear hbR
  have hmG : nG ≤ 4294967296 := by have := (hoG').len; have h2 : (skewsF q s l r d).length ≤ s.length := skewsF_len q s l r d; omega
  go_wp2_with fail
  refine (eqIntS_t AG AW nG nW cG cW _ _ _ _ (hoG').ri (OW_5).ri hmG).mono ?_
  rintro e w6 ⟨rfl, hb6⟩
  have s6 := hb6.size
  have K_6 := bthen K_5 hb6 (by omega)
  have HC_6 := (hb6.block _ (by omega)).trans HC_5
  have R_6 := R_5.below hb6 (by omega)
  have HL_6 := (hb6.block _ (by omega)).trans HL_5
  have OW_6 := OW_5.below hb6 (by omega)
  have Xq_6 := Xq_5.below hb6 (by omega)
  have Xs_6 := Xs_5.below hb6 (by omega)
  have HX_6 := (hb6.block _ (by omega)).trans HX_5
  have OG_6 := hoG'.below hb6 (by omega)
  clear K_5 HC_5 R_5 HL_5 OW_5 Xq_5 Xs_5 HX_5 hoG'
  clear hb6
  obtain ⟨HCc0, HCc1, _, _⟩ := cells2 HC_6
  obtain ⟨HLc0, HLc1, HLc2, _, _, _⟩ := cells3 HL_6
  obtain ⟨HXc0, HXc1, _, _⟩ := cells2 HX_6
  go_wp2_with fail
  have hRX : RC w6 w3.heap.size QX q.length q SX s.length s := RC.mk ((Xq_6).ri.more (by omega)) (Xs_6).ri
  go_region_held3 (fun w' => w'.cell? ⟨w.heap.size, 0, none⟩ = some (.slice Q nq cq) ∧ w'.cell? ⟨w.heap.size, 1, none⟩ = some (.slice S ns cs) ∧ w'.cell? ⟨w.heap.size + 1, 0, none⟩ = some (.int .i64 l) ∧ w'.cell? ⟨w.heap.size + 1, 1, none⟩ = some (.int .i64 r) ∧ w'.cell? ⟨w.heap.size + 1, 2, none⟩ = some (.int .i64 d) ∧ w'.cell? ⟨w3.heap.size, 0, none⟩ = some (.slice QX q.length cqX) ∧ w'.cell? ⟨w3.heap.size, 1, none⟩ = some (.slice SX s.length csX) ∧ Below w6.heap.size w6 w')
    (first | exact ⟨HCc0, HCc1, HLc0, HLc1, HLc2, HXc0, HXc1, (Below.refl _ _).drew⟩ | exact keep7 ‹_› (by simp; omega) (by simp; omega) (by simp; omega) (by simp; omega) (by simp; omega) (by simp; omega) (by simp; omega) ‹_ ∧ _›)
    (first | (go_at_call 28; refine (toCable_any _ _ _ _ _ _ _ q s _ (R_6.drew) (by simp; omega) (by omega) (by omega)).mono ?_; rintro e w7a ⟨QY, cqY, SY, csY, mY, rfl, hqY, hsY, hmY, hMY, hba⟩) | (go_at_call 30; refine (eqCable_t _ _ _ _ _ _ _ _ _ _ _ _ w3.heap.size w7a.heap.size q s _ (hRX.drew.below hba (by simp; omega)) ⟨hqY.ri.more hMY, hsY.ri⟩ (by have := hba.size; simp at this; omega) (Nat.le_refl _) (by omega) (by omega)).mono ?_; rintro e w7 ⟨rfl, hbc⟩))
  rename_i HH
  obtain ⟨_, _, _, _, _, _, _, hbR⟩ := HH
  have s7 := hbR.size
  clear HCc0 HCc1 HLc0 HLc1 HLc2 HXc0 HXc1 hba hbc hRX hqY hsY
  have K_7 := bthen K_6 hbR (by omega)
  have HC_7 := (hbR.block _ (by omega)).trans HC_6
  have R_7 := R_6.below hbR (by omega)
  have HL_7 := (hbR.block _ (by omega)).trans HL_6
  have OW_7 := OW_6.below hbR (by omega)
  have Xq_7 := Xq_6.below hbR (by omega)
  have Xs_7 := Xs_6.below hbR (by omega)
  have HX_7 := (hbR.block _ (by omega)).trans HX_6
  have OG_7 := OG_6.below hbR (by omega)
  clear K_6 HC_6 R_6 HL_6 OW_6 Xq_6 Xs_6 HX_6 OG_6
  clear hbR
  obtain ⟨HCc0, HCc1, _, _⟩ := cells2 HC_7
  obtain ⟨HLc0, HLc1, HLc2, _, _, _⟩ := cells3 HL_7
  obtain ⟨HXc0, HXc1, _, _⟩ := cells2 HX_7
  go_wp2_with fail
  refine (markCable_any _ _ _ _ (w2.heap.size) (mX) (w3.heap.size) q s _ Xq_7 Xs_7 (by omega) (by omega) (by omega) (by omega) (by omega)).mono ?_
  rintro e w8 ⟨⟨y, rfl, hy⟩, hf8⟩
  have s8 := hf8.size
  obtain ⟨y, rfl⟩ := Int.eq_ofNat_of_zero_le hy
  clear hy
  clear HCc0 HCc1 HLc0 HLc1 HLc2 HXc0 HXc1 Xq_7 Xs_7 HX_7
  have K_8 := K_7.trans (hf8.below (B := w.heap.size) (by omega) (by omega))
  have HC_8 := (hf8.block _ (by omega) (by omega)).trans HC_7
  have R_8 := R_7.below (hf8.below (B := w.heap.size) (by omega) (by omega)) (Nat.le_refl _)
  have HL_8 := (hf8.block _ (by omega) (by omega)).trans HL_7
  have OW_8 := OW_7.off hf8 (by omega)
  have OG_8 := OG_7.off hf8 (by omega)
  clear K_7 HC_7 R_7 HL_7 OW_7 OG_7
  clear hf8
  go_wp2_with fail
  refine (eqIntS_t AG AW nG nW cG cW _ _ _ _ (OG_8).ri (OW_8).ri hmG).mono ?_
  rintro e w9 ⟨rfl, hb9⟩
  have s9 := hb9.size
  have K_9 := bthen K_8 hb9 (by omega)
  have HC_9 := (hb9.block _ (by omega)).trans HC_8
  have R_9 := R_8.below hb9 (by omega)
  have HL_9 := (hb9.block _ (by omega)).trans HL_8
  have OW_9 := OW_8.below hb9 (by omega)
  have OG_9 := OG_8.below hb9 (by omega)
  clear K_8 HC_8 R_8 HL_8 OW_8 OG_8
  clear hb9
  go_wp2_with fail
  refine (markIntS_any AG nG cG (w4.heap.size) (w5.heap.size) 1 _ _ OG_9 hmG (by omega) (by omega)).mono ?_
  rintro e w10 ⟨rfl, omG, hf10⟩
  have s10 := hf10.size
  clear OG_9
  have K_10 := K_9.trans (hf10.below (B := w.heap.size) (by omega) (by omega))
  have HC_10 := (hf10.block _ (by omega) (by omega)).trans HC_9
  have R_10 := R_9.below (hf10.below (B := w.heap.size) (by omega) (by omega)) (Nat.le_refl _)
  have HL_10 := (hf10.block _ (by omega) (by omega)).trans HL_9
  have OW_10 := OW_9.off hf10 (by omega)
  clear K_9 HC_9 R_9 HL_9 OW_9
  clear hf10
  go_wp2_with fail
  refine (heldIntS_t AG nG cG _ 1 _ (omG).ri hmG (by omega) (by omega)).mono ?_
  rintro e w11 ⟨rfl, hb11⟩
  have s11 := hb11.size
  have K_11 := bthen K_10 hb11 (by omega)
  have HC_11 := (hb11.block _ (by omega)).trans HC_10
  have R_11 := R_10.below hb11 (by omega)
  have HL_11 := (hb11.block _ (by omega)).trans HL_10
  have OW_11 := OW_10.below hb11 (by omega)
  have OG_11 := omG.below hb11 (by omega)
  clear K_10 HC_10 R_10 HL_10 OW_10 omG
  clear hb11
  obtain ⟨HCc0, HCc1, _, _⟩ := cells2 HC_11
  obtain ⟨HLc0, HLc1, HLc2, _, _, _⟩ := cells3 HL_11
  go_wp2_with fail
  go_region_held3 (fun w' => w'.cell? ⟨w.heap.size, 0, none⟩ = some (.slice Q nq cq) ∧ w'.cell? ⟨w.heap.size, 1, none⟩ = some (.slice S ns cs) ∧ w'.cell? ⟨w.heap.size + 1, 0, none⟩ = some (.int .i64 l) ∧ w'.cell? ⟨w.heap.size + 1, 1, none⟩ = some (.int .i64 r) ∧ w'.cell? ⟨w.heap.size + 1, 2, none⟩ = some (.int .i64 d) ∧ Below w11.heap.size w11 w')
    (first | exact ⟨HCc0, HCc1, HLc0, HLc1, HLc2, (Below.refl _ _).drew⟩ | exact keep5 ‹_› (by simp; omega) (by simp; omega) (by simp; omega) (by simp; omega) (by simp; omega) ‹_ ∧ _›)
    (first | (go_at_call 28; refine (toCable_any _ _ _ _ _ _ _ q s _ (R_11.drew) (by simp; omega) (by omega) (by omega)).mono ?_; rintro e w12a ⟨QZ, cqZ, SZ, csZ, mZ, rfl, hqZ, hsZ, hmZ, hMZ, hba⟩) | (go_at_call 24; refine (toLink_any _ _ _ _).mono ?_; rintro e w12b ⟨rfl, hbb⟩) | (go_at_call 21; refine (laneSkews_i _ _ _ _ _ _ w12a.heap.size q s l r d _ (RC.below ⟨hqZ.ri.more hMZ, hsZ.ri⟩ hbb (Nat.le_refl _)) hbb.size (by omega) (by omega) hsZ.cap).mono ?_; rintro e w12 ⟨AH, nH, cH, rfl, hoH, hbc⟩))
  rename_i HH
  obtain ⟨_, _, _, _, _, hbR⟩ := HH
  have s12 := hbR.size
  have ssa := hba.size
  have ssb := hbb.size
  have ssc := hbc.size
  have hoH' := hoH.mono (lo' := w11.heap.size) (hi' := w12.heap.size) (by simp at ssa; omega) (Nat.le_refl _)
  clear hoH ssa ssb ssc
  clear HCc0 HCc1 HLc0 HLc1 HLc2 hba hbb hbc hqZ hsZ
  have K_12 := bthen K_11 hbR (by omega)
  have HC_12 := (hbR.block _ (by omega)).trans HC_11
  have R_12 := R_11.below hbR (by omega)
  have HL_12 := (hbR.block _ (by omega)).trans HL_11
  have OW_12 := OW_11.below hbR (by omega)
  have OG_12 := OG_11.below hbR (by omega)
  clear K_11 HC_11 R_11 HL_11 OW_11 OG_11
  clear hbR
  have hmH : nH ≤ 4294967296 := by have := (hoH').len; have h2 : (skewsF q s l r d).length ≤ s.length := skewsF_len q s l r d; omega
  go_wp2_with fail
  refine (eqIntS_t AH AW nH nW cH cW _ _ _ _ (hoH').ri (OW_12).ri hmH).mono ?_
  rintro e w13 ⟨rfl, hb13⟩
  have s13 := hb13.size
  have K_13 := bthen K_12 hb13 (by omega)
  have HC_13 := (hb13.block _ (by omega)).trans HC_12
  have R_13 := R_12.below hb13 (by omega)
  have HL_13 := (hb13.block _ (by omega)).trans HL_12
  have OW_13 := OW_12.below hb13 (by omega)
  have OG_13 := OG_12.below hb13 (by omega)
  have OH_13 := hoH'.below hb13 (by omega)
  clear K_12 HC_12 R_12 HL_12 OW_12 OG_12 hoH'
  clear hb13
  go_wp2_with fail
  refine (heldIntS_t AG nG cG _ 1 _ (OG_13).ri hmG (by omega) (by omega)).mono ?_
  rintro e w14 ⟨rfl, hb14⟩
  have s14 := hb14.size
  have K_14 := bthen K_13 hb14 (by omega)
  have HC_14 := (hb14.block _ (by omega)).trans HC_13
  have R_14 := R_13.below hb14 (by omega)
  have HL_14 := (hb14.block _ (by omega)).trans HL_13
  have OW_14 := OW_13.below hb14 (by omega)
  have OG_14 := OG_13.below hb14 (by omega)
  have OH_14 := OH_13.below hb14 (by omega)
  clear K_13 HC_13 R_13 HL_13 OW_13 OG_13 OH_13
  clear hb14
  go_wp2
  go_ret
  exact ⟨rfl, K_14⟩
end Go.Proofs.Ytmibajhilbfecaa
