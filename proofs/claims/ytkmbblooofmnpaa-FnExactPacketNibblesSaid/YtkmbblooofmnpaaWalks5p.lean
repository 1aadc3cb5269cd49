/- The walk of FnExactPacketNibbles. Made by wip/tools/pkt.py. -/
import Derived.Test.YtkmbblooofmnpaaPkt3
import Derived.Deep.RegionHeld3
namespace Go.Proofs.Ytkmbblooofmnpaa
open Go.RowKit Go.Deep
theorem pkF_len (k f l : Int) (ds : List Int) : (pkF k f l ds).length ≤ 7 + 5 * ds.length := by unfold pkF; split <;> simp [pkBody_len]; omega
theorem keep8 {W w' w1 : World} {p0 p1 p2 p3 p4 p5 p6 p7 : Addr} {v0 v1 v2 v3 v4 v5 v6 v7 : Value} (hb : Below w'.heap.size w' w1) (b0 : p0.block < W.heap.size) (b1 : p1.block < W.heap.size) (b2 : p2.block < W.heap.size) (b3 : p3.block < W.heap.size) (b4 : p4.block < W.heap.size) (b5 : p5.block < W.heap.size) (b6 : p6.block < W.heap.size) (b7 : p7.block < W.heap.size) (h : w'.cell? p0 = some v0 ∧ w'.cell? p1 = some v1 ∧ w'.cell? p2 = some v2 ∧ w'.cell? p3 = some v3 ∧ w'.cell? p4 = some v4 ∧ w'.cell? p5 = some v5 ∧ w'.cell? p6 = some v6 ∧ w'.cell? p7 = some v7 ∧ Below W.heap.size W w') : w1.cell? p0 = some v0 ∧ w1.cell? p1 = some v1 ∧ w1.cell? p2 = some v2 ∧ w1.cell? p3 = some v3 ∧ w1.cell? p4 = some v4 ∧ w1.cell? p5 = some v5 ∧ w1.cell? p6 = some v6 ∧ w1.cell? p7 = some v7 ∧ Below W.heap.size W w1 := by
  obtain ⟨h0, h1, h2, h3, h4, h5, h6, h7, k⟩ := h
  have hs := k.size
  exact ⟨(hb.cell (by omega)).trans h0, (hb.cell (by omega)).trans h1, (hb.cell (by omega)).trans h2, (hb.cell (by omega)).trans h3, (hb.cell (by omega)).trans h4, (hb.cell (by omega)).trans h5, (hb.cell (by omega)).trans h6, (hb.cell (by omega)).trans h7, k.trans (hb.mono hs)⟩
set_option maxHeartbeats 2000000 in
set_option maxRecDepth 10000 in
theorem walk_fnExactPacketNibbles (w : World) (k : Int) (_hk : I64 k) (f : Int) (_hf : I64 f) (l : Int) (_hl : I64 l) (D : Option Addr) (nd cd : Nat) (ds : List Int) (r0 : RI w w.heap.size D nd ds) (_f : WF ds) (gq : nd ≤ cd) (iq : cd ≤ maxLen) :
    Calls Try.prog 6 #[.agg #[.int .i64 k, .int .i64 f, .int .i64 l, .slice D nd cd]] w fun e w' => e = .returned (.bool true) ∧ Below w.heap.size w w' := by
  have LD := Lib.hid r0.len
  have K0 := (Below.refl w.heap.size w).alloc (Nat.le_refl _) (.cells #[.int .i64 k, .int .i64 f, .int .i64 l, .slice D nd cd] 45)
  have G0 := heap_alloc_new w (.cells #[.int .i64 k, .int .i64 f, .int .i64 l, .slice D nd cd] 45)
  go_enter Try.func6, Try.ntmps6
  go_wp2_with fail
  refine (szLinePacket_any k f l D nd cd _ gq iq).mono ?_
  rintro e w1 ⟨⟨x, rfl, hx⟩, hb1⟩
  have s1 := hb1.size
  simp only [World.size_alloc] at s1
  have K_1 := K0.trans (hb1.mono (by simp))
  have HP_1 := (hb1.block _ (by simp)).trans G0
  clear K0 G0 hb1
  by_cases hbig : 1048576 < nd
  · have hneg : x < 0 := hx.2 hbig
    clear hx
    go_wp2
    go_ret
    exact ⟨rfl, K_1⟩
  have hneg : ¬ x < 0 := fun hn => hbig (hx.1 hn)
  have R_1 := r0.below K_1 (Nat.le_refl _)
  have bd : ds.length ≤ 1048576 := by have := LD.out; omega
  clear hx r0
  obtain ⟨HPc0, HPc1, HPc2, HPc3, _, _, _, _⟩ := cells4 HP_1
  go_wp2_with fail
  refine (toLinePacket_any k f l D nd cd _ ds _ R_1 (by omega) (by omega)).mono ?_
  rintro e w2 ⟨DT, cT, rfl, hoT, hb2⟩
  have s2 := hb2.size
  clear HPc0 HPc1 HPc2 HPc3
  have K_2 := bthen K_1 hb2 (by omega)
  have HP_2 := (hb2.block _ (by omega)).trans HP_1
  have R_2 := R_1.below hb2 (by omega)
  clear K_1 HP_1 R_1
  clear hb2
  obtain ⟨HPc0, HPc1, HPc2, HPc3, _, _, _, _⟩ := cells4 HP_2
  go_wp2_with fail
  refine (packetNibbles_s k f l DT ds.length cT (w2.heap.size) ds _ (hoT).ri (by omega) (by omega)).mono ?_
  rintro e w3 ⟨AW, nW, cW, rfl, hoW, hb3⟩
  have s3 := hb3.size
  clear HPc0 HPc1 HPc2 HPc3
  clear hoT
  have K_3 := bthen K_2 hb3 (by omega)
  have HP_3 := (hb3.block _ (by omega)).trans HP_2
  have R_3 := R_2.below hb3 (by omega)
  clear K_2 HP_2 R_2
  clear hb3
  have hmW : nW ≤ 4294967296 := by have := (hoW).len; have h2 := pkF_len k f l ds; omega
  obtain ⟨HPc0, HPc1, HPc2, HPc3, _, _, _, _⟩ := cells4 HP_3
  go_wp2_with fail
  refine (toLinePacket_any k f l D nd cd _ ds _ R_3 (by omega) (by omega)).mono ?_
  rintro e w4 ⟨DX, cX, rfl, hoX, hb4⟩
  have s4 := hb4.size
  clear HPc0 HPc1 HPc2 HPc3
  have K_4 := bthen K_3 hb4 (by omega)
  have HP_4 := (hb4.block _ (by omega)).trans HP_3
  have R_4 := R_3.below hb4 (by omega)
  have OW_4 := hoW.below hb4 (by omega)
  clear K_3 HP_3 R_3 hoW
  clear hb4
  have hbB := (Below.refl w4.heap.size w4).alloc (Nat.le_refl _) (.cells #[.int .i64 k, .int .i64 f, .int .i64 l, .slice DX ds.length cX] 26)
  have HX_5 := heap_alloc_new w4 (.cells #[.int .i64 k, .int .i64 f, .int .i64 l, .slice DX ds.length cX] 26)
  have s5 : w4.heap.size < (w4.alloc (.cells #[.int .i64 k, .int .i64 f, .int .i64 l, .slice DX ds.length cX] 26)).heap.size := by simp
  obtain ⟨HPc0, HPc1, HPc2, HPc3, _, _, _, _⟩ := cells4 HP_4
  clear HPc0 HPc1 HPc2 HPc3
  obtain ⟨w5, hw5⟩ : ∃ z, z = w4.alloc (.cells #[.int .i64 k, .int .i64 f, .int .i64 l, .slice DX ds.length cX] 26) := ⟨_, rfl⟩
  rw [← hw5] at hbB HX_5 s5
  have K_5 := bthen K_4 hbB (by omega)
  have HP_5 := (hbB.block _ (by omega)).trans HP_4
  have R_5 := R_4.below hbB (by omega)
  have OW_5 := OW_4.below hbB (by omega)
  have OX_5 := hoX.below hbB (by omega)
  clear K_4 HP_4 R_4 OW_4 hoX
  clear hbB
  obtain ⟨HPc0, HPc1, HPc2, HPc3, _, _, _, _⟩ := cells4 HP_5
  obtain ⟨HXc0, HXc1, HXc2, HXc3, _, _, _, _⟩ := cells4 HX_5
  go_wp2_with fail
  rw [← hw5]
  clear hw5
  refine (packetNibbles_i k f l DX ds.length cX (w4.heap.size) ds _ (OX_5).ri (by omega) (by omega)).mono ?_
  rintro e w6 ⟨AG, nG, cG, rfl, hoG, hb6⟩
  have s6 := hb6.size
  clear HPc0 HPc1 HPc2 HPc3 HXc0 HXc1 HXc2 HXc3
  have K_6 := bthen K_5 hb6 (by omega)
  have HP_6 := (hb6.block _ (by omega)).trans HP_5
  have R_6 := R_5.below hb6 (by omega)
  have OW_6 := OW_5.below hb6 (by omega)
  have OX_6 := OX_5.below hb6 (by omega)
  have HX_6 := (hb6.block _ (by omega)).trans HX_5
  clear K_5 HP_5 R_5 OW_5 OX_5 HX_5
  clear hb6
  have hmG : nG ≤ 4294967296 := by have := (hoG).len; have h2 := pkF_len k f l ds; omega
  go_wp2_with fail
  refine (eqIntS_t AG AW nG nW cG cW _ _ _ _ (hoG).ri (OW_6).ri hmG).mono ?_
  rintro e w7 ⟨rfl, hb7⟩
  have s7 := hb7.size
  have K_7 := bthen K_6 hb7 (by omega)
  have HP_7 := (hb7.block _ (by omega)).trans HP_6
  have R_7 := R_6.below hb7 (by omega)
  have OW_7 := OW_6.below hb7 (by omega)
  have OX_7 := OX_6.below hb7 (by omega)
  have HX_7 := (hb7.block _ (by omega)).trans HX_6
  have OG_7 := hoG.below hb7 (by omega)
  clear K_6 HP_6 R_6 OW_6 OX_6 HX_6 hoG
  clear hb7
  obtain ⟨HPc0, HPc1, HPc2, HPc3, _, _, _, _⟩ := cells4 HP_7
  obtain ⟨HXc0, HXc1, HXc2, HXc3, _, _, _, _⟩ := cells4 HX_7
  go_wp2_with fail
  have hRX : RI w7 (w4.heap.size) DX ds.length ds := (OX_7).ri
  go_region_held3 (fun w' => w'.cell? ⟨w.heap.size, 0, none⟩ = some (.int .i64 k) ∧ w'.cell? ⟨w.heap.size, 1, none⟩ = some (.int .i64 f) ∧ w'.cell? ⟨w.heap.size, 2, none⟩ = some (.int .i64 l) ∧ w'.cell? ⟨w.heap.size, 3, none⟩ = some (.slice D nd cd) ∧ w'.cell? ⟨w4.heap.size, 0, none⟩ = some (.int .i64 k) ∧ w'.cell? ⟨w4.heap.size, 1, none⟩ = some (.int .i64 f) ∧ w'.cell? ⟨w4.heap.size, 2, none⟩ = some (.int .i64 l) ∧ w'.cell? ⟨w4.heap.size, 3, none⟩ = some (.slice DX ds.length cX) ∧ Below w7.heap.size w7 w')
    (first | exact ⟨HPc0, HPc1, HPc2, HPc3, HXc0, HXc1, HXc2, HXc3, (Below.refl _ _).drew⟩ | exact keep8 ‹_› (by simp; omega) (by simp; omega) (by simp; omega) (by simp; omega) (by simp; omega) (by simp; omega) (by simp; omega) (by simp; omega) ‹_ ∧ _›)
    (first | (go_at_call 34; refine (toLinePacket_any k f l D nd cd _ ds _ (RV.drewN R_7 1) (by simp; omega) (by omega)).mono ?_; rintro e w8a ⟨DY, cY, rfl, hoY, hba⟩) | (go_at_call 35; refine (eqLinePacket_t k f l DX DY ds.length cX ds.length cY (w4.heap.size) w8a.heap.size ds _ (RI.below (RV.drewN hRX 1) hba (by simp; omega)) hoY.ri (by have := hba.size; simp at this; omega) (Nat.le_refl _) (by omega)).mono ?_; rintro e w8 ⟨rfl, hbc⟩))
  rename_i HH
  obtain ⟨_, _, _, _, _, _, _, _, hbR⟩ := HH
  have s8 := hbR.size
  clear HPc0 HPc1 HPc2 HPc3 HXc0 HXc1 HXc2 HXc3 hba hbc hRX hoY
  have K_8 := bthen K_7 hbR (by omega)
  have HP_8 := (hbR.block _ (by omega)).trans HP_7
  have R_8 := R_7.below hbR (by omega)
  have OW_8 := OW_7.below hbR (by omega)
  have OX_8 := OX_7.below hbR (by omega)
  have HX_8 := (hbR.block _ (by omega)).trans HX_7
  have OG_8 := OG_7.below hbR (by omega)
  clear K_7 HP_7 R_7 OW_7 OX_7 HX_7 OG_7
  clear hbR
  obtain ⟨HPc0, HPc1, HPc2, HPc3, _, _, _, _⟩ := cells4 HP_8
  obtain ⟨HXc0, HXc1, HXc2, HXc3, _, _, _, _⟩ := cells4 HX_8
  go_wp2_with fail
  refine (markLinePacket_any k f l _ _ (w3.heap.size) (w4.heap.size) ds _ OX_8 (by omega) (by omega)).mono ?_
  rintro e w9 ⟨rfl, omX, hf9⟩
  have s9 := hf9.size
  clear HPc0 HPc1 HPc2 HPc3 HXc0 HXc1 HXc2 HXc3 OX_8 HX_8 omX
  have K_9 := K_8.trans (hf9.below (B := w.heap.size) (by omega) (by omega))
  have HP_9 := (hf9.block _ (by omega) (by omega)).trans HP_8
  have R_9 := R_8.below (hf9.below (B := w.heap.size) (by omega) (by omega)) (Nat.le_refl _)
  have OW_9 := OW_8.off hf9 (by omega)
  have OG_9 := OG_8.off hf9 (by omega)
  clear K_8 HP_8 R_8 OW_8 OG_8
  clear hf9
  go_wp2_with fail
  refine (eqIntS_t AG AW nG nW cG cW _ _ _ _ (OG_9).ri (OW_9).ri hmG).mono ?_
  rintro e w10 ⟨rfl, hb10⟩
  have s10 := hb10.size
  have K_10 := bthen K_9 hb10 (by omega)
  have HP_10 := (hb10.block _ (by omega)).trans HP_9
  have R_10 := R_9.below hb10 (by omega)
  have OW_10 := OW_9.below hb10 (by omega)
  have OG_10 := OG_9.below hb10 (by omega)
  clear K_9 HP_9 R_9 OW_9 OG_9
  clear hb10
  go_wp2_with fail
  refine (markIntS_any AG nG cG (w5.heap.size) (w6.heap.size) 1 _ _ OG_10 hmG (by omega) (by omega)).mono ?_
  rintro e w11 ⟨rfl, omG, hf11⟩
  have s11 := hf11.size
  clear OG_10
  have K_11 := K_10.trans (hf11.below (B := w.heap.size) (by omega) (by omega))
  have HP_11 := (hf11.block _ (by omega) (by omega)).trans HP_10
  have R_11 := R_10.below (hf11.below (B := w.heap.size) (by omega) (by omega)) (Nat.le_refl _)
  have OW_11 := OW_10.off hf11 (by omega)
  clear K_10 HP_10 R_10 OW_10
  clear hf11
  go_wp2_with fail
  refine (heldIntS_t AG nG cG _ 1 _ (omG).ri hmG (by omega) (by omega)).mono ?_
  rintro e w12 ⟨rfl, hb12⟩
  have s12 := hb12.size
  have K_12 := bthen K_11 hb12 (by omega)
  have HP_12 := (hb12.block _ (by omega)).trans HP_11
  have R_12 := R_11.below hb12 (by omega)
  have OW_12 := OW_11.below hb12 (by omega)
  have OG_12 := omG.below hb12 (by omega)
  clear K_11 HP_11 R_11 OW_11 omG
  clear hb12
  obtain ⟨HPc0, HPc1, HPc2, HPc3, _, _, _, _⟩ := cells4 HP_12
  go_wp2_with fail
  refine (toLinePacket_any k f l D nd cd _ ds _ R_12 (by omega) (by omega)).mono ?_
  rintro e w13 ⟨DZ, cZ, rfl, hoZ, hb13⟩
  have s13 := hb13.size
  clear HPc0 HPc1 HPc2 HPc3
  have K_13 := bthen K_12 hb13 (by omega)
  have HP_13 := (hb13.block _ (by omega)).trans HP_12
  have R_13 := R_12.below hb13 (by omega)
  have OW_13 := OW_12.below hb13 (by omega)
  have OG_13 := OG_12.below hb13 (by omega)
  clear K_12 HP_12 R_12 OW_12 OG_12
  clear hb13
  obtain ⟨HPc0, HPc1, HPc2, HPc3, _, _, _, _⟩ := cells4 HP_13
  go_wp2_with fail
  refine (packetNibbles_i k f l DZ ds.length cZ (w13.heap.size) ds _ (hoZ).ri (by omega) (by omega)).mono ?_
  rintro e w14 ⟨AH, nH, cH, rfl, hoH, hb14⟩
  have s14 := hb14.size
  clear HPc0 HPc1 HPc2 HPc3
  clear hoZ
  have K_14 := bthen K_13 hb14 (by omega)
  have HP_14 := (hb14.block _ (by omega)).trans HP_13
  have R_14 := R_13.below hb14 (by omega)
  have OW_14 := OW_13.below hb14 (by omega)
  have OG_14 := OG_13.below hb14 (by omega)
  clear K_13 HP_13 R_13 OW_13 OG_13
  clear hb14
  have hmH : nH ≤ 4294967296 := by have := (hoH).len; have h2 := pkF_len k f l ds; omega
  go_wp2_with fail
  refine (eqIntS_t AH AW nH nW cH cW _ _ _ _ (hoH).ri (OW_14).ri hmH).mono ?_
  rintro e w15 ⟨rfl, hb15⟩
  have s15 := hb15.size
  have K_15 := bthen K_14 hb15 (by omega)
  have HP_15 := (hb15.block _ (by omega)).trans HP_14
  have R_15 := R_14.below hb15 (by omega)
  have OW_15 := OW_14.below hb15 (by omega)
  have OG_15 := OG_14.below hb15 (by omega)
  have OH_15 := hoH.below hb15 (by omega)
  clear K_14 HP_14 R_14 OW_14 OG_14 hoH
  clear hb15
  go_wp2_with fail
  refine (heldIntS_t AG nG cG _ 1 _ (OG_15).ri hmG (by omega) (by omega)).mono ?_
  rintro e w16 ⟨rfl, hb16⟩
  have s16 := hb16.size
  have K_16 := bthen K_15 hb16 (by omega)
  have HP_16 := (hb16.block _ (by omega)).trans HP_15
  have R_16 := R_15.below hb16 (by omega)
  have OW_16 := OW_15.below hb16 (by omega)
  have OG_16 := OG_15.below hb16 (by omega)
  have OH_16 := OH_15.below hb16 (by omega)
  clear K_15 HP_15 R_15 OW_15 OG_15 OH_15
  clear hb16
  go_wp2
  go_ret
  exact ⟨rfl, K_16⟩
end Go.Proofs.Ytkmbblooofmnpaa
