/- The walk of FnExactReadPacket. -/
import Derived.Test.YtkmbblooofmnpaaReadLaw
namespace Go.Proofs.Ytkmbblooofmnpaa
open Go.RowKit Go.Deep
def rK (zs : List Int) : Int := if accO opS zs then zat zs 0 else 0
def rF (zs : List Int) : Int := if accO opS zs then opS (zat zs 1) (zat zs 2) else 0
def rL (zs : List Int) : Int := if accO opS zs then zat zs 3 else 0
def rDs (zs : List Int) : List Int := if accO opS zs then dotsOf opS zs (rdN zs) else []
def rNn (zs : List Int) : Int := if accO opS zs then ((7 + 5 * rdN zs : Nat) : Int) else 0
/-- A packet of the call's own, a number and a bool. -/
def RetPk3 (w : World) (k f l : Int) (ds : List Int) (nn : Int) (ok : Bool) (e : Ending) (w' : World) : Prop :=
  ∃ A c, e = .returned (.tuple #[.agg #[.int .i64 k, .int .i64 f, .int .i64 l, .slice A ds.length c], .int .i64 nn, .bool ok]) ∧ Own w' w.heap.size w'.heap.size A ds.length c ds ∧ Below w.heap.size w w'
theorem retRd_s {w w' : World} {zs : List Int} {e : Ending} (h : RetRd opS w zs e w') : RetPk3 w (rK zs) (rF zs) (rL zs) (rDs zs) (rNn zs) (accO opS zs) e w' := by
  rcases h with ⟨ha, he, hb⟩ | ⟨ha, A, c, he, ho, hb⟩
  · refine ⟨none, 0, ?_, ?_, hb⟩
    · simp [he, rK, rF, rL, rDs, rNn, ha]
    · simp only [rDs, ha]; exact Own.nil
  · refine ⟨A, c, ?_, ?_, hb⟩
    · simp [he, rK, rF, rL, rDs, rNn, ha, dotsOf_len]
    · simp only [rDs, ha, if_true, dotsOf_len]; exact ho
theorem retRd_i {w w' : World} {zs : List Int} {e : Ending} (h : RetRd opI w zs e w') : RetPk3 w (rK zs) (rF zs) (rL zs) (rDs zs) (rNn zs) (accO opS zs) e w' := by
  obtain ⟨h1, h2⟩ := acc_same zs
  apply retRd_s
  rcases h with ⟨ha, he, hb⟩ | ⟨ha, A, c, he, ho, hb⟩
  · exact .inl ⟨h1 ▸ ha, he, hb⟩
  · have hs : accO opS zs = true := h1 ▸ ha
    obtain ⟨e1, e2⟩ := h2 hs
    rw [e1] at he
    rw [e2] at ho
    exact .inr ⟨hs, A, c, he, ho, hb⟩
theorem rDs_len (zs : List Int) : (rDs zs).length ≤ 16 := by
  unfold rDs
  split
  · rename_i h
    rw [dotsOf_len]
    simp only [accO, Bool.and_eq_true] at h
    exact rdN_le h.1.1.1
  · simp
set_option maxHeartbeats 2000000 in
set_option maxRecDepth 10000 in
theorem walk_fnExactReadPacket (w : World) (A : Option Addr) (n c : Nat) (zs : List Int) (r0 : RI w w.heap.size A n zs) (hwf : WF zs) (_g : n ≤ c) (_i : c ≤ maxLen) :
    Calls Try.prog 10 #[.slice A n c] w fun e w' => e = .returned (.bool true) ∧ Below w.heap.size w w' := by
  by_cases hbig : 1048576 < n
  · go_enter Try.func10, Try.ntmps10
    go_wp2
    go_ret
    exact ⟨rfl, Below.refl _ _⟩
  have hn : n ≤ 4294967296 := by omega
  have hd16 := rDs_len zs
  go_enter Try.func10, Try.ntmps10
  go_wp2_with fail
  refine (toIntS_any A n c _ zs _ r0 (by omega) hn).mono ?_
  rintro e w1 ⟨AT, nT, cT, rfl, hoT, hb1⟩
  obtain rfl : n = nT := r0.len.symm.trans hoT.len
  have s1 := hb1.size
  have R1 := r0.below hb1 (by omega)
  have K1 := hb1
  clear r0 hb1
  go_wp2_with fail
  refine ((readPacket_s AT n cT _ zs _ hoT.ri (by omega) hn hoT.cap hwf).mono fun e w' h => retRd_s h).mono ?_
  rintro e w2 ⟨AW, cW, rfl, hoW, hb2⟩
  have s2 := hb2.size
  have R2 := R1.below hb2 (by omega)
  have K2 := bthen K1 hb2 (by omega)
  clear R1 K1 hoT hb2
  have hbB := (Below.refl w2.heap.size w2).alloc (Nat.le_refl _) (.cells #[.int .i64 (rK zs), .int .i64 (rF zs), .int .i64 (rL zs), .slice AW (rDs zs).length cW] 26)
  have HW_3 := heap_alloc_new w2 (.cells #[.int .i64 (rK zs), .int .i64 (rF zs), .int .i64 (rL zs), .slice AW (rDs zs).length cW] 26)
  have s3 : w2.heap.size < (w2.alloc (.cells #[.int .i64 (rK zs), .int .i64 (rF zs), .int .i64 (rL zs), .slice AW (rDs zs).length cW] 26)).heap.size := by simp
  obtain ⟨w3, hw3⟩ : ∃ z, z = w2.alloc (.cells #[.int .i64 (rK zs), .int .i64 (rF zs), .int .i64 (rL zs), .slice AW (rDs zs).length cW] 26) := ⟨_, rfl⟩
  rw [← hw3] at hbB HW_3 s3
  have K_3 := bthen K2 hbB (by omega)
  have R_3 := R2.below hbB (by omega)
  have OW_3 := hoW.below hbB (by omega)
  clear K2 R2 hoW
  clear hbB
  obtain ⟨HWc0, HWc1, HWc2, HWc3, _, _, _, _⟩ := cells4 HW_3
  rw [hw3] at HWc0 HWc1 HWc2 HWc3
  go_wp2_with fail
  rw [← hw3]
  clear hw3
  refine (toIntS_any A n c _ zs _ R_3 (by omega) hn).mono ?_
  rintro e w4 ⟨AX, nX, cX, rfl, hoX, hb4⟩
  obtain rfl : n = nX := R_3.len.symm.trans hoX.len
  have s4 := hb4.size
  clear HWc0 HWc1 HWc2 HWc3
  have K_4 := bthen K_3 hb4 (by omega)
  have R_4 := R_3.below hb4 (by omega)
  have OW_4 := OW_3.below hb4 (by omega)
  have HW_4 := (hb4.block _ (by omega)).trans HW_3
  clear K_3 R_3 OW_3 HW_3
  clear hb4
  obtain ⟨HWc0, HWc1, HWc2, HWc3, _, _, _, _⟩ := cells4 HW_4
  go_wp2_with fail
  refine ((readPacket_i AX n cX _ zs _ (hoX).ri (by omega) hn (hoX).cap).mono fun e w' h => retRd_i h).mono ?_
  rintro e w5 ⟨AG, cG, rfl, hoG, hb5⟩
  have s5 := hb5.size
  clear HWc0 HWc1 HWc2 HWc3
  have K_5 := bthen K_4 hb5 (by omega)
  have R_5 := R_4.below hb5 (by omega)
  have OW_5 := OW_4.below hb5 (by omega)
  have HW_5 := (hb5.block _ (by omega)).trans HW_4
  have OX_5 := hoX.below hb5 (by omega)
  clear K_4 R_4 OW_4 HW_4 hoX
  clear hb5
  have hbB := (Below.refl w5.heap.size w5).alloc (Nat.le_refl _) (.cells #[.int .i64 (rK zs), .int .i64 (rF zs), .int .i64 (rL zs), .slice AG (rDs zs).length cG] 26)
  have HG_6 := heap_alloc_new w5 (.cells #[.int .i64 (rK zs), .int .i64 (rF zs), .int .i64 (rL zs), .slice AG (rDs zs).length cG] 26)
  have s6 : w5.heap.size < (w5.alloc (.cells #[.int .i64 (rK zs), .int .i64 (rF zs), .int .i64 (rL zs), .slice AG (rDs zs).length cG] 26)).heap.size := by simp
  obtain ⟨w6, hw6⟩ : ∃ z, z = w5.alloc (.cells #[.int .i64 (rK zs), .int .i64 (rF zs), .int .i64 (rL zs), .slice AG (rDs zs).length cG] 26) := ⟨_, rfl⟩
  rw [← hw6] at hbB HG_6 s6
  have K_6 := bthen K_5 hbB (by omega)
  have R_6 := R_5.below hbB (by omega)
  have OW_6 := OW_5.below hbB (by omega)
  have HW_6 := (hbB.block _ (by omega)).trans HW_5
  have OX_6 := OX_5.below hbB (by omega)
  have OG_6 := hoG.below hbB (by omega)
  clear K_5 R_5 OW_5 HW_5 OX_5 hoG
  clear hbB
  obtain ⟨HWc0, HWc1, HWc2, HWc3, _, _, _, _⟩ := cells4 HW_6
  obtain ⟨HGc0, HGc1, HGc2, HGc3, _, _, _, _⟩ := cells4 HG_6
  rw [hw6] at HWc0 HWc1 HWc2 HWc3 HGc0 HGc1 HGc2 HGc3
  go_wp2_with fail
  rw [← hw6]
  clear hw6
  refine (eqLinePacket_t (rK zs) (rF zs) (rL zs) AG AW (rDs zs).length cG (rDs zs).length cW (w5.heap.size) (w2.heap.size) (rDs zs) _ (OG_6).ri (OW_6).ri (by omega) (by omega) (by omega)).mono ?_
  rintro e w7 ⟨rfl, hb7⟩
  have s7 := hb7.size
  clear HWc0 HWc1 HWc2 HWc3 HGc0 HGc1 HGc2 HGc3
  have K_7 := bthen K_6 hb7 (by omega)
  have R_7 := R_6.below hb7 (by omega)
  have OW_7 := OW_6.below hb7 (by omega)
  have HW_7 := (hb7.block _ (by omega)).trans HW_6
  have OX_7 := OX_6.below hb7 (by omega)
  have OG_7 := OG_6.below hb7 (by omega)
  have HG_7 := (hb7.block _ (by omega)).trans HG_6
  clear K_6 R_6 OW_6 HW_6 OX_6 OG_6 HG_6
  clear hb7
  obtain ⟨HWc0, HWc1, HWc2, HWc3, _, _, _, _⟩ := cells4 HW_7
  obtain ⟨HGc0, HGc1, HGc2, HGc3, _, _, _, _⟩ := cells4 HG_7
  go_wp2_with fail
  refine (toIntS_any A n c _ zs _ R_7 (by omega) hn).mono ?_
  rintro e w8 ⟨AY, nY, cY, rfl, hoY, hb8⟩
  obtain rfl : n = nY := R_7.len.symm.trans hoY.len
  have s8 := hb8.size
  clear HWc0 HWc1 HWc2 HWc3 HGc0 HGc1 HGc2 HGc3
  have K_8 := bthen K_7 hb8 (by omega)
  have R_8 := R_7.below hb8 (by omega)
  have OW_8 := OW_7.below hb8 (by omega)
  have HW_8 := (hb8.block _ (by omega)).trans HW_7
  have OX_8 := OX_7.below hb8 (by omega)
  have OG_8 := OG_7.below hb8 (by omega)
  have HG_8 := (hb8.block _ (by omega)).trans HG_7
  clear K_7 R_7 OW_7 HW_7 OX_7 OG_7 HG_7
  clear hb8
  obtain ⟨HWc0, HWc1, HWc2, HWc3, _, _, _, _⟩ := cells4 HW_8
  obtain ⟨HGc0, HGc1, HGc2, HGc3, _, _, _, _⟩ := cells4 HG_8
  go_wp2_with fail
  refine (eqIntS_t AX AY n n cX cY _ _ _ _ (OX_8).ri (hoY).ri hn).mono ?_
  rintro e w9 ⟨rfl, hb9⟩
  have s9 := hb9.size
  clear HWc0 HWc1 HWc2 HWc3 HGc0 HGc1 HGc2 HGc3
  have K_9 := bthen K_8 hb9 (by omega)
  have R_9 := R_8.below hb9 (by omega)
  have OW_9 := OW_8.below hb9 (by omega)
  have HW_9 := (hb9.block _ (by omega)).trans HW_8
  have OX_9 := OX_8.below hb9 (by omega)
  have OG_9 := OG_8.below hb9 (by omega)
  have HG_9 := (hb9.block _ (by omega)).trans HG_8
  have OY_9 := hoY.below hb9 (by omega)
  clear K_8 R_8 OW_8 HW_8 OX_8 OG_8 HG_8 hoY
  clear hb9
  clear OY_9
  obtain ⟨HWc0, HWc1, HWc2, HWc3, _, _, _, _⟩ := cells4 HW_9
  obtain ⟨HGc0, HGc1, HGc2, HGc3, _, _, _, _⟩ := cells4 HG_9
  go_wp2_with fail
  refine (markIntS_any AX n cX (w3.heap.size) (w4.heap.size) 1 _ _ OX_9 hn (by omega) (by omega)).mono ?_
  rintro e w10 ⟨rfl, omX, hf10⟩
  have s10 := hf10.size
  clear HWc0 HWc1 HWc2 HWc3 HGc0 HGc1 HGc2 HGc3 OX_9 omX
  have K_10 := K_9.trans (hf10.below (B := w.heap.size) (by omega) (by omega))
  have R_10 := R_9.below (hf10.below (B := w.heap.size) (by omega) (by omega)) (Nat.le_refl _)
  have OW_10 := OW_9.off hf10 (by omega)
  have HW_10 := (hf10.block _ (by omega) (by omega)).trans HW_9
  have OG_10 := OG_9.off hf10 (by omega)
  have HG_10 := (hf10.block _ (by omega) (by omega)).trans HG_9
  clear K_9 R_9 OW_9 HW_9 OG_9 HG_9
  clear hf10
  obtain ⟨HWc0, HWc1, HWc2, HWc3, _, _, _, _⟩ := cells4 HW_10
  obtain ⟨HGc0, HGc1, HGc2, HGc3, _, _, _, _⟩ := cells4 HG_10
  go_wp2_with fail
  refine (eqLinePacket_t (rK zs) (rF zs) (rL zs) AG AW (rDs zs).length cG (rDs zs).length cW (w5.heap.size) (w2.heap.size) (rDs zs) _ (OG_10).ri (OW_10).ri (by omega) (by omega) (by omega)).mono ?_
  rintro e w11 ⟨rfl, hb11⟩
  have s11 := hb11.size
  clear HWc0 HWc1 HWc2 HWc3 HGc0 HGc1 HGc2 HGc3
  have K_11 := bthen K_10 hb11 (by omega)
  have R_11 := R_10.below hb11 (by omega)
  have OW_11 := OW_10.below hb11 (by omega)
  have HW_11 := (hb11.block _ (by omega)).trans HW_10
  have OG_11 := OG_10.below hb11 (by omega)
  have HG_11 := (hb11.block _ (by omega)).trans HG_10
  clear K_10 R_10 OW_10 HW_10 OG_10 HG_10
  clear hb11
  obtain ⟨HWc0, HWc1, HWc2, HWc3, _, _, _, _⟩ := cells4 HW_11
  obtain ⟨HGc0, HGc1, HGc2, HGc3, _, _, _, _⟩ := cells4 HG_11
  go_wp2_with fail
  refine (markLinePacket_any (rK zs) (rF zs) (rL zs) AG cG (w4.heap.size) (w5.heap.size) (rDs zs) _ OG_11 (by omega) (by omega)).mono ?_
  rintro e w12 ⟨rfl, omG, hf12⟩
  have s12 := hf12.size
  clear HWc0 HWc1 HWc2 HWc3 HGc0 HGc1 HGc2 HGc3 OG_11
  have K_12 := K_11.trans (hf12.below (B := w.heap.size) (by omega) (by omega))
  have R_12 := R_11.below (hf12.below (B := w.heap.size) (by omega) (by omega)) (Nat.le_refl _)
  have OW_12 := OW_11.off hf12 (by omega)
  have HW_12 := (hf12.block _ (by omega) (by omega)).trans HW_11
  have HG_12 := (hf12.block _ (by omega) (by omega)).trans HG_11
  clear K_11 R_11 OW_11 HW_11 HG_11
  clear hf12
  obtain ⟨HWc0, HWc1, HWc2, HWc3, _, _, _, _⟩ := cells4 HW_12
  obtain ⟨HGc0, HGc1, HGc2, HGc3, _, _, _, _⟩ := cells4 HG_12
  go_wp2_with fail
  refine (heldLinePacket_t (rK zs) (rF zs) (rL zs) AG (rDs zs).length cG (w5.heap.size) _ (omG).ri (by omega) (by omega)).mono ?_
  rintro e w13 ⟨rfl, hb13⟩
  have s13 := hb13.size
  clear HWc0 HWc1 HWc2 HWc3 HGc0 HGc1 HGc2 HGc3
  have K_13 := bthen K_12 hb13 (by omega)
  have R_13 := R_12.below hb13 (by omega)
  have OW_13 := OW_12.below hb13 (by omega)
  have HW_13 := (hb13.block _ (by omega)).trans HW_12
  have HG_13 := (hb13.block _ (by omega)).trans HG_12
  have OG_13 := omG.below hb13 (by omega)
  clear K_12 R_12 OW_12 HW_12 HG_12 omG
  clear hb13
  obtain ⟨HWc0, HWc1, HWc2, HWc3, _, _, _, _⟩ := cells4 HW_13
  obtain ⟨HGc0, HGc1, HGc2, HGc3, _, _, _, _⟩ := cells4 HG_13
  go_wp2_with fail
  refine (toIntS_any A n c _ zs _ R_13 (by omega) hn).mono ?_
  rintro e w14 ⟨AZ, nZ, cZ, rfl, hoZ, hb14⟩
  obtain rfl : n = nZ := R_13.len.symm.trans hoZ.len
  have s14 := hb14.size
  clear HWc0 HWc1 HWc2 HWc3 HGc0 HGc1 HGc2 HGc3
  have K_14 := bthen K_13 hb14 (by omega)
  have R_14 := R_13.below hb14 (by omega)
  have OW_14 := OW_13.below hb14 (by omega)
  have HW_14 := (hb14.block _ (by omega)).trans HW_13
  have HG_14 := (hb14.block _ (by omega)).trans HG_13
  have OG_14 := OG_13.below hb14 (by omega)
  clear K_13 R_13 OW_13 HW_13 HG_13 OG_13
  clear hb14
  obtain ⟨HWc0, HWc1, HWc2, HWc3, _, _, _, _⟩ := cells4 HW_14
  obtain ⟨HGc0, HGc1, HGc2, HGc3, _, _, _, _⟩ := cells4 HG_14
  go_wp2_with fail
  refine ((readPacket_i AZ n cZ _ zs _ (hoZ).ri (by omega) hn (hoZ).cap).mono fun e w' h => retRd_i h).mono ?_
  rintro e w15 ⟨AH, cH, rfl, hoH, hb15⟩
  have s15 := hb15.size
  clear HWc0 HWc1 HWc2 HWc3 HGc0 HGc1 HGc2 HGc3
  clear hoZ
  have K_15 := bthen K_14 hb15 (by omega)
  have R_15 := R_14.below hb15 (by omega)
  have OW_15 := OW_14.below hb15 (by omega)
  have HW_15 := (hb15.block _ (by omega)).trans HW_14
  have HG_15 := (hb15.block _ (by omega)).trans HG_14
  have OG_15 := OG_14.below hb15 (by omega)
  clear K_14 R_14 OW_14 HW_14 HG_14 OG_14
  clear hb15
  have hbB := (Below.refl w15.heap.size w15).alloc (Nat.le_refl _) (.cells #[.int .i64 (rK zs), .int .i64 (rF zs), .int .i64 (rL zs), .slice AH (rDs zs).length cH] 26)
  have HH_16 := heap_alloc_new w15 (.cells #[.int .i64 (rK zs), .int .i64 (rF zs), .int .i64 (rL zs), .slice AH (rDs zs).length cH] 26)
  have s16 : w15.heap.size < (w15.alloc (.cells #[.int .i64 (rK zs), .int .i64 (rF zs), .int .i64 (rL zs), .slice AH (rDs zs).length cH] 26)).heap.size := by simp
  obtain ⟨w16, hw16⟩ : ∃ z, z = w15.alloc (.cells #[.int .i64 (rK zs), .int .i64 (rF zs), .int .i64 (rL zs), .slice AH (rDs zs).length cH] 26) := ⟨_, rfl⟩
  rw [← hw16] at hbB HH_16 s16
  have K_16 := bthen K_15 hbB (by omega)
  have R_16 := R_15.below hbB (by omega)
  have OW_16 := OW_15.below hbB (by omega)
  have HW_16 := (hbB.block _ (by omega)).trans HW_15
  have HG_16 := (hbB.block _ (by omega)).trans HG_15
  have OG_16 := OG_15.below hbB (by omega)
  have OH_16 := hoH.below hbB (by omega)
  clear K_15 R_15 OW_15 HW_15 HG_15 OG_15 hoH
  clear hbB
  obtain ⟨HWc0, HWc1, HWc2, HWc3, _, _, _, _⟩ := cells4 HW_16
  obtain ⟨HGc0, HGc1, HGc2, HGc3, _, _, _, _⟩ := cells4 HG_16
  obtain ⟨HHc0, HHc1, HHc2, HHc3, _, _, _, _⟩ := cells4 HH_16
  rw [hw16] at HWc0 HWc1 HWc2 HWc3 HGc0 HGc1 HGc2 HGc3 HHc0 HHc1 HHc2 HHc3
  go_wp2_with fail
  rw [← hw16]
  clear hw16
  refine (eqLinePacket_t (rK zs) (rF zs) (rL zs) AH AW (rDs zs).length cH (rDs zs).length cW (w15.heap.size) (w2.heap.size) (rDs zs) _ (OH_16).ri (OW_16).ri (by omega) (by omega) (by omega)).mono ?_
  rintro e w17 ⟨rfl, hb17⟩
  have s17 := hb17.size
  clear HWc0 HWc1 HWc2 HWc3 HGc0 HGc1 HGc2 HGc3 HHc0 HHc1 HHc2 HHc3
  have K_17 := bthen K_16 hb17 (by omega)
  have R_17 := R_16.below hb17 (by omega)
  have OW_17 := OW_16.below hb17 (by omega)
  have HW_17 := (hb17.block _ (by omega)).trans HW_16
  have HG_17 := (hb17.block _ (by omega)).trans HG_16
  have OG_17 := OG_16.below hb17 (by omega)
  have OH_17 := OH_16.below hb17 (by omega)
  have HH_17 := (hb17.block _ (by omega)).trans HH_16
  clear K_16 R_16 OW_16 HW_16 HG_16 OG_16 OH_16 HH_16
  clear hb17
  obtain ⟨HWc0, HWc1, HWc2, HWc3, _, _, _, _⟩ := cells4 HW_17
  obtain ⟨HGc0, HGc1, HGc2, HGc3, _, _, _, _⟩ := cells4 HG_17
  obtain ⟨HHc0, HHc1, HHc2, HHc3, _, _, _, _⟩ := cells4 HH_17
  go_wp2_with fail
  refine (heldLinePacket_t (rK zs) (rF zs) (rL zs) AG (rDs zs).length cG (w5.heap.size) _ (OG_17).ri (by omega) (by omega)).mono ?_
  rintro e w18 ⟨rfl, hb18⟩
  have s18 := hb18.size
  clear HWc0 HWc1 HWc2 HWc3 HGc0 HGc1 HGc2 HGc3 HHc0 HHc1 HHc2 HHc3
  have K_18 := bthen K_17 hb18 (by omega)
  have R_18 := R_17.below hb18 (by omega)
  have OW_18 := OW_17.below hb18 (by omega)
  have HW_18 := (hb18.block _ (by omega)).trans HW_17
  have HG_18 := (hb18.block _ (by omega)).trans HG_17
  have OG_18 := OG_17.below hb18 (by omega)
  have OH_18 := OH_17.below hb18 (by omega)
  have HH_18 := (hb18.block _ (by omega)).trans HH_17
  clear K_17 R_17 OW_17 HW_17 HG_17 OG_17 OH_17 HH_17
  clear hb18
  go_wp2
  go_ret
  exact ⟨rfl, K_18⟩
end Go.Proofs.Ytkmbblooofmnpaa
