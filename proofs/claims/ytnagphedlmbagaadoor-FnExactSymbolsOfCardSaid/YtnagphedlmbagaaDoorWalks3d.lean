/- The walks of FnExactSymbolsOf and FnExactNibblesOf. Made by wip/tools/exact.py (TAB=1). -/
import Derived.Test.YtnagphedlmbagaaDoorSym
namespace Go.Proofs.YtnagphedlmbagaaDoor
open Go.RowKit Go.Deep
set_option maxHeartbeats 1000000 in
theorem walk_fnExactSymbolsOf (w : World) (t0 : Tab w) (A : Option Addr) (n c : Nat) (zs : List Int) (r0 : RI w w.heap.size A n zs) (_f : WF zs) (_g : n ≤ c) (_i : c ≤ maxLen)  :
    Calls Tryd.prog 3 #[.slice A n c] w fun e w' => e = .returned (.bool true) ∧ Below w.heap.size w w' := by
  by_cases hbig : 1048576 < n
  · go_enter Tryd.func3, Tryd.ntmps3
    go_wp2
    go_ret
    exact ⟨rfl, Below.refl _ _⟩
  · have hn : n ≤ 4294967296 := by omega
    have ht1 := tab_lt t0
    go_enter Tryd.func3, Tryd.ntmps3
    have hLen : (symsF zs).length ≤ 4294967296 := by have := symsF_len zs; have := r0.len; omega
    go_wp2_with fail
    refine (toIntS_any A n c _ zs _ r0 (by omega) hn).mono ?_
    rintro e w1 ⟨AT, nT, cT, rfl, hoT, hb1⟩
    obtain rfl : n = nT := r0.len.symm.trans hoT.len
    have s1 := hb1.size
    have r1 := r0.below hb1 (by omega)
    have t1 := t0.below hb1 (by omega)
    have K1 := hb1
    clear r0 t0 hb1
    go_wp2_with fail
    refine (symbolsOf_s AT n cT _ zs _ hoT.ri (by omega) hn).mono ?_
    rintro e w2 ⟨AS, nS, cS, rfl, hoS, hb2⟩
    have hm : nS ≤ 4294967296 := by have := hLen; have := hoS.len; omega
    have s2 := hb2.size
    have r2 := r1.below hb2 (by omega)
    have t2 := t1.below hb2 (by omega)
    have K2 := bthen K1 hb2 (by omega)
    have oT2 := hoT.below hb2 (by omega)
    clear r1 t1 K1 hoT hb2
    clear oT2
    go_wp2_with fail
    refine (toIntS_any A n c _ zs _ r2 (by omega) hn).mono ?_
    rintro e w3 ⟨AX, nX, cX, rfl, hoX, hb3⟩
    obtain rfl : n = nX := r2.len.symm.trans hoX.len
    have s3 := hb3.size
    have r3 := r2.below hb3 (by omega)
    have t3 := t2.below hb3 (by omega)
    have K3 := bthen K2 hb3 (by omega)
    have oS3 := hoS.below hb3 (by omega)
    clear r2 t2 K2 hoS hb3
    go_wp2_with fail
    refine (symbolsOf_i AX n cX _ zs _ hoX.ri (by omega) hn t3).mono ?_
    rintro e w4 ⟨AG, nG, cG, rfl, hoG, hb4⟩
    obtain rfl : nS = nG := oS3.len.symm.trans hoG.len
    have s4 := hb4.size
    have r4 := r3.below hb4 (by omega)
    have t4 := t3.below hb4 (by omega)
    have K4 := bthen K3 hb4 (by omega)
    have oS4 := oS3.below hb4 (by omega)
    have oX4 := hoX.below hb4 (by omega)
    clear r3 t3 K3 oS3 hoX hb4
    go_wp2_with fail
    refine (eqIntS_t AG AS nS nS cG cS _ _ _ _ hoG.ri oS4.ri hm).mono ?_
    rintro e w5 ⟨rfl, hb5⟩
    have s5 := hb5.size
    have r5 := r4.below hb5 (by omega)
    have t5 := t4.below hb5 (by omega)
    have K5 := bthen K4 hb5 (by omega)
    have oS5 := oS4.below hb5 (by omega)
    have oX5 := oX4.below hb5 (by omega)
    have oG5 := hoG.below hb5 (by omega)
    clear r4 t4 K4 oS4 oX4 hoG hb5
    go_wp2_with fail
    refine (toIntS_any A n c _ zs _ r5 (by omega) hn).mono ?_
    rintro e w6 ⟨AY, nY, cY, rfl, hoY, hb6⟩
    obtain rfl : n = nY := r5.len.symm.trans hoY.len
    have s6 := hb6.size
    have r6 := r5.below hb6 (by omega)
    have t6 := t5.below hb6 (by omega)
    have K6 := bthen K5 hb6 (by omega)
    have oS6 := oS5.below hb6 (by omega)
    have oX6 := oX5.below hb6 (by omega)
    have oG6 := oG5.below hb6 (by omega)
    clear r5 t5 K5 oS5 oX5 oG5 hb6
    go_wp2_with fail
    refine (eqIntS_t AX AY n n cX cY _ _ _ _ oX6.ri hoY.ri hn).mono ?_
    rintro e w7 ⟨rfl, hb7⟩
    have s7 := hb7.size
    have r7 := r6.below hb7 (by omega)
    have t7 := t6.below hb7 (by omega)
    have K7 := bthen K6 hb7 (by omega)
    have oS7 := oS6.below hb7 (by omega)
    have oX7 := oX6.below hb7 (by omega)
    have oG7 := oG6.below hb7 (by omega)
    have oY7 := hoY.below hb7 (by omega)
    clear r6 t6 K6 oS6 oX6 oG6 hoY hb7
    clear oY7
    go_wp2_with fail
    refine (markIntS_any AX n cX _ _ 1 _ _ oX7 hn (by omega) (by omega)).mono ?_
    rintro e w8 ⟨rfl, omX, hf8⟩
    have s8 := hf8.size
    have hw8 := hf8.below (B := w.heap.size) (by omega) (by omega)
    have r8 := r7.below hw8 (Nat.le_refl _)
    have t8 := t7.below hw8 (by omega)
    have K8 := K7.trans hw8
    have oS8 := oS7.off hf8 (by omega)
    have oG8 := oG7.off hf8 (by omega)
    clear r7 oX7 hf8 t7 K7 hw8 oS7 oG7
    clear omX
    go_wp2_with fail
    refine (eqIntS_t AG AS nS nS cG cS _ _ _ _ oG8.ri oS8.ri hm).mono ?_
    rintro e w9 ⟨rfl, hb9⟩
    have s9 := hb9.size
    have r9 := r8.below hb9 (by omega)
    have t9 := t8.below hb9 (by omega)
    have K9 := bthen K8 hb9 (by omega)
    have oS9 := oS8.below hb9 (by omega)
    have oG9 := oG8.below hb9 (by omega)
    clear r8 t8 K8 oS8 oG8 hb9
    go_wp2_with fail
    refine (markIntS_any AG nS cG _ _ 1 _ _ oG9 hm (by omega) (by omega)).mono ?_
    rintro e w10 ⟨rfl, omG, hf10⟩
    have s10 := hf10.size
    have hw10 := hf10.below (B := w.heap.size) (by omega) (by omega)
    have r10 := r9.below hw10 (Nat.le_refl _)
    have t10 := t9.below hw10 (by omega)
    have K10 := K9.trans hw10
    have oS10 := oS9.off hf10 (by omega)
    clear r9 oG9 hf10 t9 K9 hw10 oS9
    go_wp2_with fail
    refine (heldIntS_t AG nS cG _ 1 _ omG.ri hm (by omega) (by omega)).mono ?_
    rintro e w11 ⟨rfl, hb11⟩
    have s11 := hb11.size
    have r11 := r10.below hb11 (by omega)
    have t11 := t10.below hb11 (by omega)
    have K11 := bthen K10 hb11 (by omega)
    have oS11 := oS10.below hb11 (by omega)
    have oG11 := omG.below hb11 (by omega)
    clear r10 t10 K10 oS10 omG hb11
    go_wp2_with fail
    refine (toIntS_any A n c _ zs _ r11 (by omega) hn).mono ?_
    rintro e w12 ⟨AZ, nZ, cZ, rfl, hoZ, hb12⟩
    obtain rfl : n = nZ := r11.len.symm.trans hoZ.len
    have s12 := hb12.size
    have r12 := r11.below hb12 (by omega)
    have t12 := t11.below hb12 (by omega)
    have K12 := bthen K11 hb12 (by omega)
    have oS12 := oS11.below hb12 (by omega)
    have oG12 := oG11.below hb12 (by omega)
    clear r11 t11 K11 oS11 oG11 hb12
    go_wp2_with fail
    refine (symbolsOf_i AZ n cZ _ zs _ hoZ.ri (by omega) hn t12).mono ?_
    rintro e w13 ⟨AH, nH, cH, rfl, hoH, hb13⟩
    obtain rfl : nS = nH := oS12.len.symm.trans hoH.len
    have s13 := hb13.size
    have r13 := r12.below hb13 (by omega)
    have t13 := t12.below hb13 (by omega)
    have K13 := bthen K12 hb13 (by omega)
    have oS13 := oS12.below hb13 (by omega)
    have oG13 := oG12.below hb13 (by omega)
    have oZ13 := hoZ.below hb13 (by omega)
    clear r12 t12 K12 oS12 oG12 hoZ hb13
    clear oZ13
    go_wp2_with fail
    refine (eqIntS_t AH AS nS nS cH cS _ _ _ _ hoH.ri oS13.ri hm).mono ?_
    rintro e w14 ⟨rfl, hb14⟩
    have s14 := hb14.size
    have r14 := r13.below hb14 (by omega)
    have t14 := t13.below hb14 (by omega)
    have K14 := bthen K13 hb14 (by omega)
    have oS14 := oS13.below hb14 (by omega)
    have oG14 := oG13.below hb14 (by omega)
    have oH14 := hoH.below hb14 (by omega)
    clear r13 t13 K13 oS13 oG13 hoH hb14
    go_wp2_with fail
    refine (heldIntS_t AG nS cG _ 1 _ oG14.ri hm (by omega) (by omega)).mono ?_
    rintro e w15 ⟨rfl, hb15⟩
    have s15 := hb15.size
    have r15 := r14.below hb15 (by omega)
    have t15 := t14.below hb15 (by omega)
    have K15 := bthen K14 hb15 (by omega)
    have oS15 := oS14.below hb15 (by omega)
    have oG15 := oG14.below hb15 (by omega)
    have oH15 := oH14.below hb15 (by omega)
    clear r14 t14 K14 oS14 oG14 oH14 hb15
    go_wp2
    go_ret
    exact ⟨rfl, K15⟩
set_option maxHeartbeats 1000000 in
theorem walk_fnExactNibblesOf (w : World) (t0 : Tab w) (A : Option Addr) (n c : Nat) (zs : List Int) (r0 : RI w w.heap.size A n zs) (_f : WF zs) (_g : n ≤ c) (_i : c ≤ maxLen)  :
    Calls Tryd.prog 4 #[.slice A n c] w fun e w' => e = .returned (.bool true) ∧ Below w.heap.size w w' := by
  by_cases hbig : 1048576 < n
  · go_enter Tryd.func4, Tryd.ntmps4
    go_wp2
    go_ret
    exact ⟨rfl, Below.refl _ _⟩
  · have hn : n ≤ 4294967296 := by omega
    have ht1 := tab_lt t0
    go_enter Tryd.func4, Tryd.ntmps4
    have hLen : (nibsL zs).length ≤ 4294967296 := by have := nibsL_len zs; have := r0.len; omega
    go_wp2_with fail
    refine (toIntS_any A n c _ zs _ r0 (by omega) hn).mono ?_
    rintro e w1 ⟨AT, nT, cT, rfl, hoT, hb1⟩
    obtain rfl : n = nT := r0.len.symm.trans hoT.len
    have s1 := hb1.size
    have r1 := r0.below hb1 (by omega)
    have t1 := t0.below hb1 (by omega)
    have K1 := hb1
    clear r0 t0 hb1
    go_wp2_with fail
    refine (nibblesOf_s AT n cT _ zs _ hoT.ri (by omega) hn).mono ?_
    rintro e w2 ⟨AS, nS, cS, rfl, hoS, hb2⟩
    have hm : nS ≤ 4294967296 := by have := hLen; have := hoS.len; omega
    have s2 := hb2.size
    have r2 := r1.below hb2 (by omega)
    have t2 := t1.below hb2 (by omega)
    have K2 := bthen K1 hb2 (by omega)
    have oT2 := hoT.below hb2 (by omega)
    clear r1 t1 K1 hoT hb2
    clear oT2
    go_wp2_with fail
    refine (toIntS_any A n c _ zs _ r2 (by omega) hn).mono ?_
    rintro e w3 ⟨AX, nX, cX, rfl, hoX, hb3⟩
    obtain rfl : n = nX := r2.len.symm.trans hoX.len
    have s3 := hb3.size
    have r3 := r2.below hb3 (by omega)
    have t3 := t2.below hb3 (by omega)
    have K3 := bthen K2 hb3 (by omega)
    have oS3 := hoS.below hb3 (by omega)
    clear r2 t2 K2 hoS hb3
    go_wp2_with fail
    refine (nibblesOf_i AX n cX _ zs _ hoX.ri (by omega) hn t3).mono ?_
    rintro e w4 ⟨AG, nG, cG, rfl, hoG, hb4⟩
    obtain rfl : nS = nG := oS3.len.symm.trans hoG.len
    have s4 := hb4.size
    have r4 := r3.below hb4 (by omega)
    have t4 := t3.below hb4 (by omega)
    have K4 := bthen K3 hb4 (by omega)
    have oS4 := oS3.below hb4 (by omega)
    have oX4 := hoX.below hb4 (by omega)
    clear r3 t3 K3 oS3 hoX hb4
    go_wp2_with fail
    refine (eqIntS_t AG AS nS nS cG cS _ _ _ _ hoG.ri oS4.ri hm).mono ?_
    rintro e w5 ⟨rfl, hb5⟩
    have s5 := hb5.size
    have r5 := r4.below hb5 (by omega)
    have t5 := t4.below hb5 (by omega)
    have K5 := bthen K4 hb5 (by omega)
    have oS5 := oS4.below hb5 (by omega)
    have oX5 := oX4.below hb5 (by omega)
    have oG5 := hoG.below hb5 (by omega)
    clear r4 t4 K4 oS4 oX4 hoG hb5
    go_wp2_with fail
    refine (toIntS_any A n c _ zs _ r5 (by omega) hn).mono ?_
    rintro e w6 ⟨AY, nY, cY, rfl, hoY, hb6⟩
    obtain rfl : n = nY := r5.len.symm.trans hoY.len
    have s6 := hb6.size
    have r6 := r5.below hb6 (by omega)
    have t6 := t5.below hb6 (by omega)
    have K6 := bthen K5 hb6 (by omega)
    have oS6 := oS5.below hb6 (by omega)
    have oX6 := oX5.below hb6 (by omega)
    have oG6 := oG5.below hb6 (by omega)
    clear r5 t5 K5 oS5 oX5 oG5 hb6
    go_wp2_with fail
    refine (eqIntS_t AX AY n n cX cY _ _ _ _ oX6.ri hoY.ri hn).mono ?_
    rintro e w7 ⟨rfl, hb7⟩
    have s7 := hb7.size
    have r7 := r6.below hb7 (by omega)
    have t7 := t6.below hb7 (by omega)
    have K7 := bthen K6 hb7 (by omega)
    have oS7 := oS6.below hb7 (by omega)
    have oX7 := oX6.below hb7 (by omega)
    have oG7 := oG6.below hb7 (by omega)
    have oY7 := hoY.below hb7 (by omega)
    clear r6 t6 K6 oS6 oX6 oG6 hoY hb7
    clear oY7
    go_wp2_with fail
    refine (markIntS_any AX n cX _ _ 1 _ _ oX7 hn (by omega) (by omega)).mono ?_
    rintro e w8 ⟨rfl, omX, hf8⟩
    have s8 := hf8.size
    have hw8 := hf8.below (B := w.heap.size) (by omega) (by omega)
    have r8 := r7.below hw8 (Nat.le_refl _)
    have t8 := t7.below hw8 (by omega)
    have K8 := K7.trans hw8
    have oS8 := oS7.off hf8 (by omega)
    have oG8 := oG7.off hf8 (by omega)
    clear r7 oX7 hf8 t7 K7 hw8 oS7 oG7
    clear omX
    go_wp2_with fail
    refine (eqIntS_t AG AS nS nS cG cS _ _ _ _ oG8.ri oS8.ri hm).mono ?_
    rintro e w9 ⟨rfl, hb9⟩
    have s9 := hb9.size
    have r9 := r8.below hb9 (by omega)
    have t9 := t8.below hb9 (by omega)
    have K9 := bthen K8 hb9 (by omega)
    have oS9 := oS8.below hb9 (by omega)
    have oG9 := oG8.below hb9 (by omega)
    clear r8 t8 K8 oS8 oG8 hb9
    go_wp2_with fail
    refine (markIntS_any AG nS cG _ _ 1 _ _ oG9 hm (by omega) (by omega)).mono ?_
    rintro e w10 ⟨rfl, omG, hf10⟩
    have s10 := hf10.size
    have hw10 := hf10.below (B := w.heap.size) (by omega) (by omega)
    have r10 := r9.below hw10 (Nat.le_refl _)
    have t10 := t9.below hw10 (by omega)
    have K10 := K9.trans hw10
    have oS10 := oS9.off hf10 (by omega)
    clear r9 oG9 hf10 t9 K9 hw10 oS9
    go_wp2_with fail
    refine (heldIntS_t AG nS cG _ 1 _ omG.ri hm (by omega) (by omega)).mono ?_
    rintro e w11 ⟨rfl, hb11⟩
    have s11 := hb11.size
    have r11 := r10.below hb11 (by omega)
    have t11 := t10.below hb11 (by omega)
    have K11 := bthen K10 hb11 (by omega)
    have oS11 := oS10.below hb11 (by omega)
    have oG11 := omG.below hb11 (by omega)
    clear r10 t10 K10 oS10 omG hb11
    go_wp2_with fail
    refine (toIntS_any A n c _ zs _ r11 (by omega) hn).mono ?_
    rintro e w12 ⟨AZ, nZ, cZ, rfl, hoZ, hb12⟩
    obtain rfl : n = nZ := r11.len.symm.trans hoZ.len
    have s12 := hb12.size
    have r12 := r11.below hb12 (by omega)
    have t12 := t11.below hb12 (by omega)
    have K12 := bthen K11 hb12 (by omega)
    have oS12 := oS11.below hb12 (by omega)
    have oG12 := oG11.below hb12 (by omega)
    clear r11 t11 K11 oS11 oG11 hb12
    go_wp2_with fail
    refine (nibblesOf_i AZ n cZ _ zs _ hoZ.ri (by omega) hn t12).mono ?_
    rintro e w13 ⟨AH, nH, cH, rfl, hoH, hb13⟩
    obtain rfl : nS = nH := oS12.len.symm.trans hoH.len
    have s13 := hb13.size
    have r13 := r12.below hb13 (by omega)
    have t13 := t12.below hb13 (by omega)
    have K13 := bthen K12 hb13 (by omega)
    have oS13 := oS12.below hb13 (by omega)
    have oG13 := oG12.below hb13 (by omega)
    have oZ13 := hoZ.below hb13 (by omega)
    clear r12 t12 K12 oS12 oG12 hoZ hb13
    clear oZ13
    go_wp2_with fail
    refine (eqIntS_t AH AS nS nS cH cS _ _ _ _ hoH.ri oS13.ri hm).mono ?_
    rintro e w14 ⟨rfl, hb14⟩
    have s14 := hb14.size
    have r14 := r13.below hb14 (by omega)
    have t14 := t13.below hb14 (by omega)
    have K14 := bthen K13 hb14 (by omega)
    have oS14 := oS13.below hb14 (by omega)
    have oG14 := oG13.below hb14 (by omega)
    have oH14 := hoH.below hb14 (by omega)
    clear r13 t13 K13 oS13 oG13 hoH hb14
    go_wp2_with fail
    refine (heldIntS_t AG nS cG _ 1 _ oG14.ri hm (by omega) (by omega)).mono ?_
    rintro e w15 ⟨rfl, hb15⟩
    have s15 := hb15.size
    have r15 := r14.below hb15 (by omega)
    have t15 := t14.below hb15 (by omega)
    have K15 := bthen K14 hb15 (by omega)
    have oS15 := oS14.below hb15 (by omega)
    have oG15 := oG14.below hb15 (by omega)
    have oH15 := oH14.below hb15 (by omega)
    clear r14 t14 K14 oS14 oG14 oH14 hb15
    go_wp2
    go_ret
    exact ⟨rfl, K15⟩
end Go.Proofs.YtnagphedlmbagaaDoor
