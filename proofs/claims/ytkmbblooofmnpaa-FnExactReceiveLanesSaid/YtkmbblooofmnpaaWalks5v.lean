/- The walk of FnExactReceiveLanes. Made by wip/tools/exss.py. -/
import Derived.Test.YtkmbblooofmnpaaRecv2
namespace Go.Proofs.Ytkmbblooofmnpaa
open Go.RowKit Go.Deep
set_option maxHeartbeats 2000000 in
theorem walk_fnExactReceiveLanes (w : World) (A : Option Addr) (n c : Nat) (L : List (List Int)) (r0 : RSS w w.heap.size A n L) (g0 : n ≤ c) (i0 : c ≤ maxLen) :
    Calls Try.prog 4 #[.slice A n c] w fun e w' => e = .returned (.bool true) ∧ Below w.heap.size w w' := by
  go_enter Try.func4, Try.ntmps4
  go_wp2_with fail
  refine (szIntSS_any A n c _ 1048576 L _ r0 (by omega) (by omega) g0 i0).mono ?_
  rintro e w' ⟨⟨r, rfl, hr1, hr2⟩, rfl⟩
  by_cases hr : r < 0
  · go_wp2
    go_ret
    exact ⟨rfl, Below.refl _ _⟩
  · have hT := hr2 (by omega)
    clear hr1 hr2
    have hn : n ≤ 1048576 := by omega
    have HR : Hid (∀ l ∈ L, l.length ≤ 4294967296) := Lib.hid fun l hl => by have := tot_mem hl; omega
    have HF : Hid ((recvF L).1.length ≤ 4194304) := Lib.hid (by have := recvF_len L; have := r0.len; omega)
    have hp : decide (1 + (tot L : Int) < 0) = false := by simp; omega
    obtain ⟨rb, hrb⟩ : ∃ rb, Hid ((recvF L).2 = rb) := ⟨_, Lib.hid rfl⟩
    go_wp2_with fail
    refine (toIntSS_any A n c _ L _ r0 (by omega) hn HR.out).mono ?_
    rintro e w1 ⟨AT, nT, cT, rfl, hoT, hb1⟩
    obtain rfl : n = nT := r0.len.symm.trans hoT.len
    have s1 := hb1.size
    have ra1 := r0.below hb1 (by omega)
    have K1 := hb1
    clear r0 hb1
    go_wp2_with fail
    refine (recv_s AT n cT _ L _ hoT.rss (by omega) hn HR.out).mono ?_
    rintro e w2 ⟨AS, nS, cS, rfl, hoS, hb2⟩
    have s2 := hb2.size
    have ra2 := ra1.below hb2 (by omega)
    have K2 := bthen K1 hb2 (by omega)
    have oT2 := hoT.below hb2 (by omega)
    clear ra1 K1 hoT hb2
    have HNS := Lib.hid hoS.len
    clear oT2
    go_wp2_with fail
    refine (toIntSS_any A n c _ L _ ra2 (by omega) hn HR.out).mono ?_
    rintro e w3 ⟨AX, nX, cX, rfl, hoX, hb3⟩
    obtain rfl : n = nX := ra2.len.symm.trans hoX.len
    have s3 := hb3.size
    have ra3 := ra2.below hb3 (by omega)
    have K3 := bthen K2 hb3 (by omega)
    have oS3 := hoS.below hb3 (by omega)
    clear ra2 K2 hoS hb3
    go_wp2_with fail
    refine (recv_i AX n cX _ L _ hoX.rss (by omega) hn HR.out).mono ?_
    rintro e w4 ⟨AG, nG, cG, rfl, hoG, hb4⟩
    obtain rfl : nS = nG := oS3.len.symm.trans hoG.len
    have s4 := hb4.size
    have ra4 := ra3.below hb4 (by omega)
    have K4 := bthen K3 hb4 (by omega)
    have oS4 := oS3.below hb4 (by omega)
    have oX4 := hoX.below hb4 (by omega)
    clear ra3 K3 oS3 hoX hb4
    have hm : nS ≤ 4194304 := by have := HNS.out; have := HF.out; omega
    clear HNS HF
    go_wp2_with fail
    refine (eqIntS_t AG AS nS nS cG cS _ _ _ _ hoG.ri oS4.ri (by omega)).mono ?_
    rintro e w5 ⟨rfl, hb5⟩
    have s5 := hb5.size
    have ra5 := ra4.below hb5 (by omega)
    have K5 := bthen K4 hb5 (by omega)
    have oS5 := oS4.below hb5 (by omega)
    have oX5 := oX4.below hb5 (by omega)
    have oG5 := hoG.below hb5 (by omega)
    clear ra4 K4 oS4 oX4 hoG hb5
    go_wp2_with fail
    refine (toIntSS_any A n c _ L _ ra5 (by omega) hn HR.out).mono ?_
    rintro e w6 ⟨AY, nY, cY, rfl, hoY, hb6⟩
    obtain rfl : n = nY := ra5.len.symm.trans hoY.len
    have s6 := hb6.size
    have ra6 := ra5.below hb6 (by omega)
    have K6 := bthen K5 hb6 (by omega)
    have oS6 := oS5.below hb6 (by omega)
    have oX6 := oX5.below hb6 (by omega)
    have oG6 := oG5.below hb6 (by omega)
    clear ra5 K5 oS5 oX5 oG5 hb6
    go_wp2_with fail
    refine (eqIntSS_b AX AY n n cX cY _ _ _ _ oX6.rss hoY.rss (by omega) HR.out).mono ?_
    rintro e w7 ⟨rfl, hb7⟩
    have s7 := hb7.size
    have ra7 := ra6.below hb7 (by omega)
    have K7 := bthen K6 hb7 (by omega)
    have oS7 := oS6.below hb7 (by omega)
    have oX7 := oX6.below hb7 (by omega)
    have oG7 := oG6.below hb7 (by omega)
    have oY7 := hoY.below hb7 (by omega)
    clear ra6 K6 oS6 oX6 oG6 hoY hb7
    clear oY7
    go_wp2_with fail
    refine (markIntSS_any AX n cX _ _ 1 _ _ oX7 (by omega) (by omega) (by omega)).mono ?_
    rintro e w8 ⟨rfl, omX8, hf8⟩
    have s8 := hf8.size
    have hw8 := hf8.below (B := w.heap.size) (by omega) (by omega)
    have ra8 := ra7.below hw8 (Nat.le_refl _)
    have K8 := K7.trans hw8
    have oS8 := oS7.off hf8 (by omega)
    have oG8 := oG7.off hf8 (by omega)
    clear oX7 ra7 K7 hw8 oS7 oG7 hf8
    clear omX8
    go_wp2_with fail
    refine (eqIntS_t AG AS nS nS cG cS _ _ _ _ oG8.ri oS8.ri (by omega)).mono ?_
    rintro e w9 ⟨rfl, hb9⟩
    have s9 := hb9.size
    have ra9 := ra8.below hb9 (by omega)
    have K9 := bthen K8 hb9 (by omega)
    have oS9 := oS8.below hb9 (by omega)
    have oG9 := oG8.below hb9 (by omega)
    clear ra8 K8 oS8 oG8 hb9
    go_wp2_with fail
    refine (markIntS_any AG nS cG _ _ 1 _ _ oG9 (by omega) (by omega) (by omega)).mono ?_
    rintro e w10 ⟨rfl, omG10, hf10⟩
    have s10 := hf10.size
    have hw10 := hf10.below (B := w.heap.size) (by omega) (by omega)
    have ra10 := ra9.below hw10 (Nat.le_refl _)
    have K10 := K9.trans hw10
    have oS10 := oS9.off hf10 (by omega)
    clear oG9 ra9 K9 hw10 oS9 hf10
    go_wp2_with fail
    refine (heldIntS_t AG nS cG _ 1 _ omG10.ri (by omega) (by omega) (by omega)).mono ?_
    rintro e w11 ⟨rfl, hb11⟩
    have s11 := hb11.size
    have ra11 := ra10.below hb11 (by omega)
    have K11 := bthen K10 hb11 (by omega)
    have oS11 := oS10.below hb11 (by omega)
    have oG11 := omG10.below hb11 (by omega)
    clear ra10 K10 oS10 omG10 hb11
    go_wp2_with fail
    refine (toIntSS_any A n c _ L _ ra11 (by omega) hn HR.out).mono ?_
    rintro e w12 ⟨AZ, nZ, cZ, rfl, hoZ, hb12⟩
    obtain rfl : n = nZ := ra11.len.symm.trans hoZ.len
    have s12 := hb12.size
    have ra12 := ra11.below hb12 (by omega)
    have K12 := bthen K11 hb12 (by omega)
    have oS12 := oS11.below hb12 (by omega)
    have oG12 := oG11.below hb12 (by omega)
    clear ra11 K11 oS11 oG11 hb12
    go_wp2_with fail
    refine (recv_i AZ n cZ _ L _ hoZ.rss (by omega) hn HR.out).mono ?_
    rintro e w13 ⟨AH, nH, cH, rfl, hoH, hb13⟩
    obtain rfl : nS = nH := oS12.len.symm.trans hoH.len
    have s13 := hb13.size
    have ra13 := ra12.below hb13 (by omega)
    have K13 := bthen K12 hb13 (by omega)
    have oS13 := oS12.below hb13 (by omega)
    have oG13 := oG12.below hb13 (by omega)
    have oZ13 := hoZ.below hb13 (by omega)
    clear ra12 K12 oS12 oG12 hoZ hb13
    clear oZ13
    go_wp2_with fail
    refine (eqIntS_t AH AS nS nS cH cS _ _ _ _ hoH.ri oS13.ri (by omega)).mono ?_
    rintro e w14 ⟨rfl, hb14⟩
    have s14 := hb14.size
    have ra14 := ra13.below hb14 (by omega)
    have K14 := bthen K13 hb14 (by omega)
    have oS14 := oS13.below hb14 (by omega)
    have oG14 := oG13.below hb14 (by omega)
    have oH14 := hoH.below hb14 (by omega)
    clear ra13 K13 oS13 oG13 hoH hb14
    go_wp2_with fail
    refine (heldIntS_t AG nS cG _ 1 _ oG14.ri (by omega) (by omega) (by omega)).mono ?_
    rintro e w15 ⟨rfl, hb15⟩
    have s15 := hb15.size
    have ra15 := ra14.below hb15 (by omega)
    have K15 := bthen K14 hb15 (by omega)
    have oS15 := oS14.below hb15 (by omega)
    have oG15 := oG14.below hb15 (by omega)
    have oH15 := oH14.below hb15 (by omega)
    clear ra14 K14 oS14 oG14 oH14 hb15
    go_wp2
    go_ret
    exact ⟨rfl, K15⟩
end Go.Proofs.Ytkmbblooofmnpaa
