/- The walk of FnExactSendLanes. Made by wip/tools/exss.py. -/
import Derived.Test.YtkmbblooofmnpaaSend2
import Derived.Test.YtkmbblooofmnpaaII4
namespace Go.Proofs.Ytkmbblooofmnpaa
open Go.RowKit Go.Deep
set_option maxHeartbeats 2000000 in
theorem walk_fnExactSendLanes (w : World) (Ax : Option Addr) (nx cx : Nat) (xs : List Int) (r0 : RI w w.heap.size Ax nx xs) (_f0 : WF xs) (_g0 : nx ≤ cx) (_i0 : cx ≤ maxLen) (As : Option Addr) (n cs : Nat) (sk : List Int) (r1 : RI w w.heap.size As n sk) (_f1 : WF sk) (_g1 : n ≤ cs) (_i1 : cs ≤ maxLen) :
    Calls Try.prog 8 #[.slice Ax nx cx, .slice As n cs] w fun e w' => e = .returned (.bool true) ∧ Below w.heap.size w w' := by
  by_cases hb_x : 1048576 < nx
  · go_enter Try.func8, Try.ntmps8
    go_wp2
    go_ret
    exact ⟨rfl, Below.refl _ _⟩
  by_cases hb_s : 1048576 < n
  · go_enter Try.func8, Try.ntmps8
    go_wp2
    go_ret
    exact ⟨rfl, Below.refl _ _⟩
  have hnx : nx ≤ 1048576 := by omega
  have hn : n ≤ 1048576 := by omega
  have HTT : Hid (tot (sendF xs sk) ≤ 1048640) := Lib.hid (by have := sendF_tot xs sk; have := r0.len; omega)
  have HRF : Hid (∀ l ∈ sendF xs sk, l.length ≤ 4294967296) := Lib.hid fun l hl => by have := tot_mem hl; have := HTT.out; omega
  have HNF : Hid ((sendF xs sk).length ≤ 4) := Lib.hid (sendF_len4 xs sk)
  have hp : decide (1 + (nx : Int) + (n : Int) < 0) = false := by simp; omega
  go_enter Try.func8, Try.ntmps8
  go_wp2_with fail
  refine (toIntS_any Ax nx cx _ xs _ r0 (by omega) (by omega)).mono ?_
  rintro e w1 ⟨AT, nT, cT, rfl, hoT, hb1⟩
  obtain rfl : nx = nT := r0.len.symm.trans hoT.len
  have s1 := hb1.size
  have rx1 := r0.below hb1 (by omega)
  have rs1 := r1.below hb1 (by omega)
  have K1 := hb1
  clear r0 r1 hb1
  go_wp2_with fail
  refine (toIntS_any As n cs _ sk _ rs1 (by omega) (by omega)).mono ?_
  rintro e w2 ⟨AU, nU, cU, rfl, hoU, hb2⟩
  obtain rfl : n = nU := rs1.len.symm.trans hoU.len
  have s2 := hb2.size
  have rx2 := rx1.below hb2 (by omega)
  have rs2 := rs1.below hb2 (by omega)
  have K2 := bthen K1 hb2 (by omega)
  have oT2 := hoT.below hb2 (by omega)
  clear rx1 rs1 K1 hoT hb2
  go_wp2_with fail
  refine (send_s AT AU nx cT _ n cU _ xs sk _ oT2.ri hoU.ri (by omega) (by omega) hnx hn).mono ?_
  rintro e w3 ⟨AS, nS, cS, rfl, hoS, hb3⟩
  have s3 := hb3.size
  have rx3 := rx2.below hb3 (by omega)
  have rs3 := rs2.below hb3 (by omega)
  have K3 := bthen K2 hb3 (by omega)
  have oT3 := oT2.below hb3 (by omega)
  have oU3 := hoU.below hb3 (by omega)
  clear rx2 rs2 K2 oT2 hoU hb3
  have HNS := Lib.hid hoS.len
  clear oT3
  clear oU3
  go_wp2_with fail
  refine (toIntS_any Ax nx cx _ xs _ rx3 (by omega) (by omega)).mono ?_
  rintro e w4 ⟨AX, nX, cX, rfl, hoX, hb4⟩
  obtain rfl : nx = nX := rx3.len.symm.trans hoX.len
  have s4 := hb4.size
  have rx4 := rx3.below hb4 (by omega)
  have rs4 := rs3.below hb4 (by omega)
  have K4 := bthen K3 hb4 (by omega)
  have oS4 := hoS.below hb4 (by omega)
  clear rx3 rs3 K3 hoS hb4
  go_wp2_with fail
  refine (toIntS_any As n cs _ sk _ rs4 (by omega) (by omega)).mono ?_
  rintro e w5 ⟨AV, nV, cV, rfl, hoV, hb5⟩
  obtain rfl : n = nV := rs4.len.symm.trans hoV.len
  have s5 := hb5.size
  have rx5 := rx4.below hb5 (by omega)
  have rs5 := rs4.below hb5 (by omega)
  have K5 := bthen K4 hb5 (by omega)
  have oS5 := oS4.below hb5 (by omega)
  have oX5 := hoX.below hb5 (by omega)
  clear rx4 rs4 K4 oS4 hoX hb5
  go_wp2_with fail
  refine (send_i AX AV nx cX _ n cV _ xs sk _ oX5.ri hoV.ri (by omega) (by omega) hnx hn).mono ?_
  rintro e w6 ⟨AG, nG, cG, rfl, hoG, hb6⟩
  obtain rfl : nS = nG := oS5.len.symm.trans hoG.len
  have s6 := hb6.size
  have rx6 := rx5.below hb6 (by omega)
  have rs6 := rs5.below hb6 (by omega)
  have K6 := bthen K5 hb6 (by omega)
  have oS6 := oS5.below hb6 (by omega)
  have oX6 := oX5.below hb6 (by omega)
  have oV6 := hoV.below hb6 (by omega)
  clear rx5 rs5 K5 oS5 oX5 hoV hb6
  have hnS : nS ≤ 4 := by have := HNS.out; have := HNF.out; omega
  clear HNS HNF
  go_wp2_with fail
  refine (eqIntSS_b AG AS nS nS cG cS _ _ _ _ hoG.rss oS6.rss (by omega) HRF.out).mono ?_
  rintro e w7 ⟨rfl, hb7⟩
  have s7 := hb7.size
  have rx7 := rx6.below hb7 (by omega)
  have rs7 := rs6.below hb7 (by omega)
  have K7 := bthen K6 hb7 (by omega)
  have oS7 := oS6.below hb7 (by omega)
  have oX7 := oX6.below hb7 (by omega)
  have oV7 := oV6.below hb7 (by omega)
  have oG7 := hoG.below hb7 (by omega)
  clear rx6 rs6 K6 oS6 oX6 oV6 hoG hb7
  go_wp2_with fail
  refine (toIntS_any Ax nx cx _ xs _ rx7 (by omega) (by omega)).mono ?_
  rintro e w8 ⟨AY, nY, cY, rfl, hoY, hb8⟩
  obtain rfl : nx = nY := rx7.len.symm.trans hoY.len
  have s8 := hb8.size
  have rx8 := rx7.below hb8 (by omega)
  have rs8 := rs7.below hb8 (by omega)
  have K8 := bthen K7 hb8 (by omega)
  have oS8 := oS7.below hb8 (by omega)
  have oX8 := oX7.below hb8 (by omega)
  have oV8 := oV7.below hb8 (by omega)
  have oG8 := oG7.below hb8 (by omega)
  clear rx7 rs7 K7 oS7 oX7 oV7 oG7 hb8
  go_wp2_with fail
  refine (eqIntS_t AX AY nx nx cX cY _ _ _ _ oX8.ri hoY.ri (by omega)).mono ?_
  rintro e w9 ⟨rfl, hb9⟩
  have s9 := hb9.size
  have rx9 := rx8.below hb9 (by omega)
  have rs9 := rs8.below hb9 (by omega)
  have K9 := bthen K8 hb9 (by omega)
  have oS9 := oS8.below hb9 (by omega)
  have oX9 := oX8.below hb9 (by omega)
  have oV9 := oV8.below hb9 (by omega)
  have oG9 := oG8.below hb9 (by omega)
  have oY9 := hoY.below hb9 (by omega)
  clear rx8 rs8 K8 oS8 oX8 oV8 oG8 hoY hb9
  clear oY9
  go_wp2_with fail
  refine (toIntS_any As n cs _ sk _ rs9 (by omega) (by omega)).mono ?_
  rintro e w10 ⟨AZ, nZ, cZ, rfl, hoZ, hb10⟩
  obtain rfl : n = nZ := rs9.len.symm.trans hoZ.len
  have s10 := hb10.size
  have rx10 := rx9.below hb10 (by omega)
  have rs10 := rs9.below hb10 (by omega)
  have K10 := bthen K9 hb10 (by omega)
  have oS10 := oS9.below hb10 (by omega)
  have oX10 := oX9.below hb10 (by omega)
  have oV10 := oV9.below hb10 (by omega)
  have oG10 := oG9.below hb10 (by omega)
  clear rx9 rs9 K9 oS9 oX9 oV9 oG9 hb10
  go_wp2_with fail
  refine (eqIntS_t AV AZ n n cV cZ _ _ _ _ oV10.ri hoZ.ri (by omega)).mono ?_
  rintro e w11 ⟨rfl, hb11⟩
  have s11 := hb11.size
  have rx11 := rx10.below hb11 (by omega)
  have rs11 := rs10.below hb11 (by omega)
  have K11 := bthen K10 hb11 (by omega)
  have oS11 := oS10.below hb11 (by omega)
  have oX11 := oX10.below hb11 (by omega)
  have oV11 := oV10.below hb11 (by omega)
  have oG11 := oG10.below hb11 (by omega)
  have oZ11 := hoZ.below hb11 (by omega)
  clear rx10 rs10 K10 oS10 oX10 oV10 oG10 hoZ hb11
  clear oZ11
  go_wp2_with fail
  refine (markIntS_any AX nx cX _ _ 1 _ _ oX11 (by omega) (by omega) (by omega)).mono ?_
  rintro e w12 ⟨rfl, omX12, hf12⟩
  have s12 := hf12.size
  have hw12 := hf12.below (B := w.heap.size) (by omega) (by omega)
  have rx12 := rx11.below hw12 (Nat.le_refl _)
  have rs12 := rs11.below hw12 (Nat.le_refl _)
  have K12 := K11.trans hw12
  have oS12 := oS11.off hf12 (by omega)
  have oV12 := oV11.off hf12 (by omega)
  have oG12 := oG11.off hf12 (by omega)
  clear oX11 rx11 rs11 K11 hw12 oS11 oV11 oG11 hf12
  clear omX12
  go_wp2_with fail
  refine (markIntS_any AV n cV _ _ (1 + (nx : Int)) _ _ oV12 (by omega) (by omega) (by omega)).mono ?_
  rintro e w13 ⟨rfl, omV13, hf13⟩
  have s13 := hf13.size
  have hw13 := hf13.below (B := w.heap.size) (by omega) (by omega)
  have rx13 := rx12.below hw13 (Nat.le_refl _)
  have rs13 := rs12.below hw13 (Nat.le_refl _)
  have K13 := K12.trans hw13
  have oS13 := oS12.off hf13 (by omega)
  have oG13 := oG12.off hf13 (by omega)
  clear oV12 rx12 rs12 K12 hw13 oS12 oG12 hf13
  clear omV13
  go_wp2_with fail
  refine (eqIntSS_b AG AS nS nS cG cS _ _ _ _ oG13.rss oS13.rss (by omega) HRF.out).mono ?_
  rintro e w14 ⟨rfl, hb14⟩
  have s14 := hb14.size
  have rx14 := rx13.below hb14 (by omega)
  have rs14 := rs13.below hb14 (by omega)
  have K14 := bthen K13 hb14 (by omega)
  have oS14 := oS13.below hb14 (by omega)
  have oG14 := oG13.below hb14 (by omega)
  clear rx13 rs13 K13 oS13 oG13 hb14
  go_wp2_with fail
  refine (markIntSS_any AG nS cG _ _ 1 _ _ oG14 (by have := HTT.out; omega) (by omega) (by omega)).mono ?_
  rintro e w15 ⟨rfl, omG15, hf15⟩
  have s15 := hf15.size
  have hw15 := hf15.below (B := w.heap.size) (by omega) (by omega)
  have rx15 := rx14.below hw15 (Nat.le_refl _)
  have rs15 := rs14.below hw15 (Nat.le_refl _)
  have K15 := K14.trans hw15
  have oS15 := oS14.off hf15 (by omega)
  clear oG14 rx14 rs14 K14 hw15 oS14 hf15
  go_wp2_with fail
  refine (heldIntSS_any AG nS cG _ 1 _ _ omG15.rss (by have := HTT.out; omega) (by omega) (by omega)).mono ?_
  rintro e w16 ⟨rfl, hb16⟩
  have s16 := hb16.size
  have rx16 := rx15.below hb16 (by omega)
  have rs16 := rs15.below hb16 (by omega)
  have K16 := bthen K15 hb16 (by omega)
  have oS16 := oS15.below hb16 (by omega)
  have oG16 := omG15.below hb16 (by omega)
  clear rx15 rs15 K15 oS15 omG15 hb16
  go_wp2_with fail
  refine (toIntS_any Ax nx cx _ xs _ rx16 (by omega) (by omega)).mono ?_
  rintro e w17 ⟨AP, nP, cP, rfl, hoP, hb17⟩
  obtain rfl : nx = nP := rx16.len.symm.trans hoP.len
  have s17 := hb17.size
  have rx17 := rx16.below hb17 (by omega)
  have rs17 := rs16.below hb17 (by omega)
  have K17 := bthen K16 hb17 (by omega)
  have oS17 := oS16.below hb17 (by omega)
  have oG17 := oG16.below hb17 (by omega)
  clear rx16 rs16 K16 oS16 oG16 hb17
  go_wp2_with fail
  refine (toIntS_any As n cs _ sk _ rs17 (by omega) (by omega)).mono ?_
  rintro e w18 ⟨AQ, nQ, cQ, rfl, hoQ, hb18⟩
  obtain rfl : n = nQ := rs17.len.symm.trans hoQ.len
  have s18 := hb18.size
  have rx18 := rx17.below hb18 (by omega)
  have rs18 := rs17.below hb18 (by omega)
  have K18 := bthen K17 hb18 (by omega)
  have oS18 := oS17.below hb18 (by omega)
  have oG18 := oG17.below hb18 (by omega)
  have oP18 := hoP.below hb18 (by omega)
  clear rx17 rs17 K17 oS17 oG17 hoP hb18
  go_wp2_with fail
  refine (send_i AP AQ nx cP _ n cQ _ xs sk _ oP18.ri hoQ.ri (by omega) (by omega) hnx hn).mono ?_
  rintro e w19 ⟨AH, nH, cH, rfl, hoH, hb19⟩
  obtain rfl : nS = nH := oS18.len.symm.trans hoH.len
  have s19 := hb19.size
  have rx19 := rx18.below hb19 (by omega)
  have rs19 := rs18.below hb19 (by omega)
  have K19 := bthen K18 hb19 (by omega)
  have oS19 := oS18.below hb19 (by omega)
  have oG19 := oG18.below hb19 (by omega)
  have oP19 := oP18.below hb19 (by omega)
  have oQ19 := hoQ.below hb19 (by omega)
  clear rx18 rs18 K18 oS18 oG18 oP18 hoQ hb19
  clear oP19
  clear oQ19
  go_wp2_with fail
  refine (eqIntSS_b AH AS nS nS cH cS _ _ _ _ hoH.rss oS19.rss (by omega) HRF.out).mono ?_
  rintro e w20 ⟨rfl, hb20⟩
  have s20 := hb20.size
  have rx20 := rx19.below hb20 (by omega)
  have rs20 := rs19.below hb20 (by omega)
  have K20 := bthen K19 hb20 (by omega)
  have oS20 := oS19.below hb20 (by omega)
  have oG20 := oG19.below hb20 (by omega)
  have oH20 := hoH.below hb20 (by omega)
  clear rx19 rs19 K19 oS19 oG19 hoH hb20
  go_wp2_with fail
  refine (heldIntSS_any AG nS cG _ 1 _ _ oG20.rss (by have := HTT.out; omega) (by omega) (by omega)).mono ?_
  rintro e w21 ⟨rfl, hb21⟩
  have s21 := hb21.size
  have rx21 := rx20.below hb21 (by omega)
  have rs21 := rs20.below hb21 (by omega)
  have K21 := bthen K20 hb21 (by omega)
  have oS21 := oS20.below hb21 (by omega)
  have oG21 := oG20.below hb21 (by omega)
  have oH21 := oH20.below hb21 (by omega)
  clear rx20 rs20 K20 oS20 oG20 oH20 hb21
  go_wp2
  go_ret
  exact ⟨rfl, K21⟩
end Go.Proofs.Ytkmbblooofmnpaa
