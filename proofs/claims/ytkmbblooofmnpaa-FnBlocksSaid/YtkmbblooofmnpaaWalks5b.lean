/- The walk of FnBlocks. -/
import Derived.Test.YtkmbblooofmnpaaBlkLaw
import Derived.Test.YtkmbblooofmnpaaApp3
namespace Go.Proofs.Ytkmbblooofmnpaa
open Go.RowKit Go.Deep
set_option maxRecDepth 10000 in
set_option maxHeartbeats 2000000 in
theorem walk_fnBlocks (w : World) (A : Option Addr) (n c : Nat) (zs : List Int) (r0 : RB w w.heap.size A n zs) (hz : BY zs) (_g : n ≤ c) (_i : c ≤ maxLen) :
    Calls Try.prog 7 #[.slice A n c] w fun e w' => e = .returned (.bool true) ∧ Below w.heap.size w w' := by
  by_cases hbig : 1048576 < n
  · go_enter Try.func7, Try.ntmps7
    go_wp2_with (go_at_call 12; refine (big_any _ _ _ _).mono ?_; rintro e w' ⟨rfl, rfl⟩)
    go_ret
    exact ⟨rfl, Below.refl _ _⟩
  · have hn : n ≤ 1048576 := by omega
    go_enter Try.func7, Try.ntmps7
    go_wp2_with (go_at_call 12; refine (big_any _ _ _ _).mono ?_; rintro e w' ⟨rfl, rfl⟩)
    refine (drawNibbles_any A n c _ zs _ r0 hz (Nat.le_refl _) hn).mono ?_
    rintro e w1 ⟨L, hnib, hlen, AL, nL, cL, rfl, hoL, hb1⟩
    obtain rfl : nL = L.length := hoL.len.symm
    have s1 := hb1.size
    have ED := dec_blocks hnib
    have EE := Lib.hid (encBs_nib hnib)
    obtain ⟨j, hj⟩ : ∃ j, j = (L.length + 12) / 13 := ⟨_, rfl⟩
    have hl15 := encTo_len hnib ((L.length + 12) / 13)
    rw [← hj] at ED EE hl15
    have hj1 : L.length ≤ 13 * j := by omega
    have hj2 : 13 * j < L.length + 13 := by omega
    have EB := Lib.hid ED
    have HL15 := Lib.hid hl15
    clear ED hj hl15
    go_wp2_with fail
    refine (encodeBlocks_i AL L.length cL _ L _ hoL.ri (Nat.le_refl _) (by omega) hoL.cap).mono ?_
    rw [EE.out]
    rintro e w2 ⟨AW, nW, cW, rfl, hoW, hb2⟩
    obtain rfl : nW = 15 * j := hoW.len.symm.trans HL15.out
    have s2 := hb2.size
    have K2 := bthen hb1 hb2 (by omega)
    have oL2 := hoL.below hb2 (by omega)
    clear hoL hb1 hb2
    have HL2 := own_lit0 w2
    have RW2 : RI (w2.alloc (.cells #[] 3)) w2.heap.size AW (15 * j) (encTo L j) := RI.alloc hoW.ri (Nat.le_refl _) _
    go_wp2_with (at_builtin; first
      | (refine wpList_append_ints rfl _ _ _ rfl Try.underlying24 infoInt _ _ _ _ _ _ rfl HL2 _ _ _ _ _ rfl RW2 (by omega) (by simp) ?_; intro A3 c3 w3 ho3 hoff3 hb3; rw [Nat.zero_add, List.nil_append] at ho3; have R3 := ri_three w3 1 2 3; have s3 := hb3.size; simp only [World.size_alloc] at s3)
      | (refine wpList_append_ints rfl _ _ _ rfl Try.underlying24 infoInt _ _ _ _ _ _ rfl (ho3.alloc _) _ _ _ _ _ rfl R3 (by omega) (by simp; omega) ?_; intro A4 c4 w4 ho4 hoff4 hb4))
    have s4 := hb4.size
    simp only [World.size_alloc] at s4
    have K3 := (K2.alloc (by omega) (.cells #[] 3)).trans (hb3.mono (by omega))
    have K4 := (K3.alloc (by omega) (.cells #[.int .i64 1, .int .i64 2, .int .i64 3] 3)).trans (hb4.mono (by omega))
    have KL : Below w2.heap.size w2 w4 := ((((Below.refl w2.heap.size w2).alloc (Nat.le_refl _) (.cells #[] 3)).trans hb3).alloc (by omega) (.cells #[.int .i64 1, .int .i64 2, .int .i64 3] 3)).trans hb4
    have oL4 := oL2.below KL (by omega)
    clear HL2 RW2 ho3 hoff3 hb3 R3 hoff4 hb4 K2 K3 oL2 hoW KL
    refine (decodeBlocks_i A4 _ c4 _ (encTo L j ++ [1, 2, 3]) _ ho4.ri (Nat.le_refl _) (by omega) ho4.cap).mono ?_
    rw [EB.out.1, EB.out.2.1, EB.out.2.2]
    rintro e w5 ⟨A5, n5, c5, rfl, ho5, hb5⟩
    obtain rfl : n5 = 13 * j := ho5.len.symm.trans (bkL_len L j)
    have s5 := hb5.size
    have K5 := bthen K4 hb5 (by omega)
    have oL5 := oL4.below hb5 (by omega)
    clear ho4 hb5 K4 oL4
    have hd1 : decide ((j : Int) * 13 < (L.length : Int)) = false := by simp; omega
    have hd2 : decide ((L.length : Int) + 13 ≤ (j : Int) * 13) = false := by simp; omega
    have EZ := Lib.hid (fun k (hk : k < 13 * j) => zat_bkL L j k hk)
    go_wp2
    clear hd1 hd2
    go_loopw [8] (fun i wr => ∃ k : Nat, k ≤ 13 * j ∧ i = .int .i64 k ∧ ∃ q, wr = w5.drewN q) (fun i _ => 13 * j - (intOf i).toNat)
    case atStart => exact ⟨0, Nat.zero_le _, rfl, 0, rfl⟩
    case round =>
      obtain ⟨k, hk, rfl, q, rfl⟩ := hrel
      by_cases hlt : k < 13 * j
      · obtain ⟨b, off, rfl, _, hcB⟩ := ho5.ri.at_ hlt
        rw [EZ.out k hlt] at hcB
        have hi1 : (0 : Int) ≤ (k : Int) := by omega
        have hi2 : (k : Int) < ((13 * j : Nat) : Int) := by omega
        by_cases hkl : k < L.length
        · obtain ⟨b', off', rfl, _, hcL⟩ := oL5.ri.at_ hkl
          have hi3 : (k : Int) < (L.length : Int) := by omega
          have hi4 : decide ((L.length : Int) ≤ (k : Int)) = false := by simp; omega
          have hi5 : ¬ L.length ≤ k := by omega
          go_wp2
          go_quiet (fail)
          go_wp2
          go_roundw
          case rel => exact ⟨k + 1, by omega, by go_num, _, rfl⟩
          case measure => simp [intOf]; omega
        · have hz0 : zat L k = 0 := zat_none (by omega)
          rw [hz0] at hcB
          have hi3 : ¬ (k : Int) < (L.length : Int) := by omega
          have hi5 : L.length ≤ k := by omega
          clear hz0
          go_wp2
          go_quiet (fail)
          go_wp2
          go_roundw
          case rel => exact ⟨k + 1, by omega, by go_num, _, rfl⟩
          case measure => simp [intOf]; omega
      · obtain rfl : k = 13 * j := by omega
        go_wp2
        go_ret
        exact ⟨rfl, below_drewN K5 q⟩
end Go.Proofs.Ytkmbblooofmnpaa
