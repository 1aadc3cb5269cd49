/- The walk of FnFarApart. -/
import Derived.Test.YtbdpmibbfnkabaaWalks2c
namespace Go.Proofs.Ytbdpmibbfnkabaa
open Go.RowKit Go.Deep
theorem Own.lt_ {w : World} {g n c : Nat} {A : Option Addr} {zs : List Int} (h : Own w g (g + 1) A n c zs) (hn : 0 < n) : g < w.heap.size := by
  obtain ⟨h1, h2, h3, h4⟩ := h
  rcases h4 with ⟨_, h4⟩ | ⟨g', cur, _, hl, hh, hg, _⟩
  · omega
  · have := heap_lt hg; omega
theorem btoi_t (w : World) : Calls Try.prog 26 #[.bool true] w fun e w' => e = .returned (.int .i64 1) ∧ w = w' := btoi_any true w
theorem btoi_f (w : World) : Calls Try.prog 26 #[.bool false] w fun e w' => e = .returned (.int .i64 0) ∧ w = w' := btoi_any false w
set_option maxHeartbeats 1000000 in
theorem walk_fnFarApart (w : World) (A : Option Addr) (n c : Nat) (zs : List Int) (r0 : RB w w.heap.size A n zs) (hz : BY zs) (_g : n ≤ c) (_i : c ≤ maxLen) :
    Calls Try.prog 8 #[.slice A n c] w fun e w' => e = .returned (.bool true) ∧ Below w.heap.size w w' := by
  by_cases hbig : 1048576 < n
  · go_enter Try.func8, Try.ntmps8
    go_wp2_with (go_at_call 19; refine (big_any _ _ _ _).mono ?_; rintro e w' ⟨rfl, rfl⟩)
    go_ret
    exact ⟨rfl, Below.refl _ _⟩
  · have hn : n ≤ 1048576 := by omega
    go_enter Try.func8, Try.ntmps8
    go_wp2_with (go_at_call 19; refine (big_any _ _ _ _).mono ?_; rintro e w' ⟨rfl, rfl⟩)
    have HA0 : Own ((w.alloc (.cells #[] 3)).alloc (.cells #[] 3)) w.heap.size (w.heap.size + 1) (some ⟨w.heap.size, 0, none⟩) 0 0 [] := (own_lit0 w).alloc _
    have HB0 : Own ((w.alloc (.cells #[] 3)).alloc (.cells #[] 3)) (w.heap.size + 1) (w.heap.size + 1 + 1) (some ⟨w.heap.size + 1, 0, none⟩) 0 0 [] := by simpa using own_lit0 (w.alloc (.cells #[] 3))
    have hr0 := Lib.hid (fun i => atF_rng hz i)
    go_loopw [3, 4, 5] (fun u v i wr => ∃ k : Nat, k ≤ 13 ∧ i = .int .i64 k ∧ ∃ (A1 A2 : Option Addr) (c1 c2 ga gb : Nat), u = .slice A1 k c1 ∧ v = .slice A2 k c2 ∧ Own wr ga (ga + 1) A1 k c1 (nibL zs k) ∧ Own wr gb (gb + 1) A2 k c2 (nibM zs k) ∧ w.heap.size ≤ ga ∧ w.heap.size ≤ gb ∧ ga < wr.heap.size ∧ gb < wr.heap.size ∧ Hid (ga ≠ gb) ∧ Below w.heap.size w wr) (fun _ _ i _ => 13 - (intOf i).toNat)
    case atStart => exact ⟨0, by omega, rfl, _, _, _, _, _, _, rfl, rfl, HA0, HB0, Nat.le_refl _, by omega, by simp; omega, by simp, Lib.hid (by omega), ((Below.refl _ _).alloc (Nat.le_refl _) _).alloc (by simp) _⟩
    case round =>
      obtain ⟨k, hk, rfl, A1, A2, c1, c2, ga, gb, rfl, rfl, ho1, ho2, hga, hgb, hga2, hgb2, hne, K1⟩ := hrel
      have s1 := K1.size
      have rr := RB.below r0 K1 (Nat.le_refl _)
      clear HA0 HB0
      by_cases hlt : k < 13
      · have hr := hr0.out k
        have hr2 := hr0.out (k + 20)
        have HS := Lib.hid (nibL_succ zs k)
        have HM := Lib.hid (nibM_succ zs k)
        go_wp2_with (first | (go_at_call 20; refine (at_any A n c _ zs k _ rr hz hn (by omega)).mono ?_; rintro e w' ⟨rfl, rfl⟩) | (at_builtin; have _t := rr; refine wpList_append_at rfl _ _ _ rfl Try.underlying29 infoInt _ _ _ _ _ rfl (ho1.alloc _) _ _ _ _ _ rfl (ri_one _ _ _) (by omega) (by simp; omega) ?_; intro A3 c3 w3 g3 ho3 hoff3 hg3; clear rr _t))
        rw [← HS.out] at ho3
        have s3 := hoff3.size
        simp only [World.size_alloc] at s3 hg3
        have hg3lt := ho3.lt_ (by omega)
        have ho2a : Own w3 gb (gb + 1) A2 k c2 (nibM zs k) := (ho2.alloc _).off hoff3 (by have := hne.out; omega)
        have K3 : Below w.heap.size w w3 := (K1.alloc s1 _).trans (hoff3.below hga (by simp; omega))
        have rr3 := RB.below r0 K3 (Nat.le_refl _)
        have hne3 : Hid (g3 ≠ gb) := Lib.hid (by have := hne.out; omega)
        have e20 : ((k : Int) + 20).toNat = k + 20 := by omega
        clear ho1 ho2 hoff3 K1
        by_cases h6 : atF zs (k + 20) % 6 = 0
        · have h6' : (atF zs (k + 20) % 6 == 0) = true := by simp [h6]
          have HM2 := Lib.hid (show nibM zs k ++ [(atF zs k + 1) % 16] = nibM zs (k + 1) by rw [HM.out, if_pos h6])
          clear h6
          · skip
            go_wp2_with (first | (go_at_call 20; refine (at_int A n c _ zs _ _ rr3 hz hn (by omega) (by omega)).mono ?_; rintro e w' ⟨rfl, rfl⟩) | (go_at_call 26; refine (btoi_any _ _).mono ?_; rintro e w' ⟨rfl, rfl⟩) | (at_builtin; have _t := rr3; refine wpList_append_at rfl _ _ _ rfl Try.underlying29 infoInt _ _ _ _ _ rfl (ho2a.alloc _) _ _ _ _ _ rfl (ri_one _ _ _) (by omega) (by simp; omega) ?_; intro A4 c4 w4 g4 ho4 hoff4 hg4; clear rr3 _t))
            rw [HM2.out] at ho4
            have s4 := hoff4.size
            simp only [World.size_alloc] at s4 hg4
            have hg4lt := ho4.lt_ (by omega)
            have ho3b : Own w4 g3 (g3 + 1) A3 (k + 1) c3 (nibL zs (k + 1)) := (ho3.alloc _).off hoff4 (by have := hne3.out; omega)
            have K4 : Below w.heap.size w w4 := (K3.alloc (by omega) _).trans (hoff4.below (by omega) (by simp; omega))
            clear ho3 ho2a hoff4 K3
            go_roundw
            case rel => exact ⟨k + 1, by omega, by go_num, _, _, _, _, g3, g4, rfl, rfl, ho3b, ho4, by omega, by omega, by omega, by omega, Lib.hid (by have := hne3.out; omega), K4⟩
            case measure => simp [intOf]; omega
        · have h6' : (atF zs (k + 20) % 6 == 0) = false := by simp [h6]
          have HM2 := Lib.hid (show nibM zs k ++ [atF zs k % 16] = nibM zs (k + 1) by rw [HM.out, if_neg h6, Int.add_zero])
          clear h6
          · skip
            go_wp2_with (first | (go_at_call 20; refine (at_int A n c _ zs _ _ rr3 hz hn (by omega) (by omega)).mono ?_; rintro e w' ⟨rfl, rfl⟩) | (go_at_call 26; refine (btoi_any _ _).mono ?_; rintro e w' ⟨rfl, rfl⟩) | (at_builtin; have _t := rr3; refine wpList_append_at rfl _ _ _ rfl Try.underlying29 infoInt _ _ _ _ _ rfl (ho2a.alloc _) _ _ _ _ _ rfl (ri_one _ _ _) (by omega) (by simp; omega) ?_; intro A4 c4 w4 g4 ho4 hoff4 hg4; clear rr3 _t))
            rw [HM2.out] at ho4
            have s4 := hoff4.size
            simp only [World.size_alloc] at s4 hg4
            have hg4lt := ho4.lt_ (by omega)
            have ho3b : Own w4 g3 (g3 + 1) A3 (k + 1) c3 (nibL zs (k + 1)) := (ho3.alloc _).off hoff4 (by have := hne3.out; omega)
            have K4 : Below w.heap.size w w4 := (K3.alloc (by omega) _).trans (hoff4.below (by omega) (by simp; omega))
            clear ho3 ho2a hoff4 K3
            go_roundw
            case rel => exact ⟨k + 1, by omega, by go_num, _, _, _, _, g3, g4, rfl, rfl, ho3b, ho4, by omega, by omega, by omega, by omega, Lib.hid (by have := hne3.out; omega), K4⟩
            case measure => simp [intOf]; omega
      · obtain rfl : k = 13 := by omega
        obtain ⟨a, ha⟩ : ∃ a, a = nibL zs 13 := ⟨_, rfl⟩
        obtain ⟨b, hb⟩ : ∃ b, b = nibM zs 13 := ⟨_, rfl⟩
        rw [← ha] at ho1
        rw [← hb] at ho2
        have HOA := Lib.hid (show ok13 a = true by rw [ha]; exact nibL_ok zs)
        have HOB := Lib.hid (show ok13 b = true by rw [hb]; exact nibM_ok zs)
        have HEA := Lib.hid (show encF a = encW a by have := HOA.out; simp [encF, this])
        have HEB := Lib.hid (show encF b = encW b by have := HOB.out; simp [encF, this])
        have HFA := Lib.hid (far_apart HOA.out HOB.out)
        have HLA := Lib.hid (encW_len HOA.out)
        have HLB := Lib.hid (encW_len HOB.out)
        clear ha hb
        go_wp2_with fail
        refine (encodeBlock_i A1 13 c1 _ a _ ho1.ri (by omega) (by omega)).mono ?_
        rw [HEA.out]
        rintro e w2 ⟨A3, n3, c3, rfl, ho3, hb3⟩
        obtain rfl : n3 = 15 := ho3.len.symm.trans HLA.out
        have s2 := hb3.size
        have K2 := bthen K1 hb3 s1
        have o1 := ho1.below hb3 (by omega)
        have o2 := ho2.below hb3 (by omega)
        clear ho1 ho2 K1 hb3 rr
        go_wp2_with fail
        refine (encodeBlock_i A2 13 c2 _ b _ o2.ri (by omega) (by omega)).mono ?_
        rw [HEB.out]
        rintro e w4 ⟨A4, n4, c4, rfl, ho4, hb4⟩
        obtain rfl : n4 = 15 := ho4.len.symm.trans HLB.out
        have s4 := hb4.size
        have K4 := bthen K2 hb4 (by omega)
        have p1 := o1.below hb4 (by omega)
        have p2 := o2.below hb4 (by omega)
        have p3 := ho3.below hb4 (by omega)
        clear o1 o2 ho3 K2 hb4
        obtain ⟨x, hx⟩ : ∃ x, x = encW a := ⟨_, rfl⟩
        obtain ⟨y, hy⟩ : ∃ y, y = encW b := ⟨_, rfl⟩
        rw [← hx] at p3
        rw [← hy] at ho4
        have hxl := Lib.hid (show x.length = 15 by rw [hx]; exact HLA.out)
        have hyl := Lib.hid (show y.length = 15 by rw [hy]; exact HLB.out)
        have HFA2 := Lib.hid (show 3 ≤ dcount x y ∨ a = b ∧ dcount x y = 0 by rw [hx, hy]; exact HFA.out)
        clear hx hy HFA HEA HEB HLA HLB
        go_wp2
        go_loopw [8, 9] (fun u i wq => ∃ k : Nat, k ≤ 15 ∧ i = .int .i64 k ∧ ∃ m : Nat, u = .int .i64 m ∧ Hid (m = dcount (x.take k) (y.take k)) ∧ m ≤ k ∧ ∃ q, wq = w4.drewN q) (fun _ i _ => 15 - (intOf i).toNat)
        case atStart => exact ⟨0, Nat.zero_le _, rfl, 0, rfl, Lib.hid (by simp [dcount]), Nat.le_refl _, 0, rfl⟩
        case round =>
          obtain ⟨k, hk, rfl, m, rfl, hm, hmk, q, rfl⟩ := hrel
          by_cases hlt : k < 15
          · obtain ⟨b1, off1, rfl, _, hc1⟩ := p3.ri.at_ hlt
            obtain ⟨b2, off2, rfl, _, hc2⟩ := ho4.ri.at_ hlt
            have hi1 : (0 : Int) ≤ (k : Int) := by omega
            have hi2 : (k : Int) < 15 := by omega
            have HS := Lib.hid (show dcount (x.take (k + 1)) (y.take (k + 1)) = m + if zat x k = zat y k then 0 else 1 by
              have h1 := hxl.out
              have h2 := hyl.out
              rw [take_zat (by omega), take_zat (by omega), dcount_snoc (by simp; omega), hm.out])
            go_wp2
            by_cases he : zat x k = zat y k
            · have hv : (zat x k != zat y k) = false := by simp [he]
              have HS2 := Lib.hid (show m = dcount (x.take (k + 1)) (y.take (k + 1)) by rw [HS.out, if_pos he]; omega)
              have hw1 : IntKind.i64.wrap (m : Int) = (m : Int) := IntWalk.i64_in _ (by omega)
              clear he
              go_quiet ((go_at_call 26; exact quiet_add_left (btoi_f _)))
              go_wp2
              go_roundw
              case rel => exact ⟨k + 1, by omega, by go_num, m, by go_num, HS2, by omega, _, rfl⟩
              case measure => simp [intOf]; omega
            · have hv : (zat x k != zat y k) = true := by simp [he]
              have HS2 := Lib.hid (show m + 1 = dcount (x.take (k + 1)) (y.take (k + 1)) by rw [HS.out, if_neg he])
              have hw1 : IntKind.i64.wrap ((m : Int) + 1) = (m : Int) + 1 := IntWalk.i64_in _ (by omega)
              clear he
              go_quiet ((go_at_call 26; exact quiet_add_left (btoi_t _)))
              go_wp2
              go_roundw
              case rel => exact ⟨k + 1, by omega, by go_num, m + 1, by go_num, HS2, by omega, _, rfl⟩
              case measure => simp [intOf]; omega
          · obtain rfl : k = 15 := by omega
            have HM := Lib.hid (show m = dcount x y by
              have := hm.out
              rwa [List.take_of_length_le (by have := hxl.out; omega), List.take_of_length_le (by have := hyl.out; omega)] at this)
            have KK := below_drewN K4 q
            rcases HFA2.out with h3 | ⟨hab, h0⟩
            · have hm3 : 3 ≤ m := by rw [HM.out]; exact h3
              clear h3 HM HFA2
              go_wp2
              go_ret
              exact ⟨rfl, KK⟩
            · obtain rfl : m = 0 := HM.out.trans h0
              subst hab
              have e1 : RI (w4.drewN q) (ga + 1) A1 13 a := RV.drewN p1.ri q
              have e2 : RI (w4.drewN q) (gb + 1) A2 13 a := RV.drewN p2.ri q
              clear h0 HM HFA2
              go_wp2_with (go_at_call 28; refine (sameInts_t A1 A2 13 13 c1 c2 _ _ a _ e1 e2 (by omega)).mono ?_; rintro e w9 ⟨rfl, hb9⟩)
              go_ret
              exact ⟨rfl, bthen KK hb9 KK.size⟩
end Go.Proofs.Ytbdpmibbfnkabaa
