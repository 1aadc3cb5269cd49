/- The walk of FnOneFixed. -/
import Derived.Test.YtbdpmibbfnkabaaDist
import Derived.Test.YtbdpmibbfnkabaaAt
import Derived.Test.YtbdpmibbfnkabaaApp2
import Derived.Deep.RegionWith
import Derived.Outline
namespace Go.Proofs.Ytbdpmibbfnkabaa
open Go.RowKit Go.Deep

theorem RB.drew_ {w : World} {B n : Nat} {A : Option Addr} {zs : List Int} (h : RB w B A n zs) : RB w.drew B A n zs := by
  have h' : RV w B A n (zs.map vByte) := h
  exact ⟨h'.len, h'.mem⟩
def nibL (zs : List Int) (k : Nat) : List Int := (List.range k).map fun i => atF zs i % 16
def nibM (zs : List Int) (k : Nat) : List Int := (List.range k).map fun i => (atF zs i + if atF zs (i + 20) % 6 = 0 then 1 else 0) % 16
theorem nibL_succ (zs : List Int) (k : Nat) : nibL zs (k + 1) = nibL zs k ++ [atF zs k % 16] := by simp [nibL, List.range_succ]
theorem nibM_succ (zs : List Int) (k : Nat) : nibM zs (k + 1) = nibM zs k ++ [(atF zs k + if atF zs (k + 20) % 6 = 0 then 1 else 0) % 16] := by simp [nibM, List.range_succ]
theorem nibL_ok (zs : List Int) : ok13 (nibL zs 13) = true := by
  unfold ok13 nibs
  have : (nibL zs 13).all (fun z => inB z 0 15) = true := by
    rw [List.all_eq_true]
    intro x hx
    obtain ⟨i, _, rfl⟩ := List.mem_map.1 hx
    exact inB_t.2 (by omega)
  rw [this]
  simp [nibL]
theorem nibM_ok (zs : List Int) : ok13 (nibM zs 13) = true := by
  unfold ok13 nibs
  have : (nibM zs 13).all (fun z => inB z 0 15) = true := by
    rw [List.all_eq_true]
    intro x hx
    obtain ⟨i, _, rfl⟩ := List.mem_map.1 hx
    exact inB_t.2 (by omega)
  rw [this]
  simp [nibM]
set_option maxHeartbeats 1000000 in
theorem walk_fnOneFixed (w : World) (A : Option Addr) (n c : Nat) (zs : List Int) (r0 : RB w w.heap.size A n zs) (hz : BY zs) (_g : n ≤ c) (_i : c ≤ maxLen) :
    Calls Try.prog 10 #[.slice A n c] w fun e w' => e = .returned (.bool true) ∧ Below w.heap.size w w' := by
  by_cases hbig : 1048576 < n
  · go_enter Try.func10, Try.ntmps10
    go_wp2_with (go_at_call 19; refine (big_any _ _ _ _).mono ?_; rintro e w' ⟨rfl, rfl⟩)
    go_ret
    exact ⟨rfl, Below.refl _ _⟩
  · have hn : n ≤ 1048576 := by omega
    have HL := own_lit0 w
    have hr0 := Lib.hid (fun i => atF_rng hz i)
    go_enter Try.func10, Try.ntmps10
    go_wp2_with (go_at_call 19; refine (big_any _ _ _ _).mono ?_; rintro e w' ⟨rfl, rfl⟩)
    go_loopw [3, 4] (fun v i wr => ∃ k : Nat, k ≤ 13 ∧ i = .int .i64 k ∧ ∃ (A' : Option Addr) (c' : Nat), v = .slice A' k c' ∧ Own wr w.heap.size wr.heap.size A' k c' (nibL zs k) ∧ Below w.heap.size w wr) (fun _ i _ => 13 - (intOf i).toNat)
    case atStart => exact ⟨0, by omega, rfl, _, _, rfl, HL.top, (Below.refl _ _).alloc (Nat.le_refl _) _⟩
    case round =>
      obtain ⟨k, hk, rfl, A1, c1, rfl, ho1, K1⟩ := hrel
      have s1 := K1.size
      have rr := RB.below r0 K1 (Nat.le_refl _)
      clear HL
      by_cases hlt : k < 13
      · have hr := hr0.out k
        have HS := Lib.hid (nibL_succ zs k)
        go_wp2_with (first | (go_at_call 20; refine (at_any A n c _ zs k _ rr hz hn (by omega)).mono ?_; rintro e w' ⟨rfl, rfl⟩) | (at_builtin; refine wpList_append_ints rfl _ _ _ rfl Try.underlying29 infoInt _ _ _ _ _ _ rfl (ho1.alloc _) _ _ _ _ _ rfl (ri_one _ _ _) (by omega) (by simp; omega) ?_; intro A2 c2 w2 ho2 hoff2 hb2))
        rw [← HS.out] at ho2
        go_roundw
        case rel => exact ⟨k + 1, by omega, by go_num, _, _, rfl, ho2, (K1.alloc (by omega) _).trans hb2⟩
        case measure => simp [intOf]; omega
      · obtain rfl : k = 13 := by omega
        obtain ⟨d, hd⟩ : ∃ d, d = nibL zs 13 := ⟨_, rfl⟩
        rw [← hd] at ho1
        have HOK := Lib.hid (show ok13 d = true by rw [hd]; exact nibL_ok zs)
        have HE := Lib.hid (show encF d = encW d by have := HOK.out; simp [encF, this])
        have HEL := Lib.hid (encW_len HOK.out)
        have HSY := Lib.hid (syn_clean HOK.out)
        have HDC := Lib.hid (dec_clean HOK.out)
        have r20 := hr0.out 20
        have r21 := hr0.out 21
        obtain ⟨k, hkk⟩ := Int.eq_ofNat_of_zero_le (show 0 ≤ atF zs 20 % 15 by omega)
        obtain ⟨v, hvv⟩ := Int.eq_ofNat_of_zero_le (show 0 ≤ 1 + atF zs 21 % 15 by omega)
        have hk15 : k < 15 := by omega
        have hv1 : v ≠ 0 := by omega
        have hv16 : v < 16 := by omega
        have HOF := Lib.hid (one_fixed HOK.out hk15 hv1 hv16)
        have ld := Lib.hid ho1.len
        clear hd
        go_wp2_with fail
        refine (encodeBlock_i A1 13 c1 _ d _ ho1.ri (by omega) (by omega)).mono ?_
        rw [HE.out]
        rintro e w2 ⟨A2, n2, c2, rfl, ho2, hb2⟩
        obtain rfl : n2 = 15 := ho2.len.symm.trans HEL.out
        have s2 := hb2.size
        have K2 := bthen K1 hb2 s1
        have o1 := ho1.below hb2 (Nat.le_refl _)
        clear ho1 K1 hb2 rr
        go_wp2_with fail
        refine (syndromes_ib A2 15 c2 _ _ _ ho2.ri (by omega)).mono ?_
        rw [HSY.out.1, HSY.out.2]
        rintro e w3 ⟨rfl, hb3⟩
        have s3 := hb3.size
        have K3 := bthen K2 hb3 K2.size
        have o1a := o1.below hb3 (by omega)
        have o2a := ho2.below hb3 (by omega)
        clear o1 ho2 K2 hb3
        go_wp2_with fail
        refine (decodeBlock_i A2 15 c2 _ _ _ o2a.ri (by omega) (by omega)).mono ?_
        rw [HDC.out.1, HDC.out.2]
        rintro e w4 ⟨A4, n4, c4, rfl, ho4, hb4⟩
        obtain rfl : n4 = 13 := ho4.len.symm.trans ld.out
        have s4 := hb4.size
        have K4 := bthen K3 hb4 K3.size
        have o1b := o1a.below hb4 (by omega)
        have o2b := o2a.below hb4 (by omega)
        have rr := RB.below r0 K4 (Nat.le_refl _)
        have HL4 := own_lit0 w4
        have HR4 : RI (w4.alloc (.cells #[] 3)) w2.heap.size A2 15 (encW d) := RV.alloc o2b.ri (by omega) _
        clear o1a o2a K3 hb4
        go_wp2_with (at_builtin; refine wpList_append_ints rfl _ _ _ rfl Try.underlying29 infoInt _ _ _ _ _ _ rfl HL4 _ _ _ _ _ rfl HR4 (by omega) (by simp) ?_; intro A5 c5 w5 ho5 hoff5 hb5; rw [Nat.zero_add, List.nil_append] at ho5)
        have s5 := hb5.size
        simp only [World.size_alloc] at s5
        have L5 : Below w4.heap.size w4 w5 := ((Below.refl _ _).alloc (Nat.le_refl _) _).trans hb5
        have K5 := bthen K4 L5 K4.size
        have o1c := o1b.below L5 (by omega)
        have o4c := ho4.below L5 (Nat.le_refl _)
        have rr5 := RB.below r0 K5 (Nat.le_refl _)
        clear o1b o2b ho4 HL4 HR4 hb5 hoff5 K4 rr L5
        refine (at_int A n c _ zs 20 _ rr5 hz hn (by omega) (by omega)).mono ?_
        rintro e w' ⟨rfl, rfl⟩
        obtain ⟨g, rfl, hg1, hg2, hc5, hf5⟩ := ho5.cell hk15
        have R6 := ho5.set k (bits .xor .i64 (zat (encW d) k) (v : Int))
        have K6 := K5.setCell (p := ⟨g, k, none⟩) (by show w.heap.size ≤ g; omega) (.int .i64 (bits .xor .i64 (zat (encW d) k) (v : Int)))
        have o1d : Own (w5.setCell ⟨g, k, none⟩ (.int .i64 (bits .xor .i64 (zat (encW d) k) (v : Int)))) w.heap.size wr.heap.size A1 13 c1 d := OwnV.far o1c (.inr (by show wr.heap.size ≤ g; omega)) _
        have L6 : Off w4.heap.size w5.heap.size w5 (w5.setCell ⟨g, k, none⟩ (.int .i64 (bits .xor .i64 (zat (encW d) k) (v : Int)))) := (Off.refl _ _ _).setCell hg1 hg2 _
        have o4d := o4c.off L6 (.inl (Nat.le_refl _))
        clear o1c o4c L6 ho5 K5
        go_wp2
        rw [hkk]
        have hi1 : (0 : Int) ≤ (k : Int) := by omega
        have hi2 : (k : Int) < 15 := by omega
        have rr6 := RB.drew_ rr5
        go_region_with (go_at_call 20; refine (at_int A n c _ zs 21 _ rr6 hz hn (by omega) (by omega)).mono ?_; rintro e w' ⟨rfl, rfl⟩)
        all_goals
          have hvw : IntKind.i64.wrap (1 + (atF zs 21).tmod 15) = (v : Int) := by
            rw [Int.tmod_eq_emod_of_nonneg r21.1, hvv]
            exact IntWalk.i64_in _ (by omega)
          rw [hvw]
          clear hvw
          generalize hw6 : (w5.setCell ⟨g, k, none⟩ (Value.int IntKind.i64 (bits BinOp.xor IntKind.i64 (zat (encW d) k) (v : Int)))) = w6 at *
          have q6 : Own w6.drew w4.heap.size w5.heap.size (some ⟨g, 0, none⟩) 15 c5 ((encW d).set k (bits .xor .i64 (zat (encW d) k) (v : Int))) := R6
          have q1 : Own w6.drew w.heap.size wr.heap.size A1 13 c1 d := o1d
          have q4 : OwnW w6.drew w3.heap.size w4.heap.size A4 13 d := o4d
          have qK : Below w.heap.size w w6.drew := K6.drew
          have s6 : w5.heap.size ≤ w6.drew.heap.size := by
            rw [← hw6]; show w5.heap.size ≤ (w5.setCell _ _).heap.size; simp
          generalize w6.drew = w7 at *
          clear R6 o1d o4d K6 rr6 hw6
          go_wp2_with fail
          refine (decodeBlock_i (some ⟨g, 0, none⟩) 15 c5 _ _ _ q6.ri (by omega) (by omega)).mono ?_
          rw [HOF.out.1, HOF.out.2]
          rintro e w8 ⟨A8, n8, c8, rfl, ho8, hb8⟩
          obtain rfl : n8 = 13 := ho8.len.symm.trans ld.out
          have s8 := hb8.size
          have K8 := bthen qK hb8 qK.size
          have p1 := q1.below hb8 (by omega)
          have p4 := q4.below hb8 (by omega)
          clear q1 q4 q6 qK hb8
          go_wp2_with fail
          refine (sameInts_t A4 A1 13 13 c4 c1 _ _ d _ p4.ri p1.ri (by omega)).mono ?_
          rintro e w9 ⟨rfl, hb9⟩
          have s9 := hb9.size
          have K9 := bthen K8 hb9 K8.size
          have m1 := p1.below hb9 (by omega)
          have m8 := ho8.below hb9 (Nat.le_refl _)
          clear p1 p4 ho8 K8 hb9
          go_wp2_with fail
          refine (sameInts_t A8 A1 13 13 c8 c1 _ _ d _ m8.ri m1.ri (by omega)).mono ?_
          rintro e w10 ⟨rfl, hb10⟩
          have K10 := bthen K9 hb10 K9.size
          clear m1 m8 K9 hb10
          go_wp2
          go_ret
          exact ⟨rfl, K10⟩
end Go.Proofs.Ytbdpmibbfnkabaa
