/- The walk of FnScrambled. -/
import Derived.Test.YtnagphedlmbagaaScrLaw
import Derived.Test.YtnagphedlmbagaaApp3
import Derived.Deep.CutRange
import Derived.Deep.DeepCutAuto
namespace Go.Proofs.Ytnagphedlmbagaa
open Go.RowKit Go.Deep
set_option maxRecDepth 10000 in
set_option maxHeartbeats 2000000 in
theorem walk_fnScrambled (w : World) (A : Option Addr) (n c : Nat) (zs : List Int) (r0 : RB w w.heap.size A n zs) (hz : BY zs) (_g : n ≤ c) (_i : c ≤ maxLen) :
    Calls Try.prog 10 #[.slice A n c] w fun e w' => e = .returned (.bool true) ∧ Below w.heap.size w w' := by
  by_cases hbig : 1048576 < n
  · go_enter Try.func10, Try.ntmps10
    go_wp2_with (go_at_call 24; refine (big_any _ _ _ _).mono ?_; rintro e w' ⟨rfl, rfl⟩)
    go_ret
    exact ⟨rfl, Below.refl _ _⟩
  · have hn : n ≤ 1048576 := by omega
    go_enter Try.func10, Try.ntmps10
    go_wp2_with (go_at_call 24; refine (big_any _ _ _ _).mono ?_; rintro e w' ⟨rfl, rfl⟩)
    refine (drawNibbles_any A n c _ zs _ r0 hz (Nat.le_refl _) hn).mono ?_
    rintro e w1 ⟨L, hnib, hlen, AL, nL, cL, rfl, hoL, hb1⟩
    have HN := Lib.hid hnib; clear hnib
    obtain rfl : nL = L.length := hoL.len.symm
    have s1 := hb1.size
    have rr := RB.below r0 hb1 (Nat.le_refl _)
    have q0 := atF_rng hz 0
    have q1 := atF_rng hz 1
    have q2 := atF_rng hz 2
    have q3 := atF_rng hz 3
    have a0 : Calls Try.prog 25 #[.slice A n c, .int .i64 0] w1 fun e w' => e = .returned (.int .i64 (atF zs 0)) ∧ w1 = w' := at_int A n c _ zs 0 w1 rr hz hn (by omega) (by omega)
    have a1 : Calls Try.prog 25 #[.slice A n c, .int .i64 1] w1 fun e w' => e = .returned (.int .i64 (atF zs 1)) ∧ w1 = w' := at_int A n c _ zs 1 w1 rr hz hn (by omega) (by omega)
    have a2 : Calls Try.prog 25 #[.slice A n c, .int .i64 2] w1 fun e w' => e = .returned (.int .i64 (atF zs 2)) ∧ w1 = w' := at_int A n c _ zs 2 w1 rr hz hn (by omega) (by omega)
    generalize atF zs 0 = x0 at q0 a0
    generalize atF zs 1 = x1 at q1 a1
    generalize atF zs 2 = x2 at q2 a2
    obtain ⟨t, ht⟩ : ∃ t : Nat, 1 + x0 * 256 + x1 % 255 = (t : Int) := ⟨(1 + x0 * 256 + x1 % 255).toNat, by omega⟩
    have ht1 : 1 ≤ t := by omega
    have ht2 : t ≤ 65535 := by omega
    have hl1 : (0 : Int) < (L.length : Int) + 1 := by omega
    obtain ⟨k, hk⟩ : ∃ k : Nat, x2 % ((L.length : Int) + 1) = (k : Int) := ⟨(x2 % ((L.length : Int) + 1)).toNat, by have := Int.emod_nonneg x2 (show (L.length : Int) + 1 ≠ 0 by omega); omega⟩
    have hkl : k ≤ L.length := by have := Int.emod_lt_of_pos x2 hl1; omega
    have HT := Lib.hid ht
    have HK := Lib.hid hk
    have hl0 : (((L.length : Int) + 1) == 0) = false := by simp; omega
    clear ht hk
    go_wp2_with (go_at_call 25; first | (with_reducible refine a0.mono ?_; rintro e w' ⟨rfl, rfl⟩) | (with_reducible refine a1.mono ?_; rintro e w' ⟨rfl, rfl⟩) | (with_reducible refine a2.mono ?_; rintro e w' ⟨rfl, rfl⟩))
    rw [HT.out, HK.out]
    clear a0 a1 a2 hl1 hl0
    refine (scramble_i AL _ cL _ L t _ hoL.ri (Nat.le_refl _) (by omega)).mono ?_
    rw [scramF_eq HN.out ht1 ht2]
    rintro e w2 ⟨AX, nX, cX, rfl, hoX, hb2⟩
    obtain rfl : nX = L.length := hoX.len.symm.trans (scrF_len _ _)
    have s2 := hb2.size
    have K2 := bthen hb1 hb2 (by omega)
    have hoL2 := hoL.below hb2 (by omega)
    have hi1 : (0 : Int) ≤ (k : Int) := by omega
    have hi2 : (k : Int) ≤ (L.length : Int) := by omega
    have hi3 : (L.length : Int) ≤ (cL : Int) := by have := hoL.cap; omega
    clear hb1 hb2 hoL rr
    have RLa : RI w2.drew w1.heap.size AL k (L.take k) := RV.drewN (hoL2.ri.take hkl) 1
    have RLb : RI (w2.alloc (.cells #[] 3)).drew w1.heap.size AL k (L.take k) := RV.drewN (RV.alloc (hoL2.ri.take hkl) (by omega) _) 1
    have RC0 := hoL2.ri.cut hkl (show L.length ≤ cL by omega)
    have HL0 : Own (w2.alloc (.cells #[] 3)).drew w2.heap.size (w2.heap.size + 1) (some ⟨w2.heap.size, 0, none⟩) 0 0 [] := OwnV.drew (own_lit0 w2)
    have lt : (scrF (L.take k) t).length ≤ 39 := by rw [scrF_len, List.length_take]; omega
    have ld : (scrF (L.drop k) (itN nx4 k t)).length ≤ 39 := by rw [scrF_len, List.length_drop]; omega
    have it1 := it_nx4 t ht1 ht2 k
    have ESA := Lib.hid (saF_eq ht1 ht2 (show k ≤ 1000000 by omega))
    have EP := Lib.hid (scrF_parts L t k hkl)
    have E1 := Lib.hid (scramF_eq (HN.out.take k) ht1 ht2)
    have E2 := Lib.hid (scramF_eq (HN.out.drop k) it1.1 it1.2)
    have hlc : L.length ≤ cL := by omega
    have hkc : k ≤ cL := by omega
    go_wp2_with fail
    go_cut [7] (fun y wr => ∃ (A' : Option Addr) (m c' : Nat), y = .slice A' m c' ∧ m ≤ 78 ∧ Own wr w2.heap.size wr.heap.size A' m c' (scrF L t) ∧ Below w2.heap.size w2 wr)
    case first =>
      by_cases hcap : k = cL
      · subst hcap
        rw [if_pos rfl, show L.length - k = 0 by omega] at RC0
        have RDa : RI w2.drew w1.heap.size AL 0 (L.drop k) := RV.drewN RC0 1
        have RDb : RI (w2.alloc (.cells #[] 3)).drew w1.heap.size AL 0 (L.drop k) := RV.drewN (RV.alloc RC0 (by omega) _) 1
        clear RC0
        go_region_law (first
          | (first
             | (refine step_append_ints rfl _ _ _ rfl Try.underlying22 infoInt _ _ _ _ _ _ rfl (ho5.below hb4 (Nat.le_refl _)) _ _ _ _ _ rfl (ho4.ri) (by omega) (by first | omega | (simp; omega) | simp) ?_; intro A6 c6 w6 ho6 hoff6 hb6; have K6 := (K4).trans (hb6.mono (by omega)))
             | (refine step_append_ints rfl _ _ _ rfl Try.underlying22 infoInt _ _ _ _ _ _ rfl (ho5) _ _ _ _ _ rfl ((ho4.off hoff5 (by omega)).ri) (by omega) (by first | omega | (simp; omega) | simp) ?_; intro A6 c6 w6 ho6 hoff6 hb6; have K6 := (K5).trans (hb6.mono (by omega)))
             | (refine step_append_ints rfl _ _ _ rfl Try.underlying22 infoInt _ _ _ _ _ _ rfl (ho5) _ _ _ _ _ rfl (((ho4.alloc _).off hoff5 (by omega)).ri) (by omega) (by first | omega | (simp; omega) | simp) ?_; intro A6 c6 w6 ho6 hoff6 hb6; have K6 := (K5).trans (hb6.mono (by omega)))
             | (refine step_append_ints rfl _ _ _ rfl Try.underlying22 infoInt _ _ _ _ _ _ rfl (HL0.below hb3 (by simp)) _ _ _ _ _ rfl (ho3.ri) (by omega) (by first | omega | (simp; omega) | simp) ?_; intro A5 c5 w5 ho5 hoff5 hb5; have s5 := hb5.size; (try simp only [World.size_alloc] at s5); rw [Nat.zero_add, List.nil_append] at ho5; have K5 := (K3).trans (hb5.mono (by omega)))
             | (refine step_append_ints rfl _ _ _ rfl Try.underlying22 infoInt _ _ _ _ _ _ rfl ((HL0.below hb3 (by simp)).below hb4 (by omega)) _ _ _ _ _ rfl (ho3.ri.below hb4 (Nat.le_refl _)) (by omega) (by first | omega | (simp; omega) | simp) ?_; intro A5 c5 w5 ho5 hoff5 hb5; have s5 := hb5.size; (try simp only [World.size_alloc] at s5); rw [Nat.zero_add, List.nil_append] at ho5; have K5 := (K4).trans (hb5.mono (by omega)))
             | (refine step_append_ints rfl _ _ _ rfl Try.underlying22 infoInt _ _ _ _ _ _ rfl (own_lit0 w3) _ _ _ _ _ rfl (RI.alloc ho3.ri (Nat.le_refl _) _) (by omega) (by first | omega | (simp; omega) | simp) ?_; intro A5 c5 w5 ho5 hoff5 hb5; have s5 := hb5.size; (try simp only [World.size_alloc] at s5); rw [Nat.zero_add, List.nil_append] at ho5; have K5 := (K3.alloc (by omega) _).trans (hb5.mono (by omega)))
             | (refine step_append_ints rfl _ _ _ rfl Try.underlying22 infoInt _ _ _ _ _ _ rfl ((own_lit0 w3).below hb4 (by simp)) _ _ _ _ _ rfl (RI.below (RI.alloc ho3.ri (Nat.le_refl _) _) hb4 (by simp)) (by omega) (by first | omega | (simp; omega) | simp) ?_; intro A5 c5 w5 ho5 hoff5 hb5; have s5 := hb5.size; (try simp only [World.size_alloc] at s5); rw [Nat.zero_add, List.nil_append] at ho5; have K5 := (K4).trans (hb5.mono (by omega)))
             | (refine step_append_ints rfl _ _ _ rfl Try.underlying22 infoInt _ _ _ _ _ _ rfl (own_lit0 w4) _ _ _ _ _ rfl (RI.alloc (ho3.ri.below hb4 (Nat.le_refl _)) (by omega) _) (by omega) (by first | omega | (simp; omega) | simp) ?_; intro A5 c5 w5 ho5 hoff5 hb5; have s5 := hb5.size; (try simp only [World.size_alloc] at s5); rw [Nat.zero_add, List.nil_append] at ho5; have K5 := (K4.alloc (by omega) _).trans (hb5.mono (by omega))))
          | (go_simp; go_at_call 19; refine (scrambleAfter_i _ _ _).mono ?_; rw [ESA.out]; rintro e w' ⟨rfl, rfl⟩)
          | (go_simp; go_at_call 31; first
             | ((with_reducible refine (scramble_i AL k _ w1.heap.size (L.take k) t _ (RLb) (by simp; omega) (by omega)).mono ?_); rw [E1.out]; rintro e w3 ⟨A3, n3, c3, rfl, ho3, hb3⟩; have s3 := hb3.size; simp only [World.size_drew, World.size_alloc] at s3; have b3 : n3 ≤ 39 := (by have := ho3.len; omega); have K3 : Below w2.heap.size w2 w3 := (((Below.refl w2.heap.size w2).alloc (Nat.le_refl _) _).drew).trans (hb3.mono (by simp)))
             | ((with_reducible refine (scramble_i AL k _ w1.heap.size (L.take k) t _ (RLa) (by simp; omega) (by omega)).mono ?_); rw [E1.out]; rintro e w3 ⟨A3, n3, c3, rfl, ho3, hb3⟩; have s3 := hb3.size; simp only [World.size_drew, World.size_alloc] at s3; have b3 : n3 ≤ 39 := (by have := ho3.len; omega); have K3 : Below w2.heap.size w2 w3 := ((Below.refl w2.heap.size w2).drew).trans (hb3.mono (by simp)))
             | ((with_reducible refine (scramble_i _ _ _ w1.heap.size (L.drop k) (itN nx4 k t : Nat) _ (RDb.below hb3 (by simp; omega)) (by first | omega | (simp; omega) | simp) (by omega)).mono ?_); rw [E2.out]; rintro e w4 ⟨A4, n4, c4, rfl, ho4, hb4⟩; have s4 := hb4.size; (try simp only [World.size_alloc] at s4); have b4 : n4 ≤ 39 := (by have := ho4.len; omega); have K4 : Below w2.heap.size w2 w4 := (K3).trans (hb4.mono (by first | omega | (simp; omega) | simp)))
             | ((with_reducible refine (scramble_i _ _ _ w1.heap.size (L.drop k) (itN nx4 k t : Nat) _ ((RDb.below hb3 (by simp; omega)).below hb5 (by omega)) (by first | omega | (simp; omega) | simp) (by omega)).mono ?_); rw [E2.out]; rintro e w4 ⟨A4, n4, c4, rfl, ho4, hb4⟩; have s4 := hb4.size; (try simp only [World.size_alloc] at s4); have b4 : n4 ≤ 39 := (by have := ho4.len; omega); have K4 : Below w2.heap.size w2 w4 := (K5).trans (hb4.mono (by first | omega | (simp; omega) | simp)))
             | ((with_reducible refine (scramble_i _ _ _ w1.heap.size (L.drop k) (itN nx4 k t : Nat) _ (RDa.below hb3 (by simp; omega)) (by first | omega | (simp; omega) | simp) (by omega)).mono ?_); rw [E2.out]; rintro e w4 ⟨A4, n4, c4, rfl, ho4, hb4⟩; have s4 := hb4.size; (try simp only [World.size_alloc] at s4); have b4 : n4 ≤ 39 := (by have := ho4.len; omega); have K4 : Below w2.heap.size w2 w4 := (K3).trans (hb4.mono (by first | omega | (simp; omega) | simp)))
             | ((with_reducible refine (scramble_i _ _ _ w1.heap.size (L.drop k) (itN nx4 k t : Nat) _ (RI.alloc (RDa.below hb3 (by simp; omega)) (by omega) _) (by first | omega | (simp; omega) | simp) (by omega)).mono ?_); rw [E2.out]; rintro e w4 ⟨A4, n4, c4, rfl, ho4, hb4⟩; have s4 := hb4.size; (try simp only [World.size_alloc] at s4); have b4 : n4 ≤ 39 := (by have := ho4.len; omega); have K4 : Below w2.heap.size w2 w4 := (K3.alloc (by omega) _).trans (hb4.mono (by first | omega | (simp; omega) | simp)))
             | ((with_reducible refine (scramble_i _ _ _ w1.heap.size (L.drop k) (itN nx4 k t : Nat) _ (RI.below (RI.alloc (RDa.below hb3 (by simp; omega)) (by omega) _) hb5 (by omega)) (by first | omega | (simp; omega) | simp) (by omega)).mono ?_); rw [E2.out]; rintro e w4 ⟨A4, n4, c4, rfl, ho4, hb4⟩; have s4 := hb4.size; (try simp only [World.size_alloc] at s4); have b4 : n4 ≤ 39 := (by have := ho4.len; omega); have K4 : Below w2.heap.size w2 w4 := (K5).trans (hb4.mono (by first | omega | (simp; omega) | simp)))))
        all_goals
          rw [EP.out] at ho6
          go_wp2
          go_meet
          exact ⟨_, _, _, rfl, by omega, ho6.mono (by omega) (Nat.le_refl _), K6⟩
      · have hcap' : ¬ cL = k := fun e => hcap e.symm
        rw [if_neg hcap'] at RC0
        have RDa : RI w2.drew w1.heap.size (AL.map (·.add k)) (L.length - k) (L.drop k) := RV.drewN RC0 1
        have RDb : RI (w2.alloc (.cells #[] 3)).drew w1.heap.size (AL.map (·.add k)) (L.length - k) (L.drop k) := RV.drewN (RV.alloc RC0 (by omega) _) 1
        clear RC0 hcap
        go_region_law (first
          | (first
             | (refine step_append_ints rfl _ _ _ rfl Try.underlying22 infoInt _ _ _ _ _ _ rfl (ho5.below hb4 (Nat.le_refl _)) _ _ _ _ _ rfl (ho4.ri) (by omega) (by first | omega | (simp; omega) | simp) ?_; intro A6 c6 w6 ho6 hoff6 hb6; have K6 := (K4).trans (hb6.mono (by omega)))
             | (refine step_append_ints rfl _ _ _ rfl Try.underlying22 infoInt _ _ _ _ _ _ rfl (ho5) _ _ _ _ _ rfl ((ho4.off hoff5 (by omega)).ri) (by omega) (by first | omega | (simp; omega) | simp) ?_; intro A6 c6 w6 ho6 hoff6 hb6; have K6 := (K5).trans (hb6.mono (by omega)))
             | (refine step_append_ints rfl _ _ _ rfl Try.underlying22 infoInt _ _ _ _ _ _ rfl (ho5) _ _ _ _ _ rfl (((ho4.alloc _).off hoff5 (by omega)).ri) (by omega) (by first | omega | (simp; omega) | simp) ?_; intro A6 c6 w6 ho6 hoff6 hb6; have K6 := (K5).trans (hb6.mono (by omega)))
             | (refine step_append_ints rfl _ _ _ rfl Try.underlying22 infoInt _ _ _ _ _ _ rfl (HL0.below hb3 (by simp)) _ _ _ _ _ rfl (ho3.ri) (by omega) (by first | omega | (simp; omega) | simp) ?_; intro A5 c5 w5 ho5 hoff5 hb5; have s5 := hb5.size; (try simp only [World.size_alloc] at s5); rw [Nat.zero_add, List.nil_append] at ho5; have K5 := (K3).trans (hb5.mono (by omega)))
             | (refine step_append_ints rfl _ _ _ rfl Try.underlying22 infoInt _ _ _ _ _ _ rfl ((HL0.below hb3 (by simp)).below hb4 (by omega)) _ _ _ _ _ rfl (ho3.ri.below hb4 (Nat.le_refl _)) (by omega) (by first | omega | (simp; omega) | simp) ?_; intro A5 c5 w5 ho5 hoff5 hb5; have s5 := hb5.size; (try simp only [World.size_alloc] at s5); rw [Nat.zero_add, List.nil_append] at ho5; have K5 := (K4).trans (hb5.mono (by omega)))
             | (refine step_append_ints rfl _ _ _ rfl Try.underlying22 infoInt _ _ _ _ _ _ rfl (own_lit0 w3) _ _ _ _ _ rfl (RI.alloc ho3.ri (Nat.le_refl _) _) (by omega) (by first | omega | (simp; omega) | simp) ?_; intro A5 c5 w5 ho5 hoff5 hb5; have s5 := hb5.size; (try simp only [World.size_alloc] at s5); rw [Nat.zero_add, List.nil_append] at ho5; have K5 := (K3.alloc (by omega) _).trans (hb5.mono (by omega)))
             | (refine step_append_ints rfl _ _ _ rfl Try.underlying22 infoInt _ _ _ _ _ _ rfl ((own_lit0 w3).below hb4 (by simp)) _ _ _ _ _ rfl (RI.below (RI.alloc ho3.ri (Nat.le_refl _) _) hb4 (by simp)) (by omega) (by first | omega | (simp; omega) | simp) ?_; intro A5 c5 w5 ho5 hoff5 hb5; have s5 := hb5.size; (try simp only [World.size_alloc] at s5); rw [Nat.zero_add, List.nil_append] at ho5; have K5 := (K4).trans (hb5.mono (by omega)))
             | (refine step_append_ints rfl _ _ _ rfl Try.underlying22 infoInt _ _ _ _ _ _ rfl (own_lit0 w4) _ _ _ _ _ rfl (RI.alloc (ho3.ri.below hb4 (Nat.le_refl _)) (by omega) _) (by omega) (by first | omega | (simp; omega) | simp) ?_; intro A5 c5 w5 ho5 hoff5 hb5; have s5 := hb5.size; (try simp only [World.size_alloc] at s5); rw [Nat.zero_add, List.nil_append] at ho5; have K5 := (K4.alloc (by omega) _).trans (hb5.mono (by omega))))
          | (go_simp; go_at_call 19; refine (scrambleAfter_i _ _ _).mono ?_; rw [ESA.out]; rintro e w' ⟨rfl, rfl⟩)
          | (go_simp; go_at_call 31; first
             | ((with_reducible refine (scramble_i AL k _ w1.heap.size (L.take k) t _ (RLb) (by simp; omega) (by omega)).mono ?_); rw [E1.out]; rintro e w3 ⟨A3, n3, c3, rfl, ho3, hb3⟩; have s3 := hb3.size; simp only [World.size_drew, World.size_alloc] at s3; have b3 : n3 ≤ 39 := (by have := ho3.len; omega); have K3 : Below w2.heap.size w2 w3 := (((Below.refl w2.heap.size w2).alloc (Nat.le_refl _) _).drew).trans (hb3.mono (by simp)))
             | ((with_reducible refine (scramble_i AL k _ w1.heap.size (L.take k) t _ (RLa) (by simp; omega) (by omega)).mono ?_); rw [E1.out]; rintro e w3 ⟨A3, n3, c3, rfl, ho3, hb3⟩; have s3 := hb3.size; simp only [World.size_drew, World.size_alloc] at s3; have b3 : n3 ≤ 39 := (by have := ho3.len; omega); have K3 : Below w2.heap.size w2 w3 := ((Below.refl w2.heap.size w2).drew).trans (hb3.mono (by simp)))
             | ((with_reducible refine (scramble_i _ _ _ w1.heap.size (L.drop k) (itN nx4 k t : Nat) _ (RDb.below hb3 (by simp; omega)) (by first | omega | (simp; omega) | simp) (by omega)).mono ?_); rw [E2.out]; rintro e w4 ⟨A4, n4, c4, rfl, ho4, hb4⟩; have s4 := hb4.size; (try simp only [World.size_alloc] at s4); have b4 : n4 ≤ 39 := (by have := ho4.len; omega); have K4 : Below w2.heap.size w2 w4 := (K3).trans (hb4.mono (by first | omega | (simp; omega) | simp)))
             | ((with_reducible refine (scramble_i _ _ _ w1.heap.size (L.drop k) (itN nx4 k t : Nat) _ ((RDb.below hb3 (by simp; omega)).below hb5 (by omega)) (by first | omega | (simp; omega) | simp) (by omega)).mono ?_); rw [E2.out]; rintro e w4 ⟨A4, n4, c4, rfl, ho4, hb4⟩; have s4 := hb4.size; (try simp only [World.size_alloc] at s4); have b4 : n4 ≤ 39 := (by have := ho4.len; omega); have K4 : Below w2.heap.size w2 w4 := (K5).trans (hb4.mono (by first | omega | (simp; omega) | simp)))
             | ((with_reducible refine (scramble_i _ _ _ w1.heap.size (L.drop k) (itN nx4 k t : Nat) _ (RDa.below hb3 (by simp; omega)) (by first | omega | (simp; omega) | simp) (by omega)).mono ?_); rw [E2.out]; rintro e w4 ⟨A4, n4, c4, rfl, ho4, hb4⟩; have s4 := hb4.size; (try simp only [World.size_alloc] at s4); have b4 : n4 ≤ 39 := (by have := ho4.len; omega); have K4 : Below w2.heap.size w2 w4 := (K3).trans (hb4.mono (by first | omega | (simp; omega) | simp)))
             | ((with_reducible refine (scramble_i _ _ _ w1.heap.size (L.drop k) (itN nx4 k t : Nat) _ (RI.alloc (RDa.below hb3 (by simp; omega)) (by omega) _) (by first | omega | (simp; omega) | simp) (by omega)).mono ?_); rw [E2.out]; rintro e w4 ⟨A4, n4, c4, rfl, ho4, hb4⟩; have s4 := hb4.size; (try simp only [World.size_alloc] at s4); have b4 : n4 ≤ 39 := (by have := ho4.len; omega); have K4 : Below w2.heap.size w2 w4 := (K3.alloc (by omega) _).trans (hb4.mono (by first | omega | (simp; omega) | simp)))
             | ((with_reducible refine (scramble_i _ _ _ w1.heap.size (L.drop k) (itN nx4 k t : Nat) _ (RI.below (RI.alloc (RDa.below hb3 (by simp; omega)) (by omega) _) hb5 (by omega)) (by first | omega | (simp; omega) | simp) (by omega)).mono ?_); rw [E2.out]; rintro e w4 ⟨A4, n4, c4, rfl, ho4, hb4⟩; have s4 := hb4.size; (try simp only [World.size_alloc] at s4); have b4 : n4 ≤ 39 := (by have := ho4.len; omega); have K4 : Below w2.heap.size w2 w4 := (K5).trans (hb4.mono (by first | omega | (simp; omega) | simp)))))
        all_goals
          rw [EP.out] at ho6
          go_wp2
          go_meet
          exact ⟨_, _, _, rfl, by omega, ho6.mono (by omega) (Nat.le_refl _), K6⟩
    case rest =>
      obtain ⟨AY, mY, cY, rfl, hmY, hoY, KY⟩ := hcut
      have sY := KY.size
      have KW := bthen K2 KY (by omega)
      have rr := RB.below r0 KW (Nat.le_refl _)
      have a3 : Calls Try.prog 25 #[.slice A n c, .int .i64 3] wc fun e w' => e = .returned (.int .i64 (atF zs 3)) ∧ wc = w' := at_int A n c _ zs 3 wc rr hz hn (by omega) (by omega)
      have oX := hoX.below KY (by omega)
      have oL := hoL2.below KY (by omega)
      obtain ⟨x3, hx3⟩ : ∃ x : Nat, atF zs 3 = (x : Int) := ⟨(atF zs 3).toNat, by omega⟩
      rw [hx3] at q3 a3
      have it3 := it_nx4 t ht1 ht2 x3
      have ES3 := Lib.hid (saF_eq ht1 ht2 (show x3 ≤ 1000000 by omega))
      have ES1 := Lib.hid (saF_eq ht1 ht2 (show 1 ≤ 1000000 by omega))
      have ET := Lib.hid (show scramF (scrF L t) t = L by rw [scramF_eq (scrF_nib L t HN.out (by omega)) ht1 ht2, scrF_twice L t HN.out (by omega)])
      have ENX := Lib.hid (show nxF (t : Int) = ((itN nx4 1 t : Nat) : Int) by simp [nxF, inB_t.2 (show (1 : Int) ≤ (t : Int) ∧ (t : Int) ≤ 65535 by omega), itN])
      clear hx3 RLa RLb RC0 HL0 lt ld ESA EP E1 E2 hoX hoL2
      generalize itN nx4 x3 t = s3 at it3 ES3
      go_wp2_with (first | (go_at_call 25; refine a3.mono ?_; rintro e w' ⟨rfl, rfl⟩) | (go_at_call 19; refine (scrambleAfter_i _ _ _).mono ?_; rw [ES3.out]; rintro e w' ⟨rfl, rfl⟩))
      refine (scramble_i AX L.length cX _ (scrF L t) t _ oX.ri (by omega) (by omega)).mono ?_
      rw [ET.out]
      rintro e w7 ⟨A7, n7, c7, rfl, ho7, hb7⟩
      obtain rfl : n7 = L.length := ho7.len.symm
      have s7 := hb7.size
      have oL7 := oL.below hb7 (by omega)
      have oX7 := oX.below hb7 (by omega)
      have oY7 := hoY.below hb7 (by omega)
      have K7 := bthen KW hb7 (by omega)
      clear oL oX hoY hb7 KW a3 rr
      go_wp2_with fail
      refine (sameInts_t A7 AL _ _ c7 cL _ _ L _ ho7.ri oL7.ri (by omega)).mono ?_
      rintro e w8 ⟨rfl, hb8⟩
      have s8 := hb8.size
      have oX8 := oX7.below hb8 (by omega)
      have oY8 := oY7.below hb8 (by omega)
      have K8 := bthen K7 hb8 (by omega)
      clear oL7 oX7 oY7 ho7 hb8 K7
      go_wp2_with fail
      refine (sameInts_t AX AY _ _ cX cY _ _ (scrF L t) _ oX8.ri oY8.ri (by omega)).mono ?_
      rintro e w9 ⟨rfl, hb9⟩
      have K9 := bthen K8 hb9 (by omega)
      clear oX8 oY8 hb9 K8
      have hs1 : (1 : Int) ≤ (s3 : Int) := by omega
      have hs2 : (s3 : Int) ≤ 65535 := by omega
      go_wp2_with (first | (go_at_call 19; refine (scrambleAfter_i _ _ _).mono ?_; (have e1 : saF (t : Int) 1 = ((itN nx4 1 t : Nat) : Int) := ES1.out); rw [e1]; rintro e w' ⟨rfl, rfl⟩) | (go_at_call 34; refine (nextScramble_i _ _).mono ?_; rw [ENX.out]; rintro e w' ⟨rfl, rfl⟩))
      go_ret
      exact ⟨rfl, K9⟩
end Go.Proofs.Ytnagphedlmbagaa
