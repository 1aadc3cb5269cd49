/- Plain laws of the symbols, and the walk of FnSymbols. -/
import Derived.Test.YtnagphedlmbagaaDoorSym
import Derived.Test.YtnagphedlmbagaaDoorDraw
import Derived.Test.YtnagphedlmbagaaDoorS3b
namespace Go.Proofs.YtnagphedlmbagaaDoor
open Go.RowKit Go.Deep
theorem quiet_addL {P : Program} {f : FuncId} {args : Array Value} {w : World} {a n : Nat} {v : Value}
    (h : Calls P f args (w.drewN (a + n)) fun e w' => e = .returned v ∧ w.drewN (a + n) = w') :
    Calls P f args (w.drewN (a + n)) fun e w'' => e = .returned v ∧ ∃ m, w'' = w.drewN (a + m) :=
  h.mono fun _ _ ⟨he, hm⟩ => ⟨he, n, hm.symm⟩
theorem tab_facts (a : Nat) (h : a < 16) : nibF (zat tabL a) = (a : Int) ∧ zat tabL a ≠ 31 ∧ zat tabL a ≠ 24 ∧ 0 ≤ zat tabL a ∧ zat tabL a ≤ 31 := by
  have key : ∀ a : Fin 16, nibF (zat tabL a.1) = (a.1 : Int) ∧ zat tabL a.1 ≠ 31 ∧ zat tabL a.1 ≠ 24 ∧ 0 ≤ zat tabL a.1 ∧ zat tabL a.1 ≤ 31 := by decide
  exact key ⟨a, h⟩
theorem tab_bits (a : Nat) (h : a < 16) (b r : Nat) (hb : b ≤ 3) (hr : r ≤ 2) :
    ((bits5 (zat tabL a)).foldl lzStep ((b : Int), (r : Int))).1 ≤ 3 ∧ 0 ≤ ((bits5 (zat tabL a)).foldl lzStep ((b : Int), (r : Int))).1 ∧ ((bits5 (zat tabL a)).foldl lzStep ((b : Int), (r : Int))).2 ≤ 2 ∧ 0 ≤ ((bits5 (zat tabL a)).foldl lzStep ((b : Int), (r : Int))).2 := by
  have key : ∀ (a : Fin 16) (b : Fin 4) (r : Fin 3), ((bits5 (zat tabL a.1)).foldl lzStep ((b.1 : Int), (r.1 : Int))).1 ≤ 3 ∧ 0 ≤ ((bits5 (zat tabL a.1)).foldl lzStep ((b.1 : Int), (r.1 : Int))).1 ∧ ((bits5 (zat tabL a.1)).foldl lzStep ((b.1 : Int), (r.1 : Int))).2 ≤ 2 ∧ 0 ≤ ((bits5 (zat tabL a.1)).foldl lzStep ((b.1 : Int), (r.1 : Int))).2 := by decide +kernel
  exact key ⟨a, h⟩ ⟨b, by omega⟩ ⟨r, by omega⟩
theorem fold_bits : ∀ (L : List Int) (b r : Nat), NIB L → b ≤ 3 → r ≤ 2 → ((bitsL (symL L)).foldl lzStep ((b : Int), (r : Int))).1 ≤ 3
  | [], b, r, _, hb, _ => by show (b : Int) ≤ 3; omega
  | z :: L, b, r, h, hb, hr => by
    have hz := h z (by simp)
    have e : bitsL (symL (z :: L)) = bits5 (zat tabL z.toNat) ++ bitsL (symL L) := by simp [bitsL, symL]
    rw [e, List.foldl_append]
    obtain ⟨k1, k2, k3, k4⟩ := tab_bits z.toNat (by omega) b r hb hr
    generalize (bits5 (zat tabL z.toNat)).foldl lzStep ((b : Int), (r : Int)) = p at k1 k2 k3 k4
    obtain ⟨p1, p2⟩ := p
    obtain ⟨b', rfl⟩ := Int.eq_ofNat_of_zero_le k2
    obtain ⟨r', rfl⟩ := Int.eq_ofNat_of_zero_le k4
    exact fold_bits L b' r' (fun y hy => h y (by simp [hy])) (by simp at k1; omega) (by simp at k3; omega)
theorem lz_sym {L : List Int} (h : NIB L) : (lz (bitsL (symL L))).1 ≤ 3 := fold_bits L 0 0 h (by omega) (by omega)
theorem symsF_nib {L : List Int} (h : NIB L) : symsF L = symL L := by
  have : L.all (fun z => inB z 0 15) = true := by rw [List.all_eq_true]; exact fun z hz => inB_t.2 (h z hz)
  simp [symsF, this]
theorem symL_rng {L : List Int} (h : NIB L) : ∀ s ∈ symL L, 0 ≤ s ∧ s ≤ 31 := by
  intro s hs
  obtain ⟨z, hz, rfl⟩ := List.mem_map.1 hs
  have := h z hz
  exact (tab_facts z.toNat (by omega)).2.2.2
theorem bitsF_sym {L : List Int} (h : NIB L) : bitsF (symL L) = bitsL (symL L) := by
  have : (symL L).all (fun z => inB z 0 31) = true := by rw [List.all_eq_true]; exact fun z hz => inB_t.2 (symL_rng h z hz)
  simp [bitsF, this]
theorem nibs_sym : ∀ {L : List Int}, NIB L → nibsL (symL L) = L ∧ badN (symL L) = 0
  | [], _ => ⟨rfl, rfl⟩
  | z :: L, h => by
    have hz := h z (by simp)
    obtain ⟨h1, h2⟩ := nibs_sym (L := L) (fun y hy => h y (by simp [hy]))
    have t := (tab_facts z.toNat (by omega)).1
    have e : ((z.toNat : Nat) : Int) = z := by omega
    rw [e] at t
    constructor
    · show nib1 (zat tabL z.toNat) :: nibsL (symL L) = _
      rw [h1, nib1, t, if_neg (by omega)]
    · have : badN (symL (z :: L)) = badN (symL L) + if nibF (zat tabL z.toNat) < 0 then 1 else 0 := by
        simp [badN, symL, List.countP_cons]
      rw [this, h2, t, if_neg (by omega)]
theorem zat_symL {L : List Int} {k : Nat} (h : k < L.length) : zat (symL L) k = zat tabL (zat L k).toNat := by
  have h' : k < (symL L).length := by rw [symL_len]; exact h
  rw [zat_eq h', zat_eq h]; simp [symL]
set_option maxRecDepth 10000 in
set_option maxHeartbeats 2000000 in
theorem walk_fnSymbols (w : World) (ht : Tab w) (A : Option Addr) (n c : Nat) (zs : List Int) (r0 : RB w w.heap.size A n zs) (hz : BY zs) (_g : n ≤ c) (_i : c ≤ maxLen) :
    Calls Tryd.prog 5 #[.slice A n c] w fun e w' => e = .returned (.bool true) ∧ Below w.heap.size w w' := by
  have h1t := tab_lt ht
  by_cases hbig : 1048576 < n
  · go_enter Tryd.func5, Tryd.ntmps5
    go_wp2_with (go_at_call 14; refine (big_any _ _ _ _).mono ?_; rintro e w' ⟨rfl, rfl⟩)
    go_ret
    exact ⟨rfl, Below.refl _ _⟩
  · have hn : n ≤ 1048576 := by omega
    go_enter Tryd.func5, Tryd.ntmps5
    go_wp2_with (go_at_call 14; refine (big_any _ _ _ _).mono ?_; rintro e w' ⟨rfl, rfl⟩)
    refine (drawNibbles_any A n c _ zs _ r0 hz (Nat.le_refl _) hn).mono ?_
    rintro e w1 ⟨L, hnib, hlen, AL, nL, cL, rfl, hoL, hb1⟩
    obtain rfl : nL = L.length := hoL.len.symm
    have s1 := hb1.size
    have t1 := ht.below hb1 h1t
    have ES := Lib.hid (symsF_nib hnib)
    have EB := Lib.hid (bitsF_sym hnib)
    have EN := Lib.hid (nibs_sym hnib)
    have EZ := Lib.hid (lz_sym hnib)
    have HN := Lib.hid hnib
    clear hnib
    go_wp2_with fail
    refine (symbolsOf_i AL L.length cL _ L _ hoL.ri (Nat.le_refl _) (by omega) t1).mono ?_
    rw [ES.out]
    rintro e w2 ⟨AS, nS, cS, rfl, hoS, hb2⟩
    obtain rfl : nS = L.length := hoS.len.symm.trans (symL_len L)
    have s2 := hb2.size
    have K2 := bthen hb1 hb2 (by omega)
    have oL2 := hoL.below hb2 (by omega)
    have t2 := t1.below hb2 (by omega)
    clear hoL hb1 hb2 t1 ht
    go_wp2_with fail
    refine (nibblesOf_i AS L.length cS _ (symL L) _ hoS.ri (Nat.le_refl _) (by omega) t2).mono ?_
    rw [EN.out.1, EN.out.2]
    rintro e w3 ⟨AN, nN, cN, rfl, hoN, hb3⟩
    obtain rfl : nN = L.length := hoN.len.symm
    have s3 := hb3.size
    have K3 := bthen K2 hb3 (by omega)
    have oL3 := oL2.below hb3 (by omega)
    have oS3 := hoS.below hb3 (by omega)
    have t3 := t2.below hb3 (by omega)
    clear oL2 hoS hb3 t2 K2
    go_wp2_with fail
    refine (bitsOf_i AS L.length cS _ (symL L) _ oS3.ri (by omega) (by omega)).mono ?_
    rw [EB.out]
    rintro e w4 ⟨AB, nB, cB, rfl, hoB, hb4⟩
    obtain rfl : nB = 5 * L.length := hoB.len.symm.trans ((bitsL_len _).trans (by rw [symL_len]))
    have s4 := hb4.size
    have K4 := bthen K3 hb4 (by omega)
    have oL4 := oL3.below hb4 (by omega)
    have oS4 := oS3.below hb4 (by omega)
    have oN4 := hoN.below hb4 (by omega)
    have t4 := t3.below hb4 (by omega)
    clear oL3 oS3 hoN hb4 t3 K3
    go_wp2
    go_loopw [8] (fun i wr => ∃ k : Nat, k ≤ L.length ∧ i = .int .i64 k ∧ ∃ q, wr = w4.drewN q) (fun i _ => L.length - (intOf i).toNat)
    case atStart => exact ⟨0, Nat.zero_le _, rfl, 0, rfl⟩
    case round =>
      obtain ⟨k, hk, rfl, q, rfl⟩ := hrel
      by_cases hlt : k < L.length
      · obtain ⟨b, off, rfl, _, hcS⟩ := oS4.ri.at_ hlt
        obtain ⟨b', off', rfl, _, hcL⟩ := oL4.ri.at_ hlt
        have hzk := HN.out _ (zat_mem hlt)
        have hf := tab_facts (zat L k).toNat (by omega)
        have hcast : (((zat L k).toNat : Nat) : Int) = zat L k := by omega
        rw [hcast, ← zat_symL hlt] at hf
        obtain ⟨hf1, hf2, hf3, _⟩ := hf
        have hv1 : (zat (symL L) k == 31) = false := by simp [hf2]
        have hv2 : (zat (symL L) k == 24) = false := by simp [hf3]
        have hv3 : (nibF (zat (symL L) k) != zat L k) = false := by simp [hf1]
        have hi1 : (0 : Int) ≤ (k : Int) := by omega
        have hi2 : (k : Int) < (L.length : Int) := by omega
        clear hf1 hf2 hf3 hcast hzk
        go_wp2
        go_quiet (first | (go_at_call 17; exact quiet_addL (nibbleOf_i _ _ (RV.drewN t4 _))))
        go_wp2
        go_roundw
        case rel => exact ⟨k + 1, by omega, by go_num, _, rfl⟩
        case measure => simp [intOf]; omega
      · obtain rfl : k = L.length := by omega
        have oN5 := OwnV.drewN oN4 q
        have oL5 := OwnV.drewN oL4 q
        have oB5 := OwnV.drewN hoB q
        have K5 := below_drewN K4 q
        have hz3 : decide ((lz (bitsL (symL L))).1 ≤ 3) = true := by simp; exact EZ.out
        generalize w4.drewN q = w5 at oN5 oL5 oB5 K5 ⊢
        clear oN4 oL4 hoB K4 oS4 t4
        go_wp2_with fail
        refine (sameInts_t AN AL _ _ cN cL _ _ L _ (Own.ri oN5) (Own.ri oL5) (by omega)).mono ?_
        rintro e w6 ⟨rfl, hb6⟩
        have s6 := hb6.size
        have oB6 := Own.below oB5.top hb6 (Nat.le_refl _)
        have K6 := bthen K5 hb6 K5.size
        have h5 : ((5 * L.length : Nat) : Int) = 5 * (L.length : Int) := by omega
        clear oN5 oL5 hb6 oB5 K5
        go_wp2_with (go_at_call 19; refine (longestZeros_i _ _ _ _ (bitsL (symL L)) _ oB6.ri (by omega)).mono ?_; rintro e w' ⟨rfl, rfl⟩)
        go_ret
        exact ⟨rfl, K6⟩
end Go.Proofs.YtnagphedlmbagaaDoor
