/- SymbolsOf and NibblesOf of the program and of the reference. -/
import Derived.Test.YtnagphedlmbagaaDoorTab
import Derived.Test.YtnagphedlmbagaaDoorApp3
namespace Go.Proofs.YtnagphedlmbagaaDoor
open Go.RowKit Go.Deep

theorem tab_lt {w : World} (h : Tab w) : 1 ≤ w.heap.size := by
  have hc := h.cell (show 0 < 16 by omega)
  by_cases hx : 1 ≤ w.heap.size
  · exact hx
  · have : w.heap[0]? = none := Array.getElem?_eq_none (by omega)
    simp [World.cell?, this] at hc
def symL (zs : List Int) : List Int := zs.map (fun z => zat tabL z.toNat)
def symsF (zs : List Int) : List Int := if zs.all (fun z => inB z 0 15) then symL zs else []
theorem symL_len (zs : List Int) : (symL zs).length = zs.length := by simp [symL]
theorem symsF_len (zs : List Int) : (symsF zs).length ≤ zs.length := by unfold symsF; split <;> simp [symL_len]
theorem symL_snoc (zs : List Int) (z : Int) : symL (zs ++ [z]) = symL zs ++ [zat tabL z.toNat] := by simp [symL]
set_option maxHeartbeats 1000000 in
theorem symbolsOf_i (A : Option Addr) (n c B : Nat) (zs : List Int) (w : World) (h : RI w B A n zs) (hB : B ≤ w.heap.size) (hn : n ≤ 4294967296) (ht : Tab w) :
    Calls Tryd.prog 8 #[.slice A n c] w (RetOwn w (symsF zs)) := by
  have hl := Lib.hid h.len
  have h1' := tab_lt ht
  cases h1 : zs.all (fun z => inB z 0 15)
  · have HF := Lib.hid (show symsF zs = [] by simp only [symsF, h1]; simp)
    go_enter Tryd.func8, Tryd.ntmps8
    go_wp2_with (go_at_call 22; refine (areNibbles_any _ _ _ _ _ _ h hn).mono ?_; rintro e w1 ⟨rfl, rfl⟩)
    go_ret
    rw [HF.out]
    exact ⟨_, _, _, rfl, Own.nil, Below.refl _ _⟩
  · have HF := Lib.hid (show symsF zs = symL zs by simp only [symsF, h1]; simp)
    have HALL := Lib.hid (show ∀ j, j < n → 0 ≤ zat zs j ∧ zat zs j ≤ 15 from fun j hj => inB_t.1 (List.all_eq_true.1 h1 _ (zat_mem (by have := h.len; omega))))
    have HL := own_lit0 w
    go_enter Tryd.func8, Tryd.ntmps8
    go_wp2_with (go_at_call 22; refine (areNibbles_any _ _ _ _ _ _ h hn).mono ?_; rintro e w1 ⟨rfl, rfl⟩)
    go_loopw [3, 12] (fun v i wr => ∃ k : Nat, k ≤ n ∧ i = .int .i64 k ∧ ∃ (A' : Option Addr) (c' : Nat), v = .slice A' k c' ∧ Own wr w.heap.size wr.heap.size A' k c' (symL (zs.take k)) ∧ Below w.heap.size w wr) (fun _ i _ => n - (intOf i).toNat)
    case atStart => exact ⟨0, Nat.zero_le _, rfl, _, _, rfl, HL.top, (Below.refl _ _).alloc (Nat.le_refl _) _⟩
    case round =>
      obtain ⟨k, hk, rfl, A', c', rfl, hown, hbel⟩ := hrel
      clear HL
      have hsz := hbel.size
      by_cases hlt : k < n
      · obtain ⟨b, off, rfl, hb', hc0⟩ := h.at_ hlt
        have hc : wr.cell? ⟨b, off + k, none⟩ = some (.int .i64 (zat zs k)) := (hbel.cell (by show b < _; omega)).trans hc0
        have hr := HALL.out k hlt
        have HS := Lib.hid (show symL (zs.take (k + 1)) = symL (zs.take k) ++ [zat tabL (zat zs k).toNat] by rw [take_zat (by have := hl.out; omega), symL_snoc])
        obtain ⟨z, hz⟩ : ∃ z : Nat, zat zs k = (z : Int) := ⟨(zat zs k).toNat, by omega⟩
        rw [hz] at hc hr HS
        have hz16 : z < 16 := by omega
        have hi1 : (0 : Int) ≤ (z : Int) := by omega
        have hi2 : (z : Int) < 16 := by omega
        have ct := (ht.below hbel (by omega)).cell hz16
        clear hz hc0
        go_wp2_with (at_builtin; refine wpList_append_ints rfl _ _ _ rfl Tryd.underlying22 infoInt _ _ _ _ _ _ rfl (hown.alloc _) _ _ _ _ _ rfl (ri_one _ _ _) (by omega) (by simp; omega) ?_; intro A2 c2 w2 ho2 hoff2 hb2)
        have R := ho2
        rw [show symL (zs.take k) ++ [zat tabL z] = symL (zs.take (k + 1)) by rw [HS.out]; simp] at R
        go_roundw
        case rel => exact ⟨k + 1, by omega, by go_num, _, _, rfl, R, (hbel.alloc hsz _).trans (hb2.mono (by omega))⟩
        case measure => simp [intOf]; omega
      · obtain rfl : k = n := by omega
        go_wp2
        go_ret
        rw [HF.out]
        have R := hown
        rw [List.take_of_length_le (by have := hl.out; omega)] at R
        exact ⟨_, _, _, rfl, R, hbel⟩
set_option maxHeartbeats 1000000 in
theorem symbolsOf_s (A : Option Addr) (n c B : Nat) (zs : List Int) (w : World) (h : RI w B A n zs) (hB : B ≤ w.heap.size) (hn : n ≤ 4294967296) :
    Calls Tryd.prog 6 #[.slice A n c] w (RetOwn w (symsF zs)) := by
  have hl := Lib.hid h.len
  have HL := own_lit0 w
  go_enter Tryd.func6, Tryd.ntmps6
  go_wp2
  go_loopw [3, 4] (fun v i wr => ∃ k : Nat, k ≤ n ∧ i = .int .i64 k ∧ ∃ (A' : Option Addr) (c' : Nat), v = .slice A' k c' ∧ Own wr w.heap.size wr.heap.size A' k c' (symL (zs.take k)) ∧ Below w.heap.size w wr ∧ Hid (0 < k → zs.all (fun z => inB z 0 15) = true)) (fun _ i _ => n - (intOf i).toNat)
  case atStart => exact ⟨0, Nat.zero_le _, rfl, _, _, rfl, HL.top, (Below.refl _ _).alloc (Nat.le_refl _) _, Lib.hid (fun h => absurd h (by omega))⟩
  case round =>
    obtain ⟨k, hk, rfl, A', c', rfl, hown, hbel, hpos⟩ := hrel
    clear HL
    have hsz := hbel.size
    have hR := h.below hbel hB
    by_cases hlt : k < n
    · obtain ⟨b, off, hA, hb', hc⟩ := hR.at_ hlt
      have hi1 : (0 : Int) ≤ (k : Int) := by omega
      have hi2 : (k : Int) < (n : Int) := by omega
      cases h1 : zs.all (fun z => inB z 0 15)
      · have HF := Lib.hid (show symsF zs = [] by simp only [symsF, h1]; simp)
        obtain rfl : k = 0 := by
          rcases Nat.eq_zero_or_pos k with h0 | h0
          · exact h0
          · have := hpos.out h0; rw [h1] at this; cases this
        subst hA
        go_wp2_with (go_at_call 20; refine (l27Nibbles_any _ _ _ _ zs _ hR hn).mono ?_; rw [h1]; rintro e w1 ⟨rfl, rfl⟩)
        go_ret
        rw [HF.out]
        exact ⟨_, _, _, rfl, hown, hbel⟩
      · have HP := Lib.hid h1
        have hr := inB_t.1 (List.all_eq_true.1 h1 _ (zat_mem (show k < zs.length by have := hl.out; omega)))
        have HS := Lib.hid (show symL (zs.take (k + 1)) = symL (zs.take k) ++ [symF (zat zs k)] by rw [take_zat (by have := hl.out; omega), symL_snoc, symF, if_pos (inB_t.2 hr)])
        subst hA
        go_wp2_with (first | (go_at_call 20; refine (l27Nibbles_any _ _ _ _ zs _ hR hn).mono ?_; rw [h1]; rintro e w1 ⟨rfl, rfl⟩) | (go_at_call 21; refine (symbolOf_s _ _).mono ?_; rintro e w2 ⟨rfl, hb2⟩) | (at_builtin; refine wpList_append_ints rfl _ _ _ rfl Tryd.underlying22 infoInt _ _ _ _ _ _ rfl ((hown.below hb2 (Nat.le_refl _)).alloc _) _ _ _ _ _ rfl (ri_one _ _ _) (by omega) (by have := hb2.size; simp; omega) ?_; intro A3 c3 w3 ho3 hoff3 hb3))
        have s2 := hb2.size
        have R := ho3
        rw [← HS.out] at R
        go_roundw
        case rel => exact ⟨k + 1, by omega, by go_num, _, _, rfl, R, ((bthen hbel hb2 hsz).alloc (by omega) _).trans (hb3.mono (by omega)), Lib.hid (fun _ => by first | trivial | exact HP.out)⟩
        case measure => simp [intOf]; omega
    · obtain rfl : k = n := by omega
      have HF := Lib.hid (show symsF zs = symL (zs.take k) by
        rw [List.take_of_length_le (by have := hl.out; omega)]
        rcases Nat.eq_zero_or_pos k with h0 | h0
        · have : zs = [] := List.eq_nil_of_length_eq_zero (by have := hl.out; omega)
          subst this; rfl
        · simp only [symsF, hpos.out h0]; simp)
      go_wp2
      go_ret
      rw [HF.out]
      exact ⟨_, _, _, rfl, hown, hbel⟩
def nib1 (s : Int) : Int := if nibF s < 0 then 0 else nibF s
def nibsL (zs : List Int) : List Int := zs.map nib1
def badN (zs : List Int) : Nat := zs.countP (fun s => decide (nibF s < 0))
theorem nibsL_len (zs : List Int) : (nibsL zs).length = zs.length := by simp [nibsL]
theorem nibsL_snoc (zs : List Int) (z : Int) : nibsL (zs ++ [z]) = nibsL zs ++ [nib1 z] := by simp [nibsL]
theorem badN_snoc (zs : List Int) (z : Int) : badN (zs ++ [z]) = badN zs + if nibF z < 0 then 1 else 0 := by
  simp [badN, List.countP_append, List.countP_cons]
set_option maxHeartbeats 1000000 in
theorem nibblesOf_i (A : Option Addr) (n c B : Nat) (zs : List Int) (w : World) (h : RI w B A n zs) (hB : B ≤ w.heap.size) (hn : n ≤ 4294967296) (ht : Tab w) :
    Calls Tryd.prog 13 #[.slice A n c] w (RetOwnInt w (nibsL zs) (badN zs)) := by
  have hl := Lib.hid h.len
  have HL := own_lit0 w
  have h1x := tab_lt ht
  go_enter Tryd.func13, Tryd.ntmps13
  go_wp2
  go_loopw [4, 5, 12] (fun v y i wr => ∃ k : Nat, k ≤ n ∧ i = .int .i64 k ∧ ∃ (A' : Option Addr) (c' : Nat), v = .slice A' k c' ∧ ∃ b : Nat, y = .int .i64 b ∧ b ≤ k ∧ Hid (b = badN (zs.take k)) ∧ Own wr w.heap.size wr.heap.size A' k c' (nibsL (zs.take k)) ∧ Below w.heap.size w wr) (fun _ _ i _ => n - (intOf i).toNat)
  case atStart => exact ⟨0, Nat.zero_le _, rfl, _, _, rfl, 0, rfl, Nat.le_refl _, Lib.hid rfl, HL.top, (Below.refl _ _).alloc (Nat.le_refl _) _⟩
  case round =>
    obtain ⟨k, hk, rfl, A', c', rfl, b, rfl, hbk, hbad, hown, hbel⟩ := hrel
    clear HL
    have hsz := hbel.size
    by_cases hlt : k < n
    · obtain ⟨b', off, rfl, hb', hc⟩ := (h.below hbel hB).at_ hlt
      have hi1 : (0 : Int) ≤ (k : Int) := by omega
      have hi2 : (k : Int) < (n : Int) := by omega
      by_cases hneg : nibF (zat zs k) < 0
      · have hd : decide (nibF (zat zs k) < 0) = true := by simp; exact hneg
        have HS := Lib.hid (show nibsL (zs.take k) ++ [0] = nibsL (zs.take (k + 1)) by rw [take_zat (by have := hl.out; omega), nibsL_snoc, nib1, if_pos hneg])
        have HB := Lib.hid (show b + 1 = badN (zs.take (k + 1)) by rw [take_zat (by have := hl.out; omega), badN_snoc, ← hbad.out, if_pos hneg])
        clear hd
        have hd : decide (nibF (zat zs k) < 0) = true := by simp; exact hneg
        clear hneg
        go_wp2_with (first | (go_at_call 17; refine (nibbleOf_i _ _ (ht.below hbel (by omega))).mono ?_; rintro e w2 ⟨rfl, rfl⟩) | (at_builtin; refine wpList_append_ints rfl _ _ _ rfl Tryd.underlying22 infoInt _ _ _ _ _ _ rfl (hown.alloc _) _ _ _ _ _ rfl (ri_one _ _ _) (by omega) (by simp; omega) ?_; intro A3 c3 w3 ho3 hoff3 hb3))
        have R := ho3
        rw [HS.out] at R
        go_roundw
        case rel => exact ⟨k + 1, by omega, by go_num, _, _, rfl, b + 1, by go_num, by omega, HB, R, (hbel.alloc hsz _).trans (hb3.mono (by omega))⟩
        case measure => simp [intOf]; omega
      · have hd : decide (nibF (zat zs k) < 0) = false := by simp; omega
        have HS := Lib.hid (show nibsL (zs.take k) ++ [nibF (zat zs k)] = nibsL (zs.take (k + 1)) by rw [take_zat (by have := hl.out; omega), nibsL_snoc, nib1, if_neg hneg])
        have HB := Lib.hid (show b = badN (zs.take (k + 1)) by rw [take_zat (by have := hl.out; omega), badN_snoc, ← hbad.out, if_neg hneg]; rfl)
        clear hd
        have hd : decide (nibF (zat zs k) < 0) = false := by simp; omega
        clear hneg
        go_wp2_with (first | (go_at_call 17; refine (nibbleOf_i _ _ (ht.below hbel (by omega))).mono ?_; rintro e w2 ⟨rfl, rfl⟩) | (at_builtin; refine wpList_append_ints rfl _ _ _ rfl Tryd.underlying22 infoInt _ _ _ _ _ _ rfl (hown.alloc _) _ _ _ _ _ rfl (ri_one _ _ _) (by omega) (by simp; omega) ?_; intro A3 c3 w3 ho3 hoff3 hb3))
        have R := ho3
        rw [HS.out] at R
        go_roundw
        case rel => exact ⟨k + 1, by omega, by go_num, _, _, rfl, b, by go_num, by omega, HB, R, (hbel.alloc hsz _).trans (hb3.mono (by omega))⟩
        case measure => simp [intOf]; omega
    · obtain rfl : k = n := by omega
      have R := hown
      have HB := Lib.hid (show b = badN zs by have := hbad.out; rwa [List.take_of_length_le (by have := hl.out; omega)] at this)
      rw [List.take_of_length_le (by have := hl.out; omega)] at R
      go_wp2
      go_ret2
      rw [← HB.out]
      exact ⟨_, _, _, rfl, R, hbel⟩
set_option maxHeartbeats 1000000 in
theorem nibblesOf_s (A : Option Addr) (n c B : Nat) (zs : List Int) (w : World) (h : RI w B A n zs) (hB : B ≤ w.heap.size) (hn : n ≤ 4294967296) :
    Calls Tryd.prog 12 #[.slice A n c] w (RetOwnInt w (nibsL zs) (badN zs)) := by
  have hl := Lib.hid h.len
  have HL := own_lit0 w
  go_enter Tryd.func12, Tryd.ntmps12
  go_wp2
  go_loopw [4, 5, 6] (fun v y i wr => ∃ k : Nat, k ≤ n ∧ i = .int .i64 k ∧ ∃ (A' : Option Addr) (c' : Nat), v = .slice A' k c' ∧ ∃ b : Nat, y = .int .i64 b ∧ b ≤ k ∧ Hid (b = badN (zs.take k)) ∧ Own wr w.heap.size wr.heap.size A' k c' (nibsL (zs.take k)) ∧ Below w.heap.size w wr) (fun _ _ i _ => n - (intOf i).toNat)
  case atStart => exact ⟨0, Nat.zero_le _, rfl, _, _, rfl, 0, rfl, Nat.le_refl _, Lib.hid rfl, HL.top, (Below.refl _ _).alloc (Nat.le_refl _) _⟩
  case round =>
    obtain ⟨k, hk, rfl, A', c', rfl, b, rfl, hbk, hbad, hown, hbel⟩ := hrel
    clear HL
    have hsz := hbel.size
    by_cases hlt : k < n
    · obtain ⟨b', off, rfl, hb', hc⟩ := (h.below hbel hB).at_ hlt
      have hi1 : (0 : Int) ≤ (k : Int) := by omega
      have hi2 : (k : Int) < (n : Int) := by omega
      by_cases hneg : nibF (zat zs k) < 0
      · have hd : decide (nibF (zat zs k) < 0) = true := by simp; exact hneg
        have HS := Lib.hid (show nibsL (zs.take k) ++ [0] = nibsL (zs.take (k + 1)) by rw [take_zat (by have := hl.out; omega), nibsL_snoc, nib1, if_pos hneg])
        have HB := Lib.hid (show b + 1 = badN (zs.take (k + 1)) by rw [take_zat (by have := hl.out; omega), badN_snoc, ← hbad.out, if_pos hneg])
        clear hd
        have hd : decide (nibF (zat zs k) < 0) = true := by simp; exact hneg
        clear hneg
        go_wp2_with (first | (go_at_call 23; refine (nibbleOf_s _ _).mono ?_; rintro e w2 ⟨rfl, hb2⟩) | (at_builtin; refine wpList_append_ints rfl _ _ _ rfl Tryd.underlying22 infoInt _ _ _ _ _ _ rfl ((hown.below hb2 (Nat.le_refl _)).alloc _) _ _ _ _ _ rfl (ri_one _ _ _) (by omega) (by have := hb2.size; simp; omega) ?_; intro A3 c3 w3 ho3 hoff3 hb3))
        have R := ho3
        rw [HS.out] at R
        go_roundw
        case rel => exact ⟨k + 1, by omega, by go_num, _, _, rfl, b + 1, by go_num, by omega, HB, R, ((bthen hbel hb2 hsz).alloc (by have := hb2.size; omega) _).trans (hb3.mono (by omega))⟩
        case measure => simp [intOf]; omega
      · have hd : decide (nibF (zat zs k) < 0) = false := by simp; omega
        have HS := Lib.hid (show nibsL (zs.take k) ++ [nibF (zat zs k)] = nibsL (zs.take (k + 1)) by rw [take_zat (by have := hl.out; omega), nibsL_snoc, nib1, if_neg hneg])
        have HB := Lib.hid (show b = badN (zs.take (k + 1)) by rw [take_zat (by have := hl.out; omega), badN_snoc, ← hbad.out, if_neg hneg]; rfl)
        clear hd
        have hd : decide (nibF (zat zs k) < 0) = false := by simp; omega
        clear hneg
        go_wp2_with (first | (go_at_call 23; refine (nibbleOf_s _ _).mono ?_; rintro e w2 ⟨rfl, hb2⟩) | (at_builtin; refine wpList_append_ints rfl _ _ _ rfl Tryd.underlying22 infoInt _ _ _ _ _ _ rfl ((hown.below hb2 (Nat.le_refl _)).alloc _) _ _ _ _ _ rfl (ri_one _ _ _) (by omega) (by have := hb2.size; simp; omega) ?_; intro A3 c3 w3 ho3 hoff3 hb3))
        have R := ho3
        rw [HS.out] at R
        go_roundw
        case rel => exact ⟨k + 1, by omega, by go_num, _, _, rfl, b, by go_num, by omega, HB, R, ((bthen hbel hb2 hsz).alloc (by have := hb2.size; omega) _).trans (hb3.mono (by omega))⟩
        case measure => simp [intOf]; omega
    · obtain rfl : k = n := by omega
      have R := hown
      have HB := Lib.hid (show b = badN zs by have := hbad.out; rwa [List.take_of_length_le (by have := hl.out; omega)] at this)
      rw [List.take_of_length_le (by have := hl.out; omega)] at R
      go_wp2
      go_ret2
      rw [← HB.out]
      exact ⟨_, _, _, rfl, R, hbel⟩
end Go.Proofs.YtnagphedlmbagaaDoor
