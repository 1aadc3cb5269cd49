/- SymbolsOf and NibblesOf of the program and of the reference. -/
import Derived.Test.YtkmbblooofmnpaaTab
import Derived.Test.YtkmbblooofmnpaaApp3
namespace Go.Proofs.Ytkmbblooofmnpaa
open Go.RowKit Go.Deep

theorem tab_lt {w : World} (h : Tab w) : 1 ≤ w.heap.size := by
  have hc := h.cell (show 0 < 16 by omega)
  by_cases hx : 1 ≤ w.heap.size
  · exact hx
  · have : w.heap[0]? = none := Array.getElem?_eq_none (by omega)
    simp [World.cell?, this] at hc
def symL (zs : List Int) : List Int := zs.map (fun z => zat tabL z.toNat)
def symsF (zs : List Int) : List Int := if zs.all (fun z => inB z 0 15) then symL zs else []
theorem symL_len (zs : List Int) : (symL zs).length = zs.length := by simp [symL]
theorem symsF_len (zs : List Int) : (symsF zs).length ≤ zs.length := by unfold symsF; split <;> simp [symL_len]
theorem symL_snoc (zs : List Int) (z : Int) : symL (zs ++ [z]) = symL zs ++ [zat tabL z.toNat] := by simp [symL]
set_option maxHeartbeats 1000000 in
theorem symbolsOf_s (A : Option Addr) (n c B : Nat) (zs : List Int) (w : World) (h : RI w B A n zs) (hB : B ≤ w.heap.size) (hn : n ≤ 4294967296) :
    Calls Try.prog 43 #[.slice A n c] w (RetOwn w (symsF zs)) := by
  have hl := Lib.hid h.len
  have HL := own_lit0 w
  go_enter Try.func43, Try.ntmps43
  go_wp2
  go_loopw [3, 4] (fun v i wr => ∃ k : Nat, k ≤ n ∧ i = .int .i64 k ∧ ∃ (A' : Option Addr) (c' : Nat), v = .slice A' k c' ∧ Own wr w.heap.size wr.heap.size A' k c' (symL (zs.take k)) ∧ Below w.heap.size w wr ∧ Hid (0 < k → zs.all (fun z => inB z 0 15) = true)) (fun _ i _ => n - (intOf i).toNat)
  case atStart => exact ⟨0, Nat.zero_le _, rfl, _, _, rfl, HL.top, (Below.refl _ _).alloc (Nat.le_refl _) _, Lib.hid (fun h => absurd h (by omega))⟩
  case round =>
    obtain ⟨k, hk, rfl, A', c', rfl, hown, hbel, hpos⟩ := hrel
    clear HL
    have hsz := hbel.size
    have hR := h.below hbel hB
    by_cases hlt : k < n
    · obtain ⟨b, off, hA, hb', hc⟩ := hR.at_ hlt
      have hi1 : (0 : Int) ≤ (k : Int) := by omega
      have hi2 : (k : Int) < (n : Int) := by omega
      cases h1 : zs.all (fun z => inB z 0 15)
      · have HF := Lib.hid (show symsF zs = [] by simp only [symsF, h1]; simp)
        obtain rfl : k = 0 := by
          rcases Nat.eq_zero_or_pos k with h0 | h0
          · exact h0
          · have := hpos.out h0; rw [h1] at this; cases this
        subst hA
        go_wp2_with (go_at_call 70; refine (l27Nibbles_any _ _ _ _ zs _ hR hn).mono ?_; rw [h1]; rintro e w1 ⟨rfl, rfl⟩)
        go_ret
        rw [HF.out]
        exact ⟨_, _, _, rfl, hown, hbel⟩
      · have HP := Lib.hid h1
        have hr := inB_t.1 (List.all_eq_true.1 h1 _ (zat_mem (show k < zs.length by have := hl.out; omega)))
        have HS := Lib.hid (show symL (zs.take (k + 1)) = symL (zs.take k) ++ [symF (zat zs k)] by rw [take_zat (by have := hl.out; omega), symL_snoc, symF, if_pos (inB_t.2 hr)])
        subst hA
        go_wp2_with (first | (go_at_call 70; refine (l27Nibbles_any _ _ _ _ zs _ hR hn).mono ?_; rw [h1]; rintro e w1 ⟨rfl, rfl⟩) | (go_at_call 71; refine (symbolOf_s _ _).mono ?_; rintro e w2 ⟨rfl, hb2⟩) | (at_builtin; refine wpList_append_ints rfl _ _ _ rfl Try.underlying24 infoInt _ _ _ _ _ _ rfl ((hown.below hb2 (Nat.le_refl _)).alloc _) _ _ _ _ _ rfl (ri_one _ _ _) (by omega) (by have := hb2.size; simp; omega) ?_; intro A3 c3 w3 ho3 hoff3 hb3))
        have s2 := hb2.size
        have R := ho3
        rw [← HS.out] at R
        go_roundw
        case rel => exact ⟨k + 1, by omega, by go_num, _, _, rfl, R, ((bthen hbel hb2 hsz).alloc (by omega) _).trans (hb3.mono (by omega)), Lib.hid (fun _ => by first | trivial | exact HP.out)⟩
        case measure => simp [intOf]; omega
    · obtain rfl : k = n := by omega
      have HF := Lib.hid (show symsF zs = symL (zs.take k) by
        rw [List.take_of_length_le (by have := hl.out; omega)]
        rcases Nat.eq_zero_or_pos k with h0 | h0
        · have : zs = [] := List.eq_nil_of_length_eq_zero (by have := hl.out; omega)
          subst this; rfl
        · simp only [symsF, hpos.out h0]; simp)
      go_wp2
      go_ret
      rw [HF.out]
      exact ⟨_, _, _, rfl, hown, hbel⟩
def nib1 (s : Int) : Int := if nibF s < 0 then 0 else nibF s
def nibsL (zs : List Int) : List Int := zs.map nib1
def badN (zs : List Int) : Nat := zs.countP (fun s => decide (nibF s < 0))
theorem nibsL_len (zs : List Int) : (nibsL zs).length = zs.length := by simp [nibsL]
theorem nibsL_snoc (zs : List Int) (z : Int) : nibsL (zs ++ [z]) = nibsL zs ++ [nib1 z] := by simp [nibsL]
theorem badN_snoc (zs : List Int) (z : Int) : badN (zs ++ [z]) = badN zs + if nibF z < 0 then 1 else 0 := by
  simp [badN, List.countP_append, List.countP_cons]
end Go.Proofs.Ytkmbblooofmnpaa
