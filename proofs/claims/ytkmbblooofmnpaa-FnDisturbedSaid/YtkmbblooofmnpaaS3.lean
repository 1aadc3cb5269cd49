/- Contracts: StartOf, LongestZeros, ScrambleAfter, FreeSlots, Scramble, program and reference: both return the same plain function. -/
import Derived.Test.YtkmbblooofmnpaaSl
import Derived.Test.YtkmbblooofmnpaaNum2
namespace Go.Proofs.Ytkmbblooofmnpaa
open Go.RowKit Go.Deep

/-! ### StartOf -/
theorem startOf_i (A : Option Addr) (n c B : Nat) (zs : List Int) (w : World) (h : RI w B A n zs) (hn : n ≤ 4294967296) :
    Calls Try.prog 44 #[.slice A n c] w fun e w' => e = .returned (.int .i64 (findI 24 zs)) ∧ w = w' := by
  go_enter Try.func44, Try.ntmps44
  go_wp2_with (go_at_call 72; refine (index_any _ _ _ _ _ _ _ h hn).mono ?_; rintro e w' ⟨rfl, rfl⟩)
  go_ret
  exact ⟨rfl, rfl⟩
theorem startOf_s (A : Option Addr) (n c B : Nat) (zs : List Int) (w : World) (h : RI w B A n zs) (hn : n ≤ 4294967296) :
    Calls Try.prog 55 #[.slice A n c] w fun e w' => e = .returned (.int .i64 (findI 24 zs)) ∧ w = w' := by
  have hl := Lib.hid h.len
  go_enter Try.func55, Try.ntmps55
  go_wp2
  go_loop [3] (fun i => ∃ k : Nat, k ≤ n ∧ i = .int .i64 k ∧ Hid (∀ j, j < k → zat zs j ≠ 24)) (fun i => n - (intOf i).toNat)
  case atStart => exact ⟨0, Nat.zero_le _, rfl, Lib.hid (fun j hj => absurd hj (by omega))⟩
  case round =>
    obtain ⟨k, hk, rfl, hne⟩ := hrel
    by_cases hlt : k < n
    · obtain ⟨b, off, rfl, hb, hc⟩ := h.at_ hlt
      by_cases he : zat zs k = 24
      · have HF := Lib.hid (findI_some (show k < zs.length by have := hl.out; omega) he hne.out)
        have hv : (zat zs k == 24) = true := by simp [he]
        clear he
        go_wp2
        go_ret
        exact ⟨ret_int HF.out.symm, rfl⟩
      · have HS := Lib.hid (ne_step hne.out he)
        have hv : (zat zs k == 24) = false := by simp [he]
        clear he
        go_wp2
        go_round
        case rel => exact ⟨k + 1, by omega, by go_num, HS⟩
        case measure => simp [intOf]; omega
    · obtain rfl : k = n := by omega
      have HF := Lib.hid (findI_none (zs := zs) (fun j hj => hne.out j (by have := hl.out; omega)))
      go_wp2
      go_ret
      exact ⟨ret_int HF.out.symm, rfl⟩

/-! ### LongestZeros -/
def lzStep (p : Int × Int) (z : Int) : Int × Int := if z = 0 then ((if p.1 < p.2 + 1 then p.2 + 1 else p.1), p.2 + 1) else (p.1, 0)
def lz (zs : List Int) : Int × Int := zs.foldl lzStep (0, 0)
theorem lz_snoc (zs : List Int) (z : Int) : lz (zs ++ [z]) = lzStep (lz zs) z := by simp [lz]

/-! ### ScrambleAfter -/
def saF (a b : Int) : Int := if inB a 1 65535 && inB b 0 1000000 then ((itN nx4 b.toNat a.toNat : Nat) : Int) else 0
theorem it_nx4 (s : Nat) (h1 : 1 ≤ s) (h2 : s ≤ 65535) : ∀ k, 1 ≤ itN nx4 k s ∧ itN nx4 k s ≤ 65535
  | 0 => ⟨h1, h2⟩
  | k + 1 => by
    have h := it_nx4 s h1 h2 k
    exact ⟨nx4_pos _ h.1 (by omega), by have := nx4_lt (itN nx4 k s); show nx4 (itN nx4 k s) ≤ _; omega⟩

/-! ### FreeSlots -/
def freeF (s : Int) (zs : List Int) : List Int := zs.map fun z => if z = s then 0 else z
theorem freeF_len (s : Int) (zs : List Int) : (freeF s zs).length = zs.length := by simp [freeF]
theorem free_same (zs : List Int) (n k : Nat) (s : Int) (hl : zs.length = n) (hk : k < n) (h : zat zs k ≠ s) : freeF s (zs.take k) ++ zs.drop k = freeF s (zs.take (k + 1)) ++ zs.drop (k + 1) := by
  rw [List.drop_eq_getElem_cons (by omega), take_zat (by omega), freeF, freeF, List.map_append, ← zat_eq (by omega)]
  simp [h]
theorem free_set (zs : List Int) (n k : Nat) (s : Int) (hl : zs.length = n) (hk : k < n) (h : zat zs k = s) : (freeF s (zs.take k) ++ zs.drop k).set k 0 = freeF s (zs.take (k + 1)) ++ zs.drop (k + 1) := by
  rw [List.drop_eq_getElem_cons (by omega), take_zat (by omega), List.set_append_right _ _ (by rw [freeF_len]; simp; omega), freeF_len]
  have : k - (zs.take k).length = 0 := by simp; omega
  rw [this, List.set_cons_zero]
  simp [freeF, h]
theorem zat_free (zs : List Int) (n k : Nat) (s : Int) (hl : zs.length = n) (hk : k < n) : zat (freeF s (zs.take k) ++ zs.drop k) k = zat zs k := by
  unfold zat
  rw [List.getD_eq_getElem?_getD, List.getElem?_append_right (by rw [freeF_len]; simp; omega), freeF_len]
  have : k - (zs.take k).length = 0 := by simp; omega
  rw [this]
  simp
end Go.Proofs.Ytkmbblooofmnpaa
