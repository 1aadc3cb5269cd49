/- Contracts: StartOf, LongestZeros, ScrambleAfter, FreeSlots, Scramble, program and reference: both return the same plain function. -/
import Derived.Test.YtnagphedlmbagaaDoorSl
import Derived.Test.YtnagphedlmbagaaDoorNum2
namespace Go.Proofs.YtnagphedlmbagaaDoor
open Go.RowKit Go.Deep

/-! ### StartOf -/

/-! ### LongestZeros -/
def lzStep (p : Int × Int) (z : Int) : Int × Int := if z = 0 then ((if p.1 < p.2 + 1 then p.2 + 1 else p.1), p.2 + 1) else (p.1, 0)
def lz (zs : List Int) : Int × Int := zs.foldl lzStep (0, 0)
theorem lz_snoc (zs : List Int) (z : Int) : lz (zs ++ [z]) = lzStep (lz zs) z := by simp [lz]
theorem longestZeros_i (A : Option Addr) (n c B : Nat) (zs : List Int) (w : World) (h : RI w B A n zs) (hn : n ≤ 4294967296) :
    Calls Tryd.prog 19 #[.slice A n c] w fun e w' => e = .returned (.int .i64 (lz zs).1) ∧ w = w' := by
  have hl := Lib.hid h.len
  go_enter Tryd.func19, Tryd.ntmps19
  go_wp2
  go_loop [3, 4, 9] (fun b r i => ∃ k : Nat, k ≤ n ∧ i = .int .i64 k ∧ ∃ x y : Int, b = .int .i64 x ∧ r = .int .i64 y ∧ Hid ((x, y) = lz (zs.take k)) ∧ 0 ≤ x ∧ x ≤ k ∧ 0 ≤ y ∧ y ≤ k) (fun _ _ i => n - (intOf i).toNat)
  case atStart => exact ⟨0, Nat.zero_le _, rfl, 0, 0, rfl, rfl, Lib.hid (by simp [lz]), by omega, by omega, by omega, by omega⟩
  case round =>
    obtain ⟨k, hk, rfl, x, y, rfl, rfl, he, h1, h2, h3, h4⟩ := hrel
    by_cases hlt : k < n
    · obtain ⟨b, off, rfl, hb, hc⟩ := h.at_ hlt
      have HS := Lib.hid (show lz (zs.take (k + 1)) = lzStep (x, y) (zat zs k) by rw [take_zat (by have := hl.out; omega), lz_snoc, he.out])
      by_cases hz : zat zs k = 0
      · have HS2 := Lib.hid (show ((if x < y + 1 then y + 1 else x), y + 1) = lz (zs.take (k + 1)) by rw [HS.out]; simp [lzStep, hz])
        have hv : (zat zs k != 0) = false := by simp [hz]
        clear hz HS he
        go_wp2
        go_round
        case rel => exact ⟨k + 1, by omega, by go_num, _, _, rfl, rfl, HS2, by split <;> omega, by split <;> omega, by omega, by omega⟩
        case measure => simp [intOf]; omega
      · have HS2 := Lib.hid (show (x, (0 : Int)) = lz (zs.take (k + 1)) by rw [HS.out]; simp [lzStep, hz])
        have hv : (zat zs k != 0) = true := by simp [hz]
        clear hz HS he
        go_wp2
        go_round
        case rel => exact ⟨k + 1, by omega, by go_num, _, _, rfl, rfl, HS2, by omega, by omega, by omega, by omega⟩
        case measure => simp [intOf]; omega
    · obtain rfl : k = n := by omega
      go_wp2
      go_ret
      exact ⟨ret_int (by have := he.out; rw [List.take_of_length_le (by have := hl.out; omega)] at this; rw [← this]), rfl⟩

/-! ### ScrambleAfter -/
def saF (a b : Int) : Int := if inB a 1 65535 && inB b 0 1000000 then ((itN nx4 b.toNat a.toNat : Nat) : Int) else 0
theorem it_nx4 (s : Nat) (h1 : 1 ≤ s) (h2 : s ≤ 65535) : ∀ k, 1 ≤ itN nx4 k s ∧ itN nx4 k s ≤ 65535
  | 0 => ⟨h1, h2⟩
  | k + 1 => by
    have h := it_nx4 s h1 h2 k
    exact ⟨nx4_pos _ h.1 (by omega), by have := nx4_lt (itN nx4 k s); show nx4 (itN nx4 k s) ≤ _; omega⟩

/-! ### FreeSlots -/
def freeF (s : Int) (zs : List Int) : List Int := zs.map fun z => if z = s then 0 else z
theorem freeF_len (s : Int) (zs : List Int) : (freeF s zs).length = zs.length := by simp [freeF]
theorem free_same (zs : List Int) (n k : Nat) (s : Int) (hl : zs.length = n) (hk : k < n) (h : zat zs k ≠ s) : freeF s (zs.take k) ++ zs.drop k = freeF s (zs.take (k + 1)) ++ zs.drop (k + 1) := by
  rw [List.drop_eq_getElem_cons (by omega), take_zat (by omega), freeF, freeF, List.map_append, ← zat_eq (by omega)]
  simp [h]
theorem free_set (zs : List Int) (n k : Nat) (s : Int) (hl : zs.length = n) (hk : k < n) (h : zat zs k = s) : (freeF s (zs.take k) ++ zs.drop k).set k 0 = freeF s (zs.take (k + 1)) ++ zs.drop (k + 1) := by
  rw [List.drop_eq_getElem_cons (by omega), take_zat (by omega), List.set_append_right _ _ (by rw [freeF_len]; simp; omega), freeF_len]
  have : k - (zs.take k).length = 0 := by simp; omega
  rw [this, List.set_cons_zero]
  simp [freeF, h]
theorem zat_free (zs : List Int) (n k : Nat) (s : Int) (hl : zs.length = n) (hk : k < n) : zat (freeF s (zs.take k) ++ zs.drop k) k = zat zs k := by
  unfold zat
  rw [List.getD_eq_getElem?_getD, List.getElem?_append_right (by rw [freeF_len]; simp; omega), freeF_len]
  have : k - (zs.take k).length = 0 := by simp; omega
  rw [this]
  simp
end Go.Proofs.YtnagphedlmbagaaDoor
