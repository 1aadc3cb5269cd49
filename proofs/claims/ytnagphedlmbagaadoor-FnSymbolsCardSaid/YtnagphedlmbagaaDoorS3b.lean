/- Contracts: Scramble, BitsOf. -/
import Derived.Test.YtnagphedlmbagaaDoorS3
namespace Go.Proofs.YtnagphedlmbagaaDoor
open Go.RowKit Go.Deep

def scrF : List Int → Nat → List Int
  | [], _ => []
  | z :: zs, s => bits .xor .i64 z (bits .and .i64 s 15) :: scrF zs (nx4 s)
theorem scrF_len : ∀ (zs : List Int) (s : Nat), (scrF zs s).length = zs.length
  | [], _ => rfl
  | _ :: zs, s => by simp [scrF, scrF_len zs]
theorem itN_out {α : Type} (f : α → α) : ∀ (k : Nat) (y : α), itN f k (f y) = f (itN f k y)
  | 0, _ => rfl
  | k + 1, y => by show f (itN f k (f y)) = _; rw [itN_out f k y]; rfl
theorem scrF_snoc : ∀ (zs : List Int) (z : Int) (s : Nat), scrF (zs ++ [z]) s = scrF zs s ++ [bits .xor .i64 z (bits .and .i64 (itN nx4 zs.length s : Nat) 15)]
  | [], _, _ => rfl
  | y :: zs, z, s => by
    simp only [List.cons_append, scrF, scrF_snoc zs z (nx4 s), List.length_cons]
    rw [itN_out]; rfl
def scramF (zs : List Int) (s : Int) : List Int := if zs.all (fun z => inB z 0 15) && inB s 1 65535 then scrF zs s.toNat else []


/-! ### BitsOf -/
def bit (s : Int) (d : Int) : Int := bits .and .i64 (s / d) 1
def bits5 (s : Int) : List Int := [bit s 16, bit s 8, bit s 4, bit s 2, bit s 1]
def bitsL (zs : List Int) : List Int := zs.flatMap bits5
def bitsF (zs : List Int) : List Int := if zs.all (fun z => inB z 0 31) then bitsL zs else []
theorem bitsL_snoc (zs : List Int) (z : Int) : bitsL (zs ++ [z]) = bitsL zs ++ bits5 z := by simp [bitsL]
/-- The inner loop: k still to be taken, the bits taken so far. -/
def BitSt (s : Int) (k : Int) (done : List Int) : Prop :=
  (k = 4 ∧ done = []) ∨ (k = 3 ∧ done = [bit s 16]) ∨ (k = 2 ∧ done = [bit s 16, bit s 8]) ∨ (k = 1 ∧ done = [bit s 16, bit s 8, bit s 4]) ∨
  (k = 0 ∧ done = [bit s 16, bit s 8, bit s 4, bit s 2]) ∨ (k = -1 ∧ done = bits5 s)
theorem app_one (xs ys zs : List Int) (z : Int) (h : ys ++ [z] = zs) : (xs ++ ys) ++ [z] = xs ++ zs := by rw [List.append_assoc, h]
theorem bitsL_len : ∀ zs : List Int, (bitsL zs).length = 5 * zs.length
  | [] => rfl
  | z :: zs => by
    have : bitsL (z :: zs) = bits5 z ++ bitsL zs := by simp [bitsL]
    rw [this, List.length_append, bitsL_len zs]
    simp [bits5]; omega
theorem bitsOf_i (A : Option Addr) (n c B : Nat) (zs : List Int) (w : World) (h : RI w B A n zs) (hB : B ≤ w.heap.size) (hn : n ≤ 4294967296) :
    Calls Tryd.prog 16 #[.slice A n c] w (RetOwn w (bitsF zs)) := by
  have hl := Lib.hid h.len
  cases h1 : zs.all (fun z => inB z 0 31)
  · have HF := Lib.hid (show bitsF zs = [] by simp only [bitsF, h1]; simp)
    go_enter Tryd.func16, Tryd.ntmps16
    go_wp2_with (go_at_call 26; refine (areSymbols_any _ _ _ _ _ _ h hn).mono ?_; rintro e w1 ⟨rfl, rfl⟩)
    go_ret
    rw [HF.out]
    exact ⟨_, _, _, rfl, Own.nil, Below.refl _ _⟩
  · have HF := Lib.hid (show bitsF zs = bitsL zs by simp only [bitsF, h1]; simp)
    have HL := own_lit0 w
    have HA := Lib.hid (fun z (hz : z ∈ zs) => inB_t.1 (List.all_eq_true.1 h1 z hz))
    go_enter Tryd.func16, Tryd.ntmps16
    go_wp2_with (go_at_call 26; refine (areSymbols_any _ _ _ _ _ _ h hn).mono ?_; rintro e w1 ⟨rfl, rfl⟩)
    go_loopw [3, 13] (fun v i wr => ∃ k : Nat, k ≤ n ∧ i = .int .i64 k ∧ ∃ (A' : Option Addr) (L c' : Nat), v = .slice A' L c' ∧ L ≤ 5 * k ∧ Own wr w.heap.size wr.heap.size A' L c' (bitsL (zs.take k)) ∧ Below w.heap.size w wr) (fun _ i _ => n - (intOf i).toNat)
    case atStart => exact ⟨0, Nat.zero_le _, rfl, _, _, _, rfl, Nat.le_refl _, HL.top, (Below.refl _ _).alloc (Nat.le_refl _) _⟩
    case round =>
      obtain ⟨k, hk, rfl, A', L, c', rfl, hL, hown, hbel⟩ := hrel
      obtain ⟨wo, rfl⟩ : ∃ wo : World, wo = wr := ⟨_, rfl⟩
      by_cases hlt : k < n
      · obtain ⟨b, off, rfl, hb', hc0⟩ := h.at_ hlt
        have hc : wo.cell? ⟨b, off + k, none⟩ = some (.int .i64 (zat zs k)) := (hbel.cell (by show b < _; omega)).trans hc0
        have HS := Lib.hid (show bitsL (zs.take (k + 1)) = bitsL (zs.take k) ++ bits5 (zat zs k) by rw [take_zat (by have := hl.out; omega), bitsL_snoc])
        have hr := HA.out _ (zat_mem (show k < zs.length by have := hl.out; omega))
        have HL2 : Own wo w.heap.size wo.heap.size A' L c' (bitsL (zs.take k) ++ []) := by simpa using hown
        clear hown
        go_wp2
        go_loopw [3, 6] (fun v kk wi => ∃ (x : Int) (L2 : Nat) (done : List Int) (A2 : Option Addr) (c2 : Nat), kk = .int .i64 x ∧ v = .slice A2 L2 c2 ∧ BitSt (zat zs k) x done ∧ Own wi w.heap.size wi.heap.size A2 L2 c2 (bitsL (zs.take k) ++ done) ∧ Below w.heap.size w wi ∧ L2 + (x + 1).toNat ≤ 5 * k + 5) (fun _ kk _ => (intOf kk + 1).toNat)
        case atStart => exact ⟨4, _, [], _, _, rfl, rfl, .inl ⟨rfl, rfl⟩, HL2, hbel, by simp; omega⟩
        case round =>
          obtain ⟨x, L2, done, A2, c2, rfl, rfl, hst, hown, hbel2, hL2⟩ := hrel
          have hsz := hbel2.size
          have hc2 : wr.cell? ⟨b, off + k, none⟩ = some (.int .i64 (zat zs k)) := (hbel2.cell (by show b < _; omega)).trans hc0
          clear hc HL2 HL
          rcases hst with ⟨rfl, rfl⟩ | ⟨rfl, rfl⟩ | ⟨rfl, rfl⟩ | ⟨rfl, rfl⟩ | ⟨rfl, rfl⟩ | ⟨rfl, rfl⟩
          iterate 5
            · have hL3 : L2 ≤ 5 * k + 5 := by omega
              go_wp2_with (at_builtin; refine wpList_append_ints rfl _ _ _ rfl Tryd.underlying22 infoInt _ _ _ _ _ _ rfl (hown.alloc _) _ _ _ _ _ rfl (ri_one _ _ _) (by omega) (by simp; omega) ?_; intro A3 c3 w3 ho3 hoff3 hb3)
              have R := ho3
              rw [app_one _ _ _ _ rfl] at R
              go_roundw
              case rel => exact ⟨_, _, _, _, _, rfl, rfl, (by first | exact .inr (.inl ⟨rfl, rfl⟩) | exact .inr (.inr (.inl ⟨rfl, rfl⟩)) | exact .inr (.inr (.inr (.inl ⟨rfl, rfl⟩))) | exact .inr (.inr (.inr (.inr (.inl ⟨rfl, rfl⟩)))) | exact .inr (.inr (.inr (.inr (.inr ⟨rfl, by simp [bits5, bit]⟩))))), R, (hbel2.alloc (by omega) _).trans hb3, by simp at hL2 ⊢; omega⟩
              case measure => simp [intOf]
          · have R := hown
            rw [← HS.out] at R
            have hlen : L2 ≤ 5 * (k + 1) := by simp at hL2; omega
            go_wp2
            go_roundw
            case rel => exact ⟨k + 1, by omega, by go_num, _, _, _, rfl, hlen, R, hbel2⟩
            case measure => simp [intOf]; omega
      · obtain rfl : k = n := by omega
        have R := hown
        rw [List.take_of_length_le (by have := hl.out; omega)] at R
        go_wp2
        go_ret
        rw [HF.out]
        exact ⟨_, _, _, rfl, R, hbel⟩
end Go.Proofs.YtnagphedlmbagaaDoor
