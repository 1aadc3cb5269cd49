/- Syndromes of a block, program and reference. -/
import Derived.Test.YtkmbblooofmnpaaField
namespace Go.Proofs.Ytkmbblooofmnpaa
open Go.RowKit Go.Deep

theorem quiet_add_left {P : Program} {f : FuncId} {args : Array Value} {w : World} {a n : Nat} {v : Value}
    (h : Calls P f args (w.drewN (a + n)) fun e w' => e = .returned v ∧ w.drewN (a + n) = w') :
    Calls P f args (w.drewN (a + n)) fun e w'' => e = .returned v ∧ ∃ m, w'' = w.drewN (a + m) :=
  h.mono fun _ _ ⟨he, hm⟩ => ⟨he, n, hm.symm⟩
theorem quiet_left {P : Program} {f : FuncId} {args : Array Value} {w : World} {n : Nat} {v : Value}
    (h : Calls P f args (w.drewN n) fun e w' => e = .returned v ∧ w.drewN n = w') : Calls P f args (w.drewN n) fun e w'' => e = .returned v ∧ ∃ m, w'' = w.drewN m :=
  h.mono fun _ _ ⟨he, hm⟩ => ⟨he, n, hm.symm⟩

def nibs (zs : List Int) : Bool := zs.all fun z => inB z 0 15
theorem nibs_at {zs : List Int} (h : nibs zs = true) {k : Nat} (hk : k < zs.length) : 0 ≤ zat zs k ∧ zat zs k ≤ 15 := inB_t.1 (List.all_eq_true.1 h _ (zat_mem hk))
def synStep (p : Nat × Nat × Nat) (z : Int) : Nat × Nat × Nat := (p.1 ^^^ z.toNat, p.2.1 ^^^ gmul z.toNat (powN p.2.2), p.2.2 + 1)
/-- The two syndromes of the nibbles so far, and how many they are. -/
def syn (zs : List Int) : Nat × Nat × Nat := zs.foldl synStep (0, 0, 0)
theorem syn_snoc (zs : List Int) (z : Int) : syn (zs ++ [z]) = synStep (syn zs) z := by simp [syn]
theorem foldl_syn_len : ∀ (zs : List Int) (p : Nat × Nat × Nat), (zs.foldl synStep p).2.2 = p.2.2 + zs.length
  | [], _ => rfl
  | z :: zs, p => by rw [List.foldl_cons, foldl_syn_len zs]; simp [synStep]; omega
theorem syn_len (zs : List Int) : (syn zs).2.2 = zs.length := by simp [syn, foldl_syn_len]
def ok15 (zs : List Int) : Bool := decide (zs.length = 15) && nibs zs
def synA (zs : List Int) : Int := if ok15 zs then ((syn zs).1 : Nat) else -1
def synB (zs : List Int) : Int := if ok15 zs then ((syn zs).2.1 : Nat) else -1

theorem isBlock_any (A : Option Addr) (n c B : Nat) (m : Int) (zs : List Int) (w : World) (h : RI w B A n zs) (hn : n ≤ 4294967296) :
    Calls Try.prog 79 #[.slice A n c, .int .i64 m] w fun e w' => e = .returned (.bool (decide ((n : Int) = m) && nibs zs)) ∧ w = w' := by
  by_cases h1 : (n : Int) = m
  · subst h1
    go_enter Try.func79, Try.ntmps79
    go_wp2_with (go_at_call 63; refine (areNibbles_any _ _ _ _ _ _ h hn).mono ?_; rintro e w1 ⟨rfl, rfl⟩)
    go_ret
    exact ⟨ret_bool (by simp [nibs]), rfl⟩
  · have h1' : ((n : Int) == m) = false := by simp [h1]
    have HH := Lib.hid h1
    clear h1
    go_enter Try.func79, Try.ntmps79
    go_wp2_with (go_at_call 63; refine (areNibbles_any _ _ _ _ _ _ h hn).mono ?_; rintro e w1 ⟨rfl, rfl⟩)
    go_ret
    exact ⟨ret_bool (by simp [HH.out]), rfl⟩
theorem isBlock_v (A : Option Addr) (n c B : Nat) (m : Int) (zs : List Int) (w : World) (h : RI w B A n zs) (hn : n ≤ 4294967296) {v : Bool} (hv : (decide ((n : Int) = m) && nibs zs) = v) :
    Calls Try.prog 79 #[.slice A n c, .int .i64 m] w fun e w' => e = .returned (.bool v) ∧ w = w' := by
  subst hv; exact isBlock_any A n c B m zs w h hn
theorem syndromes_i (A : Option Addr) (n c B : Nat) (zs : List Int) (w : World) (h : RI w B A n zs) (hn : n ≤ 4294967296) :
    Calls Try.prog 80 #[.slice A n c] w fun e w' => e = .returned (.tuple #[.int .i64 (synA zs), .int .i64 (synB zs)]) ∧ ∃ q, w' = w.drewN q := by
  have hl := Lib.hid h.len
  cases h1 : (decide ((n : Int) = 15) && nibs zs)
  · have hno : ok15 zs = false := by
      have := hl.out
      unfold ok15
      rw [this]
      have e : decide (n = 15) = decide ((n : Int) = 15) := by by_cases hx : n = 15 <;> simp [hx]; omega
      rw [e]; exact h1
    have HA := Lib.hid (show synA zs = -1 by simp [synA, hno])
    have HB := Lib.hid (show synB zs = -1 by simp [synB, hno])
    clear hno
    go_enter Try.func80, Try.ntmps80
    go_wp2_with (go_at_call 79; refine (isBlock_v _ _ _ _ _ _ _ h hn h1).mono ?_; rintro e w1 ⟨rfl, rfl⟩)
    go_ret2
    exact ⟨by rw [HA.out, HB.out]; rfl, 0, rfl⟩
  · have h15 : n = 15 := by have := (Bool.and_eq_true_iff.1 h1).1; simp at this; omega
    have HN := Lib.hid (Bool.and_eq_true_iff.1 h1).2
    subst h15
    have hok : ok15 zs = true := by unfold ok15; rw [HN.out, hl.out]; simp
    have HA := Lib.hid (show synA zs = ((syn zs).1 : Nat) by simp [synA, hok])
    have HB := Lib.hid (show synB zs = ((syn zs).2.1 : Nat) by simp [synB, hok])
    clear hok
    go_enter Try.func80, Try.ntmps80
    go_wp2_with (go_at_call 79; refine (isBlock_v _ _ _ _ _ _ _ h hn h1).mono ?_; rintro e w1 ⟨rfl, rfl⟩)
    go_loop [4, 5, 13] (fun a b i => ∃ k : Nat, k ≤ 15 ∧ i = .int .i64 k ∧ ∃ x y : Nat, a = .int .i64 x ∧ b = .int .i64 y ∧ x < 16 ∧ y < 16 ∧ Hid (syn (zs.take k) = (x, y, k))) (fun _ _ i => 15 - (intOf i).toNat)
    case atStart => exact ⟨0, Nat.zero_le _, rfl, 0, 0, rfl, rfl, by omega, by omega, Lib.hid (by simp [syn])⟩
    case round =>
      obtain ⟨k, hk, rfl, x, y, rfl, rfl, hx, hy, hs⟩ := hrel
      by_cases hlt : k < 15
      · obtain ⟨b, off, rfl, hb, hc⟩ := h.at_ hlt
        have hkl : k < zs.length := by have := hl.out; omega
        have hr := nibs_at HN.out hkl
        obtain ⟨z, hz⟩ := Int.eq_ofNat_of_zero_le hr.1
        have hz16 : z < 16 := by omega
        rw [hz] at hc
        have hpw := powN_lt' hlt
        have HS := Lib.hid (show syn (zs.take (k + 1)) = (x ^^^ z, y ^^^ gmul z (powN k), k + 1) by
          rw [take_zat hkl, syn_snoc, hs.out, hz]; rfl)
        have hgl : gmul z (powN k) < 16 := gmul_lt hz16 hpw
        have HX := Lib.hid (show x ^^^ z < 16 from Nat.xor_lt_two_pow (n := 4) hx hz16)
        have HY := Lib.hid (show y ^^^ gmul z (powN k) < 16 from Nat.xor_lt_two_pow (n := 4) hy hgl)
        have e1 : bits .xor .i64 (x : Int) (z : Int) = ((x ^^^ z : Nat) : Int) := i64_xor_nat x z (by omega) (by omega)
        have e2 : bits .xor .i64 (y : Int) ((gmul z (powN k) : Nat) : Int) = ((y ^^^ gmul z (powN k) : Nat) : Int) := i64_xor_nat y _ (by omega) (by omega)
        have e3 : fpow (k : Int) = ((powN k : Nat) : Int) := fpow_nat hlt
        clear hz hr hs
        go_wp2_with (first | (go_at_call 83; refine (fieldPower_i _ _).mono ?_; rw [e3]; rintro e w1 ⟨rfl, rfl⟩) | (go_at_call 82; refine (fieldProduct_n z (powN k) hz16 hpw _).mono ?_; rintro e w1 ⟨rfl, rfl⟩))
        go_round
        case rel => exact ⟨k + 1, by omega, by go_num, _, _, rfl, rfl, HX.out, HY.out, HS⟩
        case measure => simp [intOf]; omega
      · obtain rfl : k = 15 := by omega
        have hse := hs.out
        rw [List.take_of_length_le (by have := hl.out; omega)] at hse
        have HSE := Lib.hid hse
        clear hse
        go_wp2
        go_ret2
        exact ⟨by rw [HA.out, HB.out, HSE.out]; rfl, 0, rfl⟩
theorem syndromes_ib (A : Option Addr) (n c B : Nat) (zs : List Int) (w : World) (h : RI w B A n zs) (hn : n ≤ 4294967296) :
    Calls Try.prog 80 #[.slice A n c] w fun e w' => e = .returned (.tuple #[.int .i64 (synA zs), .int .i64 (synB zs)]) ∧ Below w.heap.size w w' :=
  (syndromes_i A n c B zs w h hn).mono fun e w' ⟨he, q, hq⟩ => ⟨he, by rw [hq]; exact below_of_drewN q⟩
theorem xor16 {a b : Nat} (ha : a < 16) (hb : b < 16) : a ^^^ b < 16 := Nat.xor_lt_two_pow (n := 4) ha hb
theorem syn_take_lt {zs : List Int} (h : nibs zs = true) (hl : zs.length ≤ 15) : ∀ k, k ≤ zs.length → (syn (zs.take k)).1 < 16 ∧ (syn (zs.take k)).2.1 < 16
  | 0, _ => by simp [syn]
  | k + 1, hk => by
    have ih := syn_take_lt h hl k (by omega)
    have hr := nibs_at h (show k < zs.length by omega)
    have h2 : (syn (zs.take k)).2.2 = k := by rw [syn_len, List.length_take]; omega
    rw [take_zat (by omega), syn_snoc]
    unfold synStep
    rw [h2]
    exact ⟨xor16 ih.1 (by omega), xor16 ih.2 (gmul_lt (by omega) (powN_lt' (by omega)))⟩
theorem syn_lt {zs : List Int} (h : nibs zs = true) (hl : zs.length ≤ 15) : (syn zs).1 < 16 ∧ (syn zs).2.1 < 16 := by
  have := syn_take_lt h hl zs.length (Nat.le_refl _)
  rwa [List.take_of_length_le (Nat.le_refl _)] at this
theorem syn_two (zs : List Int) (x y : Int) : syn (zs ++ [x, y]) = synStep (synStep (syn zs) x) y := by simp [syn]
end Go.Proofs.Ytkmbblooofmnpaa
