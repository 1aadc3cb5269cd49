/- Contracts of the small functions on numbers (program and reference), each walked once; every theorem says what the Go function returns and that it leaves the world alone. -/
import Derived.Test.YtmibajhilbfecaaRows
import Derived.WalkKit
import Derived.ProofKit
import Derived.OpenShut
import Derived.WalkLawsBesides
import Derived.WalkSpells
import Derived.Lib.Hide
import Derived.Lib.SmallJoins
namespace Go.Proofs.Ytmibajhilbfecaa
open Go.RowKit

theorem bcell {W w1 : World} (hb : Below W.heap.size W w1) : (∀ b o, b < W.heap.size → w1.cell? ⟨b, o, none⟩ = W.cell? ⟨b, o, none⟩) ∧ (∀ b o, b < W.heap.size → w1.frozen? ⟨b, o, none⟩ = W.frozen? ⟨b, o, none⟩) :=
  ⟨fun b o h => hb.cell (p := ⟨b, o, none⟩) h, fun b o h => hb.frozen (p := ⟨b, o, none⟩) h⟩

theorem ret_int {k : IntKind} {a b : Int} (h : a = b) : Ending.returned (.int k a) = .returned (.int k b) := by rw [h]
theorem ret_bool {a b : Bool} (h : a = b) : Ending.returned (.bool a) = .returned (.bool b) := by rw [h]

/-! ### plain functions -/
def inB (n lo hi : Int) : Bool := decide (lo ≤ n) && decide (n ≤ hi)
theorem inB_t {n lo hi : Int} : inB n lo hi = true ↔ lo ≤ n ∧ n ≤ hi := by simp [inB]
theorem inB_f {n lo hi : Int} : inB n lo hi = false ↔ ¬ (lo ≤ n ∧ n ≤ hi) := by
  rw [← inB_t]; simp
def fsum (a b : Int) : Int := if inB a 0 15 && inB b 0 15 then bits .xor .i64 a b else -1
def lcB (n : Int) : Bool := n == 1 || n == 2 || n == 4
theorem lcB_t {n : Int} : lcB n = true ↔ n = 1 ∨ n = 2 ∨ n = 4 := by simp [lcB, or_assoc]
def linkB (l r d : Int) : Bool := lcB l && inB r 1 4 && inB d 0 3
theorem linkB_t {l r d : Int} : linkB l r d = true ↔ (l = 1 ∨ l = 2 ∨ l = 4) ∧ (1 ≤ r ∧ r ≤ 4) ∧ (0 ≤ d ∧ d ≤ 3) := by
  simp [linkB, lcB_t, inB_t, and_assoc]
def capOf (l r d : Int) : Int := if linkB l r d then l * r else 0
def mixStep (y : Int) : Int :=
  bits .xor .i64 (bits .and .i64 (wrap64 (wrap64 (y * 1103515245) + 12345)) 2147483647) (bits .and .i64 (wrap64 (wrap64 (y * 1103515245) + 12345)) 2147483647 / 65536)
def mixM (y : Int) : Int := mixStep (mixStep (mixStep y))
def mixF (x : Int) : Int := mixM (bits .and .i64 x 2147483647)
def packLen (k d : Int) : Int := if k == 0 && inB d 1 16 then 7 + 5 * d else if (k == 1 || k == 2) && d == 0 then 7 else -1
def symFor (d : Int) : Int := if inB d 0 16 then (7 + 5 * d + 12) / 13 * 15 else -1

def itN {α : Type} (f : α → α) : Nat → α → α
  | 0, y => y
  | k + 1, y => f (itN f k y)

/-! ### bits of an int that is not below 0 -/
theorem ofInt_i64 (a : Nat) (ha : a < 9223372036854775808) : (BitVec.ofInt 64 (a : Int)).toNat = a := by
  rw [BitVec.ofInt_natCast, BitVec.toNat_ofNat]; exact Nat.mod_eq_of_lt (by omega)
theorem i64_and_nat (a b : Nat) (ha : a < 9223372036854775808) (hb : b < 9223372036854775808) : bits .and .i64 (a : Int) (b : Int) = ((a &&& b : Nat) : Int) := by
  have hx : a &&& b < 2 ^ 63 := Nat.and_lt_two_pow _ (by omega)
  show IntKind.i64.wrap ((BitVec.ofInt 64 (a : Int) &&& BitVec.ofInt 64 (b : Int)).toNat : Int) = _
  rw [BitVec.toNat_and, ofInt_i64 a ha, ofInt_i64 b hb, IntKind.wrap_i64]
  omega
theorem i64_or_nat (a b : Nat) (ha : a < 9223372036854775808) (hb : b < 9223372036854775808) : bits .or .i64 (a : Int) (b : Int) = ((a ||| b : Nat) : Int) := by
  have hx : a ||| b < 2 ^ 63 := Nat.or_lt_two_pow (by omega) (by omega)
  show IntKind.i64.wrap ((BitVec.ofInt 64 (a : Int) ||| BitVec.ofInt 64 (b : Int)).toNat : Int) = _
  rw [BitVec.toNat_or, ofInt_i64 a ha, ofInt_i64 b hb, IntKind.wrap_i64]
  omega
theorem i64_xor_nat (a b : Nat) (ha : a < 9223372036854775808) (hb : b < 9223372036854775808) : bits .xor .i64 (a : Int) (b : Int) = ((a ^^^ b : Nat) : Int) := by
  have hx : a ^^^ b < 2 ^ 63 := Nat.xor_lt_two_pow (by omega) (by omega)
  show IntKind.i64.wrap ((BitVec.ofInt 64 (a : Int) ^^^ BitVec.ofInt 64 (b : Int)).toNat : Int) = _
  rw [BitVec.toNat_xor, ofInt_i64 a ha, ofInt_i64 b hb, IntKind.wrap_i64]
  omega

/-! ### the scrambler -/
/-- One step of the scrambler over naturals. -/
def nx1 (s : Nat) : Nat := (2 * s) % 65536 + (s / 32768 + s / 8192 + s / 4096 + s / 1024) % 2
def nx4 (s : Nat) : Nat := nx1 (nx1 (nx1 (nx1 s)))
def nxF (s : Int) : Int := if inB s 1 65535 then (nx4 s.toNat : Nat) else 0
theorem nx1_lt (s : Nat) : nx1 s < 65536 := by unfold nx1; omega
theorem nx1_pos (s : Nat) (h : 1 ≤ s) (h' : s < 65536) : 1 ≤ nx1 s := by unfold nx1; omega
theorem nx4_lt (s : Nat) : nx4 s < 65536 := nx1_lt _
theorem nx4_pos (s : Nat) (h : 1 ≤ s) (h' : s < 65536) : 1 ≤ nx4 s :=
  nx1_pos _ (nx1_pos _ (nx1_pos _ (nx1_pos _ h h') (nx1_lt _)) (nx1_lt _)) (nx1_lt _)
theorem xor_and_one (a b : Nat) : (a ^^^ b) % 2 = (a + b) % 2 := by
  have h := Nat.xor_mod_two_pow (a := a) (b := b) (n := 1)
  simp only [Nat.pow_one] at h
  rw [h]
  rcases Nat.mod_two_eq_zero_or_one a with ha | ha <;> rcases Nat.mod_two_eq_zero_or_one b with hb | hb <;> simp only [ha, hb] <;> simp <;> omega
theorem xor_lt63 (a b : Nat) (ha : a < 9223372036854775808) (hb : b < 9223372036854775808) : a ^^^ b < 9223372036854775808 := Nat.xor_lt_two_pow (n := 63) ha hb
theorem nx1_bits (t : Nat) (h : t < 65536) :
    bits .or .i64 (bits .and .i64 (2 * (t : Int)) 65535) (bits .and .i64 (bits .xor .i64 (bits .xor .i64 (bits .xor .i64 ((t : Int) / 32768) ((t : Int) / 8192)) ((t : Int) / 4096)) ((t : Int) / 1024)) 1) = ((nx1 t : Nat) : Int) := by
  have e0 : (2 * (t : Int)) = ((2 * t : Nat) : Int) := by omega
  have e1 : ((t : Int) / 32768) = ((t / 32768 : Nat) : Int) := by omega
  have e2 : ((t : Int) / 8192) = ((t / 8192 : Nat) : Int) := by omega
  have e3 : ((t : Int) / 4096) = ((t / 4096 : Nat) : Int) := by omega
  have e4 : ((t : Int) / 1024) = ((t / 1024 : Nat) : Int) := by omega
  have b1 : (t / 32768) ^^^ (t / 8192) < 9223372036854775808 := xor_lt63 _ _ (by omega) (by omega)
  have b2 : ((t / 32768) ^^^ (t / 8192)) ^^^ (t / 4096) < 9223372036854775808 := xor_lt63 _ _ b1 (by omega)
  have b3 : (((t / 32768) ^^^ (t / 8192)) ^^^ (t / 4096)) ^^^ (t / 1024) < 9223372036854775808 := xor_lt63 _ _ b2 (by omega)
  rw [e0, e1, e2, e3, e4, i64_xor_nat _ _ (by omega) (by omega), i64_xor_nat _ _ b1 (by omega), i64_xor_nat _ _ b2 (by omega)]
  have c1 : bits .and .i64 ((2 * t : Nat) : Int) 65535 = ((2 * t &&& 65535 : Nat) : Int) := i64_and_nat _ 65535 (by omega) (by omega)
  have c2 : bits .and .i64 ((((((t / 32768) ^^^ (t / 8192)) ^^^ (t / 4096)) ^^^ (t / 1024) : Nat)) : Int) 1 = ((((((t / 32768) ^^^ (t / 8192)) ^^^ (t / 4096)) ^^^ (t / 1024)) &&& 1 : Nat) : Int) := i64_and_nat _ 1 b3 (by omega)
  have d1 : 2 * t &&& 65535 = (2 * t) % 65536 := Nat.and_two_pow_sub_one_eq_mod (2 * t) 16
  have d2 : ∀ x : Nat, x &&& 1 = x % 2 := fun x => Nat.and_two_pow_sub_one_eq_mod x 1
  rw [c1, c2, d1, d2, i64_or_nat _ _ (by omega) (by omega)]
  congr 1
  rw [nat_join 1 _ _ (by omega) (by omega)]
  unfold nx1
  have x1 := xor_and_one (((t / 32768) ^^^ (t / 8192)) ^^^ (t / 4096)) (t / 1024)
  have x2 := xor_and_one ((t / 32768) ^^^ (t / 8192)) (t / 4096)
  have x3 := xor_and_one (t / 32768) (t / 8192)
  omega

/-! ### within, l01In and what only calls them -/
theorem within_any (n lo hi : Int) (w : World) :
    Calls Try.prog 65 #[.int .i64 n, .int .i64 lo, .int .i64 hi] w fun e w' => e = .returned (.bool (inB n lo hi)) ∧ w = w' := by
  by_cases h1 : lo ≤ n
  · go_enter Try.func65, Try.ntmps65
    go_wp2
    go_ret
    exact ⟨by simp [inB, h1], rfl⟩
  · have h1' : decide (lo ≤ n) = false := by simp [h1]
    go_enter Try.func65, Try.ntmps65
    go_wp2
    go_ret
    exact ⟨by simp [inB, h1'], rfl⟩
theorem l01In_any (n lo hi : Int) (w : World) :
    Calls Try.prog 63 #[.int .i64 n, .int .i64 lo, .int .i64 hi] w fun e w' => e = .returned (.bool (inB n lo hi)) ∧ w = w' := by
  by_cases h1 : lo ≤ n
  · go_enter Try.func63, Try.ntmps63
    go_wp2
    go_ret
    exact ⟨by simp [inB, h1], rfl⟩
  · have h1' : decide (lo ≤ n) = false := by simp [h1]
    go_enter Try.func63, Try.ntmps63
    go_wp2
    go_ret
    exact ⟨by simp [inB, h1'], rfl⟩
theorem isSide_any (n : Int) (w : World) :
    Calls Try.prog 91 #[.int .i64 n] w fun e w' => e = .returned (.bool (inB n 1 16)) ∧ w = w' := by
  go_enter Try.func91, Try.ntmps91
  go_wp2_with (go_at_call 65; refine (within_any _ _ _ _).mono ?_; rintro e w' ⟨rfl, rfl⟩)
  go_ret
  exact ⟨rfl, rfl⟩

/-! ### FieldSum -/

/-! ### LaneCountOk, LinkOk, Capacity -/
theorem laneCountOk_i (n : Int) (w : World) :
    Calls Try.prog 87 #[.int .i64 n] w fun e w' => e = .returned (.bool (lcB n)) ∧ w = w' := by
  go_enter Try.func87, Try.ntmps87
  go_wp2
  all_goals (go_ret; exact ⟨by simp [lcB, *], rfl⟩)
theorem laneCountOk_s (n : Int) (w : World) :
    Calls Try.prog 88 #[.int .i64 n] w fun e w' => e = .returned (.bool (lcB n)) ∧ w = w' := by
  go_enter Try.func88, Try.ntmps88
  go_wp2
  all_goals (go_ret; exact ⟨by simp [lcB, *], rfl⟩)
theorem linkOk_i (l r d : Int) (w : World) :
    Calls Try.prog 56 #[.agg #[.int .i64 l, .int .i64 r, .int .i64 d]] w fun e w' => e = .returned (.bool (linkB l r d)) ∧ Below w.heap.size w w' := by
  cases h1 : lcB l <;> cases h2 : inB r 1 4 <;>
  · go_enter Try.func56, Try.ntmps56
    go_wp2_with (first | (go_at_call 65; refine (within_any _ _ _ _).mono ?_; rintro e w' ⟨rfl, rfl⟩) | (go_at_call 87; refine (laneCountOk_i _ _).mono ?_; rintro e w' ⟨rfl, rfl⟩))
    go_ret
    exact ⟨by simp [linkB, h1, h2], (Below.refl _ _).alloc (Nat.le_refl _) _⟩
theorem linkOk_s (l r d : Int) (w : World) :
    Calls Try.prog 57 #[.agg #[.int .i64 l, .int .i64 r, .int .i64 d]] w fun e w' => e = .returned (.bool (linkB l r d)) ∧ Below w.heap.size w w' := by
  cases h1 : lcB l <;> cases h2 : inB r 1 4 <;>
  · go_enter Try.func57, Try.ntmps57
    go_wp2_with (first | (go_at_call 63; refine (l01In_any _ _ _ _).mono ?_; rintro e w' ⟨rfl, rfl⟩) | (go_at_call 88; refine (laneCountOk_s _ _).mono ?_; rintro e w' ⟨rfl, rfl⟩))
    go_ret
    exact ⟨by simp [linkB, h1, h2], (Below.refl _ _).alloc (Nat.le_refl _) _⟩
theorem toLink_any (l r d : Int) (w : World) :
    Calls Try.prog 24 #[.agg #[.int .i64 l, .int .i64 r, .int .i64 d]] w fun e w' => e = .returned (.agg #[.int .i64 l, .int .i64 r, .int .i64 d]) ∧ Below w.heap.size w w' := by
  go_enter Try.func24, Try.ntmps24
  go_wp2
  refine bodyPost_ret (v := .agg #[.int .i64 l, .int .i64 r, .int .i64 d]) (by simp [results, Try.results24, go_sem]) rfl ⟨rfl, ?_⟩
  exact (((Below.refl _ _).alloc (Nat.le_refl _) _).alloc (by simp) _).alloc (by simp; omega) _
end Go.Proofs.Ytmibajhilbfecaa
