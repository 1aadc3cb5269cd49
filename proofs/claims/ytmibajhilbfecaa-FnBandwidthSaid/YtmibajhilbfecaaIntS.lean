/- Contracts of the verifier's helpers on slices of ints (toIntS, eqIntS, markIntS, heldIntS, sameInts) and of the checks that all elements are nibbles. -/
import Derived.Test.YtmibajhilbfecaaBase
import Derived.Test.YtmibajhilbfecaaNum
import Derived.Deep.QuietTactic
import Derived.BigQuiet
namespace Go.Proofs.Ytmibajhilbfecaa
open Go.RowKit Go.Deep

theorem infoInt : (Try.prog.info? 3).map (fun i => (i.zero, i.size, i.bytes)) = some (some (.int .i64 0), 1, 8) := by kernel_rfl

theorem set_fill (zs : List Int) (n k : Nat) (hl : zs.length = n) (hk : k < n) : (zs.take k ++ List.replicate (n - k) 0).set k (zat zs k) = zs.take (k + 1) ++ List.replicate (n - (k + 1)) 0 := by
  have e : n - k = (n - (k + 1)) + 1 := by omega
  rw [e, List.replicate_succ, take_zat (by omega), List.set_append_right _ _ (by simp; omega)]
  have : k - (zs.take k).length = 0 := by simp; omega
  rw [this]
  simp

theorem toIntS_any (A : Option Addr) (n c B : Nat) (zs : List Int) (w : World) (h : RI w B A n zs) (hB : B ≤ w.heap.size) (hn : n ≤ 4294967296) :
    Calls Try.prog 64 #[.slice A n c] w (RetOwn w zs) := by
  have hmk := run_make_row' (P := Try.prog) 24 3 (.int .i64 0) 8 Try.underlying24 infoInt rfl .i64 .i64 n (by omega) (by omega)
  have HO := own_made w n (by simp only [maxLen]; omega)
  have hl := Lib.hid h.len
  go_enter Try.func64, Try.ntmps64
  go_wp2
  go_loopw [4] (fun i wr => ∃ k : Nat, k ≤ n ∧ i = .int .i64 k ∧ Own wr w.heap.size (w.heap.size + 1) (some ⟨w.heap.size, 0, none⟩) n n (zs.take k ++ List.replicate (n - k) 0) ∧ Below w.heap.size w wr) (fun i _ => n - (intOf i).toNat)
  case atStart => exact ⟨0, Nat.zero_le _, rfl, HO, (Below.refl _ _).alloc (Nat.le_refl _) _⟩
  case round =>
    obtain ⟨k, hk, rfl, hown, hbel⟩ := hrel
    by_cases hlt : k < n
    · obtain ⟨b, off, rfl, hb, hc0⟩ := h.at_ hlt
      have hc : wr.cell? ⟨b, off + k, none⟩ = some (.int .i64 (zat zs k)) := (hbel.cell (by show b < _; omega)).trans hc0
      obtain ⟨g, hg, _, _, ho, hf⟩ := hown.cell hlt
      simp only [Option.some.injEq, Addr.mk.injEq, and_true] at hg
      subst hg
      have R := hown.set k (zat zs k)
      rw [set_fill zs n k hl.out hlt] at R
      have RB' := hbel.setCell (p := ⟨w.heap.size, k, none⟩) (Nat.le_refl _) (.int .i64 (zat zs k))
      clear hown hbel hc0
      go_wp2
      go_roundw
      case rel => exact ⟨k + 1, by omega, by go_num, R, RB'⟩
      case measure => simp [intOf]; omega
    · obtain rfl : k = n := by omega
      have R := hown.top
      rw [Nat.sub_self, List.replicate_zero, List.append_nil, List.take_of_length_le (by have := hl.out; omega)] at R
      go_wp2
      go_ret
      exact ⟨_, _, _, rfl, R, hbel⟩

theorem bthen {B : Nat} {a b c : World} (h : Below B a b) (k : Below b.heap.size b c) (hB : B ≤ b.heap.size) : Below B a c := h.trans (k.mono hB)
theorem below_of_drewN {w : World} (q : Nat) : Below w.heap.size w (w.drewN q) := ⟨rfl, rfl, rfl, Nat.le_refl _, fun _ _ => rfl⟩
theorem list_eq_zat {xs ys : List Int} (hl : xs.length = ys.length) (h : ∀ j, j < xs.length → zat xs j = zat ys j) : xs = ys := by
  apply List.ext_getElem hl
  intro i h1 h2
  have := h i h1
  rwa [zat_eq h1, zat_eq h2] at this

theorem all_true {p : Int → Bool} {zs : List Int} (h : ∀ j, j < zs.length → p (zat zs j) = true) : zs.all p = true := by
  rw [List.all_eq_true]
  intro x hx
  obtain ⟨i, hi, rfl⟩ := List.getElem_of_mem hx
  have := h i hi
  rwa [zat_eq hi] at this
theorem all_false {p : Int → Bool} {zs : List Int} {k : Nat} (hk : k < zs.length) (h : p (zat zs k) = false) : zs.all p = false := by
  rw [List.all_eq_false]
  exact ⟨_, zat_mem hk, by simp [h]⟩

theorem eqIntS_any (A A' : Option Addr) (n n' c c' B B' : Nat) (xs ys : List Int) (w : World) (h : RI w B A n xs) (h' : RI w B' A' n' ys) (hn : n ≤ 4294967296) (hn' : n' ≤ 4294967296) :
    Calls Try.prog 38 #[.slice A n c, .slice A' n' c'] w fun e w' => e = .returned (.bool (decide (xs = ys))) ∧ ∃ q, w' = w.drewN q := by
  have L1 := Lib.hid h.len
  have L2 := Lib.hid h'.len
  by_cases hnn : n = n'
  · subst hnn
    go_enter Try.func38, Try.ntmps38
    go_wp2
    go_loopw [5] (fun i wr => ∃ k : Nat, k ≤ n ∧ i = .int .i64 k ∧ Hid (∀ j, j < k → zat xs j = zat ys j) ∧ ∃ q, wr = w.drewN q) (fun i _ => n - (intOf i).toNat)
    case atStart => exact ⟨0, Nat.zero_le _, rfl, Lib.hid (fun j hj => absurd hj (by omega)), 0, rfl⟩
    case round =>
      obtain ⟨k, hk, rfl, heq, q, rfl⟩ := hrel
      by_cases hlt : k < n
      · obtain ⟨b, off, rfl, hb, hc⟩ := h.at_ hlt
        obtain ⟨b', off', rfl, hb', hc'⟩ := h'.at_ hlt
        have hi1 : (0 : Int) ≤ (k : Int) := by omega
        have hi2 : (k : Int) < (n : Int) := by omega
        go_wp2
        by_cases he : zat xs k = zat ys k
        · have hne : (zat xs k != zat ys k) = false := by simp [he]
          have HE := Lib.hid he; clear he
          go_quiet (fail)
          go_wp2
          go_roundw
          case rel => exact ⟨k + 1, by omega, by go_num, Lib.hid (fun j hj => by rcases Nat.lt_succ_iff_lt_or_eq.1 hj with h1 | h1; exact heq.out j h1; subst h1; exact HE.out), _, rfl⟩
          case measure => simp [intOf]; omega
        · have hne : (zat xs k != zat ys k) = true := by simp [he]
          have hd : decide (xs = ys) = false := by
            simp only [decide_eq_false_iff_not]
            rintro rfl
            exact he rfl
          have HD := Lib.hid hd
          clear he hd
          go_quiet (fail)
          go_wp2
          go_ret
          exact ⟨ret_bool HD.out.symm, _, World.drewN_drewN _ _ _⟩
      · obtain rfl : k = n := by omega
        have hd : decide (xs = ys) = true := by
          simp only [decide_eq_true_eq]
          exact list_eq_zat (L1.out.trans L2.out.symm) (fun j hj => heq.out j (by have := L1.out; omega))
        have HD := Lib.hid hd
        clear hd
        go_wp2
        go_ret
        exact ⟨ret_bool HD.out.symm, _, rfl⟩
  · have hd : decide (xs = ys) = false := by
      simp only [decide_eq_false_iff_not]
      rintro rfl
      exact hnn (L1.out.symm.trans L2.out)
    have hne : ((n : Int) != (n' : Int)) = true := by simp; omega
    go_enter Try.func38, Try.ntmps38
    go_wp2
    go_ret
    exact ⟨by rw [hd]; rfl, 0, rfl⟩
theorem eqIntS_t (A A' : Option Addr) (n n' c c' B B' : Nat) (xs : List Int) (w : World) (h : RI w B A n xs) (h' : RI w B' A' n' xs) (hn : n ≤ 4294967296) :
    Calls Try.prog 38 #[.slice A n c, .slice A' n' c'] w fun e w' => e = .returned (.bool true) ∧ Below w.heap.size w w' :=
  (eqIntS_any A A' n n' c c' B B' xs xs w h h' hn (by have h1 := h.len; have h2 := h'.len; omega)).mono fun e w' ⟨he, q, hq⟩ => ⟨by rw [he]; simp, by rw [hq]; exact below_of_drewN q⟩
def marks (k0 : Int) (n : Nat) : List Int := (List.range n).map fun j : Nat => k0 + (j : Int)
theorem marks_len (k0 : Int) (n : Nat) : (marks k0 n).length = n := by simp [marks]
theorem marks_succ (k0 : Int) (n : Nat) : marks k0 (n + 1) = marks k0 n ++ [k0 + n] := by simp [marks, List.range_succ]
theorem zat_marks (k0 : Int) (n j : Nat) (h : j < n) : zat (marks k0 n) j = k0 + j := by simp [zat, marks, h]
theorem set_mark (zs : List Int) (n k : Nat) (k0 : Int) (hl : zs.length = n) (hk : k < n) : (marks k0 k ++ zs.drop k).set k (k0 + k) = marks k0 (k + 1) ++ zs.drop (k + 1) := by
  rw [List.drop_eq_getElem_cons (by omega), marks_succ, List.set_append_right _ _ (by rw [marks_len]; exact Nat.le_refl _), marks_len, Nat.sub_self, List.set_cons_zero]
  simp
theorem markIntS_any (A : Option Addr) (n c lo hi : Nat) (k0 : Int) (zs : List Int) (w : World) (h : Own w lo hi A n c zs) (hn : n ≤ 4294967296) (h0 : 0 ≤ k0) (h1 : k0 ≤ 1000000000000) :
    Calls Try.prog 40 #[.slice A n c, .int .i64 k0] w fun e w' => e = .returned (.int .i64 (k0 + n)) ∧ Own w' lo hi A n c (marks k0 n) ∧ Off lo hi w w' := by
  have hl := Lib.hid h.len
  have H0 : Own w lo hi A n c (marks k0 0 ++ zs.drop 0) := by simpa [marks] using h
  go_enter Try.func40, Try.ntmps40
  go_wp2
  go_loopw [1, 5] (fun x i wr => ∃ k : Nat, k ≤ n ∧ i = .int .i64 k ∧ x = .int .i64 (k0 + k) ∧ Own wr lo hi A n c (marks k0 k ++ zs.drop k) ∧ Off lo hi w wr) (fun _ i _ => n - (intOf i).toNat)
  case atStart => exact ⟨0, Nat.zero_le _, rfl, by simp, H0, Off.refl _ _ _⟩
  case round =>
    obtain ⟨k, hk, rfl, rfl, hown, hoff⟩ := hrel
    by_cases hlt : k < n
    · obtain ⟨g, rfl, hg1, hg2, ho, hf⟩ := hown.cell hlt
      have R := hown.set k (k0 + k)
      rw [set_mark zs n k k0 hl.out hlt] at R
      have RO := hoff.setCell (p := ⟨g, k, none⟩) hg1 hg2 (.int .i64 (k0 + k))
      clear hown hoff H0
      go_wp2
      go_roundw
      case rel => exact ⟨k + 1, by omega, by go_num, by go_num, R, RO⟩
      case measure => simp [intOf]; omega
    · obtain rfl : k = n := by omega
      have R := hown
      rw [List.drop_eq_nil_of_le (by have := hl.out; omega), List.append_nil] at R
      go_wp2
      go_ret
      exact ⟨rfl, R, hoff⟩
theorem heldIntS_any (A : Option Addr) (n c B : Nat) (k0 : Int) (w : World) (h : RI w B A n (marks k0 n)) (hn : n ≤ 4294967296) (h0 : 0 ≤ k0) (h1 : k0 ≤ 1000000000000) :
    Calls Try.prog 41 #[.slice A n c, .int .i64 k0] w fun e w' => e = .returned (.int .i64 (k0 + n)) ∧ ∃ q, w' = w.drewN q := by
  go_enter Try.func41, Try.ntmps41
  go_wp2
  go_loopw [1, 5] (fun x i wr => ∃ k : Nat, k ≤ n ∧ i = .int .i64 k ∧ x = .int .i64 (k0 + k) ∧ ∃ q, wr = w.drewN q) (fun _ i _ => n - (intOf i).toNat)
  case atStart => exact ⟨0, Nat.zero_le _, rfl, by simp, 0, rfl⟩
  case round =>
    obtain ⟨k, hk, rfl, rfl, q, rfl⟩ := hrel
    by_cases hlt : k < n
    · obtain ⟨b, off, rfl, hb, hc⟩ := h.at_ hlt
      rw [zat_marks k0 n k hlt] at hc
      have hi1 : (0 : Int) ≤ (k : Int) := by omega
      have hi2 : (k : Int) < (n : Int) := by omega
      go_wp2
      go_roundw
      case rel => exact ⟨k + 1, by omega, by go_num, by go_num, _, rfl⟩
      case measure => simp [intOf]; omega
    · obtain rfl : k = n := by omega
      go_wp2
      go_ret
      exact ⟨rfl, _, rfl⟩
theorem heldIntS_t (A : Option Addr) (n c B : Nat) (k0 : Int) (w : World) (h : RI w B A n (marks k0 n)) (hn : n ≤ 4294967296) (h0 : 0 ≤ k0) (h1 : k0 ≤ 1000000000000) :
    Calls Try.prog 41 #[.slice A n c, .int .i64 k0] w fun e w' => e = .returned (.int .i64 (k0 + n)) ∧ Below w.heap.size w w' :=
  (heldIntS_any A n c B k0 w h hn h0 h1).mono fun e w' ⟨he, q, hq⟩ => ⟨he, by rw [hq]; exact below_of_drewN q⟩
end Go.Proofs.Ytmibajhilbfecaa
