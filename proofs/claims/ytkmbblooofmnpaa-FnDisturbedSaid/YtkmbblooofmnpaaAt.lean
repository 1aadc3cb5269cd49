/- The verifier's 'big' and 'at' on the drawn bytes, and btoi. -/
import Derived.Test.YtkmbblooofmnpaaIntS
namespace Go.Proofs.Ytkmbblooofmnpaa
open Go.RowKit Go.Deep

def BY (zs : List Int) : Prop := ∀ z ∈ zs, 0 ≤ z ∧ z ≤ 255
/-- What at(code, i) is. -/
def atF (zs : List Int) (i : Nat) : Int := if zs.length = 0 then 0 else zat zs ((i * 5 + 1) % zs.length)
theorem atF_rng {zs : List Int} (h : BY zs) (i : Nat) : 0 ≤ atF zs i ∧ atF zs i ≤ 255 := by
  unfold atF
  split
  · omega
  · exact h _ (zat_mem (Nat.mod_lt _ (by omega)))
theorem big_any (A : Option Addr) (n c : Nat) (w : World) :
    Calls Try.prog 12 #[.slice A n c] w fun e w' => e = .returned (.bool (decide (1048576 < n))) ∧ w = w' := by
  go_enter Try.func12, Try.ntmps12
  go_wp2
  go_ret
  exact ⟨ret_bool (by simp; omega), rfl⟩
theorem at_any (A : Option Addr) (n c B : Nat) (zs : List Int) (i : Nat) (w : World) (h : RB w B A n zs) (hz : BY zs) (hn : n ≤ 1048576) (hi : i ≤ 1000000) :
    Calls Try.prog 18 #[.slice A n c, .int .i64 i] w fun e w' => e = .returned (.int .i64 (atF zs i)) ∧ w = w' := by
  have hl := Lib.hid h.len
  by_cases h0 : n = 0
  · have HF := Lib.hid (show atF zs i = 0 by have := hl.out; simp [atF, this, h0])
    subst h0
    go_enter Try.func18, Try.ntmps18
    go_wp2
    go_ret
    exact ⟨ret_int HF.out.symm, rfl⟩
  · have hp : 0 < n := by omega
    have hlt : (i * 5 + 1) % n < n := Nat.mod_lt _ hp
    obtain ⟨j, hj⟩ : ∃ j, j = (i * 5 + 1) % n := ⟨_, rfl⟩
    rw [← hj] at hlt
    have HF := Lib.hid (show atF zs i = zat zs j by have := hl.out; simp [atF, this, h0, hj])
    have hr := hz _ (zat_mem (show j < zs.length by have := hl.out; omega))
    obtain ⟨b, off, rfl, hb, hc⟩ := h.at_ hlt
    have e1 : ((i : Int) * 5 + 1) % (n : Int) = (j : Int) := by rw [hj]; simp
    have hne : ((n : Int) == 0) = false := by simp; omega
    have HJ := Lib.hid hj
    clear hj
    go_enter Try.func18, Try.ntmps18
    go_wp2
    go_ret
    exact ⟨ret_int HF.out.symm, rfl⟩
/-- The same at an int index, as the walk spells it. -/
theorem at_int (A : Option Addr) (n c B : Nat) (zs : List Int) (i : Int) (w : World) (h : RB w B A n zs) (hz : BY zs) (hn : n ≤ 1048576) (h0 : 0 ≤ i) (hi : i ≤ 1000000) :
    Calls Try.prog 18 #[.slice A n c, .int .i64 i] w fun e w' => e = .returned (.int .i64 (atF zs i.toNat)) ∧ w = w' := by
  obtain ⟨k, rfl⟩ := Int.eq_ofNat_of_zero_le h0
  simpa using at_any A n c B zs k w h hz hn (by omega)
theorem sameInts_any (A A' : Option Addr) (n n' c c' B B' : Nat) (xs ys : List Int) (w : World) (h : RI w B A n xs) (h' : RI w B' A' n' ys) (hn : n ≤ 4294967296) (hn' : n' ≤ 4294967296) :
    Calls Try.prog 17 #[.slice A n c, .slice A' n' c'] w fun e w' => e = .returned (.bool (decide (xs = ys))) ∧ ∃ q, w' = w.drewN q := by
  have L1 := Lib.hid h.len
  have L2 := Lib.hid h'.len
  by_cases hnn : n = n'
  · subst hnn
    go_enter Try.func17, Try.ntmps17
    go_wp2
    go_loopw [5] (fun i wr => ∃ k : Nat, k ≤ n ∧ i = .int .i64 k ∧ Hid (∀ j, j < k → zat xs j = zat ys j) ∧ ∃ q, wr = w.drewN q) (fun i _ => n - (intOf i).toNat)
    case atStart => exact ⟨0, Nat.zero_le _, rfl, Lib.hid (fun j hj => absurd hj (by omega)), 0, rfl⟩
    case round =>
      obtain ⟨k, hk, rfl, heq, q, rfl⟩ := hrel
      by_cases hlt : k < n
      · obtain ⟨b, off, rfl, hb, hc⟩ := h.at_ hlt
        obtain ⟨b', off', rfl, hb', hc'⟩ := h'.at_ hlt
        have hi1 : (0 : Int) ≤ (k : Int) := by omega
        have hi2 : (k : Int) < (n : Int) := by omega
        go_wp2
        by_cases he : zat xs k = zat ys k
        · have hne : (zat xs k != zat ys k) = false := by simp [he]
          have HE := Lib.hid he; clear he
          go_quiet (fail)
          go_wp2
          go_roundw
          case rel => exact ⟨k + 1, by omega, by go_num, Lib.hid (fun j hj => by rcases Nat.lt_succ_iff_lt_or_eq.1 hj with h1 | h1; exact heq.out j h1; subst h1; exact HE.out), _, rfl⟩
          case measure => simp [intOf]; omega
        · have hne : (zat xs k != zat ys k) = true := by simp [he]
          have hd : decide (xs = ys) = false := by
            simp only [decide_eq_false_iff_not]
            rintro rfl
            exact he rfl
          have HD := Lib.hid hd
          clear he hd
          go_quiet (fail)
          go_wp2
          go_ret
          exact ⟨ret_bool HD.out.symm, _, World.drewN_drewN _ _ _⟩
      · obtain rfl : k = n := by omega
        have hd : decide (xs = ys) = true := by
          simp only [decide_eq_true_eq]
          exact list_eq_zat (L1.out.trans L2.out.symm) (fun j hj => heq.out j (by have := L1.out; omega))
        have HD := Lib.hid hd
        clear hd
        go_wp2
        go_ret
        exact ⟨ret_bool HD.out.symm, _, rfl⟩
  · have hd : decide (xs = ys) = false := by
      simp only [decide_eq_false_iff_not]
      rintro rfl
      exact hnn (L1.out.symm.trans L2.out)
    have hne : ((n : Int) != (n' : Int)) = true := by simp; omega
    go_enter Try.func17, Try.ntmps17
    go_wp2
    go_ret
    exact ⟨by rw [hd]; rfl, 0, rfl⟩
theorem sameInts_t (A A' : Option Addr) (n n' c c' B B' : Nat) (xs : List Int) (w : World) (h : RI w B A n xs) (h' : RI w B' A' n' xs) (hn : n ≤ 4294967296) :
    Calls Try.prog 17 #[.slice A n c, .slice A' n' c'] w fun e w' => e = .returned (.bool true) ∧ Below w.heap.size w w' :=
  (sameInts_any A A' n n' c c' B B' xs xs w h h' hn (by have h1 := h.len; have h2 := h'.len; omega)).mono fun e w' ⟨he, q, hq⟩ => ⟨by rw [he]; simp, by rw [hq]; exact below_of_drewN q⟩
end Go.Proofs.Ytkmbblooofmnpaa
