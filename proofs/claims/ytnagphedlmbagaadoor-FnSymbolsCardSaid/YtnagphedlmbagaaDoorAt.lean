/- The verifier's 'big' and 'at' on the drawn bytes, and btoi. -/
import Derived.Test.YtnagphedlmbagaaDoorIntS
namespace Go.Proofs.YtnagphedlmbagaaDoor
open Go.RowKit Go.Deep

def BY (zs : List Int) : Prop := ∀ z ∈ zs, 0 ≤ z ∧ z ≤ 255
/-- What at(code, i) is. -/
def atF (zs : List Int) (i : Nat) : Int := if zs.length = 0 then 0 else zat zs ((i * 5 + 1) % zs.length)
theorem atF_rng {zs : List Int} (h : BY zs) (i : Nat) : 0 ≤ atF zs i ∧ atF zs i ≤ 255 := by
  unfold atF
  split
  · omega
  · exact h _ (zat_mem (Nat.mod_lt _ (by omega)))
theorem big_any (A : Option Addr) (n c : Nat) (w : World) :
    Calls Tryd.prog 14 #[.slice A n c] w fun e w' => e = .returned (.bool (decide (1048576 < n))) ∧ w = w' := by
  go_enter Tryd.func14, Tryd.ntmps14
  go_wp2
  go_ret
  exact ⟨ret_bool (by simp; omega), rfl⟩
theorem sameInts_any (A A' : Option Addr) (n n' c c' B B' : Nat) (xs ys : List Int) (w : World) (h : RI w B A n xs) (h' : RI w B' A' n' ys) (hn : n ≤ 4294967296) (hn' : n' ≤ 4294967296) :
    Calls Tryd.prog 18 #[.slice A n c, .slice A' n' c'] w fun e w' => e = .returned (.bool (decide (xs = ys))) ∧ ∃ q, w' = w.drewN q := by
  have L1 := Lib.hid h.len
  have L2 := Lib.hid h'.len
  by_cases hnn : n = n'
  · subst hnn
    go_enter Tryd.func18, Tryd.ntmps18
    go_wp2
    go_loopw [5] (fun i wr => ∃ k : Nat, k ≤ n ∧ i = .int .i64 k ∧ Hid (∀ j, j < k → zat xs j = zat ys j) ∧ ∃ q, wr = w.drewN q) (fun i _ => n - (intOf i).toNat)
    case atStart => exact ⟨0, Nat.zero_le _, rfl, Lib.hid (fun j hj => absurd hj (by omega)), 0, rfl⟩
    case round =>
      obtain ⟨k, hk, rfl, heq, q, rfl⟩ := hrel
      by_cases hlt : k < n
      · obtain ⟨b, off, rfl, hb, hc⟩ := h.at_ hlt
        obtain ⟨b', off', rfl, hb', hc'⟩ := h'.at_ hlt
        have hi1 : (0 : Int) ≤ (k : Int) := by omega
        have hi2 : (k : Int) < (n : Int) := by omega
        go_wp2
        by_cases he : zat xs k = zat ys k
        · have hne : (zat xs k != zat ys k) = false := by simp [he]
          have HE := Lib.hid he; clear he
          go_quiet (fail)
          go_wp2
          go_roundw
          case rel => exact ⟨k + 1, by omega, by go_num, Lib.hid (fun j hj => by rcases Nat.lt_succ_iff_lt_or_eq.1 hj with h1 | h1; exact heq.out j h1; subst h1; exact HE.out), _, rfl⟩
          case measure => simp [intOf]; omega
        · have hne : (zat xs k != zat ys k) = true := by simp [he]
          have hd : decide (xs = ys) = false := by
            simp only [decide_eq_false_iff_not]
            rintro rfl
            exact he rfl
          have HD := Lib.hid hd
          clear he hd
          go_quiet (fail)
          go_wp2
          go_ret
          exact ⟨ret_bool HD.out.symm, _, World.drewN_drewN _ _ _⟩
      · obtain rfl : k = n := by omega
        have hd : decide (xs = ys) = true := by
          simp only [decide_eq_true_eq]
          exact list_eq_zat (L1.out.trans L2.out.symm) (fun j hj => heq.out j (by have := L1.out; omega))
        have HD := Lib.hid hd
        clear hd
        go_wp2
        go_ret
        exact ⟨ret_bool HD.out.symm, _, rfl⟩
  · have hd : decide (xs = ys) = false := by
      simp only [decide_eq_false_iff_not]
      rintro rfl
      exact hnn (L1.out.symm.trans L2.out)
    have hne : ((n : Int) != (n' : Int)) = true := by simp; omega
    go_enter Tryd.func18, Tryd.ntmps18
    go_wp2
    go_ret
    exact ⟨by rw [hd]; rfl, 0, rfl⟩
theorem sameInts_t (A A' : Option Addr) (n n' c c' B B' : Nat) (xs : List Int) (w : World) (h : RI w B A n xs) (h' : RI w B' A' n' xs) (hn : n ≤ 4294967296) :
    Calls Tryd.prog 18 #[.slice A n c, .slice A' n' c'] w fun e w' => e = .returned (.bool true) ∧ Below w.heap.size w w' :=
  (sameInts_any A A' n n' c c' B B' xs xs w h h' hn (by have h1 := h.len; have h2 := h'.len; omega)).mono fun e w' ⟨he, q, hq⟩ => ⟨by rw [he]; simp, by rw [hq]; exact below_of_drewN q⟩
end Go.Proofs.YtnagphedlmbagaaDoor
