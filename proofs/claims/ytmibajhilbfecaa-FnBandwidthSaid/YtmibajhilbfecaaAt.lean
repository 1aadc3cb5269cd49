/- The verifier's 'big' and 'at' on the drawn bytes, and btoi. -/
import Derived.Test.YtmibajhilbfecaaIntS
namespace Go.Proofs.Ytmibajhilbfecaa
open Go.RowKit Go.Deep

def BY (zs : List Int) : Prop := ∀ z ∈ zs, 0 ≤ z ∧ z ≤ 255
/-- What at(code, i) is. -/
def atF (zs : List Int) (i : Nat) : Int := if zs.length = 0 then 0 else zat zs ((i * 5 + 1) % zs.length)
theorem atF_rng {zs : List Int} (h : BY zs) (i : Nat) : 0 ≤ atF zs i ∧ atF zs i ≤ 255 := by
  unfold atF
  split
  · omega
  · exact h _ (zat_mem (Nat.mod_lt _ (by omega)))
theorem big_any (A : Option Addr) (n c : Nat) (w : World) :
    Calls Try.prog 15 #[.slice A n c] w fun e w' => e = .returned (.bool (decide (1048576 < n))) ∧ w = w' := by
  go_enter Try.func15, Try.ntmps15
  go_wp2
  go_ret
  exact ⟨ret_bool (by simp; omega), rfl⟩
theorem at_any (A : Option Addr) (n c B : Nat) (zs : List Int) (i : Nat) (w : World) (h : RB w B A n zs) (hz : BY zs) (hn : n ≤ 1048576) (hi : i ≤ 1000000) :
    Calls Try.prog 43 #[.slice A n c, .int .i64 i] w fun e w' => e = .returned (.int .i64 (atF zs i)) ∧ w = w' := by
  have hl := Lib.hid h.len
  by_cases h0 : n = 0
  · have HF := Lib.hid (show atF zs i = 0 by have := hl.out; simp [atF, this, h0])
    subst h0
    go_enter Try.func43, Try.ntmps43
    go_wp2
    go_ret
    exact ⟨ret_int HF.out.symm, rfl⟩
  · have hp : 0 < n := by omega
    have hlt : (i * 5 + 1) % n < n := Nat.mod_lt _ hp
    obtain ⟨j, hj⟩ : ∃ j, j = (i * 5 + 1) % n := ⟨_, rfl⟩
    rw [← hj] at hlt
    have HF := Lib.hid (show atF zs i = zat zs j by have := hl.out; simp [atF, this, h0, hj])
    have hr := hz _ (zat_mem (show j < zs.length by have := hl.out; omega))
    obtain ⟨b, off, rfl, hb, hc⟩ := h.at_ hlt
    have e1 : ((i : Int) * 5 + 1) % (n : Int) = (j : Int) := by rw [hj]; simp
    have hne : ((n : Int) == 0) = false := by simp; omega
    have HJ := Lib.hid hj
    clear hj
    go_enter Try.func43, Try.ntmps43
    go_wp2
    go_ret
    exact ⟨ret_int HF.out.symm, rfl⟩
/-- The same at an int index, as the walk spells it. -/
theorem at_int (A : Option Addr) (n c B : Nat) (zs : List Int) (i : Int) (w : World) (h : RB w B A n zs) (hz : BY zs) (hn : n ≤ 1048576) (h0 : 0 ≤ i) (hi : i ≤ 1000000) :
    Calls Try.prog 43 #[.slice A n c, .int .i64 i] w fun e w' => e = .returned (.int .i64 (atF zs i.toNat)) ∧ w = w' := by
  obtain ⟨k, rfl⟩ := Int.eq_ofNat_of_zero_le h0
  simpa using at_any A n c B zs k w h hz hn (by omega)
end Go.Proofs.Ytmibajhilbfecaa
