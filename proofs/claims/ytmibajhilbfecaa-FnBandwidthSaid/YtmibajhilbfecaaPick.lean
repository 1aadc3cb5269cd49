/- The verifier's cursor: a pick out of a list of ints. -/
import Derived.Test.YtmibajhilbfecaaDraw
namespace Go.Proofs.Ytmibajhilbfecaa
open Go.RowKit Go.Deep
theorem l01PickInt_any (A : Option Addr) (n c B g : Nat) (zs : List Int) (S : Option Addr) (k d lo hi : Nat) (L : List Int) (w : World) (h : RB w B A n zs) (hz : BY zs) (hB : B ≤ g) (hn : n ≤ 1048576) (hc : Cur w g A n c) (hL : Own w lo hi S k d L) (hg : g < lo) (hk : 1 ≤ k) (hk' : k ≤ 256) :
    Calls Try.prog 81 #[.pointer (some ⟨g, 0, none⟩), .slice S k d] w fun e w' => (∃ x, e = .returned (.int .i64 x) ∧ x ∈ L) ∧ Cur w' g A n c ∧ Off g (g + 1) w w' := by
  go_enter Try.func81, Try.ntmps81
  go_wp2_with fail
  refine (l01Below_any A n c B g zs k _ h hz hB hn hc (by omega) (by omega)).mono ?_
  rintro e w1 ⟨⟨x, rfl, bx⟩, hc1, ho1⟩
  obtain ⟨i, rfl⟩ := Int.eq_ofNat_of_zero_le bx.1
  have hi1 : (0 : Int) ≤ (i : Int) := by omega
  have hi2 : (i : Int) < (k : Int) := by omega
  have hL1 := hL.off ho1 (by omega)
  obtain ⟨b, off, rfl, hb, hcell⟩ := hL1.ri.at_ (show i < k by omega)
  go_wp2
  go_ret
  exact ⟨⟨_, rfl, zat_mem (by have := hL.len; omega)⟩, hc1, ho1⟩
end Go.Proofs.Ytmibajhilbfecaa
