/- Contracts of the verifier's helpers on slices of ints (toIntS, eqIntS, markIntS, heldIntS, sameInts) and of the checks that all elements are nibbles. -/
import Derived.Test.YtabdcobameklbaaDoorBase
import Derived.Test.YtabdcobameklbaaDoorNum
import Derived.Deep.QuietTactic
import Derived.BigQuiet
namespace Go.Proofs.YtabdcobameklbaaDoor
open Go.RowKit Go.Deep

theorem infoInt : (Tryd.prog.info? 3).map (fun i => (i.zero, i.size, i.bytes)) = some (some (.int .i64 0), 1, 8) := by kernel_rfl

theorem set_fill (zs : List Int) (n k : Nat) (hl : zs.length = n) (hk : k < n) : (zs.take k ++ List.replicate (n - k) 0).set k (zat zs k) = zs.take (k + 1) ++ List.replicate (n - (k + 1)) 0 := by
  have e : n - k = (n - (k + 1)) + 1 := by omega
  rw [e, List.replicate_succ, take_zat (by omega), List.set_append_right _ _ (by simp; omega)]
  have : k - (zs.take k).length = 0 := by simp; omega
  rw [this]
  simp


theorem bthen {B : Nat} {a b c : World} (h : Below B a b) (k : Below b.heap.size b c) (hB : B ≤ b.heap.size) : Below B a c := h.trans (k.mono hB)
theorem below_of_drewN {w : World} (q : Nat) : Below w.heap.size w (w.drewN q) := ⟨rfl, rfl, rfl, Nat.le_refl _, fun _ _ => rfl⟩
theorem list_eq_zat {xs ys : List Int} (hl : xs.length = ys.length) (h : ∀ j, j < xs.length → zat xs j = zat ys j) : xs = ys := by
  apply List.ext_getElem hl
  intro i h1 h2
  have := h i h1
  rwa [zat_eq h1, zat_eq h2] at this

theorem all_true {p : Int → Bool} {zs : List Int} (h : ∀ j, j < zs.length → p (zat zs j) = true) : zs.all p = true := by
  rw [List.all_eq_true]
  intro x hx
  obtain ⟨i, hi, rfl⟩ := List.getElem_of_mem hx
  have := h i hi
  rwa [zat_eq hi] at this
theorem all_false {p : Int → Bool} {zs : List Int} {k : Nat} (hk : k < zs.length) (h : p (zat zs k) = false) : zs.all p = false := by
  rw [List.all_eq_false]
  exact ⟨_, zat_mem hk, by simp [h]⟩

end Go.Proofs.YtabdcobameklbaaDoor
