/- Contracts of the functions of package slices at []int that the program calls: Clone, Index, Contains, IndexFunc and ContainsFunc at the program's own closures. -/
import Derived.Test.YtabdcobameklbaaDoorIntS
import Derived.WalkSpells
namespace Go.Proofs.YtabdcobameklbaaDoor
open Go.RowKit Go.Deep

theorem own_lit0 (w : World) : Own (w.alloc (.cells #[] 3)) w.heap.size (w.heap.size + 1) (some ⟨w.heap.size, 0, none⟩) 0 0 [] := OwnV.new w 3 #[] (by simp [maxLen])

def idxOf (v : Int) : List Int → Nat → Int
  | [], _ => -1
  | z :: zs, k => if v = z then (k : Int) else idxOf v zs (k + 1)
/-- The index of the first v in zs; -1 if there is none. -/
def findI (v : Int) (zs : List Int) : Int := idxOf v zs 0
theorem idxOf_none {v : Int} : ∀ {zs : List Int} {k : Nat}, (∀ j, j < zs.length → zat zs j ≠ v) → idxOf v zs k = -1
  | [], _, _ => rfl
  | z :: zs, k, h => by
    have h0 := h 0 (by simp)
    simp only [zat, List.getD_cons_zero] at h0
    rw [idxOf, if_neg (fun e => h0 e.symm)]
    exact idxOf_none (fun j hj => by have := h (j + 1) (by simpa using hj); simpa [zat] using this)
theorem idxOf_some {v : Int} : ∀ {zs : List Int} {k i : Nat}, i < zs.length → zat zs i = v → (∀ j, j < i → zat zs j ≠ v) → idxOf v zs k = ((k + i : Nat) : Int)
  | [], _, _, h, _, _ => by simp at h
  | z :: zs, k, 0, _, h1, _ => by
    simp only [zat, List.getD_cons_zero] at h1
    rw [idxOf, if_pos h1.symm]; rfl
  | z :: zs, k, i + 1, h, h1, h2 => by
    have h0 := h2 0 (by omega)
    simp only [zat, List.getD_cons_zero] at h0
    rw [idxOf, if_neg (fun e => h0 e.symm), idxOf_some (i := i) (by simpa using h) (by simpa [zat] using h1) (fun j hj => by have := h2 (j + 1) (by omega); simpa [zat] using this)]
    omega
theorem findI_none {v : Int} {zs : List Int} (h : ∀ j, j < zs.length → zat zs j ≠ v) : findI v zs = -1 := idxOf_none h
theorem findI_some {v : Int} {zs : List Int} {i : Nat} (h : i < zs.length) (h1 : zat zs i = v) (h2 : ∀ j, j < i → zat zs j ≠ v) : findI v zs = (i : Int) := by
  rw [findI, idxOf_some h h1 h2]; omega
theorem ne_step {v : Int} {zs : List Int} {k : Nat} (h : ∀ j, j < k → zat zs j ≠ v) (hk : zat zs k ≠ v) : ∀ j, j < k + 1 → zat zs j ≠ v := by
  intro j hj
  rcases Nat.lt_succ_iff_lt_or_eq.1 hj with h1 | h1
  · exact h j h1
  · subst h1; exact hk

end Go.Proofs.YtabdcobameklbaaDoor
