/- Contracts of the functions of package slices at []int that the program calls: Clone, Index, Contains, IndexFunc and ContainsFunc at the program's own closures. -/
import Derived.Test.YtmibajhilbfecaaIntS
import Derived.WalkSpells
namespace Go.Proofs.Ytmibajhilbfecaa
open Go.RowKit Go.Deep

theorem own_lit0 (w : World) : Own (w.alloc (.cells #[] 3)) w.heap.size (w.heap.size + 1) (some ⟨w.heap.size, 0, none⟩) 0 0 [] := OwnV.new w 3 #[] (by simp [maxLen])

theorem clone_any (A : Option Addr) (n c B : Nat) (zs : List Int) (w : World) (h : RI w B A n zs) (hB : B ≤ w.heap.size) (hn : n ≤ 4294967296) :
    Calls Try.prog 58 #[.slice A n c] w (RetOwn w zs) := by
  have heq := fun W => Lib.run_eql_slice_nil (P := Try.prog) W 24 3 A n c 0 0 Try.underlying24
  rcases A with _ | ad
  · have hn0 : n = 0 := by
      rcases Nat.eq_zero_or_pos n with h0 | h0
      · exact h0
      · obtain ⟨b, off, e, _⟩ := RI.at_ h h0
        cases e
    subst hn0
    have hz : zs = [] := List.eq_nil_of_length_eq_zero h.len
    subst hz
    simp only [Option.isNone_none] at heq
    go_enter Try.func58, Try.ntmps58
    go_wp2
    go_ret
    exact ⟨_, _, _, rfl, Own.nil, Below.refl _ _⟩
  · simp only [Option.isNone_some] at heq
    have HL := own_lit0 w
    have HR : RI (w.alloc (.cells #[] 3)) B (some ad) n zs := RV.alloc h hB _
    go_enter Try.func58, Try.ntmps58
    go_wp2_with (at_builtin; refine wpList_append_ints rfl _ _ _ rfl Try.underlying24 infoInt _ _ _ _ _ _ rfl HL _ _ _ _ _ rfl HR (by omega) (by simp) ?_; intro A' c' w1 hown1 hoff1 hbel1)
    go_ret
    simp only [List.nil_append, Nat.zero_add] at hown1
    exact ⟨_, _, _, rfl, hown1, ((Below.refl _ _).alloc (Nat.le_refl _) _).trans hbel1⟩
def idxOf (v : Int) : List Int → Nat → Int
  | [], _ => -1
  | z :: zs, k => if v = z then (k : Int) else idxOf v zs (k + 1)
/-- The index of the first v in zs; -1 if there is none. -/
def findI (v : Int) (zs : List Int) : Int := idxOf v zs 0
theorem idxOf_none {v : Int} : ∀ {zs : List Int} {k : Nat}, (∀ j, j < zs.length → zat zs j ≠ v) → idxOf v zs k = -1
  | [], _, _ => rfl
  | z :: zs, k, h => by
    have h0 := h 0 (by simp)
    simp only [zat, List.getD_cons_zero] at h0
    rw [idxOf, if_neg (fun e => h0 e.symm)]
    exact idxOf_none (fun j hj => by have := h (j + 1) (by simpa using hj); simpa [zat] using this)
theorem idxOf_some {v : Int} : ∀ {zs : List Int} {k i : Nat}, i < zs.length → zat zs i = v → (∀ j, j < i → zat zs j ≠ v) → idxOf v zs k = ((k + i : Nat) : Int)
  | [], _, _, h, _, _ => by simp at h
  | z :: zs, k, 0, _, h1, _ => by
    simp only [zat, List.getD_cons_zero] at h1
    rw [idxOf, if_pos h1.symm]; rfl
  | z :: zs, k, i + 1, h, h1, h2 => by
    have h0 := h2 0 (by omega)
    simp only [zat, List.getD_cons_zero] at h0
    rw [idxOf, if_neg (fun e => h0 e.symm), idxOf_some (i := i) (by simpa using h) (by simpa [zat] using h1) (fun j hj => by have := h2 (j + 1) (by omega); simpa [zat] using this)]
    omega
theorem findI_none {v : Int} {zs : List Int} (h : ∀ j, j < zs.length → zat zs j ≠ v) : findI v zs = -1 := idxOf_none h
theorem findI_some {v : Int} {zs : List Int} {i : Nat} (h : i < zs.length) (h1 : zat zs i = v) (h2 : ∀ j, j < i → zat zs j ≠ v) : findI v zs = (i : Int) := by
  rw [findI, idxOf_some h h1 h2]; omega
theorem ne_step {v : Int} {zs : List Int} {k : Nat} (h : ∀ j, j < k → zat zs j ≠ v) (hk : zat zs k ≠ v) : ∀ j, j < k + 1 → zat zs j ≠ v := by
  intro j hj
  rcases Nat.lt_succ_iff_lt_or_eq.1 hj with h1 | h1
  · exact h j h1
  · subst h1; exact hk

theorem skewclo_any (z : Int) (w : World) :
    Calls Try.prog 90 #[.int .i64 z] w fun e w' => e = .returned (.bool (!inB z 0 8)) ∧ w = w' := by
  go_enter Try.func90, Try.ntmps90
  go_wp2_with (go_at_call 65; refine (within_any _ _ _ _).mono ?_; rintro e w' ⟨rfl, rfl⟩)
  go_ret
  exact ⟨rfl, rfl⟩
theorem skewidx_any (A : Option Addr) (n c B : Nat) (zs : List Int) (w : World) (h : RI w B A n zs) (hn : n ≤ 4294967296) :
    Calls Try.prog 97 #[.slice A n c, .func (.func 90) #[] #[]] w fun e w' => (∃ x : Int, e = .returned (.int .i64 x) ∧ (decide (0 ≤ x)) = !(zs.all (fun z => inB z 0 8))) ∧ w = w' := by
  have hl := Lib.hid h.len
  go_enter Try.func97, Try.ntmps97
  go_wp2
  go_loop [8] (fun i => ∃ k : Nat, k ≤ n ∧ i = .int .i64 k ∧ Hid (∀ j, j < k → inB (zat zs j) 0 8 = true)) (fun i => n - (intOf i).toNat)
  case atStart => exact ⟨0, Nat.zero_le _, rfl, Lib.hid (fun j hj => absurd hj (by omega))⟩
  case round =>
    obtain ⟨k, hk, rfl, hall⟩ := hrel
    by_cases hlt : k < n
    · obtain ⟨b, off, rfl, hb, hc⟩ := h.at_ hlt
      cases hin : inB (zat zs k) 0 8
      · have HD := Lib.hid (all_false (p := (fun z => inB z 0 8)) (show k < zs.length by have := hl.out; omega) hin)
        go_wp2_with (go_at_call 90; refine (skewclo_any _ _).mono ?_; rintro e w' ⟨rfl, rfl⟩)
        go_ret
        exact ⟨⟨_, rfl, by rw [HD.out]; simp⟩, rfl⟩
      · have HI := Lib.hid hin
        go_wp2_with (go_at_call 90; refine (skewclo_any _ _).mono ?_; rintro e w' ⟨rfl, rfl⟩)
        go_round
        case rel => exact ⟨k + 1, by omega, by go_num, Lib.hid (fun j hj => by rcases Nat.lt_succ_iff_lt_or_eq.1 hj with h1 | h1; exact hall.out j h1; subst h1; exact HI.out)⟩
        case measure => simp [intOf]; omega
    · obtain rfl : k = n := by omega
      have HD := Lib.hid (all_true (p := (fun z => inB z 0 8)) (fun j hj => hall.out j (by have := hl.out; omega)))
      go_wp2
      go_ret
      exact ⟨⟨_, rfl, by rw [HD.out]; simp⟩, rfl⟩
theorem skewcon_any (A : Option Addr) (n c B : Nat) (zs : List Int) (w : World) (h : RI w B A n zs) (hn : n ≤ 4294967296) :
    Calls Try.prog 89 #[.slice A n c, .func (.func 90) #[] #[]] w fun e w' => e = .returned (.bool !(zs.all (fun z => inB z 0 8))) ∧ w = w' := by
  go_enter Try.func89, Try.ntmps89
  go_wp2_with (go_at_call 97; refine (skewidx_any _ _ _ _ _ _ h hn).mono ?_; rintro e w' ⟨⟨x, rfl, hx⟩, rfl⟩; have HX := Lib.hid hx; clear hx)
  go_ret
  exact ⟨ret_bool HX.out, rfl⟩
theorem areSkews_any (A : Option Addr) (n c B : Nat) (zs : List Int) (w : World) (h : RI w B A n zs) (hn : n ≤ 4294967296) :
    Calls Try.prog 66 #[.slice A n c] w fun e w' => e = .returned (.bool (zs.all (fun z => inB z 0 8))) ∧ w = w' := by
  go_enter Try.func66, Try.ntmps66
  go_wp2_with (go_at_call 89; refine (skewcon_any _ _ _ _ _ _ h hn).mono ?_; rintro e w' ⟨rfl, rfl⟩)
  go_ret
  exact ⟨ret_bool (by simp), rfl⟩
end Go.Proofs.Ytmibajhilbfecaa
