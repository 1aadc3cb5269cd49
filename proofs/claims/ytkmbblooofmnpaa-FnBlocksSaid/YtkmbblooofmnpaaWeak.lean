/- A slice that the call made, cut short of its array's end (OwnW): it can be read and written, not appended to. -/
import Derived.Test.YtkmbblooofmnpaaIntS
namespace Go.Proofs.Ytkmbblooofmnpaa
open Go.RowKit Go.Deep

def OwnW (w : World) (lo hi : Nat) (A : Option Addr) (n : Nat) (zs : List Int) : Prop :=
  zs.length = n ∧ (n = 0 ∨ ∃ g cur, A = some ⟨g, 0, none⟩ ∧ lo ≤ g ∧ g < hi ∧ w.heap[g]? = some (.cells cur 3 (0, 0)) ∧ cur.toList.take n = zs.map vInt)
section
variable {w w' : World} {lo hi n c : Nat} {A : Option Addr} {zs : List Int}
theorem Own.weak (h : Own w lo hi A n c zs) : OwnW w lo hi A n zs := by
  refine ⟨h.len, ?_⟩
  obtain ⟨h1, h2, h3, h4⟩ := h
  rcases h4 with ⟨_, h4⟩ | ⟨g, cur, e, hl, hh, hg, hs, ht⟩
  · exact .inl (by omega)
  · exact .inr ⟨g, cur, e, hl, hh, hg, ht⟩
theorem Own.cutw (h : Own w lo hi A n c zs) {k : Nat} (hk : k ≤ n) : OwnW w lo hi A k (zs.take k) := by
  have hl := h.len
  refine ⟨by rw [List.length_take]; omega, ?_⟩
  obtain ⟨h1, h2, h3, h4⟩ := h
  rcases h4 with ⟨_, h4⟩ | ⟨g, cur, e, hl, hh, hg, hs, ht⟩
  · exact .inl (by omega)
  · exact .inr ⟨g, cur, e, hl, hh, hg, by rw [List.map_take, ← ht, List.take_take, Nat.min_eq_left hk]⟩
theorem OwnW.len (h : OwnW w lo hi A n zs) : zs.length = n := h.1
theorem OwnW.keep (h : OwnW w lo hi A n zs) (hk : ∀ g, lo ≤ g → g < hi → g < w.heap.size → w'.heap[g]? = w.heap[g]?) : OwnW w' lo hi A n zs := by
  obtain ⟨h1, h4⟩ := h
  refine ⟨h1, ?_⟩
  rcases h4 with h4 | ⟨g, cur, e, hl, hh, hg, r⟩
  · exact .inl h4
  · exact .inr ⟨g, cur, e, hl, hh, (hk g hl hh (heap_lt hg)).trans hg, r⟩
theorem OwnW.below {B : Nat} (h : OwnW w lo hi A n zs) (hb : Below B w w') (hB : hi ≤ B) : OwnW w' lo hi A n zs := h.keep fun g _ hh _ => hb.block g (by omega)
theorem OwnW.off {lo' hi' : Nat} (h : OwnW w lo hi A n zs) (ho : Off lo' hi' w w') (hd : hi ≤ lo' ∨ hi' ≤ lo) : OwnW w' lo hi A n zs := h.keep fun g hl hh hs => ho.block g hs (by omega)
theorem OwnW.mono {lo' hi' : Nat} (h : OwnW w lo hi A n zs) (h1 : lo' ≤ lo) (h2 : hi ≤ hi') : OwnW w lo' hi' A n zs := by
  obtain ⟨a, h4⟩ := h
  refine ⟨a, ?_⟩
  rcases h4 with h4 | ⟨g, cur, e, hl, hh, r⟩
  · exact .inl h4
  · exact .inr ⟨g, cur, e, by omega, by omega, r⟩
theorem OwnW.ri (h : OwnW w lo hi A n zs) : RI w hi A n zs := by
  obtain ⟨h1, h4⟩ := h
  refine ⟨by simpa using h1, fun hn => ?_⟩
  rcases h4 with h4 | ⟨g, cur, e, hl, hh, hg, ht⟩
  · omega
  · refine ⟨g, 0, e, hh, fun j u hu => ?_⟩
    rw [Nat.zero_add, cell_of_row w g j cur 3 (0, 0) hg]
    have hj : j < n := by rw [← h1]; have := (List.getElem?_eq_some_iff.1 hu).1; simpa using this
    rw [← ht, List.getElem?_take, if_pos hj] at hu
    simpa using hu
theorem OwnW.cell (h : OwnW w lo hi A n zs) {j : Nat} (hj : j < n) : ∃ g, A = some ⟨g, 0, none⟩ ∧ lo ≤ g ∧ g < hi ∧ w.cell? ⟨g, j, none⟩ = some (.int .i64 (zat zs j)) ∧ w.frozen? ⟨g, j, none⟩ = false := by
  have hr := h.ri
  obtain ⟨b, off, e, _, hc⟩ := hr.at_ hj
  obtain ⟨h1, h4⟩ := h
  rcases h4 with h4 | ⟨g, cur, e', hl, hh, hg, ht⟩
  · omega
  · rw [e'] at e
    simp only [Option.some.injEq, Addr.mk.injEq, and_true] at e
    obtain ⟨rfl, rfl⟩ := e
    rw [Nat.zero_add] at hc
    exact ⟨g, e', hl, hh, hc, by simp [World.frozen?, hg]⟩
theorem OwnW.set {g : Nat} (h : OwnW w lo hi (some ⟨g, 0, none⟩) n zs) (j : Nat) (z : Int) : OwnW (w.setCell ⟨g, j, none⟩ (.int .i64 z)) lo hi (some ⟨g, 0, none⟩) n (zs.set j z) := by
  obtain ⟨h1, h4⟩ := h
  refine ⟨by simpa using h1, ?_⟩
  rcases h4 with h4 | ⟨g', cur, e, hl, hh, hg, ht⟩
  · exact .inl h4
  · simp only [Option.some.injEq, Addr.mk.injEq, and_true] at e
    subst e
    refine .inr ⟨g, cur.setIfInBounds j (vInt z), rfl, hl, hh, ?_, ?_⟩
    · simp [World.setCell, Array.getElem?_modify, hg, vInt]
    · rw [Array.toList_setIfInBounds, List.take_set, ht, List.map_set]
end
def RetOwnWInt (w : World) (zs : List Int) (x : Int) (e : Ending) (w' : World) : Prop := ∃ A n c, e = .returned (.tuple #[.slice A n c, .int .i64 x]) ∧ OwnW w' w.heap.size w'.heap.size A n zs ∧ Below w.heap.size w w'
theorem markIntS_w (A : Option Addr) (n c lo hi : Nat) (k0 : Int) (zs : List Int) (w : World) (h : OwnW w lo hi A n zs) (hn : n ≤ 4294967296) (h0 : 0 ≤ k0) (h1 : k0 ≤ 1000000000000) :
    Calls Try.prog 27 #[.slice A n c, .int .i64 k0] w fun e w' => e = .returned (.int .i64 (k0 + n)) ∧ OwnW w' lo hi A n (marks k0 n) ∧ Off lo hi w w' := by
  have hl := Lib.hid h.len
  have H0 : OwnW w lo hi A n (marks k0 0 ++ zs.drop 0) := by simpa [marks] using h
  go_enter Try.func27, Try.ntmps27
  go_wp2
  go_loopw [1, 5] (fun x i wr => ∃ k : Nat, k ≤ n ∧ i = .int .i64 k ∧ x = .int .i64 (k0 + k) ∧ OwnW wr lo hi A n (marks k0 k ++ zs.drop k) ∧ Off lo hi w wr) (fun _ i _ => n - (intOf i).toNat)
  case atStart => exact ⟨0, Nat.zero_le _, rfl, by simp, H0, Off.refl _ _ _⟩
  case round =>
    obtain ⟨k, hk, rfl, rfl, hown, hoff⟩ := hrel
    by_cases hlt : k < n
    · obtain ⟨g, rfl, hg1, hg2, ho, hf⟩ := hown.cell hlt
      have R := hown.set k (k0 + k)
      rw [set_mark zs n k k0 hl.out hlt] at R
      have RO := hoff.setCell (p := ⟨g, k, none⟩) hg1 hg2 (.int .i64 (k0 + k))
      clear hown hoff H0
      go_wp2
      go_roundw
      case rel => exact ⟨k + 1, by omega, by go_num, by go_num, R, RO⟩
      case measure => simp [intOf]; omega
    · obtain rfl : k = n := by omega
      have R := hown
      rw [List.drop_eq_nil_of_le (by have := hl.out; omega), List.append_nil] at R
      go_wp2
      go_ret
      exact ⟨rfl, R, hoff⟩
end Go.Proofs.Ytkmbblooofmnpaa
