/- A mode in a box: nine cells, read and written. -/
import Derived.Test.YtmibajhilbfecaaMon
namespace Go.Proofs.Ytmibajhilbfecaa
open Go.RowKit Go.Deep
/-- Block g holds the mode m. -/
def MB (T : TypeId) (w : World) (g : Nat) (m : MD) : Prop := w.heap[g]? = some (.cells #[.int .i64 m.c, .int .i64 m.w, .int .i64 m.hf, .int .i64 m.hs, .int .i64 m.hb, .int .i64 m.h, .int .i64 m.vf, .int .i64 m.vs, .int .i64 m.vb] T (0, 0))
section
variable {T : TypeId} {w w' : World} {g : Nat} {m : MD}
theorem MB.new (T : TypeId) (w : World) (m : MD) : MB T (w.alloc (.cells #[.int .i64 m.c, .int .i64 m.w, .int .i64 m.hf, .int .i64 m.hs, .int .i64 m.hb, .int .i64 m.h, .int .i64 m.vf, .int .i64 m.vs, .int .i64 m.vb] T)) w.heap.size m := heap_alloc_new w _
theorem MB.lt (h : MB T w g m) : g < w.heap.size := heap_lt h
theorem MB.below {B : Nat} (h : MB T w g m) (hb : Below B w w') (hB : g < B) : MB T w' g m := (hb.block g hB).trans h
theorem MB.off {lo hi : Nat} (h : MB T w g m) (ho : Off lo hi w w') (hd : g < lo ∨ hi ≤ g) : MB T w' g m := (ho.block g h.lt hd).trans h
theorem MB.alloc (h : MB T w g m) (o : Obj) : MB T (w.alloc o) g m := (Below.heap_alloc w o g h.lt).trans h
theorem MB.nine (h : MB T w g m) : w.cell? ⟨g, 0, none⟩ = some (.int .i64 m.c) ∧ w.cell? ⟨g, 1, none⟩ = some (.int .i64 m.w) ∧ w.cell? ⟨g, 2, none⟩ = some (.int .i64 m.hf) ∧ w.cell? ⟨g, 3, none⟩ = some (.int .i64 m.hs) ∧ w.cell? ⟨g, 4, none⟩ = some (.int .i64 m.hb) ∧ w.cell? ⟨g, 5, none⟩ = some (.int .i64 m.h) ∧ w.cell? ⟨g, 6, none⟩ = some (.int .i64 m.vf) ∧ w.cell? ⟨g, 7, none⟩ = some (.int .i64 m.vs) ∧ w.cell? ⟨g, 8, none⟩ = some (.int .i64 m.vb) :=
  ⟨(cell_in h 0).trans rfl, (cell_in h 1).trans rfl, (cell_in h 2).trans rfl, (cell_in h 3).trans rfl, (cell_in h 4).trans rfl, (cell_in h 5).trans rfl, (cell_in h 6).trans rfl, (cell_in h 7).trans rfl, (cell_in h 8).trans rfl⟩
theorem MB.fz (h : MB T w g m) : w.frozen? ⟨g, 0, none⟩ = false ∧ w.frozen? ⟨g, 1, none⟩ = false ∧ w.frozen? ⟨g, 2, none⟩ = false ∧ w.frozen? ⟨g, 3, none⟩ = false ∧ w.frozen? ⟨g, 4, none⟩ = false ∧ w.frozen? ⟨g, 5, none⟩ = false ∧ w.frozen? ⟨g, 6, none⟩ = false ∧ w.frozen? ⟨g, 7, none⟩ = false ∧ w.frozen? ⟨g, 8, none⟩ = false :=
  ⟨unfrozen h 0, unfrozen h 1, unfrozen h 2, unfrozen h 3, unfrozen h 4, unfrozen h 5, unfrozen h 6, unfrozen h 7, unfrozen h 8⟩
/-- The nine stores of 'b = x'. -/
def set9 (w : World) (g : Nat) (m : MD) : World :=
  ((((((((w.setCell ⟨g, 0, none⟩ (.int .i64 m.c)).setCell ⟨g, 1, none⟩ (.int .i64 m.w)).setCell ⟨g, 2, none⟩ (.int .i64 m.hf)).setCell ⟨g, 3, none⟩ (.int .i64 m.hs)).setCell ⟨g, 4, none⟩ (.int .i64 m.hb)).setCell ⟨g, 5, none⟩ (.int .i64 m.h)).setCell ⟨g, 6, none⟩ (.int .i64 m.vf)).setCell ⟨g, 7, none⟩ (.int .i64 m.vs)).setCell ⟨g, 8, none⟩ (.int .i64 m.vb)
theorem MB.set9 (h : MB T w g m) (x : MD) : MB T (set9 w g x) g x := by
  have h0 := heap_setCell_same (j := 0) h (.int .i64 x.c)
  have h1 := heap_setCell_same (j := 1) h0 (.int .i64 x.w)
  have h2 := heap_setCell_same (j := 2) h1 (.int .i64 x.hf)
  have h3 := heap_setCell_same (j := 3) h2 (.int .i64 x.hs)
  have h4 := heap_setCell_same (j := 4) h3 (.int .i64 x.hb)
  have h5 := heap_setCell_same (j := 5) h4 (.int .i64 x.h)
  have h6 := heap_setCell_same (j := 6) h5 (.int .i64 x.vf)
  have h7 := heap_setCell_same (j := 7) h6 (.int .i64 x.vs)
  have h8 := heap_setCell_same (j := 8) h7 (.int .i64 x.vb)
  unfold MB Go.Proofs.Ytmibajhilbfecaa.set9
  rw [h8]; simp
theorem off_set9 (w : World) (g : Nat) (m : MD) : Off g (g + 1) w (set9 w g m) :=
  (((((((((Off.refl g (g + 1) w).setCell (Nat.le_refl _) (Nat.lt_succ_self _) _).setCell (Nat.le_refl _) (Nat.lt_succ_self _) _).setCell (Nat.le_refl _) (Nat.lt_succ_self _) _).setCell (Nat.le_refl _) (Nat.lt_succ_self _) _).setCell (Nat.le_refl _) (Nat.lt_succ_self _) _).setCell (Nat.le_refl _) (Nat.lt_succ_self _) _).setCell (Nat.le_refl _) (Nat.lt_succ_self _) _).setCell (Nat.le_refl _) (Nat.lt_succ_self _) _).setCell (Nat.le_refl _) (Nat.lt_succ_self _) _
theorem below_set9 {B : Nat} {a : World} (h : Below B a w) (hg : B ≤ g) (m : MD) : Below B a (set9 w g m) :=
  ((((((((h.setCell (by exact hg) _).setCell (by exact hg) _).setCell (by exact hg) _).setCell (by exact hg) _).setCell (by exact hg) _).setCell (by exact hg) _).setCell (by exact hg) _).setCell (by exact hg) _).setCell (by exact hg) _
end
theorem mode_prod {m : MD} (h : modeB m = true) : 0 ≤ m.w * m.h ∧ m.w * m.h ≤ 256 := by
  have hb := modeB_t.1 h
  have := mul_bd (a := m.w) (b := m.h) (x := 16) (y := 16) (by omega) (by omega) (by omega) (by omega)
  omega
theorem mode_prod_wrap {m : MD} (h : modeB m = true) : wrap64 (m.w * m.h) = m.w * m.h ∧ IntKind.i64.wrap (m.w * m.h) = m.w * m.h := by
  have := mode_prod h
  exact ⟨IntWalk.wrap64_in _ (by omega), IntWalk.i64_in _ (by omega)⟩
end Go.Proofs.Ytmibajhilbfecaa
