/- The verifier's helpers on monitors: szMonitor, toModeS, toMonitor, eqMode, eqModeS, eqMonitor. Under way. -/
import Derived.Test.YtmibajhilbfecaaMB
import Derived.Laws.MakeOwn
import Derived.OwnWalk
import Derived.Deep.RegionHeld3
import Derived.Deep.DeepMust
namespace Go.Proofs.Ytmibajhilbfecaa
open Go.RowKit Go.Deep
theorem infoMode' : (Try.prog.info? 39).map (fun i => (i.zero, i.size, i.bytes)) = some (some (.agg #[.int .i64 0, .int .i64 0, .int .i64 0, .int .i64 0, .int .i64 0, .int .i64 0, .int .i64 0, .int .i64 0, .int .i64 0]), 9, 72) := by kernel_rfl
theorem szModeS_any (A : Option Addr) (n c : Nat) (x : Int) (w : World) (h0 : 0 ≤ x) (h1 : x ≤ 1048576) (hc : n ≤ c) (hm : c ≤ maxLen) :
    Calls Try.prog 75 #[.slice A n c, .int .i64 x] w fun e w' => e = .returned (.int .i64 (if x < n then -1 else x - n)) ∧ w = w' := by
  unfold maxLen at hm
  by_cases h : x < n
  · have hd : decide (x - (n : Int) < 0) = true := by simp; omega
    go_enter Try.func75, Try.ntmps75
    go_wp2
    go_ret
    exact ⟨by simp, rfl⟩
  · have hd : decide (x - (n : Int) < 0) = false := by simp; omega
    go_enter Try.func75, Try.ntmps75
    go_wp2
    go_ret
    exact ⟨by simp, rfl⟩
theorem szMonitor_any (N : ByteArray) (A : Option Addr) (n c : Nat) (s : Int) (w : World) (hN : N.size ≤ maxLen) (hc : n ≤ c) (hm : c ≤ maxLen) :
    Calls Try.prog 46 #[.agg #[.string N, .slice A n c, .int .i64 s], .int .i64 1048576] w fun e w' => (∃ x : Int, e = .returned (.int .i64 x) ∧ (x < 0 ↔ 1048576 < N.size + n)) ∧ Below w.heap.size w w' := by
  have hN' := hN
  unfold maxLen at hN'
  by_cases h1 : (1048576 : Int) < N.size
  · have hd : decide ((1048576 : Int) - (N.size : Int) < 0) = true := by simp; omega
    go_enter Try.func46, Try.ntmps46
    go_wp2
    go_ret
    exact ⟨⟨_, rfl, by omega⟩, (Below.refl _ _).alloc (Nat.le_refl _) _⟩
  · have hd : decide ((1048576 : Int) - (N.size : Int) < 0) = false := by simp; omega
    by_cases h2 : (1048576 : Int) - N.size < n
    · have e2 : (if (1048576 : Int) - N.size < (n : Int) then (-1 : Int) else 1048576 - N.size - n) = -1 := if_pos h2
      go_enter Try.func46, Try.ntmps46
      go_wp2_with (go_at_call 75; refine (szModeS_any A _ _ _ _ (by omega) (by omega) hc hm).mono ?_; rw [e2]; rintro e w' ⟨rfl, rfl⟩)
      go_ret
      exact ⟨⟨_, rfl, by omega⟩, (Below.refl _ _).alloc (Nat.le_refl _) _⟩
    · have e2 : (if (1048576 : Int) - N.size < (n : Int) then (-1 : Int) else 1048576 - N.size - n) = 1048576 - N.size - n := if_neg h2
      go_enter Try.func46, Try.ntmps46
      go_wp2_with (go_at_call 75; refine (szModeS_any A _ _ _ _ (by omega) (by omega) hc hm).mono ?_; rw [e2]; rintro e w' ⟨rfl, rfl⟩)
      go_ret
      exact ⟨⟨_, rfl, by omega⟩, (Below.refl _ _).alloc (Nat.le_refl _) _⟩
/-! ### a row that is being filled -/
/-- Block g has n rows of nine cells; the first k hold the first k of ms. -/
def RowM (w : World) (g n k : Nat) (ms : List MD) : Prop :=
  ∃ cur : Array Value, w.heap[g]? = some (.cells cur 39 (0, 0)) ∧ cur.size = n * 9 ∧ ∀ j, j < k → ∀ i u, (mCells (mat ms j))[i]? = some u → cur[j * 9 + i]? = some u
/-- The nine stores of 'out[k] = m' in block g, from cell o on. -/
def set9o (w : World) (g o : Nat) (m : MD) : World :=
  ((((((((w.setCell ⟨g, o, none⟩ (.int .i64 m.c)).setCell ⟨g, o + 1, none⟩ (.int .i64 m.w)).setCell ⟨g, o + 2, none⟩ (.int .i64 m.hf)).setCell ⟨g, o + 3, none⟩ (.int .i64 m.hs)).setCell ⟨g, o + 4, none⟩ (.int .i64 m.hb)).setCell ⟨g, o + 5, none⟩ (.int .i64 m.h)).setCell ⟨g, o + 6, none⟩ (.int .i64 m.vf)).setCell ⟨g, o + 7, none⟩ (.int .i64 m.vs)).setCell ⟨g, o + 8, none⟩ (.int .i64 m.vb)
section
variable {w w' : World} {g n k : Nat} {ms : List MD}
theorem RowM.cell (h : RowM w g n k ms) {j : Nat} (hj : j < n * 9) : ∃ u, w.cell? ⟨g, j, none⟩ = some u := by
  obtain ⟨cur, hg, hs, _⟩ := h
  exact ⟨cur[j]'(by omega), (cell_in hg j).trans (Array.getElem?_eq_getElem (by omega))⟩
theorem RowM.unfrozen (h : RowM w g n k ms) (j : Nat) : w.frozen? ⟨g, j, none⟩ = false := by
  obtain ⟨cur, hg, _⟩ := h
  simp [World.frozen?, hg]
theorem RowM.lt (h : RowM w g n k ms) : g < w.heap.size := by
  obtain ⟨cur, hg, _⟩ := h
  exact heap_lt hg
theorem RowM.below {B : Nat} (h : RowM w g n k ms) (hb : Below B w w') (hB : g < B) : RowM w' g n k ms := by
  obtain ⟨cur, hg, r⟩ := h
  exact ⟨cur, (hb.block g hB).trans hg, r⟩
theorem RowM.far (h : RowM w g n k ms) {p : Addr} (hp : p.block ≠ g) (u : Value) : RowM (w.setCell p u) g n k ms := by
  obtain ⟨cur, hg, r⟩ := h
  exact ⟨cur, heap_far hg hp u, r⟩
theorem RowM.set9o (h : RowM w g n k ms) (hk : k < n) : RowM (set9o w g (k * 9) (mat ms k)) g n (k + 1) ms := by
  obtain ⟨cur, hg, hs, hr⟩ := h
  have h0 := heap_setCell_same (j := k * 9) hg (.int .i64 (mat ms k).c)
  have h1 := heap_setCell_same (j := k * 9 + 1) h0 (.int .i64 (mat ms k).w)
  have h2 := heap_setCell_same (j := k * 9 + 2) h1 (.int .i64 (mat ms k).hf)
  have h3 := heap_setCell_same (j := k * 9 + 3) h2 (.int .i64 (mat ms k).hs)
  have h4 := heap_setCell_same (j := k * 9 + 4) h3 (.int .i64 (mat ms k).hb)
  have h5 := heap_setCell_same (j := k * 9 + 5) h4 (.int .i64 (mat ms k).h)
  have h6 := heap_setCell_same (j := k * 9 + 6) h5 (.int .i64 (mat ms k).vf)
  have h7 := heap_setCell_same (j := k * 9 + 7) h6 (.int .i64 (mat ms k).vs)
  have h8 := heap_setCell_same (j := k * 9 + 8) h7 (.int .i64 (mat ms k).vb)
  refine ⟨_, h8, by simpa using hs, fun j hj i u hu => ?_⟩
  have hi : i < 9 := by have := (List.getElem?_eq_some_iff.1 hu).1; simpa [mCells] using this
  by_cases hjk : j = k
  · subst hjk
    have hc : i = 0 ∨ i = 1 ∨ i = 2 ∨ i = 3 ∨ i = 4 ∨ i = 5 ∨ i = 6 ∨ i = 7 ∨ i = 8 := by omega
    have b : j * 9 + 8 < cur.size := by omega
    rcases hc with rfl | rfl | rfl | rfl | rfl | rfl | rfl | rfl | rfl <;>
    · simp only [mCells, List.getElem?_cons_zero, List.getElem?_cons_succ, Option.some.injEq] at hu
      subst hu
      simp [Array.getElem?_setIfInBounds]
      omega
  · have := hr j (by omega) i u hu
    rw [← this]
    simp only [Array.getElem?_setIfInBounds]
    repeat rw [if_neg (by omega)]
theorem off_set9o (w : World) (g o : Nat) (m : MD) : Off g (g + 1) w (set9o w g o m) :=
  (((((((((Off.refl g (g + 1) w).setCell (Nat.le_refl _) (Nat.lt_succ_self _) _).setCell (Nat.le_refl _) (Nat.lt_succ_self _) _).setCell (Nat.le_refl _) (Nat.lt_succ_self _) _).setCell (Nat.le_refl _) (Nat.lt_succ_self _) _).setCell (Nat.le_refl _) (Nat.lt_succ_self _) _).setCell (Nat.le_refl _) (Nat.lt_succ_self _) _).setCell (Nat.le_refl _) (Nat.lt_succ_self _) _).setCell (Nat.le_refl _) (Nat.lt_succ_self _) _).setCell (Nat.le_refl _) (Nat.lt_succ_self _) _
theorem RowM.rm (h : RowM w g n n ms) (hl : ms.length = n) {B : Nat} (hB : g < B) : RM w B (some ⟨g, 0, none⟩) n ms := by
  obtain ⟨cur, hg, hs, hr⟩ := h
  refine ⟨hl, fun _ => ⟨g, 0, rfl, hB, fun j hj i u hu => ?_⟩⟩
  rw [cell_in hg, Nat.zero_add]
  exact hr j hj i u hu
end
set_option maxHeartbeats 1000000 in
theorem toModeS_any (A : Option Addr) (n c B : Nat) (ms : List MD) (w : World) (h : RM w B A n ms) (hB : B ≤ w.heap.size) (hn : n ≤ 1048576) :
    Calls Try.prog 78 #[.slice A n c] w fun e w' => (∃ g, e = .returned (.slice (some ⟨g, 0, none⟩) n n) ∧ w.heap.size ≤ g ∧ RowM w' g n n ms) ∧ Below w.heap.size w w' := by
  obtain ⟨il, hil, hz0, hsz, hby⟩ := info_parts infoMode'
  have hmk : ∀ w : World, (Instr.makeSlice 56 (.int .i64 (n : Int)) (.int .i64 (n : Int))).run Try.prog w = .ok (.slice (some ⟨w.heap.size, 0, none⟩) n n) (w.alloc (.cells (madeCells #[.int .i64 0, .int .i64 0, .int .i64 0, .int .i64 0, .int .i64 0, .int .i64 0, .int .i64 0, .int .i64 0, .int .i64 0] (n * 9)) 39)) := fun w => by
    have hr := run_make (P := Try.prog) w 56 39 il _ Try.underlying56 hil hz0 .i64 .i64 n n (by omega) (Int.le_refl _) (by rw [hby]; omega) (by omega)
    simpa [hsz, Value.cells] using hr
  clear hil hz0 hsz hby
  have hl := h.len
  have R0 : RowM (w.alloc (.cells (madeCells #[.int .i64 0, .int .i64 0, .int .i64 0, .int .i64 0, .int .i64 0, .int .i64 0, .int .i64 0, .int .i64 0, .int .i64 0] (n * 9)) 39)) w.heap.size n 0 ms :=
    ⟨_, heap_alloc_new w _, size_madeCells _ _, fun j hj => absurd hj (by omega)⟩
  have K0 := (Below.refl w.heap.size w).alloc (Nat.le_refl _) (.cells (madeCells #[.int .i64 0, .int .i64 0, .int .i64 0, .int .i64 0, .int .i64 0, .int .i64 0, .int .i64 0, .int .i64 0, .int .i64 0] (n * 9)) 39)
  go_enter Try.func78, Try.ntmps78
  go_wp2
  go_loopw [4] (fun i wr => ∃ k : Nat, k ≤ n ∧ i = .int .i64 k ∧ RowM wr w.heap.size n k ms ∧ Below w.heap.size w wr) (fun i _ => n - (intOf i).toNat)
  case atStart => exact ⟨0, Nat.zero_le _, rfl, R0, K0⟩
  case round =>
    obtain ⟨k, hk, rfl, hrow, hbel⟩ := hrel
    clear R0 K0 hmk
    by_cases hlt : k < n
    · obtain ⟨b, off, rfl, hb, hc⟩ := (h.below hbel hB).at_ hlt
      obtain ⟨m, hm⟩ : ∃ m, m = mat ms k := ⟨_, rfl⟩
      have HM := Lib.hid hm
      rw [← hm] at hc
      clear hm
      obtain ⟨y0, y1, y2, y3, y4, y5, y6, y7, y8⟩ := hc.nine
      have i1 : (0 : Int) ≤ (k : Int) := by omega
      have i2 : (k : Int) < (n : Int) := by omega
      go_wp2_with fail
      refine (toMode_any m _).mono ?_
      rintro e w1 ⟨rfl, hb1⟩
      have row1 := hrow.below hb1 hrow.lt
      have K1 := hbel.trans (hb1.mono hbel.size)
      obtain ⟨u0, z0⟩ := row1.cell (j := k * 9) (by omega)
      obtain ⟨u1, z1⟩ := row1.cell (j := k * 9 + 1) (by omega)
      obtain ⟨u2, z2⟩ := row1.cell (j := k * 9 + 2) (by omega)
      obtain ⟨u3, z3⟩ := row1.cell (j := k * 9 + 3) (by omega)
      obtain ⟨u4, z4⟩ := row1.cell (j := k * 9 + 4) (by omega)
      obtain ⟨u5, z5⟩ := row1.cell (j := k * 9 + 5) (by omega)
      obtain ⟨u6, z6⟩ := row1.cell (j := k * 9 + 6) (by omega)
      obtain ⟨u7, z7⟩ := row1.cell (j := k * 9 + 7) (by omega)
      obtain ⟨u8, z8⟩ := row1.cell (j := k * 9 + 8) (by omega)
      have fz := row1.unfrozen
      have RN := row1.set9o hlt
      rw [← HM.out] at RN
      have KN : Below w.heap.size w (set9o w1 w.heap.size (k * 9) m) := K1.trans ((off_set9o w1 w.heap.size (k * 9) m).below (Nat.le_refl _) K1.size)
      clear hrow hbel hb1 row1 K1 y0 y1 y2 y3 y4 y5 y6 y7 y8 hc
      go_wp2
      go_roundw
      case rel => exact ⟨k + 1, by omega, by go_num, RN, KN⟩
      case measure => simp [intOf]; omega
    · obtain rfl : k = n := by omega
      go_wp2
      go_ret
      exact ⟨⟨_, rfl, Nat.le_refl _, hrow⟩, hbel⟩
/-! ### equality -/
theorem eqMode_t (a : MD) (w : World) : Calls Try.prog 49 #[.agg #[.int .i64 a.c, .int .i64 a.w, .int .i64 a.hf, .int .i64 a.hs, .int .i64 a.hb, .int .i64 a.h, .int .i64 a.vf, .int .i64 a.vs, .int .i64 a.vb], .agg #[.int .i64 a.c, .int .i64 a.w, .int .i64 a.hf, .int .i64 a.hs, .int .i64 a.hb, .int .i64 a.h, .int .i64 a.vf, .int .i64 a.vs, .int .i64 a.vb]] w fun e w' => e = .returned (.bool true) ∧ Below w.heap.size w w' := by
  have K := ((Below.refl w.heap.size w).alloc (Nat.le_refl _) (.cells #[.int .i64 a.c, .int .i64 a.w, .int .i64 a.hf, .int .i64 a.hs, .int .i64 a.hb, .int .i64 a.h, .int .i64 a.vf, .int .i64 a.vs, .int .i64 a.vb] 39)).alloc (by simp) (.cells #[.int .i64 a.c, .int .i64 a.w, .int .i64 a.hf, .int .i64 a.hs, .int .i64 a.hb, .int .i64 a.h, .int .i64 a.vf, .int .i64 a.vs, .int .i64 a.vb] 39)
  go_enter Try.func49, Try.ntmps49
  go_wp2
  go_ret
  exact ⟨rfl, K⟩
theorem keepE {W w' w1 : World} {b o b2 o2 : Nat} {m : MD} (hb : Below w'.heap.size w' w1) (h1 : b < W.heap.size) (h2 : b2 < W.heap.size)
    (h : (w'.cell? ⟨b, o, none⟩ = some (.int .i64 m.c) ∧ w'.cell? ⟨b, o + 1, none⟩ = some (.int .i64 m.w) ∧ w'.cell? ⟨b, o + 2, none⟩ = some (.int .i64 m.hf) ∧ w'.cell? ⟨b, o + 3, none⟩ = some (.int .i64 m.hs) ∧ w'.cell? ⟨b, o + 4, none⟩ = some (.int .i64 m.hb) ∧ w'.cell? ⟨b, o + 5, none⟩ = some (.int .i64 m.h) ∧ w'.cell? ⟨b, o + 6, none⟩ = some (.int .i64 m.vf) ∧ w'.cell? ⟨b, o + 7, none⟩ = some (.int .i64 m.vs) ∧ w'.cell? ⟨b, o + 8, none⟩ = some (.int .i64 m.vb)) ∧ (w'.cell? ⟨b2, o2, none⟩ = some (.int .i64 m.c) ∧ w'.cell? ⟨b2, o2 + 1, none⟩ = some (.int .i64 m.w) ∧ w'.cell? ⟨b2, o2 + 2, none⟩ = some (.int .i64 m.hf) ∧ w'.cell? ⟨b2, o2 + 3, none⟩ = some (.int .i64 m.hs) ∧ w'.cell? ⟨b2, o2 + 4, none⟩ = some (.int .i64 m.hb) ∧ w'.cell? ⟨b2, o2 + 5, none⟩ = some (.int .i64 m.h) ∧ w'.cell? ⟨b2, o2 + 6, none⟩ = some (.int .i64 m.vf) ∧ w'.cell? ⟨b2, o2 + 7, none⟩ = some (.int .i64 m.vs) ∧ w'.cell? ⟨b2, o2 + 8, none⟩ = some (.int .i64 m.vb)) ∧ Below W.heap.size W w') :
    (w1.cell? ⟨b, o, none⟩ = some (.int .i64 m.c) ∧ w1.cell? ⟨b, o + 1, none⟩ = some (.int .i64 m.w) ∧ w1.cell? ⟨b, o + 2, none⟩ = some (.int .i64 m.hf) ∧ w1.cell? ⟨b, o + 3, none⟩ = some (.int .i64 m.hs) ∧ w1.cell? ⟨b, o + 4, none⟩ = some (.int .i64 m.hb) ∧ w1.cell? ⟨b, o + 5, none⟩ = some (.int .i64 m.h) ∧ w1.cell? ⟨b, o + 6, none⟩ = some (.int .i64 m.vf) ∧ w1.cell? ⟨b, o + 7, none⟩ = some (.int .i64 m.vs) ∧ w1.cell? ⟨b, o + 8, none⟩ = some (.int .i64 m.vb)) ∧ (w1.cell? ⟨b2, o2, none⟩ = some (.int .i64 m.c) ∧ w1.cell? ⟨b2, o2 + 1, none⟩ = some (.int .i64 m.w) ∧ w1.cell? ⟨b2, o2 + 2, none⟩ = some (.int .i64 m.hf) ∧ w1.cell? ⟨b2, o2 + 3, none⟩ = some (.int .i64 m.hs) ∧ w1.cell? ⟨b2, o2 + 4, none⟩ = some (.int .i64 m.hb) ∧ w1.cell? ⟨b2, o2 + 5, none⟩ = some (.int .i64 m.h) ∧ w1.cell? ⟨b2, o2 + 6, none⟩ = some (.int .i64 m.vf) ∧ w1.cell? ⟨b2, o2 + 7, none⟩ = some (.int .i64 m.vs) ∧ w1.cell? ⟨b2, o2 + 8, none⟩ = some (.int .i64 m.vb)) ∧ Below W.heap.size W w1 := by
  obtain ⟨⟨y0, y1, y2, y3, y4, y5, y6, y7, y8⟩, ⟨z0, z1, z2, z3, z4, z5, z6, z7, z8⟩, k⟩ := h
  have hc := (bcell hb).1
  have hs := k.size
  refine ⟨⟨?_, ?_, ?_, ?_, ?_, ?_, ?_, ?_, ?_⟩, ⟨?_, ?_, ?_, ?_, ?_, ?_, ?_, ?_, ?_⟩, k.trans (hb.mono hs)⟩
  all_goals (rw [hc _ _ (by omega)]; assumption)
set_option maxHeartbeats 1000000 in
theorem eqModeS_t (A A' : Option Addr) (n c c' B B' : Nat) (ms : List MD) (w : World) (h : RM w B A n ms) (h' : RM w B' A' n ms) (hB : B ≤ w.heap.size) (hB' : B' ≤ w.heap.size) (hn : n ≤ 4294967296) :
    Calls Try.prog 79 #[.slice A n c, .slice A' n c'] w fun e w' => e = .returned (.bool true) ∧ Below w.heap.size w w' := by
  go_enter Try.func79, Try.ntmps79
  go_wp2
  go_loopw [5] (fun i wr => ∃ k : Nat, k ≤ n ∧ i = .int .i64 k ∧ Below w.heap.size w wr) (fun i _ => n - (intOf i).toNat)
  case atStart => exact ⟨0, Nat.zero_le _, rfl, Below.refl _ _⟩
  case round =>
    rename World => w1
    obtain ⟨k, hk, rfl, hbel⟩ := hrel
    by_cases hlt : k < n
    · have hs := hbel.size
      obtain ⟨b, off, rfl, hb, hc⟩ := (h.below hbel hB).at_ hlt
      obtain ⟨b2, off2, rfl, hb2, hc2⟩ := (h'.below hbel hB').at_ hlt
      generalize mat ms k = m at hc hc2
      obtain ⟨y0, y1, y2, y3, y4, y5, y6, y7, y8⟩ := hc.nine
      obtain ⟨z0, z1, z2, z3, z4, z5, z6, z7, z8⟩ := hc2.nine
      have i1 : (0 : Int) ≤ (k : Int) := by omega
      have i2 : (k : Int) < (n : Int) := by omega
      go_wp2_with fail
      first | go_must (go_region_held3 (fun w' => (w'.cell? ⟨b, off + k * 9, none⟩ = some (.int .i64 m.c) ∧ w'.cell? ⟨b, off + k * 9 + 1, none⟩ = some (.int .i64 m.w) ∧ w'.cell? ⟨b, off + k * 9 + 2, none⟩ = some (.int .i64 m.hf) ∧ w'.cell? ⟨b, off + k * 9 + 3, none⟩ = some (.int .i64 m.hs) ∧ w'.cell? ⟨b, off + k * 9 + 4, none⟩ = some (.int .i64 m.hb) ∧ w'.cell? ⟨b, off + k * 9 + 5, none⟩ = some (.int .i64 m.h) ∧ w'.cell? ⟨b, off + k * 9 + 6, none⟩ = some (.int .i64 m.vf) ∧ w'.cell? ⟨b, off + k * 9 + 7, none⟩ = some (.int .i64 m.vs) ∧ w'.cell? ⟨b, off + k * 9 + 8, none⟩ = some (.int .i64 m.vb)) ∧ (w'.cell? ⟨b2, off2 + k * 9, none⟩ = some (.int .i64 m.c) ∧ w'.cell? ⟨b2, off2 + k * 9 + 1, none⟩ = some (.int .i64 m.w) ∧ w'.cell? ⟨b2, off2 + k * 9 + 2, none⟩ = some (.int .i64 m.hf) ∧ w'.cell? ⟨b2, off2 + k * 9 + 3, none⟩ = some (.int .i64 m.hs) ∧ w'.cell? ⟨b2, off2 + k * 9 + 4, none⟩ = some (.int .i64 m.hb) ∧ w'.cell? ⟨b2, off2 + k * 9 + 5, none⟩ = some (.int .i64 m.h) ∧ w'.cell? ⟨b2, off2 + k * 9 + 6, none⟩ = some (.int .i64 m.vf) ∧ w'.cell? ⟨b2, off2 + k * 9 + 7, none⟩ = some (.int .i64 m.vs) ∧ w'.cell? ⟨b2, off2 + k * 9 + 8, none⟩ = some (.int .i64 m.vb)) ∧ Below w1.heap.size w1 w')
        (first | exact ⟨⟨y0, y1, y2, y3, y4, y5, y6, y7, y8⟩, ⟨z0, z1, z2, z3, z4, z5, z6, z7, z8⟩, (Below.refl _ _).drew⟩ | exact keepE ‹_› (by omega) (by omega) ‹_ ∧ _› | assumption)
        (first | (go_at_call 49; refine (eqMode_t m _).mono ?_; rintro e w5 ⟨rfl, hb5⟩))) | fail
      rename_i HH
      have b35 := HH.2.2
      clear HH hb5 y0 y1 y2 y3 y4 y5 y6 y7 y8 z0 z1 z2 z3 z4 z5 z6 z7 z8 hc hc2
      go_wp2
      go_roundw
      case rel => exact ⟨k + 1, by omega, by go_num, hbel.trans (b35.mono hs)⟩
      case measure => simp [intOf]; omega
    · obtain rfl : k = n := by omega
      go_wp2
      go_ret
      exact ⟨rfl, hbel⟩
set_option maxHeartbeats 1000000 in
theorem eqMonitor_t (N : ByteArray) (A A' : Option Addr) (n c c' B B' : Nat) (ms : List MD) (s : Int) (w : World) (h : RM w B A n ms) (h' : RM w B' A' n ms) (hB : B ≤ w.heap.size) (hB' : B' ≤ w.heap.size) (hn : n ≤ 4294967296) :
    Calls Try.prog 50 #[.agg #[.string N, .slice A n c, .int .i64 s], .agg #[.string N, .slice A' n c', .int .i64 s]] w fun e w' => e = .returned (.bool true) ∧ Below w.heap.size w w' := by
  obtain ⟨w0, hw0⟩ : ∃ w0, w0 = (w.alloc (.cells #[.string N, .slice A n c, .int .i64 s] 58)).alloc (.cells #[.string N, .slice A' n c', .int .i64 s] 58) := ⟨_, rfl⟩
  have K0 : Below w.heap.size w w0 := by rw [hw0]; exact ((Below.refl w.heap.size w).alloc (Nat.le_refl _) _).alloc (by simp) _
  have hs0 : w0.heap.size = w.heap.size + 1 + 1 := by rw [hw0]; simp
  have G1 : w0.heap[w.heap.size + 1]? = some (.cells #[.string N, .slice A' n c', .int .i64 s] 58) := by
    rw [hw0]
    have := heap_alloc_new (w.alloc (.cells #[.string N, .slice A n c, .int .i64 s] 58)) (.cells #[.string N, .slice A' n c', .int .i64 s] 58)
    rw [World.size_alloc] at this
    exact this
  have G0 : w0.heap[w.heap.size]? = some (.cells #[.string N, .slice A n c, .int .i64 s] 58) := by rw [hw0, Below.heap_alloc _ _ _ (by simp), heap_alloc_new]
  go_enter Try.func50, Try.ntmps50
  go_wp2_with fail
  rw [← hw0]
  clear hw0
  refine (eqModeS_t A A' n c c' B B' ms w0 (h.below K0 hB) (h'.below K0 hB') (by omega) (by omega) hn).mono ?_
  rintro e w1 ⟨rfl, hb1⟩
  obtain ⟨_, _, d3, _, _, _⟩ := cells3 ((hb1.block _ (by omega)).trans G0)
  obtain ⟨_, _, f3, _, _, _⟩ := cells3 ((hb1.block _ (by omega)).trans G1)
  have K1 := K0.trans (hb1.mono (by omega))
  clear G0 G1 hb1
  go_wp2
  go_ret
  exact ⟨rfl, K1⟩
/-- A new monitor: its modes in a block of its own. -/
def RetMo (w : World) (N : ByteArray) (n : Nat) (ms : List MD) (s : Int) (e : Ending) (w' : World) : Prop :=
  ∃ g, e = .returned (.agg #[.string N, .slice (some ⟨g, 0, none⟩) n n, .int .i64 s]) ∧ RM w' w'.heap.size (some ⟨g, 0, none⟩) n ms ∧ Below w.heap.size w w'
set_option maxHeartbeats 1000000 in
theorem toMonitor_any (N : ByteArray) (A : Option Addr) (n c B : Nat) (ms : List MD) (s : Int) (w : World) (h : RM w B A n ms) (hB : B ≤ w.heap.size) (hn : n ≤ 1048576) :
    Calls Try.prog 48 #[.agg #[.string N, .slice A n c, .int .i64 s]] w (RetMo w N n ms s) := by
  obtain ⟨w0, hw0⟩ : ∃ w0, w0 = ((w.alloc (.cells #[.string N, .slice A n c, .int .i64 s] 66)).alloc (.cells #[.string { data := #[] }, .slice none 0 0, .int .i64 0] 58)).alloc (.cells #[.string N, .slice none 0 0, .int .i64 0] 58) := ⟨_, rfl⟩
  have K0 : Below w.heap.size w w0 := by rw [hw0]; exact (((Below.refl w.heap.size w).alloc (Nat.le_refl _) _).alloc (by simp) _).alloc (by simp; omega) _
  have hs0 : w0.heap.size = w.heap.size + 1 + 1 + 1 := by rw [hw0]; simp
  have G2 : w0.heap[w.heap.size + 1 + 1]? = some (.cells #[.string N, .slice none 0 0, .int .i64 0] 58) := by
    rw [hw0]
    have := heap_alloc_new ((w.alloc (.cells #[.string N, .slice A n c, .int .i64 s] 66)).alloc (.cells #[.string { data := #[] }, .slice none 0 0, .int .i64 0] 58)) (.cells #[.string N, .slice none 0 0, .int .i64 0] 58)
    rw [World.size_alloc, World.size_alloc] at this
    exact this
  have G1 : w0.heap[w.heap.size + 1]? = some (.cells #[.string { data := #[] }, .slice none 0 0, .int .i64 0] 58) := by
    rw [hw0, Below.heap_alloc _ _ _ (by simp)]
    have := heap_alloc_new (w.alloc (.cells #[.string N, .slice A n c, .int .i64 s] 66)) (.cells #[.string { data := #[] }, .slice none 0 0, .int .i64 0] 58)
    rw [World.size_alloc] at this
    exact this
  have G0 : w0.heap[w.heap.size]? = some (.cells #[.string N, .slice A n c, .int .i64 s] 66) := by rw [hw0, Below.heap_alloc _ _ _ (by simp; omega), Below.heap_alloc _ _ _ (by simp), heap_alloc_new]
  have hl := h.len
  go_enter Try.func48, Try.ntmps48
  go_wp2_with fail
  rw [← hw0]
  clear hw0
  refine (toModeS_any A n c B ms w0 (h.below K0 hB) (by omega) hn).mono ?_
  rintro e w1 ⟨⟨g, rfl, hg, hrow⟩, hb1⟩
  have s1 := hb1.size
  have g0 := (hb1.block _ (by omega)).trans G0
  have g1 := (hb1.block _ (by omega)).trans G1
  have g2 := (hb1.block _ (by omega)).trans G2
  have K1 := K0.trans (hb1.mono (by omega))
  clear hb1 G0 G1 G2 K0
  obtain ⟨d1, d2, d3, _, _, _⟩ := cells3 g0
  obtain ⟨e1, e2, e3, p1, p2, p3⟩ := cells3 g1
  obtain ⟨f1, f2, f3, q1, q2, q3⟩ := cells3 g2
  have gg1 := heap_far (heap_far g1 (p := ⟨w.heap.size + 1 + 1, 1, none⟩) (by simp) (.slice (some ⟨g, 0, none⟩) n n)) (p := ⟨w.heap.size + 1 + 1, 2, none⟩) (by simp) (.int .i64 s)
  have J1 := heap_setCell_same (j := 0) gg1 (.string N)
  have J2 := heap_setCell_same (j := 1) J1 (.slice (some ⟨g, 0, none⟩) n n)
  have J3 := heap_setCell_same (j := 2) J2 (.int .i64 s)
  have HJ := Lib.hid (cells3 J3)
  clear J1 J2 J3 gg1 g0 g1 g2
  go_wp2
  obtain ⟨j1, j2, j3, _, _, _⟩ := HJ.out
  refine bodyPost_ret (v := .agg #[.string N, .slice (some ⟨g, 0, none⟩) n n, .int .i64 s]) (by simp [results, Try.results48, go_sem, j1, j2, j3]) rfl ⟨g, rfl, ?_, ?_⟩
  · have hgl := hrow.lt
    exact RowM.rm (RowM.far (RowM.far (RowM.far (RowM.far (RowM.far hrow (by simp; omega) _) (by simp; omega) _) (by simp; omega) _) (by simp; omega) _) (by simp; omega) _) hl (by simp; omega)
  · exact ((((K1.setCell (by simp; omega) _).setCell (by simp; omega) _).setCell (by simp) _).setCell (by simp) _).setCell (by simp) _
end Go.Proofs.Ytmibajhilbfecaa
