/- The walk of FnExactBestMode (printed by tools/bm.py). -/
import Derived.Test.YtmibajhilbfecaaMonL
import Derived.Test.YtmibajhilbfecaaBest2
namespace Go.Proofs.Ytmibajhilbfecaa
open Go.RowKit Go.Deep
section
variable {W w' w1 : World} {gm gl n c : Nat} {N : ByteArray} {A : Option Addr} {s l r d : Int}
/-- What the loads want, from any earlier world. -/
theorem keepB (h1 : gm < W.heap.size) (h2 : gl < W.heap.size) (hb : Below W.heap.size w' w1) (h : (w'.cell? ⟨gm, 0, none⟩ = some (.string N) ∧ w'.cell? ⟨gm, 1, none⟩ = some (.slice A n c) ∧ w'.cell? ⟨gm, 2, none⟩ = some (.int .i64 s)) ∧ (w'.cell? ⟨gl, 0, none⟩ = some (.int .i64 l) ∧ w'.cell? ⟨gl, 1, none⟩ = some (.int .i64 r) ∧ w'.cell? ⟨gl, 2, none⟩ = some (.int .i64 d)) ∧ Below W.heap.size W w') :
    (w1.cell? ⟨gm, 0, none⟩ = some (.string N) ∧ w1.cell? ⟨gm, 1, none⟩ = some (.slice A n c) ∧ w1.cell? ⟨gm, 2, none⟩ = some (.int .i64 s)) ∧ (w1.cell? ⟨gl, 0, none⟩ = some (.int .i64 l) ∧ w1.cell? ⟨gl, 1, none⟩ = some (.int .i64 r) ∧ w1.cell? ⟨gl, 2, none⟩ = some (.int .i64 d)) ∧ Below W.heap.size W w1 := by
  obtain ⟨⟨x1, x2, x3⟩, ⟨y1, y2, y3⟩, k⟩ := h
  refine ⟨⟨?_, ?_, ?_⟩, ⟨?_, ?_, ?_⟩, k.trans hb⟩
  all_goals (rw [hb.cell (by assumption)]; assumption)
theorem keepBc (h1 : gm < W.heap.size) (h2 : gl < W.heap.size) (hb : Below w'.heap.size w' w1) (h : (w'.cell? ⟨gm, 0, none⟩ = some (.string N) ∧ w'.cell? ⟨gm, 1, none⟩ = some (.slice A n c) ∧ w'.cell? ⟨gm, 2, none⟩ = some (.int .i64 s)) ∧ (w'.cell? ⟨gl, 0, none⟩ = some (.int .i64 l) ∧ w'.cell? ⟨gl, 1, none⟩ = some (.int .i64 r) ∧ w'.cell? ⟨gl, 2, none⟩ = some (.int .i64 d)) ∧ Below W.heap.size W w') :
    (w1.cell? ⟨gm, 0, none⟩ = some (.string N) ∧ w1.cell? ⟨gm, 1, none⟩ = some (.slice A n c) ∧ w1.cell? ⟨gm, 2, none⟩ = some (.int .i64 s)) ∧ (w1.cell? ⟨gl, 0, none⟩ = some (.int .i64 l) ∧ w1.cell? ⟨gl, 1, none⟩ = some (.int .i64 r) ∧ w1.cell? ⟨gl, 2, none⟩ = some (.int .i64 d)) ∧ Below W.heap.size W w1 := keepB h1 h2 (hb.mono h.2.2.size) h
theorem keepBa (h1 : gm < W.heap.size) (h2 : gl < W.heap.size) (o : Obj) (h : (w'.cell? ⟨gm, 0, none⟩ = some (.string N) ∧ w'.cell? ⟨gm, 1, none⟩ = some (.slice A n c) ∧ w'.cell? ⟨gm, 2, none⟩ = some (.int .i64 s)) ∧ (w'.cell? ⟨gl, 0, none⟩ = some (.int .i64 l) ∧ w'.cell? ⟨gl, 1, none⟩ = some (.int .i64 r) ∧ w'.cell? ⟨gl, 2, none⟩ = some (.int .i64 d)) ∧ Below W.heap.size W w') :
    ((w'.alloc o).cell? ⟨gm, 0, none⟩ = some (.string N) ∧ (w'.alloc o).cell? ⟨gm, 1, none⟩ = some (.slice A n c) ∧ (w'.alloc o).cell? ⟨gm, 2, none⟩ = some (.int .i64 s)) ∧ ((w'.alloc o).cell? ⟨gl, 0, none⟩ = some (.int .i64 l) ∧ (w'.alloc o).cell? ⟨gl, 1, none⟩ = some (.int .i64 r) ∧ (w'.alloc o).cell? ⟨gl, 2, none⟩ = some (.int .i64 d)) ∧ Below W.heap.size W (w'.alloc o) := keepB h1 h2 ((Below.refl W.heap.size w').alloc h.2.2.size o) h
theorem keepB9 (h1 : gm < W.heap.size) (h2 : gl < W.heap.size) {g : Nat} (hg : W.heap.size ≤ g) (m : MD) (h : (w'.cell? ⟨gm, 0, none⟩ = some (.string N) ∧ w'.cell? ⟨gm, 1, none⟩ = some (.slice A n c) ∧ w'.cell? ⟨gm, 2, none⟩ = some (.int .i64 s)) ∧ (w'.cell? ⟨gl, 0, none⟩ = some (.int .i64 l) ∧ w'.cell? ⟨gl, 1, none⟩ = some (.int .i64 r) ∧ w'.cell? ⟨gl, 2, none⟩ = some (.int .i64 d)) ∧ Below W.heap.size W w') :
    ((((((((((w'.setCell ⟨g, 0, none⟩ (.int .i64 m.c)).setCell ⟨g, 1, none⟩ (.int .i64 m.w)).setCell ⟨g, 2, none⟩ (.int .i64 m.hf)).setCell ⟨g, 3, none⟩ (.int .i64 m.hs)).setCell ⟨g, 4, none⟩ (.int .i64 m.hb)).setCell ⟨g, 5, none⟩ (.int .i64 m.h)).setCell ⟨g, 6, none⟩ (.int .i64 m.vf)).setCell ⟨g, 7, none⟩ (.int .i64 m.vs)).setCell ⟨g, 8, none⟩ (.int .i64 m.vb)).cell? ⟨gm, 0, none⟩ = some (.string N) ∧ (((((((((w'.setCell ⟨g, 0, none⟩ (.int .i64 m.c)).setCell ⟨g, 1, none⟩ (.int .i64 m.w)).setCell ⟨g, 2, none⟩ (.int .i64 m.hf)).setCell ⟨g, 3, none⟩ (.int .i64 m.hs)).setCell ⟨g, 4, none⟩ (.int .i64 m.hb)).setCell ⟨g, 5, none⟩ (.int .i64 m.h)).setCell ⟨g, 6, none⟩ (.int .i64 m.vf)).setCell ⟨g, 7, none⟩ (.int .i64 m.vs)).setCell ⟨g, 8, none⟩ (.int .i64 m.vb)).cell? ⟨gm, 1, none⟩ = some (.slice A n c) ∧ (((((((((w'.setCell ⟨g, 0, none⟩ (.int .i64 m.c)).setCell ⟨g, 1, none⟩ (.int .i64 m.w)).setCell ⟨g, 2, none⟩ (.int .i64 m.hf)).setCell ⟨g, 3, none⟩ (.int .i64 m.hs)).setCell ⟨g, 4, none⟩ (.int .i64 m.hb)).setCell ⟨g, 5, none⟩ (.int .i64 m.h)).setCell ⟨g, 6, none⟩ (.int .i64 m.vf)).setCell ⟨g, 7, none⟩ (.int .i64 m.vs)).setCell ⟨g, 8, none⟩ (.int .i64 m.vb)).cell? ⟨gm, 2, none⟩ = some (.int .i64 s)) ∧ ((((((((((w'.setCell ⟨g, 0, none⟩ (.int .i64 m.c)).setCell ⟨g, 1, none⟩ (.int .i64 m.w)).setCell ⟨g, 2, none⟩ (.int .i64 m.hf)).setCell ⟨g, 3, none⟩ (.int .i64 m.hs)).setCell ⟨g, 4, none⟩ (.int .i64 m.hb)).setCell ⟨g, 5, none⟩ (.int .i64 m.h)).setCell ⟨g, 6, none⟩ (.int .i64 m.vf)).setCell ⟨g, 7, none⟩ (.int .i64 m.vs)).setCell ⟨g, 8, none⟩ (.int .i64 m.vb)).cell? ⟨gl, 0, none⟩ = some (.int .i64 l) ∧ (((((((((w'.setCell ⟨g, 0, none⟩ (.int .i64 m.c)).setCell ⟨g, 1, none⟩ (.int .i64 m.w)).setCell ⟨g, 2, none⟩ (.int .i64 m.hf)).setCell ⟨g, 3, none⟩ (.int .i64 m.hs)).setCell ⟨g, 4, none⟩ (.int .i64 m.hb)).setCell ⟨g, 5, none⟩ (.int .i64 m.h)).setCell ⟨g, 6, none⟩ (.int .i64 m.vf)).setCell ⟨g, 7, none⟩ (.int .i64 m.vs)).setCell ⟨g, 8, none⟩ (.int .i64 m.vb)).cell? ⟨gl, 1, none⟩ = some (.int .i64 r) ∧ (((((((((w'.setCell ⟨g, 0, none⟩ (.int .i64 m.c)).setCell ⟨g, 1, none⟩ (.int .i64 m.w)).setCell ⟨g, 2, none⟩ (.int .i64 m.hf)).setCell ⟨g, 3, none⟩ (.int .i64 m.hs)).setCell ⟨g, 4, none⟩ (.int .i64 m.hb)).setCell ⟨g, 5, none⟩ (.int .i64 m.h)).setCell ⟨g, 6, none⟩ (.int .i64 m.vf)).setCell ⟨g, 7, none⟩ (.int .i64 m.vs)).setCell ⟨g, 8, none⟩ (.int .i64 m.vb)).cell? ⟨gl, 2, none⟩ = some (.int .i64 d)) ∧ Below W.heap.size W (((((((((w'.setCell ⟨g, 0, none⟩ (.int .i64 m.c)).setCell ⟨g, 1, none⟩ (.int .i64 m.w)).setCell ⟨g, 2, none⟩ (.int .i64 m.hf)).setCell ⟨g, 3, none⟩ (.int .i64 m.hs)).setCell ⟨g, 4, none⟩ (.int .i64 m.hb)).setCell ⟨g, 5, none⟩ (.int .i64 m.h)).setCell ⟨g, 6, none⟩ (.int .i64 m.vf)).setCell ⟨g, 7, none⟩ (.int .i64 m.vs)).setCell ⟨g, 8, none⟩ (.int .i64 m.vb)) := keepB h1 h2 (below_set9 (Below.refl W.heap.size w') hg m) h
theorem keepBr (h1 : gm < W.heap.size) (h2 : gl < W.heap.size) (hW : W.heap.size ≤ w'.heap.size) {o : Obj} (o' : Obj) (h : ((w'.alloc o).cell? ⟨gm, 0, none⟩ = some (.string N) ∧ (w'.alloc o).cell? ⟨gm, 1, none⟩ = some (.slice A n c) ∧ (w'.alloc o).cell? ⟨gm, 2, none⟩ = some (.int .i64 s)) ∧ ((w'.alloc o).cell? ⟨gl, 0, none⟩ = some (.int .i64 l) ∧ (w'.alloc o).cell? ⟨gl, 1, none⟩ = some (.int .i64 r) ∧ (w'.alloc o).cell? ⟨gl, 2, none⟩ = some (.int .i64 d)) ∧ Below W.heap.size W (w'.alloc o)) :
    ((w'.alloc o').cell? ⟨gm, 0, none⟩ = some (.string N) ∧ (w'.alloc o').cell? ⟨gm, 1, none⟩ = some (.slice A n c) ∧ (w'.alloc o').cell? ⟨gm, 2, none⟩ = some (.int .i64 s)) ∧ ((w'.alloc o').cell? ⟨gl, 0, none⟩ = some (.int .i64 l) ∧ (w'.alloc o').cell? ⟨gl, 1, none⟩ = some (.int .i64 r) ∧ (w'.alloc o').cell? ⟨gl, 2, none⟩ = some (.int .i64 d)) ∧ Below W.heap.size W (w'.alloc o') :=
  have hb : Below W.heap.size (w'.alloc o) (w'.alloc o') := ⟨rfl, rfl, rfl, by simp, fun j hj => by rw [Below.heap_alloc _ _ _ (by omega), Below.heap_alloc _ _ _ (by omega)]⟩
  keepB h1 h2 hb h
theorem keepM {A2 : Option Addr} {n2 c2 : Nat} (h1 : gm < W.heap.size) (h2 : gl < W.heap.size) (hb : Below w'.heap.size w' w1) (h : (w'.cell? ⟨gm, 0, none⟩ = some (.string N) ∧ w'.cell? ⟨gm, 1, none⟩ = some (.slice A n c) ∧ w'.cell? ⟨gm, 2, none⟩ = some (.int .i64 s)) ∧ (w'.cell? ⟨gl, 0, none⟩ = some (.string N) ∧ w'.cell? ⟨gl, 1, none⟩ = some (.slice A2 n2 c2) ∧ w'.cell? ⟨gl, 2, none⟩ = some (.int .i64 s)) ∧ Below W.heap.size W w') :
    (w1.cell? ⟨gm, 0, none⟩ = some (.string N) ∧ w1.cell? ⟨gm, 1, none⟩ = some (.slice A n c) ∧ w1.cell? ⟨gm, 2, none⟩ = some (.int .i64 s)) ∧ (w1.cell? ⟨gl, 0, none⟩ = some (.string N) ∧ w1.cell? ⟨gl, 1, none⟩ = some (.slice A2 n2 c2) ∧ w1.cell? ⟨gl, 2, none⟩ = some (.int .i64 s)) ∧ Below W.heap.size W w1 := by
  obtain ⟨⟨x1, x2, x3⟩, ⟨y1, y2, y3⟩, k⟩ := h
  have hc := (bcell hb).1
  have hs := k.size
  refine ⟨⟨?_, ?_, ?_⟩, ⟨?_, ?_, ?_⟩, k.trans (hb.mono hs)⟩
  all_goals (rw [hc _ _ (by omega)]; assumption)
end
set_option maxHeartbeats 4000000 in
set_option maxRecDepth 20000 in
theorem walk_fnExactBestMode (w : World) (N : ByteArray) (hN : N.size ≤ maxLen) (A : Option Addr) (n c : Nat) (ms : List MD) (h : RM w w.heap.size A n ms) (gc : n ≤ c) (ic : c ≤ maxLen) (s : Int) (_bs : I64 s) (x : Int) (_bx : I64 x) (y : Int) (_by : I64 y) (l : Int) (_bl : I64 l) (r : Int) (_br : I64 r) (d : Int) (_bd : I64 d) :
    Calls Try.prog 12 #[.agg #[.string N, .slice A n c, .int .i64 s], .int .i64 x, .int .i64 y, .agg #[.int .i64 l, .int .i64 r, .int .i64 d]] w fun e w' => e = .returned (.bool true) ∧ Below w.heap.size w w' := by
  obtain ⟨w0, hw0⟩ : ∃ w0, w0 = (w.alloc (.cells #[.string N, .slice A n c, .int .i64 s] 66)).alloc (.cells #[.int .i64 l, .int .i64 r, .int .i64 d] 37) := ⟨_, rfl⟩
  have K0 : Below w.heap.size w w0 := by rw [hw0]; exact ((Below.refl w.heap.size w).alloc (Nat.le_refl _) _).alloc (by simp) _
  have hs0 : w0.heap.size = w.heap.size + 1 + 1 := by rw [hw0]; simp
  have G1 : w0.heap[w.heap.size + 1]? = some (.cells #[.int .i64 l, .int .i64 r, .int .i64 d] 37) := by
    rw [hw0]
    have := heap_alloc_new (w.alloc (.cells #[.string N, .slice A n c, .int .i64 s] 66)) (.cells #[.int .i64 l, .int .i64 r, .int .i64 d] 37)
    rw [World.size_alloc] at this
    exact this
  have G0 : w0.heap[w.heap.size]? = some (.cells #[.string N, .slice A n c, .int .i64 s] 66) := by rw [hw0, Below.heap_alloc _ _ _ (by simp), heap_alloc_new]
  have hl := h.len
  go_enter Try.func12, Try.ntmps12
  go_wp2_with fail
  rw [← hw0]
  clear hw0
  refine (szMonitor_any N A n c s _ hN gc ic).mono ?_
  rintro e w1 ⟨⟨q, rfl, hq⟩, hb1⟩
  have K1 := K0.trans (hb1.mono (by omega))
  have g0 := (hb1.block _ (by omega)).trans G0
  have g1 := (hb1.block _ (by omega)).trans G1
  have s1 := hb1.size
  clear G0 G1 K0 hb1
  by_cases hbig : 1048576 < N.size + n
  · have hneg : q < 0 := hq.2 hbig
    clear hq
    go_wp2
    go_ret
    exact ⟨rfl, K1⟩
  have hneg : ¬ q < 0 := fun hn => hbig (hq.1 hn)
  have bN : N.size ≤ 1048576 := by omega
  have bn : n ≤ 1048576 := by omega
  clear hq hbig
  have h1 := h.below K1 (Nat.le_refl _)
  obtain ⟨⟨bm, ok⟩, hbest⟩ : ∃ p, bestF N ms s x y l r d = p := ⟨_, rfl⟩
  have HB := Lib.hid hbest
  clear hbest
  obtain ⟨d1, d2, d3, _, _, _⟩ := cells3 g0
  obtain ⟨l1, l2, l3, _, _, _⟩ := cells3 g1
  have lm : w.heap.size < w1.heap.size := by omega
  have ll : w.heap.size + 1 < w1.heap.size := by omega
  go_wp2_with fail
  go_cut [10, 11] (fun p v wr => ∃ gb : Nat, p = .pointer (some ⟨gb, 0, none⟩) ∧ v = .bool ok ∧ MB 39 wr gb bm ∧ w1.heap.size ≤ gb ∧ Below w1.heap.size w1 wr)
  case first =>
    have N1 : MB 39 (w1.alloc (.cells #[.int .i64 0, .int .i64 0, .int .i64 0, .int .i64 0, .int .i64 0, .int .i64 0, .int .i64 0, .int .i64 0, .int .i64 0] 39)).drew w1.heap.size zMD := MB.new 39 w1 zMD
    have R1 : RM (w1.alloc (.cells #[.int .i64 0, .int .i64 0, .int .i64 0, .int .i64 0, .int .i64 0, .int .i64 0, .int .i64 0, .int .i64 0, .int .i64 0] 39)).drew w.heap.size A n ms := (h1.alloc (by omega) _).drew
    have Z1 : (w1.alloc (.cells #[.int .i64 0, .int .i64 0, .int .i64 0, .int .i64 0, .int .i64 0, .int .i64 0, .int .i64 0, .int .i64 0, .int .i64 0] 39)).drew.heap.size = w1.heap.size + 1 := by simp
    have Z1' : w1.drew.heap.size = w1.heap.size := rfl
    have HS0 : (w1.drew.cell? ⟨w.heap.size, 0, none⟩ = some (.string N) ∧ w1.drew.cell? ⟨w.heap.size, 1, none⟩ = some (.slice A n c) ∧ w1.drew.cell? ⟨w.heap.size, 2, none⟩ = some (.int .i64 s)) ∧ (w1.drew.cell? ⟨w.heap.size + 1, 0, none⟩ = some (.int .i64 l) ∧ w1.drew.cell? ⟨w.heap.size + 1, 1, none⟩ = some (.int .i64 r) ∧ w1.drew.cell? ⟨w.heap.size + 1, 2, none⟩ = some (.int .i64 d)) ∧ Below w1.heap.size w1 w1.drew := ⟨⟨d1, d2, d3⟩, ⟨l1, l2, l3⟩, (Below.refl _ _).drew⟩
    have HS1 : ((w1.alloc (.cells #[.int .i64 0, .int .i64 0, .int .i64 0, .int .i64 0, .int .i64 0, .int .i64 0, .int .i64 0, .int .i64 0, .int .i64 0] 39)).drew.cell? ⟨w.heap.size, 0, none⟩ = some (.string N) ∧ (w1.alloc (.cells #[.int .i64 0, .int .i64 0, .int .i64 0, .int .i64 0, .int .i64 0, .int .i64 0, .int .i64 0, .int .i64 0, .int .i64 0] 39)).drew.cell? ⟨w.heap.size, 1, none⟩ = some (.slice A n c) ∧ (w1.alloc (.cells #[.int .i64 0, .int .i64 0, .int .i64 0, .int .i64 0, .int .i64 0, .int .i64 0, .int .i64 0, .int .i64 0, .int .i64 0] 39)).drew.cell? ⟨w.heap.size, 2, none⟩ = some (.int .i64 s)) ∧ ((w1.alloc (.cells #[.int .i64 0, .int .i64 0, .int .i64 0, .int .i64 0, .int .i64 0, .int .i64 0, .int .i64 0, .int .i64 0, .int .i64 0] 39)).drew.cell? ⟨w.heap.size + 1, 0, none⟩ = some (.int .i64 l) ∧ (w1.alloc (.cells #[.int .i64 0, .int .i64 0, .int .i64 0, .int .i64 0, .int .i64 0, .int .i64 0, .int .i64 0, .int .i64 0, .int .i64 0] 39)).drew.cell? ⟨w.heap.size + 1, 1, none⟩ = some (.int .i64 r) ∧ (w1.alloc (.cells #[.int .i64 0, .int .i64 0, .int .i64 0, .int .i64 0, .int .i64 0, .int .i64 0, .int .i64 0, .int .i64 0, .int .i64 0] 39)).drew.cell? ⟨w.heap.size + 1, 2, none⟩ = some (.int .i64 d)) ∧ Below w1.heap.size w1 (w1.alloc (.cells #[.int .i64 0, .int .i64 0, .int .i64 0, .int .i64 0, .int .i64 0, .int .i64 0, .int .i64 0, .int .i64 0, .int .i64 0] 39)).drew := keepBa lm ll _ HS0
    first | go_must (go_region_held3 (fun w' => (w'.cell? ⟨w.heap.size, 0, none⟩ = some (.string N) ∧ w'.cell? ⟨w.heap.size, 1, none⟩ = some (.slice A n c) ∧ w'.cell? ⟨w.heap.size, 2, none⟩ = some (.int .i64 s)) ∧ (w'.cell? ⟨w.heap.size + 1, 0, none⟩ = some (.int .i64 l) ∧ w'.cell? ⟨w.heap.size + 1, 1, none⟩ = some (.int .i64 r) ∧ w'.cell? ⟨w.heap.size + 1, 2, none⟩ = some (.int .i64 d)) ∧ Below w1.heap.size w1 w')
      (first | (with_reducible assumption) | (with_reducible exact keepBa lm ll _ ‹_ ∧ _›) | (with_reducible exact keepBr lm ll (by omega) _ ‹_ ∧ _›) | (with_reducible exact keepB9 lm ll (by omega) bm ‹_ ∧ _›) | (with_reducible exact keepBc lm ll ‹_› ‹_ ∧ _›))
      (first
        | (go_at_call 48; first
            | ((with_reducible refine (toMonitor_any N A n c w.heap.size ms s (w1.alloc (.cells #[.int .i64 0, .int .i64 0, .int .i64 0, .int .i64 0, .int .i64 0, .int .i64 0, .int .i64 0, .int .i64 0, .int .i64 0] 39)).drew R1 (by omega) bn).mono ?_); rintro e w2 ⟨g, rfl, hrm, hb2⟩; have s2 := hb2.size; have hbx := N1.below hb2 (by omega))
            | ((with_reducible refine (toMonitor_any N A n c w.heap.size ms s w1.drew h1.drew (by omega) bn).mono ?_); rintro e w2 ⟨g, rfl, hrm, hb2⟩; have s2 := hb2.size))
        | (go_at_call 24; first
            | ((with_reducible refine (toLink_any l r d w2).mono ?_); rintro e w3 ⟨rfl, hb3⟩; have s3 := hb3.size; have hrm3 := hrm.below hb3 (Nat.le_refl _); have hbx3 := hbx.below hb3 hbx.lt)
            | ((with_reducible refine (toLink_any l r d w2).mono ?_); rintro e w3 ⟨rfl, hb3⟩; have s3 := hb3.size; have hrm3 := hrm.below hb3 (Nat.le_refl _))
            | ((with_reducible refine (toLink_any l r d (w2.alloc (.cells #[.int .i64 0, .int .i64 0, .int .i64 0, .int .i64 0, .int .i64 0, .int .i64 0, .int .i64 0, .int .i64 0, .int .i64 0] 39))).mono ?_); rintro e w3 ⟨rfl, hb3⟩; have s3 := hb3.size; simp only [World.size_alloc] at s3; have hrm3 := (hrm.alloc (Nat.le_refl _) _).below hb3 (by simp); have hbx3 := (MB.new 39 w2 zMD).below hb3 (by simp)))
        | (go_at_call 47; first
            | ((with_reducible refine (bestMode_s N _ n n w2.heap.size ms s x y l r d w3 hrm3 (by omega) (by omega) (by omega) bm ok HB.out).mono ?_); rintro e w4 ⟨rfl, hb4⟩; have s4 := hb4.size; have hbx4 := hbx3.below hb4 hbx3.lt; obtain ⟨z0, z1, z2, z3, z4, z5, z6, z7, z8⟩ := hbx4.nine; simp only [zMD] at z0 z1 z2 z3 z4 z5 z6 z7 z8; obtain ⟨f0, f1, f2, f3, f4, f5, f6, f7, f8⟩ := hbx4.fz)
            | ((with_reducible refine (bestMode_s N _ n n w2.heap.size ms s x y l r d w3 hrm3 (by omega) (by omega) (by omega) bm ok HB.out).mono ?_); rintro e w4 ⟨rfl, hb4⟩; have s4 := hb4.size)
            | ((with_reducible refine (bestMode_s N _ n n w2.heap.size ms s x y l r d (w3.alloc (.cells #[.int .i64 0, .int .i64 0, .int .i64 0, .int .i64 0, .int .i64 0, .int .i64 0, .int .i64 0, .int .i64 0, .int .i64 0] 39)) (hrm3.alloc (by omega) _) (by simp; omega) (by omega) (by omega) bm ok HB.out).mono ?_); rintro e w4 ⟨rfl, hb4⟩; have s4 := hb4.size; simp only [World.size_alloc] at s4; have hbx4 := (MB.new 39 w3 zMD).below hb4 (by simp); obtain ⟨z0, z1, z2, z3, z4, z5, z6, z7, z8⟩ := hbx4.nine; simp only [zMD] at z0 z1 z2 z3 z4 z5 z6 z7 z8; obtain ⟨f0, f1, f2, f3, f4, f5, f6, f7, f8⟩ := hbx4.fz)))) | fail
    all_goals
      rename_i HH
      go_wp2
      go_meet
      first
        | (with_reducible exact ⟨_, rfl, rfl, MB.new 39 _ bm, by omega, HH.2.2⟩)
        | (have HB9 := hbx4.set9 bm; simp only [set9] at HB9; (with_reducible exact ⟨_, rfl, rfl, HB9, by omega, HH.2.2⟩))
  case rest =>
    obtain ⟨gb, rfl, rfl, hb0, hgb, K5⟩ := hcut
    rename World => w5
    have s5 := K5.size
    have hgb5 := hb0.lt
    have g05 := (K5.block _ (by omega)).trans g0
    have g15 := (K5.block _ (by omega)).trans g1
    have h5 := h1.below K5 (by omega)
    have K15 := K1.trans (K5.mono (by omega))
    clear d1 d2 d3 l1 l2 l3 g0 g1 K1 K5 h1
    obtain ⟨d1, d2, d3, _, _, _⟩ := cells3 g05
    go_wp2_with fail
    refine (toMonitor_any N A n c w.heap.size ms s w5 h5 (by omega) bn).mono ?_
    rintro e w6 ⟨g, rfl, hrm, hb6⟩
    have s6 := hb6.size
    have hb06 := hb0.below hb6 hgb5
    have g06 := (hb6.block _ (by omega)).trans g05
    have g16 := (hb6.block _ (by omega)).trans g15
    have h6 := h5.below hb6 (by omega)
    have K6 := K15.trans (hb6.mono (by omega))
    clear d1 d2 d3 g05 g15 hb0 h5 K15 hb6
    have gx := heap_alloc_new w6 (.cells #[.string N, .slice (some ⟨g, 0, none⟩) n n, .int .i64 s] 58)
    have hbx := (Below.refl w6.heap.size w6).alloc (Nat.le_refl _) (.cells #[.string N, .slice (some ⟨g, 0, none⟩) n n, .int .i64 s] 58)
    have s7 : (w6.alloc (.cells #[.string N, .slice (some ⟨g, 0, none⟩) n n, .int .i64 s] 58)).heap.size = w6.heap.size + 1 := by simp
    go_wp2_with fail
    generalize w6.alloc (.cells #[.string N, .slice (some ⟨g, 0, none⟩) n n, .int .i64 s] 58) = w7 at gx hbx s7 ⊢
    have hrm7 := hrm.below hbx (Nat.le_refl _)
    have g17 := (hbx.block _ (by omega)).trans g16
    have g07 := (hbx.block _ (by omega)).trans g06
    have hb07 := hb06.below hbx hb06.lt
    have K7 := K6.trans (hbx.mono (by omega))
    have h7 := h6.below hbx (by omega)
    obtain ⟨d1, d2, d3, _, _, _⟩ := cells3 gx
    obtain ⟨l1, l2, l3, _, _, _⟩ := cells3 g17
    have lm : w6.heap.size < w7.heap.size := by omega
    have ll : w.heap.size + 1 < w7.heap.size := by omega
    clear hrm g16 g06 hb06 hbx K6 h6 s7
    go_cut [13, 14] (fun p v wr => ∃ gb2 : Nat, p = .pointer (some ⟨gb2, 0, none⟩) ∧ v = .bool ok ∧ MB 39 wr gb2 bm ∧ w7.heap.size ≤ gb2 ∧ Below w7.heap.size w7 wr)
    case first =>
      have N1 : MB 39 (w7.alloc (.cells #[.int .i64 0, .int .i64 0, .int .i64 0, .int .i64 0, .int .i64 0, .int .i64 0, .int .i64 0, .int .i64 0, .int .i64 0] 39)).drew w7.heap.size zMD := MB.new 39 w7 zMD
      have R1 : RM (w7.alloc (.cells #[.int .i64 0, .int .i64 0, .int .i64 0, .int .i64 0, .int .i64 0, .int .i64 0, .int .i64 0, .int .i64 0, .int .i64 0] 39)).drew w6.heap.size (some ⟨g, 0, none⟩) n ms := (hrm7.alloc (by omega) _).drew
      have R0 : RM w7.drew w6.heap.size (some ⟨g, 0, none⟩) n ms := hrm7.drew
      have Z1 : (w7.alloc (.cells #[.int .i64 0, .int .i64 0, .int .i64 0, .int .i64 0, .int .i64 0, .int .i64 0, .int .i64 0, .int .i64 0, .int .i64 0] 39)).drew.heap.size = w7.heap.size + 1 := by simp
      have Z1' : w7.drew.heap.size = w7.heap.size := rfl
      have HS0 : (w7.drew.cell? ⟨w6.heap.size, 0, none⟩ = some (.string N) ∧ w7.drew.cell? ⟨w6.heap.size, 1, none⟩ = some (.slice (some ⟨g, 0, none⟩) n n) ∧ w7.drew.cell? ⟨w6.heap.size, 2, none⟩ = some (.int .i64 s)) ∧ (w7.drew.cell? ⟨w.heap.size + 1, 0, none⟩ = some (.int .i64 l) ∧ w7.drew.cell? ⟨w.heap.size + 1, 1, none⟩ = some (.int .i64 r) ∧ w7.drew.cell? ⟨w.heap.size + 1, 2, none⟩ = some (.int .i64 d)) ∧ Below w7.heap.size w7 w7.drew := ⟨⟨d1, d2, d3⟩, ⟨l1, l2, l3⟩, (Below.refl _ _).drew⟩
      have HS1 : ((w7.alloc (.cells #[.int .i64 0, .int .i64 0, .int .i64 0, .int .i64 0, .int .i64 0, .int .i64 0, .int .i64 0, .int .i64 0, .int .i64 0] 39)).drew.cell? ⟨w6.heap.size, 0, none⟩ = some (.string N) ∧ (w7.alloc (.cells #[.int .i64 0, .int .i64 0, .int .i64 0, .int .i64 0, .int .i64 0, .int .i64 0, .int .i64 0, .int .i64 0, .int .i64 0] 39)).drew.cell? ⟨w6.heap.size, 1, none⟩ = some (.slice (some ⟨g, 0, none⟩) n n) ∧ (w7.alloc (.cells #[.int .i64 0, .int .i64 0, .int .i64 0, .int .i64 0, .int .i64 0, .int .i64 0, .int .i64 0, .int .i64 0, .int .i64 0] 39)).drew.cell? ⟨w6.heap.size, 2, none⟩ = some (.int .i64 s)) ∧ ((w7.alloc (.cells #[.int .i64 0, .int .i64 0, .int .i64 0, .int .i64 0, .int .i64 0, .int .i64 0, .int .i64 0, .int .i64 0, .int .i64 0] 39)).drew.cell? ⟨w.heap.size + 1, 0, none⟩ = some (.int .i64 l) ∧ (w7.alloc (.cells #[.int .i64 0, .int .i64 0, .int .i64 0, .int .i64 0, .int .i64 0, .int .i64 0, .int .i64 0, .int .i64 0, .int .i64 0] 39)).drew.cell? ⟨w.heap.size + 1, 1, none⟩ = some (.int .i64 r) ∧ (w7.alloc (.cells #[.int .i64 0, .int .i64 0, .int .i64 0, .int .i64 0, .int .i64 0, .int .i64 0, .int .i64 0, .int .i64 0, .int .i64 0] 39)).drew.cell? ⟨w.heap.size + 1, 2, none⟩ = some (.int .i64 d)) ∧ Below w7.heap.size w7 (w7.alloc (.cells #[.int .i64 0, .int .i64 0, .int .i64 0, .int .i64 0, .int .i64 0, .int .i64 0, .int .i64 0, .int .i64 0, .int .i64 0] 39)).drew := keepBa lm ll _ HS0
      first | go_must (go_region_held3 (fun w' => (w'.cell? ⟨w6.heap.size, 0, none⟩ = some (.string N) ∧ w'.cell? ⟨w6.heap.size, 1, none⟩ = some (.slice (some ⟨g, 0, none⟩) n n) ∧ w'.cell? ⟨w6.heap.size, 2, none⟩ = some (.int .i64 s)) ∧ (w'.cell? ⟨w.heap.size + 1, 0, none⟩ = some (.int .i64 l) ∧ w'.cell? ⟨w.heap.size + 1, 1, none⟩ = some (.int .i64 r) ∧ w'.cell? ⟨w.heap.size + 1, 2, none⟩ = some (.int .i64 d)) ∧ Below w7.heap.size w7 w')
        (first | (with_reducible assumption) | (with_reducible exact keepBa lm ll _ ‹_ ∧ _›) | (with_reducible exact keepBr lm ll (by omega) _ ‹_ ∧ _›) | (with_reducible exact keepB9 lm ll (by omega) bm ‹_ ∧ _›) | (with_reducible exact keepBc lm ll ‹_› ‹_ ∧ _›))
        (first
          | (go_at_call 24; first
              | ((with_reducible refine (toLink_any l r d (w7.alloc (.cells #[.int .i64 0, .int .i64 0, .int .i64 0, .int .i64 0, .int .i64 0, .int .i64 0, .int .i64 0, .int .i64 0, .int .i64 0] 39)).drew).mono ?_); rintro e w8 ⟨rfl, hb8⟩; have s8 := hb8.size; have hrm8 := R1.below hb8 (by omega); have hbx8 := N1.below hb8 (by omega))
              | ((with_reducible refine (toLink_any l r d w7.drew).mono ?_); rintro e w8 ⟨rfl, hb8⟩; have s8 := hb8.size; have hrm8 := R0.below hb8 (by omega)))
          | (go_at_call 44; first
              | ((with_reducible refine (bestMode_i N _ n n w6.heap.size ms s x y l r d w8 hrm8 (by omega) (by omega) (by omega) bm ok HB.out).mono ?_); rintro e w9 ⟨rfl, hb9⟩; have s9 := hb9.size; have hbx9 := hbx8.below hb9 hbx8.lt; obtain ⟨z0, z1, z2, z3, z4, z5, z6, z7, z8⟩ := hbx9.nine; simp only [zMD] at z0 z1 z2 z3 z4 z5 z6 z7 z8; obtain ⟨f0, f1, f2, f3, f4, f5, f6, f7, f8⟩ := hbx9.fz)
              | ((with_reducible refine (bestMode_i N _ n n w6.heap.size ms s x y l r d w8 hrm8 (by omega) (by omega) (by omega) bm ok HB.out).mono ?_); rintro e w9 ⟨rfl, hb9⟩; have s9 := hb9.size)
              | ((with_reducible refine (bestMode_i N _ n n w6.heap.size ms s x y l r d (w8.alloc (.cells #[.int .i64 0, .int .i64 0, .int .i64 0, .int .i64 0, .int .i64 0, .int .i64 0, .int .i64 0, .int .i64 0, .int .i64 0] 39)) (hrm8.alloc (by omega) _) (by simp; omega) (by omega) (by omega) bm ok HB.out).mono ?_); rintro e w9 ⟨rfl, hb9⟩; have s9 := hb9.size; simp only [World.size_alloc] at s9; have hbx9 := (MB.new 39 w8 zMD).below hb9 (by simp); obtain ⟨z0, z1, z2, z3, z4, z5, z6, z7, z8⟩ := hbx9.nine; simp only [zMD] at z0 z1 z2 z3 z4 z5 z6 z7 z8; obtain ⟨f0, f1, f2, f3, f4, f5, f6, f7, f8⟩ := hbx9.fz)))) | fail
      all_goals
        rename_i HH
        go_wp2
        go_meet
        first
          | (with_reducible exact ⟨_, rfl, rfl, MB.new 39 _ bm, by omega, HH.2.2⟩)
          | (have HB9 := hbx9.set9 bm; simp only [set9] at HB9; (with_reducible exact ⟨_, rfl, rfl, HB9, by omega, HH.2.2⟩))
    case rest =>
      obtain ⟨gb2, rfl, rfl, hc0, hgb2, K10⟩ := hcut
      rename World => w10
      have s10 := K10.size
      have hgc := hc0.lt
      have hb010 := hb07.below K10 (by omega)
      have gx10 := (K10.block _ (by omega)).trans gx
      have g010 := (K10.block _ (by omega)).trans g07
      have h10 := h7.below K10 (by omega)
      have hrm10 := hrm7.below K10 (by omega)
      have K11 := K7.trans (K10.mono (by omega))
      clear d1 d2 d3 l1 l2 l3 gx g07 g17 hb07 K7 K10 h7 hrm7
      obtain ⟨x0, x1, x2, x3, x4, x5, x6, x7, x8⟩ := hc0.nine
      obtain ⟨y0, y1, y2, y3, y4, y5, y6, y7, y8⟩ := hb010.nine
      go_wp2_with fail
      refine (eqMode_t bm w10).mono ?_
      rintro e w11 ⟨rfl, hb11⟩
      have s11 := hb11.size
      have gx11 := (hb11.block _ (by omega)).trans gx10
      have g011 := (hb11.block _ (by omega)).trans g010
      have h11 := h10.below hb11 (by omega)
      have hrm11 := hrm10.below hb11 (by omega)
      have K12 := K11.trans (hb11.mono (by omega))
      clear x0 x1 x2 x3 x4 x5 x6 x7 x8 y0 y1 y2 y3 y4 y5 y6 y7 y8 hc0 hb010 hb11 gx10 g010 h10 hrm10 K11
      obtain ⟨d1, d2, d3, _, _, _⟩ := cells3 g011
      obtain ⟨l1, l2, l3, _, _, _⟩ := cells3 gx11
      cases ok
      all_goals
        go_wp2_with fail
        first | go_must (go_region_held3 (fun w' => (w'.cell? ⟨w.heap.size, 0, none⟩ = some (.string N) ∧ w'.cell? ⟨w.heap.size, 1, none⟩ = some (.slice A n c) ∧ w'.cell? ⟨w.heap.size, 2, none⟩ = some (.int .i64 s)) ∧ (w'.cell? ⟨w6.heap.size, 0, none⟩ = some (.string N) ∧ w'.cell? ⟨w6.heap.size, 1, none⟩ = some (.slice (some ⟨g, 0, none⟩) n n) ∧ w'.cell? ⟨w6.heap.size, 2, none⟩ = some (.int .i64 s)) ∧ Below w11.heap.size w11 w')
          (first | (with_reducible assumption) | exact ⟨⟨d1, d2, d3⟩, ⟨l1, l2, l3⟩, (Below.refl _ _).drew⟩ | exact keepM (by omega) (by omega) ‹_› ‹_ ∧ _›)
          (first | (go_at_call 48; (with_reducible refine (toMonitor_any N A n c w.heap.size ms s w11.drew h11.drew (by simp; omega) bn).mono ?_); rintro e w12 ⟨g2, rfl, hrm2, hb12⟩; have s12 := hb12.size) | (go_at_call 50; (with_reducible refine (eqMonitor_t N _ _ n n n w6.heap.size w12.heap.size ms s w12 (hrm11.drew.below hb12 (by simp; omega)) hrm2 (by simp at s12; omega) (Nat.le_refl _) (by omega)).mono ?_); rintro e w13 ⟨rfl, hb13⟩))) | fail
        rename_i HH
        have bE := HH.2.2
        clear HH hb12 hb13 hrm2 d1 d2 d3 l1 l2 l3
        go_wp2
        go_ret
        exact ⟨rfl, K12.trans (bE.mono (by omega))⟩
end Go.Proofs.Ytmibajhilbfecaa
