/- A drawn mode (a good one), a drawn string (printed by tools/dm.py). -/
import Derived.Test.YtmibajhilbfecaaPick
import Derived.Test.YtmibajhilbfecaaDrawC
import Derived.Test.YtmibajhilbfecaaMonL
namespace Go.Proofs.Ytmibajhilbfecaa
open Go.RowKit Go.Deep
theorem own_lit4 (w : World) (a b c d : Int) : Own (w.alloc (.cells #[.int .i64 a, .int .i64 b, .int .i64 c, .int .i64 d] 3)) w.heap.size (w.heap.size + 1) (some ⟨w.heap.size, 0, none⟩) 4 4 [a, b, c, d] :=
  OwnV.new w 3 #[.int .i64 a, .int .i64 b, .int .i64 c, .int .i64 d] (by simp [maxLen])
theorem own_lit3 (w : World) (a b c : Int) : Own (w.alloc (.cells #[.int .i64 a, .int .i64 b, .int .i64 c] 3)) w.heap.size (w.heap.size + 1) (some ⟨w.heap.size, 0, none⟩) 3 3 [a, b, c] :=
  OwnV.new w 3 #[.int .i64 a, .int .i64 b, .int .i64 c] (by simp [maxLen])
/-- Some good mode; but for new blocks, only the cursor's has turned. -/
def RetMd (w : World) (g : Nat) (A : Option Addr) (n c : Nat) (e : Ending) (w' : World) : Prop :=
  ∃ m : MD, modeB m = true ∧ e = .returned (.agg #[.int .i64 m.c, .int .i64 m.w, .int .i64 m.hf, .int .i64 m.hs, .int .i64 m.hb, .int .i64 m.h, .int .i64 m.vf, .int .i64 m.vs, .int .i64 m.vb]) ∧ Cur w' g A n c ∧ Off g (g + 1) w w'
set_option maxHeartbeats 2000000 in
theorem l16Mode_any (A : Option Addr) (n c B g : Nat) (zs : List Int) (w : World) (h : RB w B A n zs) (hz : BY zs) (hB : B ≤ g) (hn : n ≤ 1048576) (hc : Cur w g A n c) :
    Calls Try.prog 93 #[.pointer (some ⟨g, 0, none⟩)] w (RetMd w g A n c) := by
  have hgl := hc.lt
  have g0 := MB.new 39 w zMD
  have k0 := (Below.refl w.heap.size w).alloc (Nat.le_refl _) (.cells #[.int .i64 0, .int .i64 0, .int .i64 0, .int .i64 0, .int .i64 0, .int .i64 0, .int .i64 0, .int .i64 0, .int .i64 0] 39)
  have s0 : (w.alloc (.cells #[.int .i64 0, .int .i64 0, .int .i64 0, .int .i64 0, .int .i64 0, .int .i64 0, .int .i64 0, .int .i64 0, .int .i64 0] 39)).heap.size = w.heap.size + 1 := by simp
  obtain ⟨w0, hw0⟩ : ∃ w0, w0 = w.alloc (.cells #[.int .i64 0, .int .i64 0, .int .i64 0, .int .i64 0, .int .i64 0, .int .i64 0, .int .i64 0, .int .i64 0, .int .i64 0] 39) := ⟨_, rfl⟩
  have hL : Own (w0.alloc (.cells #[.int .i64 1, .int .i64 25, .int .i64 100, .int .i64 1000] 3)) (w.heap.size + 1) (w.heap.size + 1 + 1) (some ⟨w.heap.size + 1, 0, none⟩) 4 4 [1, 25, 100, 1000] := by
    have h4 := own_lit4 w0 1 25 100 1000
    rw [hw0, s0, ← hw0] at h4
    exact h4
  change MB 39 (w.alloc (.cells #[.int .i64 0, .int .i64 0, .int .i64 0, .int .i64 0, .int .i64 0, .int .i64 0, .int .i64 0, .int .i64 0, .int .i64 0] 39)) w.heap.size zMD at g0
  rw [← hw0] at g0 k0 s0
  have k1 := k0.alloc (by omega) (.cells #[.int .i64 1, .int .i64 25, .int .i64 100, .int .i64 1000] 3)
  have g1 := g0.alloc (.cells #[.int .i64 1, .int .i64 25, .int .i64 100, .int .i64 1000] 3)
  have s1 : (w0.alloc (.cells #[.int .i64 1, .int .i64 25, .int .i64 100, .int .i64 1000] 3)).heap.size = w.heap.size + 1 + 1 := by rw [World.size_alloc, s0]
  have O1 : Off g (g + 1) w (w0.alloc (.cells #[.int .i64 1, .int .i64 25, .int .i64 100, .int .i64 1000] 3)) := Off.of_below k1
  have C1 := hc.below k1 hgl
  have R1 : RB (w0.alloc (.cells #[.int .i64 1, .int .i64 25, .int .i64 100, .int .i64 1000] 3)) B A n zs := RV.below h k1 (by omega)
  go_enter Try.func93, Try.ntmps93
  go_wp2_with fail
  rw [← hw0]
  clear hw0
  refine (l01PickInt_any A n c B g zs _ 4 4 _ _ [1, 25, 100, 1000] _ R1 hz hB hn C1 hL (by omega) (by omega) (by omega)).mono ?_
  rintro e v0 ⟨⟨c0, rfl, hc0⟩, C2, o2⟩
  have hcc : 1 ≤ c0 ∧ c0 ≤ 1000000 := by simp at hc0; omega
  have O2 := O1.trans o2
  have G2 := g1.off o2 (by omega)
  have t2 := o2.size
  rw [s1] at t2
  clear hc0 hL C1 R1 O1 o2 g0 g1 k0 k1 s0 s1
  go_wp2_with fail
  refine (l01Below_any A n c B g zs 7 _ (RV.below h (O2.below (Nat.le_refl _) (by omega)) hB) hz hB hn C2 (by omega) (by omega)).mono ?_
  rintro e v1 ⟨⟨w0x, rfl, hw⟩, C3, o3⟩
  have O3 := O2.trans o3
  have G3 := G2.off o3 (by omega)
  have t3 := o3.size
  clear O2 G2 C2 o3
  go_wp2_with fail
  refine (l01Below_any A n c B g zs 4 _ (RV.below h (O3.below (Nat.le_refl _) (by omega)) hB) hz hB hn C3 (by omega) (by omega)).mono ?_
  rintro e v2 ⟨⟨hf0, rfl, hhf⟩, C4, o4⟩
  have O4 := O3.trans o4
  have G4 := G3.off o4 (by omega)
  have t4 := o4.size
  clear O3 G3 C3 o4
  go_wp2_with fail
  refine (l01Below_any A n c B g zs 3 _ (RV.below h (O4.below (Nat.le_refl _) (by omega)) hB) hz hB hn C4 (by omega) (by omega)).mono ?_
  rintro e v3 ⟨⟨hs0, rfl, hhs⟩, C5, o5⟩
  have O5 := O4.trans o5
  have G5 := G4.off o5 (by omega)
  have t5 := o5.size
  clear O4 G4 C4 o5
  go_wp2_with fail
  refine (l01Below_any A n c B g zs 4 _ (RV.below h (O5.below (Nat.le_refl _) (by omega)) hB) hz hB hn C5 (by omega) (by omega)).mono ?_
  rintro e v4 ⟨⟨hb0, rfl, hhb⟩, C6, o6⟩
  have O6 := O5.trans o6
  have G6 := G5.off o6 (by omega)
  have t6 := o6.size
  clear O5 G5 C5 o6
  go_wp2_with fail
  refine (l01Below_any A n c B g zs 6 _ (RV.below h (O6.below (Nat.le_refl _) (by omega)) hB) hz hB hn C6 (by omega) (by omega)).mono ?_
  rintro e v5 ⟨⟨h0, rfl, hh⟩, C7, o7⟩
  have O7 := O6.trans o7
  have G7 := G6.off o7 (by omega)
  have t7 := o7.size
  clear O6 G6 C6 o7
  go_wp2_with fail
  refine (l01Below_any A n c B g zs 4 _ (RV.below h (O7.below (Nat.le_refl _) (by omega)) hB) hz hB hn C7 (by omega) (by omega)).mono ?_
  rintro e v6 ⟨⟨vf0, rfl, hvf⟩, C8, o8⟩
  have O8 := O7.trans o8
  have G8 := G7.off o8 (by omega)
  have t8 := o8.size
  clear O7 G7 C7 o8
  go_wp2_with fail
  refine (l01Below_any A n c B g zs 3 _ (RV.below h (O8.below (Nat.le_refl _) (by omega)) hB) hz hB hn C8 (by omega) (by omega)).mono ?_
  rintro e v7 ⟨⟨vs0, rfl, hvs⟩, C9, o9⟩
  have O9 := O8.trans o9
  have G9 := G8.off o9 (by omega)
  have t9 := o9.size
  clear O8 G8 C8 o9
  go_wp2_with fail
  refine (l01Below_any A n c B g zs 4 _ (RV.below h (O9.below (Nat.le_refl _) (by omega)) hB) hz hB hn C9 (by omega) (by omega)).mono ?_
  rintro e v8 ⟨⟨vb0, rfl, hvb⟩, C10, o10⟩
  have O10 := O9.trans o10
  have G10 := G9.off o10 (by omega)
  have t10 := o10.size
  clear O9 G9 C9 o10
  obtain ⟨m, hm⟩ : ∃ m : MD, m = ⟨c0, 4 + w0x, hf0, 1 + hs0, hb0, 3 + h0, vf0, 1 + vs0, vb0⟩ := ⟨_, rfl⟩
  have HX := Lib.hid (G10.set9 m).nine
  obtain ⟨z0, z1, z2, z3, z4, z5, z6, z7, z8⟩ := G10.nine
  simp only [zMD] at z0 z1 z2 z3 z4 z5 z6 z7 z8
  obtain ⟨f0, f1, f2, f3, f4, f5, f6, f7, f8⟩ := G10.fz
  have hmo : modeB m = true := by subst hm; exact modeB_t.2 ⟨hcc, by simp only; omega, by simp only; omega, by simp only; omega, by simp only; omega, by simp only; omega, by simp only; omega, by simp only; omega, by simp only; omega⟩
  have HM := Lib.hid hm
  clear hm
  have KM := below_set9 (Below.refl w.heap.size v8) (g := w.heap.size) (Nat.le_refl _) m
  have CM := C10.below KM hgl
  have OM := O10.then_below KM
  simp only [set9] at CM OM HX
  clear G10 C10 O10 KM
  go_wp2
  obtain ⟨q0, q1, q2, q3, q4, q5, q6, q7, q8⟩ := HX.out
  obtain rfl := HM.out
  clear z0 z1 z2 z3 z4 z5 z6 z7 z8 f0 f1 f2 f3 f4 f5 f6 f7 f8
  simp only at q0 q1 q2 q3 q4 q5 q6 q7 q8
  refine bodyPost_ret (v := .agg #[.int .i64 c0, .int .i64 (4 + w0x), .int .i64 hf0, .int .i64 (1 + hs0), .int .i64 hb0, .int .i64 (3 + h0), .int .i64 vf0, .int .i64 (1 + vs0), .int .i64 vb0]) (by simp [results, Try.results93, go_sem, q0, q1, q2, q3, q4, q5, q6, q7, q8]) rfl ⟨_, hmo, rfl, CM, OM⟩
/-- A string out of a list of strings in block b. -/
theorem l18Pick_any (A : Option Addr) (n c B g b d : Nat) (zs : List Int) (cs : Array Value) (T : TypeId) (w : World) (h : RB w B A n zs) (hz : BY zs) (hB : B ≤ g) (hn : n ≤ 1048576) (hc : Cur w g A n c)
    (hb : w.heap[b]? = some (.cells cs T (0, 0))) (hbg : g < b) (h1 : 1 ≤ cs.size) (h2 : cs.size ≤ 256) (hs : ∀ i, i < cs.size → ∃ N : ByteArray, cs[i]? = some (.string N) ∧ ((1 ≤ N.size ∧ N.size ≤ 8) ∧ nameB N = true)) :
    Calls Try.prog 92 #[.pointer (some ⟨g, 0, none⟩), .slice (some ⟨b, 0, none⟩) cs.size d] w fun e w' => (∃ N : ByteArray, e = .returned (.string N) ∧ ((1 ≤ N.size ∧ N.size ≤ 8) ∧ nameB N = true)) ∧ Cur w' g A n c ∧ Off g (g + 1) w w' := by
  go_enter Try.func92, Try.ntmps92
  go_wp2_with fail
  refine (l01Below_any A n c B g zs cs.size _ h hz hB hn hc (by omega) (by omega)).mono ?_
  rintro e w1 ⟨⟨x, rfl, bx⟩, hc1, ho1⟩
  obtain ⟨i, rfl⟩ := Int.eq_ofNat_of_zero_le bx.1
  have hi1 : (0 : Int) ≤ (i : Int) := by omega
  have hi2 : (i : Int) < (cs.size : Int) := by omega
  obtain ⟨N, hN, hNo⟩ := hs i (by omega)
  have hb1 := (ho1.block b (heap_lt hb) (by omega)).trans hb
  have hcell : w1.cell? ⟨b, i, none⟩ = some (.string N) := (cell_in hb1 i).trans hN
  clear hb hb1
  go_wp2
  go_ret
  exact ⟨⟨N, rfl, hNo⟩, hc1, ho1⟩
end Go.Proofs.Ytmibajhilbfecaa
