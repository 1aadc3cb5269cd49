/- ChooseMode, the program's and the reference's. -/
import Derived.Test.YtmibajhilbfecaaMon2
import Derived.Test.YtmibajhilbfecaaMB
import Derived.Deep.Cut
namespace Go.Proofs.Ytmibajhilbfecaa
open Go.RowKit Go.Deep
set_option maxHeartbeats 2000000 in
set_option maxRecDepth 100000 in
theorem chooseMode_i (N : ByteArray) (A : Option Addr) (n c B : Nat) (ms : List MD) (s x y : Int) (w : World) (h : RM w B A n ms) (hB : B ≤ w.heap.size) (hn : n ≤ 4294967296) (hN : N.size ≤ 4294967296) (r : MD) (ok : Bool) (hr : chooseF N ms s x y = (r, ok)) :
    Calls Try.prog 73 #[.agg #[.string N, .slice A n c, .int .i64 s], .int .i64 x, .int .i64 y] w fun e w' => e = .returned (.tuple #[.agg #[.int .i64 r.c, .int .i64 r.w, .int .i64 r.hf, .int .i64 r.hs, .int .i64 r.hb, .int .i64 r.h, .int .i64 r.vf, .int .i64 r.vs, .int .i64 r.vb], .bool ok]) ∧ Below w.heap.size w w' := by
  obtain ⟨w0, hw0⟩ : ∃ w0, w0 = (w.alloc (.cells #[.string N, .slice A n c, .int .i64 s] 58)).alloc (.cells #[.int .i64 0, .int .i64 0, .int .i64 0, .int .i64 0, .int .i64 0, .int .i64 0, .int .i64 0, .int .i64 0, .int .i64 0] 39) := ⟨_, rfl⟩
  have K0 : Below w.heap.size w w0 := by rw [hw0]; exact ((Below.refl w.heap.size w).alloc (Nat.le_refl _) _).alloc (by simp) _
  have hs0 : w0.heap.size = w.heap.size + 2 := by rw [hw0]; simp
  have G1 : MB 39 w0 (w.heap.size + 1) zMD := by
    rw [hw0]
    have := MB.new 39 (w.alloc (.cells #[.string N, .slice A n c, .int .i64 s] 58)) zMD
    rw [World.size_alloc] at this
    exact this
  have G0 : w0.heap[w.heap.size]? = some (.cells #[.string N, .slice A n c, .int .i64 s] 58) := by rw [hw0, Below.heap_alloc _ _ _ (by simp), heap_alloc_new]
  have h0 := h.below K0 hB
  have hl := h.len
  have HR := Lib.hid hr
  clear hr
  go_enter Try.func73, Try.ntmps73
  go_wp2_with fail
  rw [← hw0]
  clear hw0
  refine (monitorOk_i N A n c B ms s w0 h0 (by omega) hn hN).mono ?_
  cases hm : monB N ms s
  · have HF : Hid (zMD = r ∧ false = ok) := Lib.hid (by have := HR.out; simpa [chooseF, hm] using this)
    obtain ⟨HF1, rfl⟩ := HF.out
    subst HF1
    rintro e w1 ⟨rfl, hb1⟩
    have g1 := G1.below hb1 (by omega)
    have K1 := K0.trans (hb1.mono (by omega))
    obtain ⟨f0, f1, f2, f3, f4, f5, f6, f7, f8⟩ := g1.fz
    obtain ⟨z0, z1, z2, z3, z4, z5, z6, z7, z8⟩ := g1.nine
    simp only [zMD] at z0 z1 z2 z3 z4 z5 z6 z7 z8
    have HX := Lib.hid (g1.set9 zMD).nine
    clear hb1 hm G0 G1 K0 g1
    go_wp2
    obtain ⟨x0, x1, x2, x3, x4, x5, x6, x7, x8⟩ := HX.out
    simp only [set9, zMD] at x0 x1 x2 x3 x4 x5 x6 x7 x8
    refine bodyPost_ret (v := .tuple #[.agg #[.int .i64 zMD.c, .int .i64 zMD.w, .int .i64 zMD.hf, .int .i64 zMD.hs, .int .i64 zMD.hb, .int .i64 zMD.h, .int .i64 zMD.vf, .int .i64 zMD.vs, .int .i64 zMD.vb], .bool false]) (by simp [results, Try.results73, go_sem, zMD, x0, x1, x2, x3, x4, x5, x6, x7, x8]) rfl ⟨rfl, ?_⟩
    exact below_set9 K1 (by omega) zMD
  · obtain ⟨_, hn4, _, _, hmo⟩ := monB_t.1 hm
    have hn1 : 0 < n := by omega
    have HF : Hid (chG x y (ms.drop 0) (mat ms 0) = r ∧ true = ok) := Lib.hid (by have := HR.out; simpa [chooseF, hm] using this)
    have HMO := Lib.hid (show ∀ j, j < n → modeB (mat ms j) = true from fun j hj => hmo _ (mat_mem (by omega)))
    obtain ⟨b, off, rfl, hb, _⟩ := h0.mem hn1
    rintro e w1 ⟨rfl, hb1⟩
    have g1 := G1.below hb1 (by omega)
    have hs1 := hb1.size
    have K1 := K0.trans (hb1.mono (by omega))
    have g0 := (hb1.block w.heap.size (by omega)).trans G0
    have h1 := h0.below hb1 (by omega)
    obtain ⟨b', off', he, _, hc⟩ := h1.at_ hn1
    simp only [Option.some.injEq, Addr.mk.injEq, and_true] at he
    obtain ⟨rfl, rfl⟩ := he
    rw [Nat.zero_mul, Nat.add_zero] at hc
    clear hb1 hm hmo G0 G1 K0 HR h0
    obtain ⟨m0, hm0⟩ : ∃ m0, m0 = mat ms 0 := ⟨_, rfl⟩
    have hb0 := HMO.out 0 hn1
    rw [← hm0] at hc HF hb0
    have HM0 := Lib.hid hm0
    clear hm0
    obtain ⟨y0, y1, y2, y3, y4, y5, y6, y7, y8⟩ := hc.nine
    obtain ⟨d1, d2, d3, _, _, _⟩ := cells3 g0
    have D2 : ∀ o, (w1.alloc o).cell? ⟨w.heap.size, 1, none⟩ = some (.slice (some ⟨b, off, none⟩) n c) := fun o => (World.cell?_alloc_lt w1 o ⟨w.heap.size, 1, none⟩ (by show w.heap.size < _; omega)).trans d2
    have hi2 : (0 : Int) < (n : Int) := by omega
    have g2 := MB.new 39 w1 m0
    have g12 := g1.alloc (.cells #[.int .i64 m0.c, .int .i64 m0.w, .int .i64 m0.hf, .int .i64 m0.hs, .int .i64 m0.hb, .int .i64 m0.h, .int .i64 m0.vf, .int .i64 m0.vs, .int .i64 m0.vb] 39)
    have K2 := K1.alloc (by omega) (.cells #[.int .i64 m0.c, .int .i64 m0.w, .int .i64 m0.hf, .int .i64 m0.hs, .int .i64 m0.hb, .int .i64 m0.h, .int .i64 m0.vf, .int .i64 m0.vs, .int .i64 m0.vb] 39)
    go_wp2_with fail
    clear y0 y1 y2 y3 y4 y5 y6 y7 y8 d1 d2 d3 D2 hi2 hc g0 g1
    go_loopw [22] (fun i wr => ∃ k : Nat, k ≤ n ∧ i = .int .i64 k ∧ ∃ bm : MD, MB 39 wr w1.heap.size bm ∧ MB 39 wr (w.heap.size + 1) zMD ∧ Hid (modeB bm = true) ∧ Hid (chG x y (ms.drop k) bm = r) ∧ Below w.heap.size w wr ∧ w1.heap.size + 1 ≤ wr.heap.size) (fun i _ => n - (intOf i).toNat)
    case atStart => exact ⟨0, Nat.zero_le _, rfl, m0, g2, g12, Lib.hid hb0, Lib.hid HF.out.1, K2, by simp⟩
    case round =>
      rename World => w3
      obtain ⟨k, hk, rfl, bm, gb, gr, hbm, hch, K3, hs3⟩ := hrel
      clear g2 g12 K2
      by_cases hlt : k < n
      · have h3 := h.below K3 hB
        obtain ⟨b', off', he, _, hc⟩ := h3.at_ hlt
        simp only [Option.some.injEq, Addr.mk.injEq, and_true] at he
        obtain ⟨rfl, rfl⟩ := he
        obtain ⟨m, hm⟩ : ∃ m, m = mat ms k := ⟨_, rfl⟩
        have hmk := HMO.out k hlt
        rw [← hm] at hc hmk
        have HD := Lib.hid (show ms.drop k = m :: ms.drop (k + 1) by rw [hm]; exact drop_mat (by omega))
        clear hm
        obtain ⟨y0, y1, y2, y3, y4, y5, y6, y7, y8⟩ := hc.nine
        have i1 : (0 : Int) ≤ (k : Int) := by omega
        have i2 : (k : Int) < (n : Int) := by omega
        have gx := MB.new 39 w3 m
        have gb4 := gb.alloc (.cells #[.int .i64 m.c, .int .i64 m.w, .int .i64 m.hf, .int .i64 m.hs, .int .i64 m.hb, .int .i64 m.h, .int .i64 m.vf, .int .i64 m.vs, .int .i64 m.vb] 39)
        have gr4 := gr.alloc (.cells #[.int .i64 m.c, .int .i64 m.w, .int .i64 m.hf, .int .i64 m.hs, .int .i64 m.hb, .int .i64 m.h, .int .i64 m.vf, .int .i64 m.vs, .int .i64 m.vb] 39)
        have K4 := K3.alloc (by omega) (.cells #[.int .i64 m.c, .int .i64 m.w, .int .i64 m.hf, .int .i64 m.hs, .int .i64 m.hb, .int .i64 m.h, .int .i64 m.vf, .int .i64 m.vs, .int .i64 m.vb] 39)
        have s4 : (w3.alloc (.cells #[.int .i64 m.c, .int .i64 m.w, .int .i64 m.hf, .int .i64 m.hs, .int .i64 m.hb, .int .i64 m.h, .int .i64 m.vf, .int .i64 m.vs, .int .i64 m.vb] 39)).heap.size = w3.heap.size + 1 := by simp
        go_upto_region 7 with fail
        generalize w3.alloc (.cells #[.int .i64 m.c, .int .i64 m.w, .int .i64 m.hf, .int .i64 m.hs, .int .i64 m.hb, .int .i64 m.h, .int .i64 m.vf, .int .i64 m.vs, .int .i64 m.vb] 39) = w4 at gx gb4 gr4 K4 s4 ⊢
        clear y0 y1 y2 y3 y4 y5 y6 y7 y8 hc h3 gb gr i1 i2
        have hx1 := gx.nine.2.1
        have hx2 := gx.nine.2.2.2.2.2.1
        have hb1' := gb4.nine.2.1
        have hb2' := gb4.nine.2.2.2.2.2.1
        by_cases hxy : m.w = x ∧ m.h = y
        · have HN : Hid (r = m) := Lib.hid (by have h5 := hch.out; rw [HD.out, chG, if_pos hxy] at h5; exact h5.symm)
          have t1 : (m.w == x) = true := by simp [hxy.1]
          have t2 : (m.h == y) = true := by simp [hxy.2]
          obtain ⟨x0, x1, x2, x3, x4, x5, x6, x7, x8⟩ := gx.nine
          obtain ⟨z0, z1, z2, z3, z4, z5, z6, z7, z8⟩ := gr4.nine
          obtain ⟨f0, f1, f2, f3, f4, f5, f6, f7, f8⟩ := gr4.fz
          have HX := Lib.hid (gr4.set9 m).nine
          obtain rfl : true = ok := HF.out.2
          clear hxy hx1 hx2 hb1' hb2' gx gb4 gr4 hmk hbm hch HD
          go_wp2
          obtain ⟨q0, q1, q2, q3, q4, q5, q6, q7, q8⟩ := HX.out
          simp only [set9] at q0 q1 q2 q3 q4 q5 q6 q7 q8
          clear x0 x1 x2 x3 x4 x5 x6 x7 x8 z0 z1 z2 z3 z4 z5 z6 z7 z8 f0 f1 f2 f3 f4 f5 f6 f7 f8
          refine bodyPost_ret (v := .tuple #[.agg #[.int .i64 m.c, .int .i64 m.w, .int .i64 m.hf, .int .i64 m.hs, .int .i64 m.hb, .int .i64 m.h, .int .i64 m.vf, .int .i64 m.vs, .int .i64 m.vb], .bool true]) (by simp [results, Try.results73, go_sem, q0, q1, q2, q3, q4, q5, q6, q7, q8]) rfl ⟨by rw [HN.out], ?_⟩
          exact below_set9 K4 (by omega) m
        · have hno : chG x y (ms.drop (k + 1)) (if bm.w * bm.h < m.w * m.h then m else bm) = r := by have h5 := hch.out; rw [HD.out, chG, if_neg hxy] at h5; exact h5
          obtain ⟨p1, p2⟩ := mode_prod_wrap hmk
          obtain ⟨p3, p4⟩ := mode_prod_wrap hbm.out
          by_cases hgt : bm.w * bm.h < m.w * m.h
          · have HN : Hid (chG x y (ms.drop (k + 1)) m = r) := Lib.hid (by rw [if_pos hgt] at hno; exact hno)
            obtain ⟨x0, x1, x2, x3, x4, x5, x6, x7, x8⟩ := gx.nine
            obtain ⟨z0, z1, z2, z3, z4, z5, z6, z7, z8⟩ := gb4.nine
            obtain ⟨f0, f1, f2, f3, f4, f5, f6, f7, f8⟩ := gb4.fz
            have GB := gb4.set9 m
            have GR := gr4.off (off_set9 w4 w1.heap.size m) (by omega)
            have KB := below_set9 K4 (g := w1.heap.size) (by omega) m
            have SB : w1.heap.size + 1 ≤ (set9 w4 w1.heap.size m).heap.size := by have := (off_set9 w4 w1.heap.size m).size; omega
            have HMK := Lib.hid hmk
            by_cases hx : m.w = x
            · have hy : ¬ m.h = y := fun e => hxy ⟨hx, e⟩
              have t1 : (m.w == x) = true := by simp [hx]
              have t2 : (m.h == y) = false := by simp [hy]
              clear hxy hno gx gb4 gr4 hmk hbm hch HD K4 hx hy
              go_wp2
              go_roundw
              case rel => exact ⟨k + 1, by omega, by go_num, m, GB, GR, HMK, HN, KB, SB⟩
              case measure => simp [intOf]; omega
            · have t1 : (m.w == x) = false := by simp [hx]
              clear hxy hno gx gb4 gr4 hmk hbm hch HD K4 hx
              go_wp2
              go_roundw
              case rel => exact ⟨k + 1, by omega, by go_num, m, GB, GR, HMK, HN, KB, SB⟩
              case measure => simp [intOf]; omega
          · have HN : Hid (chG x y (ms.drop (k + 1)) bm = r) := Lib.hid (by rw [if_neg hgt] at hno; exact hno)
            by_cases hx : m.w = x
            · have hy : ¬ m.h = y := fun e => hxy ⟨hx, e⟩
              have t1 : (m.w == x) = true := by simp [hx]
              have t2 : (m.h == y) = false := by simp [hy]
              clear hxy hno gx hmk hch HD hx hy
              go_wp2
              go_roundw
              case rel => exact ⟨k + 1, by omega, by go_num, bm, gb4, gr4, hbm, HN, K4, by omega⟩
              case measure => simp [intOf]; omega
            · have t1 : (m.w == x) = false := by simp [hx]
              clear hxy hno gx hmk hch HD hx
              go_wp2
              go_roundw
              case rel => exact ⟨k + 1, by omega, by go_num, bm, gb4, gr4, hbm, HN, K4, by omega⟩
              case measure => simp [intOf]; omega
      · obtain rfl : k = n := by omega
        have HN : Hid (r = bm) := Lib.hid (by have h5 := hch.out; rw [List.drop_eq_nil_of_le (by omega), chG] at h5; exact h5.symm)
        obtain ⟨x0, x1, x2, x3, x4, x5, x6, x7, x8⟩ := gb.nine
        obtain ⟨z0, z1, z2, z3, z4, z5, z6, z7, z8⟩ := gr.nine
        obtain ⟨f0, f1, f2, f3, f4, f5, f6, f7, f8⟩ := gr.fz
        have HX := Lib.hid (gr.set9 bm).nine
        obtain rfl : true = ok := HF.out.2
        clear gb gr hbm hch
        go_wp2
        obtain ⟨q0, q1, q2, q3, q4, q5, q6, q7, q8⟩ := HX.out
        simp only [set9] at q0 q1 q2 q3 q4 q5 q6 q7 q8
        clear x0 x1 x2 x3 x4 x5 x6 x7 x8 z0 z1 z2 z3 z4 z5 z6 z7 z8 f0 f1 f2 f3 f4 f5 f6 f7 f8
        refine bodyPost_ret (v := .tuple #[.agg #[.int .i64 bm.c, .int .i64 bm.w, .int .i64 bm.hf, .int .i64 bm.hs, .int .i64 bm.hb, .int .i64 bm.h, .int .i64 bm.vf, .int .i64 bm.vs, .int .i64 bm.vb], .bool true]) (by simp [results, Try.results73, go_sem, q0, q1, q2, q3, q4, q5, q6, q7, q8]) rfl ⟨by rw [HN.out], ?_⟩
        exact below_set9 K3 (by omega) bm
set_option maxHeartbeats 2000000 in
set_option maxRecDepth 100000 in
theorem chooseMode_s (N : ByteArray) (A : Option Addr) (n c B : Nat) (ms : List MD) (s x y : Int) (w : World) (h : RM w B A n ms) (hB : B ≤ w.heap.size) (hn : n ≤ 4294967296) (hN : N.size ≤ 4294967296) (r : MD) (ok : Bool) (hr : chooseF N ms s x y = (r, ok)) :
    Calls Try.prog 77 #[.agg #[.string N, .slice A n c, .int .i64 s], .int .i64 x, .int .i64 y] w fun e w' => e = .returned (.tuple #[.agg #[.int .i64 r.c, .int .i64 r.w, .int .i64 r.hf, .int .i64 r.hs, .int .i64 r.hb, .int .i64 r.h, .int .i64 r.vf, .int .i64 r.vs, .int .i64 r.vb], .bool ok]) ∧ Below w.heap.size w w' := by
  obtain ⟨w0, hw0⟩ : ∃ w0, w0 = (w.alloc (.cells #[.string N, .slice A n c, .int .i64 s] 58)).alloc (.cells #[.int .i64 0, .int .i64 0, .int .i64 0, .int .i64 0, .int .i64 0, .int .i64 0, .int .i64 0, .int .i64 0, .int .i64 0] 39) := ⟨_, rfl⟩
  have K0 : Below w.heap.size w w0 := by rw [hw0]; exact ((Below.refl w.heap.size w).alloc (Nat.le_refl _) _).alloc (by simp) _
  have hs0 : w0.heap.size = w.heap.size + 2 := by rw [hw0]; simp
  have G1 : MB 39 w0 (w.heap.size + 1) zMD := by
    rw [hw0]
    have := MB.new 39 (w.alloc (.cells #[.string N, .slice A n c, .int .i64 s] 58)) zMD
    rw [World.size_alloc] at this
    exact this
  have G0 : w0.heap[w.heap.size]? = some (.cells #[.string N, .slice A n c, .int .i64 s] 58) := by rw [hw0, Below.heap_alloc _ _ _ (by simp), heap_alloc_new]
  have h0 := h.below K0 hB
  have hl := h.len
  have HR := Lib.hid hr
  clear hr
  go_enter Try.func77, Try.ntmps77
  go_wp2_with fail
  rw [← hw0]
  clear hw0
  refine (monitorOk_s N A n c B ms s w0 h0 (by omega) hn hN).mono ?_
  cases hm : monB N ms s
  · have HF : Hid (zMD = r ∧ false = ok) := Lib.hid (by have := HR.out; simpa [chooseF, hm] using this)
    obtain ⟨HF1, rfl⟩ := HF.out
    subst HF1
    rintro e w1 ⟨rfl, hb1⟩
    have g1 := G1.below hb1 (by omega)
    have K1 := K0.trans (hb1.mono (by omega))
    obtain ⟨f0, f1, f2, f3, f4, f5, f6, f7, f8⟩ := g1.fz
    obtain ⟨z0, z1, z2, z3, z4, z5, z6, z7, z8⟩ := g1.nine
    simp only [zMD] at z0 z1 z2 z3 z4 z5 z6 z7 z8
    have HX := Lib.hid (g1.set9 zMD).nine
    clear hb1 hm G0 G1 K0 g1
    go_wp2
    obtain ⟨x0, x1, x2, x3, x4, x5, x6, x7, x8⟩ := HX.out
    simp only [set9, zMD] at x0 x1 x2 x3 x4 x5 x6 x7 x8
    refine bodyPost_ret (v := .tuple #[.agg #[.int .i64 zMD.c, .int .i64 zMD.w, .int .i64 zMD.hf, .int .i64 zMD.hs, .int .i64 zMD.hb, .int .i64 zMD.h, .int .i64 zMD.vf, .int .i64 zMD.vs, .int .i64 zMD.vb], .bool false]) (by simp [results, Try.results77, go_sem, zMD, x0, x1, x2, x3, x4, x5, x6, x7, x8]) rfl ⟨rfl, ?_⟩
    exact below_set9 K1 (by omega) zMD
  · obtain ⟨_, hn4, _, _, hmo⟩ := monB_t.1 hm
    have hn1 : 0 < n := by omega
    have HF : Hid (chG x y (ms.drop 0) (mat ms 0) = r ∧ true = ok) := Lib.hid (by have := HR.out; simpa [chooseF, hm] using this)
    have HMO := Lib.hid (show ∀ j, j < n → modeB (mat ms j) = true from fun j hj => hmo _ (mat_mem (by omega)))
    obtain ⟨b, off, rfl, hb, _⟩ := h0.mem hn1
    rintro e w1 ⟨rfl, hb1⟩
    have g1 := G1.below hb1 (by omega)
    have hs1 := hb1.size
    have K1 := K0.trans (hb1.mono (by omega))
    have g0 := (hb1.block w.heap.size (by omega)).trans G0
    have h1 := h0.below hb1 (by omega)
    obtain ⟨b', off', he, _, hc⟩ := h1.at_ hn1
    simp only [Option.some.injEq, Addr.mk.injEq, and_true] at he
    obtain ⟨rfl, rfl⟩ := he
    rw [Nat.zero_mul, Nat.add_zero] at hc
    clear hb1 hm hmo G0 G1 K0 HR h0
    obtain ⟨m0, hm0⟩ : ∃ m0, m0 = mat ms 0 := ⟨_, rfl⟩
    have hb0 := HMO.out 0 hn1
    rw [← hm0] at hc HF hb0
    have HM0 := Lib.hid hm0
    clear hm0
    obtain ⟨y0, y1, y2, y3, y4, y5, y6, y7, y8⟩ := hc.nine
    obtain ⟨d1, d2, d3, _, _, _⟩ := cells3 g0
    have D2 : ∀ o, (w1.alloc o).cell? ⟨w.heap.size, 1, none⟩ = some (.slice (some ⟨b, off, none⟩) n c) := fun o => (World.cell?_alloc_lt w1 o ⟨w.heap.size, 1, none⟩ (by show w.heap.size < _; omega)).trans d2
    have hi2 : (0 : Int) < (n : Int) := by omega
    have g2 := MB.new 39 w1 m0
    have g12 := g1.alloc (.cells #[.int .i64 m0.c, .int .i64 m0.w, .int .i64 m0.hf, .int .i64 m0.hs, .int .i64 m0.hb, .int .i64 m0.h, .int .i64 m0.vf, .int .i64 m0.vs, .int .i64 m0.vb] 39)
    have K2 := K1.alloc (by omega) (.cells #[.int .i64 m0.c, .int .i64 m0.w, .int .i64 m0.hf, .int .i64 m0.hs, .int .i64 m0.hb, .int .i64 m0.h, .int .i64 m0.vf, .int .i64 m0.vs, .int .i64 m0.vb] 39)
    go_wp2_with fail
    have g02 := (Below.heap_alloc w1 (.cells #[.int .i64 m0.c, .int .i64 m0.w, .int .i64 m0.hf, .int .i64 m0.hs, .int .i64 m0.hb, .int .i64 m0.h, .int .i64 m0.vf, .int .i64 m0.vs, .int .i64 m0.vb] 39) w.heap.size (by omega)).trans g0
    clear y0 y1 y2 y3 y4 y5 y6 y7 y8 d1 d2 d3 D2 hi2 hc g0 g1
    go_loopw [9] (fun i wr => ∃ k : Nat, k ≤ n ∧ i = .int .i64 k ∧ ∃ bm : MD, MB 39 wr w1.heap.size bm ∧ MB 39 wr (w.heap.size + 1) zMD ∧ Hid (modeB bm = true) ∧ Hid (chG x y (ms.drop k) bm = r) ∧ Below w.heap.size w wr ∧ w1.heap.size + 1 ≤ wr.heap.size ∧ wr.heap[w.heap.size]? = some (.cells #[.string N, .slice (some ⟨b, off, none⟩) n c, .int .i64 s] 58)) (fun i _ => n - (intOf i).toNat)
    case atStart => exact ⟨0, Nat.zero_le _, rfl, m0, g2, g12, Lib.hid hb0, Lib.hid HF.out.1, K2, by simp, g02⟩
    case round =>
      rename World => w3
      obtain ⟨k, hk, rfl, bm, gb, gr, hbm, hch, K3, hs3, gm⟩ := hrel
      obtain ⟨_, d2, _, _, _, _⟩ := cells3 gm
      clear g2 g12 K2 g02
      by_cases hlt : k < n
      · have h3 := h.below K3 hB
        obtain ⟨b', off', he, _, hc⟩ := h3.at_ hlt
        simp only [Option.some.injEq, Addr.mk.injEq, and_true] at he
        obtain ⟨rfl, rfl⟩ := he
        obtain ⟨m, hm⟩ : ∃ m, m = mat ms k := ⟨_, rfl⟩
        have hmk := HMO.out k hlt
        rw [← hm] at hc hmk
        have HD := Lib.hid (show ms.drop k = m :: ms.drop (k + 1) by rw [hm]; exact drop_mat (by omega))
        clear hm
        obtain ⟨y0, y1, y2, y3, y4, y5, y6, y7, y8⟩ := hc.nine
        have i1 : (0 : Int) ≤ (k : Int) := by omega
        have i2 : (k : Int) < (n : Int) := by omega
        have gx := MB.new 39 w3 m
        have gb4 := gb.alloc (.cells #[.int .i64 m.c, .int .i64 m.w, .int .i64 m.hf, .int .i64 m.hs, .int .i64 m.hb, .int .i64 m.h, .int .i64 m.vf, .int .i64 m.vs, .int .i64 m.vb] 39)
        have gr4 := gr.alloc (.cells #[.int .i64 m.c, .int .i64 m.w, .int .i64 m.hf, .int .i64 m.hs, .int .i64 m.hb, .int .i64 m.h, .int .i64 m.vf, .int .i64 m.vs, .int .i64 m.vb] 39)
        have K4 := K3.alloc (by omega) (.cells #[.int .i64 m.c, .int .i64 m.w, .int .i64 m.hf, .int .i64 m.hs, .int .i64 m.hb, .int .i64 m.h, .int .i64 m.vf, .int .i64 m.vs, .int .i64 m.vb] 39)
        have gm4 := (Below.heap_alloc w3 (.cells #[.int .i64 m.c, .int .i64 m.w, .int .i64 m.hf, .int .i64 m.hs, .int .i64 m.hb, .int .i64 m.h, .int .i64 m.vf, .int .i64 m.vs, .int .i64 m.vb] 39) w.heap.size (by omega)).trans gm
        have s4 : (w3.alloc (.cells #[.int .i64 m.c, .int .i64 m.w, .int .i64 m.hf, .int .i64 m.hs, .int .i64 m.hb, .int .i64 m.h, .int .i64 m.vf, .int .i64 m.vs, .int .i64 m.vb] 39)).heap.size = w3.heap.size + 1 := by simp
        go_upto_region 8 with fail
        generalize w3.alloc (.cells #[.int .i64 m.c, .int .i64 m.w, .int .i64 m.hf, .int .i64 m.hs, .int .i64 m.hb, .int .i64 m.h, .int .i64 m.vf, .int .i64 m.vs, .int .i64 m.vb] 39) = w4 at gx gb4 gr4 K4 s4 gm4 ⊢
        clear y0 y1 y2 y3 y4 y5 y6 y7 y8 hc h3 gb gr i1 i2 d2 gm
        have hx1 := gx.nine.2.1
        have hx2 := gx.nine.2.2.2.2.2.1
        have hb1' := gb4.nine.2.1
        have hb2' := gb4.nine.2.2.2.2.2.1
        by_cases hxy : m.w = x ∧ m.h = y
        · have HN : Hid (r = m) := Lib.hid (by have h5 := hch.out; rw [HD.out, chG, if_pos hxy] at h5; exact h5.symm)
          have t1 : (m.w == x) = true := by simp [hxy.1]
          have t2 : (m.h == y) = true := by simp [hxy.2]
          obtain ⟨x0, x1, x2, x3, x4, x5, x6, x7, x8⟩ := gx.nine
          obtain ⟨z0, z1, z2, z3, z4, z5, z6, z7, z8⟩ := gr4.nine
          obtain ⟨f0, f1, f2, f3, f4, f5, f6, f7, f8⟩ := gr4.fz
          have HX := Lib.hid (gr4.set9 m).nine
          obtain rfl : true = ok := HF.out.2
          clear hxy hx1 hx2 hb1' hb2' gx gb4 gr4 hmk hbm hch HD
          go_wp2
          obtain ⟨q0, q1, q2, q3, q4, q5, q6, q7, q8⟩ := HX.out
          simp only [set9] at q0 q1 q2 q3 q4 q5 q6 q7 q8
          clear x0 x1 x2 x3 x4 x5 x6 x7 x8 z0 z1 z2 z3 z4 z5 z6 z7 z8 f0 f1 f2 f3 f4 f5 f6 f7 f8
          refine bodyPost_ret (v := .tuple #[.agg #[.int .i64 m.c, .int .i64 m.w, .int .i64 m.hf, .int .i64 m.hs, .int .i64 m.hb, .int .i64 m.h, .int .i64 m.vf, .int .i64 m.vs, .int .i64 m.vb], .bool true]) (by simp [results, Try.results77, go_sem, q0, q1, q2, q3, q4, q5, q6, q7, q8]) rfl ⟨by rw [HN.out], ?_⟩
          exact below_set9 K4 (by omega) m
        · have hno : chG x y (ms.drop (k + 1)) (if bm.w * bm.h < m.w * m.h then m else bm) = r := by have h5 := hch.out; rw [HD.out, chG, if_neg hxy] at h5; exact h5
          obtain ⟨p1, p2⟩ := mode_prod_wrap hmk
          obtain ⟨p3, p4⟩ := mode_prod_wrap hbm.out
          by_cases hgt : bm.w * bm.h < m.w * m.h
          · have HN : Hid (chG x y (ms.drop (k + 1)) m = r) := Lib.hid (by rw [if_pos hgt] at hno; exact hno)
            obtain ⟨x0, x1, x2, x3, x4, x5, x6, x7, x8⟩ := gx.nine
            obtain ⟨z0, z1, z2, z3, z4, z5, z6, z7, z8⟩ := gb4.nine
            obtain ⟨f0, f1, f2, f3, f4, f5, f6, f7, f8⟩ := gb4.fz
            have GB := gb4.set9 m
            have GR := gr4.off (off_set9 w4 w1.heap.size m) (by omega)
            have KB := below_set9 K4 (g := w1.heap.size) (by omega) m
            have GMB := ((off_set9 w4 w1.heap.size m).block w.heap.size (by omega) (by omega)).trans gm4
            have SB : w1.heap.size + 1 ≤ (set9 w4 w1.heap.size m).heap.size := by have := (off_set9 w4 w1.heap.size m).size; omega
            have HMK := Lib.hid hmk
            by_cases hx : m.w = x
            · have hy : ¬ m.h = y := fun e => hxy ⟨hx, e⟩
              have t1 : (m.w == x) = true := by simp [hx]
              have t2 : (m.h == y) = false := by simp [hy]
              clear hxy hno gx gb4 gr4 hmk hbm hch HD K4 hx hy
              go_wp2
              go_roundw
              case rel => exact ⟨k + 1, by omega, by go_num, m, GB, GR, HMK, HN, KB, SB, GMB⟩
              case measure => simp [intOf]; omega
            · have t1 : (m.w == x) = false := by simp [hx]
              clear hxy hno gx gb4 gr4 hmk hbm hch HD K4 hx
              go_wp2
              go_roundw
              case rel => exact ⟨k + 1, by omega, by go_num, m, GB, GR, HMK, HN, KB, SB, GMB⟩
              case measure => simp [intOf]; omega
          · have HN : Hid (chG x y (ms.drop (k + 1)) bm = r) := Lib.hid (by rw [if_neg hgt] at hno; exact hno)
            by_cases hx : m.w = x
            · have hy : ¬ m.h = y := fun e => hxy ⟨hx, e⟩
              have t1 : (m.w == x) = true := by simp [hx]
              have t2 : (m.h == y) = false := by simp [hy]
              clear hxy hno gx hmk hch HD hx hy
              go_wp2
              go_roundw
              case rel => exact ⟨k + 1, by omega, by go_num, bm, gb4, gr4, hbm, HN, K4, by omega, gm4⟩
              case measure => simp [intOf]; omega
            · have t1 : (m.w == x) = false := by simp [hx]
              clear hxy hno gx hmk hch HD hx
              go_wp2
              go_roundw
              case rel => exact ⟨k + 1, by omega, by go_num, bm, gb4, gr4, hbm, HN, K4, by omega, gm4⟩
              case measure => simp [intOf]; omega
      · obtain rfl : k = n := by omega
        have HN : Hid (r = bm) := Lib.hid (by have h5 := hch.out; rw [List.drop_eq_nil_of_le (by omega), chG] at h5; exact h5.symm)
        obtain ⟨x0, x1, x2, x3, x4, x5, x6, x7, x8⟩ := gb.nine
        obtain ⟨z0, z1, z2, z3, z4, z5, z6, z7, z8⟩ := gr.nine
        obtain ⟨f0, f1, f2, f3, f4, f5, f6, f7, f8⟩ := gr.fz
        have HX := Lib.hid (gr.set9 bm).nine
        obtain rfl : true = ok := HF.out.2
        clear gb gr hbm hch
        go_wp2
        obtain ⟨q0, q1, q2, q3, q4, q5, q6, q7, q8⟩ := HX.out
        simp only [set9] at q0 q1 q2 q3 q4 q5 q6 q7 q8
        clear x0 x1 x2 x3 x4 x5 x6 x7 x8 z0 z1 z2 z3 z4 z5 z6 z7 z8 f0 f1 f2 f3 f4 f5 f6 f7 f8
        refine bodyPost_ret (v := .tuple #[.agg #[.int .i64 bm.c, .int .i64 bm.w, .int .i64 bm.hf, .int .i64 bm.hs, .int .i64 bm.hb, .int .i64 bm.h, .int .i64 bm.vf, .int .i64 bm.vs, .int .i64 bm.vb], .bool true]) (by simp [results, Try.results77, go_sem, q0, q1, q2, q3, q4, q5, q6, q7, q8]) rfl ⟨by rw [HN.out], ?_⟩
        exact below_set9 K3 (by omega) bm
end Go.Proofs.Ytmibajhilbfecaa
