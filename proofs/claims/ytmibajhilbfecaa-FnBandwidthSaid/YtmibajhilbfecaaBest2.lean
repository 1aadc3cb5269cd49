/- BestMode, the reference's. Under way. -/
import Derived.Test.YtmibajhilbfecaaBest
import Derived.Deep.RegionLaw
namespace Go.Proofs.Ytmibajhilbfecaa
open Go.RowKit Go.Deep
theorem keepF {W w' w1 : World} {bm b o gl : Nat} {u : Value} {m : MD} {l r d : Int} (hb : Below w'.heap.size w' w1) (h1 : bm < W.heap.size) (h2 : b < W.heap.size) (h3 : gl < W.heap.size)
    (h : w'.cell? ⟨bm, 1, none⟩ = some u ∧ (w'.cell? ⟨b, o, none⟩ = some (.int .i64 m.c) ∧ w'.cell? ⟨b, o + 1, none⟩ = some (.int .i64 m.w) ∧ w'.cell? ⟨b, o + 2, none⟩ = some (.int .i64 m.hf) ∧ w'.cell? ⟨b, o + 3, none⟩ = some (.int .i64 m.hs) ∧ w'.cell? ⟨b, o + 4, none⟩ = some (.int .i64 m.hb) ∧ w'.cell? ⟨b, o + 5, none⟩ = some (.int .i64 m.h) ∧ w'.cell? ⟨b, o + 6, none⟩ = some (.int .i64 m.vf) ∧ w'.cell? ⟨b, o + 7, none⟩ = some (.int .i64 m.vs) ∧ w'.cell? ⟨b, o + 8, none⟩ = some (.int .i64 m.vb)) ∧ (w'.cell? ⟨gl, 0, none⟩ = some (.int .i64 l) ∧ w'.cell? ⟨gl, 1, none⟩ = some (.int .i64 r) ∧ w'.cell? ⟨gl, 2, none⟩ = some (.int .i64 d)) ∧ Below W.heap.size W w') :
    w1.cell? ⟨bm, 1, none⟩ = some u ∧ (w1.cell? ⟨b, o, none⟩ = some (.int .i64 m.c) ∧ w1.cell? ⟨b, o + 1, none⟩ = some (.int .i64 m.w) ∧ w1.cell? ⟨b, o + 2, none⟩ = some (.int .i64 m.hf) ∧ w1.cell? ⟨b, o + 3, none⟩ = some (.int .i64 m.hs) ∧ w1.cell? ⟨b, o + 4, none⟩ = some (.int .i64 m.hb) ∧ w1.cell? ⟨b, o + 5, none⟩ = some (.int .i64 m.h) ∧ w1.cell? ⟨b, o + 6, none⟩ = some (.int .i64 m.vf) ∧ w1.cell? ⟨b, o + 7, none⟩ = some (.int .i64 m.vs) ∧ w1.cell? ⟨b, o + 8, none⟩ = some (.int .i64 m.vb)) ∧ (w1.cell? ⟨gl, 0, none⟩ = some (.int .i64 l) ∧ w1.cell? ⟨gl, 1, none⟩ = some (.int .i64 r) ∧ w1.cell? ⟨gl, 2, none⟩ = some (.int .i64 d)) ∧ Below W.heap.size W w1 := by
  obtain ⟨x0, ⟨y0, y1, y2, y3, y4, y5, y6, y7, y8⟩, ⟨z0, z1, z2⟩, k⟩ := h
  have hc := (bcell hb).1
  have hs := k.size
  refine ⟨?_, ⟨?_, ?_, ?_, ?_, ?_, ?_, ?_, ?_, ?_⟩, ⟨?_, ?_, ?_⟩, k.trans (hb.mono hs)⟩
  all_goals (rw [hc _ _ (by omega)]; assumption)
theorem OwnM.drew {w : World} {base n : Nat} {v : Value} {ms : List MD} (h : OwnM w base v n ms) : OwnM w.drew base v n ms := h
theorem step_append_own_at {P : Program} {ops : Array Oper} {o : Oper} {a : Act} {K : Act → World → Prop} {Q : Exit → Act → World → Prop} {E : Prop} {w : World} (hgd : o.guard = none) (s x : Operand) (t : TypeId)
    (ho : o.op = .call { callee := .builtin .append, args := #[s, x], argTypes := #[t, t] })
    (base : Nat) (e : TypeId) (i : TypeInfo) (z : Value) (size bytes : Nat) (ht : P.underlying t = some (.slice e)) (hi : P.info? e = some i) (hz : i.zero = some z)
    (hsize : i.size = size) (hby : i.bytes = bytes) (hzs : z.cells.size = size) (hsz : 0 < size)
    (v : Value) (n : Nat) (xs : List Value) (hs : a.eval s = v) (hown : w.ownsRow base e size v n xs)
    (ad : Addr) (m c : Nat) (news : List Value) (hx : a.eval x = .slice (some ad) m c) (hl : news.length = m * size) (hnews : ∀ j u, news[j]? = some u → w.cell? (ad.add j) = some u) (h1 : ∀ u ∈ news, u.oneCell' = true)
    (h63 : n + m ≤ maxLen) (hbytes : (n + m) * bytes ≤ 140737488355328) (hbase : base ≤ w.heap.size)
    (h : ∀ v' w', w'.ownsRow base e size v' (n + m) (xs ++ news) → w.grownBy w' v.ownBlock → K (a.put o.dst v') w') :
    if Region.wanted o (yielded ops a.tmps) = true then Oper.wp P o a w K Q else E := by
  rw [if_pos (by simp [Region.wanted, hgd])]
  obtain ⟨v', w', hr, h2, h3, h4, h5⟩ := run_append_own_at (P := P) w base t o.type e i z size bytes ht hi hz hsize hby hzs hsz v n xs hown ad m c news hl hnews h1 h63 hbytes hbase
  unfold Oper.wp execOp
  simp only [ho, resolve, invoke, builtin, Sem.run_bind, Sem.run_pure, Result.andThen_ok, List.map_toArray, List.map_cons, List.map_nil, hs, hx, hr]
  exact h v' w' h2 h3
set_option maxHeartbeats 2000000 in
set_option maxRecDepth 100000 in
theorem bestMode_s (N : ByteArray) (A : Option Addr) (n c B : Nat) (ms : List MD) (s x y l r d : Int) (w : World) (h : RM w B A n ms) (hB : B ≤ w.heap.size) (hn : n ≤ 4294967296) (hN : N.size ≤ 4294967296) (bm : MD) (ok : Bool) (hr : bestF N ms s x y l r d = (bm, ok)) :
    Calls Try.prog 47 #[.agg #[.string N, .slice A n c, .int .i64 s], .int .i64 x, .int .i64 y, .agg #[.int .i64 l, .int .i64 r, .int .i64 d]] w fun e w' => e = .returned (.tuple #[.agg #[.int .i64 bm.c, .int .i64 bm.w, .int .i64 bm.hf, .int .i64 bm.hs, .int .i64 bm.hb, .int .i64 bm.h, .int .i64 bm.vf, .int .i64 bm.vs, .int .i64 bm.vb], .bool ok]) ∧ Below w.heap.size w w' := by
  obtain ⟨w0, hw0⟩ : ∃ w0, w0 = ((w.alloc (.cells #[.string N, .slice A n c, .int .i64 s] 58)).alloc (.cells #[.int .i64 l, .int .i64 r, .int .i64 d] 29)).alloc (.cells #[.int .i64 0, .int .i64 0, .int .i64 0, .int .i64 0, .int .i64 0, .int .i64 0, .int .i64 0, .int .i64 0, .int .i64 0] 39) := ⟨_, rfl⟩
  have K0 : Below w.heap.size w w0 := by rw [hw0]; exact (((Below.refl w.heap.size w).alloc (Nat.le_refl _) _).alloc (by simp) _).alloc (by simp; omega) _
  have hs0 : w0.heap.size = w.heap.size + 1 + 1 + 1 := by rw [hw0]; simp
  have G2 : MB 39 w0 (w.heap.size + 1 + 1) zMD := by
    rw [hw0]
    have := MB.new 39 ((w.alloc (.cells #[.string N, .slice A n c, .int .i64 s] 58)).alloc (.cells #[.int .i64 l, .int .i64 r, .int .i64 d] 29)) zMD
    rw [World.size_alloc, World.size_alloc] at this
    exact this
  have G1 : w0.heap[w.heap.size + 1]? = some (.cells #[.int .i64 l, .int .i64 r, .int .i64 d] 29) := by
    rw [hw0, Below.heap_alloc _ _ _ (by simp)]
    have := heap_alloc_new (w.alloc (.cells #[.string N, .slice A n c, .int .i64 s] 58)) (.cells #[.int .i64 l, .int .i64 r, .int .i64 d] 29)
    rw [World.size_alloc] at this
    exact this
  have G0 : w0.heap[w.heap.size]? = some (.cells #[.string N, .slice A n c, .int .i64 s] 58) := by rw [hw0, Below.heap_alloc _ _ _ (by simp; omega), Below.heap_alloc _ _ _ (by simp), heap_alloc_new]
  have h0 := h.below K0 hB
  have hl := h.len
  have HR := Lib.hid hr
  clear hr
  go_enter Try.func47, Try.ntmps47
  go_wp2_with fail
  rw [← hw0]
  clear hw0
  refine (monitorOk_s N A n c B ms s w0 h0 (by omega) hn hN).mono ?_
  cases hm : monB N ms s
  · have HF : Hid (zMD = bm ∧ false = ok) := Lib.hid (by have := HR.out; simpa [bestF, hm] using this)
    obtain ⟨HF1, rfl⟩ := HF.out
    subst HF1
    rintro e w1 ⟨rfl, hb1⟩
    have gz := G2.below hb1 (by omega)
    have K1 := K0.trans (hb1.mono (by omega))
    clear hb1 hm G0 G1 G2 K0
    obtain ⟨z0, z1, z2, z3, z4, z5, z6, z7, z8⟩ := gz.nine
    simp only [zMD] at z0 z1 z2 z3 z4 z5 z6 z7 z8
    obtain ⟨f0, f1, f2, f3, f4, f5, f6, f7, f8⟩ := gz.fz
    have HX := Lib.hid (gz.set9 zMD).nine
    clear gz
    go_wp2
    obtain ⟨x0, x1, x2, x3, x4, x5, x6, x7, x8⟩ := HX.out
    simp only [set9, zMD] at x0 x1 x2 x3 x4 x5 x6 x7 x8
    refine bodyPost_ret (v := .tuple #[.agg #[.int .i64 zMD.c, .int .i64 zMD.w, .int .i64 zMD.hf, .int .i64 zMD.hs, .int .i64 zMD.hb, .int .i64 zMD.h, .int .i64 zMD.vf, .int .i64 zMD.vs, .int .i64 zMD.vb], .bool false]) (by simp [results, Try.results47, go_sem, zMD, x0, x1, x2, x3, x4, x5, x6, x7, x8]) rfl ⟨rfl, ?_⟩
    exact below_set9 K1 (by omega) zMD
  rintro e w1 ⟨rfl, hb1⟩
  have g0 := (hb1.block _ (by omega)).trans G0
  have g1 := (hb1.block _ (by omega)).trans G1
  have g2 := G2.below hb1 (by omega)
  have K1 := K0.trans (hb1.mono (by omega))
  have hs1 := hb1.size
  have h1 := h0.below hb1 (by omega)
  obtain ⟨d1, d2, d3, _, _, _⟩ := cells3 g0
  obtain ⟨l1, l2, l3, _, _, _⟩ := cells3 g1
  clear hb1 G0 G1 G2 K0 h0
  go_wp2_with fail
  refine (linkOk_s l r d w1).mono ?_
  cases hlk : linkB l r d
  · have HF : Hid (zMD = bm ∧ false = ok) := Lib.hid (by have := HR.out; simpa [bestF, hm, hlk] using this)
    obtain ⟨HF1, rfl⟩ := HF.out
    subst HF1
    rintro e w2 ⟨rfl, hb2⟩
    have gz := g2.below hb2 (by omega)
    have K2 := K1.trans (hb2.mono (by omega))
    clear hb2 hm hlk g0 g1 g2 K1 d1 d2 d3 l1 l2 l3
    obtain ⟨z0, z1, z2, z3, z4, z5, z6, z7, z8⟩ := gz.nine
    simp only [zMD] at z0 z1 z2 z3 z4 z5 z6 z7 z8
    obtain ⟨f0, f1, f2, f3, f4, f5, f6, f7, f8⟩ := gz.fz
    have HX := Lib.hid (gz.set9 zMD).nine
    clear gz
    go_wp2
    obtain ⟨x0, x1, x2, x3, x4, x5, x6, x7, x8⟩ := HX.out
    simp only [set9, zMD] at x0 x1 x2 x3 x4 x5 x6 x7 x8
    refine bodyPost_ret (v := .tuple #[.agg #[.int .i64 zMD.c, .int .i64 zMD.w, .int .i64 zMD.hf, .int .i64 zMD.hs, .int .i64 zMD.hb, .int .i64 zMD.h, .int .i64 zMD.vf, .int .i64 zMD.vs, .int .i64 zMD.vb], .bool false]) (by simp [results, Try.results47, go_sem, zMD, x0, x1, x2, x3, x4, x5, x6, x7, x8]) rfl ⟨rfl, ?_⟩
    exact below_set9 K2 (by omega) zMD
  rintro e w2 ⟨rfl, hb2⟩
  have g02 := (hb2.block _ (by omega)).trans g0
  have g12 := (hb2.block _ (by omega)).trans g1
  have g22 := g2.below hb2 (by omega)
  have K2 := K1.trans (hb2.mono (by omega))
  have hs2 := hb2.size
  have h2 := h1.below hb2 (by omega)
  clear hb2 g0 g1 g2 K1 h1 d1 d2 d3 l1 l2 l3
  obtain ⟨d1, d2, d3, _, _, _⟩ := cells3 g02
  have D2 : ∀ o, (w2.alloc o).cell? ⟨w.heap.size, 1, none⟩ = some (.slice A n c) := fun o => (World.cell?_alloc_lt w2 o ⟨w.heap.size, 1, none⟩ (by show w.heap.size < _; omega)).trans d2
  obtain ⟨il, hil, hz0, hsz, hby⟩ := info_parts infoMode
  have IL := Lib.hid hil
  have HZ := Lib.hid hz0
  have HS := Lib.hid hsz
  have HY := Lib.hid hby
  clear hil hz0 hsz hby
  have HC : Hid (chooseF N (ms.filter (fitB l r d)) s x y = (bm, ok)) := Lib.hid (by have := HR.out; simpa [bestF, hm, hlk] using this)
  have hn4 := (monB_t.1 hm).2.1
  have gF := heap_alloc_new w2 (.cells #[.string N, .slice none 0 0, .int .i64 s] 58)
  have g13 := (Below.heap_alloc w2 (.cells #[.string N, .slice none 0 0, .int .i64 s] 58) _ (by omega)).trans g12
  have g23 := g22.alloc (.cells #[.string N, .slice none 0 0, .int .i64 s] 58)
  have K3 := K2.alloc (by omega) (.cells #[.string N, .slice none 0 0, .int .i64 s] 58)
  have h3 := h2.alloc (by omega) (.cells #[.string N, .slice none 0 0, .int .i64 s] 58)
  have g03 := (Below.heap_alloc w2 (.cells #[.string N, .slice none 0 0, .int .i64 s] 58) _ (by omega)).trans g02
  clear HR hm hlk g02 g12 g22 K2
  go_wp2_with fail
  clear d1 d2 d3 D2
  go_loopw [11] (fun i wr => ∃ k : Nat, k ≤ n ∧ i = .int .i64 k ∧ ∃ (v : Value) (F : List MD), Hid (F = (ms.take k).filter (fitB l r d)) ∧ F.length ≤ k ∧ OwnM wr (w2.heap.size + 1) v F.length F ∧ wr.heap[w2.heap.size]? = some (.cells #[.string N, v, .int .i64 s] 58) ∧ MB 39 wr (w.heap.size + 1 + 1) zMD ∧ wr.heap[w.heap.size + 1]? = some (.cells #[.int .i64 l, .int .i64 r, .int .i64 d] 29) ∧ Below w.heap.size w wr ∧ w2.heap.size + 1 ≤ wr.heap.size ∧ wr.heap[w.heap.size]? = some (.cells #[.string N, .slice A n c, .int .i64 s] 58)) (fun i _ => n - (intOf i).toNat)
  case atStart => exact ⟨0, Nat.zero_le _, rfl, _, [], Lib.hid (by simp), Nat.le_refl _, OwnM.nil, gF, g23, g13, K3, by simp, g03⟩
  case round =>
    rename World => w3
    obtain ⟨k, hk, rfl, v, F, hF, hFk, hown, gf, gr, gl, K4, hs3, gm⟩ := hrel
    clear gF g13 g23 K3 h3 g03
    obtain ⟨d1, d2, d3, _, _, _⟩ := cells3 gm
    by_cases hlt : k < n
    · have h4 := h.below K4 hB
      obtain ⟨b, off, rfl, hb, hc⟩ := h4.at_ hlt
      obtain ⟨m, hmm⟩ : ∃ m, m = mat ms k := ⟨_, rfl⟩
      have hft := filter_take (p := fitB l r d) (show k < ms.length by omega)
      rw [← hmm] at hc hft
      rw [← hF.out] at hft
      have HMM := Lib.hid hmm
      clear hmm
      obtain ⟨y0, y1, y2, y3, y4, y5, y6, y7, y8⟩ := hc.nine
      obtain ⟨l1, l2, l3, _, _, _⟩ := cells3 gl
      have i1 : (0 : Int) ≤ (k : Int) := by omega
      have i2 : (k : Int) < (n : Int) := by omega
      go_wp2_with fail
      first | go_must (go_region_held3 (fun w' => w'.cell? ⟨w.heap.size, 1, none⟩ = some (.slice (some ⟨b, off, none⟩) n c) ∧ (w'.cell? ⟨b, off + k * 9, none⟩ = some (.int .i64 m.c) ∧ w'.cell? ⟨b, off + k * 9 + 1, none⟩ = some (.int .i64 m.w) ∧ w'.cell? ⟨b, off + k * 9 + 2, none⟩ = some (.int .i64 m.hf) ∧ w'.cell? ⟨b, off + k * 9 + 3, none⟩ = some (.int .i64 m.hs) ∧ w'.cell? ⟨b, off + k * 9 + 4, none⟩ = some (.int .i64 m.hb) ∧ w'.cell? ⟨b, off + k * 9 + 5, none⟩ = some (.int .i64 m.h) ∧ w'.cell? ⟨b, off + k * 9 + 6, none⟩ = some (.int .i64 m.vf) ∧ w'.cell? ⟨b, off + k * 9 + 7, none⟩ = some (.int .i64 m.vs) ∧ w'.cell? ⟨b, off + k * 9 + 8, none⟩ = some (.int .i64 m.vb)) ∧ (w'.cell? ⟨w.heap.size + 1, 0, none⟩ = some (.int .i64 l) ∧ w'.cell? ⟨w.heap.size + 1, 1, none⟩ = some (.int .i64 r) ∧ w'.cell? ⟨w.heap.size + 1, 2, none⟩ = some (.int .i64 d)) ∧ Below w3.heap.size w3 w')
        (first | exact ⟨d2, ⟨y0, y1, y2, y3, y4, y5, y6, y7, y8⟩, ⟨l1, l2, l3⟩, (Below.refl _ _).drew⟩ | exact keepF ‹_› (by omega) (by omega) (by omega) ‹_ ∧ _› | assumption)
        (first | (go_at_call 35; refine (fitsLink_s m l r d _).mono ?_; rintro e w5 ⟨rfl, hb5⟩))) | fail
      rename_i HH
      have b35 := HH.2.2.2
      have s5 := b35.size
      have gf5 := (b35.block _ (by omega)).trans gf
      have gr5 := gr.below b35 (by omega)
      have gl5 := (b35.block _ (by omega)).trans gl
      have gm5 := (b35.block _ (by omega)).trans gm
      have hown5 := hown.below b35
      have K5 := K4.trans (b35.mono (by omega))
      clear hown gf gr gl gm K4 HH hb5 b35 d1 d2 d3 l1 l2 l3 y0 y1 y2 y3 y4 y5 y6 y7 y8
      cases hfit : inB (slotsF m l r d) 1 16
      · have HF : Hid (F = (ms.take (k + 1)).filter (fitB l r d)) := Lib.hid (by rw [hft, show fitB l r d m = false from hfit]; simp)
        clear hft hF hc h4
        go_wp2
        go_roundw
        case rel => exact ⟨k + 1, by omega, by go_num, v, F, HF, by omega, hown5, gf5, gr5, gl5, K5, by omega, gm5⟩
        case measure => simp [intOf]; omega
      · have HF : Hid (F ++ [m] = (ms.take (k + 1)).filter (fitB l r d)) := Lib.hid (by rw [hft, show fitB l r d m = true from hfit]; simp)
        clear hft hF
        obtain ⟨t1, t2, t3, _, t5, _⟩ := cells3 gf5
        obtain ⟨d1, d2, d3, _, _, _⟩ := cells3 gm5
        have hc5 : MCel w5 b (off + k * 9) m := by
          obtain ⟨b', off', he, _, hc'⟩ := (h.below K5 hB).at_ hlt
          simp only [Option.some.injEq, Addr.mk.injEq, and_true] at he
          obtain ⟨rfl, rfl⟩ := he
          rwa [← HMM.out] at hc'
        obtain ⟨y0, y1, y2, y3, y4, y5, y6, y7, y8⟩ := hc5.nine
        have EAL : ∀ o, (w5.alloc o).cell? ⟨w2.heap.size, 1, none⟩ = some v := fun o => (World.cell?_alloc_lt w5 o ⟨w2.heap.size, 1, none⟩ (by show w2.heap.size < _; omega)).trans t2
        have HO : OwnM (w5.alloc (.cells #[.int .i64 m.c, .int .i64 m.w, .int .i64 m.hf, .int .i64 m.hs, .int .i64 m.hb, .int .i64 m.h, .int .i64 m.vf, .int .i64 m.vs, .int .i64 m.vb] 39)).drew (w2.heap.size + 1) v F.length F := hown5.alloc _
        have HN : Hid (∀ j u, ([.int .i64 m.c, .int .i64 m.w, .int .i64 m.hf, .int .i64 m.hs, .int .i64 m.hb, .int .i64 m.h, .int .i64 m.vf, .int .i64 m.vs, .int .i64 m.vb] : List Value)[j]? = some u → (w5.alloc (.cells #[.int .i64 m.c, .int .i64 m.w, .int .i64 m.hf, .int .i64 m.hs, .int .i64 m.hb, .int .i64 m.h, .int .i64 m.vf, .int .i64 m.vs, .int .i64 m.vb] 39)).drew.cell? ((⟨w5.heap.size, 0, none⟩ : Addr).add j) = some u) := Lib.hid (news_at w5 [.int .i64 m.c, .int .i64 m.w, .int .i64 m.hf, .int .i64 m.hs, .int .i64 m.hb, .int .i64 m.h, .int .i64 m.vf, .int .i64 m.vs, .int .i64 m.vb] 39)
        have hsz5 : w2.heap.size + 1 ≤ w5.heap.size := by omega
        clear hc5 hc h4
        go_wp2_with fail
        first | go_must (go_region_law (first
          | (refine step_append_own_at rfl _ _ _ rfl (w2.heap.size + 1) 39 il _ 9 72 Try.underlying56 IL.out HZ.out HS.out HY.out (by rfl) (by omega) v F.length _ rfl HO ⟨w5.heap.size, 0, none⟩ 1 _ [.int .i64 m.c, .int .i64 m.w, .int .i64 m.hf, .int .i64 m.hs, .int .i64 m.hb, .int .i64 m.h, .int .i64 m.vf, .int .i64 m.vs, .int .i64 m.vb] rfl (by rfl) HN.out (by simp [Value.oneCell']) (by simp only [maxLen]; omega) (by omega) (by simp; omega) ?_; intro v' w6 h2' h3'; obtain ⟨ho6, hb6⟩ := OwnM.step (m := m) (o := .cells #[.int .i64 m.c, .int .i64 m.w, .int .i64 m.hf, .int .i64 m.hs, .int .i64 m.hb, .int .i64 m.h, .int .i64 m.vf, .int .i64 m.vs, .int .i64 m.vb] 39) hown5.drew hsz5 h2' h3'; have hb6 : Below (w2.heap.size + 1) w5 w6 := ⟨hb6.os, hb6.tape, hb6.output, hb6.size, hb6.block⟩; obtain ⟨A', c', rfl⟩ := ho6.slice; have gf6 := (hb6.block w2.heap.size (by omega)).trans gf5; obtain ⟨u1, u2, u3, _, u5, _⟩ := cells3 gf6))) | fail
        all_goals
          have s6 := hb6.size
          have gf7 := heap_setCell_same (j := 1) gf6 (.slice A' (F.length + 1) c')
          have K7 := (K5.trans (hb6.mono (by omega))).setCell (p := ⟨w2.heap.size, 1, none⟩) (by simp; omega) (.slice A' (F.length + 1) c')
          have gr7 := (gr5.below hb6 (by omega)).below ((Below.refl w2.heap.size w6).setCell (p := ⟨w2.heap.size, 1, none⟩) (by simp) (.slice A' (F.length + 1) c')) (by omega)
          have gl7 := heap_far ((hb6.block _ (by omega)).trans gl5) (p := ⟨w2.heap.size, 1, none⟩) (by simp; omega) (.slice A' (F.length + 1) c')
          have gm7 := heap_far ((hb6.block _ (by omega)).trans gm5) (p := ⟨w2.heap.size, 1, none⟩) (by simp; omega) (.slice A' (F.length + 1) c')
          have ho7 : OwnM (w6.setCell ⟨w2.heap.size, 1, none⟩ (.slice A' (F.length + 1) c')) (w2.heap.size + 1) (.slice A' (F.length + 1) c') (F.length + 1) (F ++ [m]) := ho6.keep fun g hg _ => Below.heap_setCell _ _ _ _ (by simp; omega)
          clear gf6 u1 u2 u3 u5 ho6 hb6 gr5 gl5 K5 gf5 gm5 hown5 HO HN y0 y1 y2 y3 y4 y5 y6 y7 y8 t1 t2 t3 t5 h2' h3' d1 d2 d3 EAL
          go_wp2
          go_roundw
          case rel => exact ⟨k + 1, by omega, by go_num, .slice A' (F.length + 1) c', F ++ [m], HF, by simp; omega, by simpa using ho7, by simpa using gf7, gr7, gl7, K7, by simp; omega, gm7⟩
          case measure => simp [intOf]; omega
    · obtain rfl : k = n := by omega
      have hFF : F = ms.filter (fitB l r d) := by rw [hF.out, List.take_of_length_le (by omega)]
      rw [← hFF] at HC
      obtain ⟨A', c', rfl, hrm⟩ := hown.rm rfl
      obtain ⟨t1, t2, t3, _, _, _⟩ := cells3 gf
      clear hown gf gl hF hFF gm
      go_wp2_with fail
      refine (chooseMode_s N A' F.length c' w3.heap.size F s x y w3 hrm (Nat.le_refl _) (by omega) hN bm ok HC.out).mono ?_
      rintro e w8 ⟨rfl, hb8⟩
      have gr8 := gr.below hb8 (by omega)
      have K8 := K4.trans (hb8.mono (by omega))
      have s8 := hb8.size
      clear gr K4 hb8 t1 t2 t3 hrm
      have gb9 := MB.new 39 w8 bm
      have gr9 := gr8.alloc (.cells #[.int .i64 bm.c, .int .i64 bm.w, .int .i64 bm.hf, .int .i64 bm.hs, .int .i64 bm.hb, .int .i64 bm.h, .int .i64 bm.vf, .int .i64 bm.vs, .int .i64 bm.vb] 39)
      have K9 := K8.alloc (by omega) (.cells #[.int .i64 bm.c, .int .i64 bm.w, .int .i64 bm.hf, .int .i64 bm.hs, .int .i64 bm.hb, .int .i64 bm.h, .int .i64 bm.vf, .int .i64 bm.vs, .int .i64 bm.vb] 39)
      clear gr8 K8
      go_upto_region 10 with fail
      generalize w8.alloc (.cells #[.int .i64 bm.c, .int .i64 bm.w, .int .i64 bm.hf, .int .i64 bm.hs, .int .i64 bm.hb, .int .i64 bm.h, .int .i64 bm.vf, .int .i64 bm.vs, .int .i64 bm.vb] 39) = w9 at gb9 gr9 K9 ⊢
      obtain ⟨x0, x1, x2, x3, x4, x5, x6, x7, x8⟩ := gb9.nine
      obtain ⟨z0, z1, z2, z3, z4, z5, z6, z7, z8⟩ := gr9.nine
      obtain ⟨f0, f1, f2, f3, f4, f5, f6, f7, f8⟩ := gr9.fz
      have HX := Lib.hid (gr9.set9 bm).nine
      clear gb9 gr9
      go_wp2
      obtain ⟨q0, q1, q2, q3, q4, q5, q6, q7, q8⟩ := HX.out
      simp only [set9] at q0 q1 q2 q3 q4 q5 q6 q7 q8
      clear x0 x1 x2 x3 x4 x5 x6 x7 x8 z0 z1 z2 z3 z4 z5 z6 z7 z8 f0 f1 f2 f3 f4 f5 f6 f7 f8
      refine bodyPost_ret (v := .tuple #[.agg #[.int .i64 bm.c, .int .i64 bm.w, .int .i64 bm.hf, .int .i64 bm.hs, .int .i64 bm.hb, .int .i64 bm.h, .int .i64 bm.vf, .int .i64 bm.vs, .int .i64 bm.vb], .bool ok]) (by simp [results, Try.results47, go_sem, q0, q1, q2, q3, q4, q5, q6, q7, q8]) rfl ⟨rfl, ?_⟩
      exact below_set9 K9 (by omega) bm
end Go.Proofs.Ytmibajhilbfecaa
