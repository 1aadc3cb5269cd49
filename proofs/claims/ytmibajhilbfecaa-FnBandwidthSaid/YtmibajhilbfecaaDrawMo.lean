/- A drawn monitor: a good one. -/
import Derived.Test.YtmibajhilbfecaaDrawM
import Derived.Test.YtmibajhilbfecaaBest2
import Derived.Deep.RegionLaw
import Derived.Deep.DeepMust
namespace Go.Proofs.Ytmibajhilbfecaa
open Go.RowKit Go.Deep
theorem names_ok : ∀ i, i < 4 → ∃ N : ByteArray, (#[.string { data := #[77] }, .string { data := #[80, 65, 78, 69, 76] }, .string { data := #[65, 66, 67, 68, 69, 70, 71, 72] }, .string { data := #[126, 33] }] : Array Value)[i]? = some (.string N) ∧ ((1 ≤ N.size ∧ N.size ≤ 8) ∧ nameB N = true)
  | 0, _ => ⟨_, rfl, by decide +kernel⟩
  | 1, _ => ⟨_, rfl, by decide +kernel⟩
  | 2, _ => ⟨_, rfl, by decide +kernel⟩
  | 3, _ => ⟨_, rfl, by decide +kernel⟩
theorem OwnM.mono {w : World} {base lo n : Nat} {v : Value} {ms : List MD} (h : OwnM w base v n ms) (hl : lo ≤ base) : OwnM w lo v n ms := by
  obtain ⟨h1, h2 | ⟨g, cap, cur, e, hb, hg, r⟩⟩ := h
  · exact ⟨h1, .inl h2⟩
  · exact ⟨h1, .inr ⟨g, cap, cur, e, by omega, hg, r⟩⟩
theorem OwnM.far {w : World} {base n : Nat} {v : Value} {ms : List MD} (h : OwnM w base v n ms) {p : Addr} (hp : p.block < base) (u : Value) : OwnM (w.setCell p u) base v n ms :=
  h.keep fun g hg _ => Below.heap_setCell _ _ _ _ (by omega)
/-- A drawn monitor: a good one, its modes in memory of its own. -/
def RetMoD (lo : Nat) (w' : World) (e : Ending) : Prop :=
  ∃ (N : ByteArray) (ms : List MD) (A : Option Addr) (c : Nat) (s : Int), e = .returned (.agg #[.string N, .slice A ms.length c, .int .i64 s]) ∧ monB N ms s = true ∧ OwnM w' lo (.slice A ms.length c) ms.length ms
set_option maxHeartbeats 4000000 in
set_option maxRecDepth 20000 in
theorem l18Monitor_any (A : Option Addr) (n c B g : Nat) (zs : List Int) (w : World) (h : RB w B A n zs) (hz : BY zs) (hB : B ≤ g) (hn : n ≤ 1048576) (hc : Cur w g A n c) :
    Calls Try.prog 71 #[.pointer (some ⟨g, 0, none⟩)] w fun e w' => RetMoD (w.heap.size + 1) w' e ∧ Off g (g + 1) w w' := by
  have hgl := hc.lt
  obtain ⟨w0, hw0⟩ : ∃ w0, w0 = (w.alloc (.cells #[.string { data := #[] }, .slice none 0 0, .int .i64 0] 58)).alloc (.cells #[.string { data := #[77] }, .string { data := #[80, 65, 78, 69, 76] }, .string { data := #[65, 66, 67, 68, 69, 70, 71, 72] }, .string { data := #[126, 33] }] 9) := ⟨_, rfl⟩
  have K0 : Below w.heap.size w w0 := by rw [hw0]; exact ((Below.refl w.heap.size w).alloc (Nat.le_refl _) _).alloc (by simp) _
  have s0 : w0.heap.size = w.heap.size + 1 + 1 := by rw [hw0]; simp
  have G1 : w0.heap[w.heap.size + 1]? = some (.cells #[.string { data := #[77] }, .string { data := #[80, 65, 78, 69, 76] }, .string { data := #[65, 66, 67, 68, 69, 70, 71, 72] }, .string { data := #[126, 33] }] 9) := by
    rw [hw0]
    have := heap_alloc_new (w.alloc (.cells #[.string { data := #[] }, .slice none 0 0, .int .i64 0] 58)) (.cells #[.string { data := #[77] }, .string { data := #[80, 65, 78, 69, 76] }, .string { data := #[65, 66, 67, 68, 69, 70, 71, 72] }, .string { data := #[126, 33] }] 9)
    rw [World.size_alloc] at this
    exact this
  have G0 : w0.heap[w.heap.size]? = some (.cells #[.string { data := #[] }, .slice none 0 0, .int .i64 0] 58) := by rw [hw0, Below.heap_alloc _ _ _ (by simp), heap_alloc_new]
  have O0 : Off g (g + 1) w w0 := Off.of_below K0
  have C0 := hc.below K0 hgl
  go_enter Try.func71, Try.ntmps71
  go_wp2_with fail
  rw [← hw0]
  clear hw0
  refine (l18Pick_any A n c B g (w.heap.size + 1) 4 zs _ _ w0 (RV.below h K0 (by omega)) hz hB hn C0 G1 (by omega) (by decide) (by decide) names_ok).mono ?_
  rintro e w1 ⟨⟨N, rfl, hN⟩, C1, o1⟩
  have O1 := O0.trans o1
  have s1 := o1.size
  have g1 := (o1.block w.heap.size (by omega) (by omega)).trans G0
  clear G0 G1 K0 O0 C0 o1
  have kL := (Below.refl w1.heap.size w1).alloc (Nat.le_refl _) (.cells #[.int .i64 0, .int .i64 3, .int .i64 255] 3)
  have hL := own_lit3 w1 0 3 255
  have C2 := C1.below kL (by omega)
  have O2 := O1.then_below (kL.mono (by omega))
  have g2 := (kL.block w.heap.size (by omega)).trans g1
  have s2 : (w1.alloc (.cells #[.int .i64 0, .int .i64 3, .int .i64 255] 3)).heap.size = w1.heap.size + 1 := by simp
  go_wp2_with fail
  refine (l01PickInt_any A n c B g zs _ 3 3 _ _ [0, 3, 255] _ (RV.below h (O2.below (Nat.le_refl _) (by omega)) hB) hz hB hn C2 hL (by omega) (by omega) (by omega)).mono ?_
  rintro e w3 ⟨⟨s, rfl, hs⟩, C3, o3⟩
  have hss : 0 ≤ s ∧ s ≤ 255 := by simp at hs; omega
  have O3 := O2.trans o3
  have s3 := o3.size
  have g3 := (o3.block w.heap.size (by omega) (by omega)).trans g2
  clear kL hL C1 C2 O1 O2 g1 g2 o3 hs
  have kM := (Below.refl w3.heap.size w3).alloc (Nat.le_refl _) (.cells #[.string N, .slice none 0 0, .int .i64 s] 58)
  have m4 := heap_alloc_new w3 (.cells #[.string N, .slice none 0 0, .int .i64 s] 58)
  have C4 := C3.below kM (by omega)
  have O4 := O3.then_below (kM.mono (by omega))
  have g4 := (kM.block w.heap.size (by omega)).trans g3
  have s4 : (w3.alloc (.cells #[.string N, .slice none 0 0, .int .i64 s] 58)).heap.size = w3.heap.size + 1 := by simp
  go_wp2_with fail
  refine (l01Below_any A n c B g zs 4 _ (RV.below h (O4.below (Nat.le_refl _) (by omega)) hB) hz hB hn C4 (by omega) (by omega)).mono ?_
  rintro e w5 ⟨⟨q, rfl, hq⟩, C5, o5⟩
  have O5 := O4.trans o5
  have s5 := o5.size
  have g5 := (o5.block w.heap.size (by omega) (by omega)).trans g4
  have m5 := (o5.block w3.heap.size (by omega) (by omega)).trans m4
  clear kM C3 C4 O3 O4 g3 g4 m4 o5
  obtain ⟨q0, rfl⟩ := Int.eq_ofNat_of_zero_le hq.1
  have hq3 : q0 ≤ 3 := by omega
  clear hq
  obtain ⟨il, hil, hz0, hsz, hby⟩ := info_parts infoMode
  have IL := Lib.hid hil
  have HZ := Lib.hid hz0
  have HS := Lib.hid hsz
  have HY := Lib.hid hby
  have hrb : w.heap.size < w3.heap.size := by omega
  have hgb : g < w3.heap.size := by omega
  have s5' : w3.heap.size + 1 ≤ w5.heap.size := by omega
  clear hil hz0 hsz hby s0 s1 s2 s3 s4 s5
  generalize hp : w3.heap.size = pb at *
  generalize hr0 : w.heap.size = r at *
  go_wp2_with fail
  go_loopw [4] (fun i wr => ∃ k : Nat, i = .int .i64 k ∧ ∃ (v : Value) (F : List MD), F.length + k ≤ 4 ∧ 1 ≤ F.length + k ∧ Hid (∀ m ∈ F, modeB m = true) ∧ OwnM wr (pb + 1) v F.length F ∧ wr.heap[pb]? = some (.cells #[.string N, v, .int .i64 s] 58) ∧ wr.heap[r]? = some (.cells #[.string { data := #[] }, .slice none 0 0, .int .i64 0] 58) ∧ Cur wr g A n c ∧ Off g (g + 1) w wr ∧ pb + 1 ≤ wr.heap.size) (fun i _ => (intOf i).toNat)
  case atStart => exact ⟨q0 + 1, by go_num, .slice none 0 0, [], by simp; omega, by simp, Lib.hid (fun z hz => by cases hz), OwnM.nil, m5, g5, C5, O5, s5'⟩
  case round =>
    obtain ⟨k, rfl, v, F, hF4, hF1, hFm, hown, HP, GR, hcur, hoff, hps⟩ := hrel
    clear C5 O5 g5 m5 s5'
    have hR : RB wr B A n zs := RV.below h (hoff.below (Nat.le_refl _) (by omega)) hB
    by_cases hk : 0 < k
    · have hk' : (0 : Int) < (k : Int) := by omega
      obtain ⟨a1, a2, a3, _, _, _⟩ := cells3 HP
      have RA : RB wr.drew B A n zs := RV.drewN hR 1
      have CA : Cur wr.drew g A n c := hcur
      have hsd : wr.drew.heap.size = wr.heap.size := rfl
      go_wp2_with fail
      first | go_must (go_region_law (first
        | (refine step_append_own_at rfl _ _ _ rfl (pb + 1) 39 il _ 9 72 Try.underlying56 IL.out HZ.out HS.out HY.out (by rfl) (by omega) v F.length _ rfl (own7.alloc _) ⟨w7.heap.size, 0, none⟩ 1 _ [.int .i64 m.c, .int .i64 m.w, .int .i64 m.hf, .int .i64 m.hs, .int .i64 m.hb, .int .i64 m.h, .int .i64 m.vf, .int .i64 m.vs, .int .i64 m.vb] rfl (by rfl) (news_at w7 [.int .i64 m.c, .int .i64 m.w, .int .i64 m.hf, .int .i64 m.hs, .int .i64 m.hb, .int .i64 m.h, .int .i64 m.vf, .int .i64 m.vs, .int .i64 m.vb] 39) (by simp [Value.oneCell']) (by simp only [maxLen]; omega) (by omega) (by simp; omega) ?_; intro v' w8 h2' h3'
           obtain ⟨ho8, hb8⟩ := OwnM.step (m := m) (o := .cells #[.int .i64 m.c, .int .i64 m.w, .int .i64 m.hf, .int .i64 m.hs, .int .i64 m.hb, .int .i64 m.h, .int .i64 m.vf, .int .i64 m.vs, .int .i64 m.vb] 39) own7 hsz7 h2' h3'
           obtain ⟨A', c', rfl⟩ := ho8.slice
           have s8 := hb8.size
           have H8 := (hb8.block pb (by omega)).trans H7
           obtain ⟨u1, u2, u3, _, u5, _⟩ := cells3 H8)
        | (go_simp; go_at_call 93; (with_reducible refine (l16Mode_any A n c B g zs wr.drew RA hz hB hn CA).mono ?_); rintro e w7 ⟨m, hmo, rfl, C7, o7⟩; have s7 := o7.size
           have H7 := (o7.block pb (by omega) (by omega)).trans HP
           have t7 := (cells3 H7).2.1
           have hsz7 : pb + 1 ≤ w7.heap.size := by omega
           have t7a := (World.cell?_alloc_lt w7 (.cells #[.int .i64 m.c, .int .i64 m.w, .int .i64 m.hf, .int .i64 m.hs, .int .i64 m.hb, .int .i64 m.h, .int .i64 m.vf, .int .i64 m.vs, .int .i64 m.vb] 39) ⟨pb, 1, none⟩ (by show pb < _; omega)).trans t7
           have own7 : OwnM w7 (pb + 1) v F.length F := hown.keep fun b hb hlt => o7.block b hlt (by omega)))) | fail
      all_goals
        have H9 := heap_setCell_same (j := 1) H8 (.slice A' (F.length + 1) c')
        have G9 := heap_far ((hb8.block r (by omega)).trans ((o7.block r (by omega) (by omega)).trans GR)) (p := ⟨pb, 1, none⟩) (by simp; omega) (.slice A' (F.length + 1) c')
        have W9 : Below pb w7 (w8.setCell ⟨pb, 1, none⟩ (.slice A' (F.length + 1) c')) := (hb8.mono (by omega)).setCell (by simp) _
        have C9 := C7.below W9 hgb
        have O9 : Off g (g + 1) w (w8.setCell ⟨pb, 1, none⟩ (.slice A' (F.length + 1) c')) := ((hoff.drew).trans o7).then_below (W9.mono (by omega))
        have M9 : OwnM (w8.setCell ⟨pb, 1, none⟩ (.slice A' (F.length + 1) c')) (pb + 1) (.slice A' (F.length + 1) c') (F.length + 1) (F ++ [m]) := ho8.keep fun b hb _ => Below.heap_setCell _ _ _ _ (by simp; omega)
        have HFM : Hid (∀ x ∈ F ++ [m], modeB x = true) := Lib.hid (fun x hx => by rcases List.mem_append.1 hx with h1 | h1; exact hFm.out x h1; rcases List.mem_singleton.1 h1 with rfl; exact hmo)
        clear H8 H7 W9 C7 o7 ho8 hb8 u1 u2 u3 u5 t7 t7a own7 h2' h3' a1 a2 a3 RA CA hown HP GR hcur hoff hR
        obtain ⟨k', rfl⟩ : ∃ k', k = k' + 1 := ⟨k - 1, by omega⟩
        go_wp2
        go_roundw
        case rel => exact ⟨k', by go_num, .slice A' (F.length + 1) c', F ++ [m], by simp; omega, by simp; omega, HFM, by simpa using M9, by simpa using H9, G9, C9, O9, by simp; omega⟩
        case measure => simp [intOf]
    · obtain rfl : k = 0 := by omega
      obtain ⟨A', c', rfl⟩ := hown.slice
      have hmon : monB N F s = true := monB_t.2 ⟨hN.1, ⟨by omega, by omega⟩, hss, hN.2, hFm.out⟩
      have HMON := Lib.hid hmon
      clear hmon
      obtain ⟨a1, a2, a3, _, _, _⟩ := cells3 HP
      obtain ⟨b1, b2, b3, f1, f2, f3⟩ := cells3 GR
      have J1 := heap_setCell_same (j := 0) GR (.string N)
      have J2 := heap_setCell_same (j := 1) J1 (.slice A' F.length c')
      have J3 := heap_setCell_same (j := 2) J2 (.int .i64 s)
      have HJ := Lib.hid (cells3 J3)
      clear J1 J2 J3
      have hrs : r < wr.heap.size := heap_lt GR
      go_wp2
      obtain ⟨j1, j2, j3, _, _, _⟩ := HJ.out
      refine bodyPost_ret (v := .agg #[.string N, .slice A' F.length c', .int .i64 s]) (by simp [results, Try.results71, go_sem, j1, j2, j3]) rfl ⟨⟨N, F, A', c', s, rfl, HMON.out, ?_⟩, ?_⟩
      · exact ((((hown.mono (by omega)).far (by simp; omega) _).far (by simp; omega) _).far (by simp; omega) _)
      · rw [← hr0]
        exact ((hoff.then_below ((Below.refl w.heap.size wr).setCell (by simp) _)).then_below ((Below.refl w.heap.size _).setCell (by simp) _)).then_below ((Below.refl w.heap.size _).setCell (by simp) _)
set_option maxHeartbeats 1000000 in
theorem drawMonitor_any (A : Option Addr) (n c B : Nat) (zs : List Int) (w : World) (h : RB w B A n zs) (hz : BY zs) (hB : B ≤ w.heap.size) (hn : n ≤ 1048576) :
    Calls Try.prog 42 #[.slice A n c] w fun e w' => RetMoD w.heap.size w' e ∧ Below w.heap.size w w' := by
  have G0 := heap_alloc_new w (.cells #[.string { data := #[] }, .slice none 0 0, .int .i64 0] 58)
  have K0 := (Below.refl w.heap.size w).alloc (Nat.le_refl _) (.cells #[.string { data := #[] }, .slice none 0 0, .int .i64 0] 58)
  go_enter Try.func42, Try.ntmps42
  go_wp2_with fail
  refine (l01New_any A n c B zs _ (RV.below h (K0.mono hB) (Nat.le_refl _)) hz (by simp; omega) hn).mono ?_
  rintro e w1 ⟨⟨g, rfl, hg1, hg2, hc1⟩, hb1⟩
  simp only [World.size_alloc] at hg1
  have K1 := K0.trans (hb1.mono (by simp))
  have G1 := (hb1.block w.heap.size (by simp)).trans G0
  go_wp2_with fail
  refine (l18Monitor_any A n c B g zs _ (RV.below h (K1.mono hB) (Nat.le_refl _)) hz (by omega) hn hc1).mono ?_
  rintro e w2 ⟨⟨N, ms, D, cd, s, rfl, hmon, hown⟩, ho2⟩
  have K2 := K1.trans (ho2.below (by omega) (by omega))
  have GR := (ho2.block w.heap.size (by omega) (by omega)).trans G1
  have s2 := ho2.size
  clear K0 K1 G0 G1 hb1 hc1 ho2
  obtain ⟨b1, b2, b3, f1, f2, f3⟩ := cells3 GR
  have J1 := heap_setCell_same (j := 0) GR (.string N)
  have J2 := heap_setCell_same (j := 1) J1 (.slice D ms.length cd)
  have J3 := heap_setCell_same (j := 2) J2 (.int .i64 s)
  have HJ := Lib.hid (cells3 J3)
  clear J1 J2 J3
  go_wp2
  obtain ⟨j1, j2, j3, _, _, _⟩ := HJ.out
  refine bodyPost_ret (v := .agg #[.string N, .slice D ms.length cd, .int .i64 s]) (by simp [results, Try.results42, go_sem, j1, j2, j3]) rfl ⟨⟨N, ms, D, cd, s, rfl, hmon, ?_⟩, ?_⟩
  · exact (((hown.far (by simp; omega) _).far (by simp; omega) _).far (by simp; omega) _).mono (by omega)
  · exact ((K2.setCell (by simp) _).setCell (by simp) _).setCell (by simp) _
end Go.Proofs.Ytmibajhilbfecaa
