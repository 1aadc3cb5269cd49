/- The walk of FnTrained. -/
import Derived.Test.YtmibajhilbfecaaTrLaw
import Derived.Test.YtmibajhilbfecaaDrawC
import Derived.Test.YtmibajhilbfecaaTrain3
import Derived.Test.YtmibajhilbfecaaAt
import Derived.Test.YtmibajhilbfecaaWalks4c
import Derived.Deep.DeepMust
namespace Go.Proofs.Ytmibajhilbfecaa
open Go.RowKit Go.Deep
theorem keepT {W w' w1 : World} {bc bl bx : Nat} {u v : Value} {a1 a2 a3 c1 c2 c3 : Int} (hb : Below w'.heap.size w' w1) (h1 : bc < W.heap.size) (h2 : bl < W.heap.size) (h3 : bx < W.heap.size)
    (h : (w'.cell? ⟨bc, 0, none⟩ = some u ∧ w'.cell? ⟨bc, 1, none⟩ = some v) ∧ (w'.cell? ⟨bl, 0, none⟩ = some (.int .i64 a1) ∧ w'.cell? ⟨bl, 1, none⟩ = some (.int .i64 a2) ∧ w'.cell? ⟨bl, 2, none⟩ = some (.int .i64 a3)) ∧ (w'.cell? ⟨bx, 0, none⟩ = some (.int .i64 c1) ∧ w'.cell? ⟨bx, 1, none⟩ = some (.int .i64 c2) ∧ w'.cell? ⟨bx, 2, none⟩ = some (.int .i64 c3)) ∧ Below W.heap.size W w') :
    (w1.cell? ⟨bc, 0, none⟩ = some u ∧ w1.cell? ⟨bc, 1, none⟩ = some v) ∧ (w1.cell? ⟨bl, 0, none⟩ = some (.int .i64 a1) ∧ w1.cell? ⟨bl, 1, none⟩ = some (.int .i64 a2) ∧ w1.cell? ⟨bl, 2, none⟩ = some (.int .i64 a3)) ∧ (w1.cell? ⟨bx, 0, none⟩ = some (.int .i64 c1) ∧ w1.cell? ⟨bx, 1, none⟩ = some (.int .i64 c2) ∧ w1.cell? ⟨bx, 2, none⟩ = some (.int .i64 c3)) ∧ Below W.heap.size W w1 := by
  obtain ⟨⟨x1, x2⟩, ⟨y1, y2, y3⟩, ⟨z1, z2, z3⟩, k⟩ := h
  have hc := (bcell hb).1
  have hs := k.size
  refine ⟨⟨?_, ?_⟩, ⟨?_, ?_, ?_⟩, ⟨?_, ?_, ?_⟩, k.trans (hb.mono hs)⟩
  all_goals (rw [hc _ _ (by omega)]; assumption)
theorem keepT2 {W w' w1 : World} {bc bl : Nat} {u v : Value} {a1 a2 a3 : Int} (hb : Below w'.heap.size w' w1) (h1 : bc < W.heap.size) (h2 : bl < W.heap.size)
    (h : (w'.cell? ⟨bc, 0, none⟩ = some u ∧ w'.cell? ⟨bc, 1, none⟩ = some v) ∧ (w'.cell? ⟨bl, 0, none⟩ = some (.int .i64 a1) ∧ w'.cell? ⟨bl, 1, none⟩ = some (.int .i64 a2) ∧ w'.cell? ⟨bl, 2, none⟩ = some (.int .i64 a3)) ∧ Below W.heap.size W w') :
    (w1.cell? ⟨bc, 0, none⟩ = some u ∧ w1.cell? ⟨bc, 1, none⟩ = some v) ∧ (w1.cell? ⟨bl, 0, none⟩ = some (.int .i64 a1) ∧ w1.cell? ⟨bl, 1, none⟩ = some (.int .i64 a2) ∧ w1.cell? ⟨bl, 2, none⟩ = some (.int .i64 a3)) ∧ Below W.heap.size W w1 := by
  obtain ⟨⟨x1, x2⟩, ⟨y1, y2, y3⟩, k⟩ := h
  have hc := (bcell hb).1
  have hs := k.size
  refine ⟨⟨?_, ?_⟩, ⟨?_, ?_, ?_⟩, k.trans (hb.mono hs)⟩
  all_goals (rw [hc _ _ (by omega)]; assumption)
theorem lawL_spell (k : Nat) (x : LK) (h : x = lawL k) : wrap64 (2 ^ (k % 3)) = x.ln ∧ 1 + (k : Int) / 3 % 4 = x.rt ∧ (k : Int) / 12 = x.dr := by
  subst h
  refine ⟨?_, ?_, ?_⟩
  · have h : k % 3 = 0 ∨ k % 3 = 1 ∨ k % 3 = 2 := by omega
    rcases h with h | h | h <;> simp only [lawL, h] <;> decide +kernel
  · simp only [lawL]; omega
  · simp only [lawL]; omega
set_option maxRecDepth 10000 in
set_option maxHeartbeats 4000000 in
theorem walk_fnTrained (w : World) (A : Option Addr) (n c : Nat) (zs : List Int) (r0 : RB w w.heap.size A n zs) (hz : BY zs) (_g : n ≤ c) (_i : c ≤ maxLen) :
    Calls Try.prog 3 #[.slice A n c] w fun e w' => e = .returned (.bool true) ∧ Below w.heap.size w w' := by
  by_cases hbig : 1048576 < n
  · go_enter Try.func3, Try.ntmps3
    go_wp2_with (go_at_call 15; refine (big_any _ _ _ _).mono ?_; rintro e w' ⟨rfl, rfl⟩)
    go_ret
    exact ⟨rfl, Below.refl _ _⟩
  · have hn : n ≤ 1048576 := by omega
    go_enter Try.func3, Try.ntmps3
    go_wp2_with (go_at_call 15; refine (big_any _ _ _ _).mono ?_; rintro e w' ⟨rfl, rfl⟩)
    refine (drawCable_any A n c _ zs _ r0 hz (Nat.le_refl _) hn).mono ?_
    rintro e w1 ⟨⟨q, s, Q, S, cq, cs, rfl, hcab, hq, hs⟩, hb1⟩
    have s1 := hb1.size
    have HB1 := Lib.hid hb1
    clear hb1 r0
    have hRC : RC w1 w1.heap.size Q 4 q S 4 s := ⟨hq.ri, hs.ri⟩
    have hbC := (Below.refl w1.heap.size w1).alloc (Nat.le_refl _) (.cells #[.slice Q 4 cq, .slice S 4 cs] 26)
    have GC := heap_alloc_new w1 (.cells #[.slice Q 4 cq, .slice S 4 cs] 26)
    have sC : w1.heap.size + 1 = (w1.alloc (.cells #[.slice Q 4 cq, .slice S 4 cs] 26)).heap.size := by simp
    have hRC2 := hRC.below hbC (Nat.le_refl _)
    go_wp2_with fail
    have hCS : 4 ≤ cs := hs.cap
    obtain ⟨w2, hw2⟩ : ∃ w2, w2 = w1.alloc (.cells #[.slice Q 4 cq, .slice S 4 cs] 26) := ⟨_, rfl⟩
    rw [← hw2] at hbC GC sC hRC2 ⊢
    refine (trainLink_i Q S 4 cq 4 cs w1.heap.size q s w2 hRC2 (by omega) (by omega) (by omega)).mono ?_
    have hend := trained_end hcab
    have hat := fun k hk hw => trained_at hcab (k := k) hk hw
    generalize trainF q s = r at hend hat
    obtain ⟨l, m, ok⟩ := r
    simp only [vTr]
    rintro e w3 ⟨rfl, hb3⟩
    have HEND := Lib.hid hend
    have HAT := Lib.hid hat
    have GC3 := (hb3.block w1.heap.size (by omega)).trans GC
    have s3 := hb3.size
    have K3 := HB1.out.trans ((hbC.mono s1).trans (hb3.mono (by omega)))
    have R3 := hRC2.below hb3 (by omega)
    clear hend hat hw2 hbC hb3 GC hRC hRC2 hq hs
    have hbL := (Below.refl w3.heap.size w3).alloc (Nat.le_refl _) (.cells #[.int .i64 l.ln, .int .i64 l.rt, .int .i64 l.dr] 29)
    have GL := heap_alloc_new w3 (.cells #[.int .i64 l.ln, .int .i64 l.rt, .int .i64 l.dr] 29)
    go_wp2_with fail
    go_loopw [7] (fun i wr => ∃ k : Nat, k ≤ 48 ∧ i = .int .i64 k ∧ wr.heap[w3.heap.size]? = some (.cells #[.int .i64 l.ln, .int .i64 l.rt, .int .i64 l.dr] 29) ∧ Below w3.heap.size w3 wr) (fun i _ => 48 - (intOf i).toNat)
    case atStart => exact ⟨0, by omega, rfl, GL, hbL⟩
    case round =>
      obtain ⟨k, hk, rfl, G4, hb4⟩ := hrel
      clear GL hbL
      have s4 := heap_lt G4
      have R4 := R3.below hb4 (by omega)
      have C4 := (hb4.block w1.heap.size (by omega)).trans GC3
      have K4 := K3.trans (hb4.mono (by omega))
      by_cases hlt : k < 48
      · have hlt' : (k : Int) < 48 := by omega
        obtain ⟨x, hx⟩ : ∃ x, x = lawL k := ⟨_, rfl⟩
        have hat : Hid (linkW q s x.ln x.rt x.dr = true → ok = true ∧ capOf x.ln x.rt x.dr ≤ capOf l.ln l.rt l.dr) := Lib.hid (by rw [hx]; exact HAT.out k hlt)
        obtain ⟨e1, e2, e3⟩ := lawL_spell k x hx
        clear hx
        obtain ⟨b1, b2, _, _⟩ := cells2 C4
        obtain ⟨l1, l2, l3, _, _, _⟩ := cells3 G4
        have D1 : ∀ o, (wr.alloc o).cell? ⟨w1.heap.size, 0, none⟩ = some (.slice Q 4 cq) := fun o => (World.cell?_alloc_lt wr o ⟨w1.heap.size, 0, none⟩ (by show w1.heap.size < _; omega)).trans b1
        have D2 : ∀ o, (wr.alloc o).cell? ⟨w1.heap.size, 1, none⟩ = some (.slice S 4 cs) := fun o => (World.cell?_alloc_lt wr o ⟨w1.heap.size, 1, none⟩ (by show w1.heap.size < _; omega)).trans b2
        have hbX := (Below.refl wr.heap.size wr).alloc (Nat.le_refl _) (.cells #[.int .i64 x.ln, .int .i64 x.rt, .int .i64 x.dr] 29)
        have GX := heap_alloc_new wr (.cells #[.int .i64 x.ln, .int .i64 x.rt, .int .i64 x.dr] 29)
        have RX := R4.below hbX (by omega)
        have CX := (hbX.block w1.heap.size (by omega)).trans C4
        have LX := (hbX.block w3.heap.size (by omega)).trans G4
        have KX := hb4.trans (hbX.mono (by omega))
        have sX : (wr.alloc (.cells #[.int .i64 x.ln, .int .i64 x.rt, .int .i64 x.dr] 29)).heap.size = wr.heap.size + 1 := by simp
        go_wp2_with fail
        generalize wr.alloc (.cells #[.int .i64 x.ln, .int .i64 x.rt, .int .i64 x.dr] 29) = w4 at GX RX CX LX KX sX ⊢
        refine (linkWorks_i Q S 4 cq 4 cs w1.heap.size q s x.ln x.rt x.dr w4 RX (by omega) (by omega) (by omega)).mono ?_
        rintro e w5 ⟨rfl, hb5⟩
        have G5 := (hb5.block wr.heap.size (by omega)).trans GX
        have C5 := (hb5.block w1.heap.size (by omega)).trans CX
        have L5 := (hb5.block w3.heap.size (by omega)).trans LX
        have R5 := RX.below hb5 (by omega)
        have K5 := KX.trans (hb5.mono (by omega))
        have s5 := hb5.size
        clear GX RX CX LX KX hbX hb5 D1 D2 b1 b2 l1 l2 l3 e1 e2 e3 R4 C4 hb4 K4
        obtain ⟨b1, b2, _, _⟩ := cells2 C5
        obtain ⟨l1, l2, l3, _, _, _⟩ := cells3 L5
        obtain ⟨x1, x2, x3, _, _, _⟩ := cells3 G5
        have R5d := R5.drew
        have b1d : w5.drew.cell? ⟨w1.heap.size, 0, none⟩ = some (.slice Q 4 cq) := b1
        have b2d : w5.drew.cell? ⟨w1.heap.size, 1, none⟩ = some (.slice S 4 cs) := b2
        have x1d : w5.drew.cell? ⟨wr.heap.size, 0, none⟩ = some (.int .i64 x.ln) := x1
        have x2d : w5.drew.cell? ⟨wr.heap.size, 1, none⟩ = some (.int .i64 x.rt) := x2
        have x3d : w5.drew.cell? ⟨wr.heap.size, 2, none⟩ = some (.int .i64 x.dr) := x3
        have hsd : w5.drew.heap.size = w5.heap.size := rfl
        cases hw : linkW q s x.ln x.rt x.dr
        · go_wp2_with fail
          have hu : undef = Value.tuple #[] := rfl
          first | go_must (go_region_law (first
            | (go_simp; go_at_call 19; (with_reducible refine (linkWorks_s Q S 4 cq 4 cs w1.heap.size q s x.ln x.rt x.dr w5.drew R5d (by omega) (by omega) (by omega)).mono ?_); rw [hw]; rintro e w6 ⟨rfl, hb6⟩))) | fail
          all_goals
            clear hu
            have hbE : Below w5.heap.size w5 w6 := ((Below.refl w5.heap.size w5).drew).trans hb6
            clear hb6 R5d b1d b2d x1d x2d x3d b1 b2 l1 l2 l3 x1 x2 x3
            go_wp2
            refine ⟨?_, ?_⟩
            · repeat apply Exists.intro
              exact ⟨⟨k + 1, by omega, by go_num, (hbE.block w3.heap.size (by omega)).trans L5, K5.trans (hbE.mono (by omega))⟩, rfl⟩
            · simp [intOf]; omega
        · obtain ⟨hok, hle⟩ := hat.out hw
          subst hok
          have hgt : ¬ capOf l.ln l.rt l.dr < capOf x.ln x.rt x.dr := by omega
          go_wp2_with fail
          first | go_must (go_region_held3 (fun w' => (w'.cell? ⟨w1.heap.size, 0, none⟩ = some (.slice Q 4 cq) ∧ w'.cell? ⟨w1.heap.size, 1, none⟩ = some (.slice S 4 cs)) ∧ (w'.cell? ⟨w3.heap.size, 0, none⟩ = some (.int .i64 l.ln) ∧ w'.cell? ⟨w3.heap.size, 1, none⟩ = some (.int .i64 l.rt) ∧ w'.cell? ⟨w3.heap.size, 2, none⟩ = some (.int .i64 l.dr)) ∧ (w'.cell? ⟨wr.heap.size, 0, none⟩ = some (.int .i64 x.ln) ∧ w'.cell? ⟨wr.heap.size, 1, none⟩ = some (.int .i64 x.rt) ∧ w'.cell? ⟨wr.heap.size, 2, none⟩ = some (.int .i64 x.dr)) ∧ Below w5.heap.size w5 w')
            (first | exact ⟨⟨b1, b2⟩, ⟨l1, l2, l3⟩, ⟨x1, x2, x3⟩, (Below.refl _ _).drew⟩ | exact keepT ‹_› (by omega) (by omega) (by omega) ‹_ ∧ _› | assumption)
            (first | (go_at_call 19; refine (linkWorks_s Q S 4 cq 4 cs w1.heap.size q s x.ln x.rt x.dr _ R5.drew (by simp; omega) (by omega) (by omega)).mono ?_; rw [hw]; rintro e w6 ⟨rfl, hb6⟩) | (go_at_call 20; refine (capacity_i _ _ _ _).mono ?_; rintro e w7 ⟨rfl, hb7⟩))) | fail
          rename_i HH
          have hbE := HH.2.2.2
          clear HH hb6 hb7 b1 b2 l1 l2 l3 x1 x2 x3
          go_wp2
          go_roundw
          case rel => exact ⟨k + 1, by omega, by go_num, (hbE.block w3.heap.size (by omega)).trans L5, K5.trans (hbE.mono (by omega))⟩
          case measure => simp [intOf]; omega
      · obtain rfl : k = 48 := by omega
        have hend := HEND.out
        have hm1 : (1 : Int) ≤ (m : Int) := by omega
        have hm2 : (m : Int) ≤ 48 := by omega
        obtain ⟨b1, b2, _, _⟩ := cells2 C4
        obtain ⟨l1, l2, l3, _, _, _⟩ := cells3 G4
        cases ok
        · go_wp2_with fail
          go_quiet (fail)
          go_wp2
          go_ret
          exact ⟨rfl, K4.trans ⟨rfl, rfl, rfl, Nat.le_refl _, fun _ _ => rfl⟩⟩
        · obtain ⟨hw, hls⟩ := hend.2 rfl
          go_wp2_with fail
          first | go_must (go_region_held3 (fun w' => (w'.cell? ⟨w1.heap.size, 0, none⟩ = some (.slice Q 4 cq) ∧ w'.cell? ⟨w1.heap.size, 1, none⟩ = some (.slice S 4 cs)) ∧ (w'.cell? ⟨w3.heap.size, 0, none⟩ = some (.int .i64 l.ln) ∧ w'.cell? ⟨w3.heap.size, 1, none⟩ = some (.int .i64 l.rt) ∧ w'.cell? ⟨w3.heap.size, 2, none⟩ = some (.int .i64 l.dr)) ∧ Below wr.heap.size wr w')
            (first | exact ⟨⟨b1, b2⟩, ⟨l1, l2, l3⟩, (Below.refl _ _).drew⟩ | exact keepT2 ‹_› (by omega) (by omega) ‹_ ∧ _› | assumption)
            (first | (go_at_call 18; refine (linkWorks_i Q S 4 cq 4 cs w1.heap.size q s l.ln l.rt l.dr _ R4.drew (by simp; omega) (by omega) (by omega)).mono ?_; rw [hw]; rintro e w6 ⟨rfl, hb6⟩) | (go_at_call 21; refine (laneSkews_i Q S 4 cq 4 cs w1.heap.size q s l.ln l.rt l.dr w6 (R4.drew.below hb6 (by simp; omega)) (by have := hb6.size; simp at this; omega) (by omega) (by omega) hCS).mono ?_; rintro e w7 ⟨A7, n7, c7, rfl, ho7, hb7⟩; have hn7 : ((n7 : Int) == l.ln) = true := by (rw [← hls, ← ho7.len]; simp)))) | fail
          rename_i HH
          have hbE := HH.2.2
          clear HH hb6 hb7 ho7 b1 b2 l1 l2 l3
          go_wp2
          go_ret
          exact ⟨rfl, K4.trans (hbE.mono (by omega))⟩
end Go.Proofs.Ytmibajhilbfecaa
