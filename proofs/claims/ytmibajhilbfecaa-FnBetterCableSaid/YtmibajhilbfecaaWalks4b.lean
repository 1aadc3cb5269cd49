/- The walk of FnBetterCable. Under way. -/
import Derived.Test.YtmibajhilbfecaaTrLaw
import Derived.Test.YtmibajhilbfecaaDrawC
import Derived.Test.YtmibajhilbfecaaTrain3
import Derived.Test.YtmibajhilbfecaaAt
import Derived.Test.YtmibajhilbfecaaWalks4c
import Derived.Test.YtmibajhilbfecaaApp2
import Derived.Deep.DeepCutAuto
import Derived.Deep.DeepMust
namespace Go.Proofs.Ytmibajhilbfecaa
open Go.RowKit Go.Deep
theorem step_append_at {P : Program} {ops : Array Oper} {o : Oper} {a : Act} {K : Act → World → Prop} {Q : Exit → Act → World → Prop} {E : Prop} {w : World} (hgd : o.guard = none) (s x : Operand) (t : TypeId)
    (ho : o.op = .call { callee := .builtin .append, args := #[s, x], argTypes := #[t, t] })
    (ht : P.underlying t = some (.slice 3)) (hinfo : (P.info? 3).map (fun i => (i.zero, i.size, i.bytes)) = some (some (.int .i64 0), 1, 8))
    (g : Nat) (A : Option Addr) (n c : Nat) (zs : List Int) (hs : a.eval s = .slice A n c) (hown : Own w g (g + 1) A n c zs)
    (B : Nat) (S : Option Addr) (m d : Nat) (news : List Int) (hx : a.eval x = .slice S m d) (hr : RI w B S m news)
    (hbd : n + m ≤ 1000000000000) (hlo : g ≤ w.heap.size)
    (h : ∀ A' c' w' g', Own w' g' (g' + 1) A' (n + m) c' (zs ++ news) → Off g (g + 1) w w' → (g' = g ∨ w.heap.size ≤ g') → K (a.put o.dst (.slice A' (n + m) c')) w') :
    if Region.wanted o (yielded ops a.tmps) = true then Oper.wp P o a w K Q else E := by
  rw [if_pos (by simp [Region.wanted, hgd])]
  obtain ⟨A', c', w', g', hrun, h2, h3, h4⟩ := run_append_at (P := P) w 3 g t o.type (.int .i64 0) 8 ht hinfo rfl A n c (zs.map vInt) hown B S m d (news.map vInt) hr (oneCell_vInt _) (by simp only [maxLen]; omega) (by omega) hlo
  unfold Oper.wp execOp
  simp only [ho, resolve, invoke, builtin, Sem.run_bind, Sem.run_pure, Result.andThen_ok, List.map_toArray, List.map_cons, List.map_nil, hs, hx, hrun]
  exact h A' c' w' g' (by rw [← List.map_append] at h2; exact h2) h3 h4
section
variable {W w' w1 : World} {bc : Nat} {u v : Value}
theorem keepA (h1 : bc < W.heap.size) (o : Obj) (h : w'.cell? ⟨bc, 0, none⟩ = some u ∧ w'.cell? ⟨bc, 1, none⟩ = some v ∧ Below W.heap.size W w') :
    (w'.alloc o).cell? ⟨bc, 0, none⟩ = some u ∧ (w'.alloc o).cell? ⟨bc, 1, none⟩ = some v ∧ Below W.heap.size W (w'.alloc o) := by
  obtain ⟨x1, x2, k⟩ := h
  have hs := k.size
  exact ⟨(World.cell?_alloc_lt w' o ⟨bc, 0, none⟩ (by show bc < _; omega)).trans x1, (World.cell?_alloc_lt w' o ⟨bc, 1, none⟩ (by show bc < _; omega)).trans x2, k.alloc hs o⟩
theorem keepO {g : Nat} (h1 : bc < W.heap.size) (hg : W.heap.size ≤ g) (hb : Off g (g + 1) w' w1) (h : w'.cell? ⟨bc, 0, none⟩ = some u ∧ w'.cell? ⟨bc, 1, none⟩ = some v ∧ Below W.heap.size W w') :
    w1.cell? ⟨bc, 0, none⟩ = some u ∧ w1.cell? ⟨bc, 1, none⟩ = some v ∧ Below W.heap.size W w1 := by
  obtain ⟨x1, x2, k⟩ := h
  have hs := k.size
  have hB := hb.below hg hs
  exact ⟨(hB.cell (p := ⟨bc, 0, none⟩) h1).trans x1, (hB.cell (p := ⟨bc, 1, none⟩) h1).trans x2, k.trans hB⟩
theorem keepR {o : Obj} (h1 : bc < W.heap.size) (hs : W.heap.size ≤ w'.heap.size) (o' : Obj) (h : (w'.alloc o).cell? ⟨bc, 0, none⟩ = some u ∧ (w'.alloc o).cell? ⟨bc, 1, none⟩ = some v ∧ Below W.heap.size W (w'.alloc o)) :
    (w'.alloc o').cell? ⟨bc, 0, none⟩ = some u ∧ (w'.alloc o').cell? ⟨bc, 1, none⟩ = some v ∧ Below W.heap.size W (w'.alloc o') := by
  obtain ⟨x1, x2, k⟩ := h
  rw [World.cell?_alloc_lt w' o ⟨bc, 0, none⟩ (by show bc < _; omega)] at x1
  rw [World.cell?_alloc_lt w' o ⟨bc, 1, none⟩ (by show bc < _; omega)] at x2
  refine ⟨(World.cell?_alloc_lt w' o' ⟨bc, 0, none⟩ (by show bc < _; omega)).trans x1, (World.cell?_alloc_lt w' o' ⟨bc, 1, none⟩ (by show bc < _; omega)).trans x2, k.os, k.tape, k.output, by simp; omega, fun j hj => ?_⟩
  rw [← k.block j hj, Below.heap_alloc _ _ _ (by omega), Below.heap_alloc _ _ _ (by omega)]
theorem keepS {p : Addr} {x : Value} (h1 : bc < W.heap.size) (hp : W.heap.size ≤ p.block) (h : w'.cell? ⟨bc, 0, none⟩ = some u ∧ w'.cell? ⟨bc, 1, none⟩ = some v ∧ Below W.heap.size W w') :
    (w'.setCell p x).cell? ⟨bc, 0, none⟩ = some u ∧ (w'.setCell p x).cell? ⟨bc, 1, none⟩ = some v ∧ Below W.heap.size W (w'.setCell p x) := by
  obtain ⟨x1, x2, k⟩ := h
  have hB := (Below.refl W.heap.size w').setCell hp x
  exact ⟨(hB.cell (p := ⟨bc, 0, none⟩) h1).trans x1, (hB.cell (p := ⟨bc, 1, none⟩) h1).trans x2, k.setCell hp x⟩
end
theorem own_lt {w : World} {g n c : Nat} {A : Option Addr} {zs : List Int} (h : Own w g (g + 1) A n c zs) (hn : 0 < n) : g < w.heap.size := by
  obtain ⟨g1, _, h1, h2, hc, _⟩ := h.cell hn
  obtain rfl : g1 = g := by omega
  by_cases hlt : g1 < w.heap.size
  · exact hlt
  · simp [World.cell?, Array.getElem?_eq_none (Nat.le_of_not_lt hlt)] at hc
theorem set2 {w : World} {g : Nat} {a b : Value} {T : TypeId} (h : w.heap[g]? = some (.cells #[a, b] T (0, 0))) (x y : Value) :
    ((w.setCell ⟨g, 0, none⟩ x).setCell ⟨g, 1, none⟩ y).heap[g]? = some (.cells #[x, y] T (0, 0)) := by
  have h1 := heap_setCell_same (j := 0) h x
  have h2 := heap_setCell_same (j := 1) h1 y
  rw [h2]; simp
set_option maxRecDepth 10000 in
set_option maxHeartbeats 4000000 in
theorem walk_fnBetterCable (w : World) (A : Option Addr) (n c : Nat) (zs : List Int) (r0 : RB w w.heap.size A n zs) (hz : BY zs) (_g : n ≤ c) (_i : c ≤ maxLen) :
    Calls Try.prog 13 #[.slice A n c] w fun e w' => e = .returned (.bool true) ∧ Below w.heap.size w w' := by
  by_cases hbig : 1048576 < n
  · go_enter Try.func13, Try.ntmps13
    go_wp2_with (go_at_call 15; refine (big_any _ _ _ _).mono ?_; rintro e w' ⟨rfl, rfl⟩)
    go_ret
    exact ⟨rfl, Below.refl _ _⟩
  · have hn : n ≤ 1048576 := by omega
    go_enter Try.func13, Try.ntmps13
    go_wp2_with (go_at_call 15; refine (big_any _ _ _ _).mono ?_; rintro e w' ⟨rfl, rfl⟩)
    refine (drawCable_any A n c _ zs _ r0 hz (Nat.le_refl _) hn).mono ?_
    rintro e w1 ⟨⟨q, s, Q, S, cq, cs, rfl, hcab, hq, hs⟩, hb1⟩
    have s1 := hb1.size
    have HB1 := Lib.hid hb1
    have r1 := r0.below hb1 (Nat.le_refl _)
    clear hb1 r0
    have hbC := (Below.refl w1.heap.size w1).alloc (Nat.le_refl _) (.cells #[.slice Q 4 cq, .slice S 4 cs] 26)
    have GC := heap_alloc_new w1 (.cells #[.slice Q 4 cq, .slice S 4 cs] 26)
    have sC : w1.heap.size + 1 = (w1.alloc (.cells #[.slice Q 4 cq, .slice S 4 cs] 26)).heap.size := by simp
    have hq2 := hq.below hbC (Nat.le_refl _)
    have hs2 := hs.below hbC (Nat.le_refl _)
    have HCAB := Lib.hid hcab
    clear hcab hq hs
    go_wp2_with fail
    generalize w1.alloc (.cells #[.slice Q 4 cq, .slice S 4 cs] 26) = w2 at hbC GC sC hq2 hs2 ⊢
    obtain ⟨b1, b2, _, _⟩ := cells2 GC
    go_cut [4] (fun p wr => ∃ (gd g' : Nat) (Q' : Option Addr) (c' : Nat), p = .pointer (some ⟨gd, 0, none⟩) ∧ wr.heap[gd]? = some (.cells #[.slice Q' 4 c', .slice S 4 cs] 26) ∧ Own wr g' (g' + 1) Q' 4 c' q ∧ Hid (g' ≠ gd) ∧ w2.heap.size ≤ gd ∧ w2.heap.size ≤ g' ∧ Below w2.heap.size w2 wr)
    case first =>
      have L1 : Own (w2.alloc (.cells #[] 3)).drew w2.heap.size (w2.heap.size + 1) (some ⟨w2.heap.size, 0, none⟩) 0 0 [] := own_lit0 w2
      have L2 : Own ((w2.alloc (.cells #[] 3)).alloc (.cells #[.slice none 0 0, .slice none 0 0] 26)).drew w2.heap.size (w2.heap.size + 1) (some ⟨w2.heap.size, 0, none⟩) 0 0 [] := (own_lit0 w2).alloc _
      have L3 : Own ((w2.alloc (.cells #[.slice none 0 0, .slice none 0 0] 26)).alloc (.cells #[] 3)).drew (w2.heap.size + 1) (w2.heap.size + 1 + 1) (some ⟨w2.heap.size + 1, 0, none⟩) 0 0 [] := by
        have := own_lit0 (w2.alloc (.cells #[.slice none 0 0, .slice none 0 0] 26))
        rw [World.size_alloc] at this
        exact this
      have R1 : RI (w2.alloc (.cells #[] 3)).drew w1.heap.size Q 4 q := RV.drewN (RI.alloc hq2.ri (by omega) _) 1
      have R2 : RI ((w2.alloc (.cells #[] 3)).alloc (.cells #[.slice none 0 0, .slice none 0 0] 26)).drew w1.heap.size Q 4 q := RV.drewN (RI.alloc (RI.alloc hq2.ri (by omega) _) (by simp; omega) _) 1
      have R3 : RI ((w2.alloc (.cells #[.slice none 0 0, .slice none 0 0] 26)).alloc (.cells #[] 3)).drew w1.heap.size Q 4 q := RV.drewN (RI.alloc (RI.alloc hq2.ri (by omega) _) (by simp; omega) _) 1
      have Z2 : ((w2.alloc (.cells #[] 3)).alloc (.cells #[.slice none 0 0, .slice none 0 0] 26)).drew.heap[w2.heap.size + 1]? = some (.cells #[.slice none 0 0, .slice none 0 0] 26) := by
        have := heap_alloc_new (w2.alloc (.cells #[] 3)) (.cells #[.slice none 0 0, .slice none 0 0] 26)
        rw [World.size_alloc] at this
        exact this
      have Z3 : ((w2.alloc (.cells #[.slice none 0 0, .slice none 0 0] 26)).alloc (.cells #[] 3)).drew.heap[w2.heap.size]? = some (.cells #[.slice none 0 0, .slice none 0 0] 26) :=
        (Below.heap_alloc _ _ _ (by simp)).trans (heap_alloc_new w2 _)
      have hbc : w1.heap.size < w2.heap.size := by omega
      first | go_must (go_region_held3 (fun w' => w'.cell? ⟨w1.heap.size, 0, none⟩ = some (.slice Q 4 cq) ∧ w'.cell? ⟨w1.heap.size, 1, none⟩ = some (.slice S 4 cs) ∧ Below w2.heap.size w2 w')
        (first | exact ⟨b1, b2, (Below.refl _ _).drew⟩ | exact keepO hbc (by omega) hoff6 ‹_ ∧ _› | exact keepA hbc _ ‹_ ∧ _› | exact keepR hbc (by simp at s6; omega) _ ‹_ ∧ _› | exact keepS hbc (by simp) (keepS hbc (by simp) ‹_ ∧ _›) | exact keepS hbc (by simp; omega) (keepS hbc (by simp; omega) ‹_ ∧ _›) | assumption)
        (first | (refine step_append_at rfl _ _ _ rfl Try.underlying24 infoInt _ _ _ _ _ rfl L1 _ _ _ _ _ rfl R1 (by omega) (by simp) ?_; intro A6 c6 w6 g6 ho6 hoff6 hg6; have s6 := hoff6.size) | (refine step_append_at rfl _ _ _ rfl Try.underlying24 infoInt _ _ _ _ _ rfl L2 _ _ _ _ _ rfl R2 (by omega) (by simp; omega) ?_; intro A6 c6 w6 g6 ho6 hoff6 hg6; have s6 := hoff6.size; have H6 := (hoff6.block (w2.heap.size + 1) (by simp) (by omega)).trans Z2; obtain ⟨z1, z2, z3, z4⟩ := cells2 H6) | (refine step_append_at rfl _ _ _ rfl Try.underlying24 infoInt _ _ _ _ _ rfl L3 _ _ _ _ _ rfl R3 (by omega) (by simp) ?_; intro A6 c6 w6 g6 ho6 hoff6 hg6; have s6 := hoff6.size; have H6 := (hoff6.block w2.heap.size (by simp; omega) (by omega)).trans Z3; obtain ⟨z1, z2, z3, z4⟩ := cells2 H6))) | fail
      all_goals
        rename_i HH
        simp only [World.size_drew, World.size_alloc] at hg6
        have hoA : Own w6 g6 (g6 + 1) A6 4 c6 q := by simpa using ho6
        go_wp2
        go_meet
        first
          | exact ⟨_, g6, A6, c6, rfl, heap_alloc_new w6 _, hoA.alloc _, Lib.hid (by have := own_lt hoA (by omega); omega), by simp only [World.size_drew, World.size_alloc] at s6; omega, by omega, HH.2.2⟩
          | exact ⟨_, g6, A6, c6, rfl, set2 H6 _ _, OwnV.far (OwnV.far hoA (by simp; omega) _) (by simp; omega) _, Lib.hid (by omega), by omega, by omega, HH.2.2⟩
    case rest =>
      obtain ⟨gd, gq, Q', cQ, rfl, GD, hoQ, hne, hgd, hgq, bD⟩ := hcut
      have rD := r1.below (hbC.trans (bD.mono (by omega))) s1
      have GCD := (bD.block w1.heap.size (by omega)).trans GC
      have hRC : RC wc w2.heap.size Q 4 q S 4 s := ⟨(hq2.below bD (by omega)).ri.more (by omega), (hs2.below bD (by omega)).ri.more (by omega)⟩
      have KD : Below w.heap.size w wc := HB1.out.trans ((hbC.mono s1).trans (bD.mono (by omega)))
      have HA0 := at_int A n c w.heap.size zs 0 wc rD hz hn (by omega) (by omega)
      have HA1 := fun W h => at_int A n c w.heap.size zs 1 W h hz hn (by omega) (by omega)
      obtain ⟨x0, hx0, ha0, hb0⟩ : ∃ x : Nat, (x : Int) = atF zs (0 : Int).toNat % 4 ∧ 0 ≤ atF zs (0 : Int).toNat ∧ x < 4 := by
        have := atF_rng hz (0 : Int).toNat
        exact ⟨(atF zs (0 : Int).toNat % 4).toNat, by omega, by omega, by omega⟩
      have hy := atF_rng hz (1 : Int).toNat
      generalize atF zs (0 : Int).toNat = y0 at HA0 hx0 ha0
      generalize atF zs (1 : Int).toNat = y1 at HA1 hy
      clear bD hs2 hq2 GC r1 b1 b2
      have e0 : y0 % 4 = (x0 : Int) := hx0.symm
      have HX0 := Lib.hid hx0
      clear hx0
      go_wp2_with (go_at_call 43; refine HA0.mono ?_; rintro e w' ⟨rfl, rfl⟩)
      rw [e0]
      obtain ⟨gq', hgq', u1, u2, cE, fE⟩ := hoQ.cell hb0
      obtain rfl : gq' = gq := by omega
      subst hgq'
      obtain ⟨d1, d2, _, _⟩ := cells2 GD
      obtain ⟨hq1, hq2, hq3, hq4⟩ := cableB_t.1 HCAB.out
      have hzb := hq3 x0 hb0
      have i1 : (0 : Int) ≤ (x0 : Int) := by omega
      have i2 : (x0 : Int) < 4 := by omega
      have ESUM : IntKind.i64.wrap (zat q x0 + y1 % 5) = zat q x0 + y1 % 5 := IntWalk.i64_in _ (by omega)
      have ETM : y1.tmod 5 = y1 % 5 := Int.tmod_eq_emod_of_nonneg hy.1
      have EMIN : (if zat q x0 + y1 % 5 < 12 then zat q x0 + y1 % 5 else 12) = min 12 (zat q x0 + y1 % 5) := by split <;> omega
      have rDd : RB wc.drew w.heap.size A n zs := RV.drewN rD 1
      go_cut [] (fun wr => Own wr gq' (gq' + 1) (some ⟨gq', 0, none⟩) 4 cQ (upQ q x0 (y1 % 5)) ∧ Off gq' (gq' + 1) wc wr)
      case first =>
        go_region_with (go_at_call 43; refine (HA1 _ rDd).mono ?_; rintro e w' ⟨rfl, rfl⟩)
        all_goals
          (try rw [EMIN])
          go_wp2
          go_meet
          exact ⟨hoQ.set x0 (min 12 (zat q x0 + y1 % 5)), ((Off.refl gq' (gq' + 1) wc).setCell (p := ⟨gq', x0, none⟩) (Nat.le_refl _) (by simp) _).drew⟩
      case rest =>
        obtain ⟨hoU, oU⟩ := hcut
        rename World => w4
        have GD4 := (oU.block gd (heap_lt GD) (by have := hne.out; omega)).trans GD
        have GC4 := (oU.block w1.heap.size (heap_lt GCD) (by omega)).trans GCD
        have BU : Below w2.heap.size wc w4 := oU.below hgq (by have := heap_lt GD; omega)
        have RC4 := hRC.below BU (Nat.le_refl _)
        have K4 := KD.trans (BU.mono (by omega))
        have hz4 : w2.heap.size ≤ w4.heap.size := by have := heap_lt GD4; omega
        have hup := upQ_ok (t := y1 % 5) HCAB.out hb0 (by omega)
        clear BU oU hRC GD GCD KD rD rDd HA0 HA1 hoQ cE fE d1 d2 ESUM ETM EMIN i1 i2
        have hlaw := better_law HCAB.out hup.1 hup.2
        have HUP := Lib.hid hup.1
        clear hup
        obtain ⟨b1, b2, _, _⟩ := cells2 GC4
        go_wp2_with fail
        refine (trainLink_i Q S 4 cq 4 cs w2.heap.size q s w4 RC4 hz4 (by omega) (by omega)).mono ?_
        generalize trainF q s = ra at hlaw
        obtain ⟨la, ma, oka⟩ := ra
        simp only [vTr]
        rintro e w5 ⟨rfl, hb5⟩
        have s5 := hb5.size
        have hgl4 := own_lt hoU (by omega)
        have GD5 := (hb5.block gd (heap_lt GD4)).trans GD4
        have hoU5 := hoU.below hb5 (by omega)
        have S5 := (RC4.below hb5 (by omega)).s
        have K5 := K4.trans (hb5.mono (by omega))
        have hgl5 := heap_lt GD5
        clear b1 b2 GC4 RC4 hb5 GD4 hoU K4
        have hbA := (Below.refl w5.heap.size w5).alloc (Nat.le_refl _) (.cells #[.int .i64 la.ln, .int .i64 la.rt, .int .i64 la.dr] 29)
        have GA := heap_alloc_new w5 (.cells #[.int .i64 la.ln, .int .i64 la.rt, .int .i64 la.dr] 29)
        have sA : (w5.alloc (.cells #[.int .i64 la.ln, .int .i64 la.rt, .int .i64 la.dr] 29)).heap.size = w5.heap.size + 1 := by simp
        have GD6 := (hbA.block gd hgl5).trans GD5
        have hoU6 := hoU5.below hbA (by omega)
        have S6 := S5.below hbA (by omega)
        have K6 := K5.trans (hbA.mono (by omega))
        obtain ⟨d1, d2, _, _⟩ := cells2 GD6
        clear GD5 hoU5 S5 K5 hbA
        go_wp2_with fail
        generalize w5.alloc (.cells #[.int .i64 la.ln, .int .i64 la.rt, .int .i64 la.dr] 29) = w6 at GA sA GD6 hoU6 S6 K6 d1 d2 ⊢
        refine (trainLink_i (some ⟨gq', 0, none⟩) S 4 cQ 4 cs w6.heap.size (upQ q x0 (y1 % 5)) s w6 ⟨hoU6.ri.more (by omega), S6.more (by omega)⟩ (Nat.le_refl _) (by omega) (by omega)).mono ?_
        generalize trainF (upQ q x0 (y1 % 5)) s = rb at hlaw
        obtain ⟨lb, mb, okb⟩ := rb
        simp only [vTr]
        rintro e w7 ⟨rfl, hb7⟩
        have s7 := hb7.size
        have GA7 := (hb7.block w5.heap.size (by omega)).trans GA
        have GD7 := (hb7.block gd (heap_lt GD6)).trans GD6
        have hoU7 := hoU6.below hb7 (by omega)
        have S7 := S6.below hb7 (by omega)
        have K7 := K6.trans (hb7.mono (by omega))
        clear GD6 hoU6 S6 K6 hb7 d1 d2 GA
        have hbB := (Below.refl w7.heap.size w7).alloc (Nat.le_refl _) (.cells #[.int .i64 lb.ln, .int .i64 lb.rt, .int .i64 lb.dr] 29)
        have GB := heap_alloc_new w7 (.cells #[.int .i64 lb.ln, .int .i64 lb.rt, .int .i64 lb.dr] 29)
        have sB : (w7.alloc (.cells #[.int .i64 lb.ln, .int .i64 lb.rt, .int .i64 lb.dr] 29)).heap.size = w7.heap.size + 1 := by simp
        have GA8 := (hbB.block w5.heap.size (by omega)).trans GA7
        have GD8 := (hbB.block gd (heap_lt GD7)).trans GD7
        have hoU8 := hoU7.below hbB (by omega)
        have S8 := S7.below hbB (by omega)
        have K8 := K7.trans (hbB.mono (by omega))
        clear GD7 hoU7 S7 K7 hbB GA7
        go_wp2_with fail
        generalize w7.alloc (.cells #[.int .i64 lb.ln, .int .i64 lb.rt, .int .i64 lb.dr] 29) = w8 at GA8 sB GD8 hoU8 S8 K8 GB ⊢
        have hge : capOf la.ln la.rt la.dr ≤ capOf lb.ln lb.rt lb.dr := hlaw.2
        have RC8 : RC w8 w8.heap.size (some ⟨gq', 0, none⟩) 4 (upQ q x0 (y1 % 5)) S 4 s := ⟨hoU8.ri.more (by omega), S8.more (by omega)⟩
        have hs8 : w8.drew.heap.size = w8.heap.size := rfl
        obtain ⟨a1, a2, a3, _, _, _⟩ := cells3 GA8
        obtain ⟨c1, c2, c3, _, _, _⟩ := cells3 GB
        have hgl8 := heap_lt GD8
        clear hoU8 S8
        cases oka
        · go_cut [2] (fun v wr => v = .bool true ∧ Below w8.heap.size w8 wr)
          case first =>
            have hu : undef = Value.tuple #[] := rfl
            first | go_must (go_region_law (first | (go_simp; go_at_call 20; first
               | ((with_reducible refine (capacity_i lb.ln lb.rt lb.dr w8.drew).mono ?_); rintro e w9 ⟨rfl, hb9⟩
                  have s9 := hb9.size
                  have GA9 := (hb9.block w5.heap.size (by omega)).trans GA8
                  have GD9 := (hb9.block gd (by omega)).trans GD8
                  obtain ⟨a19, a29, a39, _, _, _⟩ := cells3 GA9
                  have hB9 : Below w8.heap.size w8 w9 := ((Below.refl w8.heap.size w8).drew).trans hb9)
               | ((with_reducible refine (capacity_i la.ln la.rt la.dr w9).mono ?_); rintro e w10 ⟨rfl, hb10⟩
                  have s10 := hb10.size
                  have GD10 := (hb10.block gd (by omega)).trans GD9
                  obtain ⟨d1x, d2x, _, _⟩ := cells2 GD10
                  have hB10 := hB9.trans (hb10.mono (by omega)))) | (go_simp; go_at_call 32; (with_reducible refine (laneWorks_i (some ⟨gq', 0, none⟩) S 4 cQ 4 cs w8.heap.size (upQ q x0 (y1 % 5)) s (x0 : Int) 1 3 w10 (RC8.below hB10 (Nat.le_refl _)) (by omega) (by omega) (by omega)).mono ?_); rintro e w11 ⟨rfl, hb11⟩; have s11 := hb11.size; have GD11 := (hb11.block gd (by omega)).trans GD10; obtain ⟨d1y, d2y, _, _⟩ := cells2 GD11; have hB11 := hB10.trans (hb11.mono (by omega))) | (go_simp; go_at_call 31; (with_reducible refine (laneWorks_s (some ⟨gq', 0, none⟩) S 4 cQ 4 cs w8.heap.size (upQ q x0 (y1 % 5)) s (x0 : Int) 1 3 w11 (RC8.below hB11 (Nat.le_refl _)) (by omega) (by omega) (by omega)).mono ?_); rintro e w12 ⟨rfl, hb12⟩; have hB12 := hB11.trans (hb12.mono (by omega))))) | fail
            all_goals
              clear hu
              go_wp2
              go_meet
              exact ⟨rfl, hB12⟩
          case rest =>
            obtain ⟨rfl, hbE⟩ := hcut
            go_wp2
            go_ret
            exact ⟨rfl, K8.trans (hbE.mono (by omega))⟩
        · obtain rfl : okb = true := hlaw.1 rfl
          first | go_must (go_region_law (first | (go_simp; go_at_call 20; first
               | ((with_reducible refine (capacity_i lb.ln lb.rt lb.dr w8.drew).mono ?_); rintro e w9 ⟨rfl, hb9⟩
                  have s9 := hb9.size
                  have GA9 := (hb9.block w5.heap.size (by omega)).trans GA8
                  have GD9 := (hb9.block gd (by omega)).trans GD8
                  obtain ⟨a19, a29, a39, _, _, _⟩ := cells3 GA9
                  have hB9 : Below w8.heap.size w8 w9 := ((Below.refl w8.heap.size w8).drew).trans hb9)
               | ((with_reducible refine (capacity_i la.ln la.rt la.dr w9).mono ?_); rintro e w10 ⟨rfl, hb10⟩
                  have s10 := hb10.size
                  have GD10 := (hb10.block gd (by omega)).trans GD9
                  obtain ⟨d1x, d2x, _, _⟩ := cells2 GD10
                  have hB10 := hB9.trans (hb10.mono (by omega)))) | (go_simp; go_at_call 32; (with_reducible refine (laneWorks_i (some ⟨gq', 0, none⟩) S 4 cQ 4 cs w8.heap.size (upQ q x0 (y1 % 5)) s (x0 : Int) 1 3 w10 (RC8.below hB10 (Nat.le_refl _)) (by omega) (by omega) (by omega)).mono ?_); rintro e w11 ⟨rfl, hb11⟩; have s11 := hb11.size; have GD11 := (hb11.block gd (by omega)).trans GD10; obtain ⟨d1y, d2y, _, _⟩ := cells2 GD11; have hB11 := hB10.trans (hb11.mono (by omega))) | (go_simp; go_at_call 31; (with_reducible refine (laneWorks_s (some ⟨gq', 0, none⟩) S 4 cQ 4 cs w8.heap.size (upQ q x0 (y1 % 5)) s (x0 : Int) 1 3 w11 (RC8.below hB11 (Nat.le_refl _)) (by omega) (by omega) (by omega)).mono ?_); rintro e w12 ⟨rfl, hb12⟩; have hB12 := hB11.trans (hb12.mono (by omega))))) | fail
          all_goals
            go_wp2
            go_ret
            exact ⟨rfl, K8.trans (hB12.mono (by omega))⟩
end Go.Proofs.Ytmibajhilbfecaa
