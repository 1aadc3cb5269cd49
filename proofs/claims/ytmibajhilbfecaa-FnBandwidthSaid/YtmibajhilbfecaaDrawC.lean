/- A drawn cable: four skews, four qualities. -/
import Derived.Test.YtmibajhilbfecaaPick
import Derived.Test.YtmibajhilbfecaaApp3
import Derived.Test.YtmibajhilbfecaaCable
import Derived.Deep.RegionLaw
namespace Go.Proofs.Ytmibajhilbfecaa
open Go.RowKit Go.Deep
theorem Off.then_below {lo hi : Nat} {a b c : World} (h : Off lo hi a b) (k : Below a.heap.size b c) : Off lo hi a c :=
  ⟨k.os.trans h.os, k.tape.trans h.tape, k.output.trans h.output, Nat.le_trans h.size k.size, fun i hi' ho => (k.block i hi').trans (h.block i hi' ho)⟩
/-- Some list of m skews in a slice of its own; but for new blocks, only the cursor's has turned. -/
def RetSk (w : World) (g : Nat) (A : Option Addr) (n c m : Nat) (e : Ending) (w' : World) : Prop :=
  ∃ (L : List Int) (A' : Option Addr) (c' : Nat), (∀ z ∈ L, 0 ≤ z ∧ z ≤ 8) ∧ e = .returned (.slice A' m c') ∧ Own w' w.heap.size w'.heap.size A' m c' L ∧ Cur w' g A n c ∧ Off g (g + 1) w w'
set_option maxHeartbeats 1000000 in
theorem l30Skews_any (A : Option Addr) (n c B g m : Nat) (zs : List Int) (w : World) (h : RB w B A n zs) (hz : BY zs) (hB : B ≤ g) (hn : n ≤ 1048576) (hc : Cur w g A n c) (hm : m ≤ 4) :
    Calls Try.prog 80 #[.pointer (some ⟨g, 0, none⟩), .int .i64 m] w (RetSk w g A n c m) := by
  have hgl := hc.lt
  have HL := own_lit0 w
  have O1 : Off g (g + 1) w (w.alloc (.cells #[] 3)) := Off.of_below ((Below.refl _ _).alloc (Nat.le_refl _) _)
  have C1 := hc.below ((Below.refl w.heap.size w).alloc (Nat.le_refl _) (.cells #[] 3)) hgl
  go_enter Try.func80, Try.ntmps80
  go_wp2
  go_loopw [5, 6] (fun v i wr => ∃ k : Nat, k ≤ m ∧ i = .int .i64 k ∧ ∃ (L : List Int) (A' : Option Addr) (c' : Nat), v = .slice A' k c' ∧ Own wr w.heap.size wr.heap.size A' k c' L ∧ Hid (∀ z ∈ L, 0 ≤ z ∧ z ≤ 8) ∧ Cur wr g A n c ∧ Off g (g + 1) w wr) (fun _ i _ => m - (intOf i).toNat)
  case atStart => exact ⟨0, by omega, rfl, [], _, _, rfl, HL.top, Lib.hid (fun z hz => by cases hz), C1, O1⟩
  case round =>
    obtain ⟨k, hk, rfl, L, A', c', rfl, hown, hsk, hcur, hoff⟩ := hrel
    clear HL O1 C1
    have hR : RB wr B A n zs := RV.below h (hoff.below (Nat.le_refl _) (by omega)) hB
    have hs := hoff.size
    by_cases hr : k < m
    · have hr' : (k : Int) < (m : Int) := by omega
      go_wp2_with fail
      refine (l01Below_any A n c B g zs 9 _ hR hz hB hn hcur (by omega) (by omega)).mono ?_
      rintro e w4 ⟨⟨y, rfl, hy⟩, hc4, ho4⟩
      have s4 := ho4.size
      have o4 := hown.off ho4 (by omega)
      have O4 := hoff.trans ho4
      clear hown hcur hoff hR ho4
      go_wp2_with (at_builtin; refine wpList_append_ints rfl _ _ _ rfl Try.underlying24 infoInt _ _ _ _ _ _ rfl (o4.alloc _) _ _ _ _ _ rfl (ri_one _ _ _) (by omega) (by simp; omega) ?_; intro A5 c5 w5 ho5 hoff5 hb5)
      have s5 := hb5.size
      simp only [World.size_alloc] at s5
      have R5 := (((Below.refl w4.heap.size w4).alloc (Nat.le_refl _) (.cells #[.int .i64 y] 3)).mono (show w.heap.size ≤ w4.heap.size by omega)).trans hb5
      have c5 := hc4.below R5 (by omega)
      have O5 : Off g (g + 1) w w5 := O4.then_below R5
      go_roundw
      case rel => exact ⟨k + 1, by omega, by go_num, L ++ [y], _, _, rfl, ho5, Lib.hid (fun z hz => by rcases List.mem_append.1 hz with h1 | h1; exact hsk.out z h1; rcases List.mem_singleton.1 h1 with rfl; omega), c5, O5⟩
      case measure => simp [intOf]; omega
    · obtain rfl : k = m := by omega
      go_wp2
      go_ret
      exact ⟨L, A', c', hsk.out, rfl, hown, hcur, hoff⟩
/-- A drawn cable: a good one, in slices of its own. -/
def RetCbl (lo : Nat) (w' : World) (e : Ending) : Prop :=
  ∃ (q s : List Int) (Q S : Option Addr) (cq cs : Nat), e = .returned (.agg #[.slice Q 4 cq, .slice S 4 cs]) ∧ cableB q s = true ∧ Own w' lo w'.heap.size Q 4 cq q ∧ Own w' lo w'.heap.size S 4 cs s
theorem own_lit7 (w : World) (a b c d e f x : Int) : Own (w.alloc (.cells #[.int .i64 a, .int .i64 b, .int .i64 c, .int .i64 d, .int .i64 e, .int .i64 f, .int .i64 x] 3)) w.heap.size (w.heap.size + 1) (some ⟨w.heap.size, 0, none⟩) 7 7 [a, b, c, d, e, f, x] :=
  OwnV.new w 3 #[.int .i64 a, .int .i64 b, .int .i64 c, .int .i64 d, .int .i64 e, .int .i64 f, .int .i64 x] (by simp [maxLen])
set_option maxRecDepth 20000 in
set_option maxHeartbeats 2000000 in
theorem l31Cable_any (A : Option Addr) (n c B g : Nat) (zs : List Int) (w : World) (h : RB w B A n zs) (hz : BY zs) (hB : B ≤ g) (hn : n ≤ 1048576) (hc : Cur w g A n c) :
    Calls Try.prog 53 #[.pointer (some ⟨g, 0, none⟩)] w fun e w' => RetCbl (w.heap.size + 1) w' e ∧ Off g (g + 1) w w' := by
  have hgl := hc.lt
  have hb0 := (Below.refl w.heap.size w).alloc (Nat.le_refl _) (.cells #[.slice none 0 0, .slice none 0 0] 26)
  have G0 := heap_alloc_new w (.cells #[.slice none 0 0, .slice none 0 0] 26)
  have O0 : Off g (g + 1) w (w.alloc (.cells #[.slice none 0 0, .slice none 0 0] 26)) := Off.of_below hb0
  have C0 := hc.below hb0 hgl
  have R0 : RB (w.alloc (.cells #[.slice none 0 0, .slice none 0 0] 26)) B A n zs := RV.below h hb0 (by omega)
  go_enter Try.func53, Try.ntmps53
  go_wp2_with fail
  refine (l30Skews_any A n c B g 4 zs _ R0 hz hB hn C0 (by omega)).mono ?_
  rintro e w1 ⟨S, SA, cS, hS, rfl, hoS, hc1, ho1⟩
  have s1 := ho1.size
  simp only [World.size_alloc] at s1 hoS
  have O1 := O0.trans ho1
  have G1 := (ho1.block w.heap.size (by simp) (by omega)).trans G0
  clear G0 O0 C0 R0 ho1 hb0
  have hb2 := (Below.refl w1.heap.size w1).alloc (Nat.le_refl _) (.cells #[.slice none 0 0, .slice SA 4 cS] 26)
  have H2 := heap_alloc_new w1 (.cells #[.slice none 0 0, .slice SA 4 cS] 26)
  have G2 := (hb2.block w.heap.size (by omega)).trans G1
  have S2 := hoS.below hb2 (Nat.le_refl _)
  have C2 := hc1.below hb2 (by omega)
  have O2 := O1.then_below (hb2.mono (by omega))
  have HSK := Lib.hid hS
  clear G1 hoS hc1 O1 hS hb2
  generalize hp : w1.heap.size = pb at *
  generalize hr0 : w.heap.size = r at *
  have hs2 : pb + 1 ≤ (w1.alloc (.cells #[.slice none 0 0, .slice SA 4 cS] 26)).heap.size := by have := heap_lt H2; omega
  go_wp2
  go_loopw [4] (fun i wr => ∃ k : Nat, k ≤ 4 ∧ i = .int .i64 k ∧ ∃ (L : List Int) (A' : Option Addr) (c' : Nat), Own wr (pb + 1) wr.heap.size A' k c' L ∧ Hid (∀ z ∈ L, 0 ≤ z ∧ z ≤ 12) ∧ Own wr (r + 1) pb SA 4 cS S ∧ Cur wr g A n c ∧ Off g (g + 1) w wr ∧ pb + 1 ≤ wr.heap.size ∧ wr.heap[r]? = some (.cells #[.slice none 0 0, .slice none 0 0] 26) ∧ wr.heap[pb]? = some (.cells #[.slice A' k c', .slice SA 4 cS] 26)) (fun i _ => 4 - (intOf i).toNat)
  case atStart => exact ⟨0, by omega, rfl, [], none, 0, Own.nil, Lib.hid (fun z hz => by cases hz), S2, C2, O2, hs2, G2, H2⟩
  case round =>
    obtain ⟨k, hk, rfl, L, A', c', hown, hql, hsk, hcur, hoff, hps, GR, HP⟩ := hrel
    clear S2 C2 O2 G2 H2 hs2
    have hR : RB wr B A n zs := RV.below h (hoff.below (Nat.le_refl _) (by omega)) hB
    by_cases hk4 : k < 4
    · have hk4' : (k : Int) < 4 := by omega
      obtain ⟨a1, a2, f1, _⟩ := cells2 HP
      have RA : RB wr.drew B A n zs := RV.drewN hR 1
      have CA : Cur wr.drew g A n c := hcur
      have a1d : wr.drew.cell? ⟨pb, 0, none⟩ = some (.slice A' k c') := a1
      go_wp2_with fail
      go_region_law (first
        | (refine step_append_ints rfl _ _ _ rfl Try.underlying24 infoInt _ _ _ _ _ _ rfl ((hown8.alloc _)) _ _ _ _ _ rfl (ri_one _ _ _) (by omega) (by simp; omega) ?_; intro A9 c9 w9 ho9 hoff9 hb9; have s9 := hb9.size; simp only [World.size_alloc] at s9
           have R9 := (((Below.refl w8.heap.size w8).alloc (Nat.le_refl _) (.cells #[.int .i64 x8] 3)).mono (show pb + 1 ≤ w8.heap.size by omega)).trans hb9
           have H9 := (R9.block pb (by omega)).trans H8
           have G9 := (R9.block r (by omega)).trans G8
           have f9 := (cells2 H9).2.2.1
           have c9' := (cells2 H9).1)
        | (go_simp; go_at_call 82; (with_reducible refine (l01Below_any A n c B g zs 13 _ RA hz hB hn CA (by omega) (by omega)).mono ?_); rintro e w7 ⟨⟨x7, rfl, hx7⟩, hc7, ho7⟩; have s7 := ho7.size; simp only [World.size_drew] at s7
           have hb7 := (Below.refl w7.heap.size w7).alloc (Nat.le_refl _) (.cells #[.int .i64 12, .int .i64 12, .int .i64 9, .int .i64 6, .int .i64 3, .int .i64 0, .int .i64 x7] 3)
           have C7 := hc7.below hb7 (by omega)
           have R7 : RB (w7.alloc (.cells #[.int .i64 12, .int .i64 12, .int .i64 9, .int .i64 6, .int .i64 3, .int .i64 0, .int .i64 x7] 3)) B A n zs := RV.below (RV.below RA (ho7.below hB (by simp; omega)) (Nat.le_refl _)) hb7 (by omega)
           have H7' := (ho7.block pb (by simp; omega) (by omega)).trans HP
           have H7 := (hb7.block pb (by omega)).trans H7'
           have G7 := (hb7.block r (by omega)).trans ((ho7.block r (by simp; omega) (by omega)).trans GR)
           have K7 := hb7.mono (show r + 1 ≤ w7.heap.size by omega)
           have c7' := (cells2 H7').1
           have c7a := (cells2 H7).1)
        | (go_simp; go_at_call 81; (with_reducible refine (l01PickInt_any A n c B g zs _ 7 7 _ _ [12, 12, 9, 6, 3, 0, x7] _ R7 hz hB hn C7 (own_lit7 w7 _ _ _ _ _ _ _) (by omega) (by omega) (by omega)).mono ?_); rintro e w8 ⟨⟨x8, rfl, hx8⟩, hc8, ho8⟩; have s8 := ho8.size; simp only [World.size_alloc] at s8
           have H8 := (ho8.block pb (by simp; omega) (by omega)).trans H7
           have G8 := (ho8.block r (by simp; omega) (by omega)).trans G7
           have c8' := (cells2 H8).1
           have c8a := (cells2 ((Below.heap_alloc w8 (.cells #[.int .i64 x8] 3) pb (by omega)).trans H8)).1
           have hown8 := Own.off ((Own.off hown (Off.trans (Off.drew (Off.refl _ _ _)) ho7) (by omega)).alloc _) ho8 (by omega)))
      all_goals
        have hx8' : 0 ≤ x8 ∧ x8 ≤ 12 := by simp at hx8; omega
        have G10 := heap_far G9 (p := ⟨pb, 0, none⟩) (by simp; omega) (.slice A9 (k + 1) c9)
        have H10 := heap_setCell_same (j := 0) H9 (.slice A9 (k + 1) c9)
        have Q10 : Own (w9.setCell ⟨pb, 0, none⟩ (.slice A9 (k + 1) c9)) (pb + 1) w9.heap.size A9 (k + 1) c9 (L ++ [x8]) := OwnV.far ho9 (by simp) _
        have S10 : Own (w9.setCell ⟨pb, 0, none⟩ (.slice A9 (k + 1) c9)) (r + 1) pb SA 4 cS S := OwnV.far ((((Own.off hsk (Off.trans (Off.drew (Off.refl _ _ _)) ho7) (by omega)).alloc _).off ho8 (by omega)).below R9 (by omega)) (by simp) _
        have K10 : Off g (g + 1) w (w9.setCell ⟨pb, 0, none⟩ (.slice A9 (k + 1) c9)) :=
          ((((((hoff.drew).trans ho7).then_below (hb7.mono (by omega))).trans ho8)).then_below (R9.mono (by omega))).then_below ((Below.refl w.heap.size w9).setCell (by simp; omega) _)
        have C10 : Cur (w9.setCell ⟨pb, 0, none⟩ (.slice A9 (k + 1) c9)) g A n c := hc8.below ((R9.mono (show pb ≤ pb + 1 by omega)).setCell (Nat.le_refl _) _) (by omega)
        have s10 : (w9.setCell ⟨pb, 0, none⟩ (.slice A9 (k + 1) c9)).heap.size = w9.heap.size := by simp
        rw [← s10] at Q10
        generalize w9.setCell ⟨pb, 0, none⟩ (.slice A9 (k + 1) c9) = w10 at G10 H10 Q10 K10 C10 S10 s10 ⊢
        clear c8a c8' c7' c7a c9' a1d a1 a2 f1 CA
        go_wp2
        go_roundw
        case rel => exact ⟨k + 1, by omega, by go_num, L ++ [x8], A9, c9, Q10, Lib.hid (fun z hz => by rcases List.mem_append.1 hz with h1 | h1; exact hql.out z h1; rcases List.mem_singleton.1 h1 with rfl; omega), S10, C10, K10, by omega, G10, by simpa using H10⟩
        case measure => simp [intOf]; omega
    · obtain rfl : k = 4 := by omega
      obtain ⟨a1, a2, _, _⟩ := cells2 HP
      obtain ⟨b1, b2, f1, f2⟩ := cells2 GR
      have J1 := heap_setCell_same (j := 0) GR (.slice A' 4 c')
      have J2 := heap_setCell_same (j := 1) J1 (.slice SA 4 cS)
      have j2 := (cells2 J2).1
      have j3 := (cells2 J2).2.1
      clear J1 J2
      have hcab : cableB L S = true := by
        have h1 := hown.len
        have h2 := hsk.len
        exact cableB_t.2 ⟨h1, h2, fun j hj => hql.out _ (zat_mem (by omega)), fun j hj => HSK.out _ (zat_mem (by omega))⟩
      have HCAB := Lib.hid hcab
      clear hcab
      go_wp2
      refine bodyPost_ret (v := .agg #[.slice A' 4 c', .slice SA 4 cS]) (by simp [results, Try.results53, go_sem, j2, j3]) rfl ⟨⟨L, S, A', SA, c', cS, rfl, HCAB.out, ?_, ?_⟩, ?_⟩
      · simp only [World.size_setCell]
        exact Own.mono (OwnV.far (OwnV.far hown (by simp; omega) _) (by simp; omega) _) (by omega) (Nat.le_refl _)
      · simp only [World.size_setCell]
        exact Own.mono (OwnV.far (OwnV.far hsk (by simp) _) (by simp) _) (by omega) (by omega)
      · exact (hoff.then_below ((Below.refl w.heap.size wr).setCell (by simp; omega) _)).then_below ((Below.refl w.heap.size _).setCell (by simp; omega) _)
set_option maxHeartbeats 1000000 in
theorem drawCable_any (A : Option Addr) (n c B : Nat) (zs : List Int) (w : World) (h : RB w B A n zs) (hz : BY zs) (hB : B ≤ w.heap.size) (hn : n ≤ 1048576) :
    Calls Try.prog 16 #[.slice A n c] w fun e w' => RetCbl w.heap.size w' e ∧ Below w.heap.size w w' := by
  have G0 := heap_alloc_new w (.cells #[.slice none 0 0, .slice none 0 0] 26)
  have K0 := (Below.refl w.heap.size w).alloc (Nat.le_refl _) (.cells #[.slice none 0 0, .slice none 0 0] 26)
  go_enter Try.func16, Try.ntmps16
  go_wp2_with fail
  refine (l01New_any A n c B zs _ (RV.below h (K0.mono hB) (Nat.le_refl _)) hz (by simp; omega) hn).mono ?_
  rintro e w1 ⟨⟨g, rfl, hg1, hg2, hc1⟩, hb1⟩
  simp only [World.size_alloc] at hg1
  have K1 := K0.trans (hb1.mono (by simp))
  have G1 := (hb1.block w.heap.size (by simp)).trans G0
  go_wp2_with fail
  refine (l31Cable_any A n c B g zs _ (RV.below h (K1.mono hB) (Nat.le_refl _)) hz (by omega) hn hc1).mono ?_
  rintro e w2 ⟨⟨q, s, Q, S, cq, cs, rfl, hcab, hq, hs⟩, ho2⟩
  have K2 := K1.trans (ho2.below (by omega) (by omega))
  have GR := (ho2.block w.heap.size (by omega) (by omega)).trans G1
  have s2 := ho2.size
  clear K0 K1 G0 G1 hb1 hc1 ho2
  obtain ⟨b1, b2, f1, f2⟩ := cells2 GR
  have J1 := heap_setCell_same (j := 0) GR (.slice Q 4 cq)
  have J2 := heap_setCell_same (j := 1) J1 (.slice S 4 cs)
  have j2 := (cells2 J2).1
  have j3 := (cells2 J2).2.1
  clear J1 J2
  go_wp2
  refine bodyPost_ret (v := .agg #[.slice Q 4 cq, .slice S 4 cs]) (by simp [results, Try.results16, go_sem, j2, j3]) rfl ⟨⟨q, s, Q, S, cq, cs, rfl, hcab, ?_, ?_⟩, ?_⟩
  · simp only [World.size_setCell]
    exact Own.mono (OwnV.far (OwnV.far hq (by simp; omega) _) (by simp; omega) _) (by omega) (Nat.le_refl _)
  · simp only [World.size_setCell]
    exact Own.mono (OwnV.far (OwnV.far hs (by simp; omega) _) (by simp; omega) _) (by omega) (Nat.le_refl _)
  · exact (K2.setCell (by simp) _).setCell (by simp) _
end Go.Proofs.Ytmibajhilbfecaa
