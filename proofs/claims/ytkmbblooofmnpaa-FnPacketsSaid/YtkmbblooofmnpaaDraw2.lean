/- More of the verifier's cursor: greater draws, picks, and a drawn line packet. -/
import Derived.Test.YtkmbblooofmnpaaDraw
import Derived.Test.YtkmbblooofmnpaaPkt
import Derived.Deep.RegionLaw
namespace Go.Proofs.Ytkmbblooofmnpaa
open Go.RowKit Go.Deep
set_option maxHeartbeats 1000000 in
theorem l01Below_big (A : Option Addr) (n c B g : Nat) (zs : List Int) (m : Int) (w : World) (h : RB w B A n zs) (hz : BY zs) (hB : B ≤ g) (hn : n ≤ 1048576) (hc : Cur w g A n c) (hm : 257 ≤ m) (hm' : m ≤ 1048576) :
    Calls Try.prog 62 #[.pointer (some ⟨g, 0, none⟩), .int .i64 m] w (DrawN w g A n c m) := by
  have hm0 : (m == 0) = false := by simp; omega
  have hm1 : ¬ m ≤ 0 := by omega
  have hm2 : ¬ m ≤ 256 := by omega
  have hg := hc.lt
  go_enter Try.func62, Try.ntmps62
  go_wp2_with fail
  refine (l01Byte_any A n c B g zs _ h hz hB hn hc).mono ?_
  rintro e w1 ⟨⟨x, rfl, bx⟩, hc1, ho1⟩
  have h1 := RV.below h (ho1.below hB (by omega)) (Nat.le_refl _)
  go_wp2_with fail
  refine (l01Byte_any A n c B g zs _ h1 hz hB hn hc1).mono ?_
  rintro e w2 ⟨⟨y, rfl, by'⟩, hc2, ho2⟩
  have h2 := RV.below h1 (ho2.below hB (by have := hc1.lt; omega)) (Nat.le_refl _)
  go_wp2_with fail
  refine (l01Byte_any A n c B g zs _ h2 hz hB hn hc2).mono ?_
  rintro e w3 ⟨⟨z, rfl, bz⟩, hc3, ho3⟩
  have h3 := RV.below h2 (ho3.below hB (by have := hc2.lt; omega)) (Nat.le_refl _)
  go_wp2_with fail
  refine (l01Byte_any A n c B g zs _ h3 hz hB hn hc3).mono ?_
  rintro e w4 ⟨⟨v, rfl, bv⟩, hc4, ho4⟩
  have q0 : 0 ≤ x * 16777216 + y * 65536 + z * 256 + v := by omega
  have q1 := Int.emod_nonneg (x * 16777216 + y * 65536 + z * 256 + v) (show m ≠ 0 by omega)
  have q2 := Int.emod_lt_of_pos (x * 16777216 + y * 65536 + z * 256 + v) (show 0 < m by omega)
  have HQ := Lib.hid (And.intro q1 q2)
  clear q1 q2
  go_wp2
  go_ret
  exact ⟨⟨_, rfl, HQ.out.1, HQ.out.2⟩, hc4, ((ho1.trans ho2).trans ho3).trans ho4⟩
theorem l01PickInt_any (A : Option Addr) (n c B g : Nat) (zs : List Int) (S : Option Addr) (k d lo hi : Nat) (L : List Int) (w : World) (h : RB w B A n zs) (hz : BY zs) (hB : B ≤ g) (hn : n ≤ 1048576) (hc : Cur w g A n c) (hL : Own w lo hi S k d L) (hg : g < lo) (hk : 1 ≤ k) (hk' : k ≤ 256) :
    Calls Try.prog 75 #[.pointer (some ⟨g, 0, none⟩), .slice S k d] w fun e w' => (∃ x, e = .returned (.int .i64 x) ∧ x ∈ L) ∧ Cur w' g A n c ∧ Off g (g + 1) w w' := by
  go_enter Try.func75, Try.ntmps75
  go_wp2_with fail
  refine (l01Below_any A n c B g zs k _ h hz hB hn hc (by omega) (by omega)).mono ?_
  rintro e w1 ⟨⟨x, rfl, bx⟩, hc1, ho1⟩
  obtain ⟨i, rfl⟩ := Int.eq_ofNat_of_zero_le bx.1
  have hi1 : (0 : Int) ≤ (i : Int) := by omega
  have hi2 : (i : Int) < (k : Int) := by omega
  have hL1 := hL.off ho1 (by omega)
  obtain ⟨b, off, rfl, hb, hcell⟩ := hL1.ri.at_ (show i < k by omega)
  go_wp2
  go_ret
  exact ⟨⟨_, rfl, zat_mem (by have := hL.len; omega)⟩, hc1, ho1⟩
theorem pkB_0 {f l : Int} {ds : List Int} (hf : 0 ≤ f ∧ f ≤ 255) (hl : 0 ≤ l ∧ l ≤ 15) (hd : ∀ z ∈ ds, 0 ≤ z ∧ z ≤ 262143) (h1 : 1 ≤ ds.length) (h2 : ds.length ≤ 16) : pkB 0 f l ds = true := by
  have e1 : inB f 0 255 = true := inB_t.2 hf
  have e2 : inB l 0 15 = true := inB_t.2 hl
  have e3 : ds.all dotB = true := List.all_eq_true.2 fun z hz => inB_t.2 (hd z hz)
  have e4 : inB (ds.length : Int) 1 16 = true := inB_t.2 (by omega)
  simp only [pkB, e1, e2, e3, packLen, e4]
  simp; omega
theorem pkB_1 {k f l : Int} (hk : k = 1 ∨ k = 2) (hf : 0 ≤ f ∧ f ≤ 255) (hl : 0 ≤ l ∧ l ≤ 15) : pkB k f l [] = true := by
  have e1 : inB f 0 255 = true := inB_t.2 hf
  have e2 : inB l 0 15 = true := inB_t.2 hl
  simp only [pkB, e1, e2, packLen]
  rcases hk with rfl | rfl <;> simp
/-- A drawn packet: a good one, with at most ten dots, in a slice of its own. -/
def RetPk (w : World) (B : Nat) (e : Ending) (w' : World) : Prop :=
  ∃ (k f l : Int) (ds : List Int) (D : Option Addr) (cd : Nat), e = .returned (.agg #[.int .i64 k, .int .i64 f, .int .i64 l, .slice D ds.length cd]) ∧ pkB k f l ds = true ∧ Own w' B w'.heap.size D ds.length cd ds ∧ Below B w w'
set_option maxRecDepth 20000 in
set_option maxHeartbeats 2000000 in
theorem l25Packet_any (A : Option Addr) (n c B g : Nat) (zs : List Int) (w : World) (h : RB w B A n zs) (hz : BY zs) (hB : B ≤ g) (hn : n ≤ 1048576) (hc : Cur w g A n c) :
    Calls Try.prog 47 #[.pointer (some ⟨g, 0, none⟩)] w (RetPk w g) := by
  have hg := hc.lt
  have K0 := (Below.refl g w).alloc (by omega) (.cells #[.int .i64 0, .int .i64 0, .int .i64 0, .slice none 0 0] 26)
  have K1 := K0.alloc (by simp; omega) (.cells #[.int .i64 0, .int .i64 0, .int .i64 0, .int .i64 1, .int .i64 2] 3)
  go_enter Try.func47, Try.ntmps47
  go_wp2_with fail
  have h1 : RB ((w.alloc (.cells #[.int .i64 0, .int .i64 0, .int .i64 0, .slice none 0 0] 26)).alloc (.cells #[.int .i64 0, .int .i64 0, .int .i64 0, .int .i64 1, .int .i64 2] 3)) B A n zs := RV.below h (K1.mono hB) (Nat.le_refl _)
  have hL := own_five (w.alloc (.cells #[.int .i64 0, .int .i64 0, .int .i64 0, .slice none 0 0] 26)) 0 0 0 1 2
  have KA := ((Below.refl w.heap.size w).alloc (Nat.le_refl _) (.cells #[.int .i64 0, .int .i64 0, .int .i64 0, .slice none 0 0] 26)).alloc (by simp) (.cells #[.int .i64 0, .int .i64 0, .int .i64 0, .int .i64 1, .int .i64 2] 3)
  have hc1 := hc.below KA hg
  have G1 : ((w.alloc (.cells #[.int .i64 0, .int .i64 0, .int .i64 0, .slice none 0 0] 26)).alloc (.cells #[.int .i64 0, .int .i64 0, .int .i64 0, .int .i64 1, .int .i64 2] 3)).heap[w.heap.size]? = some (.cells #[.int .i64 0, .int .i64 0, .int .i64 0, .slice none 0 0] 26 (0, 0)) :=
    (((Below.refl (w.heap.size + 1) _).alloc (by simp) _).block w.heap.size (by omega)).trans (heap_alloc_new _ _)
  have s1 : ((w.alloc (.cells #[.int .i64 0, .int .i64 0, .int .i64 0, .slice none 0 0] 26)).alloc (.cells #[.int .i64 0, .int .i64 0, .int .i64 0, .int .i64 1, .int .i64 2] 3)).heap.size = w.heap.size + 2 := by simp
  simp only [World.size_alloc] at hL
  refine (l01PickInt_any A n c B g zs _ 5 5 _ _ [0, 0, 0, 1, 2] _ h1 hz hB hn hc1 hL (by omega) (by omega) (by omega)).mono ?_
  rintro e w2 ⟨⟨k, rfl, hk⟩, hc2, ho2⟩
  have hkk : k = 0 ∨ k = 1 ∨ k = 2 := by simp at hk; omega
  have s2 := ho2.size
  rw [s1] at s2
  have K2 := K1.trans (ho2.below (Nat.le_refl _) (by omega))
  have G2 := (ho2.block w.heap.size (by omega) (by omega)).trans G1
  clear hk hL h1 hc1 ho2 G1 K0 K1 KA s1
  generalize hW : w.heap.size = r at *
  go_wp2_with fail
  refine (l01Below_any A n c B g zs 256 _ (RV.below h (K2.mono hB) (Nat.le_refl _)) hz hB hn hc2 (by omega) (by omega)).mono ?_
  rintro e w3 ⟨⟨f, rfl, hf⟩, hc3, ho3⟩
  have s3 := ho3.size
  have K3 := K2.trans (ho3.below (Nat.le_refl _) (by omega))
  have G3 := (ho3.block r (by omega) (by omega)).trans G2
  clear K2 G2 hc2 ho3
  go_wp2_with fail
  refine (l01Below_any A n c B g zs 12 _ (RV.below h (K3.mono hB) (Nat.le_refl _)) hz hB hn hc3 (by omega) (by omega)).mono ?_
  rintro e w4 ⟨⟨l, rfl, hl⟩, hc4, ho4⟩
  have s4 := ho4.size
  have K4 := K3.trans (ho4.below (Nat.le_refl _) (by omega))
  have G4 := (ho4.block r (by omega) (by omega)).trans G3
  clear K3 G3 hc3 ho4
  have H5 := heap_alloc_new w4 (.cells #[.int .i64 k, .int .i64 f, .int .i64 l, .slice none 0 0] 26)
  have G5 : (w4.alloc (.cells #[.int .i64 k, .int .i64 f, .int .i64 l, .slice none 0 0] 26)).heap[r]? = some (.cells #[.int .i64 0, .int .i64 0, .int .i64 0, .slice none 0 0] 26) := by
    rw [Below.heap_alloc _ _ _ (by omega), G4]
  have K5 := K4.alloc (by omega) (.cells #[.int .i64 k, .int .i64 f, .int .i64 l, .slice none 0 0] 26)
  by_cases hk0 : k = 0
  · subst hk0
    obtain ⟨a1, a2, a3, a4, _, _, _, _⟩ := cells4 H5
    have hc5 := hc4.below ((Below.refl w4.heap.size w4).alloc (Nat.le_refl _) (.cells #[.int .i64 0, .int .i64 f, .int .i64 l, .slice none 0 0] 26)) (by omega)
    go_wp2_with fail
    refine (l01Below_any A n c B g zs 10 _ (RV.below h (K5.mono hB) (Nat.le_refl _)) hz hB hn hc5 (by omega) (by omega)).mono ?_
    rintro e w6 ⟨⟨x, rfl, hx⟩, hc6, ho6⟩
    have s6 := ho6.size
    simp only [World.size_alloc] at s6
    have K6 := K5.trans (ho6.below (Nat.le_refl _) (by simp; omega))
    have G6 := (ho6.block r (by simp; omega) (by omega)).trans G5
    have H6 := (ho6.block w4.heap.size (by simp) (by omega)).trans H5
    generalize hp : w4.heap.size = pb at *
    clear a1 a2 a3 a4 hc5 K5 G5 H5 ho6 G4 K4 hc4
    obtain ⟨x0, rfl⟩ := Int.eq_ofNat_of_zero_le hx.1
    have hx9 : x0 ≤ 9 := by omega
    clear hx
    go_wp2
    go_loopw [4] (fun i wr => ∃ q : Nat, i = .int .i64 q ∧ ∃ (ds : List Int) (D : Option Addr) (cd : Nat), ds.length + q ≤ 10 ∧ 1 ≤ ds.length + q ∧ Hid (∀ z ∈ ds, 0 ≤ z ∧ z ≤ 262143) ∧ Own wr (pb + 1) wr.heap.size D ds.length cd ds ∧ Cur wr g A n c ∧ Below g w wr ∧ pb + 1 ≤ wr.heap.size ∧ wr.heap[r]? = some (.cells #[.int .i64 0, .int .i64 0, .int .i64 0, .slice none 0 0] 26) ∧ wr.heap[pb]? = some (.cells #[.int .i64 0, .int .i64 f, .int .i64 l, .slice D ds.length cd] 26)) (fun i _ => (intOf i).toNat)
    case atStart => exact ⟨x0 + 1, by go_num, [], none, 0, by simp; omega, by simp, Lib.hid (fun z hz => by cases hz), Own.nil, hc6, K6, by omega, G6, H6⟩
    case round =>
      obtain ⟨q, rfl, ds, D, cd, hq, hq1, hds, hown, hcur, K, hps, GR, HP⟩ := hrel
      clear K6 G6 H6 hc6 s6
      by_cases hq0 : 0 < q
      · obtain ⟨a1, a2, a3, a4, _, _, _, f4⟩ := cells4 HP
        have RA : RB wr.drew B A n zs := RV.drewN (RV.below h (K.mono hB) (Nat.le_refl _)) 1
        have CA : Cur wr.drew g A n c := hcur
        have a4d : wr.drew.cell? ⟨pb, 3, none⟩ = some (.slice D ds.length cd) := a4
        go_wp2_with fail
        go_region_law (first
          | (refine step_append_ints rfl _ _ _ rfl Try.underlying24 infoInt _ _ _ _ _ _ rfl ((hown8.alloc _)) _ _ _ _ _ rfl (ri_one _ _ _) (by omega) (by simp; omega) ?_; intro A9 c9 w9 ho9 hoff9 hb9; have s9 := hb9.size; simp only [World.size_alloc] at s9
             have R9 := (((Below.refl w8.heap.size w8).alloc (Nat.le_refl _) (.cells #[.int .i64 (x7 * x8)] 3)).mono (show pb + 1 ≤ w8.heap.size by omega)).trans hb9
             have H9 := (R9.block pb (by omega)).trans H8
             have G9 := (R9.block r (by omega)).trans G8
             have f9 := (cells4 H9).2.2.2.2.2.2.2
             have c9' := (cells4 H9).2.2.2.1)
          | (go_simp; go_at_call 62; first
             | ((with_reducible refine (l01Below_big A n c B g zs 512 _ RA hz hB hn CA (by omega) (by omega)).mono ?_); rintro e w7 ⟨⟨x7, rfl, hx7⟩, hc7, ho7⟩; have s7 := ho7.size; simp only [World.size_drew] at s7
                have R7 : RB w7 B A n zs := RV.below RA (ho7.below hB (by simp; omega)) (Nat.le_refl _)
                have H7 := (ho7.block pb (by simp; omega) (by omega)).trans HP
                have G7 := (ho7.block r (by simp; omega) (by omega)).trans GR
                have c7' := (cells4 H7).2.2.2.1)
             | ((with_reducible refine (l01Below_big A n c B g zs 512 _ R7 hz hB hn hc7 (by omega) (by omega)).mono ?_); rintro e w8 ⟨⟨x8, rfl, hx8⟩, hc8, ho8⟩; have s8 := ho8.size
                have H8 := (ho8.block pb (by omega) (by omega)).trans H7
                have G8 := (ho8.block r (by omega) (by omega)).trans G7
                have c8' := (cells4 H8).2.2.2.1
                have c8a := (cells4 ((Below.heap_alloc w8 (.cells #[.int .i64 (x7 * x8)] 3) pb (by omega)).trans H8)).2.2.2.1
                have hown8 := (Own.off (Own.off hown (Off.trans (Off.drew (Off.refl _ _ _)) ho7) (by omega)) ho8 (by omega))
                have m1 : 0 ≤ x7 * x8 := Int.mul_nonneg hx7.1 hx8.1
                have m2 : x7 * x8 ≤ 511 * 511 := Int.mul_le_mul (by omega) (by omega) hx8.1 (by omega)
                have m3 : IntKind.i64.wrap (x7 * x8) = x7 * x8 := IntWalk.i64_in _ (by omega))))
        all_goals
          have G10 := heap_far G9 (p := ⟨pb, 3, none⟩) (by simp; omega) (.slice A9 (ds.length + 1) c9)
          have H10 := heap_setCell_same (j := 3) H9 (.slice A9 (ds.length + 1) c9)
          have O10 : Own (w9.setCell ⟨pb, 3, none⟩ (.slice A9 (ds.length + 1) c9)) (pb + 1) w9.heap.size A9 (ds.length + 1) c9 (ds ++ [x7 * x8]) := OwnV.far ho9 (by simp) _
          have K10 : Below g w (w9.setCell ⟨pb, 3, none⟩ (.slice A9 (ds.length + 1) c9)) :=
            (((((K.drew).trans (ho7.below (Nat.le_refl _) (by simp; omega))).trans (ho8.below (Nat.le_refl _) (by omega))).trans (R9.mono (by omega))).setCell (by simp; omega) _)
          have C10 : Cur (w9.setCell ⟨pb, 3, none⟩ (.slice A9 (ds.length + 1) c9)) g A n c := hc8.below ((R9.mono (show pb ≤ pb + 1 by omega)).setCell (Nat.le_refl _) _) (by omega)
          have s10 : (w9.setCell ⟨pb, 3, none⟩ (.slice A9 (ds.length + 1) c9)).heap.size = w9.heap.size := by simp
          rw [← s10] at O10
          generalize w9.setCell ⟨pb, 3, none⟩ (.slice A9 (ds.length + 1) c9) = w10 at G10 H10 O10 K10 C10 s10 ⊢
          clear c8a c8' c7' c9' a4d a1 a2 a3 a4 m3 CA
          go_wp2
          go_roundw
          case rel => exact ⟨q - 1, by go_num, ds ++ [x7 * x8], A9, c9, by simp; omega, by simp; omega, Lib.hid (fun z hz => by rcases List.mem_append.1 hz with h1 | h1; exact hds.out z h1; rcases List.mem_singleton.1 h1 with rfl; omega), by simpa using O10, C10, K10, by omega, G10, by simpa using H10⟩
          case measure => simp [intOf]; omega
      · obtain rfl : q = 0 := by omega
        obtain ⟨a1, a2, a3, a4, _, _, _, _⟩ := cells4 HP
        obtain ⟨b1, b2, b3, b4, f5, f6, f7, f8⟩ := cells4 GR
        have J1 := heap_setCell_same (j := 0) GR (.int .i64 0)
        have J2 := heap_setCell_same (j := 1) J1 (.int .i64 f)
        have J3 := heap_setCell_same (j := 2) J2 (.int .i64 l)
        have J4 := heap_setCell_same (j := 3) J3 (.slice D ds.length cd)
        have j1 := (cells4 J1).1
        have j2 := (cells4 J2).2.1
        have j3 := (cells4 J3).2.2.1
        have j4 := (cells4 J4).2.2.2.1
        clear J1 J2 J3 J4
        go_wp2
        refine bodyPost_ret (v := .agg #[.int .i64 0, .int .i64 f, .int .i64 l, .slice D ds.length cd]) (by simp [results, Try.results47, go_sem, j1, j2, j3, j4]) rfl ⟨0, f, l, ds, D, cd, rfl, ?_, ?_, ?_⟩
        · exact pkB_0 (by omega) (by omega) hds.out (by omega) (by omega)
        · simp only [World.size_setCell]
          exact OwnV.mono (OwnV.far (OwnV.far (OwnV.far (OwnV.far hown (by simp; omega) _) (by simp; omega) _) (by simp; omega) _) (by simp; omega) _) (by omega) (Nat.le_refl _)
        · exact (((K.setCell (by simp; omega) _).setCell (by simp; omega) _).setCell (by simp; omega) _).setCell (by simp; omega) _
  · have hkb : (k == 0) = false := by simp [hk0]
    obtain ⟨a1, a2, a3, a4, _, _, _, _⟩ := cells4 H5
    obtain ⟨b1, b2, b3, b4, f5, f6, f7, f8⟩ := cells4 G5
    have J1 := heap_setCell_same (j := 0) G5 (.int .i64 k)
    have J2 := heap_setCell_same (j := 1) J1 (.int .i64 f)
    have J3 := heap_setCell_same (j := 2) J2 (.int .i64 l)
    have J4 := heap_setCell_same (j := 3) J3 (.slice none 0 0)
    have j1 := (cells4 J1).1
    have j2 := (cells4 J2).2.1
    have j3 := (cells4 J3).2.2.1
    have j4 := (cells4 J4).2.2.2.1
    clear J1 J2 J3 J4
    go_wp2
    refine bodyPost_ret (v := .agg #[.int .i64 k, .int .i64 f, .int .i64 l, .slice none 0 0]) (by simp [results, Try.results47, go_sem, j1, j2, j3, j4]) rfl ⟨k, f, l, [], none, 0, rfl, ?_, Own.nil, ?_⟩
    · exact pkB_1 (by omega) (by omega) (by omega)
    · exact (((K5.setCell (by simp; omega) _).setCell (by simp; omega) _).setCell (by simp; omega) _).setCell (by simp; omega) _
set_option maxHeartbeats 1000000 in
theorem drawLinePacket_any (A : Option Addr) (n c B : Nat) (zs : List Int) (w : World) (h : RB w B A n zs) (hz : BY zs) (hB : B ≤ w.heap.size) (hn : n ≤ 1048576) :
    Calls Try.prog 13 #[.slice A n c] w (RetPk w w.heap.size) := by
  have G0 := heap_alloc_new w (.cells #[.int .i64 0, .int .i64 0, .int .i64 0, .slice none 0 0] 26)
  have K0 := (Below.refl w.heap.size w).alloc (Nat.le_refl _) (.cells #[.int .i64 0, .int .i64 0, .int .i64 0, .slice none 0 0] 26)
  go_enter Try.func13, Try.ntmps13
  go_wp2_with fail
  refine (l01New_any A n c B zs _ (RV.below h (K0.mono hB) (Nat.le_refl _)) hz (by simp; omega) hn).mono ?_
  rintro e w1 ⟨⟨g, rfl, hg1, hg2, hc1⟩, hb1⟩
  simp only [World.size_alloc] at hg1
  have K1 := K0.trans (hb1.mono (by simp))
  have G1 := (hb1.block w.heap.size (by simp)).trans G0
  go_wp2_with fail
  refine (l25Packet_any A n c B g zs _ (RV.below h (K1.mono hB) (Nat.le_refl _)) hz (by omega) hn hc1).mono ?_
  rintro e w2 ⟨k, f, l, ds, D, cd, rfl, hpk, hown, hb2⟩
  have K2 := K1.trans (hb2.mono (by omega))
  have GR := (hb2.block w.heap.size (by omega)).trans G1
  clear K0 K1 G0 G1 hb1 hb2 hc1
  obtain ⟨b1, b2, b3, b4, f5, f6, f7, f8⟩ := cells4 GR
  have J1 := heap_setCell_same (j := 0) GR (.int .i64 k)
  have J2 := heap_setCell_same (j := 1) J1 (.int .i64 f)
  have J3 := heap_setCell_same (j := 2) J2 (.int .i64 l)
  have J4 := heap_setCell_same (j := 3) J3 (.slice D ds.length cd)
  have j1 := (cells4 J1).1
  have j2 := (cells4 J2).2.1
  have j3 := (cells4 J3).2.2.1
  have j4 := (cells4 J4).2.2.2.1
  clear J1 J2 J3 J4
  go_wp2
  refine bodyPost_ret (v := .agg #[.int .i64 k, .int .i64 f, .int .i64 l, .slice D ds.length cd]) (by simp [results, Try.results13, go_sem, j1, j2, j3, j4]) rfl ⟨k, f, l, ds, D, cd, rfl, hpk, ?_, ?_⟩
  · simp only [World.size_setCell]
    exact OwnV.mono (OwnV.far (OwnV.far (OwnV.far (OwnV.far hown (by simp; omega) _) (by simp; omega) _) (by simp; omega) _) (by simp; omega) _) (by omega) (Nat.le_refl _)
  · exact (((K2.setCell (by simp) _).setCell (by simp) _).setCell (by simp) _).setCell (by simp) _
end Go.Proofs.Ytkmbblooofmnpaa
