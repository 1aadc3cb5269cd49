/- The walk of FnPackets. -/
import Derived.Test.YtkmbblooofmnpaaPktLaw
import Derived.Test.YtkmbblooofmnpaaDraw2
import Derived.Test.YtkmbblooofmnpaaAt
import Derived.Test.YtkmbblooofmnpaaApp3
namespace Go.Proofs.Ytkmbblooofmnpaa
open Go.RowKit Go.Deep
theorem packLen_ok {k f l : Int} {ds : List Int} (h : pkB k f l ds = true) : packLen k ds.length = ((7 + 5 * ds.length : Nat) : Int) := by
  obtain ⟨_, _, _, pk⟩ := pkB_t h
  unfold packLen
  rcases pk with ⟨rfl, h1, h2⟩ | ⟨hk, h0⟩
  · rw [if_pos (by simp [inB_t.2 (show (1 : Int) ≤ (ds.length : Int) ∧ (ds.length : Int) ≤ 16 by omega)])]; omega
  · rw [if_neg (by rcases hk with rfl | rfl <;> simp), if_pos (by rcases hk with rfl | rfl <;> simp [h0])]; omega
set_option maxRecDepth 10000 in
set_option maxHeartbeats 4000000 in
theorem walk_fnPackets (w : World) (A : Option Addr) (n c : Nat) (zs : List Int) (r0 : RB w w.heap.size A n zs) (hz : BY zs) (_g : n ≤ c) (_i : c ≤ maxLen) :
    Calls Try.prog 3 #[.slice A n c] w fun e w' => e = .returned (.bool true) ∧ Below w.heap.size w w' := by
  by_cases hbig : 1048576 < n
  · go_enter Try.func3, Try.ntmps3
    go_wp2_with (go_at_call 12; refine (big_any _ _ _ _).mono ?_; rintro e w' ⟨rfl, rfl⟩)
    go_ret
    exact ⟨rfl, Below.refl _ _⟩
  · have hn : n ≤ 1048576 := by omega
    go_enter Try.func3, Try.ntmps3
    go_wp2_with (go_at_call 12; refine (big_any _ _ _ _).mono ?_; rintro e w' ⟨rfl, rfl⟩)
    refine (drawLinePacket_any A n c _ zs _ r0 hz (Nat.le_refl _) hn).mono ?_
    rintro e w1 ⟨k, f, l, ds, D, cd, rfl, hpk, hoD, hb1⟩
    have s1 := hb1.size
    have hL16 : ds.length ≤ 16 := by have := pkB_t hpk; omega
    have HLEN := Lib.hid (pkF_len7 hpk)
    have HPL := Lib.hid (packLen_ok hpk)
    have HR := Lib.hid (pk_read hpk [5, 9, 0])
    have HP1 := heap_alloc_new w1 (.cells #[.int .i64 k, .int .i64 f, .int .i64 l, .slice D ds.length cd] 26)
    have K1 := hb1.alloc (by omega) (.cells #[.int .i64 k, .int .i64 f, .int .i64 l, .slice D ds.length cd] 26)
    have oD1 := hoD.alloc (.cells #[.int .i64 k, .int .i64 f, .int .i64 l, .slice D ds.length cd] 26)
    clear hb1 hoD
    go_wp2_with fail
    refine (packetNibbles_i k f l D ds.length cd _ ds _ oD1.ri (by simp) (by omega)).mono ?_
    rw [hpk]
    rintro e w2 ⟨AL, nL, cL, rfl, hoL, hb2⟩
    obtain rfl : nL = 7 + 5 * ds.length := hoL.len.symm.trans HLEN.out
    simp only [World.size_alloc] at hoL
    have s2 := hb2.size
    simp only [World.size_alloc] at s2
    have K2 := K1.trans (hb2.mono (by simp; omega))
    have oD2 := oD1.below hb2 (by simp)
    have HP2 := (hb2.block w1.heap.size (by simp)).trans HP1
    clear K1 oD1 HP1 hb2
    have HL2 := own_lit0 w2
    have RL2 : RI (w2.alloc (.cells #[] 3)) w2.heap.size AL (7 + 5 * ds.length) (pkF k f l ds) := RI.alloc hoL.ri (Nat.le_refl _) _
    go_wp2_with (at_builtin; first
      | (refine wpList_append_ints rfl _ _ _ rfl Try.underlying24 infoInt _ _ _ _ _ _ rfl HL2 _ _ _ _ _ rfl RL2 (by omega) (by simp) ?_; intro A3 c3 w3 ho3 hoff3 hb3; rw [Nat.zero_add, List.nil_append] at ho3; have R3 := ri_three w3 5 9 0; have s3 := hb3.size; simp only [World.size_alloc] at s3)
      | (refine wpList_append_ints rfl _ _ _ rfl Try.underlying24 infoInt _ _ _ _ _ _ rfl (ho3.alloc _) _ _ _ _ _ rfl R3 (by omega) (by simp; omega) ?_; intro A4 c4 w4 ho4 hoff4 hb4))
    have s4 := hb4.size
    simp only [World.size_alloc] at s4
    have K24 : Below w2.heap.size w2 w4 := ((((Below.refl w2.heap.size w2).alloc (Nat.le_refl _) (.cells #[] 3)).trans hb3).alloc (by omega) (.cells #[.int .i64 5, .int .i64 9, .int .i64 0] 3)).trans hb4
    clear HL2 RL2 ho3 hoff3 hb3 R3 hoff4 hb4
    have K4 := bthen K2 K24 (by omega)
    have oD4 := oD2.below K24 (by omega)
    have oL4 := hoL.below K24 (Nat.le_refl _)
    have HP4 := (K24.block w1.heap.size (by omega)).trans HP2
    clear K24 K2 oD2 hoL HP2
    refine (readPacket_i A4 _ c4 _ (pkF k f l ds ++ [5, 9, 0]) _ ho4.ri (Nat.le_refl _) (by omega) ho4.cap).mono ?_
    rintro e w5 hr5
    rcases hr5 with ⟨hno, _⟩ | ⟨_, AQ, cQ, rfl, hoQ, hb5⟩
    · exact absurd (hno.symm.trans HR.out.1) (by decide)
    rw [HR.out.2.1, HR.out.2.2.1, HR.out.2.2.2.1, HR.out.2.2.2.2.1]
    rw [HR.out.2.2.2.2.1, HR.out.2.2.2.2.2] at hoQ
    have s5 := hb5.size
    have K5 := bthen K4 hb5 (by omega)
    have oD5 := oD4.below hb5 (by omega)
    have oL5 := oL4.below hb5 (by omega)
    have HP5 := (hb5.block w1.heap.size (by omega)).trans HP4
    clear ho4 K4 oD4 oL4 HP4 hb5
    have HQ6 := heap_alloc_new w5 (.cells #[.int .i64 k, .int .i64 f, .int .i64 l, .slice AQ ds.length cQ] 26)
    have HP6 := (Below.heap_alloc w5 (.cells #[.int .i64 k, .int .i64 f, .int .i64 l, .slice AQ ds.length cQ] 26) w1.heap.size (by omega)).trans HP5
    have K6 := K5.alloc (by omega) (.cells #[.int .i64 k, .int .i64 f, .int .i64 l, .slice AQ ds.length cQ] 26)
    have oD6 := oD5.alloc (.cells #[.int .i64 k, .int .i64 f, .int .i64 l, .slice AQ ds.length cQ] 26)
    have oL6 := oL5.alloc (.cells #[.int .i64 k, .int .i64 f, .int .i64 l, .slice AQ ds.length cQ] 26)
    have oQ6 := hoQ.alloc (.cells #[.int .i64 k, .int .i64 f, .int .i64 l, .slice AQ ds.length cQ] 26)
    clear hoQ K5 oD5 oL5 HP5
    obtain ⟨a1, a2, a3, a4, _, _, _, _⟩ := cells4 HQ6
    obtain ⟨b1, b2, b3, b4, _, _, _, _⟩ := cells4 HP6
    go_wp2_with (go_at_call 16; refine (packetLength_i _ _ _).mono ?_; rw [HPL.out]; rintro e w' ⟨rfl, rfl⟩)
    refine (sameInts_t AQ D ds.length ds.length cQ cd _ _ ds _ oQ6.ri oD6.ri (by omega)).mono ?_
    rintro e w7 ⟨rfl, hb7⟩
    clear a1 a2 a3 a4 b1 b2 b3 b4
    have s7 := hb7.size
    simp only [World.size_alloc] at s7
    have K7 := bthen K6 hb7 (by simp; omega)
    have oL7 := oL6.below hb7 (by simp; omega)
    have oQ7 := oQ6.below hb7 (by simp)
    have HQ7 := (hb7.block w5.heap.size (by simp)).trans HQ6
    clear K6 oL6 oD6 oQ6 HQ6 HP6 hb7
    have HL7 := own_lit0 w7
    have RL7 : RI (w7.alloc (.cells #[] 3)) w2.heap.size AL (7 + 5 * ds.length) (pkF k f l ds) := RI.alloc oL7.ri (by omega) _
    go_wp2_with (at_builtin; refine wpList_append_ints rfl _ _ _ rfl Try.underlying24 infoInt _ _ _ _ _ _ rfl HL7 _ _ _ _ _ rfl RL7 (by omega) (by simp) ?_; intro A8 c8 w8 ho8 hoff8 hb8; rw [Nat.zero_add, List.nil_append] at ho8)
    have s8 := hb8.size
    simp only [World.size_alloc] at s8
    have L8 : Below w7.heap.size w7 w8 := ((Below.refl _ _).alloc (Nat.le_refl _) _).trans hb8
    have K8 := bthen K7 L8 K7.size
    have oL8 := oL7.below L8 (by omega)
    have oQ8 := oQ7.below L8 (by omega)
    have HQ8 := (L8.block w5.heap.size (by omega)).trans HQ7
    have rr8 := RB.below r0 K8 (Nat.le_refl _)
    clear HL7 RL7 hb8 hoff8 K7 oL7 oQ7 L8 HQ7
    refine (at_int A n c _ zs 0 _ rr8 hz hn (by omega) (by omega)).mono ?_
    rintro e w' ⟨rfl, rfl⟩
    have rA := atF_rng hz 0
    have rB := atF_rng hz 1
    obtain ⟨x, hx⟩ := Int.eq_ofNat_of_zero_le rA.1
    simp only [Int.toNat_zero]
    rw [hx] at rA ⊢
    obtain ⟨y, hy⟩ := Int.eq_ofNat_of_zero_le rB.1
    rw [hy] at rB
    have HY := Lib.hid hy
    clear hx hy
    have hm := Nat.mod_lt x (show 0 < 2 + 5 * ds.length by omega)
    obtain ⟨i, hi⟩ : ∃ i, i = 5 + x % (2 + 5 * ds.length) := ⟨_, rfl⟩
    have hi5 : 5 ≤ i := by omega
    have hiN : i < 7 + 5 * ds.length := by omega
    have hne0 : (((2 + 5 * ds.length : Nat) : Int) == 0) = false := by simp; omega
    have e5 : ((7 + 5 * ds.length : Nat) : Int) - 5 = ((2 + 5 * ds.length : Nat) : Int) := by omega
    go_wp2
    have ew : wrap64 (5 + (x : Int) % (7 + 5 * (ds.length : Int) - 5)) = (i : Int) := by
      rw [show (7 + 5 * (ds.length : Int) - 5) = ((2 + 5 * ds.length : Nat) : Int) by omega, ← Int.natCast_emod, hi]
      unfold wrap64
      omega
    rw [ew]
    clear ew e5 hne0 hi hm
    obtain ⟨gb, rfl, hg1, hg2, hc8, hf8⟩ := ho8.cell hiN
    have rz := pkF_rng hpk _ (zat_mem (show i < (pkF k f l ds).length by have := HLEN.out; omega))
    obtain ⟨v, hv⟩ : ∃ v : Int, v = (zat (pkF k f l ds) i + 1 + (y : Int) % 15) % 16 := ⟨_, rfl⟩
    have HC := Lib.hid (pk_changed hpk i v hi5 hiN (by omega) (by omega))
    have HS := Lib.hid (pk_short hpk (6 + 5 * ds.length) (by omega) (by omega))
    have R9 := ho8.set i v
    have K9 := K8.setCell (p := ⟨gb, i, none⟩) (by show w.heap.size ≤ gb; omega) (.int .i64 v)
    have L9 : Off w7.heap.size w8.heap.size w8 (w8.setCell ⟨gb, i, none⟩ (.int .i64 v)) := (Off.refl _ _ _).setCell hg1 hg2 _
    have oL9 := oL8.off L9 (.inl (by omega))
    have oQ9 := oQ8.off L9 (.inl (by omega))
    have HQ9 := (L9.block w5.heap.size (by omega) (by omega)).trans HQ8
    clear K8 oL8 oQ8 HQ8 L9 ho8
    have i1 : (0 : Int) ≤ (i : Int) := by omega
    have i2 : (i : Int) < ((7 + 5 * ds.length : Nat) : Int) := by omega
    have i3 : (i : Int) < 7 + 5 * (ds.length : Int) := by omega
    have rr9 : RB w8.drew w.heap.size A n zs := RV.drewN rr8 1
    go_region_with (go_at_call 18; refine (at_int A n c _ zs 1 _ rr9 hz hn (by omega) (by omega)).mono ?_; rintro e w' ⟨rfl, rfl⟩)
    all_goals
      have hvw : (IntKind.i64.wrap (IntKind.i64.wrap (zat (pkF k f l ds) i + 1) + (atF zs 1).tmod 15)).tmod 16 = v := by
        rw [HY.out, Int.tmod_eq_emod_of_nonneg (show (0 : Int) ≤ (y : Int) by omega), IntWalk.i64_in (zat (pkF k f l ds) i + 1) (by omega), IntWalk.i64_in _ (by omega), Int.tmod_eq_emod_of_nonneg (by omega), hv]
      rw [hvw]
      clear hvw
      have q9 : Own (w8.setCell ⟨gb, i, none⟩ (.int .i64 v)).drew w7.heap.size w8.heap.size (some ⟨gb, 0, none⟩) (7 + 5 * ds.length) c8 ((pkF k f l ds).set i v) := R9
      have qL : Own (w8.setCell ⟨gb, i, none⟩ (.int .i64 v)).drew (w1.heap.size + 1) w2.heap.size AL (7 + 5 * ds.length) cL (pkF k f l ds) := oL9
      have qQ : Own (w8.setCell ⟨gb, i, none⟩ (.int .i64 v)).drew w4.heap.size w5.heap.size AQ ds.length cQ ds := oQ9
      have qH : (w8.setCell ⟨gb, i, none⟩ (.int .i64 v)).drew.heap[w5.heap.size]? = some (.cells #[.int .i64 k, .int .i64 f, .int .i64 l, .slice AQ ds.length cQ] 26) := HQ9
      have qK : Below w.heap.size w (w8.setCell ⟨gb, i, none⟩ (.int .i64 v)).drew := K9.drew
      have s9 : (w8.setCell ⟨gb, i, none⟩ (.int .i64 v)).drew.heap.size = w8.heap.size := by show (w8.setCell _ _).heap.size = _; simp
      generalize (w8.setCell ⟨gb, i, none⟩ (.int .i64 v)).drew = w9 at q9 qL qQ qH qK s9 ⊢
      clear R9 oL9 oQ9 HQ9 K9 rr9 rr8 hc8 hf8 i1 i2 i3 hv HY
      go_wp2_with fail
      refine (readPacket_i (some ⟨gb, 0, none⟩) _ c8 _ ((pkF k f l ds).set i v) _ q9.ri (by omega) (by omega) q9.cap).mono ?_
      rintro e w10 hr10
      rcases hr10 with ⟨_, rfl, hb10⟩ | ⟨hyes, _⟩
      case inr => exact absurd (hyes.symm.trans HC.out) (by decide)
      have s10 := hb10.size
      have K10 := (bthen qK hb10 (by omega)).alloc (by omega) (.cells #[.int .i64 0, .int .i64 0, .int .i64 0, .slice none 0 0] 26)
      have oL10 := (qL.below hb10 (by omega)).alloc (.cells #[.int .i64 0, .int .i64 0, .int .i64 0, .slice none 0 0] 26)
      have oQ10 := (qQ.below hb10 (by omega)).alloc (.cells #[.int .i64 0, .int .i64 0, .int .i64 0, .slice none 0 0] 26)
      have H10 := (Below.heap_alloc w10 (.cells #[.int .i64 0, .int .i64 0, .int .i64 0, .slice none 0 0] 26) w5.heap.size (by omega)).trans ((hb10.block w5.heap.size (by omega)).trans qH)
      clear qK qL qQ qH q9 hb10
      have hcap : (7 + 5 * ds.length : Nat) ≤ cL := oL10.cap
      have j1 : (0 : Int) ≤ 7 + 5 * (ds.length : Int) - 1 := by omega
      have j2 : 7 + 5 * (ds.length : Int) - 1 ≤ (cL : Int) := by omega
      have j3 : (7 + 5 * (ds.length : Int) - 1).toNat = 6 + 5 * ds.length := by omega
      go_wp2_with fail
      clear j1 j2 j3
      refine (readPacket_i AL (6 + 5 * ds.length) cL _ ((pkF k f l ds).take (6 + 5 * ds.length)) _ (oL10.ri.take (by omega)) (by simp; omega) (by omega) (by omega)).mono ?_
      rintro e w11 hr11
      rcases hr11 with ⟨_, rfl, hb11⟩ | ⟨hyes, _⟩
      case inr => exact absurd (hyes.symm.trans HS.out) (by decide)
      have s11 := hb11.size
      simp only [World.size_alloc] at s11
      have K11 := (bthen K10 hb11 (by simp; omega)).alloc (by omega) (.cells #[.int .i64 0, .int .i64 0, .int .i64 0, .slice none 0 0] 26)
      have oQ11 := (oQ10.below hb11 (by simp; omega)).alloc (.cells #[.int .i64 0, .int .i64 0, .int .i64 0, .slice none 0 0] 26)
      have H11 := (Below.heap_alloc w11 (.cells #[.int .i64 0, .int .i64 0, .int .i64 0, .slice none 0 0] 26) w5.heap.size (by omega)).trans ((hb11.block w5.heap.size (by simp; omega)).trans H10)
      clear K10 oL10 oQ10 H10 hb11
      obtain ⟨a1, a2, a3, a4, _, _, _, _⟩ := cells4 H11
      go_wp2_with fail
      refine (packetOk_i k f l AQ ds.length cQ _ ds _ oQ11.ri (by simp; omega) (by omega)).mono ?_
      rw [hpk]
      rintro e w12 ⟨rfl, hb12⟩
      go_wp2
      go_ret
      exact ⟨rfl, bthen K11 hb12 (by simp; omega)⟩
end Go.Proofs.Ytkmbblooofmnpaa
