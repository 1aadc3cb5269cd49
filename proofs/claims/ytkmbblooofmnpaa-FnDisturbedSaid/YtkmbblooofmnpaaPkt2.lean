/- The reference's PacketLength, PacketOk, PacketNibbles. -/
import Derived.Test.YtkmbblooofmnpaaPkt
namespace Go.Proofs.Ytkmbblooofmnpaa
open Go.RowKit Go.Deep
theorem packetLength_s (k d : Int) (w : World) (hd0 : 0 ≤ d) (hd : d ≤ 4294967296) :
    Calls Try.prog 73 #[.int .i64 k, .int .i64 d] w fun e w' => e = .returned (.int .i64 (packLen k d)) ∧ w = w' := by
  cases h : inB d 1 16
  · have hx := inB_f.1 h
    by_cases d0 : d = 0
    · subst d0
      by_cases k0 : k = 0
      · subst k0
        go_enter Try.func73, Try.ntmps73
        go_wp2_with (go_at_call 58; refine (l01In_any _ _ _ _).mono ?_; rintro e w' ⟨rfl, rfl⟩)
        all_goals (go_ret; exact ⟨by simp [packLen, *], rfl⟩)
      · have k0' : (k == 0) = false := by simp [k0]
        by_cases k1 : k = 1
        · subst k1
          go_enter Try.func73, Try.ntmps73
          go_wp2_with (go_at_call 58; refine (l01In_any _ _ _ _).mono ?_; rintro e w' ⟨rfl, rfl⟩)
          all_goals (go_ret; exact ⟨by simp [packLen, *], rfl⟩)
        · have k1' : (k == 1) = false := by simp [k1]
          by_cases k2 : k = 2
          · subst k2
            go_enter Try.func73, Try.ntmps73
            go_wp2_with (go_at_call 58; refine (l01In_any _ _ _ _).mono ?_; rintro e w' ⟨rfl, rfl⟩)
            all_goals (go_ret; exact ⟨by simp [packLen, *], rfl⟩)
          · have k2' : (k == 2) = false := by simp [k2]
            go_enter Try.func73, Try.ntmps73
            go_wp2_with (go_at_call 58; refine (l01In_any _ _ _ _).mono ?_; rintro e w' ⟨rfl, rfl⟩)
            all_goals (go_ret; exact ⟨by simp [packLen, *], rfl⟩)
    · have d0' : (d == 0) = false := by simp [d0]
      have hp : packLen k d = -1 := by simp [packLen, h, d0]
      by_cases k0 : k = 0
      · subst k0
        go_enter Try.func73, Try.ntmps73
        go_wp2_with (go_at_call 58; refine (l01In_any _ _ _ _).mono ?_; rintro e w' ⟨rfl, rfl⟩)
        all_goals (go_ret; exact ⟨ret_int hp.symm, rfl⟩)
      · have k0' : (k == 0) = false := by simp [k0]
        go_enter Try.func73, Try.ntmps73
        go_wp2_with (go_at_call 58; refine (l01In_any _ _ _ _).mono ?_; rintro e w' ⟨rfl, rfl⟩)
        all_goals (go_ret; exact ⟨ret_int hp.symm, rfl⟩)
  · have hx := inB_t.1 h
    have d0 : ((d : Int) == 0) = false := by simp; omega
    by_cases k0 : k = 0
    · subst k0
      have hp : packLen 0 d = 7 + 5 * d := by simp [packLen, h]
      go_enter Try.func73, Try.ntmps73
      go_wp2_with (go_at_call 58; refine (l01In_any _ _ _ _).mono ?_; rintro e w' ⟨rfl, rfl⟩)
      all_goals (go_ret; exact ⟨ret_int hp.symm, rfl⟩)
    · have k0' : (k == 0) = false := by simp [k0]
      have hp : packLen k d = -1 := by simp [packLen, k0']; omega
      go_enter Try.func73, Try.ntmps73
      go_wp2_with (go_at_call 58; refine (l01In_any _ _ _ _).mono ?_; rintro e w' ⟨rfl, rfl⟩)
      all_goals (go_ret; exact ⟨ret_int hp.symm, rfl⟩)
theorem pkB_no4 {k f l : Int} {ds : List Int} (h : packLen k ds.length < 0) : pkB k f l ds = false := by
  have : decide (0 ≤ packLen k ds.length) = false := by simp; omega
  simp only [pkB, this]; simp
set_option maxHeartbeats 1000000 in
theorem packetOk_s (k f l : Int) (D : Option Addr) (nd cd B : Nat) (ds : List Int) (w : World) (h : RI w B D nd ds) (hB : B ≤ w.heap.size) (hn : nd ≤ 4294967296) :
    Calls Try.prog 61 #[.agg #[.int .i64 k, .int .i64 f, .int .i64 l, .slice D nd cd]] w fun e w' => e = .returned (.bool (pkB k f l ds)) ∧ Below w.heap.size w w' := by
  have hl := Lib.hid h.len
  have h0 : RI (w.alloc (.cells #[.int .i64 k, .int .i64 f, .int .i64 l, .slice D nd cd] 26)) B D nd ds := RI.alloc h hB _
  have K0 := (Below.refl w.heap.size w).alloc (Nat.le_refl _) (.cells #[.int .i64 k, .int .i64 f, .int .i64 l, .slice D nd cd] 26)
  by_cases hp : packLen k (nd : Int) < 0
  · have HF := Lib.hid (pkB_no4 (f := f) (l := l) (show packLen k ds.length < 0 by rw [h.len]; exact hp))
    go_enter Try.func61, Try.ntmps61
    go_wp2_with (go_at_call 73; refine (packetLength_s _ _ _ (by omega) (by omega)).mono ?_; rintro e w' ⟨rfl, rfl⟩)
    all_goals (go_ret; exact ⟨ret_bool HF.out.symm, K0⟩)
  · have HP := Lib.hid (show pkB k f l ds = (inB f 0 255 && inB l 0 15 && ds.all dotB) by
      have : decide (0 ≤ packLen k (ds.length : Int)) = true := by rw [h.len]; simp; omega
      simp only [pkB, this]; simp)
    have hp' : decide (packLen k (nd : Int) < 0) = false := by simp; omega
    cases h1 : inB f 0 255
    · go_enter Try.func61, Try.ntmps61
      go_wp2_with (first | (go_at_call 73; refine (packetLength_s _ _ _ (by omega) (by omega)).mono ?_; rintro e w' ⟨rfl, rfl⟩) | (go_at_call 58; refine (l01In_any _ _ _ _).mono ?_; rintro e w' ⟨rfl, rfl⟩))
      go_ret
      exact ⟨ret_bool (by rw [HP.out, h1]; simp), K0⟩
    · cases h2 : inB l 0 15
      · go_enter Try.func61, Try.ntmps61
        go_wp2_with (first | (go_at_call 73; refine (packetLength_s _ _ _ (by omega) (by omega)).mono ?_; rintro e w' ⟨rfl, rfl⟩) | (go_at_call 58; refine (l01In_any _ _ _ _).mono ?_; rintro e w' ⟨rfl, rfl⟩))
        go_ret
        exact ⟨ret_bool (by rw [HP.out, h2]; simp), K0⟩
      · have HP2 := Lib.hid (show pkB k f l ds = ds.all dotB by rw [HP.out, h1, h2]; simp)
        go_enter Try.func61, Try.ntmps61
        go_wp2_with (first | (go_at_call 73; refine (packetLength_s _ _ _ (by omega) (by omega)).mono ?_; rintro e w' ⟨rfl, rfl⟩) | (go_at_call 58; refine (l01In_any _ _ _ _).mono ?_; rintro e w' ⟨rfl, rfl⟩))
        go_loop [3] (fun i => ∃ m : Nat, m ≤ nd ∧ i = .int .i64 m ∧ Hid (∀ j, j < m → dotB (zat ds j) = true)) (fun i => nd - (intOf i).toNat)
        case atStart => exact ⟨0, Nat.zero_le _, rfl, Lib.hid (fun j hj => absurd hj (by omega))⟩
        case round =>
          obtain ⟨m, hm, rfl, hall⟩ := hrel
          by_cases hlt : m < nd
          · obtain ⟨b, off, rfl, hb, hc⟩ := h0.at_ hlt
            have hi1 : (0 : Int) ≤ (m : Int) := by omega
            have hi2 : (m : Int) < (nd : Int) := by omega
            have hdd : dotB (zat ds m) = inB (zat ds m) 0 262143 := rfl
            cases hin : inB (zat ds m) 0 262143
            · have hd := Lib.hid (all_false (p := dotB) (show m < ds.length by have := hl.out; omega) hin)
              clear hdd
              go_wp2_with (go_at_call 58; refine (l01In_any _ _ _ _).mono ?_; rintro e w' ⟨rfl, rfl⟩)
              go_ret
              exact ⟨ret_bool (by rw [HP2.out, hd.out]), K0⟩
            · have HI := Lib.hid (show dotB (zat ds m) = true from hin)
              clear hdd
              go_wp2_with (go_at_call 58; refine (l01In_any _ _ _ _).mono ?_; rintro e w' ⟨rfl, rfl⟩)
              go_round
              case rel => exact ⟨m + 1, by omega, by go_num, Lib.hid (fun j hj => by rcases Nat.lt_succ_iff_lt_or_eq.1 hj with h1 | h1; exact hall.out j h1; subst h1; exact HI.out)⟩
              case measure => simp [intOf]; omega
          · obtain rfl : m = nd := by omega
            have hd := Lib.hid (all_true (p := dotB) (fun j hj => hall.out j (by have := hl.out; omega)))
            go_wp2
            go_ret
            exact ⟨ret_bool (by rw [HP2.out, hd.out]), K0⟩
theorem sum_mod (S : Int) (h0 : 0 ≤ S) (h1 : S ≤ 1000000) : bits .and .i64 (S / 16) 15 = S % 256 / 16 ∧ bits .and .i64 S 15 = bits .and .i64 (S % 256) 15 := by
  obtain ⟨a, rfl⟩ := Int.eq_ofNat_of_zero_le h0
  have e1 : ((a : Int) / 16) = ((a / 16 : Nat) : Int) := by omega
  have e2 : ((a : Int) % 256) = ((a % 256 : Nat) : Int) := by omega
  rw [e1, e2, and15_nat _ (by omega), and15_nat _ (by omega), and15_nat _ (by omega)]
  constructor <;> omega
set_option maxRecDepth 10000 in
set_option maxHeartbeats 2000000 in
theorem packetNibbles_s (k f l : Int) (D : Option Addr) (nd cd B : Nat) (ds : List Int) (w : World) (h : RI w B D nd ds) (hB : B ≤ w.heap.size) (hn : nd ≤ 4294967296) :
    Calls Try.prog 33 #[.agg #[.int .i64 k, .int .i64 f, .int .i64 l, .slice D nd cd]] w (RetOwnBool w (pkF k f l ds) (pkB k f l ds)) := by
  have K0 := (Below.refl w.heap.size w).alloc (Nat.le_refl _) (.cells #[.int .i64 k, .int .i64 f, .int .i64 l, .slice D nd cd] 26)
  have G0 := heap_alloc_new w (.cells #[.int .i64 k, .int .i64 f, .int .i64 l, .slice D nd cd] 26)
  cases hp : pkB k f l ds
  · have HF := Lib.hid (show pkF k f l ds = [] by unfold pkF; rw [if_neg (by simp [hp])])
    go_enter Try.func33, Try.ntmps33
    go_wp2_with fail
    refine (packetOk_s k f l D nd cd B ds _ (RI.alloc h hB _) (by simp; omega) hn).mono ?_
    rw [hp]
    rintro e w1 ⟨rfl, hb1⟩
    go_wp2
    go_ret2
    rw [HF.out]
    exact ⟨_, _, _, rfl, (own_lit0 w1).mono (by have := hb1.size; simp at this; omega) (by simp), (K0.trans (hb1.mono (by simp))).alloc (by have := hb1.size; simp at this; omega) _⟩
  · obtain ⟨pf, pl, pd, pk⟩ := pkB_t hp
    have hl := Lib.hid h.len
    have hnd : nd ≤ 16 := by have := h.len; omega
    by_cases h2 : 2 ≤ nd
    case' pos =>
      have hmx : mxD nd = (nd : Int) - 1 := by unfold mxD; rw [if_neg (by omega)]
      have hd : decide ((0 : Int) < (nd : Int) - 1) = true := by simp; omega
      have hd1 : (0 : Int) < (nd : Int) - 1 := by omega
    case' neg =>
      have hmx : mxD nd = 0 := by unfold mxD; split <;> omega
      have hd : decide ((0 : Int) < (nd : Int) - 1) = false := by simp; omega
      have hd1 : ¬ (0 : Int) < (nd : Int) - 1 := by omega
    all_goals
      have HMX := Lib.hid hmx
      clear hmx
      go_enter Try.func33, Try.ntmps33
      go_wp2_with fail
      refine (packetOk_s k f l D nd cd B ds _ (RI.alloc h hB _) (by simp; omega) hn).mono ?_
      rw [hp]
      rintro e w1 ⟨rfl, hb1⟩
      have H1 := (hb1.block _ (by simp)).trans G0
      obtain ⟨c0, c1, c2, c3, _, _, _, _⟩ := cells4 H1
      have s1 : w.heap.size < w1.heap.size := by have := hb1.size; simp at this; omega
      have K1 := K0.trans (hb1.mono (by simp))
      have HO := own_five w1 k (f / 16) (bits .and .i64 f 15) l
      go_wp2
      clear c0 c1 c2 c3
      go_loopw [4, 5] (fun v i wr => ∃ m : Nat, m ≤ nd ∧ i = .int .i64 m ∧ ∃ (A' : Option Addr) (c' : Nat), v = .slice A' (5 + 5 * m) c' ∧ Own wr w1.heap.size wr.heap.size A' (5 + 5 * m) c' (pkHead k f l nd ++ dotsL (ds.take m)) ∧ Below w1.heap.size w1 wr) (fun _ i _ => nd - (intOf i).toNat)
      case atStart =>
        refine ⟨0, Nat.zero_le _, rfl, _, _, rfl, ?_, (Below.refl _ _).alloc (Nat.le_refl _) _⟩
        have HH := (HO (mxD nd)).mono (lo' := w1.heap.size) (hi' := w1.heap.size + 1) (by omega) (Nat.le_refl _)
        rw [HMX.out] at HH
        simpa [pkHead, dotsL, HMX.out] using HH
      case round =>
        obtain ⟨m, hm, rfl, A', c', rfl, hown, hbel⟩ := hrel
        clear HO
        have hsz := hbel.size
        obtain ⟨_, _, _, c3, _, _, _, _⟩ := cells4 ((hbel.block _ s1).trans H1)
        by_cases hlt : m < nd
        · have hR := h.below K1 hB
          obtain ⟨b, off, rfl, hb', hc0⟩ := hR.at_ hlt
          have hi1 : (0 : Int) ≤ (m : Int) := by omega
          have hi2 : (m : Int) < (nd : Int) := by omega
          have bz := pd m (by have := hl.out; omega)
          have HS := Lib.hid (show dotsL (ds.take (m + 1)) = dotsL (ds.take m) ++ dot5 (zat ds m) by rw [take_zat (by have := hl.out; omega), dotsL_snoc])
          have HL2 : Own wr w1.heap.size wr.heap.size A' (5 + 5 * m + 0) c' ((pkHead k f l nd ++ dotsL (ds.take m)) ++ []) := by simpa using hown
          clear hown
          go_wp2
          go_loopw [4, 6] (fun v kk wi => ∃ (x : Int) (t : Nat) (done : List Int) (A2 : Option Addr) (c2 : Nat), kk = .int .i64 x ∧ v = .slice A2 (5 + 5 * m + t) c2 ∧ DotSt (zat ds m) x done ∧ t ≤ 5 ∧ (t : Int) * 4 + x = 16 ∧ Own wi w1.heap.size wi.heap.size A2 (5 + 5 * m + t) c2 ((pkHead k f l nd ++ dotsL (ds.take m)) ++ done) ∧ Below w1.heap.size w1 wi) (fun _ kk _ => (intOf kk + 4).toNat)
          case atStart => exact ⟨16, 0, [], _, _, rfl, rfl, .inl ⟨rfl, rfl⟩, by omega, by omega, HL2, hbel⟩
          case round =>
            obtain ⟨x, t, done, A2, c2, rfl, rfl, hst, ht5, htx, hown, hbel2⟩ := hrel
            have hsz2 := hbel2.size
            clear HL2 c3 hbel
            obtain ⟨_, _, _, c3, _, _, _, _⟩ := cells4 ((hbel2.block _ s1).trans H1)
            have hc := (hbel2.cell (p := ⟨b, off + m, none⟩) (by show b < _; omega)).trans hc0
            rcases hst with ⟨rfl, rfl⟩ | ⟨rfl, rfl⟩ | ⟨rfl, rfl⟩ | ⟨rfl, rfl⟩ | ⟨rfl, rfl⟩ | ⟨rfl, rfl⟩
            iterate 5
              · go_wp2_with (at_builtin; refine wpList_append_ints rfl _ _ _ rfl Try.underlying24 infoInt _ _ _ _ _ _ rfl (hown.alloc _) _ _ _ _ _ rfl (ri_one _ _ _) (by omega) (by simp; omega) ?_; intro A3 c3 w3 ho3 hoff3 hb3)
                have R := ho3
                rw [app1 _ _ _ _ rfl] at R
                go_roundw
                case rel => exact ⟨_, t + 1, _, _, _, rfl, rfl, (by first | exact .inr (.inl ⟨rfl, rfl⟩) | exact .inr (.inr (.inl ⟨rfl, rfl⟩)) | exact .inr (.inr (.inr (.inl ⟨rfl, rfl⟩))) | exact .inr (.inr (.inr (.inr (.inl ⟨rfl, rfl⟩)))) | exact .inr (.inr (.inr (.inr (.inr ⟨rfl, rfl⟩))))), by omega, by omega, R, (hbel2.alloc hsz2 _).trans (hb3.mono (by omega))⟩
                case measure => simp [intOf]
            · obtain rfl : t = 5 := by omega
              have R := hown
              rw [List.append_assoc, ← HS.out] at R
              clear c3 hc
              go_wp2
              go_roundw
              case rel => exact ⟨m + 1, by omega, by go_num, _, _, rfl, R, hbel2⟩
              case measure => simp [intOf]; omega
        · obtain rfl : m = nd := by omega
          have R := hown
          rw [List.take_of_length_le (by have := hl.out; omega)] at R
          have HB := Lib.hid (show pkHead k f l m ++ dotsL ds = pkBody k f l ds by unfold pkBody; rw [hl.out])
          rw [HB.out] at R
          have HLB := Lib.hid (show (pkBody k f l ds).length = 5 + 5 * m by rw [pkBody_len, hl.out])
          clear hown
          go_wp2
          go_loopw [7, 8] (fun v i wi => ∃ j : Nat, j ≤ 5 + 5 * m ∧ i = .int .i64 j ∧ ∃ x : Int, v = .int .i64 x ∧ 0 ≤ x ∧ x ≤ 255 ∧ Hid (x = ((pkBody k f l ds).take j).sum % 256) ∧ wi = wr) (fun _ i _ => 5 + 5 * m - (intOf i).toNat)
          case atStart => exact ⟨0, Nat.zero_le _, rfl, 0, rfl, by omega, by omega, Lib.hid rfl, rfl⟩
          case round =>
            obtain ⟨j, hj, rfl, x, rfl, hx0, hx1, hx, rfl⟩ := hrel
            by_cases hjl : j < 5 + 5 * m
            · obtain ⟨b, off, rfl, hb', hc⟩ := R.ri.at_ hjl
              have hr := pkBody_rng hp _ (zat_mem (show j < (pkBody k f l ds).length by have := HLB.out; omega))
              have HX := Lib.hid (show (x + zat (pkBody k f l ds) j) % 256 = ((pkBody k f l ds).take (j + 1)).sum % 256 by rw [take_zat (by have := HLB.out; omega), List.sum_append, hx.out]; simp)
              have hi1 : (0 : Int) ≤ (j : Int) := by omega
              have hi2 : (j : Int) < ((5 + 5 * m : Nat) : Int) := by omega
              go_wp2
              go_roundw
              case rel => exact ⟨j + 1, by omega, by go_num, _, rfl, by omega, by omega, HX, trivial⟩
              case measure => simp [intOf]; omega
            · obtain rfl : j = 5 + 5 * m := by omega
              have HXS := Lib.hid (show (pkBody k f l ds).sum % 256 = x by rw [hx.out, List.take_of_length_le (by have := HLB.out; omega)])
              have HF := Lib.hid (show pkF k f l ds = pkBody k f l ds ++ [x / 16, bits .and .i64 x 15] by
                have hsr := sum_rng (pkBody_rng hp)
                have hsm := sum_mod (pkBody k f l ds).sum hsr.1 (by have := HLB.out; omega)
                unfold pkF; rw [if_pos hp, hsm.1, hsm.2, HXS.out])
              clear hx
              go_wp2_with (at_builtin; refine wpList_append_ints rfl _ _ _ rfl Try.underlying24 infoInt _ _ _ _ _ _ rfl (R.alloc _) _ _ _ _ _ rfl (ri_2 _ _ _) (by omega) (by simp; omega) ?_; intro A3 c3 w3 ho3 hoff3 hb3)
              go_ret2
              rw [HF.out]
              exact ⟨_, _, _, rfl, ho3.mono (by omega) (Nat.le_refl _), ((bthen K1 hbel (by omega)).alloc (by omega) _).trans (hb3.mono (by omega))⟩
end Go.Proofs.Ytkmbblooofmnpaa
