/- Line packets: PacketOk and PacketNibbles of the program and of the reference, and the verifier's helpers on packets. -/
import Derived.Test.YtkmbblooofmnpaaSl
import Derived.Test.YtkmbblooofmnpaaBase2
import Derived.Test.YtkmbblooofmnpaaApp3
import Derived.Test.YtkmbblooofmnpaaNum3
namespace Go.Proofs.Ytkmbblooofmnpaa
open Go.RowKit Go.Deep

def dotB (z : Int) : Bool := inB z 0 262143
def pkB (k f l : Int) (ds : List Int) : Bool := inB f 0 255 && inB l 0 15 && ds.all dotB && decide (0 ≤ packLen k ds.length)
theorem isDot_any (n : Int) (w : World) :
    Calls Try.prog 76 #[.int .i64 n] w fun e w' => e = .returned (.bool (dotB n)) ∧ w = w' := by
  go_enter Try.func76, Try.ntmps76
  go_wp2_with (go_at_call 49; refine (within_any _ _ _ _).mono ?_; rintro e w' ⟨rfl, rfl⟩)
  go_ret
  exact ⟨rfl, rfl⟩
theorem areDots_any (A : Option Addr) (n c B : Nat) (zs : List Int) (w : World) (h : RI w B A n zs) (hn : n ≤ 4294967296) :
    Calls Try.prog 52 #[.slice A n c] w fun e w' => e = .returned (.bool (zs.all dotB)) ∧ w = w' := by
  have hl := Lib.hid h.len
  go_enter Try.func52, Try.ntmps52
  go_wp2
  go_loop [7] (fun i => ∃ k : Nat, k ≤ n ∧ i = .int .i64 k ∧ Hid (∀ j, j < k → dotB (zat zs j) = true)) (fun i => n - (intOf i).toNat)
  case atStart => exact ⟨0, Nat.zero_le _, rfl, Lib.hid (fun j hj => absurd hj (by omega))⟩
  case round =>
    obtain ⟨k, hk, rfl, hall⟩ := hrel
    by_cases hlt : k < n
    · obtain ⟨b, off, rfl, hb, hc⟩ := h.at_ hlt
      cases hin : dotB (zat zs k)
      · have hd := Lib.hid (all_false (p := dotB) (show k < zs.length by have := hl.out; omega) hin)
        go_wp2_with (go_at_call 76; refine (isDot_any _ _).mono ?_; rintro e w' ⟨rfl, rfl⟩)
        go_ret
        exact ⟨ret_bool hd.out.symm, rfl⟩
      · have HI := Lib.hid hin
        go_wp2_with (go_at_call 76; refine (isDot_any _ _).mono ?_; rintro e w' ⟨rfl, rfl⟩)
        go_round
        case rel => exact ⟨k + 1, by omega, by go_num, Lib.hid (fun j hj => by rcases Nat.lt_succ_iff_lt_or_eq.1 hj with h1 | h1; exact hall.out j h1; subst h1; exact HI.out)⟩
        case measure => simp [intOf]; omega
    · obtain rfl : k = n := by omega
      have hd := Lib.hid (all_true (p := dotB) (fun j hj => hall.out j (by have := hl.out; omega)))
      go_wp2
      go_ret
      exact ⟨ret_bool hd.out.symm, rfl⟩
set_option maxHeartbeats 1000000 in
theorem packetOk_i (k f l : Int) (D : Option Addr) (nd cd B : Nat) (ds : List Int) (w : World) (h : RI w B D nd ds) (hB : B ≤ w.heap.size) (hn : nd ≤ 4294967296) :
    Calls Try.prog 19 #[.agg #[.int .i64 k, .int .i64 f, .int .i64 l, .slice D nd cd]] w fun e w' => e = .returned (.bool (pkB k f l ds)) ∧ Below w.heap.size w w' := by
  have hl := Lib.hid h.len
  have h0 : RI (w.alloc (.cells #[.int .i64 k, .int .i64 f, .int .i64 l, .slice D nd cd] 26)) B D nd ds := RI.alloc h hB _
  have K0 := (Below.refl w.heap.size w).alloc (Nat.le_refl _) (.cells #[.int .i64 k, .int .i64 f, .int .i64 l, .slice D nd cd] 26)
  have HP := Lib.hid (show pkB k f l ds = (inB f 0 255 && inB l 0 15 && ds.all dotB && decide (0 ≤ packLen k (nd : Int))) by unfold pkB; rw [h.len])
  cases h1 : inB f 0 255 <;> cases h2 : inB l 0 15 <;> cases h3 : ds.all dotB
  all_goals
    go_enter Try.func19, Try.ntmps19
    go_wp2_with (first | (go_at_call 49; refine (within_any _ _ _ _).mono ?_; rintro e w' ⟨rfl, rfl⟩) | (go_at_call 52; refine (areDots_any _ _ _ _ ds _ h0 hn).mono ?_; rintro e w' ⟨rfl, rfl⟩) | (go_at_call 16; refine (packetLength_i _ _ _).mono ?_; rintro e w' ⟨rfl, rfl⟩))
    go_ret
    exact ⟨ret_bool (by rw [HP.out, h1, h2, h3]; simp), K0⟩
def dot5 (d : Int) : List Int := [bits .and .i64 (d / 65536) 15, bits .and .i64 (d / 4096) 15, bits .and .i64 (d / 256) 15, bits .and .i64 (d / 16) 15, bits .and .i64 d 15]
/-- The inner loop over a dot: the shift still to be taken, the nibbles taken so far. -/
def DotSt (d : Int) (k : Int) (done : List Int) : Prop :=
  (k = 16 ∧ done = []) ∨ (k = 12 ∧ done = (dot5 d).take 1) ∨ (k = 8 ∧ done = (dot5 d).take 2) ∨ (k = 4 ∧ done = (dot5 d).take 3) ∨ (k = 0 ∧ done = (dot5 d).take 4) ∨ (k = -4 ∧ done = dot5 d)
theorem app1 (xs ys zs : List Int) (z : Int) (h : ys ++ [z] = zs) : (xs ++ ys) ++ [z] = xs ++ zs := by rw [List.append_assoc, h]
def dotsL (ds : List Int) : List Int := ds.flatMap dot5
theorem dotsL_snoc (zs : List Int) (z : Int) : dotsL (zs ++ [z]) = dotsL zs ++ dot5 z := by simp [dotsL]
theorem dotsL_len : ∀ ds : List Int, (dotsL ds).length = 5 * ds.length
  | [] => rfl
  | d :: ds => by
    have : dotsL (d :: ds) = dot5 d ++ dotsL ds := by simp [dotsL]
    rw [this, List.length_append, dotsL_len ds]; simp [dot5]; omega
def mxD (n : Nat) : Int := if n = 0 then 0 else (n : Int) - 1
def pkHead (k f l : Int) (n : Nat) : List Int := [k, f / 16, bits .and .i64 f 15, l, mxD n]
def pkBody (k f l : Int) (ds : List Int) : List Int := pkHead k f l ds.length ++ dotsL ds
def pkF (k f l : Int) (ds : List Int) : List Int := if pkB k f l ds then pkBody k f l ds ++ [bits .and .i64 ((pkBody k f l ds).sum / 16) 15, bits .and .i64 (pkBody k f l ds).sum 15] else []
theorem ri_2 (w : World) (a b : Int) : RI (w.alloc (.cells #[.int .i64 a, .int .i64 b] 3)) (w.heap.size + 1) (some ⟨w.heap.size, 0, none⟩) 2 [a, b] :=
  OwnV.rv (OwnV.new w 3 #[.int .i64 a, .int .i64 b] (by simp [maxLen]))
theorem own_five (w : World) (a b c d e : Int) : Own (w.alloc (.cells #[.int .i64 a, .int .i64 b, .int .i64 c, .int .i64 d, .int .i64 e] 3)) w.heap.size (w.heap.size + 1) (some ⟨w.heap.size, 0, none⟩) 5 5 [a, b, c, d, e] :=
  OwnV.new w 3 #[.int .i64 a, .int .i64 b, .int .i64 c, .int .i64 d, .int .i64 e] (by simp [maxLen])
theorem and15 (z : Int) : 0 ≤ bits .and .i64 z 15 ∧ bits .and .i64 z 15 ≤ 15 := by
  have h : ((BitVec.ofInt 64 z &&& BitVec.ofInt 64 15).toNat : Int) ≤ 15 := by
    rw [BitVec.toNat_and]
    have : (BitVec.ofInt 64 (15 : Int)).toNat = 15 := by decide
    rw [this]
    have := Nat.and_le_right (n := (BitVec.ofInt 64 z).toNat) (m := 15)
    omega
  show 0 ≤ IntKind.i64.wrap ((BitVec.ofInt 64 z &&& BitVec.ofInt 64 (15 : Int)).toNat : Int) ∧ IntKind.i64.wrap ((BitVec.ofInt 64 z &&& BitVec.ofInt 64 (15 : Int)).toNat : Int) ≤ 15
  rw [IntKind.wrap_i64]
  omega
theorem and15_nat (a : Nat) (h : a < 9223372036854775808) : bits .and .i64 (a : Int) 15 = ((a % 16 : Nat) : Int) := by
  rw [show (15 : Int) = ((15 : Nat) : Int) from rfl, i64_and_nat a 15 h (by omega)]
  have : a &&& 15 = a % 16 := Nat.and_two_pow_sub_one_eq_mod a 4
  rw [this]
theorem pkB_t {k f l : Int} {ds : List Int} (h : pkB k f l ds = true) : (0 ≤ f ∧ f ≤ 255) ∧ (0 ≤ l ∧ l ≤ 15) ∧ (∀ j, j < ds.length → 0 ≤ zat ds j ∧ zat ds j ≤ 262143) ∧ ((k = 0 ∧ 1 ≤ ds.length ∧ ds.length ≤ 16) ∨ ((k = 1 ∨ k = 2) ∧ ds.length = 0)) := by
  simp only [pkB, Bool.and_eq_true, decide_eq_true_eq] at h
  obtain ⟨⟨⟨h1, h2⟩, h3⟩, h4⟩ := h
  refine ⟨inB_t.1 h1, inB_t.1 h2, fun j hj => inB_t.1 (List.all_eq_true.1 h3 _ (zat_mem hj)), ?_⟩
  unfold packLen at h4
  split at h4
  · rename_i hx
    simp only [Bool.and_eq_true, beq_iff_eq] at hx
    have := inB_t.1 hx.2
    exact .inl ⟨hx.1, by omega, by omega⟩
  · split at h4
    · rename_i hx
      simp only [Bool.and_eq_true, Bool.or_eq_true, beq_iff_eq] at hx
      exact .inr ⟨hx.1, by omega⟩
    · omega
theorem dotsL_rng : ∀ ds : List Int, ∀ z ∈ dotsL ds, 0 ≤ z ∧ z ≤ 15 := by
  intro ds z hz
  obtain ⟨d, _, hd⟩ := List.mem_flatMap.1 hz
  simp only [dot5, List.mem_cons, List.not_mem_nil, or_false] at hd
  rcases hd with rfl | rfl | rfl | rfl | rfl <;> exact and15 _
theorem pkBody_rng {k f l : Int} {ds : List Int} (h : pkB k f l ds = true) : ∀ z ∈ pkBody k f l ds, 0 ≤ z ∧ z ≤ 15 := by
  obtain ⟨h1, h2, _, h4⟩ := pkB_t h
  intro z hz
  rcases List.mem_append.1 hz with hz | hz
  · have ha := and15 f
    have hm : 0 ≤ mxD ds.length ∧ mxD ds.length ≤ 15 := by unfold mxD; split <;> omega
    simp only [pkHead, List.mem_cons, List.not_mem_nil, or_false] at hz
    rcases hz with rfl | rfl | rfl | rfl | rfl
    · omega
    · omega
    · exact ha
    · exact h2
    · exact hm
  · exact dotsL_rng ds z hz
theorem sum_rng : ∀ {L : List Int}, (∀ z ∈ L, 0 ≤ z ∧ z ≤ 15) → 0 ≤ L.sum ∧ L.sum ≤ 15 * L.length
  | [], _ => by simp
  | z :: L, h => by
    have h1 := h z (by simp)
    have h2 := sum_rng (L := L) (fun y hy => h y (by simp [hy]))
    simp only [List.sum_cons, List.length_cons]
    omega
theorem pkBody_len (k f l : Int) (ds : List Int) : (pkBody k f l ds).length = 5 + 5 * ds.length := by
  simp [pkBody, pkHead, dotsL_len]; omega
set_option maxRecDepth 10000 in
set_option maxHeartbeats 2000000 in
theorem packetNibbles_i (k f l : Int) (D : Option Addr) (nd cd B : Nat) (ds : List Int) (w : World) (h : RI w B D nd ds) (hB : B ≤ w.heap.size) (hn : nd ≤ 4294967296) :
    Calls Try.prog 14 #[.agg #[.int .i64 k, .int .i64 f, .int .i64 l, .slice D nd cd]] w (RetOwnBool w (pkF k f l ds) (pkB k f l ds)) := by
  have K0 := (Below.refl w.heap.size w).alloc (Nat.le_refl _) (.cells #[.int .i64 k, .int .i64 f, .int .i64 l, .slice D nd cd] 26)
  have G0 := heap_alloc_new w (.cells #[.int .i64 k, .int .i64 f, .int .i64 l, .slice D nd cd] 26)
  cases hp : pkB k f l ds
  · have HF := Lib.hid (show pkF k f l ds = [] by unfold pkF; rw [if_neg (by simp [hp])])
    go_enter Try.func14, Try.ntmps14
    go_wp2_with fail
    refine (packetOk_i k f l D nd cd B ds _ (RI.alloc h hB _) (by simp; omega) hn).mono ?_
    rw [hp]
    rintro e w1 ⟨rfl, hb1⟩
    go_wp2
    go_ret2
    rw [HF.out]
    exact ⟨_, _, _, rfl, Own.nil, K0.trans (hb1.mono (by simp))⟩
  · obtain ⟨pf, pl, pd, pk⟩ := pkB_t hp
    have hl := Lib.hid h.len
    have hnd : nd ≤ 16 := by have := h.len; omega
    by_cases h2 : 2 ≤ nd
    case' pos =>
      have hmx : mxD nd = (nd : Int) - 1 := by unfold mxD; rw [if_neg (by omega)]
      have hd : decide ((0 : Int) < (nd : Int) - 1) = true := by simp; omega
      have hd1 : (0 : Int) < (nd : Int) - 1 := by omega
    case' neg =>
      have hmx : mxD nd = 0 := by unfold mxD; split <;> omega
      have hd : decide ((0 : Int) < (nd : Int) - 1) = false := by simp; omega
      have hd1 : ¬ (0 : Int) < (nd : Int) - 1 := by omega
    all_goals
      have HMX := Lib.hid hmx
      clear hmx
      go_enter Try.func14, Try.ntmps14
      go_wp2_with fail
      refine (packetOk_i k f l D nd cd B ds _ (RI.alloc h hB _) (by simp; omega) hn).mono ?_
      rw [hp]
      rintro e w1 ⟨rfl, hb1⟩
      have H1 := (hb1.block _ (by simp)).trans G0
      obtain ⟨c0, c1, c2, c3, _, _, _, _⟩ := cells4 H1
      have s1 : w.heap.size < w1.heap.size := by have := hb1.size; simp at this; omega
      have K1 := K0.trans (hb1.mono (by simp))
      have HO := own_five w1 k (f / 16) (bits .and .i64 f 15) l
      go_wp2
      go_loopw [4, 33] (fun v i wr => ∃ m : Nat, m ≤ nd ∧ i = .int .i64 m ∧ ∃ (A' : Option Addr) (c' : Nat), v = .slice A' (5 + 5 * m) c' ∧ Own wr w.heap.size wr.heap.size A' (5 + 5 * m) c' (pkHead k f l nd ++ dotsL (ds.take m)) ∧ Below w.heap.size w wr) (fun _ i _ => nd - (intOf i).toNat)
      case atStart =>
        refine ⟨0, Nat.zero_le _, rfl, _, _, rfl, ?_, K1.alloc (by omega) _⟩
        have HH := (HO (mxD nd)).mono (lo' := w.heap.size) (hi' := w1.heap.size + 1) (by omega) (Nat.le_refl _)
        rw [HMX.out] at HH
        simpa [pkHead, dotsL, HMX.out] using HH
      case round =>
        obtain ⟨m, hm, rfl, A', c', rfl, hown, hbel⟩ := hrel
        clear HO
        have hsz := hbel.size
        by_cases hlt : m < nd
        · obtain ⟨b, off, rfl, hb', hc⟩ := (h.below hbel hB).at_ hlt
          have hi1 : (0 : Int) ≤ (m : Int) := by omega
          have hi2 : (m : Int) < (nd : Int) := by omega
          have bz := pd m (by have := hl.out; omega)
          have HS := Lib.hid (show dotsL (ds.take (m + 1)) = dotsL (ds.take m) ++ dot5 (zat ds m) by rw [take_zat (by have := hl.out; omega), dotsL_snoc])
          have HL2 : Own wr w.heap.size wr.heap.size A' (5 + 5 * m + 0) c' ((pkHead k f l nd ++ dotsL (ds.take m)) ++ []) := by simpa using hown
          clear hown
          go_wp2
          go_loopw [4, 7] (fun v kk wi => ∃ (x : Int) (t : Nat) (done : List Int) (A2 : Option Addr) (c2 : Nat), kk = .int .i64 x ∧ v = .slice A2 (5 + 5 * m + t) c2 ∧ DotSt (zat ds m) x done ∧ t ≤ 5 ∧ (t : Int) * 4 + x = 16 ∧ Own wi w.heap.size wi.heap.size A2 (5 + 5 * m + t) c2 ((pkHead k f l nd ++ dotsL (ds.take m)) ++ done) ∧ Below w.heap.size w wi) (fun _ kk _ => (intOf kk + 4).toNat)
          case atStart => exact ⟨16, 0, [], _, _, rfl, rfl, .inl ⟨rfl, rfl⟩, by omega, by omega, HL2, hbel⟩
          case round =>
            obtain ⟨x, t, done, A2, c2, rfl, rfl, hst, ht5, htx, hown, hbel2⟩ := hrel
            have hsz2 := hbel2.size
            clear HL2 hc
            rcases hst with ⟨rfl, rfl⟩ | ⟨rfl, rfl⟩ | ⟨rfl, rfl⟩ | ⟨rfl, rfl⟩ | ⟨rfl, rfl⟩ | ⟨rfl, rfl⟩
            iterate 5
              · go_wp2_with (at_builtin; refine wpList_append_ints rfl _ _ _ rfl Try.underlying24 infoInt _ _ _ _ _ _ rfl (hown.alloc _) _ _ _ _ _ rfl (ri_one _ _ _) (by omega) (by simp; omega) ?_; intro A3 c3 w3 ho3 hoff3 hb3)
                have R := ho3
                rw [app1 _ _ _ _ rfl] at R
                go_roundw
                case rel => exact ⟨_, t + 1, _, _, _, rfl, rfl, (by first | exact .inr (.inl ⟨rfl, rfl⟩) | exact .inr (.inr (.inl ⟨rfl, rfl⟩)) | exact .inr (.inr (.inr (.inl ⟨rfl, rfl⟩))) | exact .inr (.inr (.inr (.inr (.inl ⟨rfl, rfl⟩)))) | exact .inr (.inr (.inr (.inr (.inr ⟨rfl, rfl⟩))))), by omega, by omega, R, (hbel2.alloc hsz2 _).trans (hb3.mono (by omega))⟩
                case measure => simp [intOf]
            · obtain rfl : t = 5 := by omega
              have R := hown
              rw [List.append_assoc, ← HS.out] at R
              go_wp2
              go_roundw
              case rel => exact ⟨m + 1, by omega, by go_num, _, _, rfl, R, hbel2⟩
              case measure => simp [intOf]; omega
        · obtain rfl : m = nd := by omega
          have R := hown
          rw [List.take_of_length_le (by have := hl.out; omega)] at R
          have HB := Lib.hid (show pkHead k f l m ++ dotsL ds = pkBody k f l ds by unfold pkBody; rw [hl.out])
          rw [HB.out] at R
          have hsum := Lib.hid (sum_rng (pkBody_rng hp))
          have HLB := Lib.hid (show (pkBody k f l ds).length = 5 + 5 * m by rw [pkBody_len, hl.out])
          clear hown
          go_wp2
          go_loopw [8, 51] (fun v i wi => ∃ j : Nat, j ≤ 5 + 5 * m ∧ i = .int .i64 j ∧ ∃ x : Int, v = .int .i64 x ∧ 0 ≤ x ∧ x ≤ 15 * j ∧ Hid (x = ((pkBody k f l ds).take j).sum) ∧ wi = wr) (fun _ i _ => 5 + 5 * m - (intOf i).toNat)
          case atStart => exact ⟨0, Nat.zero_le _, rfl, 0, rfl, by omega, by omega, Lib.hid rfl, rfl⟩
          case round =>
            obtain ⟨j, hj, rfl, x, rfl, hx0, hx1, hx, rfl⟩ := hrel
            by_cases hjl : j < 5 + 5 * m
            · obtain ⟨b, off, rfl, hb', hc⟩ := R.ri.at_ hjl
              have hr := pkBody_rng hp _ (zat_mem (show j < (pkBody k f l ds).length by have := HLB.out; omega))
              have HX := Lib.hid (show x + zat (pkBody k f l ds) j = ((pkBody k f l ds).take (j + 1)).sum by rw [take_zat (by have := HLB.out; omega), List.sum_append, ← hx.out]; simp)
              go_wp2
              go_roundw
              case rel => exact ⟨j + 1, by omega, by go_num, _, rfl, by omega, by omega, HX, trivial⟩
              case measure => simp [intOf]; omega
            · obtain rfl : j = 5 + 5 * m := by omega
              have HXS := Lib.hid (show (pkBody k f l ds).sum = x by rw [hx.out, List.take_of_length_le (by have := HLB.out; omega)])
              have HF := Lib.hid (show pkF k f l ds = pkBody k f l ds ++ [bits .and .i64 (x / 16) 15, bits .and .i64 x 15] by unfold pkF; rw [if_pos hp, HXS.out])
              clear hx
              go_wp2_with (at_builtin; refine wpList_append_ints rfl _ _ _ rfl Try.underlying24 infoInt _ _ _ _ _ _ rfl (R.alloc _) _ _ _ _ _ rfl (ri_2 _ _ _) (by omega) (by simp; omega) ?_; intro A3 c3 w3 ho3 hoff3 hb3)
              go_ret2
              rw [HF.out]
              exact ⟨_, _, _, rfl, ho3, (hbel.alloc hsz _).trans (hb3.mono (by omega))⟩
end Go.Proofs.Ytkmbblooofmnpaa
