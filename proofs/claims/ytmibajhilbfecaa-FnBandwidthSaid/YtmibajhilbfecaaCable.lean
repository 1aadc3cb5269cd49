/- Cables: the verifier's helpers on them, CableOk, LaneWorks, LinkWorks, LaneSkews, of the program and of the reference. -/
import Derived.Test.YtmibajhilbfecaaSl
import Derived.Test.YtmibajhilbfecaaBase2
import Derived.Test.YtmibajhilbfecaaNum3
namespace Go.Proofs.Ytmibajhilbfecaa
open Go.RowKit Go.Deep

def cableB (q s : List Int) : Bool := decide (q.length = 4) && decide (s.length = 4) && q.all (fun z => inB z 0 12) && s.all (fun z => inB z 0 8)
/-- A cable's two slices, read. -/
structure RC (w : World) (B : Nat) (Q : Option Addr) (nq : Nat) (q : List Int) (S : Option Addr) (ns : Nat) (s : List Int) : Prop where
  q : RI w B Q nq q
  s : RI w B S ns s
theorem RC.below {w w' : World} {B C nq ns : Nat} {Q S : Option Addr} {q s : List Int} (h : RC w B Q nq q S ns s) (hb : Below C w w') (hC : B ≤ C) : RC w' B Q nq q S ns s := ⟨h.q.below hb hC, h.s.below hb hC⟩
theorem RC.more {w : World} {B C nq ns : Nat} {Q S : Option Addr} {q s : List Int} (h : RC w B Q nq q S ns s) (hC : B ≤ C) : RC w C Q nq q S ns s := ⟨h.q.more hC, h.s.more hC⟩
theorem RC.alloc {w : World} {B nq ns : Nat} {Q S : Option Addr} {q s : List Int} (h : RC w B Q nq q S ns s) (hB : B ≤ w.heap.size) (o : Obj) : RC (w.alloc o) B Q nq q S ns s := ⟨RV.alloc h.q hB o, RV.alloc h.s hB o⟩

theorem szIntS_any (A : Option Addr) (n c : Nat) (x : Int) (w : World) (h0 : 0 ≤ x) (h1 : x ≤ 1048576) (hc : n ≤ c) (hm : c ≤ maxLen) :
    Calls Try.prog 62 #[.slice A n c, .int .i64 x] w fun e w' => e = .returned (.int .i64 (if x < n then -1 else x - n)) ∧ w = w' := by
  unfold maxLen at hm
  by_cases h : x < n
  · have hd : decide (x - (n : Int) < 0) = true := by simp; omega
    go_enter Try.func62, Try.ntmps62
    go_wp2
    go_ret
    exact ⟨by simp, rfl⟩
  · have hd : decide (x - (n : Int) < 0) = false := by simp; omega
    go_enter Try.func62, Try.ntmps62
    go_wp2
    go_ret
    exact ⟨by simp, rfl⟩
theorem szCable_any (Q S : Option Addr) (nq cq ns cs : Nat) (w : World) (hq : nq ≤ cq) (hq' : cq ≤ maxLen) (hs : ns ≤ cs) (hs' : cs ≤ maxLen) :
    Calls Try.prog 26 #[.agg #[.slice Q nq cq, .slice S ns cs], .int .i64 1048576] w fun e w' => (∃ x : Int, e = .returned (.int .i64 x) ∧ (x < 0 ↔ 1048576 < nq + ns)) ∧ Below w.heap.size w w' := by
  by_cases h1 : (1048576 : Int) < nq
  · have e1 : (if (1048576 : Int) < (nq : Int) then (-1 : Int) else 1048576 - nq) = -1 := if_pos h1
    go_enter Try.func26, Try.ntmps26
    go_wp2_with (go_at_call 62; refine (szIntS_any _ _ _ _ _ (by omega) (by omega) hq hq').mono ?_; rw [e1]; rintro e w' ⟨rfl, rfl⟩)
    go_ret
    exact ⟨⟨_, rfl, by omega⟩, (Below.refl _ _).alloc (Nat.le_refl _) _⟩
  · have e1 : (if (1048576 : Int) < (nq : Int) then (-1 : Int) else 1048576 - nq) = 1048576 - nq := if_neg h1
    by_cases h2 : (1048576 : Int) - nq < ns
    · have e2 : (if (1048576 : Int) - nq < (ns : Int) then (-1 : Int) else 1048576 - nq - ns) = -1 := if_pos h2
      go_enter Try.func26, Try.ntmps26
      go_wp2_with (go_at_call 62; first | (with_reducible refine (szIntS_any Q _ _ 1048576 _ (by omega) (by omega) hq hq').mono ?_; rw [e1]; rintro e w' ⟨rfl, rfl⟩) | (refine (szIntS_any S _ _ _ _ (by omega) (by omega) hs hs').mono ?_; rw [e2]; rintro e w' ⟨rfl, rfl⟩))
      go_ret
      exact ⟨⟨_, rfl, by omega⟩, (Below.refl _ _).alloc (Nat.le_refl _) _⟩
    · have e2 : (if (1048576 : Int) - nq < (ns : Int) then (-1 : Int) else 1048576 - nq - ns) = 1048576 - nq - ns := if_neg h2
      go_enter Try.func26, Try.ntmps26
      go_wp2_with (go_at_call 62; first | (with_reducible refine (szIntS_any Q _ _ 1048576 _ (by omega) (by omega) hq hq').mono ?_; rw [e1]; rintro e w' ⟨rfl, rfl⟩) | (refine (szIntS_any S _ _ _ _ (by omega) (by omega) hs hs').mono ?_; rw [e2]; rintro e w' ⟨rfl, rfl⟩))
      go_ret
      exact ⟨⟨_, rfl, by omega⟩, (Below.refl _ _).alloc (Nat.le_refl _) _⟩
/-- The call returned a new cable: two slices of its own, one behind the other. -/
def RetCab (w : World) (q s : List Int) (e : Ending) (w' : World) : Prop :=
  ∃ Q cq S cs mid, e = .returned (.agg #[.slice Q q.length cq, .slice S s.length cs]) ∧ Own w' w.heap.size mid Q q.length cq q ∧ Own w' mid w'.heap.size S s.length cs s ∧ w.heap.size ≤ mid ∧ mid ≤ w'.heap.size ∧ Below w.heap.size w w'
theorem toCable_any (Q S : Option Addr) (nq cq ns cs B : Nat) (q s : List Int) (w : World) (h : RC w B Q nq q S ns s) (hB : B ≤ w.heap.size) (hnq : nq ≤ 4294967296) (hns : ns ≤ 4294967296) :
    Calls Try.prog 28 #[.agg #[.slice Q nq cq, .slice S ns cs]] w (RetCab w q s) := by
  go_enter Try.func28, Try.ntmps28
  go_wp2_with fail
  have G0 : ((w.alloc (.cells #[.slice Q nq cq, .slice S ns cs] 43)).alloc (.cells #[.slice none 0 0, .slice none 0 0] 26)).heap.size = w.heap.size + 2 := by simp
  have G1 := heap_alloc_new ((w.alloc (.cells #[.slice Q nq cq, .slice S ns cs] 43)).alloc (.cells #[.slice none 0 0, .slice none 0 0] 26)) (.cells #[.slice none 0 0, .slice none 0 0] 26)
  have G2 : (((w.alloc (.cells #[.slice Q nq cq, .slice S ns cs] 43)).alloc (.cells #[.slice none 0 0, .slice none 0 0] 26)).alloc (.cells #[.slice none 0 0, .slice none 0 0] 26)).heap[w.heap.size]? = some (.cells #[.slice Q nq cq, .slice S ns cs] 43) := by
    rw [Below.heap_alloc _ _ _ (by simp; omega), Below.heap_alloc _ _ _ (by simp), heap_alloc_new]
  have G3 : (((w.alloc (.cells #[.slice Q nq cq, .slice S ns cs] 43)).alloc (.cells #[.slice none 0 0, .slice none 0 0] 26)).alloc (.cells #[.slice none 0 0, .slice none 0 0] 26)).heap[w.heap.size + 1]? = some (.cells #[.slice none 0 0, .slice none 0 0] 26) := by
    rw [Below.heap_alloc _ _ _ (by simp), ← World.size_alloc w, heap_alloc_new]
  have K0 : Below w.heap.size w (((w.alloc (.cells #[.slice Q nq cq, .slice S ns cs] 43)).alloc (.cells #[.slice none 0 0, .slice none 0 0] 26)).alloc (.cells #[.slice none 0 0, .slice none 0 0] 26)) := (((Below.refl _ _).alloc (Nat.le_refl _) _).alloc (by simp) _).alloc (by simp; omega) _
  rw [G0] at G1
  refine (toIntS_any _ _ _ B _ _ (h.q.below K0 hB) (by simp; omega) hnq).mono ?_
  rintro e w1 ⟨AT, nT, cT, rfl, hoT, hb1⟩
  have s1 := hb1.size
  simp only [World.size_alloc] at s1
  have H1 := (hb1.block (w.heap.size + 2) (by simp)).trans G1
  have H2 := (hb1.block (w.heap.size) (by simp; omega)).trans G2
  have H3 := (hb1.block (w.heap.size + 1) (by simp)).trans G3
  have K1 := K0.trans (hb1.mono (by simp; omega))
  simp only [World.size_alloc] at hoT
  obtain rfl : nT = q.length := hoT.len.symm
  clear G0 G1 G2 G3 K0 hb1
  obtain ⟨a1, a2, a3, a4⟩ := cells2 H1
  obtain ⟨b1, b2, _, _⟩ := cells2 H2
  have H1' := heap_setCell_same (j := 0) H1 (.slice AT q.length cT)
  have H2' := heap_far H2 (p := ⟨w.heap.size + 2, 0, none⟩) (by simp) (.slice AT q.length cT)
  have H3' := heap_far H3 (p := ⟨w.heap.size + 2, 0, none⟩) (by simp) (.slice AT q.length cT)
  have K1' := K1.setCell (p := ⟨w.heap.size + 2, 0, none⟩) (by simp) (.slice AT q.length cT)
  have hoT' := OwnV.far hoT (p := ⟨w.heap.size + 2, 0, none⟩) (by simp) (.slice AT q.length cT)
  obtain ⟨d1, d2, _, _⟩ := cells2 H2'
  go_wp2_with fail
  refine (toIntS_any _ _ _ B _ _ (h.s.below K1' hB) (by simp; omega) hns).mono ?_
  rintro e w2 ⟨AS, nS, cS, rfl, hoS, hb2⟩
  have s2 := hb2.size
  simp only [World.size_setCell] at s2 hoS
  obtain rfl : nS = s.length := hoS.len.symm
  have H1'' := (hb2.block (w.heap.size + 2) (by simp; omega)).trans H1'
  have H3'' := (hb2.block (w.heap.size + 1) (by simp; omega)).trans H3'
  have K2 := bthen K1' hb2 (by simp; omega)
  have hoT2 := OwnV.below hoT' hb2 (by simp)
  clear a1 a2 a3 a4 b1 b2 d1 d2 H1 H2 H3 H1' H2' H3' K1 K1' hoT hoT' hb2 h
  obtain ⟨a1, a2, a3, a4⟩ := cells2 H1''
  obtain ⟨b1, b2, b3, b4⟩ := cells2 H3''
  have J1 := heap_setCell_same (j := 0) (heap_far H3'' (p := ⟨w.heap.size + 1 + 1, 1, none⟩) (by simp) (.slice AS s.length cS)) (.slice AT q.length cT)
  have J2 := heap_setCell_same (j := 1) J1 (.slice AS s.length cS)
  have j1 := (cells2 J1).1
  have j2 := (cells2 J2).2.1
  clear J1 J2
  go_wp2
  refine bodyPost_ret (v := .agg #[.slice AT q.length cT, .slice AS s.length cS]) (by simp [results, Try.results28, go_sem, j1, j2]) rfl ⟨AT, cT, AS, cS, w1.heap.size, rfl, ?_, ?_, by omega, by simp; omega, ?_⟩
  · exact OwnV.mono (OwnV.far (OwnV.far (OwnV.far hoT2 (by simp) _) (by simp) _) (by simp) _) (by omega) (Nat.le_refl _)
  · simp only [World.size_setCell]
    exact OwnV.far (OwnV.far (OwnV.far hoS (by simp; omega) _) (by simp; omega) _) (by simp; omega) _
  · exact ((K2.setCell (by simp; omega) _).setCell (by simp) _).setCell (by simp) _
theorem eqCable_t (Q S Q' S' : Option Addr) (nq cq ns cs nq' cq' ns' cs' B B' : Nat) (q s : List Int) (w : World) (h : RC w B Q nq q S ns s) (h' : RC w B' Q' nq' q S' ns' s) (hB : B ≤ w.heap.size) (hB' : B' ≤ w.heap.size) (hnq : nq ≤ 4294967296) (hns : ns ≤ 4294967296) :
    Calls Try.prog 30 #[.agg #[.slice Q nq cq, .slice S ns cs], .agg #[.slice Q' nq' cq', .slice S' ns' cs']] w fun e w' => e = .returned (.bool true) ∧ Below w.heap.size w w' := by
  have K0 := ((Below.refl w.heap.size w).alloc (Nat.le_refl _) (.cells #[.slice Q nq cq, .slice S ns cs] 26)).alloc (by simp) (.cells #[.slice Q' nq' cq', .slice S' ns' cs'] 26)
  go_enter Try.func30, Try.ntmps30
  go_wp2_with fail
  refine (eqIntS_any _ _ _ _ _ _ B B' q q _ (h.q.below K0 hB) (h'.q.below K0 hB') hnq (by have h1 := h.q.len; have h2 := h'.q.len; omega)).mono ?_
  rintro e w1 ⟨rfl, k1, rfl⟩
  have K1 := below_drewN K0 k1
  simp only [decide_true]
  go_wp2_with fail
  refine (eqIntS_any _ _ _ _ _ _ B B' s s _ (h.s.below K1 hB) (h'.s.below K1 hB') hns (by have h1 := h.s.len; have h2 := h'.s.len; omega)).mono ?_
  rintro e w2 ⟨rfl, k2, rfl⟩
  clear K1
  simp only [decide_true]
  go_wp2
  go_ret
  exact ⟨rfl, below_drewN K0 _⟩
theorem markCable_any (Q S : Option Addr) (cq cs lo mid hi : Nat) (q s : List Int) (w : World) (hq : Own w lo mid Q q.length cq q) (hs : Own w mid hi S s.length cs s) (h1 : lo ≤ mid) (h2 : mid ≤ hi) (h3 : hi ≤ w.heap.size) (hnq : q.length ≤ 1048576) (hns : s.length ≤ 1048576) :
    Calls Try.prog 39 #[.agg #[.slice Q q.length cq, .slice S s.length cs], .int .i64 1] w fun e w' => (∃ x : Int, e = .returned (.int .i64 x) ∧ 0 ≤ x) ∧ Off lo hi w w' := by
  have G0 := heap_alloc_new w (.cells #[.slice Q q.length cq, .slice S s.length cs] 26)
  have K0 := (Below.refl w.heap.size w).alloc (Nat.le_refl _) (.cells #[.slice Q q.length cq, .slice S s.length cs] 26)
  go_enter Try.func39, Try.ntmps39
  go_wp2_with fail
  refine (markIntS_any _ _ _ lo mid 1 q _ (hq.alloc _) (by omega) (by omega) (by omega)).mono ?_
  rintro e w1 ⟨rfl, om1, hf1⟩
  have s1 := hf1.size
  simp only [World.size_alloc] at s1
  have H1 := (hf1.block w.heap.size (by simp) (by omega)).trans G0
  obtain ⟨a1, a2, _, _⟩ := cells2 H1
  go_wp2_with fail
  refine (markIntS_any _ _ _ mid hi _ s _ ((hs.alloc _).off hf1 (by omega)) (by omega) (by omega) (by omega)).mono ?_
  rintro e w2 ⟨rfl, om2, hf2⟩
  go_wp2
  go_ret
  exact ⟨⟨_, rfl, by omega⟩, ((Off.of_below K0).trans (hf1.widen (Nat.le_refl _) h2)).trans (hf2.widen h1 (Nat.le_refl _))⟩
theorem cableB_q {q s : List Int} {k : Nat} (hk : k < q.length) (h : inB (zat q k) 0 12 = false) : cableB q s = false := by
  have := all_false (p := fun z => inB z 0 12) hk h
  simp only [cableB, this]; simp
theorem cableB_s {q s : List Int} {k : Nat} (hk : k < s.length) (h : inB (zat s k) 0 8 = false) : cableB q s = false := by
  have := all_false (p := fun z => inB z 0 8) hk h
  simp only [cableB, this]; simp
theorem cableB_qn {q s : List Int} (h : q.length ≠ 4) : cableB q s = false := by simp [cableB, h]
theorem cableB_sn {q s : List Int} (h : s.length ≠ 4) : cableB q s = false := by simp [cableB, h]
theorem cableB_yes {q s : List Int} (h1 : q.length = 4) (h2 : s.length = 4) (h3 : ∀ j, j < 4 → inB (zat q j) 0 12 = true) : cableB q s = s.all (fun z => inB z 0 8) := by
  have := all_true (p := fun z => inB z 0 12) (zs := q) (fun j hj => h3 j (by omega))
  simp [cableB, h1, h2, this]
set_option maxHeartbeats 1000000 in
theorem cableOk_i (Q S : Option Addr) (nq cq ns cs B : Nat) (q s : List Int) (w : World) (h : RC w B Q nq q S ns s) (hB : B ≤ w.heap.size) (hnq : nq ≤ 4294967296) (hns : ns ≤ 4294967296) :
    Calls Try.prog 29 #[.agg #[.slice Q nq cq, .slice S ns cs]] w fun e w' => e = .returned (.bool (cableB q s)) ∧ Below w.heap.size w w' := by
  have l1 := Lib.hid h.q.len
  have l2 := Lib.hid h.s.len
  have h0 := h.alloc hB (.cells #[.slice Q nq cq, .slice S ns cs] 26)
  have K0 := (Below.refl w.heap.size w).alloc (Nat.le_refl _) (.cells #[.slice Q nq cq, .slice S ns cs] 26)
  go_enter Try.func29, Try.ntmps29
  go_wp2
  go_loop [8] (fun i => ∃ k : Nat, k ≤ nq ∧ i = .int .i64 k ∧ Hid (∀ j, j < k → inB (zat q j) 0 12 = true)) (fun i => nq - (intOf i).toNat)
  case atStart => exact ⟨0, Nat.zero_le _, rfl, Lib.hid (fun j hj => absurd hj (by omega))⟩
  case round =>
    obtain ⟨k, hk, rfl, hall⟩ := hrel
    by_cases hlt : k < nq
    · obtain ⟨b, off, rfl, hb, hc⟩ := h0.q.at_ hlt
      cases hin : inB (zat q k) 0 12
      · have HD := Lib.hid (cableB_q (s := s) (show k < q.length by have := l1.out; omega) hin)
        go_wp2_with (go_at_call 65; refine (within_any _ _ _ _).mono ?_; rintro e w' ⟨rfl, rfl⟩)
        go_ret
        exact ⟨ret_bool HD.out.symm, K0⟩
      · have HI := Lib.hid hin
        go_wp2_with (go_at_call 65; refine (within_any _ _ _ _).mono ?_; rintro e w' ⟨rfl, rfl⟩)
        go_round
        case rel => exact ⟨k + 1, by omega, by go_num, Lib.hid (fun j hj => by rcases Nat.lt_succ_iff_lt_or_eq.1 hj with h1 | h1; exact hall.out j h1; subst h1; exact HI.out)⟩
        case measure => simp [intOf]; omega
    · obtain rfl : k = nq := by omega
      by_cases h4 : k = 4
      · subst h4
        by_cases h5 : ns = 4
        · subst h5
          have HY := Lib.hid (cableB_yes l1.out l2.out hall.out)
          go_wp2_with (go_at_call 66; refine (areSkews_any _ _ _ _ s _ h0.s hns).mono ?_; rintro e w' ⟨rfl, rfl⟩)
          go_ret
          exact ⟨ret_bool HY.out.symm, K0⟩
        · have HD := Lib.hid (cableB_sn (q := q) (s := s) (by have := l2.out; omega))
          have hne : ((ns : Int) == 4) = false := by simp; omega
          go_wp2_with (go_at_call 66; refine (areSkews_any _ _ _ _ s _ h0.s hns).mono ?_; rintro e w' ⟨rfl, rfl⟩)
          go_ret
          exact ⟨ret_bool HD.out.symm, K0⟩
      · have HD := Lib.hid (cableB_qn (q := q) (s := s) (by have := l1.out; omega))
        have hne : ((k : Int) == 4) = false := by simp; omega
        go_wp2_with (go_at_call 66; refine (areSkews_any _ _ _ _ s _ h0.s hns).mono ?_; rintro e w' ⟨rfl, rfl⟩)
        go_ret
        exact ⟨ret_bool HD.out.symm, K0⟩
set_option maxHeartbeats 1000000 in
theorem cableOk_s (Q S : Option Addr) (nq cq ns cs B : Nat) (q s : List Int) (w : World) (h : RC w B Q nq q S ns s) (hB : B ≤ w.heap.size) (hnq : nq ≤ 4294967296) (hns : ns ≤ 4294967296) :
    Calls Try.prog 27 #[.agg #[.slice Q nq cq, .slice S ns cs]] w fun e w' => e = .returned (.bool (cableB q s)) ∧ Below w.heap.size w w' := by
  have l1 := Lib.hid h.q.len
  have l2 := Lib.hid h.s.len
  have h0 := h.alloc hB (.cells #[.slice Q nq cq, .slice S ns cs] 26)
  have K0 := (Below.refl w.heap.size w).alloc (Nat.le_refl _) (.cells #[.slice Q nq cq, .slice S ns cs] 26)
  by_cases h4 : nq = 4
  · subst h4
    by_cases h5 : ns = 4
    · subst h5
      go_enter Try.func27, Try.ntmps27
      go_wp2
      go_loop [3] (fun i => ∃ k : Nat, k ≤ 4 ∧ i = .int .i64 k ∧ Hid (∀ j, j < k → inB (zat q j) 0 12 = true) ∧ Hid (∀ j, j < k → inB (zat s j) 0 8 = true)) (fun i => 4 - (intOf i).toNat)
      case atStart => exact ⟨0, Nat.zero_le _, rfl, Lib.hid (fun j hj => absurd hj (by omega)), Lib.hid (fun j hj => absurd hj (by omega))⟩
      case round =>
        obtain ⟨k, hk, rfl, hall, hall2⟩ := hrel
        by_cases hlt : k < 4
        · obtain ⟨b, off, rfl, hb, hc⟩ := h0.q.at_ hlt
          obtain ⟨b', off', rfl, hb', hc'⟩ := h0.s.at_ hlt
          have hi1 : (0 : Int) ≤ (k : Int) := by omega
          have hi2 : (k : Int) < 4 := by omega
          cases hin : inB (zat q k) 0 12
          · have HD := Lib.hid (cableB_q (s := s) (show k < q.length by have := l1.out; omega) hin)
            go_wp2_with (go_at_call 63; refine (l01In_any _ _ _ _).mono ?_; rintro e w' ⟨rfl, rfl⟩)
            go_ret
            exact ⟨ret_bool HD.out.symm, K0⟩
          · cases hin2 : inB (zat s k) 0 8
            · have HD := Lib.hid (cableB_s (q := q) (show k < s.length by have := l2.out; omega) hin2)
              go_wp2_with (go_at_call 63; refine (l01In_any _ _ _ _).mono ?_; rintro e w' ⟨rfl, rfl⟩)
              go_ret
              exact ⟨ret_bool HD.out.symm, K0⟩
            · have HI := Lib.hid hin
              have HI2 := Lib.hid hin2
              go_wp2_with (go_at_call 63; refine (l01In_any _ _ _ _).mono ?_; rintro e w' ⟨rfl, rfl⟩)
              go_round
              case rel => exact ⟨k + 1, by omega, by go_num, Lib.hid (fun j hj => by rcases Nat.lt_succ_iff_lt_or_eq.1 hj with h1 | h1; exact hall.out j h1; subst h1; exact HI.out), Lib.hid (fun j hj => by rcases Nat.lt_succ_iff_lt_or_eq.1 hj with h1 | h1; exact hall2.out j h1; subst h1; exact HI2.out)⟩
              case measure => simp [intOf]; omega
        · obtain rfl : k = 4 := by omega
          have HY := Lib.hid (show true = cableB q s by rw [cableB_yes l1.out l2.out hall.out]; exact (all_true (p := fun z => inB z 0 8) (zs := s) (fun j hj => hall2.out j (by have := l2.out; omega))).symm)
          go_wp2
          go_ret
          exact ⟨ret_bool HY.out, K0⟩
    · have HD := Lib.hid (cableB_sn (q := q) (s := s) (by have := l2.out; omega))
      have hne : ((ns : Int) != 4) = true := by simp; omega
      go_enter Try.func27, Try.ntmps27
      go_wp2
      go_ret
      exact ⟨ret_bool HD.out.symm, K0⟩
  · have HD := Lib.hid (cableB_qn (q := q) (s := s) (by have := l1.out; omega))
    have hne : ((nq : Int) != 4) = true := by simp; omega
    go_enter Try.func27, Try.ntmps27
    go_wp2
    go_ret
    exact ⟨ret_bool HD.out.symm, K0⟩
def laneB (q s : List Int) (k r d : Int) : Bool := cableB q s && inB r 1 4 && inB d 0 3 && inB k 0 3 && decide (3 * r ≤ zat q k.toNat + 2 * d)
theorem cableB_t {q s : List Int} : cableB q s = true ↔ q.length = 4 ∧ s.length = 4 ∧ (∀ j, j < 4 → 0 ≤ zat q j ∧ zat q j ≤ 12) ∧ (∀ j, j < 4 → 0 ≤ zat s j ∧ zat s j ≤ 8) := by
  constructor
  · intro h
    simp only [cableB, Bool.and_eq_true, decide_eq_true_eq, List.all_eq_true] at h
    obtain ⟨⟨⟨h1, h2⟩, h3⟩, h4⟩ := h
    exact ⟨h1, h2, fun j hj => inB_t.1 (h3 _ (zat_mem (by omega))), fun j hj => inB_t.1 (h4 _ (zat_mem (by omega)))⟩
  · rintro ⟨h1, h2, h3, h4⟩
    rw [cableB_yes h1 h2 (fun j hj => inB_t.2 (h3 j hj))]
    exact all_true (p := fun z => inB z 0 8) (fun j hj => inB_t.2 (h4 j (by omega)))
set_option maxHeartbeats 1000000 in
theorem laneWorks_i (Q S : Option Addr) (nq cq ns cs B : Nat) (q s : List Int) (k r d : Int) (w : World) (h : RC w B Q nq q S ns s) (hB : B ≤ w.heap.size) (hnq : nq ≤ 4294967296) (hns : ns ≤ 4294967296) :
    Calls Try.prog 32 #[.agg #[.slice Q nq cq, .slice S ns cs], .int .i64 k, .int .i64 r, .int .i64 d] w fun e w' => e = .returned (.bool (laneB q s k r d)) ∧ Below w.heap.size w w' := by
  have h0 := h.alloc hB (.cells #[.slice Q nq cq, .slice S ns cs] 26)
  have G0 := heap_alloc_new w (.cells #[.slice Q nq cq, .slice S ns cs] 26)
  have K0 := (Below.refl w.heap.size w).alloc (Nat.le_refl _) (.cells #[.slice Q nq cq, .slice S ns cs] 26)
  cases hcab : cableB q s
  · have HL := Lib.hid (show laneB q s k r d = false by simp [laneB, hcab])
    go_enter Try.func32, Try.ntmps32
    go_wp2_with (first | (go_at_call 29; refine (cableOk_i _ _ _ _ _ _ _ q s _ h0 (by simp; omega) hnq hns).mono ?_; rintro e w1 ⟨rfl, hb1⟩; have s1 := hb1.size; have c1 := (cells2 ((hb1.block w.heap.size (by simp)).trans G0)).1) | (go_at_call 65; refine (within_any _ _ _ _).mono ?_; rintro e w' ⟨rfl, rfl⟩))
    go_ret
    exact ⟨ret_bool HL.out.symm, K0.trans (hb1.mono (by simp))⟩
  · cases hr : inB r 1 4
    · have HL := Lib.hid (show laneB q s k r d = false by simp [laneB, hr])
      go_enter Try.func32, Try.ntmps32
      go_wp2_with (first | (go_at_call 29; refine (cableOk_i _ _ _ _ _ _ _ q s _ h0 (by simp; omega) hnq hns).mono ?_; rintro e w1 ⟨rfl, hb1⟩; have s1 := hb1.size; have c1 := (cells2 ((hb1.block w.heap.size (by simp)).trans G0)).1) | (go_at_call 65; refine (within_any _ _ _ _).mono ?_; rintro e w' ⟨rfl, rfl⟩))
      go_ret
      exact ⟨ret_bool HL.out.symm, K0.trans (hb1.mono (by simp))⟩
    · cases hd : inB d 0 3
      · have HL := Lib.hid (show laneB q s k r d = false by simp [laneB, hd])
        go_enter Try.func32, Try.ntmps32
        go_wp2_with (first | (go_at_call 29; refine (cableOk_i _ _ _ _ _ _ _ q s _ h0 (by simp; omega) hnq hns).mono ?_; rintro e w1 ⟨rfl, hb1⟩; have s1 := hb1.size; have c1 := (cells2 ((hb1.block w.heap.size (by simp)).trans G0)).1) | (go_at_call 65; refine (within_any _ _ _ _).mono ?_; rintro e w' ⟨rfl, rfl⟩))
        go_ret
        exact ⟨ret_bool HL.out.symm, K0.trans (hb1.mono (by simp))⟩
      · cases hk : inB k 0 3
        · have HL := Lib.hid (show laneB q s k r d = false by simp [laneB, hk])
          go_enter Try.func32, Try.ntmps32
          go_wp2_with (first | (go_at_call 29; refine (cableOk_i _ _ _ _ _ _ _ q s _ h0 (by simp; omega) hnq hns).mono ?_; rintro e w1 ⟨rfl, hb1⟩; have s1 := hb1.size; have c1 := (cells2 ((hb1.block w.heap.size (by simp)).trans G0)).1) | (go_at_call 65; refine (within_any _ _ _ _).mono ?_; rintro e w' ⟨rfl, rfl⟩))
          go_ret
          exact ⟨ret_bool HL.out.symm, K0.trans (hb1.mono (by simp))⟩
        · have bk := inB_t.1 hk
          have br := inB_t.1 hr
          have bd := inB_t.1 hd
          obtain ⟨k, rfl⟩ := Int.eq_ofNat_of_zero_le (show 0 ≤ k by omega)
          obtain ⟨c4, _, hqa, _⟩ := cableB_t.1 hcab
          obtain rfl : nq = 4 := h.q.len.symm.trans c4
          have bq := hqa k (by omega)
          obtain ⟨b, off, rfl, hb, hc⟩ := h0.q.at_ (show k < 4 by omega)
          have HL := Lib.hid (show laneB q s (k : Int) r d = decide (3 * r ≤ zat q k + 2 * d) by simp [laneB, hcab, hr, hd, hk])
          have hi1 : (0 : Int) ≤ (k : Int) := by omega
          have hi2 : (k : Int) < 4 := by omega
          clear hqa
          go_enter Try.func32, Try.ntmps32
          go_wp2_with (first | (go_at_call 29; refine (cableOk_i _ _ _ _ _ _ _ q s _ h0 (by simp; omega) hnq hns).mono ?_; rintro e w1 ⟨rfl, hb1⟩; have s1 := hb1.size; have c1 := (cells2 ((hb1.block w.heap.size (by simp)).trans G0)).1; have c2 := (hb1.cell (p := ⟨b, off + k, none⟩) (by simp; omega)).trans hc) | (go_at_call 65; refine (within_any _ _ _ _).mono ?_; rintro e w' ⟨rfl, rfl⟩))
          go_ret
          exact ⟨ret_bool HL.out.symm, K0.trans (hb1.mono (by simp))⟩
set_option maxHeartbeats 1000000 in
theorem laneWorks_s (Q S : Option Addr) (nq cq ns cs B : Nat) (q s : List Int) (k r d : Int) (w : World) (h : RC w B Q nq q S ns s) (hB : B ≤ w.heap.size) (hnq : nq ≤ 4294967296) (hns : ns ≤ 4294967296) :
    Calls Try.prog 31 #[.agg #[.slice Q nq cq, .slice S ns cs], .int .i64 k, .int .i64 r, .int .i64 d] w fun e w' => e = .returned (.bool (laneB q s k r d)) ∧ Below w.heap.size w w' := by
  have h0 := h.alloc hB (.cells #[.slice Q nq cq, .slice S ns cs] 26)
  have G0 := heap_alloc_new w (.cells #[.slice Q nq cq, .slice S ns cs] 26)
  have K0 := (Below.refl w.heap.size w).alloc (Nat.le_refl _) (.cells #[.slice Q nq cq, .slice S ns cs] 26)
  cases hcab : cableB q s
  · have HL := Lib.hid (show laneB q s k r d = false by simp [laneB, hcab])
    go_enter Try.func31, Try.ntmps31
    go_wp2_with (first | (go_at_call 27; refine (cableOk_s _ _ _ _ _ _ _ q s _ h0 (by simp; omega) hnq hns).mono ?_; rintro e w1 ⟨rfl, hb1⟩; have s1 := hb1.size; have c1 := (cells2 ((hb1.block w.heap.size (by simp)).trans G0)).1) | (go_at_call 63; refine (l01In_any _ _ _ _).mono ?_; rintro e w' ⟨rfl, rfl⟩))
    go_ret
    exact ⟨ret_bool HL.out.symm, K0.trans (hb1.mono (by simp))⟩
  · cases hr : inB r 1 4
    · have HL := Lib.hid (show laneB q s k r d = false by simp [laneB, hr])
      go_enter Try.func31, Try.ntmps31
      go_wp2_with (first | (go_at_call 27; refine (cableOk_s _ _ _ _ _ _ _ q s _ h0 (by simp; omega) hnq hns).mono ?_; rintro e w1 ⟨rfl, hb1⟩; have s1 := hb1.size; have c1 := (cells2 ((hb1.block w.heap.size (by simp)).trans G0)).1) | (go_at_call 63; refine (l01In_any _ _ _ _).mono ?_; rintro e w' ⟨rfl, rfl⟩))
      go_ret
      exact ⟨ret_bool HL.out.symm, K0.trans (hb1.mono (by simp))⟩
    · cases hd : inB d 0 3
      · have HL := Lib.hid (show laneB q s k r d = false by simp [laneB, hd])
        go_enter Try.func31, Try.ntmps31
        go_wp2_with (first | (go_at_call 27; refine (cableOk_s _ _ _ _ _ _ _ q s _ h0 (by simp; omega) hnq hns).mono ?_; rintro e w1 ⟨rfl, hb1⟩; have s1 := hb1.size; have c1 := (cells2 ((hb1.block w.heap.size (by simp)).trans G0)).1) | (go_at_call 63; refine (l01In_any _ _ _ _).mono ?_; rintro e w' ⟨rfl, rfl⟩))
        go_ret
        exact ⟨ret_bool HL.out.symm, K0.trans (hb1.mono (by simp))⟩
      · cases hk : inB k 0 3
        · have HL := Lib.hid (show laneB q s k r d = false by simp [laneB, hk])
          go_enter Try.func31, Try.ntmps31
          go_wp2_with (first | (go_at_call 27; refine (cableOk_s _ _ _ _ _ _ _ q s _ h0 (by simp; omega) hnq hns).mono ?_; rintro e w1 ⟨rfl, hb1⟩; have s1 := hb1.size; have c1 := (cells2 ((hb1.block w.heap.size (by simp)).trans G0)).1) | (go_at_call 63; refine (l01In_any _ _ _ _).mono ?_; rintro e w' ⟨rfl, rfl⟩))
          go_ret
          exact ⟨ret_bool HL.out.symm, K0.trans (hb1.mono (by simp))⟩
        · have bk := inB_t.1 hk
          have br := inB_t.1 hr
          have bd := inB_t.1 hd
          obtain ⟨k, rfl⟩ := Int.eq_ofNat_of_zero_le (show 0 ≤ k by omega)
          obtain ⟨c4, _, hqa, _⟩ := cableB_t.1 hcab
          obtain rfl : nq = 4 := h.q.len.symm.trans c4
          have bq := hqa k (by omega)
          obtain ⟨b, off, rfl, hb, hc⟩ := h0.q.at_ (show k < 4 by omega)
          have HL := Lib.hid (show laneB q s (k : Int) r d = decide (3 * r ≤ zat q k + 2 * d) by simp [laneB, hcab, hr, hd, hk])
          have hi1 : (0 : Int) ≤ (k : Int) := by omega
          have hi2 : (k : Int) < 4 := by omega
          clear hqa
          go_enter Try.func31, Try.ntmps31
          go_wp2_with (first | (go_at_call 27; refine (cableOk_s _ _ _ _ _ _ _ q s _ h0 (by simp; omega) hnq hns).mono ?_; rintro e w1 ⟨rfl, hb1⟩; have s1 := hb1.size; have c1 := (cells2 ((hb1.block w.heap.size (by simp)).trans G0)).1; have c2 := (hb1.cell (p := ⟨b, off + k, none⟩) (by simp; omega)).trans hc) | (go_at_call 63; refine (l01In_any _ _ _ _).mono ?_; rintro e w' ⟨rfl, rfl⟩))
          go_ret
          exact ⟨ret_bool HL.out.symm, K0.trans (hb1.mono (by simp))⟩
end Go.Proofs.Ytmibajhilbfecaa
