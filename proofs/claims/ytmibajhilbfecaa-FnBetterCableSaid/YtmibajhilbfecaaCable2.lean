/- LinkWorks and LaneSkews of the program and of the reference. -/
import Derived.Test.YtmibajhilbfecaaCable
namespace Go.Proofs.Ytmibajhilbfecaa
open Go.RowKit Go.Deep

def linkW (q s : List Int) (l r d : Int) : Bool := linkB l r d && (List.range l.toNat).all (fun k => laneB q s (k : Int) r d)
theorem linkW_no {q s : List Int} {l r d : Int} {k : Nat} (hk : (k : Int) < l) (h : laneB q s (k : Int) r d = false) : linkW q s l r d = false := by
  have : (List.range l.toNat).all (fun k => laneB q s (k : Int) r d) = false := by
    rw [List.all_eq_false]
    exact ⟨k, by simp; omega, by simp [h]⟩
  simp only [linkW, this]; simp
theorem linkW_yes {q s : List Int} {l r d : Int} (hl : linkB l r d = true) (h : ∀ k : Nat, (k : Int) < l → laneB q s (k : Int) r d = true) : linkW q s l r d = true := by
  have : (List.range l.toNat).all (fun k => laneB q s (k : Int) r d) = true := by
    rw [List.all_eq_true]
    intro k hk
    exact h k (by simp at hk; omega)
  simp only [linkW, this, hl]; simp
set_option maxHeartbeats 1000000 in
theorem linkWorks_i (Q S : Option Addr) (nq cq ns cs B : Nat) (q s : List Int) (l r d : Int) (w : World) (h : RC w B Q nq q S ns s) (hB : B ≤ w.heap.size) (hnq : nq ≤ 4294967296) (hns : ns ≤ 4294967296) :
    Calls Try.prog 18 #[.agg #[.slice Q nq cq, .slice S ns cs], .agg #[.int .i64 l, .int .i64 r, .int .i64 d]] w fun e w' => e = .returned (.bool (linkW q s l r d)) ∧ Below w.heap.size w w' := by
  cases hl : linkB l r d
  · have HL := Lib.hid (show linkW q s l r d = false by simp [linkW, hl])
    go_enter Try.func18, Try.ntmps18
    go_wp2_with (go_at_call 56; refine (linkOk_i _ _ _ _).mono ?_; rintro e w1 ⟨rfl, hb1⟩)
    go_ret
    exact ⟨ret_bool HL.out.symm, (((Below.refl _ _).alloc (Nat.le_refl _) _).alloc (by simp) _).trans (hb1.mono (by simp; omega))⟩
  · have K0 := ((Below.refl w.heap.size w).alloc (Nat.le_refl _) (.cells #[.slice Q nq cq, .slice S ns cs] 26)).alloc (by simp) (.cells #[.int .i64 l, .int .i64 r, .int .i64 d] 29)
    have G1 := heap_alloc_new (w.alloc (.cells #[.slice Q nq cq, .slice S ns cs] 26)) (.cells #[.int .i64 l, .int .i64 r, .int .i64 d] 29)
    have G2 : ((w.alloc (.cells #[.slice Q nq cq, .slice S ns cs] 26)).alloc (.cells #[.int .i64 l, .int .i64 r, .int .i64 d] 29)).heap[w.heap.size]? = some (.cells #[.slice Q nq cq, .slice S ns cs] 26) := by
      rw [Below.heap_alloc _ _ _ (by simp), heap_alloc_new]
    simp only [World.size_alloc] at G1
    go_enter Try.func18, Try.ntmps18
    go_wp2_with fail
    refine (linkOk_i _ _ _ _).mono ?_
    rintro e w1 ⟨rfl, hb1⟩
    have s1 := hb1.size
    simp only [World.size_alloc] at s1
    have K1 := K0.trans (hb1.mono (by simp; omega))
    have H1 := (hb1.block _ (by simp)).trans G1
    have H2 := (hb1.block _ (by simp; omega)).trans G2
    clear G1 G2 K0 hb1
    obtain ⟨a1, a2, a3, _, _, _⟩ := cells3 H1
    have b1 := (linkB_t.1 hl).1
    have b2 : 1 ≤ l ∧ l ≤ 4 := by omega
    clear b1
    go_wp2
    go_loopw [11] (fun i wr => ∃ k : Nat, (k : Int) ≤ l ∧ i = .int .i64 k ∧ Hid (∀ j : Nat, j < k → laneB q s (j : Int) r d = true) ∧ Hid (wr.heap[w.heap.size + 1]? = some (.cells #[.int .i64 l, .int .i64 r, .int .i64 d] 29)) ∧ Hid (wr.heap[w.heap.size]? = some (.cells #[.slice Q nq cq, .slice S ns cs] 26)) ∧ w.heap.size + 1 < wr.heap.size ∧ Below w.heap.size w wr) (fun i _ => l.toNat - (intOf i).toNat)
    case atStart => exact ⟨0, by omega, rfl, Lib.hid (fun j hj => absurd hj (by omega)), Lib.hid H1, Lib.hid H2, by omega, K1⟩
    case round =>
      clear a1 a2 a3 H1 H2 K1
      obtain ⟨k, hk, rfl, hall, g1, g2, hsz, K⟩ := hrel
      obtain ⟨a1, a2, a3, _, _, _⟩ := cells3 g1.out
      obtain ⟨d1, d2, _, _⟩ := cells2 g2.out
      have hR := h.below K hB
      by_cases hlt : (k : Int) < l
      · cases hin : laneB q s (k : Int) r d
        · have HD := Lib.hid (linkW_no hlt hin)
          go_wp2_with (go_at_call 32; refine (laneWorks_i _ _ _ _ _ _ B q s _ _ _ _ hR (by omega) hnq hns).mono ?_; rintro e w2 ⟨rfl, hb2⟩)
          go_ret
          exact ⟨ret_bool HD.out.symm, bthen K hb2 (by omega)⟩
        · have HI := Lib.hid hin
          go_wp2_with (go_at_call 32; refine (laneWorks_i _ _ _ _ _ _ B q s _ _ _ _ hR (by omega) hnq hns).mono ?_; rintro e w2 ⟨rfl, hb2⟩)
          have s2 := hb2.size
          go_roundw
          case rel => exact ⟨k + 1, by omega, by go_num, Lib.hid (fun j hj => by rcases Nat.lt_succ_iff_lt_or_eq.1 hj with h1 | h1; exact hall.out j h1; subst h1; exact HI.out), Lib.hid ((hb2.block _ (by omega)).trans g1.out), Lib.hid ((hb2.block _ (by omega)).trans g2.out), by omega, bthen K hb2 (by omega)⟩
          case measure => simp [intOf]; omega
      · have hkl : (k : Int) = l := by omega
        have HD := Lib.hid (linkW_yes hl (fun j hj => hall.out j (by omega)))
        clear hkl
        go_wp2
        go_ret
        exact ⟨ret_bool HD.out.symm, K⟩
set_option maxHeartbeats 1000000 in
theorem linkWorks_s (Q S : Option Addr) (nq cq ns cs B : Nat) (q s : List Int) (l r d : Int) (w : World) (h : RC w B Q nq q S ns s) (hB : B ≤ w.heap.size) (hnq : nq ≤ 4294967296) (hns : ns ≤ 4294967296) :
    Calls Try.prog 19 #[.agg #[.slice Q nq cq, .slice S ns cs], .agg #[.int .i64 l, .int .i64 r, .int .i64 d]] w fun e w' => e = .returned (.bool (linkW q s l r d)) ∧ Below w.heap.size w w' := by
  cases hl : linkB l r d
  · have HL := Lib.hid (show linkW q s l r d = false by simp [linkW, hl])
    go_enter Try.func19, Try.ntmps19
    go_wp2_with (go_at_call 57; refine (linkOk_s _ _ _ _).mono ?_; rintro e w1 ⟨rfl, hb1⟩)
    go_ret
    exact ⟨ret_bool HL.out.symm, (((Below.refl _ _).alloc (Nat.le_refl _) _).alloc (by simp) _).trans (hb1.mono (by simp; omega))⟩
  · have K0 := ((Below.refl w.heap.size w).alloc (Nat.le_refl _) (.cells #[.slice Q nq cq, .slice S ns cs] 26)).alloc (by simp) (.cells #[.int .i64 l, .int .i64 r, .int .i64 d] 29)
    have G1 := heap_alloc_new (w.alloc (.cells #[.slice Q nq cq, .slice S ns cs] 26)) (.cells #[.int .i64 l, .int .i64 r, .int .i64 d] 29)
    have G2 : ((w.alloc (.cells #[.slice Q nq cq, .slice S ns cs] 26)).alloc (.cells #[.int .i64 l, .int .i64 r, .int .i64 d] 29)).heap[w.heap.size]? = some (.cells #[.slice Q nq cq, .slice S ns cs] 26) := by
      rw [Below.heap_alloc _ _ _ (by simp), heap_alloc_new]
    simp only [World.size_alloc] at G1
    go_enter Try.func19, Try.ntmps19
    go_wp2_with fail
    refine (linkOk_s _ _ _ _).mono ?_
    rintro e w1 ⟨rfl, hb1⟩
    have s1 := hb1.size
    simp only [World.size_alloc] at s1
    have K1 := K0.trans (hb1.mono (by simp; omega))
    have H1 := (hb1.block _ (by simp)).trans G1
    have H2 := (hb1.block _ (by simp; omega)).trans G2
    clear G1 G2 K0 hb1
    obtain ⟨a1, a2, a3, _, _, _⟩ := cells3 H1
    have b1 := (linkB_t.1 hl).1
    have b2 : 1 ≤ l ∧ l ≤ 4 := by omega
    clear b1
    go_wp2
    go_loopw [5] (fun i wr => ∃ k : Nat, (k : Int) ≤ l ∧ i = .int .i64 k ∧ Hid (∀ j : Nat, j < k → laneB q s (j : Int) r d = true) ∧ Hid (wr.heap[w.heap.size + 1]? = some (.cells #[.int .i64 l, .int .i64 r, .int .i64 d] 29)) ∧ Hid (wr.heap[w.heap.size]? = some (.cells #[.slice Q nq cq, .slice S ns cs] 26)) ∧ w.heap.size + 1 < wr.heap.size ∧ Below w.heap.size w wr) (fun i _ => l.toNat - (intOf i).toNat)
    case atStart => exact ⟨0, by omega, rfl, Lib.hid (fun j hj => absurd hj (by omega)), Lib.hid H1, Lib.hid H2, by omega, K1⟩
    case round =>
      clear a1 a2 a3 H1 H2 K1
      obtain ⟨k, hk, rfl, hall, g1, g2, hsz, K⟩ := hrel
      obtain ⟨a1, a2, a3, _, _, _⟩ := cells3 g1.out
      obtain ⟨d1, d2, _, _⟩ := cells2 g2.out
      have hR := h.below K hB
      by_cases hlt : (k : Int) < l
      · cases hin : laneB q s (k : Int) r d
        · have HD := Lib.hid (linkW_no hlt hin)
          go_wp2_with (go_at_call 31; refine (laneWorks_s _ _ _ _ _ _ B q s _ _ _ _ hR (by omega) hnq hns).mono ?_; rintro e w2 ⟨rfl, hb2⟩)
          go_ret
          exact ⟨ret_bool HD.out.symm, bthen K hb2 (by omega)⟩
        · have HI := Lib.hid hin
          go_wp2_with (go_at_call 31; refine (laneWorks_s _ _ _ _ _ _ B q s _ _ _ _ hR (by omega) hnq hns).mono ?_; rintro e w2 ⟨rfl, hb2⟩)
          have s2 := hb2.size
          go_roundw
          case rel => exact ⟨k + 1, by omega, by go_num, Lib.hid (fun j hj => by rcases Nat.lt_succ_iff_lt_or_eq.1 hj with h1 | h1; exact hall.out j h1; subst h1; exact HI.out), Lib.hid ((hb2.block _ (by omega)).trans g1.out), Lib.hid ((hb2.block _ (by omega)).trans g2.out), by omega, bthen K hb2 (by omega)⟩
          case measure => simp [intOf]; omega
      · have hkl : (k : Int) = l := by omega
        have HD := Lib.hid (linkW_yes hl (fun j hj => hall.out j (by omega)))
        clear hkl
        go_wp2
        go_ret
        exact ⟨ret_bool HD.out.symm, K⟩
def skewsF (q s : List Int) (l r d : Int) : List Int := if cableB q s && linkB l r d then s.take l.toNat else []
set_option maxHeartbeats 1000000 in
theorem laneSkews_i (Q S : Option Addr) (nq cq ns cs B : Nat) (q s : List Int) (l r d : Int) (w : World) (h : RC w B Q nq q S ns s) (hB : B ≤ w.heap.size) (hnq : nq ≤ 4294967296) (hns : ns ≤ 4294967296) (hcap : ns ≤ cs) :
    Calls Try.prog 21 #[.agg #[.slice Q nq cq, .slice S ns cs], .agg #[.int .i64 l, .int .i64 r, .int .i64 d]] w (RetOwn w (skewsF q s l r d)) := by
  have K0 := ((Below.refl w.heap.size w).alloc (Nat.le_refl _) (.cells #[.slice Q nq cq, .slice S ns cs] 26)).alloc (by simp) (.cells #[.int .i64 l, .int .i64 r, .int .i64 d] 29)
  have G1 := heap_alloc_new (w.alloc (.cells #[.slice Q nq cq, .slice S ns cs] 26)) (.cells #[.int .i64 l, .int .i64 r, .int .i64 d] 29)
  have G2 : ((w.alloc (.cells #[.slice Q nq cq, .slice S ns cs] 26)).alloc (.cells #[.int .i64 l, .int .i64 r, .int .i64 d] 29)).heap[w.heap.size]? = some (.cells #[.slice Q nq cq, .slice S ns cs] 26) := by
    rw [Below.heap_alloc _ _ _ (by simp), heap_alloc_new]
  simp only [World.size_alloc] at G1
  cases hcab : cableB q s
  · have HL := Lib.hid (show skewsF q s l r d = [] by simp [skewsF, hcab])
    go_enter Try.func21, Try.ntmps21
    go_wp2_with (go_at_call 29; refine (cableOk_i _ _ _ _ _ _ B q s _ (h.below K0 hB) (by simp; omega) hnq hns).mono ?_; rintro e w1 ⟨rfl, hb1⟩; have s1 := hb1.size; simp only [World.size_alloc] at s1)
    go_ret
    rw [HL.out]
    exact ⟨_, _, _, rfl, Own.nil, K0.trans (hb1.mono (by simp; omega))⟩
  · cases hl : linkB l r d
    · have HL := Lib.hid (show skewsF q s l r d = [] by simp [skewsF, hl])
      go_enter Try.func21, Try.ntmps21
      go_wp2_with (first | (go_at_call 29; refine (cableOk_i _ _ _ _ _ _ B q s _ (h.below K0 hB) (by simp; omega) hnq hns).mono ?_; rintro e w1 ⟨rfl, hb1⟩; have s1 := hb1.size; simp only [World.size_alloc] at s1; obtain ⟨a1, a2, a3, _, _, _⟩ := cells3 ((hb1.block _ (by simp)).trans G1)) | (go_at_call 56; refine (linkOk_i _ _ _ _).mono ?_; rintro e w2 ⟨rfl, hb2⟩; have s2 := hb2.size))
      go_ret
      rw [HL.out]
      exact ⟨_, _, _, rfl, Own.nil, bthen (K0.trans (hb1.mono (by simp; omega))) hb2 (by omega)⟩
    · have b1 := (linkB_t.1 hl).1
      obtain ⟨c4, d4, _, _⟩ := cableB_t.1 hcab
      obtain rfl : nq = 4 := h.q.len.symm.trans c4
      obtain rfl : ns = 4 := h.s.len.symm.trans d4
      obtain ⟨m, rfl⟩ := Int.eq_ofNat_of_zero_le (show 0 ≤ l by omega)
      have hm1 : 1 ≤ m := by omega
      have hm4 : m ≤ 4 := by omega
      have HL := Lib.hid (show skewsF q s (m : Int) r d = s.take m by simp [skewsF, hl, hcab])
      have C4 := Lib.hid c4
      have D4 := Lib.hid d4
      clear b1 c4 d4
      have hi1 : (0 : Int) ≤ (m : Int) := by omega
      have hi2 : (m : Int) ≤ (4 : Int) := by omega
      have hi3 : (m : Int) ≤ (cs : Int) := by omega
      go_enter Try.func21, Try.ntmps21
      go_wp2_with (first | (go_at_call 29; refine (cableOk_i _ _ _ _ _ _ B q s _ (h.below K0 hB) (by simp; omega) hnq hns).mono ?_; rintro e w1 ⟨rfl, hb1⟩; have s1 := hb1.size; simp only [World.size_alloc] at s1; obtain ⟨a1, a2, a3, _, _, _⟩ := cells3 ((hb1.block _ (by simp)).trans G1)) | (go_at_call 56; refine (linkOk_i _ _ _ _).mono ?_; rintro e w2 ⟨rfl, hb2⟩; have s2 := hb2.size; obtain ⟨a1, a2, a3, _, _, _⟩ := cells3 ((hb2.block _ (by omega)).trans ((hb1.block _ (by simp)).trans G1)); obtain ⟨d1, d2, _, _⟩ := cells2 ((hb2.block _ (by omega)).trans ((hb1.block _ (by simp; omega)).trans G2))))
      have K2 := bthen (K0.trans (hb1.mono (by simp; omega))) hb2 (by omega)
      refine (clone_any _ _ _ B (s.take m) _ ((h.s.below K2 hB).take hm4) (by omega) (by omega)).mono ?_
      rintro e w3 ⟨A3, n3, c3, rfl, ho3, hb3⟩
      go_wp2
      go_ret
      rw [HL.out]
      exact ⟨_, _, _, rfl, ho3.mono (by omega) (Nat.le_refl _), bthen K2 hb3 (by omega)⟩
set_option maxHeartbeats 1000000 in
theorem laneSkews_s (Q S : Option Addr) (nq cq ns cs B : Nat) (q s : List Int) (l r d : Int) (w : World) (h : RC w B Q nq q S ns s) (hB : B ≤ w.heap.size) (hnq : nq ≤ 4294967296) (hns : ns ≤ 4294967296) (hcap : ns ≤ cs) :
    Calls Try.prog 37 #[.agg #[.slice Q nq cq, .slice S ns cs], .agg #[.int .i64 l, .int .i64 r, .int .i64 d]] w (RetOwn w (skewsF q s l r d)) := by
  have K0 := ((Below.refl w.heap.size w).alloc (Nat.le_refl _) (.cells #[.slice Q nq cq, .slice S ns cs] 26)).alloc (by simp) (.cells #[.int .i64 l, .int .i64 r, .int .i64 d] 29)
  have G1 := heap_alloc_new (w.alloc (.cells #[.slice Q nq cq, .slice S ns cs] 26)) (.cells #[.int .i64 l, .int .i64 r, .int .i64 d] 29)
  have G2 : ((w.alloc (.cells #[.slice Q nq cq, .slice S ns cs] 26)).alloc (.cells #[.int .i64 l, .int .i64 r, .int .i64 d] 29)).heap[w.heap.size]? = some (.cells #[.slice Q nq cq, .slice S ns cs] 26) := by
    rw [Below.heap_alloc _ _ _ (by simp), heap_alloc_new]
  simp only [World.size_alloc] at G1
  cases hcab : cableB q s
  · have HL := Lib.hid (show skewsF q s l r d = [] by simp [skewsF, hcab])
    go_enter Try.func37, Try.ntmps37
    go_wp2_with (go_at_call 27; refine (cableOk_s _ _ _ _ _ _ B q s _ (h.below K0 hB) (by simp; omega) hnq hns).mono ?_; rintro e w1 ⟨rfl, hb1⟩; have s1 := hb1.size; simp only [World.size_alloc] at s1)
    go_ret
    rw [HL.out]
    exact ⟨_, _, _, rfl, (own_lit0 w1).mono (by omega) (by simp), (K0.trans (hb1.mono (by simp; omega))).alloc (by omega) _⟩
  · cases hl : linkB l r d
    · have HL := Lib.hid (show skewsF q s l r d = [] by simp [skewsF, hl])
      go_enter Try.func37, Try.ntmps37
      go_wp2_with (first | (go_at_call 27; refine (cableOk_s _ _ _ _ _ _ B q s _ (h.below K0 hB) (by simp; omega) hnq hns).mono ?_; rintro e w1 ⟨rfl, hb1⟩; have s1 := hb1.size; simp only [World.size_alloc] at s1; obtain ⟨a1, a2, a3, _, _, _⟩ := cells3 ((hb1.block _ (by simp)).trans G1)) | (go_at_call 57; refine (linkOk_s _ _ _ _).mono ?_; rintro e w2 ⟨rfl, hb2⟩; have s2 := hb2.size))
      go_ret
      rw [HL.out]
      exact ⟨_, _, _, rfl, (own_lit0 w2).mono (by omega) (by simp), (bthen (K0.trans (hb1.mono (by simp; omega))) hb2 (by omega)).alloc (by omega) _⟩
    · have b1 := (linkB_t.1 hl).1
      obtain ⟨c4, d4, _, _⟩ := cableB_t.1 hcab
      obtain rfl : nq = 4 := h.q.len.symm.trans c4
      obtain rfl : ns = 4 := h.s.len.symm.trans d4
      obtain ⟨m, rfl⟩ := Int.eq_ofNat_of_zero_le (show 0 ≤ l by omega)
      have hm1 : 1 ≤ m := by omega
      have hm4 : m ≤ 4 := by omega
      have HL := Lib.hid (show skewsF q s (m : Int) r d = s.take m by simp [skewsF, hl, hcab])
      have C4 := Lib.hid c4
      have D4 := Lib.hid d4
      clear b1 c4 d4
      have hi1 : (0 : Int) ≤ (m : Int) := by omega
      have hi2 : (m : Int) ≤ (4 : Int) := by omega
      have hi3 : (m : Int) ≤ (cs : Int) := by omega
      go_enter Try.func37, Try.ntmps37
      go_wp2_with fail
      refine (cableOk_s _ _ _ _ _ _ B q s _ (h.below K0 hB) (by simp; omega) hnq hns).mono ?_
      rintro e w1 ⟨rfl, hb1⟩
      have s1 := hb1.size
      simp only [World.size_alloc] at s1
      have H1 := (hb1.block _ (by simp)).trans G1
      have H2 := (hb1.block _ (by simp; omega)).trans G2
      have K1 := K0.trans (hb1.mono (by simp; omega))
      clear G1 G2 K0 hb1
      obtain ⟨a1, a2, a3, _, _, _⟩ := cells3 H1
      go_wp2_with fail
      refine (linkOk_s _ _ _ _).mono ?_
      rintro e w2 ⟨rfl, hb2⟩
      have s2 := hb2.size
      have H3 := (hb2.block _ (by omega)).trans H1
      have H4 := (hb2.block _ (by omega)).trans H2
      have K2 := bthen K1 hb2 (by omega)
      clear H1 H2 K1 hb2 a1 a2 a3
      obtain ⟨a1, a2, a3, _, _, _⟩ := cells3 H3
      obtain ⟨d1, d2, _, _⟩ := cells2 H4
      have HL2 := own_lit0 w2
      have HR2 : RI (w2.alloc (.cells #[] 3)) B S m (s.take m) := RV.alloc ((h.s.below K2 hB).take hm4) (by omega) _
      have hz0 : w.heap.size < w2.heap.size := by omega
      have hz1 : w.heap.size + 1 < w2.heap.size := by omega
      go_wp2_with (at_builtin; refine wpList_append_ints rfl _ _ _ rfl Try.underlying24 infoInt _ _ _ _ _ _ rfl HL2 _ _ _ _ _ rfl HR2 (by omega) (by simp) ?_; intro A3 c3 w3 ho3 hoff3 hb3)
      go_ret
      rw [HL.out]
      rw [Nat.zero_add, List.nil_append] at ho3
      exact ⟨_, _, _, rfl, ho3.mono (by omega) (Nat.le_refl _), (K2.alloc (by omega) _).trans (hb3.mono (by omega))⟩
end Go.Proofs.Ytmibajhilbfecaa
