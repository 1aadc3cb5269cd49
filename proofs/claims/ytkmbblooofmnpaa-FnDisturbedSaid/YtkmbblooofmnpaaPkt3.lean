/- The verifier's helpers on packets. -/
import Derived.Test.YtkmbblooofmnpaaPkt2
namespace Go.Proofs.Ytkmbblooofmnpaa
open Go.RowKit Go.Deep
/-- The call returned a packet with dots of its own. -/
def RetPkt (w : World) (k f l : Int) (ds : List Int) (e : Ending) (w' : World) : Prop :=
  ∃ A c, e = .returned (.agg #[.int .i64 k, .int .i64 f, .int .i64 l, .slice A ds.length c]) ∧ Own w' w.heap.size w'.heap.size A ds.length c ds ∧ Below w.heap.size w w'
theorem szIntS_pk (A : Option Addr) (n c : Nat) (x : Int) (w : World) (h0 : 0 ≤ x) (h1 : x ≤ 1048576) (hc : n ≤ c) (hm : c ≤ maxLen) :
    Calls Try.prog 53 #[.slice A n c, .int .i64 x] w fun e w' => e = .returned (.int .i64 (if x < n then -1 else x - n)) ∧ w = w' := by
  unfold maxLen at hm
  by_cases h : x < n
  · have hd : decide (x - (n : Int) < 0) = true := by simp; omega
    go_enter Try.func53, Try.ntmps53
    go_wp2
    go_ret
    exact ⟨by simp, rfl⟩
  · have hd : decide (x - (n : Int) < 0) = false := by simp; omega
    go_enter Try.func53, Try.ntmps53
    go_wp2
    go_ret
    exact ⟨by simp, rfl⟩
theorem szLinePacket_any (k f l : Int) (D : Option Addr) (nd cd : Nat) (w : World) (hq : nd ≤ cd) (hq' : cd ≤ maxLen) :
    Calls Try.prog 32 #[.agg #[.int .i64 k, .int .i64 f, .int .i64 l, .slice D nd cd], .int .i64 1048576] w fun e w' => (∃ x : Int, e = .returned (.int .i64 x) ∧ (x < 0 ↔ 1048576 < nd)) ∧ Below w.heap.size w w' := by
  by_cases h1 : (1048576 : Int) < nd
  · have e1 : (if (1048576 : Int) < (nd : Int) then (-1 : Int) else 1048576 - nd) = -1 := if_pos h1
    go_enter Try.func32, Try.ntmps32
    go_wp2_with (go_at_call 53; refine (szIntS_pk _ _ _ _ _ (by omega) (by omega) hq hq').mono ?_; rw [e1]; rintro e w' ⟨rfl, rfl⟩)
    go_ret
    exact ⟨⟨_, rfl, by omega⟩, (Below.refl _ _).alloc (Nat.le_refl _) _⟩
  · have e1 : (if (1048576 : Int) < (nd : Int) then (-1 : Int) else 1048576 - nd) = 1048576 - nd := if_neg h1
    go_enter Try.func32, Try.ntmps32
    go_wp2_with (go_at_call 53; refine (szIntS_pk _ _ _ _ _ (by omega) (by omega) hq hq').mono ?_; rw [e1]; rintro e w' ⟨rfl, rfl⟩)
    go_ret
    exact ⟨⟨_, rfl, by omega⟩, (Below.refl _ _).alloc (Nat.le_refl _) _⟩
theorem toLinePacket_any (k f l : Int) (D : Option Addr) (nd cd B : Nat) (ds : List Int) (w : World) (h : RI w B D nd ds) (hB : B ≤ w.heap.size) (hn : nd ≤ 4294967296) :
    Calls Try.prog 34 #[.agg #[.int .i64 k, .int .i64 f, .int .i64 l, .slice D nd cd]] w (RetPkt w k f l ds) := by
  go_enter Try.func34, Try.ntmps34
  go_wp2_with fail
  have K0 := (((Below.refl w.heap.size w).alloc (Nat.le_refl _) (.cells #[.int .i64 k, .int .i64 f, .int .i64 l, .slice D nd cd] 45)).alloc (by simp) (.cells #[.int .i64 0, .int .i64 0, .int .i64 0, .slice none 0 0] 26)).alloc (by simp; omega) (.cells #[.int .i64 k, .int .i64 f, .int .i64 l, .slice none 0 0] 26)
  refine (toIntS_any _ _ _ B _ _ (h.below K0 hB) (by simp; omega) hn).mono ?_
  have G0 : ((w.alloc (.cells #[.int .i64 k, .int .i64 f, .int .i64 l, .slice D nd cd] 45)).alloc (.cells #[.int .i64 0, .int .i64 0, .int .i64 0, .slice none 0 0] 26)).heap.size = w.heap.size + 2 := by simp
  have G1 := heap_alloc_new ((w.alloc (.cells #[.int .i64 k, .int .i64 f, .int .i64 l, .slice D nd cd] 45)).alloc (.cells #[.int .i64 0, .int .i64 0, .int .i64 0, .slice none 0 0] 26)) (.cells #[.int .i64 k, .int .i64 f, .int .i64 l, .slice none 0 0] 26)
  have G3 : (((w.alloc (.cells #[.int .i64 k, .int .i64 f, .int .i64 l, .slice D nd cd] 45)).alloc (.cells #[.int .i64 0, .int .i64 0, .int .i64 0, .slice none 0 0] 26)).alloc (.cells #[.int .i64 k, .int .i64 f, .int .i64 l, .slice none 0 0] 26)).heap[w.heap.size + 1]? = some (.cells #[.int .i64 0, .int .i64 0, .int .i64 0, .slice none 0 0] 26) := by
    rw [Below.heap_alloc _ _ _ (by simp), ← World.size_alloc w, heap_alloc_new]
  rw [G0] at G1
  rintro e w1 ⟨AT, nT, cT, rfl, hoT, hb1⟩
  obtain rfl : nT = ds.length := hoT.len.symm
  have s1 := hb1.size
  simp only [World.size_alloc] at s1 hoT
  have H1 := (hb1.block (w.heap.size + 2) (by simp)).trans G1
  have H3 := (hb1.block (w.heap.size + 1) (by simp)).trans G3
  have K1 := K0.trans (hb1.mono (by simp; omega))
  clear G0 G1 G3 K0 hb1
  obtain ⟨a1, a2, a3, a4, _, _, _, f4⟩ := cells4 H1
  obtain ⟨b1, b2, b3, b4, f5, f6, f7, f8⟩ := cells4 H3
  have V1 := heap_far H3 (p := ⟨w.heap.size + 1 + 1, 3, none⟩) (by simp) (.slice AT ds.length cT)
  have J1 := heap_setCell_same (j := 0) V1 (.int .i64 k)
  have J2 := heap_setCell_same (j := 1) J1 (.int .i64 f)
  have J3 := heap_setCell_same (j := 2) J2 (.int .i64 l)
  have J4 := heap_setCell_same (j := 3) J3 (.slice AT ds.length cT)
  have j1 := (cells4 J1).1
  have j2 := (cells4 J2).2.1
  have j3 := (cells4 J3).2.2.1
  have j4 := (cells4 J4).2.2.2.1
  clear V1 J1 J2 J3 J4
  go_wp2
  refine bodyPost_ret (v := .agg #[.int .i64 k, .int .i64 f, .int .i64 l, .slice AT ds.length cT]) (by simp [results, Try.results34, go_sem, j1, j2, j3, j4]) rfl ⟨AT, cT, rfl, ?_, ?_⟩
  · simp only [World.size_setCell]
    exact OwnV.mono (OwnV.far (OwnV.far (OwnV.far (OwnV.far (OwnV.far hoT (by simp) _) (by simp) _) (by simp) _) (by simp) _) (by simp) _) (by omega) (Nat.le_refl _)
  · exact ((((K1.setCell (by simp; omega) _).setCell (by simp) _).setCell (by simp) _).setCell (by simp) _).setCell (by simp) _
theorem eqLinePacket_t (k f l : Int) (D D' : Option Addr) (nd cd nd' cd' B B' : Nat) (ds : List Int) (w : World) (h : RI w B D nd ds) (h' : RI w B' D' nd' ds) (hB : B ≤ w.heap.size) (hB' : B' ≤ w.heap.size) (hn : nd ≤ 4294967296) :
    Calls Try.prog 35 #[.agg #[.int .i64 k, .int .i64 f, .int .i64 l, .slice D nd cd], .agg #[.int .i64 k, .int .i64 f, .int .i64 l, .slice D' nd' cd']] w fun e w' => e = .returned (.bool true) ∧ Below w.heap.size w w' := by
  have K0 := ((Below.refl w.heap.size w).alloc (Nat.le_refl _) (.cells #[.int .i64 k, .int .i64 f, .int .i64 l, .slice D nd cd] 26)).alloc (by simp) (.cells #[.int .i64 k, .int .i64 f, .int .i64 l, .slice D' nd' cd'] 26)
  go_enter Try.func35, Try.ntmps35
  go_wp2_with fail
  refine (eqIntS_any _ _ _ _ _ _ B B' ds ds _ (h.below K0 hB) (h'.below K0 hB') hn (by have h1 := h.len; have h2 := h'.len; omega)).mono ?_
  rintro e w1 ⟨rfl, k1, rfl⟩
  simp only [decide_true]
  go_wp2
  go_ret
  exact ⟨rfl, below_drewN K0 _⟩
theorem markLinePacket_any (k f l : Int) (D : Option Addr) (cd lo hi : Nat) (ds : List Int) (w : World) (hq : Own w lo hi D ds.length cd ds) (_h3 : hi ≤ w.heap.size) (hn : ds.length ≤ 1048576) :
    Calls Try.prog 36 #[.agg #[.int .i64 k, .int .i64 f, .int .i64 l, .slice D ds.length cd], .int .i64 1] w fun e w' => e = .returned (.int .i64 (1 + ds.length)) ∧ Own w' lo hi D ds.length cd (marks 1 ds.length) ∧ Off lo hi w w' := by
  have K0 := (Below.refl w.heap.size w).alloc (Nat.le_refl _) (.cells #[.int .i64 k, .int .i64 f, .int .i64 l, .slice D ds.length cd] 26)
  go_enter Try.func36, Try.ntmps36
  go_wp2_with fail
  refine (markIntS_any _ _ _ lo hi 1 ds _ (hq.alloc _) (by omega) (by omega) (by omega)).mono ?_
  rintro e w1 ⟨rfl, om1, hf1⟩
  go_wp2
  go_ret
  exact ⟨rfl, om1, (Off.of_below K0).trans hf1⟩
theorem heldLinePacket_t (k f l : Int) (D : Option Addr) (n cd B : Nat) (w : World) (h : RI w B D n (marks 1 n)) (hB : B ≤ w.heap.size) (hn : n ≤ 1048576) :
    Calls Try.prog 46 #[.agg #[.int .i64 k, .int .i64 f, .int .i64 l, .slice D n cd], .int .i64 1] w fun e w' => e = .returned (.int .i64 (1 + n)) ∧ Below w.heap.size w w' := by
  have K0 := (Below.refl w.heap.size w).alloc (Nat.le_refl _) (.cells #[.int .i64 k, .int .i64 f, .int .i64 l, .slice D n cd] 26)
  go_enter Try.func46, Try.ntmps46
  go_wp2_with fail
  refine (heldIntS_t _ _ _ B 1 _ (RI.alloc h hB _) (by omega) (by omega) (by omega)).mono ?_
  rintro e w1 ⟨rfl, hb1⟩
  go_wp2
  go_ret
  exact ⟨rfl, K0.trans (hb1.mono (by simp))⟩
end Go.Proofs.Ytkmbblooofmnpaa
