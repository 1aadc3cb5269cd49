/- The verifier's cursor over drawn bytes (l01Cur): whatever the bytes are, each draw is some number in its range. -/
import Derived.Test.YtmibajhilbfecaaAt
import Derived.Test.YtmibajhilbfecaaApp2
import Derived.Test.YtmibajhilbfecaaBase2
import Derived.Test.YtmibajhilbfecaaSl
namespace Go.Proofs.Ytmibajhilbfecaa
open Go.RowKit Go.Deep

theorem and_255 (y : Int) : 0 ≤ bits .and .i64 y 255 ∧ bits .and .i64 y 255 ≤ 255 := by
  have h : ((BitVec.ofInt 64 y &&& BitVec.ofInt 64 255).toNat : Int) ≤ 255 := by
    rw [BitVec.toNat_and]
    have : (BitVec.ofInt 64 (255 : Int)).toNat = 255 := by decide
    rw [this]
    have := Nat.and_le_right (n := (BitVec.ofInt 64 y).toNat) (m := 255)
    omega
  show 0 ≤ IntKind.i64.wrap ((BitVec.ofInt 64 y &&& BitVec.ofInt 64 (255 : Int)).toNat : Int) ∧ IntKind.i64.wrap ((BitVec.ofInt 64 y &&& BitVec.ofInt 64 (255 : Int)).toNat : Int) ≤ 255
  rw [IntKind.wrap_i64]
  omega

/-- The cursor in block g: over the slice '.slice A n c', at i. -/
def Cur (w : World) (g : Nat) (A : Option Addr) (n c : Nat) : Prop :=
  ∃ (i : Nat) (h : Int), i ≤ n ∧ w.heap[g]? = some (.cells #[.slice A n c, .int .i64 i, .int .i64 h] 95 (0, 0))
theorem Cur.below {w w' : World} {g n c B : Nat} {A : Option Addr} (h : Cur w g A n c) (hb : Below B w w') (hg : g < B) : Cur w' g A n c := by
  obtain ⟨i, x, h1, h2⟩ := h
  exact ⟨i, x, h1, (hb.block g hg).trans h2⟩
theorem Cur.off {w w' : World} {g n c lo hi : Nat} {A : Option Addr} (h : Cur w g A n c) (hb : Off lo hi w w') (hg : g < lo ∨ hi ≤ g) : Cur w' g A n c := by
  obtain ⟨i, x, h1, h2⟩ := h
  exact ⟨i, x, h1, (hb.block g (heap_lt h2) hg).trans h2⟩
theorem Cur.lt {w : World} {g n c : Nat} {A : Option Addr} (h : Cur w g A n c) : g < w.heap.size := by
  obtain ⟨i, x, h1, h2⟩ := h
  exact heap_lt h2
set_option maxHeartbeats 1000000 in
theorem l01Byte_any (A : Option Addr) (n c B g : Nat) (zs : List Int) (w : World) (h : RB w B A n zs) (hz : BY zs) (hB : B ≤ g) (hn : n ≤ 1048576) (hc : Cur w g A n c) :
    Calls Try.prog 94 #[.pointer (some ⟨g, 0, none⟩)] w fun e w' => (∃ x, e = .returned (.int .i64 x) ∧ (0 ≤ x ∧ x ≤ 255)) ∧ Cur w' g A n c ∧ Off g (g + 1) w w' := by
  obtain ⟨i, hh, hin, hg⟩ := hc
  have hgl := heap_lt hg
  obtain ⟨c0, c1, c2, f0, f1, f2⟩ := cells3 hg
  go_enter Try.func94, Try.ntmps94
  go_wp2
  generalize wrap64 (wrap64 (hh * 6364136223846793005) + 1442695040888963407) = h2
  have H1 := heap_setCell_same (j := 2) hg (.int .i64 h2)
  have O1 := (Off.refl g (g + 1) w).setCell (p := ⟨g, 2, none⟩) (Nat.le_refl _) (by simp) (.int .i64 h2)
  have s1 : (w.setCell ⟨g, 2, none⟩ (.int .i64 h2)).heap.size = w.heap.size := by simp
  have hR : RB (w.setCell ⟨g, 2, none⟩ (.int .i64 h2)) B A n zs := RV.below h ((Off.refl g (g + 1) w).setCell (p := ⟨g, 2, none⟩) (Nat.le_refl _) (by simp) (.int .i64 h2) |>.below hB (by omega)) (Nat.le_refl _)
  generalize w.setCell ⟨g, 2, none⟩ (.int .i64 h2) = w1 at H1 O1 s1 hR ⊢
  have S1 := Lib.hid s1
  clear s1 c0 c1 c2 f0 f1 f2
  obtain ⟨c0, c1, c2, f0, f1, f2⟩ := cells3 H1
  go_quiet (fail)
  go_wp2
  have bx := and_255 (bits .xor .i64 (h2 / 8589934592) (h2 / 35184372088832))
  generalize bits .and .i64 (bits .xor .i64 (h2 / 8589934592) (h2 / 35184372088832)) 255 = x at bx ⊢
  by_cases hlt : i < n
  · obtain ⟨b, off, rfl, hb, hcb⟩ := RB.at_ hR hlt
    have hi1 : (0 : Int) ≤ (i : Int) := by omega
    have hi2 : (i : Int) < (n : Int) := by omega
    have bz := hz _ (zat_mem (show i < zs.length by have := h.len; omega))
    have ez : IntKind.i64.wrap (zat zs i) = zat zs i := IntWalk.i64_in _ (by omega)
    have es : IntKind.i64.wrap (x + zat zs i) = x + zat zs i := IntWalk.i64_in _ (by omega)
    go_quiet (fail)
    go_wp2
    go_quiet (fail)
    clear ez es
    go_wp2
    have by' := and_255 (x + zat zs i)
    generalize bits .and .i64 (x + zat zs i) 255 = y at by' ⊢
    go_ret
    have H2 := heap_setCell_same (j := 1) H1 (.int .i64 ((i : Int) + 1))
    refine ⟨⟨_, rfl, by'⟩, ⟨i + 1, h2, by omega, ?_⟩, ?_⟩
    · exact H2
    · exact (O1.drewN _).setCell (p := ⟨g, 1, none⟩) (Nat.le_refl _) (by simp) _
  · have hi2 : ¬ (i : Int) < (n : Int) := by omega
    go_quiet (fail)
    go_wp2
    go_ret
    exact ⟨⟨_, rfl, bx⟩, ⟨i, h2, hin, H1⟩, O1.drewN _⟩
/-- A draw: some number below m; only the cursor's block has turned. -/
def DrawN (w : World) (g : Nat) (A : Option Addr) (n c : Nat) (m : Int) (e : Ending) (w' : World) : Prop :=
  (∃ x, e = .returned (.int .i64 x) ∧ (0 ≤ x ∧ x < m)) ∧ Cur w' g A n c ∧ Off g (g + 1) w w'
set_option maxHeartbeats 1000000 in
theorem l01Below_any (A : Option Addr) (n c B g : Nat) (zs : List Int) (m : Int) (w : World) (h : RB w B A n zs) (hz : BY zs) (hB : B ≤ g) (hn : n ≤ 1048576) (hc : Cur w g A n c) (hm : 1 ≤ m) (hm' : m ≤ 256) :
    Calls Try.prog 82 #[.pointer (some ⟨g, 0, none⟩), .int .i64 m] w (DrawN w g A n c m) := by
  have hm0 : (m == 0) = false := by simp; omega
  have hm1 : ¬ m ≤ 0 := by omega
  go_enter Try.func82, Try.ntmps82
  go_wp2_with fail
  refine (l01Byte_any A n c B g zs _ h hz hB hn hc).mono ?_
  rintro e w1 ⟨⟨x, rfl, bx⟩, hc1, ho1⟩
  have q1 := Int.emod_nonneg x (show m ≠ 0 by omega)
  have q2 := Int.emod_lt_of_pos x (show 0 < m by omega)
  go_wp2
  go_ret
  exact ⟨⟨_, rfl, q1, q2⟩, hc1, ho1⟩
set_option maxRecDepth 20000 in
set_option maxHeartbeats 1000000 in
theorem l01New_any (A : Option Addr) (n c B : Nat) (zs : List Int) (w : World) (h : RB w B A n zs) (_hz : BY zs) (_hB : B ≤ w.heap.size) (hn : n ≤ 1048576) :
    Calls Try.prog 54 #[.slice A n c] w fun e w' => (∃ g, e = .returned (.pointer (some ⟨g, 0, none⟩)) ∧ w.heap.size ≤ g ∧ g + 1 = w'.heap.size ∧ Cur w' g A n c) ∧ Below w.heap.size w w' := by
  go_enter Try.func54, Try.ntmps54
  go_wp2
  go_loop [3, 4] (fun x i => ∃ k : Nat, k ≤ n ∧ k ≤ 4000 ∧ i = .int .i64 k ∧ ∃ y : Int, x = .int .i64 y) (fun _ i => n - (intOf i).toNat)
  case atStart => exact ⟨0, Nat.zero_le _, Nat.zero_le _, rfl, _, rfl⟩
  case round =>
    obtain ⟨k, hk, hk4, rfl, y, rfl⟩ := hrel
    by_cases hlt : k < n
    · by_cases h4 : k < 4000
      · obtain ⟨b, off, rfl, hb, hcb⟩ := RB.at_ h hlt
        have hi1 : (0 : Int) ≤ (k : Int) := by omega
        have hi2 : (k : Int) < (n : Int) := by omega
        go_wp2
        go_round
        case rel => exact ⟨k + 1, by omega, by omega, by go_num, _, rfl⟩
        case measure => simp [intOf]; omega
      · have h4' : ¬ (k : Int) < 4000 := by omega
        go_wp2
        go_ret
        exact ⟨⟨_, rfl, Nat.le_refl _, by simp, 0, y, Nat.zero_le _, heap_alloc_new _ _⟩, (Below.refl _ _).alloc (Nat.le_refl _) _⟩
    · go_wp2
      go_ret
      exact ⟨⟨_, rfl, Nat.le_refl _, by simp, 0, y, Nat.zero_le _, heap_alloc_new _ _⟩, (Below.refl _ _).alloc (Nat.le_refl _) _⟩
end Go.Proofs.Ytmibajhilbfecaa
