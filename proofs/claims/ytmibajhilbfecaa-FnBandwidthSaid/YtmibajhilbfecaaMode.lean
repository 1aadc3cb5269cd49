/- Modes and what a link has room for: ModeOk, LineTotal, LineRoom, SlotsNeeded, FitsLink, of the program and of the reference. -/
import Derived.Test.YtmibajhilbfecaaNum3
import Derived.Test.YtmibajhilbfecaaOpen
import Derived.Deep.QuietTactic
import Derived.Deep.RegionHeld3
import Derived.BigQuiet
namespace Go.Proofs.Ytmibajhilbfecaa
open Go.RowKit

/-- The nine numbers of a mode. -/
structure MD where
  c : Int
  w : Int
  hf : Int
  hs : Int
  hb : Int
  h : Int
  vf : Int
  vs : Int
  vb : Int
def modeB (m : MD) : Bool := inB m.c 1 1000000 && inB m.w 1 16 && inB m.h 1 16 && inB m.hs 1 40 && inB m.vs 1 40 && inB m.hf 0 40 && inB m.hb 0 40 && inB m.vf 0 40 && inB m.vb 0 40
theorem modeB_t {m : MD} : modeB m = true ↔ (1 ≤ m.c ∧ m.c ≤ 1000000) ∧ (1 ≤ m.w ∧ m.w ≤ 16) ∧ (1 ≤ m.h ∧ m.h ≤ 16) ∧ (1 ≤ m.hs ∧ m.hs ≤ 40) ∧ (1 ≤ m.vs ∧ m.vs ≤ 40) ∧ (0 ≤ m.hf ∧ m.hf ≤ 40) ∧ (0 ≤ m.hb ∧ m.hb ≤ 40) ∧ (0 ≤ m.vf ∧ m.vf ≤ 40) ∧ (0 ≤ m.vb ∧ m.vb ≤ 40) := by
  simp [modeB, inB_t, and_assoc]
def lineT (m : MD) : Int := if modeB m then m.w + m.hf + m.hs + m.hb else 0
theorem lineT_bd (m : MD) : 0 ≤ lineT m ∧ lineT m ≤ 136 := by
  unfold lineT
  split
  · rename_i h; have := modeB_t.1 h; omega
  · omega
theorem lineT_pos {m : MD} (h : modeB m = true) : 2 ≤ lineT m := by
  unfold lineT; rw [if_pos h]; have := modeB_t.1 h; omega
def roomF (m : MD) (l r d : Int) : Int := 2 * lineT m * capOf l r d
theorem capOf_bd (l r d : Int) : 0 ≤ capOf l r d ∧ capOf l r d ≤ 16 := by
  unfold capOf
  split
  · rename_i h; have := cap_bd h; omega
  · omega
theorem mul_bd {a b x y : Int} (h0 : 0 ≤ a) (h1 : a ≤ x) (k0 : 0 ≤ b) (k1 : b ≤ y) : 0 ≤ a * b ∧ a * b ≤ x * y := ⟨Int.mul_nonneg h0 k0, Int.mul_le_mul h1 k1 k0 (by omega)⟩
theorem roomF_bd (m : MD) (l r d : Int) : 0 ≤ roomF m l r d ∧ roomF m l r d ≤ 4352 := by
  have h1 := lineT_bd m
  have h2 := capOf_bd l r d
  have := mul_bd (a := 2 * lineT m) (x := 272) (by omega) (by omega) h2.1 h2.2
  unfold roomF
  omega
theorem roomF_pos {m : MD} {l r d : Int} (h : modeB m = true) (k : linkB l r d = true) : 1 ≤ roomF m l r d := by
  have h1 := lineT_pos h
  have h2 := cap_bd k
  have h3 : capOf l r d = l * r := by unfold capOf; rw [if_pos k]
  have := Int.mul_le_mul (a := 4) (c := 2 * lineT m) (b := 1) (d := l * r) (by omega) (by omega) (by omega) (by omega)
  unfold roomF
  rw [h3]
  omega
theorem symFor_bd {d : Int} (h : 1 ≤ d ∧ d ≤ 16) : 0 ≤ symFor d ∧ symFor d ≤ 105 := by
  unfold symFor; rw [if_pos (inB_t.2 (by omega))]; omega
def slotsF (m : MD) (l r d : Int) : Int := if modeB m && linkB l r d then (16 * symFor m.w + roomF m l r d - 1) / roomF m l r d else -1

theorem modeOk_i (m : MD) (w : World) :
    Calls Try.prog 69 #[.agg #[.int .i64 m.c, .int .i64 m.w, .int .i64 m.hf, .int .i64 m.hs, .int .i64 m.hb, .int .i64 m.h, .int .i64 m.vf, .int .i64 m.vs, .int .i64 m.vb]] w fun e w' => e = .returned (.bool (modeB m)) ∧ Below w.heap.size w w' := by
  go_enter Try.func69, Try.ntmps69
  go_wp2_with (first | (go_at_call 65; refine (within_any _ _ _ _).mono ?_; rintro e w' ⟨rfl, rfl⟩) | (go_at_call 91; refine (isSide_any _ _).mono ?_; rintro e w' ⟨rfl, rfl⟩))
  all_goals (go_ret; exact ⟨by simp [modeB, *], (Below.refl _ _).alloc (Nat.le_refl _) _⟩)
theorem modeOk_s (m : MD) (w : World) :
    Calls Try.prog 67 #[.agg #[.int .i64 m.c, .int .i64 m.w, .int .i64 m.hf, .int .i64 m.hs, .int .i64 m.hb, .int .i64 m.h, .int .i64 m.vf, .int .i64 m.vs, .int .i64 m.vb]] w fun e w' => e = .returned (.bool (modeB m)) ∧ Below w.heap.size w w' := by
  go_enter Try.func67, Try.ntmps67
  go_wp2_with (go_at_call 63; refine (l01In_any _ _ _ _).mono ?_; rintro e w' ⟨rfl, rfl⟩)
  all_goals (go_ret; exact ⟨by simp [modeB, *], (Below.refl _ _).alloc (Nat.le_refl _) _⟩)
theorem toMode_any (m : MD) (w : World) :
    Calls Try.prog 23 #[.agg #[.int .i64 m.c, .int .i64 m.w, .int .i64 m.hf, .int .i64 m.hs, .int .i64 m.hb, .int .i64 m.h, .int .i64 m.vf, .int .i64 m.vs, .int .i64 m.vb]] w fun e w' => e = .returned (.agg #[.int .i64 m.c, .int .i64 m.w, .int .i64 m.hf, .int .i64 m.hs, .int .i64 m.hb, .int .i64 m.h, .int .i64 m.vf, .int .i64 m.vs, .int .i64 m.vb]) ∧ Below w.heap.size w w' := by
  go_enter Try.func23, Try.ntmps23
  go_wp2
  refine bodyPost_ret (v := .agg #[.int .i64 m.c, .int .i64 m.w, .int .i64 m.hf, .int .i64 m.hs, .int .i64 m.hb, .int .i64 m.h, .int .i64 m.vf, .int .i64 m.vs, .int .i64 m.vb]) (by simp [results, Try.results23, go_sem]) rfl ⟨rfl, ?_⟩
  exact (((Below.refl _ _).alloc (Nat.le_refl _) _).alloc (by simp) _).alloc (by simp; omega) _
theorem lineTotal_i (m : MD) (w : World) :
    Calls Try.prog 61 #[.agg #[.int .i64 m.c, .int .i64 m.w, .int .i64 m.hf, .int .i64 m.hs, .int .i64 m.hb, .int .i64 m.h, .int .i64 m.vf, .int .i64 m.vs, .int .i64 m.vb]] w fun e w' => e = .returned (.int .i64 (lineT m)) ∧ Below w.heap.size w w' := by
  cases hm : modeB m
  · go_enter Try.func61, Try.ntmps61
    go_wp2_with (go_at_call 69; refine (modeOk_i m _).mono ?_; rintro e w1 ⟨rfl, hb⟩)
    go_ret
    exact ⟨by simp [lineT, hm], ((Below.refl _ _).alloc (Nat.le_refl _) _).trans (hb.mono (by simp))⟩
  · have hb' := modeB_t.1 hm
    go_enter Try.func61, Try.ntmps61
    go_wp2_with (go_at_call 69; refine (modeOk_i m _).mono ?_; rintro e w1 ⟨rfl, hb⟩; obtain ⟨hc, hf⟩ := bcell hb)
    go_ret
    exact ⟨by simp [lineT, hm], ((Below.refl _ _).alloc (Nat.le_refl _) _).trans (hb.mono (by simp))⟩
theorem lineTotal_s (m : MD) (w : World) :
    Calls Try.prog 59 #[.agg #[.int .i64 m.c, .int .i64 m.w, .int .i64 m.hf, .int .i64 m.hs, .int .i64 m.hb, .int .i64 m.h, .int .i64 m.vf, .int .i64 m.vs, .int .i64 m.vb]] w fun e w' => e = .returned (.int .i64 (lineT m)) ∧ Below w.heap.size w w' := by
  cases hm : modeB m
  · go_enter Try.func59, Try.ntmps59
    go_wp2_with (go_at_call 67; refine (modeOk_s m _).mono ?_; rintro e w1 ⟨rfl, hb⟩)
    go_ret
    exact ⟨by simp [lineT, hm], ((Below.refl _ _).alloc (Nat.le_refl _) _).trans (hb.mono (by simp))⟩
  · have hb' := modeB_t.1 hm
    go_enter Try.func59, Try.ntmps59
    go_wp2_with (go_at_call 67; refine (modeOk_s m _).mono ?_; rintro e w1 ⟨rfl, hb⟩; obtain ⟨hc, hf⟩ := bcell hb)
    go_ret
    exact ⟨by simp [lineT, hm], ((Below.refl _ _).alloc (Nat.le_refl _) _).trans (hb.mono (by simp))⟩
theorem bthen2 {B : Nat} {a b c : World} (h : Below a.drew.heap.size a.drew b) (hB : B ≤ a.heap.size) (k : Below b.heap.size b c) : Below B a c :=
  have h' : Below a.heap.size a b := ⟨h.os, h.tape, h.output, h.size, h.block⟩
  (h'.mono hB).trans (k.mono (Nat.le_trans hB h'.size))
theorem keepML {B g : Nat} {w w' w1 : World} {m : MD} {l r d : Int} (hb : Below w'.heap.size w' w1) (hB : B ≤ g)
    (h : (w'.cell? ⟨g, 0, none⟩ = some (.int .i64 m.c) ∧ w'.cell? ⟨g, 1, none⟩ = some (.int .i64 m.w) ∧ w'.cell? ⟨g, 2, none⟩ = some (.int .i64 m.hf) ∧ w'.cell? ⟨g, 3, none⟩ = some (.int .i64 m.hs) ∧ w'.cell? ⟨g, 4, none⟩ = some (.int .i64 m.hb) ∧ w'.cell? ⟨g, 5, none⟩ = some (.int .i64 m.h) ∧ w'.cell? ⟨g, 6, none⟩ = some (.int .i64 m.vf) ∧ w'.cell? ⟨g, 7, none⟩ = some (.int .i64 m.vs) ∧ w'.cell? ⟨g, 8, none⟩ = some (.int .i64 m.vb)) ∧ (w'.cell? ⟨g + 1, 0, none⟩ = some (.int .i64 l) ∧ w'.cell? ⟨g + 1, 1, none⟩ = some (.int .i64 r) ∧ w'.cell? ⟨g + 1, 2, none⟩ = some (.int .i64 d)) ∧ Below B w w' ∧ g + 1 < w'.heap.size) :
    (w1.cell? ⟨g, 0, none⟩ = some (.int .i64 m.c) ∧ w1.cell? ⟨g, 1, none⟩ = some (.int .i64 m.w) ∧ w1.cell? ⟨g, 2, none⟩ = some (.int .i64 m.hf) ∧ w1.cell? ⟨g, 3, none⟩ = some (.int .i64 m.hs) ∧ w1.cell? ⟨g, 4, none⟩ = some (.int .i64 m.hb) ∧ w1.cell? ⟨g, 5, none⟩ = some (.int .i64 m.h) ∧ w1.cell? ⟨g, 6, none⟩ = some (.int .i64 m.vf) ∧ w1.cell? ⟨g, 7, none⟩ = some (.int .i64 m.vs) ∧ w1.cell? ⟨g, 8, none⟩ = some (.int .i64 m.vb)) ∧ (w1.cell? ⟨g + 1, 0, none⟩ = some (.int .i64 l) ∧ w1.cell? ⟨g + 1, 1, none⟩ = some (.int .i64 r) ∧ w1.cell? ⟨g + 1, 2, none⟩ = some (.int .i64 d)) ∧ Below B w w1 ∧ g + 1 < w1.heap.size := by
  obtain ⟨⟨x1, x2, x3, x4, x5, x6, x7, x8, x9⟩, ⟨y1, y2, y3⟩, z1, z2⟩ := h
  have hc := (bcell hb).1
  have hs := hb.size
  refine ⟨⟨?_, ?_, ?_, ?_, ?_, ?_, ?_, ?_, ?_⟩, ⟨?_, ?_, ?_⟩, z1.trans (hb.mono (by omega)), by omega⟩
  all_goals (rw [hc _ _ (by omega)]; assumption)
theorem startML (w w2 : World) (m : MD) (l r d : Int) (S T : TypeId) (hw : w2 = ((w.alloc (.cells #[.int .i64 m.c, .int .i64 m.w, .int .i64 m.hf, .int .i64 m.hs, .int .i64 m.hb, .int .i64 m.h, .int .i64 m.vf, .int .i64 m.vs, .int .i64 m.vb] S)).alloc (.cells #[.int .i64 l, .int .i64 r, .int .i64 d] T))) :
    (w2.cell? ⟨w.heap.size, 0, none⟩ = some (.int .i64 m.c) ∧ w2.cell? ⟨w.heap.size, 1, none⟩ = some (.int .i64 m.w) ∧ w2.cell? ⟨w.heap.size, 2, none⟩ = some (.int .i64 m.hf) ∧ w2.cell? ⟨w.heap.size, 3, none⟩ = some (.int .i64 m.hs) ∧ w2.cell? ⟨w.heap.size, 4, none⟩ = some (.int .i64 m.hb) ∧ w2.cell? ⟨w.heap.size, 5, none⟩ = some (.int .i64 m.h) ∧ w2.cell? ⟨w.heap.size, 6, none⟩ = some (.int .i64 m.vf) ∧ w2.cell? ⟨w.heap.size, 7, none⟩ = some (.int .i64 m.vs) ∧ w2.cell? ⟨w.heap.size, 8, none⟩ = some (.int .i64 m.vb)) ∧ (w2.cell? ⟨w.heap.size + 1, 0, none⟩ = some (.int .i64 l) ∧ w2.cell? ⟨w.heap.size + 1, 1, none⟩ = some (.int .i64 r) ∧ w2.cell? ⟨w.heap.size + 1, 2, none⟩ = some (.int .i64 d)) ∧ Below w.heap.size w w2 ∧ w.heap.size + 1 < w2.heap.size := by
  subst hw
  refine ⟨⟨?_, ?_, ?_, ?_, ?_, ?_, ?_, ?_, ?_⟩, ⟨?_, ?_, ?_⟩, ((Below.refl _ _).alloc (Nat.le_refl _) _).alloc (by simp) _, by simp⟩
  all_goals simp
theorem startMLd (w w2 : World) (m : MD) (l r d : Int) (S T : TypeId) (hw : w2 = ((w.alloc (.cells #[.int .i64 m.c, .int .i64 m.w, .int .i64 m.hf, .int .i64 m.hs, .int .i64 m.hb, .int .i64 m.h, .int .i64 m.vf, .int .i64 m.vs, .int .i64 m.vb] S)).alloc (.cells #[.int .i64 l, .int .i64 r, .int .i64 d] T)).drew) :
    (w2.cell? ⟨w.heap.size, 0, none⟩ = some (.int .i64 m.c) ∧ w2.cell? ⟨w.heap.size, 1, none⟩ = some (.int .i64 m.w) ∧ w2.cell? ⟨w.heap.size, 2, none⟩ = some (.int .i64 m.hf) ∧ w2.cell? ⟨w.heap.size, 3, none⟩ = some (.int .i64 m.hs) ∧ w2.cell? ⟨w.heap.size, 4, none⟩ = some (.int .i64 m.hb) ∧ w2.cell? ⟨w.heap.size, 5, none⟩ = some (.int .i64 m.h) ∧ w2.cell? ⟨w.heap.size, 6, none⟩ = some (.int .i64 m.vf) ∧ w2.cell? ⟨w.heap.size, 7, none⟩ = some (.int .i64 m.vs) ∧ w2.cell? ⟨w.heap.size, 8, none⟩ = some (.int .i64 m.vb)) ∧ (w2.cell? ⟨w.heap.size + 1, 0, none⟩ = some (.int .i64 l) ∧ w2.cell? ⟨w.heap.size + 1, 1, none⟩ = some (.int .i64 r) ∧ w2.cell? ⟨w.heap.size + 1, 2, none⟩ = some (.int .i64 d)) ∧ Below w.heap.size w w2 ∧ w.heap.size + 1 < w2.heap.size := by
  subst hw
  obtain ⟨h1, h2, h3, h4⟩ := startML w _ m l r d S T rfl
  exact ⟨h1, h2, h3.drew, h4⟩
theorem drewML {B g : Nat} {w w' : World} {m : MD} {l r d : Int} (h : (w'.cell? ⟨g, 0, none⟩ = some (.int .i64 m.c) ∧ w'.cell? ⟨g, 1, none⟩ = some (.int .i64 m.w) ∧ w'.cell? ⟨g, 2, none⟩ = some (.int .i64 m.hf) ∧ w'.cell? ⟨g, 3, none⟩ = some (.int .i64 m.hs) ∧ w'.cell? ⟨g, 4, none⟩ = some (.int .i64 m.hb) ∧ w'.cell? ⟨g, 5, none⟩ = some (.int .i64 m.h) ∧ w'.cell? ⟨g, 6, none⟩ = some (.int .i64 m.vf) ∧ w'.cell? ⟨g, 7, none⟩ = some (.int .i64 m.vs) ∧ w'.cell? ⟨g, 8, none⟩ = some (.int .i64 m.vb)) ∧ (w'.cell? ⟨g + 1, 0, none⟩ = some (.int .i64 l) ∧ w'.cell? ⟨g + 1, 1, none⟩ = some (.int .i64 r) ∧ w'.cell? ⟨g + 1, 2, none⟩ = some (.int .i64 d)) ∧ Below B w w' ∧ g + 1 < w'.heap.size) :
    (w'.drew.cell? ⟨g, 0, none⟩ = some (.int .i64 m.c) ∧ w'.drew.cell? ⟨g, 1, none⟩ = some (.int .i64 m.w) ∧ w'.drew.cell? ⟨g, 2, none⟩ = some (.int .i64 m.hf) ∧ w'.drew.cell? ⟨g, 3, none⟩ = some (.int .i64 m.hs) ∧ w'.drew.cell? ⟨g, 4, none⟩ = some (.int .i64 m.hb) ∧ w'.drew.cell? ⟨g, 5, none⟩ = some (.int .i64 m.h) ∧ w'.drew.cell? ⟨g, 6, none⟩ = some (.int .i64 m.vf) ∧ w'.drew.cell? ⟨g, 7, none⟩ = some (.int .i64 m.vs) ∧ w'.drew.cell? ⟨g, 8, none⟩ = some (.int .i64 m.vb)) ∧ (w'.drew.cell? ⟨g + 1, 0, none⟩ = some (.int .i64 l) ∧ w'.drew.cell? ⟨g + 1, 1, none⟩ = some (.int .i64 r) ∧ w'.drew.cell? ⟨g + 1, 2, none⟩ = some (.int .i64 d)) ∧ Below B w w'.drew ∧ g + 1 < w'.drew.heap.size := ⟨h.1, h.2.1, h.2.2.1.drew, h.2.2.2⟩
set_option maxHeartbeats 1000000 in
theorem lineRoom_i (m : MD) (l r d : Int) (w : World) :
    Calls Try.prog 25 #[.agg #[.int .i64 m.c, .int .i64 m.w, .int .i64 m.hf, .int .i64 m.hs, .int .i64 m.hb, .int .i64 m.h, .int .i64 m.vf, .int .i64 m.vs, .int .i64 m.vb], .agg #[.int .i64 l, .int .i64 r, .int .i64 d]] w fun e w' => e = .returned (.int .i64 (roomF m l r d)) ∧ Below w.heap.size w w' := by
  have h1 := lineT_bd m
  have h2 := capOf_bd l r d
  have h3 := roomF_bd m l r d
  have e1 : IntKind.i64.wrap (2 * lineT m) = 2 * lineT m := IntWalk.i64_in _ (by omega)
  have e2 : IntKind.i64.wrap (2 * lineT m * capOf l r d) = roomF m l r d := IntWalk.i64_in (2 * lineT m * capOf l r d) (by unfold roomF at h3; omega)
  go_enter Try.func25, Try.ntmps25
  go_wp2_with fail
  go_region_held3 (fun w' => (w'.cell? ⟨w.heap.size, 0, none⟩ = some (.int .i64 m.c) ∧ w'.cell? ⟨w.heap.size, 1, none⟩ = some (.int .i64 m.w) ∧ w'.cell? ⟨w.heap.size, 2, none⟩ = some (.int .i64 m.hf) ∧ w'.cell? ⟨w.heap.size, 3, none⟩ = some (.int .i64 m.hs) ∧ w'.cell? ⟨w.heap.size, 4, none⟩ = some (.int .i64 m.hb) ∧ w'.cell? ⟨w.heap.size, 5, none⟩ = some (.int .i64 m.h) ∧ w'.cell? ⟨w.heap.size, 6, none⟩ = some (.int .i64 m.vf) ∧ w'.cell? ⟨w.heap.size, 7, none⟩ = some (.int .i64 m.vs) ∧ w'.cell? ⟨w.heap.size, 8, none⟩ = some (.int .i64 m.vb)) ∧ (w'.cell? ⟨w.heap.size + 1, 0, none⟩ = some (.int .i64 l) ∧ w'.cell? ⟨w.heap.size + 1, 1, none⟩ = some (.int .i64 r) ∧ w'.cell? ⟨w.heap.size + 1, 2, none⟩ = some (.int .i64 d)) ∧ Below w.heap.size w w' ∧ w.heap.size + 1 < w'.heap.size)
    (first | exact startMLd w _ m l r d _ _ rfl | exact keepML ‹_› (Nat.le_refl _) ‹_ ∧ _›)
    (first | (go_at_call 61; refine (lineTotal_i m _).mono ?_; rintro e w1 ⟨rfl, hb1⟩) | (go_at_call 20; refine (capacity_i _ _ _ _).mono ?_; rintro e w2 ⟨rfl, hb2⟩))
  rename_i HL
  obtain ⟨_, _, K, _⟩ := HL
  clear hb1 hb2 e1 e2
  go_wp2
  go_ret
  exact ⟨rfl, K⟩
set_option maxHeartbeats 1000000 in
theorem lineRoom_s (m : MD) (l r d : Int) (w : World) :
    Calls Try.prog 22 #[.agg #[.int .i64 m.c, .int .i64 m.w, .int .i64 m.hf, .int .i64 m.hs, .int .i64 m.hb, .int .i64 m.h, .int .i64 m.vf, .int .i64 m.vs, .int .i64 m.vb], .agg #[.int .i64 l, .int .i64 r, .int .i64 d]] w fun e w' => e = .returned (.int .i64 (roomF m l r d)) ∧ Below w.heap.size w w' := by
  have h1 := lineT_bd m
  have h2 := capOf_bd l r d
  have h3 := roomF_bd m l r d
  have e1 : IntKind.i64.wrap (2 * lineT m) = 2 * lineT m := IntWalk.i64_in _ (by omega)
  have e2 : IntKind.i64.wrap (2 * lineT m * capOf l r d) = roomF m l r d := IntWalk.i64_in (2 * lineT m * capOf l r d) (by unfold roomF at h3; omega)
  go_enter Try.func22, Try.ntmps22
  go_wp2_with fail
  go_region_held3 (fun w' => (w'.cell? ⟨w.heap.size, 0, none⟩ = some (.int .i64 m.c) ∧ w'.cell? ⟨w.heap.size, 1, none⟩ = some (.int .i64 m.w) ∧ w'.cell? ⟨w.heap.size, 2, none⟩ = some (.int .i64 m.hf) ∧ w'.cell? ⟨w.heap.size, 3, none⟩ = some (.int .i64 m.hs) ∧ w'.cell? ⟨w.heap.size, 4, none⟩ = some (.int .i64 m.hb) ∧ w'.cell? ⟨w.heap.size, 5, none⟩ = some (.int .i64 m.h) ∧ w'.cell? ⟨w.heap.size, 6, none⟩ = some (.int .i64 m.vf) ∧ w'.cell? ⟨w.heap.size, 7, none⟩ = some (.int .i64 m.vs) ∧ w'.cell? ⟨w.heap.size, 8, none⟩ = some (.int .i64 m.vb)) ∧ (w'.cell? ⟨w.heap.size + 1, 0, none⟩ = some (.int .i64 l) ∧ w'.cell? ⟨w.heap.size + 1, 1, none⟩ = some (.int .i64 r) ∧ w'.cell? ⟨w.heap.size + 1, 2, none⟩ = some (.int .i64 d)) ∧ Below w.heap.size w w' ∧ w.heap.size + 1 < w'.heap.size)
    (first | exact startMLd w _ m l r d _ _ rfl | exact keepML ‹_› (Nat.le_refl _) ‹_ ∧ _›)
    (first | (go_at_call 59; refine (lineTotal_s m _).mono ?_; rintro e w1 ⟨rfl, hb1⟩) | (go_at_call 60; refine (capacity_s _ _ _ _).mono ?_; rintro e w2 ⟨rfl, hb2⟩))
  rename_i HL
  obtain ⟨_, _, K, _⟩ := HL
  clear hb1 hb2 e1 e2
  go_wp2
  go_ret
  exact ⟨rfl, K⟩
end Go.Proofs.Ytmibajhilbfecaa
