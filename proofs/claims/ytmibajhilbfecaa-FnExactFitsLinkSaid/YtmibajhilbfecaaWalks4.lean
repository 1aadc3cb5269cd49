/- The walks of FnExactLineRoom, FnExactSlotsNeeded, FnExactFitsLink. -/
import Derived.Test.YtmibajhilbfecaaSlots
namespace Go.Proofs.Ytmibajhilbfecaa
open Go.RowKit

set_option maxHeartbeats 1000000 in
theorem walkM_fnExactLineRoom (w : World) (m : MD) (l r d : Int) :
    Calls Try.prog 4 #[.agg #[.int .i64 m.c, .int .i64 m.w, .int .i64 m.hf, .int .i64 m.hs, .int .i64 m.hb, .int .i64 m.h, .int .i64 m.vf, .int .i64 m.vs, .int .i64 m.vb], .agg #[.int .i64 l, .int .i64 r, .int .i64 d]] w fun e w' => e = .returned (.bool true) ∧ Below w.heap.size w w' := by
  go_enter Try.func4, Try.ntmps4
  go_wp2_with fail
  go_region_held3 (fun w' => (w'.cell? ⟨w.heap.size, 0, none⟩ = some (.int .i64 m.c) ∧ w'.cell? ⟨w.heap.size, 1, none⟩ = some (.int .i64 m.w) ∧ w'.cell? ⟨w.heap.size, 2, none⟩ = some (.int .i64 m.hf) ∧ w'.cell? ⟨w.heap.size, 3, none⟩ = some (.int .i64 m.hs) ∧ w'.cell? ⟨w.heap.size, 4, none⟩ = some (.int .i64 m.hb) ∧ w'.cell? ⟨w.heap.size, 5, none⟩ = some (.int .i64 m.h) ∧ w'.cell? ⟨w.heap.size, 6, none⟩ = some (.int .i64 m.vf) ∧ w'.cell? ⟨w.heap.size, 7, none⟩ = some (.int .i64 m.vs) ∧ w'.cell? ⟨w.heap.size, 8, none⟩ = some (.int .i64 m.vb)) ∧ (w'.cell? ⟨w.heap.size + 1, 0, none⟩ = some (.int .i64 l) ∧ w'.cell? ⟨w.heap.size + 1, 1, none⟩ = some (.int .i64 r) ∧ w'.cell? ⟨w.heap.size + 1, 2, none⟩ = some (.int .i64 d)) ∧ Below w.heap.size w w' ∧ w.heap.size + 1 < w'.heap.size)
    (first | exact startMLd w _ m l r d _ _ rfl | exact keepML ‹_› (Nat.le_refl _) ‹_ ∧ _›)
    (first | (go_at_call 23; refine (toMode_any m _).mono ?_; rintro e w1 ⟨rfl, hb1⟩) | (go_at_call 24; refine (toLink_any _ _ _ _).mono ?_; rintro e w2 ⟨rfl, hb2⟩) | (go_at_call 22; refine (lineRoom_s m _ _ _ _).mono ?_; rintro e w3 ⟨rfl, hb3⟩))
  rename_i H1
  clear hb1 hb2 hb3
  go_wp2_with fail
  go_region_held3 (fun w' => (w'.cell? ⟨w.heap.size, 0, none⟩ = some (.int .i64 m.c) ∧ w'.cell? ⟨w.heap.size, 1, none⟩ = some (.int .i64 m.w) ∧ w'.cell? ⟨w.heap.size, 2, none⟩ = some (.int .i64 m.hf) ∧ w'.cell? ⟨w.heap.size, 3, none⟩ = some (.int .i64 m.hs) ∧ w'.cell? ⟨w.heap.size, 4, none⟩ = some (.int .i64 m.hb) ∧ w'.cell? ⟨w.heap.size, 5, none⟩ = some (.int .i64 m.h) ∧ w'.cell? ⟨w.heap.size, 6, none⟩ = some (.int .i64 m.vf) ∧ w'.cell? ⟨w.heap.size, 7, none⟩ = some (.int .i64 m.vs) ∧ w'.cell? ⟨w.heap.size, 8, none⟩ = some (.int .i64 m.vb)) ∧ (w'.cell? ⟨w.heap.size + 1, 0, none⟩ = some (.int .i64 l) ∧ w'.cell? ⟨w.heap.size + 1, 1, none⟩ = some (.int .i64 r) ∧ w'.cell? ⟨w.heap.size + 1, 2, none⟩ = some (.int .i64 d)) ∧ Below w.heap.size w w' ∧ w.heap.size + 1 < w'.heap.size)
    (first | exact drewML H1 | exact keepML ‹_› (Nat.le_refl _) ‹_ ∧ _›)
    (first | (go_at_call 23; refine (toMode_any m _).mono ?_; rintro e w4 ⟨rfl, hb4⟩) | (go_at_call 24; refine (toLink_any _ _ _ _).mono ?_; rintro e w5 ⟨rfl, hb5⟩) | (go_at_call 25; refine (lineRoom_i m _ _ _ _).mono ?_; rintro e w6 ⟨rfl, hb6⟩))
  rename_i H2
  obtain ⟨_, _, K, _⟩ := H2
  clear hb4 hb5 hb6 H1
  go_wp2
  go_ret
  exact ⟨rfl, K⟩
theorem walk_fnExactLineRoom (w0 : World) (c : Int) (_bc : I64 c) (w : Int) (_bw : I64 w) (hf : Int) (_bhf : I64 hf) (hs : Int) (_bhs : I64 hs) (hb : Int) (_bhb : I64 hb) (h : Int) (_bh : I64 h) (vf : Int) (_bvf : I64 vf) (vs : Int) (_bvs : I64 vs) (vb : Int) (_bvb : I64 vb) (l : Int) (_bl : I64 l) (r : Int) (_br : I64 r) (d : Int) (_bd : I64 d) :
    Calls Try.prog 4 #[.agg #[.int .i64 c, .int .i64 w, .int .i64 hf, .int .i64 hs, .int .i64 hb, .int .i64 h, .int .i64 vf, .int .i64 vs, .int .i64 vb], .agg #[.int .i64 l, .int .i64 r, .int .i64 d]] w0 fun e w' => e = .returned (.bool true) ∧ Below w0.heap.size w0 w' :=
  walkM_fnExactLineRoom w0 ⟨c, w, hf, hs, hb, h, vf, vs, vb⟩ l r d
set_option maxHeartbeats 1000000 in
theorem walkM_fnExactSlotsNeeded (w : World) (m : MD) (l r d : Int) :
    Calls Try.prog 7 #[.agg #[.int .i64 m.c, .int .i64 m.w, .int .i64 m.hf, .int .i64 m.hs, .int .i64 m.hb, .int .i64 m.h, .int .i64 m.vf, .int .i64 m.vs, .int .i64 m.vb], .agg #[.int .i64 l, .int .i64 r, .int .i64 d]] w fun e w' => e = .returned (.bool true) ∧ Below w.heap.size w w' := by
  go_enter Try.func7, Try.ntmps7
  go_wp2_with fail
  go_region_held3 (fun w' => (w'.cell? ⟨w.heap.size, 0, none⟩ = some (.int .i64 m.c) ∧ w'.cell? ⟨w.heap.size, 1, none⟩ = some (.int .i64 m.w) ∧ w'.cell? ⟨w.heap.size, 2, none⟩ = some (.int .i64 m.hf) ∧ w'.cell? ⟨w.heap.size, 3, none⟩ = some (.int .i64 m.hs) ∧ w'.cell? ⟨w.heap.size, 4, none⟩ = some (.int .i64 m.hb) ∧ w'.cell? ⟨w.heap.size, 5, none⟩ = some (.int .i64 m.h) ∧ w'.cell? ⟨w.heap.size, 6, none⟩ = some (.int .i64 m.vf) ∧ w'.cell? ⟨w.heap.size, 7, none⟩ = some (.int .i64 m.vs) ∧ w'.cell? ⟨w.heap.size, 8, none⟩ = some (.int .i64 m.vb)) ∧ (w'.cell? ⟨w.heap.size + 1, 0, none⟩ = some (.int .i64 l) ∧ w'.cell? ⟨w.heap.size + 1, 1, none⟩ = some (.int .i64 r) ∧ w'.cell? ⟨w.heap.size + 1, 2, none⟩ = some (.int .i64 d)) ∧ Below w.heap.size w w' ∧ w.heap.size + 1 < w'.heap.size)
    (first | exact startMLd w _ m l r d _ _ rfl | exact keepML ‹_› (Nat.le_refl _) ‹_ ∧ _›)
    (first | (go_at_call 23; refine (toMode_any m _).mono ?_; rintro e w1 ⟨rfl, hb1⟩) | (go_at_call 24; refine (toLink_any _ _ _ _).mono ?_; rintro e w2 ⟨rfl, hb2⟩) | (go_at_call 33; refine (slotsNeeded_s m _ _ _ _).mono ?_; rintro e w3 ⟨rfl, hb3⟩))
  rename_i H1
  clear hb1 hb2 hb3
  go_wp2_with fail
  go_region_held3 (fun w' => (w'.cell? ⟨w.heap.size, 0, none⟩ = some (.int .i64 m.c) ∧ w'.cell? ⟨w.heap.size, 1, none⟩ = some (.int .i64 m.w) ∧ w'.cell? ⟨w.heap.size, 2, none⟩ = some (.int .i64 m.hf) ∧ w'.cell? ⟨w.heap.size, 3, none⟩ = some (.int .i64 m.hs) ∧ w'.cell? ⟨w.heap.size, 4, none⟩ = some (.int .i64 m.hb) ∧ w'.cell? ⟨w.heap.size, 5, none⟩ = some (.int .i64 m.h) ∧ w'.cell? ⟨w.heap.size, 6, none⟩ = some (.int .i64 m.vf) ∧ w'.cell? ⟨w.heap.size, 7, none⟩ = some (.int .i64 m.vs) ∧ w'.cell? ⟨w.heap.size, 8, none⟩ = some (.int .i64 m.vb)) ∧ (w'.cell? ⟨w.heap.size + 1, 0, none⟩ = some (.int .i64 l) ∧ w'.cell? ⟨w.heap.size + 1, 1, none⟩ = some (.int .i64 r) ∧ w'.cell? ⟨w.heap.size + 1, 2, none⟩ = some (.int .i64 d)) ∧ Below w.heap.size w w' ∧ w.heap.size + 1 < w'.heap.size)
    (first | exact drewML H1 | exact keepML ‹_› (Nat.le_refl _) ‹_ ∧ _›)
    (first | (go_at_call 23; refine (toMode_any m _).mono ?_; rintro e w4 ⟨rfl, hb4⟩) | (go_at_call 24; refine (toLink_any _ _ _ _).mono ?_; rintro e w5 ⟨rfl, hb5⟩) | (go_at_call 34; refine (slotsNeeded_i m _ _ _ _).mono ?_; rintro e w6 ⟨rfl, hb6⟩))
  rename_i H2
  obtain ⟨_, _, K, _⟩ := H2
  clear hb4 hb5 hb6 H1
  go_wp2
  go_ret
  exact ⟨rfl, K⟩
theorem walk_fnExactSlotsNeeded (w0 : World) (c : Int) (_bc : I64 c) (w : Int) (_bw : I64 w) (hf : Int) (_bhf : I64 hf) (hs : Int) (_bhs : I64 hs) (hb : Int) (_bhb : I64 hb) (h : Int) (_bh : I64 h) (vf : Int) (_bvf : I64 vf) (vs : Int) (_bvs : I64 vs) (vb : Int) (_bvb : I64 vb) (l : Int) (_bl : I64 l) (r : Int) (_br : I64 r) (d : Int) (_bd : I64 d) :
    Calls Try.prog 7 #[.agg #[.int .i64 c, .int .i64 w, .int .i64 hf, .int .i64 hs, .int .i64 hb, .int .i64 h, .int .i64 vf, .int .i64 vs, .int .i64 vb], .agg #[.int .i64 l, .int .i64 r, .int .i64 d]] w0 fun e w' => e = .returned (.bool true) ∧ Below w0.heap.size w0 w' :=
  walkM_fnExactSlotsNeeded w0 ⟨c, w, hf, hs, hb, h, vf, vs, vb⟩ l r d
set_option maxHeartbeats 1000000 in
theorem walkM_fnExactFitsLink (w : World) (m : MD) (l r d : Int) :
    Calls Try.prog 8 #[.agg #[.int .i64 m.c, .int .i64 m.w, .int .i64 m.hf, .int .i64 m.hs, .int .i64 m.hb, .int .i64 m.h, .int .i64 m.vf, .int .i64 m.vs, .int .i64 m.vb], .agg #[.int .i64 l, .int .i64 r, .int .i64 d]] w fun e w' => e = .returned (.bool true) ∧ Below w.heap.size w w' := by
  go_enter Try.func8, Try.ntmps8
  go_wp2_with fail
  go_region_held3 (fun w' => (w'.cell? ⟨w.heap.size, 0, none⟩ = some (.int .i64 m.c) ∧ w'.cell? ⟨w.heap.size, 1, none⟩ = some (.int .i64 m.w) ∧ w'.cell? ⟨w.heap.size, 2, none⟩ = some (.int .i64 m.hf) ∧ w'.cell? ⟨w.heap.size, 3, none⟩ = some (.int .i64 m.hs) ∧ w'.cell? ⟨w.heap.size, 4, none⟩ = some (.int .i64 m.hb) ∧ w'.cell? ⟨w.heap.size, 5, none⟩ = some (.int .i64 m.h) ∧ w'.cell? ⟨w.heap.size, 6, none⟩ = some (.int .i64 m.vf) ∧ w'.cell? ⟨w.heap.size, 7, none⟩ = some (.int .i64 m.vs) ∧ w'.cell? ⟨w.heap.size, 8, none⟩ = some (.int .i64 m.vb)) ∧ (w'.cell? ⟨w.heap.size + 1, 0, none⟩ = some (.int .i64 l) ∧ w'.cell? ⟨w.heap.size + 1, 1, none⟩ = some (.int .i64 r) ∧ w'.cell? ⟨w.heap.size + 1, 2, none⟩ = some (.int .i64 d)) ∧ Below w.heap.size w w' ∧ w.heap.size + 1 < w'.heap.size)
    (first | exact startMLd w _ m l r d _ _ rfl | exact keepML ‹_› (Nat.le_refl _) ‹_ ∧ _›)
    (first | (go_at_call 23; refine (toMode_any m _).mono ?_; rintro e w1 ⟨rfl, hb1⟩) | (go_at_call 24; refine (toLink_any _ _ _ _).mono ?_; rintro e w2 ⟨rfl, hb2⟩) | (go_at_call 35; refine (fitsLink_s m _ _ _ _).mono ?_; rintro e w3 ⟨rfl, hb3⟩))
  rename_i H1
  clear hb1 hb2 hb3
  go_wp2_with fail
  go_region_held3 (fun w' => (w'.cell? ⟨w.heap.size, 0, none⟩ = some (.int .i64 m.c) ∧ w'.cell? ⟨w.heap.size, 1, none⟩ = some (.int .i64 m.w) ∧ w'.cell? ⟨w.heap.size, 2, none⟩ = some (.int .i64 m.hf) ∧ w'.cell? ⟨w.heap.size, 3, none⟩ = some (.int .i64 m.hs) ∧ w'.cell? ⟨w.heap.size, 4, none⟩ = some (.int .i64 m.hb) ∧ w'.cell? ⟨w.heap.size, 5, none⟩ = some (.int .i64 m.h) ∧ w'.cell? ⟨w.heap.size, 6, none⟩ = some (.int .i64 m.vf) ∧ w'.cell? ⟨w.heap.size, 7, none⟩ = some (.int .i64 m.vs) ∧ w'.cell? ⟨w.heap.size, 8, none⟩ = some (.int .i64 m.vb)) ∧ (w'.cell? ⟨w.heap.size + 1, 0, none⟩ = some (.int .i64 l) ∧ w'.cell? ⟨w.heap.size + 1, 1, none⟩ = some (.int .i64 r) ∧ w'.cell? ⟨w.heap.size + 1, 2, none⟩ = some (.int .i64 d)) ∧ Below w.heap.size w w' ∧ w.heap.size + 1 < w'.heap.size)
    (first | exact drewML H1 | exact keepML ‹_› (Nat.le_refl _) ‹_ ∧ _›)
    (first | (go_at_call 23; refine (toMode_any m _).mono ?_; rintro e w4 ⟨rfl, hb4⟩) | (go_at_call 24; refine (toLink_any _ _ _ _).mono ?_; rintro e w5 ⟨rfl, hb5⟩) | (go_at_call 36; refine (fitsLink_i m _ _ _ _).mono ?_; rintro e w6 ⟨rfl, hb6⟩))
  rename_i H2
  obtain ⟨_, _, K, _⟩ := H2
  clear hb4 hb5 hb6 H1
  go_wp2
  go_ret
  exact ⟨rfl, K⟩
theorem walk_fnExactFitsLink (w0 : World) (c : Int) (_bc : I64 c) (w : Int) (_bw : I64 w) (hf : Int) (_bhf : I64 hf) (hs : Int) (_bhs : I64 hs) (hb : Int) (_bhb : I64 hb) (h : Int) (_bh : I64 h) (vf : Int) (_bvf : I64 vf) (vs : Int) (_bvs : I64 vs) (vb : Int) (_bvb : I64 vb) (l : Int) (_bl : I64 l) (r : Int) (_br : I64 r) (d : Int) (_bd : I64 d) :
    Calls Try.prog 8 #[.agg #[.int .i64 c, .int .i64 w, .int .i64 hf, .int .i64 hs, .int .i64 hb, .int .i64 h, .int .i64 vf, .int .i64 vs, .int .i64 vb], .agg #[.int .i64 l, .int .i64 r, .int .i64 d]] w0 fun e w' => e = .returned (.bool true) ∧ Below w0.heap.size w0 w' :=
  walkM_fnExactFitsLink w0 ⟨c, w, hf, hs, hb, h, vf, vs, vb⟩ l r d
end Go.Proofs.Ytmibajhilbfecaa
