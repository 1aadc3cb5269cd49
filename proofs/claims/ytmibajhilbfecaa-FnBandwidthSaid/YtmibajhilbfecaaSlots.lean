/- SlotsNeeded and FitsLink of the program and of the reference. -/
import Derived.Test.YtmibajhilbfecaaMode
namespace Go.Proofs.Ytmibajhilbfecaa
open Go.RowKit

theorem slotsF_no {m : MD} {l r d : Int} (h : (modeB m && linkB l r d) = false) : slotsF m l r d = -1 := by unfold slotsF; rw [if_neg (by simp [h])]
theorem slotsF_yes {m : MD} {l r d : Int} (hm : modeB m = true) (hl : linkB l r d = true) : slotsF m l r d = (16 * symFor m.w + roomF m l r d - 1) / roomF m l r d := by unfold slotsF; rw [if_pos (by simp [hm, hl])]
theorem slotsNeeded_i0 (m : MD) (l r d : Int) (w : World) (h : (modeB m && linkB l r d) = false) :
    Calls Try.prog 34 #[.agg #[.int .i64 m.c, .int .i64 m.w, .int .i64 m.hf, .int .i64 m.hs, .int .i64 m.hb, .int .i64 m.h, .int .i64 m.vf, .int .i64 m.vs, .int .i64 m.vb], .agg #[.int .i64 l, .int .i64 r, .int .i64 d]] w fun e w' => e = .returned (.int .i64 (slotsF m l r d)) ∧ Below w.heap.size w w' := by
  have hs := slotsF_no h
  cases hm : modeB m
  · go_enter Try.func34, Try.ntmps34
    go_wp2_with (go_at_call 69; refine (modeOk_i m _).mono ?_; rintro e w1 ⟨rfl, hb1⟩)
    go_ret
    exact ⟨ret_int hs.symm, (((Below.refl _ _).alloc (Nat.le_refl _) _).alloc (by simp) _).trans (hb1.mono (by simp; omega))⟩
  · have hl : linkB l r d = false := by simpa [hm] using h
    go_enter Try.func34, Try.ntmps34
    go_wp2_with (first | (go_at_call 69; refine (modeOk_i m _).mono ?_; rintro e w1 ⟨rfl, hb1⟩; have hc1 := (bcell hb1).1; have s1 := hb1.size) | (go_at_call 56; refine (linkOk_i _ _ _ _).mono ?_; rintro e w2 ⟨rfl, hb2⟩; clear hc1))
    go_ret
    exact ⟨ret_int hs.symm, (((Below.refl _ _).alloc (Nat.le_refl _) _).alloc (by simp) _).trans ((hb1.mono (by simp; omega)).trans (hb2.mono (by simp at s1; omega)))⟩
set_option maxHeartbeats 2000000 in
theorem slotsNeeded_i1 (m : MD) (l r d : Int) (w : World) (hm : modeB m = true) (hl : linkB l r d = true) :
    Calls Try.prog 34 #[.agg #[.int .i64 m.c, .int .i64 m.w, .int .i64 m.hf, .int .i64 m.hs, .int .i64 m.hb, .int .i64 m.h, .int .i64 m.vf, .int .i64 m.vs, .int .i64 m.vb], .agg #[.int .i64 l, .int .i64 r, .int .i64 d]] w fun e w' => e = .returned (.int .i64 (slotsF m l r d)) ∧ Below w.heap.size w w' := by
  have HS := Lib.hid (slotsF_yes hm hl)
  have hb' := modeB_t.1 hm
  have h1 := symFor_bd hb'.2.1
  have h2 := roomF_bd m l r d
  have h3 := roomF_pos hm hl
  have h0 : (roomF m l r d == 0) = false := by simp; omega
  have e1 : IntKind.i64.wrap (16 * symFor m.w) = 16 * symFor m.w := IntWalk.i64_in _ (by omega)
  have e2 : IntKind.i64.wrap (16 * symFor m.w + roomF m l r d) = 16 * symFor m.w + roomF m l r d := IntWalk.i64_in _ (by omega)
  have hz : ¬ roomF m l r d = 0 := by omega
  have q1 := Int.ediv_nonneg (a := 16 * symFor m.w + roomF m l r d - 1) (b := roomF m l r d) (by omega) (by omega)
  have q2 := Int.ediv_le_self (a := 16 * symFor m.w + roomF m l r d - 1) (roomF m l r d) (by omega)
  have e4 : IntKind.i64.wrap ((16 * symFor m.w + roomF m l r d - 1).tdiv (roomF m l r d)) = (16 * symFor m.w + roomF m l r d - 1) / roomF m l r d := by
    rw [Int.tdiv_eq_ediv_of_nonneg (by omega)]; exact IntWalk.i64_in _ (by omega)
  clear q1 q2
  have e3 : IntKind.i64.wrap (16 * symFor m.w + roomF m l r d - 1) = 16 * symFor m.w + roomF m l r d - 1 := IntWalk.i64_in _ (by omega)
  go_enter Try.func34, Try.ntmps34
  go_wp2_with (first | (go_at_call 69; refine (modeOk_i m _).mono ?_; rintro e w1 ⟨rfl, hb1⟩; have hc1 := (bcell hb1).1; have s1 := hb1.size; simp only [World.size_alloc] at s1) | (go_at_call 56; refine (linkOk_i _ _ _ _).mono ?_; rintro e w2 ⟨rfl, hb2⟩; clear hc1))
  have H2 := keepML hb2 (Nat.le_refl _) (keepML hb1 (Nat.le_refl _) (startML w _ m l r d _ _ rfl))
  clear hb1 hb2 s1 hm hl
  go_region_held3 (fun w' => (w'.cell? ⟨w.heap.size, 0, none⟩ = some (.int .i64 m.c) ∧ w'.cell? ⟨w.heap.size, 1, none⟩ = some (.int .i64 m.w) ∧ w'.cell? ⟨w.heap.size, 2, none⟩ = some (.int .i64 m.hf) ∧ w'.cell? ⟨w.heap.size, 3, none⟩ = some (.int .i64 m.hs) ∧ w'.cell? ⟨w.heap.size, 4, none⟩ = some (.int .i64 m.hb) ∧ w'.cell? ⟨w.heap.size, 5, none⟩ = some (.int .i64 m.h) ∧ w'.cell? ⟨w.heap.size, 6, none⟩ = some (.int .i64 m.vf) ∧ w'.cell? ⟨w.heap.size, 7, none⟩ = some (.int .i64 m.vs) ∧ w'.cell? ⟨w.heap.size, 8, none⟩ = some (.int .i64 m.vb)) ∧ (w'.cell? ⟨w.heap.size + 1, 0, none⟩ = some (.int .i64 l) ∧ w'.cell? ⟨w.heap.size + 1, 1, none⟩ = some (.int .i64 r) ∧ w'.cell? ⟨w.heap.size + 1, 2, none⟩ = some (.int .i64 d)) ∧ Below w.heap.size w w' ∧ w.heap.size + 1 < w'.heap.size)
    (first | exact drewML H2 | exact keepML ‹_› (Nat.le_refl _) ‹_ ∧ _› | assumption)
    (first | (go_at_call 45; refine (symFor_i _ _).mono ?_; rintro e w' ⟨rfl, rfl⟩) | (go_at_call 25; refine (lineRoom_i m _ _ _ _).mono ?_; rintro e w3 ⟨rfl, hb3⟩) | (go_at_call 70; refine (ceilDiv_i _ _ _ (by omega) (by omega) (by omega) (by omega)).mono ?_; rintro e w' ⟨rfl, rfl⟩))
  rename_i HL
  obtain ⟨_, _, K, _⟩ := HL
  clear hb3 e1 e2 e3 e4 H2
  go_wp2
  go_ret
  exact ⟨ret_int HS.out.symm, K⟩
theorem slotsNeeded_i (m : MD) (l r d : Int) (w : World) :
    Calls Try.prog 34 #[.agg #[.int .i64 m.c, .int .i64 m.w, .int .i64 m.hf, .int .i64 m.hs, .int .i64 m.hb, .int .i64 m.h, .int .i64 m.vf, .int .i64 m.vs, .int .i64 m.vb], .agg #[.int .i64 l, .int .i64 r, .int .i64 d]] w fun e w' => e = .returned (.int .i64 (slotsF m l r d)) ∧ Below w.heap.size w w' := by
  cases hm : modeB m
  · exact slotsNeeded_i0 m l r d w (by simp [hm])
  · cases hl : linkB l r d
    · exact slotsNeeded_i0 m l r d w (by simp [hl])
    · exact slotsNeeded_i1 m l r d w hm hl
theorem slotsNeeded_s0 (m : MD) (l r d : Int) (w : World) (h : (modeB m && linkB l r d) = false) :
    Calls Try.prog 33 #[.agg #[.int .i64 m.c, .int .i64 m.w, .int .i64 m.hf, .int .i64 m.hs, .int .i64 m.hb, .int .i64 m.h, .int .i64 m.vf, .int .i64 m.vs, .int .i64 m.vb], .agg #[.int .i64 l, .int .i64 r, .int .i64 d]] w fun e w' => e = .returned (.int .i64 (slotsF m l r d)) ∧ Below w.heap.size w w' := by
  have hs := slotsF_no h
  cases hm : modeB m
  · go_enter Try.func33, Try.ntmps33
    go_wp2_with (go_at_call 67; refine (modeOk_s m _).mono ?_; rintro e w1 ⟨rfl, hb1⟩)
    go_ret
    exact ⟨ret_int hs.symm, (((Below.refl _ _).alloc (Nat.le_refl _) _).alloc (by simp) _).trans (hb1.mono (by simp; omega))⟩
  · have hl : linkB l r d = false := by simpa [hm] using h
    go_enter Try.func33, Try.ntmps33
    go_wp2_with (first | (go_at_call 67; refine (modeOk_s m _).mono ?_; rintro e w1 ⟨rfl, hb1⟩; have hc1 := (bcell hb1).1; have s1 := hb1.size) | (go_at_call 57; refine (linkOk_s _ _ _ _).mono ?_; rintro e w2 ⟨rfl, hb2⟩; clear hc1))
    go_ret
    exact ⟨ret_int hs.symm, (((Below.refl _ _).alloc (Nat.le_refl _) _).alloc (by simp) _).trans ((hb1.mono (by simp; omega)).trans (hb2.mono (by simp at s1; omega)))⟩
set_option maxHeartbeats 2000000 in
theorem slotsNeeded_s1 (m : MD) (l r d : Int) (w : World) (hm : modeB m = true) (hl : linkB l r d = true) :
    Calls Try.prog 33 #[.agg #[.int .i64 m.c, .int .i64 m.w, .int .i64 m.hf, .int .i64 m.hs, .int .i64 m.hb, .int .i64 m.h, .int .i64 m.vf, .int .i64 m.vs, .int .i64 m.vb], .agg #[.int .i64 l, .int .i64 r, .int .i64 d]] w fun e w' => e = .returned (.int .i64 (slotsF m l r d)) ∧ Below w.heap.size w w' := by
  have HS := Lib.hid (slotsF_yes hm hl)
  have hb' := modeB_t.1 hm
  have h1 := symFor_bd hb'.2.1
  have h2 := roomF_bd m l r d
  have h3 := roomF_pos hm hl
  have h0 : (roomF m l r d == 0) = false := by simp; omega
  have e1 : IntKind.i64.wrap (16 * symFor m.w) = 16 * symFor m.w := IntWalk.i64_in _ (by omega)
  have e2 : IntKind.i64.wrap (16 * symFor m.w + roomF m l r d) = 16 * symFor m.w + roomF m l r d := IntWalk.i64_in _ (by omega)
  have hz : ¬ roomF m l r d = 0 := by omega
  have q1 := Int.ediv_nonneg (a := 16 * symFor m.w + roomF m l r d - 1) (b := roomF m l r d) (by omega) (by omega)
  have q2 := Int.ediv_le_self (a := 16 * symFor m.w + roomF m l r d - 1) (roomF m l r d) (by omega)
  have e4 : IntKind.i64.wrap ((16 * symFor m.w + roomF m l r d - 1).tdiv (roomF m l r d)) = (16 * symFor m.w + roomF m l r d - 1) / roomF m l r d := by
    rw [Int.tdiv_eq_ediv_of_nonneg (by omega)]; exact IntWalk.i64_in _ (by omega)
  clear q1 q2
  have e3 : IntKind.i64.wrap (16 * symFor m.w + roomF m l r d - 1) = 16 * symFor m.w + roomF m l r d - 1 := IntWalk.i64_in _ (by omega)
  go_enter Try.func33, Try.ntmps33
  go_wp2_with (first | (go_at_call 67; refine (modeOk_s m _).mono ?_; rintro e w1 ⟨rfl, hb1⟩; have hc1 := (bcell hb1).1; have s1 := hb1.size; simp only [World.size_alloc] at s1) | (go_at_call 57; refine (linkOk_s _ _ _ _).mono ?_; rintro e w2 ⟨rfl, hb2⟩; clear hc1))
  have H2 := keepML hb2 (Nat.le_refl _) (keepML hb1 (Nat.le_refl _) (startML w _ m l r d _ _ rfl))
  clear hb1 hb2 s1 hm hl
  go_region_held3 (fun w' => (w'.cell? ⟨w.heap.size, 0, none⟩ = some (.int .i64 m.c) ∧ w'.cell? ⟨w.heap.size, 1, none⟩ = some (.int .i64 m.w) ∧ w'.cell? ⟨w.heap.size, 2, none⟩ = some (.int .i64 m.hf) ∧ w'.cell? ⟨w.heap.size, 3, none⟩ = some (.int .i64 m.hs) ∧ w'.cell? ⟨w.heap.size, 4, none⟩ = some (.int .i64 m.hb) ∧ w'.cell? ⟨w.heap.size, 5, none⟩ = some (.int .i64 m.h) ∧ w'.cell? ⟨w.heap.size, 6, none⟩ = some (.int .i64 m.vf) ∧ w'.cell? ⟨w.heap.size, 7, none⟩ = some (.int .i64 m.vs) ∧ w'.cell? ⟨w.heap.size, 8, none⟩ = some (.int .i64 m.vb)) ∧ (w'.cell? ⟨w.heap.size + 1, 0, none⟩ = some (.int .i64 l) ∧ w'.cell? ⟨w.heap.size + 1, 1, none⟩ = some (.int .i64 r) ∧ w'.cell? ⟨w.heap.size + 1, 2, none⟩ = some (.int .i64 d)) ∧ Below w.heap.size w w' ∧ w.heap.size + 1 < w'.heap.size)
    (first | exact drewML H2 | exact keepML ‹_› (Nat.le_refl _) ‹_ ∧ _› | assumption)
    (first | (go_at_call 68; refine (symFor_s _ _).mono ?_; rintro e w' ⟨rfl, rfl⟩) | (go_at_call 22; refine (lineRoom_s m _ _ _ _).mono ?_; rintro e w3 ⟨rfl, hb3⟩))
  rename_i HL
  obtain ⟨_, _, K, _⟩ := HL
  clear hb3 e1 e2 e3 e4 H2
  go_wp2
  go_ret
  exact ⟨ret_int HS.out.symm, K⟩
theorem slotsNeeded_s (m : MD) (l r d : Int) (w : World) :
    Calls Try.prog 33 #[.agg #[.int .i64 m.c, .int .i64 m.w, .int .i64 m.hf, .int .i64 m.hs, .int .i64 m.hb, .int .i64 m.h, .int .i64 m.vf, .int .i64 m.vs, .int .i64 m.vb], .agg #[.int .i64 l, .int .i64 r, .int .i64 d]] w fun e w' => e = .returned (.int .i64 (slotsF m l r d)) ∧ Below w.heap.size w w' := by
  cases hm : modeB m
  · exact slotsNeeded_s0 m l r d w (by simp [hm])
  · cases hl : linkB l r d
    · exact slotsNeeded_s0 m l r d w (by simp [hl])
    · exact slotsNeeded_s1 m l r d w hm hl
theorem fitsLink_i (m : MD) (l r d : Int) (w : World) :
    Calls Try.prog 36 #[.agg #[.int .i64 m.c, .int .i64 m.w, .int .i64 m.hf, .int .i64 m.hs, .int .i64 m.hb, .int .i64 m.h, .int .i64 m.vf, .int .i64 m.vs, .int .i64 m.vb], .agg #[.int .i64 l, .int .i64 r, .int .i64 d]] w fun e w' => e = .returned (.bool (inB (slotsF m l r d) 1 16)) ∧ Below w.heap.size w w' := by
  go_enter Try.func36, Try.ntmps36
  go_wp2_with (first | (go_at_call 34; refine (slotsNeeded_i m _ _ _ _).mono ?_; rintro e w1 ⟨rfl, hb1⟩) | (go_at_call 65; refine (within_any _ _ _ _).mono ?_; rintro e w' ⟨rfl, rfl⟩))
  go_ret
  exact ⟨rfl, (((Below.refl _ _).alloc (Nat.le_refl _) _).alloc (by simp) _).trans (hb1.mono (by simp; omega))⟩
theorem fitsLink_s (m : MD) (l r d : Int) (w : World) :
    Calls Try.prog 35 #[.agg #[.int .i64 m.c, .int .i64 m.w, .int .i64 m.hf, .int .i64 m.hs, .int .i64 m.hb, .int .i64 m.h, .int .i64 m.vf, .int .i64 m.vs, .int .i64 m.vb], .agg #[.int .i64 l, .int .i64 r, .int .i64 d]] w fun e w' => e = .returned (.bool (inB (slotsF m l r d) 1 16)) ∧ Below w.heap.size w w' := by
  go_enter Try.func35, Try.ntmps35
  go_wp2_with (first | (go_at_call 33; refine (slotsNeeded_s m _ _ _ _).mono ?_; rintro e w1 ⟨rfl, hb1⟩) | (go_at_call 63; refine (l01In_any _ _ _ _).mono ?_; rintro e w' ⟨rfl, rfl⟩))
  go_ret
  exact ⟨rfl, (((Below.refl _ _).alloc (Nat.le_refl _) _).alloc (by simp) _).trans (hb1.mono (by simp; omega))⟩
end Go.Proofs.Ytmibajhilbfecaa
