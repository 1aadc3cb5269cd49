/- MonitorOk, the program's and the reference's. -/
import Derived.Test.YtmibajhilbfecaaMon
import Derived.Deep.QuietTactic
import Derived.BigQuiet
namespace Go.Proofs.Ytmibajhilbfecaa
open Go.RowKit Go.Deep
set_option maxHeartbeats 1000000 in
theorem monitorOk_i (N : ByteArray) (A : Option Addr) (n c B : Nat) (ms : List MD) (s : Int) (w : World) (h : RM w B A n ms) (hB : B ≤ w.heap.size) (hn : n ≤ 4294967296) (hN : N.size ≤ 4294967296) :
    Calls Try.prog 72 #[.agg #[.string N, .slice A n c, .int .i64 s]] w fun e w' => e = .returned (.bool (monB N ms s)) ∧ Below w.heap.size w w' := by
  have K0 := (Below.refl w.heap.size w).alloc (Nat.le_refl _) (.cells #[.string N, .slice A n c, .int .i64 s] 58)
  have G0 := heap_alloc_new w (.cells #[.string N, .slice A n c, .int .i64 s] 58)
  have hl := h.len
  have h0 := h.alloc hB (.cells #[.string N, .slice A n c, .int .i64 s] 58)
  cases c1 : inB (N.size : Int) 1 8
  · have HM := Lib.hid (show monB N ms s = false by simp [monB, c1])
    go_enter Try.func72, Try.ntmps72
    go_wp2_with (go_at_call 65; refine (within_any _ _ _ _).mono ?_; rintro e w' ⟨rfl, rfl⟩)
    go_ret
    exact ⟨ret_bool HM.out.symm, K0⟩
  cases c2 : inB (n : Int) 1 4
  · have HM := Lib.hid (show monB N ms s = false by simp [monB, c2, hl])
    go_enter Try.func72, Try.ntmps72
    go_wp2_with (go_at_call 65; refine (within_any _ _ _ _).mono ?_; rintro e w' ⟨rfl, rfl⟩)
    go_ret
    exact ⟨ret_bool HM.out.symm, K0⟩
  cases c3 : inB s 0 255
  · have HM := Lib.hid (show monB N ms s = false by simp [monB, c3])
    go_enter Try.func72, Try.ntmps72
    go_wp2_with (go_at_call 65; refine (within_any _ _ _ _).mono ?_; rintro e w' ⟨rfl, rfl⟩)
    go_ret
    exact ⟨ret_bool HM.out.symm, K0⟩
  go_enter Try.func72, Try.ntmps72
  go_wp2_with (go_at_call 65; refine (within_any _ _ _ _).mono ?_; rintro e w' ⟨rfl, rfl⟩)
  have hN8 := (inB_t.1 c1).2
  have hn4 := (inB_t.1 c2).2
  have HM : Hid (monB N ms s = (nameB N && ms.all modeB)) := Lib.hid (by simp [monB, c1, c2, c3, hl])
  clear c1 c2 c3
  generalize w.alloc (.cells #[.string N, .slice A n c, .int .i64 s] 58) = w0 at K0 G0 h0 ⊢
  obtain ⟨d1, d2, d3, _, _, _⟩ := cells3 G0
  go_loop [27] (fun i => ∃ k : Nat, k ≤ N.size ∧ i = .int .i64 k ∧ Hid (∀ j (hj : j < N.size), j < k → inB (N[j].toNat : Int) 33 126 = true)) (fun i => N.size - (intOf i).toNat)
  case atStart => exact ⟨0, Nat.zero_le _, rfl, Lib.hid (fun j hj h => absurd h (by omega))⟩
  case round =>
    obtain ⟨k, hk, rfl, hj⟩ := hrel
    by_cases hlt : k < N.size
    · have EW : wrap64 (N[k].toNat : Int) = (N[k].toNat : Int) := IntWalk.wrap64_in _ (by have := N[k].toNat_lt; omega)
      cases hb : inB (N[k].toNat : Int) 33 126
      · have HM2 := Lib.hid (show monB N ms s = false by rw [HM.out, nameB_no hlt hb]; rfl)
        go_wp2_with (go_at_call 65; refine (within_any _ _ _ _).mono ?_; (try rw [EW]); rw [hb]; rintro e w' ⟨rfl, rfl⟩)
        go_ret
        exact ⟨ret_bool HM2.out.symm, K0⟩
      · have HB := Lib.hid hb
        go_wp2_with (go_at_call 65; refine (within_any _ _ _ _).mono ?_; (try rw [EW]); rw [hb]; rintro e w' ⟨rfl, rfl⟩)
        go_round
        case rel => exact ⟨k + 1, by omega, by go_num, Lib.hid (fun j hj2 h2 => by rcases Nat.lt_succ_iff_lt_or_eq.1 h2 with h3 | h3; exact hj.out j hj2 h3; subst h3; exact HB.out)⟩
        case measure => simp [intOf]; omega
    · obtain rfl : k = N.size := by omega
      have HM2 := Lib.hid (show monB N ms s = ms.all modeB by rw [HM.out, nameB_yes (fun j hj2 => hj.out j hj2 hj2), Bool.true_and])
      clear HM hj
      go_wp2
      go_loopw [41] (fun i wr => ∃ k : Nat, k ≤ n ∧ i = .int .i64 k ∧ Hid (∀ j, j < k → modeB (mat ms j) = true) ∧ Below w0.heap.size w0 wr) (fun i _ => n - (intOf i).toNat)
      case atStart => exact ⟨0, Nat.zero_le _, rfl, Lib.hid (fun j h => absurd h (by omega)), Below.refl _ _⟩
      case round =>
        obtain ⟨k, hk, rfl, hj, hb1⟩ := hrel
        have hsz := hb1.size
        have hg0 := heap_lt G0
        have K1 := K0.trans (hb1.mono (by omega))
        by_cases hlt : k < n
        · have hr1 := h0.below hb1 (by omega)
          obtain ⟨b, off, rfl, hb, hc⟩ := hr1.at_ hlt
          obtain ⟨m, hm⟩ : ∃ m, m = mat ms k := ⟨_, rfl⟩
          rw [← hm] at hc
          obtain ⟨x1, x2, x3, x4, x5, x6, x7, x8, x9⟩ := hc.nine
          have hi1 : (0 : Int) ≤ (k : Int) := by omega
          have hi2 : (k : Int) < (n : Int) := by omega
          have K2 := K1.alloc (by omega) (.cells #[.int .i64 m.c, .int .i64 m.w, .int .i64 m.hf, .int .i64 m.hs, .int .i64 m.hb, .int .i64 m.h, .int .i64 m.vf, .int .i64 m.vs, .int .i64 m.vb] 39)
          have B2 := hb1.alloc hsz (.cells #[.int .i64 m.c, .int .i64 m.w, .int .i64 m.hf, .int .i64 m.hs, .int .i64 m.hb, .int .i64 m.h, .int .i64 m.vf, .int .i64 m.vs, .int .i64 m.vb] 39)
          cases hmo : modeB m
          · have HM3 := Lib.hid (show monB N ms s = false by
              rw [HM2.out, List.all_eq_false]
              exact ⟨mat ms k, mat_mem (by omega), by rw [← hm, hmo]; decide⟩)
            clear hm HM2 hj
            go_wp2_with fail
            refine (modeOk_i m _).mono ?_
            rw [hmo]
            rintro e w3 ⟨rfl, hb3⟩
            go_wp2
            go_ret
            exact ⟨ret_bool HM3.out.symm, K2.trans (hb3.mono (by simp; omega))⟩
          · have HJ : Hid (∀ j, j < k + 1 → modeB (mat ms j) = true) := Lib.hid (fun j hj2 => by rcases Nat.lt_succ_iff_lt_or_eq.1 hj2 with h3 | h3; exact hj.out j h3; subst h3; rw [← hm]; exact hmo)
            clear hm hj
            go_wp2_with fail
            refine (modeOk_i m _).mono ?_
            rw [hmo]
            rintro e w3 ⟨rfl, hb3⟩
            go_wp2
            go_roundw
            case rel => exact ⟨k + 1, by omega, by go_num, HJ, B2.trans (hb3.mono (by simp; omega))⟩
            case measure => simp [intOf]; omega
        · obtain rfl : k = n := by omega
          have HM3 := Lib.hid (show monB N ms s = true by
            rw [HM2.out, List.all_eq_true]
            intro m hm
            obtain ⟨j, hj2, rfl⟩ := List.getElem_of_mem hm
            rw [← mat_eq hj2]
            exact hj.out j (by omega))
          go_wp2
          go_ret
          exact ⟨ret_bool HM3.out.symm, K1⟩
set_option maxHeartbeats 1000000 in
theorem monitorOk_s (N : ByteArray) (A : Option Addr) (n c B : Nat) (ms : List MD) (s : Int) (w : World) (h : RM w B A n ms) (hB : B ≤ w.heap.size) (hn : n ≤ 4294967296) (hN : N.size ≤ 4294967296) :
    Calls Try.prog 76 #[.agg #[.string N, .slice A n c, .int .i64 s]] w fun e w' => e = .returned (.bool (monB N ms s)) ∧ Below w.heap.size w w' := by
  have K0 := (Below.refl w.heap.size w).alloc (Nat.le_refl _) (.cells #[.string N, .slice A n c, .int .i64 s] 58)
  have G0 := heap_alloc_new w (.cells #[.string N, .slice A n c, .int .i64 s] 58)
  have hl := h.len
  have h0 := h.alloc hB (.cells #[.string N, .slice A n c, .int .i64 s] 58)
  cases c1 : inB (N.size : Int) 1 8
  · have HM := Lib.hid (show monB N ms s = false by simp [monB, c1])
    go_enter Try.func76, Try.ntmps76
    go_wp2_with (go_at_call 63; refine (l01In_any _ _ _ _).mono ?_; rintro e w' ⟨rfl, rfl⟩)
    go_ret
    exact ⟨ret_bool HM.out.symm, K0⟩
  cases c2 : inB (n : Int) 1 4
  · have HM := Lib.hid (show monB N ms s = false by simp [monB, c2, hl])
    go_enter Try.func76, Try.ntmps76
    go_wp2_with (go_at_call 63; refine (l01In_any _ _ _ _).mono ?_; rintro e w' ⟨rfl, rfl⟩)
    go_ret
    exact ⟨ret_bool HM.out.symm, K0⟩
  cases c3 : inB s 0 255
  · have HM := Lib.hid (show monB N ms s = false by simp [monB, c3])
    go_enter Try.func76, Try.ntmps76
    go_wp2_with (go_at_call 63; refine (l01In_any _ _ _ _).mono ?_; rintro e w' ⟨rfl, rfl⟩)
    go_ret
    exact ⟨ret_bool HM.out.symm, K0⟩
  go_enter Try.func76, Try.ntmps76
  go_wp2_with (go_at_call 63; refine (l01In_any _ _ _ _).mono ?_; rintro e w' ⟨rfl, rfl⟩)
  have hN8 := (inB_t.1 c1).2
  have hn4 := (inB_t.1 c2).2
  have HM : Hid (monB N ms s = (nameB N && ms.all modeB)) := Lib.hid (by simp [monB, c1, c2, c3, hl])
  clear c1 c2 c3
  generalize w.alloc (.cells #[.string N, .slice A n c, .int .i64 s] 58) = w0 at K0 G0 h0 ⊢
  obtain ⟨d1, d2, d3, _, _, _⟩ := cells3 G0
  go_loop [3] (fun i => ∃ k : Nat, k ≤ N.size ∧ i = .int .i64 k ∧ Hid (∀ j (hj : j < N.size), j < k → inB (N[j].toNat : Int) 33 126 = true)) (fun i => N.size - (intOf i).toNat)
  case atStart => exact ⟨0, Nat.zero_le _, rfl, Lib.hid (fun j hj h => absurd h (by omega))⟩
  case round =>
    obtain ⟨k, hk, rfl, hj⟩ := hrel
    by_cases hlt : k < N.size
    · by_cases hb1 : (N[k].toNat : Int) < 33
      · have HM2 := Lib.hid (show monB N ms s = false by rw [HM.out, nameB_no hlt (inB_f.2 (by omega))]; rfl)
        go_wp2
        go_ret
        exact ⟨ret_bool HM2.out.symm, K0⟩
      · have hb1' : decide ((N[k].toNat : Int) < 33) = false := by simpa using hb1
        by_cases hb2 : (126 : Int) < (N[k].toNat : Int)
        · have HM2 := Lib.hid (show monB N ms s = false by rw [HM.out, nameB_no hlt (inB_f.2 (by omega))]; rfl)
          go_wp2
          go_ret
          exact ⟨ret_bool HM2.out.symm, K0⟩
        · have hb2' : decide ((126 : Int) < (N[k].toNat : Int)) = false := by simpa using hb2
          have HB := Lib.hid (show inB (N[k].toNat : Int) 33 126 = true from inB_t.2 (by omega))
          go_wp2
          go_round
          case rel => exact ⟨k + 1, by omega, by go_num, Lib.hid (fun j hj2 h2 => by rcases Nat.lt_succ_iff_lt_or_eq.1 h2 with h3 | h3; exact hj.out j hj2 h3; subst h3; exact HB.out)⟩
          case measure => simp [intOf]; omega
    · obtain rfl : k = N.size := by omega
      have HM2 := Lib.hid (show monB N ms s = ms.all modeB by rw [HM.out, nameB_yes (fun j hj2 => hj.out j hj2 hj2), Bool.true_and])
      clear HM hj
      go_wp2
      go_loopw [4] (fun i wr => ∃ k : Nat, k ≤ n ∧ i = .int .i64 k ∧ Hid (∀ j, j < k → modeB (mat ms j) = true) ∧ Below w0.heap.size w0 wr) (fun i _ => n - (intOf i).toNat)
      case atStart => exact ⟨0, Nat.zero_le _, rfl, Lib.hid (fun j h => absurd h (by omega)), Below.refl _ _⟩
      case round =>
        obtain ⟨k, hk, rfl, hj, hb1⟩ := hrel
        have hsz := hb1.size
        have hg0 := heap_lt G0
        have K1 := K0.trans (hb1.mono (by omega))
        have d2r := (hb1.cell (p := ⟨w.heap.size, 1, none⟩) hg0).trans d2
        by_cases hlt : k < n
        · have hr1 := h0.below hb1 (by omega)
          obtain ⟨b, off, rfl, hb, hc⟩ := hr1.at_ hlt
          obtain ⟨m, hm⟩ : ∃ m, m = mat ms k := ⟨_, rfl⟩
          rw [← hm] at hc
          obtain ⟨x1, x2, x3, x4, x5, x6, x7, x8, x9⟩ := hc.nine
          have hi1 : (0 : Int) ≤ (k : Int) := by omega
          have hi2 : (k : Int) < (n : Int) := by omega
          cases hmo : modeB m
          · have HM3 := Lib.hid (show monB N ms s = false by
              rw [HM2.out, List.all_eq_false]
              exact ⟨mat ms k, mat_mem (by omega), by rw [← hm, hmo]; decide⟩)
            clear hm HM2 hj
            go_wp2_with fail
            refine (modeOk_s m _).mono ?_
            rw [hmo]
            rintro e w3 ⟨rfl, hb3⟩
            go_wp2
            go_ret
            exact ⟨ret_bool HM3.out.symm, K1.trans (hb3.mono (by omega))⟩
          · have HJ : Hid (∀ j, j < k + 1 → modeB (mat ms j) = true) := Lib.hid (fun j hj2 => by rcases Nat.lt_succ_iff_lt_or_eq.1 hj2 with h3 | h3; exact hj.out j h3; subst h3; rw [← hm]; exact hmo)
            clear hm hj
            go_wp2_with fail
            refine (modeOk_s m _).mono ?_
            rw [hmo]
            rintro e w3 ⟨rfl, hb3⟩
            go_wp2
            go_roundw
            case rel => exact ⟨k + 1, by omega, by go_num, HJ, hb1.trans (hb3.mono (by omega))⟩
            case measure => simp [intOf]; omega
        · obtain rfl : k = n := by omega
          have HM3 := Lib.hid (show monB N ms s = true by
            rw [HM2.out, List.all_eq_true]
            intro m hm
            obtain ⟨j, hj2, rfl⟩ := List.getElem_of_mem hm
            rw [← mat_eq hj2]
            exact hj.out j (by omega))
          go_wp2
          go_ret
          exact ⟨ret_bool HM3.out.symm, K1⟩
end Go.Proofs.Ytmibajhilbfecaa
