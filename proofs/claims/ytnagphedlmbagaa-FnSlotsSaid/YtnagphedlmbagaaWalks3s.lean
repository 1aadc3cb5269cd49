/- The walk of FnSlots. -/
import Derived.Test.YtnagphedlmbagaaSlotLaw
import Derived.Test.YtnagphedlmbagaaAt
import Derived.Test.YtnagphedlmbagaaApp2
import Derived.Deep.CutRange
import Derived.Deep.DeepCutAuto
namespace Go.Proofs.Ytnagphedlmbagaa
open Go.RowKit Go.Deep
set_option maxRecDepth 10000 in
set_option maxHeartbeats 2000000 in
theorem walk_fnSlots (w : World) (A : Option Addr) (n c : Nat) (zs : List Int) (r0 : RB w w.heap.size A n zs) (hz : BY zs) (_g : n ≤ c) (_i : c ≤ maxLen) :
    Calls Try.prog 7 #[.slice A n c] w fun e w' => e = .returned (.bool true) ∧ Below w.heap.size w w' := by
  by_cases hbig : 1048576 < n
  · go_enter Try.func7, Try.ntmps7
    go_wp2_with (go_at_call 24; refine (big_any _ _ _ _).mono ?_; rintro e w' ⟨rfl, rfl⟩)
    go_ret
    exact ⟨rfl, Below.refl _ _⟩
  · have hn : n ≤ 1048576 := by omega
    have hmk1 : ∀ w : World, (Instr.makeSlice 22 (.int .i64 16) (.int .i64 16)).run Try.prog w = .ok (.slice (some ⟨w.heap.size, 0, none⟩) 16 16) (w.alloc (.cells (madeCells #[.int .i64 0] 16) 3)) :=
      run_make_row' (P := Try.prog) 22 3 (.int .i64 0) 8 Try.underlying22 infoInt rfl .i64 .i64 16 (by omega) (by omega)
    have hmk2 : ∀ w : World, (Instr.makeSlice 22 (.int .i64 10) (.int .i64 10)).run Try.prog w = .ok (.slice (some ⟨w.heap.size, 0, none⟩) 10 10) (w.alloc (.cells (madeCells #[.int .i64 0] 10) 3)) :=
      run_make_row' (P := Try.prog) 22 3 (.int .i64 0) 8 Try.underlying22 infoInt rfl .i64 .i64 10 (by omega) (by omega)
    have HT0 := (own_made w 16 (by simp [maxLen])).alloc (.cells (madeCells #[.int .i64 0] 10) 3)
    have HO0 := own_made (w.alloc (.cells (madeCells #[.int .i64 0] 16) 3)) 10 (by simp [maxLen])
    rw [← owL_zero] at HO0
    simp only [World.size_alloc] at HO0
    go_enter Try.func7, Try.ntmps7
    go_wp2_with (go_at_call 24; refine (big_any _ _ _ _).mono ?_; rintro e w' ⟨rfl, rfl⟩)
    go_loopw [3, 5] (fun t i wr => ∃ k : Nat, k ≤ 14 ∧ i = .int .i64 k ∧ ∃ (T : List Int) (A1 : Option Addr) (c1 gt : Nat), t = .slice A1 16 c1 ∧ Own wr gt (gt + 1) A1 16 c1 T ∧ Own wr (w.heap.size + 1) (w.heap.size + 1 + 1) (some ⟨w.heap.size + 1, 0, none⟩) 10 10 (owL T) ∧ Hid (gt ≠ w.heap.size + 1) ∧ w.heap.size ≤ gt ∧ gt < wr.heap.size ∧ w.heap.size + 1 < wr.heap.size ∧ Hid (T16 T) ∧ Below w.heap.size w wr) (fun _ i _ => 14 - (intOf i).toNat)
    case atStart => exact ⟨0, by omega, rfl, _, _, _, _, rfl, HT0, HO0, Lib.hid (by omega), Nat.le_refl _, by simp; omega, by simp, Lib.hid t16_zero, ((Below.refl _ _).alloc (Nat.le_refl _) _).alloc (by simp) _⟩
    case round =>
      obtain ⟨k, hk, rfl, T, A1, c1, gt, rfl, hoT, hoO, hne, hgt1, hgt2, hgO2, hT, K1⟩ := hrel
      clear HT0 HO0 hmk1 hmk2
      have s1 := K1.size
      have rr := RB.below r0 K1 (Nat.le_refl _)
      by_cases hlt : k < 14
      · have q0 := atF_rng hz k
        have q3 := atF_rng hz (k + 3)
        have q6 := atF_rng hz (k + 6)
        have e3 : ((k : Int) + 3).toNat = k + 3 := by omega
        have e6 : ((k : Int) + 6).toNat = k + 6 := by omega
        obtain ⟨x0, hx0⟩ : ∃ x, x = atF zs k := ⟨_, rfl⟩
        obtain ⟨x3, hx3⟩ : ∃ x, x = atF zs (k + 3) := ⟨_, rfl⟩
        obtain ⟨x6, hx6⟩ : ∃ x, x = atF zs (k + 6) := ⟨_, rfl⟩
        rw [← hx0] at q0
        rw [← hx3] at q3
        rw [← hx6] at q6
        have a0 := at_any A n c _ zs k wr rr hz hn (by omega)
        have a3 := at_int A n c _ zs (k + 3) wr rr hz hn (by omega) (by omega)
        have a6 := at_int A n c _ zs (k + 6) wr rr hz hn (by omega) (by omega)
        rw [← hx0] at a0
        rw [e3, ← hx3] at a3
        rw [e6, ← hx6] at a6
        clear hx0 hx3 hx6 e3 e6
        obtain ⟨s, hs⟩ : ∃ s : Nat, 1 + x0 % 4 = (s : Int) := ⟨(1 + x0 % 4).toNat, by omega⟩
        obtain ⟨m, hm⟩ : ∃ s : Nat, 1 + x3 % 7 = (s : Int) := ⟨(1 + x3 % 7).toNat, by omega⟩
        have hs1 : 1 ≤ s := by omega
        have hs4 : s ≤ 4 := by omega
        have hm1 : 1 ≤ m := by omega
        have hm7 : m ≤ 7 := by omega
        have HS := Lib.hid hs
        have HM := Lib.hid hm
        clear hs hm
        go_wp2_with (go_at_call 25; first | (with_reducible refine a0.mono ?_; rintro e w1 ⟨rfl, rfl⟩) | (with_reducible refine a3.mono ?_; rintro e w' ⟨rfl, rfl⟩))
        rw [HS.out, HM.out]
        clear a0 a3
        have hsum : ∀ j, j < 10 → ((owL T).take (j + 1)).sum = ((owL T).take j).sum + zat (owL T) j := by
          intro j hj
          rw [take_zat (by rw [owL_len]; omega), List.sum_append]
          simp
        have HSUM := Lib.hid hsum
        have HRNG := Lib.hid (fun (j : Nat) (hj : j ≤ 10) => owL_rng hT.out hj)
        clear hsum
        go_loopw [8, 9] (fun u i wq => ∃ j : Nat, j ≤ 10 ∧ i = .int .i64 j ∧ ∃ v : Int, u = .int .i64 v ∧ Hid (v = ((owL T).take j).sum) ∧ wq = wr) (fun _ i _ => 10 - (intOf i).toNat)
        case atStart => exact ⟨0, Nat.zero_le _, rfl, 0, rfl, Lib.hid (by simp), rfl⟩
        case round =>
          obtain ⟨j, hj, rfl, v, rfl, hv, rfl⟩ := hrel
          have hvr := HRNG.out j hj
          rw [← hv.out] at hvr
          by_cases hj2 : j < 10
          · obtain ⟨g2, eq2, _, _, hc2, _⟩ := hoO.cell hj2
            injection eq2 with eq2
            injection eq2 with e1 e2
            subst e1
            have hi1 : (0 : Int) ≤ (j : Int) := by omega
            have hi2 : (j : Int) < 10 := by omega
            have hvr2 := HRNG.out (j + 1) (by omega)
            have HV2 := Lib.hid (show v + zat (owL T) j = ((owL T).take (j + 1)).sum by rw [HSUM.out j hj2, ← hv.out])
            rw [← HV2.out] at hvr2
            go_wp2
            go_roundw
            case rel => exact ⟨j + 1, by omega, by go_num, _, by go_num, HV2, trivial⟩
            case measure => simp [intOf]; omega
          · obtain rfl : j = 10 := by omega
            have HV := Lib.hid (show (owL T).sum = v by have := hv.out; rwa [List.take_of_length_le (by rw [owL_len]; omega), eq_comm] at this)
            have HOK := Lib.hid (takeOk_eq hT.out hs1 hs4 hm1)
            clear HSUM HRNG hv hj hj2
            go_upto_if 51 with (go_at_call 25; with_reducible refine a6.mono ?_; rintro e w1 ⟨rfl, rfl⟩)
            go_cut [3] (fun t wr => ∃ (T : List Int) (A1 : Option Addr) (c1 gt : Nat), t = .slice A1 16 c1 ∧ Own wr gt (gt + 1) A1 16 c1 T ∧ Own wr (w.heap.size + 1) (w.heap.size + 1 + 1) (some ⟨w.heap.size + 1, 0, none⟩) 10 10 (owL T) ∧ Hid (gt ≠ w.heap.size + 1) ∧ w.heap.size ≤ gt ∧ gt < wr.heap.size ∧ w.heap.size + 1 < wr.heap.size ∧ Hid (T16 T) ∧ Below w.heap.size w wr)
            case first =>
              by_cases h3 : x6 % 3 = 0
              · have hb : (x6 % 3 == 0) = true := by simp [h3]
                clear h3 a6
                go_wp2_with fail
                refine (freeSlots_i A1 16 c1 _ T s _ hoT.ri (by omega) (by omega)).mono ?_
                rintro e w2 ⟨A2, n2, c2, rfl, ho2, hb2⟩
                obtain rfl : n2 = 16 := ho2.len.symm.trans ((freeF_len _ _).trans hT.out.1)
                have s2 := hb2.size
                have K2 := bthen K1 hb2 s1
                have HO2 := hoO.below hb2 (by omega)
                obtain ⟨g2, ho2', hg2a, hg2b⟩ := ho2.exact_ (by obtain ⟨g, _, h1, h2, _⟩ := ho2.cell (show 0 < 16 by omega); omega)
                obtain ⟨g3, eq3, _, _, hc3, hf3⟩ := HO2.cell (show s < 10 by omega)
                injection eq3 with eq3
                injection eq3 with e1 e2
                subst e1
                have hi1 : (0 : Int) ≤ (s : Int) := by omega
                have hi2 : (s : Int) < 10 := by omega
                have HO3 := HO2.set s 0
                rw [owL_free hs1 hs4] at HO3
                have HT3 := OwnV.far ho2' (p := ⟨w.heap.size + 1, s, none⟩) (by simp only; omega) (.int .i64 0)
                clear hoT hoO K1 rr hb2 ho2 ho2'
                go_wp2
                go_meet
                exact ⟨_, _, _, g2, rfl, HT3, HO3, Lib.hid (by omega), by omega, by simp; omega, by simp; omega, Lib.hid (t16_free hT.out s), K2.setCell (by simp) _⟩
              · have hb : (x6 % 3 == 0) = false := by simp [h3]
                clear h3 a6
                go_wp2_with fail
                refine (takeSlots_i A1 16 c1 _ T s m _ hoT.ri (by omega) (by omega)).mono ?_
                rintro e w2 ⟨A2, n2, c2, rfl, ho2, hb2⟩
                obtain rfl : n2 = 16 := ho2.len.symm.trans ((takeL_len _ _ _).trans hT.out.1)
                have s2 := hb2.size
                have K2 := bthen K1 hb2 s1
                have HO2 := hoO.below hb2 (by omega)
                obtain ⟨g2, ho2', hg2a, hg2b⟩ := ho2.exact_ (by obtain ⟨g, _, h1, h2, _⟩ := ho2.cell (show 0 < 16 by omega); omega)
                obtain ⟨g3, eq3, _, _, hc3, hf3⟩ := HO2.cell (show s < 10 by omega)
                injection eq3 with eq3
                injection eq3 with e1 e2
                subst e1
                have hi1 : (0 : Int) ≤ (s : Int) := by omega
                have hi2 : (s : Int) < 10 := by omega
                have HT16 := Lib.hid (t16_take (m := m) hT.out hs4)
                clear hoT hoO K1 rr hb2 ho2
                cases hok : takeOk T s m
                · have HOE := HOK.out
                  rw [hok, HV.out] at HOE
                  have HTN := Lib.hid (takeL_no hok)
                  rw [HTN.out] at ho2' HT16
                  by_cases h0 : zat (owL T) s = 0
                  · have hzb : (zat (owL T) s == 0) = true := by simp [h0]
                    have hgt : ¬ v + (m : Int) ≤ 16 := by intro h; simp [h0, h] at HOE
                    clear h0 HOE
                    go_wp2
                    go_meet
                    exact ⟨_, _, _, g2, rfl, ho2', HO2, Lib.hid (by omega), by omega, by omega, by omega, HT16, K2⟩
                  · have hzb : (zat (owL T) s == 0) = false := by simp [h0]
                    clear h0 HOE
                    go_wp2
                    go_meet
                    exact ⟨_, _, _, g2, rfl, ho2', HO2, Lib.hid (by omega), by omega, by omega, by omega, HT16, K2⟩
                · have HOE := HOK.out
                  rw [hok, HV.out, eq_comm, Bool.and_eq_true, decide_eq_true_eq, decide_eq_true_eq] at HOE
                  have hzb : (zat (owL T) s == 0) = true := by simp [HOE.1]
                  have hle : v + (m : Int) ≤ 16 := HOE.2
                  have HO3 := HO2.set s m
                  rw [owL_take hs1 hs4 hok] at HO3
                  have HT3 := OwnV.far ho2' (p := ⟨w.heap.size + 1, s, none⟩) (by simp only; omega) (.int .i64 m)
                  clear HOE
                  go_wp2
                  go_meet
                  exact ⟨_, _, _, g2, rfl, HT3, HO3, Lib.hid (by omega), by omega, by simp; omega, by simp; omega, HT16, K2.setCell (by simp) _⟩
            case rest =>
              obtain ⟨T2, A2, c2, g2, rfl, hoT2, hoO2, hne2, hg2a, hg2b, hgO3, hT2, K2⟩ := hcut
              clear hoT hoO K1 rr a6 HOK HV
              go_wp2
              have HRng := Lib.hid hT2.out.2
              have HLen := Lib.hid hT2.out.1
              go_loopw [12] (fun i wq => ∃ j : Nat, 1 ≤ j ∧ j ≤ 5 ∧ i = .int .i64 j ∧ ∃ q, wq = wc.drewN q) (fun i _ => 5 - (intOf i).toNat)
              case atStart => exact ⟨1, by omega, by omega, rfl, 0, rfl⟩
              case round =>
                obtain ⟨j, hj1, hj2, rfl, q, rfl⟩ := hrel
                by_cases hj4 : j ≤ 4
                · have hle4 : ((j : Int) ≤ 4) := by omega
                  go_wp2
                  go_loopw [13, 14] (fun u i wp => ∃ r : Nat, r ≤ 16 ∧ i = .int .i64 r ∧ ∃ y : Nat, u = .int .i64 y ∧ y ≤ r ∧ Hid (y = (T2.take r).count (j : Int)) ∧ ∃ q, wp = wc.drewN q) (fun _ i _ => 16 - (intOf i).toNat)
                  case atStart => exact ⟨0, by omega, rfl, 0, rfl, by omega, Lib.hid rfl, _, rfl⟩
                  case round =>
                    obtain ⟨r, hr, rfl, y, rfl, hyr, hy, q2, rfl⟩ := hrel
                    by_cases hr2 : r < 16
                    · obtain ⟨b2, off2, rfl, _, hc2⟩ := hoT2.ri.at_ hr2
                      have hi1 : (0 : Int) ≤ (r : Int) := by omega
                      have hi2 : (r : Int) < 16 := by omega
                      have HC := Lib.hid (show (T2.take (r + 1)).count (j : Int) = y + if zat T2 r = (j : Int) then 1 else 0 by
                        rw [take_zat (by have := HLen.out; omega), List.count_append, ← hy.out]
                        simp [List.count_cons])
                      by_cases he : zat T2 r = (j : Int)
                      · have hv1 : (zat T2 r == (j : Int)) = true := by simp [he]
                        have HC2 := Lib.hid (show y + 1 = (T2.take (r + 1)).count (j : Int) by rw [HC.out, if_pos he])
                        have hw1 : IntKind.i64.wrap ((y : Int) + 1) = (y : Int) + 1 := IntWalk.i64_in _ (by omega)
                        clear he
                        go_wp2_with (go_at_call 27; refine (btoi_any true _).mono ?_; rintro e w1 ⟨rfl, rfl⟩)
                        go_roundw
                        case rel => exact ⟨r + 1, by omega, by go_num, y + 1, by go_num, by omega, HC2, _, rfl⟩
                        case measure => simp [intOf]; omega
                      · have hv1 : (zat T2 r == (j : Int)) = false := by simp [he]
                        have HC2 := Lib.hid (show y = (T2.take (r + 1)).count (j : Int) by rw [HC.out, if_neg he]; rfl)
                        have hw1 : IntKind.i64.wrap ((y : Int)) = (y : Int) := IntWalk.i64_in _ (by omega)
                        clear he
                        go_wp2_with (go_at_call 27; refine (btoi_any false _).mono ?_; rintro e w1 ⟨rfl, rfl⟩)
                        go_roundw
                        case rel => exact ⟨r + 1, by omega, by go_num, y, by go_num, by omega, HC2, _, rfl⟩
                        case measure => simp [intOf]; omega
                    · obtain rfl : r = 16 := by omega
                      obtain ⟨g3, eq3, _, _, hc3, _⟩ := hoO2.cell (show j < 10 by omega)
                      injection eq3 with eq3
                      injection eq3 with e1 e2
                      subst e1
                      rw [owL_at hj1 hj4] at hc3
                      have hyy := hy.out
                      rw [List.take_of_length_le (by have := HLen.out; omega)] at hyy
                      rw [← hyy] at hc3
                      have hi1 : (0 : Int) ≤ (j : Int) := by omega
                      have hi2 : (j : Int) < 10 := by omega
                      clear hyy hy
                      go_wp2
                      go_roundw
                      case rel => exact ⟨j + 1, by omega, by omega, by go_num, _, rfl⟩
                      case measure => simp [intOf]; omega
                · obtain rfl : j = 5 := by omega
                  go_wp2
                  go_roundw
                  case rel => exact ⟨k + 1, by omega, by go_num, T2, _, _, g2, rfl, OwnV.drewN hoT2 q, OwnV.drewN hoO2 q, hne2, hg2a, hg2b, hgO3, hT2, below_drewN K2 q⟩
                  case measure => simp [intOf]; omega
      · obtain rfl : k = 14 := by omega
        go_wp2
        go_ret
        exact ⟨rfl, K1⟩
end Go.Proofs.Ytnagphedlmbagaa
