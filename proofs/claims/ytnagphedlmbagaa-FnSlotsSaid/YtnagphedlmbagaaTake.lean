/- TakeSlots, program and reference. -/
import Derived.Test.YtnagphedlmbagaaS3
namespace Go.Proofs.Ytnagphedlmbagaa
open Go.RowKit Go.Deep

def tkStep (st : Int) (p : List Int × Nat) (z : Int) : List Int × Nat := if z = 0 ∧ 0 < p.2 then (p.1 ++ [st], p.2 - 1) else (p.1 ++ [z], p.2)
/-- The first m zeros of zs are given to st; what is left of m. -/
def tk (st : Int) (zs : List Int) (m : Nat) : List Int × Nat := zs.foldl (tkStep st) ([], m)
theorem tk_snoc (st : Int) (zs : List Int) (z : Int) (m : Nat) : tk st (zs ++ [z]) m = tkStep st (tk st zs m) z := by simp [tk]
theorem foldl_len (st : Int) : ∀ (zs : List Int) (p : List Int × Nat), (zs.foldl (tkStep st) p).1.length = p.1.length + zs.length
  | [], _ => by simp
  | z :: zs, p => by
    rw [List.foldl_cons, foldl_len st zs]
    unfold tkStep
    split <;> simp <;> omega
theorem tk_len (st : Int) (zs : List Int) (m : Nat) : (tk st zs m).1.length = zs.length := by simp [tk, foldl_len]
theorem foldl_rem (st : Int) : ∀ (zs : List Int) (p : List Int × Nat), (zs.foldl (tkStep st) p).2 = p.2 - zs.count 0
  | [], _ => by simp
  | z :: zs, p => by
    rw [List.foldl_cons, foldl_rem st zs, List.count_cons]
    unfold tkStep
    by_cases hz : z = 0
    · by_cases hp : 0 < p.2
      · rw [if_pos ⟨hz, hp⟩]; simp [hz]; omega
      · rw [if_neg (fun h => hp h.2)]; simp [hz]; omega
    · rw [if_neg (fun h => hz h.1)]; simp [hz]
theorem tk_rem (st : Int) (zs : List Int) (m : Nat) : (tk st zs m).2 = m - zs.count 0 := foldl_rem st zs _
theorem foldl_stop (st : Int) : ∀ (zs : List Int) (p : List Int × Nat), p.2 = 0 → zs.foldl (tkStep st) p = (p.1 ++ zs, 0)
  | [], p, h => by simp [Prod.ext_iff, h]
  | z :: zs, p, h => by
    rw [List.foldl_cons]
    have e : tkStep st p z = (p.1 ++ [z], p.2) := by unfold tkStep; rw [if_neg (by omega)]
    rw [e, foldl_stop st zs (p.1 ++ [z], p.2) h]
    simp
theorem tk_stop (st : Int) (zs : List Int) (m k : Nat) (h : (tk st (zs.take k) m).2 = 0) : (tk st zs m).1 = (tk st (zs.take k) m).1 ++ zs.drop k := by
  have e : tk st zs m = (zs.drop k).foldl (tkStep st) (tk st (zs.take k) m) := by
    conv => lhs; rw [← List.take_append_drop k zs]
    simp only [tk, List.foldl_append]
  rw [e, foldl_stop st _ _ h]
theorem tk_set (st : Int) (zs : List Int) (n k m : Nat) (hl : zs.length = n) (hk : k < n) (h0 : zat zs k = 0) (hp : 0 < (tk st (zs.take k) m).2) :
    ((tk st (zs.take k) m).1 ++ zs.drop k).set k st = (tk st (zs.take (k + 1)) m).1 ++ zs.drop (k + 1) ∧ (tk st (zs.take (k + 1)) m).2 = (tk st (zs.take k) m).2 - 1 := by
  rw [take_zat (by omega), tk_snoc]
  unfold tkStep
  rw [if_pos ⟨h0, hp⟩]
  refine ⟨?_, rfl⟩
  rw [List.drop_eq_getElem_cons (by omega), List.set_append_right _ _ (by rw [tk_len]; simp; omega), tk_len]
  have : k - (zs.take k).length = 0 := by simp; omega
  rw [this, List.set_cons_zero]
  simp
theorem tk_same (st : Int) (zs : List Int) (n k m : Nat) (hl : zs.length = n) (hk : k < n) (h : ¬ (zat zs k = 0 ∧ 0 < (tk st (zs.take k) m).2)) :
    (tk st (zs.take k) m).1 ++ zs.drop k = (tk st (zs.take (k + 1)) m).1 ++ zs.drop (k + 1) ∧ (tk st (zs.take (k + 1)) m).2 = (tk st (zs.take k) m).2 := by
  rw [take_zat (by omega), tk_snoc]
  unfold tkStep
  rw [if_neg h]
  refine ⟨?_, rfl⟩
  rw [List.drop_eq_getElem_cons (by omega), ← zat_eq (by omega)]
  simp
theorem zat_tk (st : Int) (zs : List Int) (n k m : Nat) (hl : zs.length = n) (hk : k < n) : zat ((tk st (zs.take k) m).1 ++ zs.drop k) k = zat zs k := by
  unfold zat
  rw [List.getD_eq_getElem?_getD, List.getElem?_append_right (by rw [tk_len]; simp; omega), tk_len]
  have : k - (zs.take k).length = 0 := by simp; omega
  rw [this]
  simp
def takeOk (zs : List Int) (st n : Int) : Bool := zs.all (fun z => inB z 0 9) && !decide (0 ≤ findI st zs) && decide (zs.length = 16) && inB st 1 9 && inB n 1 (zs.count 0 : Nat)
def takeL (zs : List Int) (st n : Int) : List Int := if takeOk zs st n then (tk st zs n.toNat).1 else zs
theorem takeL_len (zs : List Int) (st n : Int) : (takeL zs st n).length = zs.length := by unfold takeL; split; exact tk_len _ _ _; rfl
theorem takeL_no {zs : List Int} {st n : Int} (h : takeOk zs st n = false) : takeL zs st n = zs := by simp [takeL, h]

theorem slotsOk_v (A : Option Addr) (n c B : Nat) (zs : List Int) (w : World) (h : RI w B A n zs) (hn : n ≤ 4294967296) {v : Bool} (hv : (decide (n = 16) && zs.all (fun z => inB z 0 9)) = v) :
    Calls Try.prog 42 #[.slice A n c] w fun e w' => e = .returned (.bool v) ∧ w = w' := by
  subst hv; exact slotsOk_any A n c B zs w h hn
set_option maxHeartbeats 1000000 in
theorem takeSlots_i (A : Option Addr) (n c B : Nat) (zs : List Int) (st m : Int) (w : World) (h : RI w B A n zs) (hB : B ≤ w.heap.size) (hn : n ≤ 4294967296) :
    Calls Try.prog 26 #[.slice A n c, .int .i64 st, .int .i64 m] w (RetOwnBool w (takeL zs st m) (takeOk zs st m)) := by
  have hl := Lib.hid h.len
  cases h1 : (decide (n = 16) && zs.all (fun z => inB z 0 9))
  · have HK : takeOk zs st m = false := by
      have := hl.out
      simp only [takeOk, this]
      cases hx : zs.all (fun z => inB z 0 9)
      · simp
      · rw [hx, Bool.and_true] at h1; rw [h1]; simp
    have HK1 := Lib.hid HK
    have HK2 := Lib.hid (takeL_no HK)
    clear HK
    go_enter Try.func26, Try.ntmps26
    go_wp2_with (first | (go_at_call 41; refine (clone_any _ _ _ _ _ _ h hB hn).mono ?_; rintro e w1 ⟨A1, n1, c1, rfl, ho1, hb1⟩) | (go_at_call 42; refine (slotsOk_v _ _ _ _ zs _ (h.below hb1 hB) hn h1).mono ?_; rintro e w1 ⟨rfl, rfl⟩))
    go_ret2
    rw [HK1.out, HK2.out]
    exact ⟨_, _, _, rfl, ho1, hb1⟩
  · have h1a : n = 16 := by simpa using (Bool.and_eq_true_iff.1 h1).1
    have h1b := Lib.hid (Bool.and_eq_true_iff.1 h1).2
    subst h1a
    cases h2 : inB st 1 9
    · have HK : takeOk zs st m = false := by simp [takeOk, h2]
      have HK1 := Lib.hid HK
      have HK2 := Lib.hid (takeL_no HK)
      clear HK
      go_enter Try.func26, Try.ntmps26
      go_wp2_with (first | (go_at_call 41; refine (clone_any _ _ _ _ _ _ h hB hn).mono ?_; rintro e w1 ⟨A1, n1, c1, rfl, ho1, hb1⟩) | (go_at_call 42; refine (slotsOk_v _ _ _ _ zs _ (h.below hb1 hB) hn h1).mono ?_; rintro e w1 ⟨rfl, rfl⟩) | (go_at_call 40; refine (within_any _ _ _ _).mono ?_; rintro e w1 ⟨rfl, rfl⟩))
      go_ret2
      rw [HK1.out, HK2.out]
      exact ⟨_, _, _, rfl, ho1, hb1⟩
    · cases h3 : decide (0 ≤ findI st zs)
      · cases h4 : inB m 1 16
        · have HK : takeOk zs st m = false := by
            have hc : zs.count 0 ≤ 16 := by have := hl.out; have := List.count_le_length (a := (0 : Int)) (l := zs); omega
            have : inB m 1 ((zs.count 0 : Nat) : Int) = false := by rw [inB_f]; have := inB_f.1 h4; omega
            simp only [takeOk, this]; simp
          have HK1 := Lib.hid HK
          have HK2 := Lib.hid (takeL_no HK)
          clear HK
          go_enter Try.func26, Try.ntmps26
          go_wp2_with (first | (go_at_call 41; refine (clone_any _ _ _ _ _ _ h hB hn).mono ?_; rintro e w1 ⟨A1, n1, c1, rfl, ho1, hb1⟩) | (go_at_call 42; refine (slotsOk_v _ _ _ _ zs _ (h.below hb1 hB) hn h1).mono ?_; rintro e w1 ⟨rfl, rfl⟩) | (go_at_call 40; refine (within_any _ _ _ _).mono ?_; rintro e w1 ⟨rfl, rfl⟩) | (go_at_call 43; refine (contains_any _ _ _ _ _ zs _ (h.below hb1 hB) hn).mono ?_; rintro e w1 ⟨rfl, rfl⟩))
          go_ret2
          rw [HK1.out, HK2.out]
          exact ⟨_, _, _, rfl, ho1, hb1⟩
        · obtain ⟨m, rfl⟩ := Int.eq_ofNat_of_zero_le (show 0 ≤ m by have := inB_t.1 h4; omega)
          have b4 := inB_t.1 h4
          have HK := Lib.hid (show takeOk zs st (m : Int) = decide (m ≤ zs.count 0) by
            have e1 : inB (m : Int) 1 ((zs.count 0 : Nat) : Int) = decide (m ≤ zs.count 0) := by
              by_cases hx : m ≤ zs.count 0
              · rw [inB_t.2 (by omega)]; simp [hx]
              · rw [inB_f.2 (by omega)]; simp [hx]
            have := hl.out
            simp only [takeOk, h1b.out, h3, h2, this, e1]; simp)
          go_enter Try.func26, Try.ntmps26
          go_wp2_with (first | (go_at_call 41; refine (clone_any _ _ _ _ _ _ h hB hn).mono ?_; rintro e w1 ⟨A1, n1, c1, rfl, ho1, hb1⟩; obtain rfl : n1 = 16 := ho1.len.symm.trans hl.out) | (go_at_call 42; refine (slotsOk_v _ _ _ _ zs _ (h.below hb1 hB) hn h1).mono ?_; rintro e w1 ⟨rfl, rfl⟩) | (go_at_call 40; refine (within_any _ _ _ _).mono ?_; rintro e w1 ⟨rfl, rfl⟩) | (go_at_call 43; refine (contains_any _ _ _ _ _ zs _ (h.below hb1 hB) hn).mono ?_; rintro e w1 ⟨rfl, rfl⟩))
          go_loopw [2, 34] (fun x i wr => ∃ k : Nat, k ≤ 16 ∧ i = .int .i64 k ∧ ∃ r : Nat, x = .int .i64 r ∧ Hid (r = (tk st (zs.take k) m).2) ∧ r ≤ 16 ∧ Own wr w.heap.size w1.heap.size A1 16 c1 ((tk st (zs.take k) m).1 ++ zs.drop k) ∧ Below w.heap.size w wr) (fun _ i _ => 16 - (intOf i).toNat)
          case atStart => exact ⟨0, Nat.zero_le _, rfl, m, rfl, Lib.hid (by simp [tk]), by omega, by simpa [tk] using ho1, hb1⟩
          case round =>
            obtain ⟨k, hk, rfl, r, rfl, hr, hr16, hown, hbel⟩ := hrel
            by_cases hlt : k < 16
            · obtain ⟨g, rfl, hg1, hg2, ho, hf⟩ := hown.cell hlt
              rw [zat_tk st zs 16 k m hl.out hlt] at ho
              by_cases he : zat zs k = 0
              · have hv : (zat zs k == 0) = true := by simp [he]
                by_cases hp : 0 < r
                · have T := tk_set st zs 16 k m hl.out hlt he (by rw [← hr.out]; exact hp)
                  have R := hown.set k st
                  rw [T.1] at R
                  have HR := Lib.hid (show r - 1 = (tk st (zs.take (k + 1)) m).2 by rw [T.2, ← hr.out])
                  have RB' := hbel.setCell (p := ⟨g, k, none⟩) hg1 (.int .i64 st)
                  clear hown hbel he ho1 hb1 T
                  go_wp2
                  go_roundw
                  case rel => exact ⟨k + 1, by omega, by go_num, r - 1, by go_num, HR, by omega, R, RB'⟩
                  case measure => simp [intOf]; omega
                · have T := tk_same st zs 16 k m hl.out hlt (by rw [← hr.out]; omega)
                  have R := hown
                  rw [T.1] at R
                  have HR := Lib.hid (show r = (tk st (zs.take (k + 1)) m).2 by rw [T.2, ← hr.out])
                  have hp' : decide ((0 : Int) < (r : Int)) = false := by simp; omega
                  clear hown he ho1 hb1 T
                  go_wp2
                  go_roundw
                  case rel => exact ⟨k + 1, by omega, by go_num, r, rfl, HR, by omega, R, hbel⟩
                  case measure => simp [intOf]; omega
              · have hv : (zat zs k == 0) = false := by simp [he]
                have T := tk_same st zs 16 k m hl.out hlt (fun hx => he hx.1)
                have R := hown
                rw [T.1] at R
                have HR := Lib.hid (show r = (tk st (zs.take (k + 1)) m).2 by rw [T.2, ← hr.out])
                clear hown he ho1 hb1 T
                go_wp2
                go_roundw
                case rel => exact ⟨k + 1, by omega, by go_num, r, rfl, HR, by omega, R, hbel⟩
                case measure => simp [intOf]; omega
            · obtain rfl : k = 16 := by omega
              have R := hown.top
              rw [List.drop_eq_nil_of_le (by have := hl.out; omega), List.append_nil, List.take_of_length_le (by have := hl.out; omega)] at R
              have hr2 := hr.out
              rw [List.take_of_length_le (by have := hl.out; omega), tk_rem] at hr2
              have HR2 := Lib.hid hr2
              clear hr2 hr hown ho1 hb1
              by_cases hp : 0 < r
              · have HKF := Lib.hid (show takeOk zs st (m : Int) = false by rw [HK.out]; have := HR2.out; simp; omega)
                go_wp2_with (go_at_call 41; refine (clone_any _ _ _ _ zs _ (h.below hbel hB) (by have := hbel.size; omega) hn).mono ?_; rintro e w2 ⟨A2, n2, c2, rfl, ho2, hb2⟩)
                go_ret2
                rw [takeL_no HKF.out, HKF.out]
                exact ⟨_, _, _, rfl, ho2.mono hbel.size (Nat.le_refl _), bthen hbel hb2 hbel.size⟩
              · have HKT := Lib.hid (show takeOk zs st (m : Int) = true by rw [HK.out]; have := HR2.out; simp; omega)
                go_wp2
                go_ret2
                rw [takeL, HKT.out]
                exact ⟨_, _, _, rfl, R, hbel⟩
      · have HK : takeOk zs st m = false := by simp only [takeOk, h3]; simp
        have HK1 := Lib.hid HK
        have HK2 := Lib.hid (takeL_no HK)
        clear HK
        go_enter Try.func26, Try.ntmps26
        go_wp2_with (first | (go_at_call 41; refine (clone_any _ _ _ _ _ _ h hB hn).mono ?_; rintro e w1 ⟨A1, n1, c1, rfl, ho1, hb1⟩) | (go_at_call 42; refine (slotsOk_v _ _ _ _ zs _ (h.below hb1 hB) hn h1).mono ?_; rintro e w1 ⟨rfl, rfl⟩) | (go_at_call 40; refine (within_any _ _ _ _).mono ?_; rintro e w1 ⟨rfl, rfl⟩) | (go_at_call 43; refine (contains_any _ _ _ _ _ zs _ (h.below hb1 hB) hn).mono ?_; rintro e w1 ⟨rfl, rfl⟩))
        go_ret2
        rw [HK1.out, HK2.out]
        exact ⟨_, _, _, rfl, ho1, hb1⟩
theorem take_bad {zs : List Int} {st m : Int} {k : Nat} (hk : k < zs.length) (h : inB (zat zs k) 0 9 = false ∨ zat zs k = st) : takeOk zs st m = false := by
  rcases h with h | h
  · have := all_false (p := fun z => inB z 0 9) hk h
    simp only [takeOk, this]; simp
  · have : decide (0 ≤ findI st zs) = true := by
      simp only [decide_eq_true_eq]
      by_cases hx : ∃ i, i < zs.length ∧ zat zs i = st ∧ ∀ j, j < i → zat zs j ≠ st
      · obtain ⟨i, h1, h2, h3⟩ := hx
        rw [findI_some h1 h2 h3]; omega
      · exfalso
        have key : ∀ i, ∀ j, j < i → j < zs.length → zat zs j ≠ st := by
          intro i
          induction i with
          | zero => intro j hj; omega
          | succ i ih =>
            intro j hj hjl
            rcases Nat.lt_succ_iff_lt_or_eq.1 hj with h1 | h1
            · exact ih j h1 hjl
            · subst h1
              intro he
              exact hx ⟨j, hjl, he, fun t ht => ih t ht (by omega)⟩
        exact key (k + 1) k (by omega) hk h
    simp only [takeOk, this]; simp
theorem take_good {zs : List Int} {st m : Int} (h : ∀ j, j < zs.length → inB (zat zs j) 0 9 = true ∧ zat zs j ≠ st) : takeOk zs st m = (decide (zs.length = 16) && inB st 1 9 && inB m 1 (zs.count 0 : Nat)) := by
  have h1 := all_true (p := fun z => inB z 0 9) (fun j hj => (h j hj).1)
  have h2 := findI_none (zs := zs) (fun j hj => (h j hj).2)
  simp only [takeOk, h1, h2]; simp
theorem count_take {zs : List Int} {k : Nat} (hk : k < zs.length) : (zs.take (k + 1)).count 0 = (zs.take k).count 0 + if zat zs k = 0 then 1 else 0 := by
  rw [take_zat hk, List.count_append, List.count_cons]
  simp
set_option maxHeartbeats 1000000 in
theorem takeSlots_s (A : Option Addr) (n c B : Nat) (zs : List Int) (st m : Int) (w : World) (h : RI w B A n zs) (hB : B ≤ w.heap.size) (hn : n ≤ 4294967296) :
    Calls Try.prog 35 #[.slice A n c, .int .i64 st, .int .i64 m] w (RetOwnBool w (takeL zs st m) (takeOk zs st m)) := by
  have hl := Lib.hid h.len
  have HL := own_lit0 w
  have HR : RI (w.alloc (.cells #[] 3)) B A n zs := RV.alloc h hB _
  go_enter Try.func35, Try.ntmps35
  go_wp2_with (at_builtin; refine wpList_append_ints rfl _ _ _ rfl Try.underlying22 infoInt _ _ _ _ _ _ rfl HL _ _ _ _ _ rfl HR (by omega) (by simp) ?_; intro A1 c1 w1 ho1 hoff1 hbel1; rw [Nat.zero_add, List.nil_append] at ho1)
  have hb1 : Below w.heap.size w w1 := ((Below.refl _ _).alloc (Nat.le_refl _) _).trans hbel1
  have h1 := h.below hb1 hB
  clear HL HR hoff1 hbel1 h
  go_loop [9, 10] (fun f i => ∃ k : Nat, k ≤ n ∧ i = .int .i64 k ∧ ∃ t : Nat, f = .int .i64 t ∧ Hid (t = (zs.take k).count 0) ∧ t ≤ k ∧ Hid (∀ j, j < k → inB (zat zs j) 0 9 = true ∧ zat zs j ≠ st)) (fun _ i => n - (intOf i).toNat)
  case atStart => exact ⟨0, Nat.zero_le _, rfl, 0, rfl, Lib.hid (by simp), by omega, Lib.hid (fun j hj => absurd hj (by omega))⟩
  case round =>
    obtain ⟨k, hk, rfl, t, rfl, ht, htk, hall⟩ := hrel
    by_cases hlt : k < n
    · obtain ⟨b, off, rfl, hb', hc⟩ := h1.at_ hlt
      have hkl : k < zs.length := by have := hl.out; omega
      cases hin : inB (zat zs k) 0 9
      · have HK := take_bad (m := m) hkl (.inl hin : inB (zat zs k) 0 9 = false ∨ zat zs k = st)
        have HK1 := Lib.hid HK
        have HK2 := Lib.hid (takeL_no HK)
        clear HK
        go_wp2_with (go_at_call 37; refine (l01In_any _ _ _ _).mono ?_; rintro e w1 ⟨rfl, rfl⟩)
        go_ret2
        rw [HK1.out, HK2.out]
        exact ⟨_, _, _, rfl, ho1, hb1⟩
      · by_cases hst : zat zs k = st
        · have HK := take_bad (m := m) hkl (.inr hst : inB (zat zs k) 0 9 = false ∨ zat zs k = st)
          have HK1 := Lib.hid HK
          have HK2 := Lib.hid (takeL_no HK)
          have hv : (zat zs k == st) = true := by simp [hst]
          clear HK hst
          go_wp2_with (go_at_call 37; refine (l01In_any _ _ _ _).mono ?_; rintro e w1 ⟨rfl, rfl⟩)
          go_ret2
          rw [HK1.out, HK2.out]
          exact ⟨_, _, _, rfl, ho1, hb1⟩
        · have hv : (zat zs k == st) = false := by simp [hst]
          have HA := Lib.hid (fun j (hj : j < k + 1) => show inB (zat zs j) 0 9 = true ∧ zat zs j ≠ st by
            rcases Nat.lt_succ_iff_lt_or_eq.1 hj with h1 | h1
            · exact hall.out j h1
            · subst h1; exact ⟨hin, hst⟩)
          have HC := Lib.hid (count_take hkl)
          clear hst
          by_cases hz : zat zs k = 0
          · have hz' : (zat zs k == 0) = true := by simp [hz]
            have HC2 := Lib.hid (show t + 1 = (zs.take (k + 1)).count 0 by rw [HC.out, if_pos hz, ← ht.out])
            clear hz
            go_wp2_with (go_at_call 37; refine (l01In_any _ _ _ _).mono ?_; rintro e w1 ⟨rfl, rfl⟩)
            go_round
            case rel => exact ⟨k + 1, by omega, by go_num, t + 1, by go_num, HC2, by omega, HA⟩
            case measure => simp [intOf]; omega
          · have hz' : (zat zs k == 0) = false := by simp [hz]
            have HC2 := Lib.hid (show t = (zs.take (k + 1)).count 0 by rw [HC.out, if_neg hz, ← ht.out]; rfl)
            clear hz
            go_wp2_with (go_at_call 37; refine (l01In_any _ _ _ _).mono ?_; rintro e w1 ⟨rfl, rfl⟩)
            go_round
            case rel => exact ⟨k + 1, by omega, by go_num, t, rfl, HC2, by omega, HA⟩
            case measure => simp [intOf]; omega
    · obtain rfl : k = n := by omega
      have HT := Lib.hid (show t = zs.count 0 by have := ht.out; rwa [List.take_of_length_le (by have := hl.out; omega)] at this)
      have HG := Lib.hid (take_good (zs := zs) (st := st) (m := m) (fun j hj => hall.out j (by have := hl.out; omega)))
      by_cases h16 : k = 16
      · subst h16
        cases h2 : inB st 1 9
        · have HK : takeOk zs st m = false := by rw [HG.out, h2]; simp
          have HK1 := Lib.hid HK
          have HK2 := Lib.hid (takeL_no HK)
          clear HK
          go_wp2_with (go_at_call 37; refine (l01In_any _ _ _ _).mono ?_; rintro e w1 ⟨rfl, rfl⟩)
          go_ret2
          rw [HK1.out, HK2.out]
          exact ⟨_, _, _, rfl, ho1, hb1⟩
        · cases h3 : inB m 1 (t : Int)
          · have HK : takeOk zs st m = false := by rw [HG.out, ← HT.out, h3]; simp
            have HK1 := Lib.hid HK
            have HK2 := Lib.hid (takeL_no HK)
            clear HK
            go_wp2_with (go_at_call 37; refine (l01In_any _ _ _ _).mono ?_; rintro e w1 ⟨rfl, rfl⟩)
            go_ret2
            rw [HK1.out, HK2.out]
            exact ⟨_, _, _, rfl, ho1, hb1⟩
          · have b3 := inB_t.1 h3
            obtain ⟨m, rfl⟩ := Int.eq_ofNat_of_zero_le (show 0 ≤ m by omega)
            have HKT := Lib.hid (show takeOk zs st (m : Int) = true by rw [HG.out, ← HT.out, h3, h2]; have := hl.out; simp [this])
            go_wp2_with (go_at_call 37; refine (l01In_any _ _ _ _).mono ?_; rintro e w1 ⟨rfl, rfl⟩)
            clear HG hall ht HT h1
            go_loopw [2, 11] (fun x i wr => ∃ k : Nat, k ≤ 16 ∧ i = .int .i64 k ∧ ∃ r : Nat, x = .int .i64 r ∧ Hid (r = (tk st (zs.take k) m).2) ∧ r ≤ 16 ∧ Own wr w.heap.size w1.heap.size A1 16 c1 ((tk st (zs.take k) m).1 ++ zs.drop k) ∧ Below w.heap.size w wr) (fun _ i _ => 16 - (intOf i).toNat)
            case atStart => exact ⟨0, Nat.zero_le _, rfl, m, rfl, Lib.hid (by simp [tk]), by omega, by simpa [tk] using ho1, hb1⟩
            case round =>
              obtain ⟨k, hk, rfl, r, rfl, hr, hr16, hown, hbel⟩ := hrel
              by_cases hp : 0 < r
              · by_cases hlt : k < 16
                · obtain ⟨g, rfl, hg1, hg2, ho, hf⟩ := hown.cell hlt
                  rw [zat_tk st zs 16 k m hl.out hlt] at ho
                  by_cases he : zat zs k = 0
                  · have hv : (zat zs k == 0) = true := by simp [he]
                    have T := tk_set st zs 16 k m hl.out hlt he (by rw [← hr.out]; exact hp)
                    have R := hown.set k st
                    rw [T.1] at R
                    have HR := Lib.hid (show r - 1 = (tk st (zs.take (k + 1)) m).2 by rw [T.2, ← hr.out])
                    have RB' := hbel.setCell (p := ⟨g, k, none⟩) hg1 (.int .i64 st)
                    clear hown hbel he ho1 hb1 T
                    go_wp2
                    go_roundw
                    case rel => exact ⟨k + 1, by omega, by go_num, r - 1, by go_num, HR, by omega, R, RB'⟩
                    case measure => simp [intOf]; omega
                  · have hv : (zat zs k == 0) = false := by simp [he]
                    have T := tk_same st zs 16 k m hl.out hlt (fun hx => he hx.1)
                    have R := hown
                    rw [T.1] at R
                    have HR := Lib.hid (show r = (tk st (zs.take (k + 1)) m).2 by rw [T.2, ← hr.out])
                    clear hown he ho1 hb1 T
                    go_wp2
                    go_roundw
                    case rel => exact ⟨k + 1, by omega, by go_num, r, rfl, HR, by omega, R, hbel⟩
                    case measure => simp [intOf]; omega
                · obtain rfl : k = 16 := by omega
                  have R := hown.top
                  rw [List.drop_eq_nil_of_le (by have := hl.out; omega), List.append_nil, List.take_of_length_le (by have := hl.out; omega)] at R
                  clear hown ho1 hb1
                  go_wp2
                  go_ret2
                  rw [takeL, HKT.out]
                  exact ⟨_, _, _, rfl, R, hbel⟩
              · have R := hown.top
                rw [← tk_stop st zs m k (by rw [← hr.out]; omega)] at R
                have hp' : decide ((0 : Int) < (r : Int)) = false := by simp; omega
                clear hown ho1 hb1
                by_cases hlt : k < 16
                all_goals
                  go_wp2
                  go_ret2
                  rw [takeL, HKT.out]
                  exact ⟨_, _, _, rfl, R, hbel⟩
      · have HK : takeOk zs st m = false := by rw [HG.out]; have := hl.out; simp; omega
        have HK1 := Lib.hid HK
        have HK2 := Lib.hid (takeL_no HK)
        have hne : ((k : Int) != 16) = true := by simp; omega
        clear HK
        go_wp2_with (go_at_call 37; refine (l01In_any _ _ _ _).mono ?_; rintro e w1 ⟨rfl, rfl⟩)
        go_ret2
        rw [HK1.out, HK2.out]
        exact ⟨_, _, _, rfl, ho1, hb1⟩
end Go.Proofs.Ytnagphedlmbagaa
