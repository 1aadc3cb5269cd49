/- Contracts: StartOf, LongestZeros, ScrambleAfter, FreeSlots, Scramble, program and reference: both return the same plain function. -/
import Derived.Test.YtnagphedlmbagaaSl
import Derived.Test.YtnagphedlmbagaaNum2
namespace Go.Proofs.Ytnagphedlmbagaa
open Go.RowKit Go.Deep

/-! ### StartOf -/
theorem startOf_i (A : Option Addr) (n c B : Nat) (zs : List Int) (w : World) (h : RI w B A n zs) (hn : n ≤ 4294967296) :
    Calls Try.prog 14 #[.slice A n c] w fun e w' => e = .returned (.int .i64 (findI 24 zs)) ∧ w = w' := by
  go_enter Try.func14, Try.ntmps14
  go_wp2_with (go_at_call 36; refine (index_any _ _ _ _ _ _ _ h hn).mono ?_; rintro e w' ⟨rfl, rfl⟩)
  go_ret
  exact ⟨rfl, rfl⟩
theorem startOf_s (A : Option Addr) (n c B : Nat) (zs : List Int) (w : World) (h : RI w B A n zs) (hn : n ≤ 4294967296) :
    Calls Try.prog 12 #[.slice A n c] w fun e w' => e = .returned (.int .i64 (findI 24 zs)) ∧ w = w' := by
  have hl := Lib.hid h.len
  go_enter Try.func12, Try.ntmps12
  go_wp2
  go_loop [3] (fun i => ∃ k : Nat, k ≤ n ∧ i = .int .i64 k ∧ Hid (∀ j, j < k → zat zs j ≠ 24)) (fun i => n - (intOf i).toNat)
  case atStart => exact ⟨0, Nat.zero_le _, rfl, Lib.hid (fun j hj => absurd hj (by omega))⟩
  case round =>
    obtain ⟨k, hk, rfl, hne⟩ := hrel
    by_cases hlt : k < n
    · obtain ⟨b, off, rfl, hb, hc⟩ := h.at_ hlt
      by_cases he : zat zs k = 24
      · have HF := Lib.hid (findI_some (show k < zs.length by have := hl.out; omega) he hne.out)
        have hv : (zat zs k == 24) = true := by simp [he]
        clear he
        go_wp2
        go_ret
        exact ⟨ret_int HF.out.symm, rfl⟩
      · have HS := Lib.hid (ne_step hne.out he)
        have hv : (zat zs k == 24) = false := by simp [he]
        clear he
        go_wp2
        go_round
        case rel => exact ⟨k + 1, by omega, by go_num, HS⟩
        case measure => simp [intOf]; omega
    · obtain rfl : k = n := by omega
      have HF := Lib.hid (findI_none (zs := zs) (fun j hj => hne.out j (by have := hl.out; omega)))
      go_wp2
      go_ret
      exact ⟨ret_int HF.out.symm, rfl⟩

/-! ### LongestZeros -/
def lzStep (p : Int × Int) (z : Int) : Int × Int := if z = 0 then ((if p.1 < p.2 + 1 then p.2 + 1 else p.1), p.2 + 1) else (p.1, 0)
def lz (zs : List Int) : Int × Int := zs.foldl lzStep (0, 0)
theorem lz_snoc (zs : List Int) (z : Int) : lz (zs ++ [z]) = lzStep (lz zs) z := by simp [lz]
theorem longestZeros_i (A : Option Addr) (n c B : Nat) (zs : List Int) (w : World) (h : RI w B A n zs) (hn : n ≤ 4294967296) :
    Calls Try.prog 17 #[.slice A n c] w fun e w' => e = .returned (.int .i64 (lz zs).1) ∧ w = w' := by
  have hl := Lib.hid h.len
  go_enter Try.func17, Try.ntmps17
  go_wp2
  go_loop [3, 4, 9] (fun b r i => ∃ k : Nat, k ≤ n ∧ i = .int .i64 k ∧ ∃ x y : Int, b = .int .i64 x ∧ r = .int .i64 y ∧ Hid ((x, y) = lz (zs.take k)) ∧ 0 ≤ x ∧ x ≤ k ∧ 0 ≤ y ∧ y ≤ k) (fun _ _ i => n - (intOf i).toNat)
  case atStart => exact ⟨0, Nat.zero_le _, rfl, 0, 0, rfl, rfl, Lib.hid (by simp [lz]), by omega, by omega, by omega, by omega⟩
  case round =>
    obtain ⟨k, hk, rfl, x, y, rfl, rfl, he, h1, h2, h3, h4⟩ := hrel
    by_cases hlt : k < n
    · obtain ⟨b, off, rfl, hb, hc⟩ := h.at_ hlt
      have HS := Lib.hid (show lz (zs.take (k + 1)) = lzStep (x, y) (zat zs k) by rw [take_zat (by have := hl.out; omega), lz_snoc, he.out])
      by_cases hz : zat zs k = 0
      · have HS2 := Lib.hid (show ((if x < y + 1 then y + 1 else x), y + 1) = lz (zs.take (k + 1)) by rw [HS.out]; simp [lzStep, hz])
        have hv : (zat zs k != 0) = false := by simp [hz]
        clear hz HS he
        go_wp2
        go_round
        case rel => exact ⟨k + 1, by omega, by go_num, _, _, rfl, rfl, HS2, by split <;> omega, by split <;> omega, by omega, by omega⟩
        case measure => simp [intOf]; omega
      · have HS2 := Lib.hid (show (x, (0 : Int)) = lz (zs.take (k + 1)) by rw [HS.out]; simp [lzStep, hz])
        have hv : (zat zs k != 0) = true := by simp [hz]
        clear hz HS he
        go_wp2
        go_round
        case rel => exact ⟨k + 1, by omega, by go_num, _, _, rfl, rfl, HS2, by omega, by omega, by omega, by omega⟩
        case measure => simp [intOf]; omega
    · obtain rfl : k = n := by omega
      go_wp2
      go_ret
      exact ⟨ret_int (by have := he.out; rw [List.take_of_length_le (by have := hl.out; omega)] at this; rw [← this]), rfl⟩
theorem longestZeros_s (A : Option Addr) (n c B : Nat) (zs : List Int) (w : World) (h : RI w B A n zs) (hn : n ≤ 4294967296) :
    Calls Try.prog 16 #[.slice A n c] w fun e w' => e = .returned (.int .i64 (lz zs).1) ∧ w = w' := by
  have hl := Lib.hid h.len
  go_enter Try.func16, Try.ntmps16
  go_wp2
  go_loop [3, 4, 5] (fun b r i => ∃ k : Nat, k ≤ n ∧ i = .int .i64 k ∧ ∃ x y : Int, b = .int .i64 x ∧ r = .int .i64 y ∧ Hid ((x, y) = lz (zs.take k)) ∧ 0 ≤ x ∧ x ≤ k ∧ 0 ≤ y ∧ y ≤ k) (fun _ _ i => n - (intOf i).toNat)
  case atStart => exact ⟨0, Nat.zero_le _, rfl, 0, 0, rfl, rfl, Lib.hid (by simp [lz]), by omega, by omega, by omega, by omega⟩
  case round =>
    obtain ⟨k, hk, rfl, x, y, rfl, rfl, he, h1, h2, h3, h4⟩ := hrel
    by_cases hlt : k < n
    · obtain ⟨b, off, rfl, hb, hc⟩ := h.at_ hlt
      have HS := Lib.hid (show lz (zs.take (k + 1)) = lzStep (x, y) (zat zs k) by rw [take_zat (by have := hl.out; omega), lz_snoc, he.out])
      by_cases hz : zat zs k = 0
      · have HS2 := Lib.hid (show ((if x < y + 1 then y + 1 else x), y + 1) = lz (zs.take (k + 1)) by rw [HS.out]; simp [lzStep, hz])
        have hv : (zat zs k != 0) = false := by simp [hz]
        clear hz HS he
        go_wp2
        go_round
        case rel => exact ⟨k + 1, by omega, by go_num, _, _, rfl, rfl, HS2, by split <;> omega, by split <;> omega, by omega, by omega⟩
        case measure => simp [intOf]; omega
      · have HS2 := Lib.hid (show (x, (0 : Int)) = lz (zs.take (k + 1)) by rw [HS.out]; simp [lzStep, hz])
        have hv : (zat zs k != 0) = true := by simp [hz]
        clear hz HS he
        go_wp2
        go_round
        case rel => exact ⟨k + 1, by omega, by go_num, _, _, rfl, rfl, HS2, by omega, by omega, by omega, by omega⟩
        case measure => simp [intOf]; omega
    · obtain rfl : k = n := by omega
      go_wp2
      go_ret
      exact ⟨ret_int (by have := he.out; rw [List.take_of_length_le (by have := hl.out; omega)] at this; rw [← this]), rfl⟩

/-! ### ScrambleAfter -/
def saF (a b : Int) : Int := if inB a 1 65535 && inB b 0 1000000 then ((itN nx4 b.toNat a.toNat : Nat) : Int) else 0
theorem it_nx4 (s : Nat) (h1 : 1 ≤ s) (h2 : s ≤ 65535) : ∀ k, 1 ≤ itN nx4 k s ∧ itN nx4 k s ≤ 65535
  | 0 => ⟨h1, h2⟩
  | k + 1 => by
    have h := it_nx4 s h1 h2 k
    exact ⟨nx4_pos _ h.1 (by omega), by have := nx4_lt (itN nx4 k s); show nx4 (itN nx4 k s) ≤ _; omega⟩
theorem scrambleAfter_i (a b : Int) (w : World) :
    Calls Try.prog 19 #[.int .i64 a, .int .i64 b] w fun e w' => e = .returned (.int .i64 (saF a b)) ∧ w = w' := by
  cases h1 : inB a 1 65535
  · go_enter Try.func19, Try.ntmps19
    go_wp2_with (first | (go_at_call 40; refine (within_any _ _ _ _).mono ?_; rintro e w1 ⟨rfl, rfl⟩) | (go_at_call 39; refine (isScramble_any _ _).mono ?_; rintro e w1 ⟨rfl, rfl⟩))
    go_ret
    exact ⟨ret_int (by simp [saF, h1]), rfl⟩
  · cases h2 : inB b 0 1000000
    · go_enter Try.func19, Try.ntmps19
      go_wp2_with (first | (go_at_call 40; refine (within_any _ _ _ _).mono ?_; rintro e w1 ⟨rfl, rfl⟩) | (go_at_call 39; refine (isScramble_any _ _).mono ?_; rintro e w1 ⟨rfl, rfl⟩))
      go_ret
      exact ⟨ret_int (by simp [saF, h2]), rfl⟩
    · obtain ⟨s, rfl⟩ := Int.eq_ofNat_of_zero_le (show 0 ≤ a by have := inB_t.1 h1; omega)
      obtain ⟨n, rfl⟩ := Int.eq_ofNat_of_zero_le (show 0 ≤ b by have := inB_t.1 h2; omega)
      have b1 := inB_t.1 h1
      have b2 := inB_t.1 h2
      have HF := Lib.hid (show saF (s : Int) (n : Int) = ((itN nx4 n s : Nat) : Int) by simp [saF, h1, h2])
      have HI := Lib.hid (it_nx4 s (by omega) (by omega))
      go_enter Try.func19, Try.ntmps19
      go_wp2_with (first | (go_at_call 40; refine (within_any _ _ _ _).mono ?_; rintro e w1 ⟨rfl, rfl⟩) | (go_at_call 39; refine (isScramble_any _ _).mono ?_; rintro e w1 ⟨rfl, rfl⟩))
      go_loop [0, 14] (fun x i => ∃ k : Nat, k ≤ n ∧ i = .int .i64 k ∧ ∃ t : Nat, x = .int .i64 t ∧ Hid (t = itN nx4 k s)) (fun _ i => n - (intOf i).toNat)
      case atStart => exact ⟨0, Nat.zero_le _, rfl, s, rfl, Lib.hid rfl⟩
      case round =>
        obtain ⟨k, hk, rfl, t, rfl, ht⟩ := hrel
        have hb := HI.out k
        rw [← ht.out] at hb
        by_cases hlt : k < n
        · go_wp2_with (go_at_call 34; refine (nextScramble_in t _ hb.1 hb.2).mono ?_; rintro e w1 ⟨rfl, rfl⟩)
          go_round
          case rel => exact ⟨k + 1, by omega, by go_num, nx4 t, rfl, Lib.hid (by rw [ht.out]; rfl)⟩
          case measure => simp [intOf]; omega
        · obtain rfl : k = n := by omega
          go_wp2
          go_ret
          exact ⟨ret_int (by rw [HF.out, ← ht.out]), rfl⟩
theorem scrambleAfter_s (a b : Int) (w : World) :
    Calls Try.prog 18 #[.int .i64 a, .int .i64 b] w fun e w' => e = .returned (.int .i64 (saF a b)) ∧ w = w' := by
  cases h1 : inB a 1 65535
  · go_enter Try.func18, Try.ntmps18
    go_wp2_with (go_at_call 37; refine (l01In_any _ _ _ _).mono ?_; rintro e w1 ⟨rfl, rfl⟩)
    go_ret
    exact ⟨ret_int (by simp [saF, h1]), rfl⟩
  · cases h2 : inB b 0 1000000
    · go_enter Try.func18, Try.ntmps18
      go_wp2_with (go_at_call 37; refine (l01In_any _ _ _ _).mono ?_; rintro e w1 ⟨rfl, rfl⟩)
      go_ret
      exact ⟨ret_int (by simp [saF, h2]), rfl⟩
    · obtain ⟨s, rfl⟩ := Int.eq_ofNat_of_zero_le (show 0 ≤ a by have := inB_t.1 h1; omega)
      obtain ⟨n, rfl⟩ := Int.eq_ofNat_of_zero_le (show 0 ≤ b by have := inB_t.1 h2; omega)
      have b1 := inB_t.1 h1
      have b2 := inB_t.1 h2
      have HF := Lib.hid (show saF (s : Int) (n : Int) = ((itN nx4 n s : Nat) : Int) by simp [saF, h1, h2])
      have HI := Lib.hid (it_nx4 s (by omega) (by omega))
      go_enter Try.func18, Try.ntmps18
      go_wp2_with (go_at_call 37; refine (l01In_any _ _ _ _).mono ?_; rintro e w1 ⟨rfl, rfl⟩)
      go_loop [0, 5] (fun x i => ∃ k : Nat, k ≤ n ∧ i = .int .i64 k ∧ ∃ t : Nat, x = .int .i64 t ∧ Hid (t = itN nx4 k s)) (fun _ i => n - (intOf i).toNat)
      case atStart => exact ⟨0, Nat.zero_le _, rfl, s, rfl, Lib.hid rfl⟩
      case round =>
        obtain ⟨k, hk, rfl, t, rfl, ht⟩ := hrel
        have hb := HI.out k
        rw [← ht.out] at hb
        by_cases hlt : k < n
        · go_wp2_with (go_at_call 38; refine (nextScramble_sn t _ hb.1 hb.2).mono ?_; rintro e w1 ⟨rfl, rfl⟩)
          go_round
          case rel => exact ⟨k + 1, by omega, by go_num, nx4 t, rfl, Lib.hid (by rw [ht.out]; rfl)⟩
          case measure => simp [intOf]; omega
        · obtain rfl : k = n := by omega
          go_wp2
          go_ret
          exact ⟨ret_int (by rw [HF.out, ← ht.out]), rfl⟩

/-! ### FreeSlots -/
def freeF (s : Int) (zs : List Int) : List Int := zs.map fun z => if z = s then 0 else z
theorem freeF_len (s : Int) (zs : List Int) : (freeF s zs).length = zs.length := by simp [freeF]
theorem free_same (zs : List Int) (n k : Nat) (s : Int) (hl : zs.length = n) (hk : k < n) (h : zat zs k ≠ s) : freeF s (zs.take k) ++ zs.drop k = freeF s (zs.take (k + 1)) ++ zs.drop (k + 1) := by
  rw [List.drop_eq_getElem_cons (by omega), take_zat (by omega), freeF, freeF, List.map_append, ← zat_eq (by omega)]
  simp [h]
theorem free_set (zs : List Int) (n k : Nat) (s : Int) (hl : zs.length = n) (hk : k < n) (h : zat zs k = s) : (freeF s (zs.take k) ++ zs.drop k).set k 0 = freeF s (zs.take (k + 1)) ++ zs.drop (k + 1) := by
  rw [List.drop_eq_getElem_cons (by omega), take_zat (by omega), List.set_append_right _ _ (by rw [freeF_len]; simp; omega), freeF_len]
  have : k - (zs.take k).length = 0 := by simp; omega
  rw [this, List.set_cons_zero]
  simp [freeF, h]
theorem zat_free (zs : List Int) (n k : Nat) (s : Int) (hl : zs.length = n) (hk : k < n) : zat (freeF s (zs.take k) ++ zs.drop k) k = zat zs k := by
  unfold zat
  rw [List.getD_eq_getElem?_getD, List.getElem?_append_right (by rw [freeF_len]; simp; omega), freeF_len]
  have : k - (zs.take k).length = 0 := by simp; omega
  rw [this]
  simp
theorem freeSlots_i (A : Option Addr) (n c B : Nat) (zs : List Int) (s : Int) (w : World) (h : RI w B A n zs) (hB : B ≤ w.heap.size) (hn : n ≤ 4294967296) :
    Calls Try.prog 21 #[.slice A n c, .int .i64 s] w (RetOwn w (freeF s zs)) := by
  have hl := Lib.hid h.len
  go_enter Try.func21, Try.ntmps21
  go_wp2_with (go_at_call 41; refine (clone_any _ _ _ _ _ _ h hB hn).mono ?_; rintro e w1 ⟨A1, n1, c1, rfl, ho1, hb1⟩; obtain rfl : n1 = n := ho1.len.symm.trans hl.out)
  go_loopw [12] (fun i wr => ∃ k : Nat, k ≤ n1 ∧ i = .int .i64 k ∧ Own wr w.heap.size w1.heap.size A1 n1 c1 (freeF s (zs.take k) ++ zs.drop k) ∧ Below w.heap.size w wr) (fun i _ => n1 - (intOf i).toNat)
  case atStart => exact ⟨0, Nat.zero_le _, rfl, by simpa [freeF] using ho1, hb1⟩
  case round =>
    obtain ⟨k, hk, rfl, hown, hbel⟩ := hrel
    by_cases hlt : k < n1
    · obtain ⟨b, off, rfl, hb, hc0⟩ := h.at_ hlt
      have hc : wr.cell? ⟨b, off + k, none⟩ = some (.int .i64 (zat zs k)) := (hbel.cell (by show b < _; omega)).trans hc0
      obtain ⟨g, rfl, hg1, hg2, ho, hf⟩ := hown.cell hlt
      by_cases he : zat zs k = s
      · have R := hown.set k 0
        rw [free_set zs n1 k s hl.out hlt he] at R
        have RB' := hbel.setCell (p := ⟨g, k, none⟩) hg1 (.int .i64 0)
        have hv : (zat zs k == s) = true := by simp [he]
        clear hown hbel hc0 he ho1 hb1
        go_wp2
        go_roundw
        case rel => exact ⟨k + 1, by omega, by go_num, R, RB'⟩
        case measure => simp [intOf]; omega
      · have R := hown
        rw [free_same zs n1 k s hl.out hlt he] at R
        have hv : (zat zs k == s) = false := by simp [he]
        clear hown hc0 he ho1 hb1
        go_wp2
        go_roundw
        case rel => exact ⟨k + 1, by omega, by go_num, R, hbel⟩
        case measure => simp [intOf]; omega
    · obtain rfl : k = n1 := by omega
      have R := hown.top
      rw [List.drop_eq_nil_of_le (by have := hl.out; omega), List.append_nil, List.take_of_length_le (by have := hl.out; omega)] at R
      go_wp2
      go_ret
      exact ⟨_, _, _, rfl, R, hbel⟩
theorem freeSlots_s (A : Option Addr) (n c B : Nat) (zs : List Int) (s : Int) (w : World) (h : RI w B A n zs) (hB : B ≤ w.heap.size) (hn : n ≤ 4294967296) :
    Calls Try.prog 20 #[.slice A n c, .int .i64 s] w (RetOwn w (freeF s zs)) := by
  have hl := Lib.hid h.len
  have HL := own_lit0 w
  have HR : RI (w.alloc (.cells #[] 3)) B A n zs := RV.alloc h hB _
  go_enter Try.func20, Try.ntmps20
  go_wp2_with (at_builtin; refine wpList_append_ints rfl _ _ _ rfl Try.underlying22 infoInt _ _ _ _ _ _ rfl HL _ _ _ _ _ rfl HR (by omega) (by simp) ?_; intro A1 c1 w1 ho1 hoff1 hbel1; rw [Nat.zero_add, List.nil_append] at ho1)
  have hb1 : Below w.heap.size w w1 := ((Below.refl _ _).alloc (Nat.le_refl _) _).trans hbel1
  clear HL HR hoff1 hbel1
  go_loopw [6] (fun i wr => ∃ k : Nat, k ≤ n ∧ i = .int .i64 k ∧ Own wr w.heap.size w1.heap.size A1 n c1 (freeF s (zs.take k) ++ zs.drop k) ∧ Below w.heap.size w wr) (fun i _ => n - (intOf i).toNat)
  case atStart => exact ⟨0, Nat.zero_le _, rfl, by simpa [freeF] using ho1, hb1⟩
  case round =>
    obtain ⟨k, hk, rfl, hown, hbel⟩ := hrel
    by_cases hlt : k < n
    · obtain ⟨g, rfl, hg1, hg2, ho, hf⟩ := hown.cell hlt
      rw [zat_free zs n k s hl.out hlt] at ho
      by_cases he : zat zs k = s
      · have R := hown.set k 0
        rw [free_set zs n k s hl.out hlt he] at R
        have RB' := hbel.setCell (p := ⟨g, k, none⟩) hg1 (.int .i64 0)
        have hv : (zat zs k == s) = true := by simp [he]
        clear hown hbel he ho1 hb1
        go_wp2
        go_roundw
        case rel => exact ⟨k + 1, by omega, by go_num, R, RB'⟩
        case measure => simp [intOf]; omega
      · have R := hown
        rw [free_same zs n k s hl.out hlt he] at R
        have hv : (zat zs k == s) = false := by simp [he]
        clear hown he ho1 hb1
        go_wp2
        go_roundw
        case rel => exact ⟨k + 1, by omega, by go_num, R, hbel⟩
        case measure => simp [intOf]; omega
    · obtain rfl : k = n := by omega
      have R := hown.top
      rw [List.drop_eq_nil_of_le (by have := hl.out; omega), List.append_nil, List.take_of_length_le (by have := hl.out; omega)] at R
      go_wp2
      go_ret
      exact ⟨_, _, _, rfl, R, hbel⟩
end Go.Proofs.Ytnagphedlmbagaa
