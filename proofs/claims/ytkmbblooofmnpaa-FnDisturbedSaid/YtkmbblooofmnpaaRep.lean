/- slices.Repeat of one int, slices.Max. -/
import Derived.Test.YtkmbblooofmnpaaSl
import Derived.Test.YtkmbblooofmnpaaBase2
import Derived.Test.YtkmbblooofmnpaaApp3
import Derived.Laws.CopyOwn
namespace Go.Proofs.Ytkmbblooofmnpaa
open Go.RowKit Go.Deep
theorem and_small (c : Nat) (h : c ≤ 9) : bits .and .u64 (c : Int) 4294967295 = c := by
  have : c = 0 ∨ c = 1 ∨ c = 2 ∨ c = 3 ∨ c = 4 ∨ c = 5 ∨ c = 6 ∨ c = 7 ∨ c = 8 ∨ c = 9 := by omega
  rcases this with rfl | rfl | rfl | rfl | rfl | rfl | rfl | rfl | rfl | rfl <;> decide
theorem mul64_one (c : Nat) (h : c ≤ 9) (w : World) :
    Calls Try.prog 93 #[.int .u64 1, .int .u64 c] w fun e w' => e = .returned (.tuple #[.int .u64 0, .int .u64 c]) ∧ w = w' := by
  have e1 : bits .and .u64 1 4294967295 = 1 := by decide
  have e2 := and_small c h
  have e3 : bits .and .u64 0 4294967295 = 0 := by decide
  have e4 : (c : Int) / 4294967296 = 0 := by omega
  go_enter Try.func93, Try.ntmps93
  go_wp2
  go_ret2
  exact ⟨rfl, rfl⟩
theorem mul_one (c : Nat) (h : c ≤ 9) (w : World) :
    Calls Try.prog 88 #[.int .u64 1, .int .u64 c] w fun e w' => e = .returned (.tuple #[.int .u64 0, .int .u64 c]) ∧ w = w' := by
  go_enter Try.func88, Try.ntmps88
  go_wp2_with (go_at_call 93; refine (mul64_one _ h _).mono ?_; rintro e w' ⟨rfl, rfl⟩)
  go_ret2
  exact ⟨rfl, rfl⟩
theorem size_int : (Try.prog.info? 3).map (·.size) = some 1 := by
  obtain ⟨i, hi', hz0, hsz, hby⟩ := info_parts infoInt
  rw [hi']; simp [hsz]
/-- What slices.Repeat has filled so far: m of c. -/
def repL (v : Int) (m c : Nat) : List Value := (List.replicate m v ++ List.replicate (c - m) 0).map vInt
theorem repL_len (v : Int) {m c : Nat} (h : m ≤ c) : (repL v m c).length = c := by simp [repL]; omega
theorem repL_splice (v : Int) {m c k : Nat} (h : m + k ≤ c) : splice (repL v m c) m ((List.replicate k v).map vInt) = repL v (m + k) c := by
  unfold splice repL
  rw [← List.map_take, ← List.map_drop, ← List.map_append, ← List.map_append]
  congr 1
  rw [List.take_left' (by simp), List.drop_append, List.drop_eq_nil_of_le (by simp), List.nil_append, ← List.append_assoc, List.replicate_append_replicate, List.drop_replicate]
  simp only [List.length_replicate, List.length_map]
  congr 2
  omega
theorem repL_zero (v : Int) (c : Nat) : repL v 0 c = (madeCells #[Value.int .i64 0] c).toList := by rw [madeCells_ints]; simp [repL]
theorem repL_at (v : Int) {m c j : Nat} {u : Value} (hj : j < m) (h : ((List.replicate m v).map vInt)[j]? = some u) : (repL v m c)[j]? = some u := by
  unfold repL
  rw [List.map_append, List.getElem?_append_left (by simpa using hj)]; exact h
theorem repL_rep (v : Int) {m c j k : Nat} {u : Value} (hk : k ≤ m) (h : ((List.replicate k v).map vInt)[j]? = some u) : (repL v m c)[j]? = some u := by
  have hj : j < k := by have := (List.getElem?_eq_some_iff.1 h).1; simpa using this
  refine repL_at v (show j < m by omega) ?_
  rw [List.map_replicate, List.getElem?_replicate, if_pos hj] at h
  rw [List.map_replicate, List.getElem?_replicate, if_pos (by omega)]
  exact h
set_option maxHeartbeats 1000000 in
theorem repeat_one (X : Option Addr) (d B c : Nat) (v : Int) (w : World) (h : RI w B X 1 [v]) (hB : B ≤ w.heap.size) (hc : c ≤ 9) :
    Calls Try.prog 69 #[.slice X 1 d, .int .i64 c] w (RetOwn w (List.replicate c v)) := by
  have hmk := run_make_row' (P := Try.prog) 24 3 (.int .i64 0) 8 Try.underlying24 infoInt rfl .i64 .i64 c (by omega) (by omega)
  have hMul := mul_one c hc
  obtain ⟨b, off, rfl, hb, hc0⟩ := h.at_ (show 0 < 1 by omega)
  have hp0 : decide ((c : Int) < 0) = false := by simp
  have hbig : ¬ ((9223372036854775807 : Int) < (c : Int)) := by omega
  go_enter Try.func69, Try.ntmps69
  have HG0 : Hid ((w.alloc (.cells (madeCells #[.int .i64 0] c) 3)).heap[w.heap.size]? = some (.cells (repL v 0 c).toArray 3 (0, 0))) := Lib.hid (by rw [repL_zero]; exact heap_alloc_new w _)
  have HB0 : Below w.heap.size w (w.alloc (.cells (madeCells #[.int .i64 0] c) 3)) := (Below.refl _ _).alloc (Nat.le_refl _) _
  have hsrc : ∀ j u, ((List.replicate 1 v).map vInt)[j]? = some u → (w.alloc (.cells (madeCells #[.int .i64 0] c) 3)).cell? ((⟨b, off, none⟩ : Addr).add j) = some u := fun j u hu => by
    match j, hu with
    | 0, hu => simp [vInt] at hu; subst hu; simpa [Addr.add, zat] using (World.cell?_alloc_lt w _ ⟨b, off + 0, none⟩ (show b < w.heap.size by omega)).trans hc0
  have HSRC := Lib.hid hsrc
  clear hsrc
  obtain ⟨k, hk⟩ : ∃ k, Hid (k = Nat.min 1 c) := ⟨_, Lib.hid rfl⟩
  have HN : Hid (((List.replicate k v).map vInt).length = Nat.min 1 c) := Lib.hid (by simp [hk.out])
  have HP : Hid (∀ j u, ((List.replicate k v).map vInt)[j]? = some u → (w.alloc (.cells (madeCells #[.int .i64 0] c) 3)).cell? ((⟨b, off, none⟩ : Addr).add j) = some u) := Lib.hid fun j u hu => by
    have h1 := hk.out
    have h2 : k ≤ 1 := by rw [h1]; exact Nat.min_le_left _ _
    have h3 : 0 < k := by
      have := (List.getElem?_eq_some_iff.1 hu).1
      simp at this
      omega
    obtain rfl : k = 1 := by omega
    exact HSRC.out j u hu
  have hkc : k ≤ c := by rw [hk.out]; exact Nat.min_le_right _ _
  have HF : Hid (0 + ((List.replicate k v).map vInt).length ≤ (repL v 0 c).length) := Lib.hid (by rw [repL_len v (Nat.zero_le _)]; simpa using hkc)
  have HSP := Lib.hid (repL_splice v (m := 0) (c := c) (k := k) (by omega))
  go_wp2_with (first
    | (go_at_call 88; refine (hMul _).mono ?_; rintro e w' ⟨rfl, rfl⟩)
    | (with_reducible refine wpList_copy_splice rfl _ _ _ _ rfl 3 Try.underlying24 size_int _ _ _ _ _ _ rfl rfl w.heap.size 0 (repL v 0 c) 3 HG0.out ((List.replicate k v).map vInt) HN.out (fun _ => ⟨rfl, _, rfl, HP.out⟩) HF.out (oneCell_vInt _) w.heap.size w HB0 (Nat.le_refl _) ?_
       intro w2 hg2 hb2))
  have hg3 := hg2.out
  rw [HSP.out, Nat.zero_add] at hg3
  have HG3 := Lib.hid hg3
  clear hg3 hg2 HSP HF HP HN HG0 HB0 HSRC hMul hmk
  by_cases hc1 : c = 0
  · subst hc1
    obtain rfl : k = 0 := by omega
    refine wp_loop_rounds 1 ?_
    rw [rounds_succ]
    go_wp2
    go_ret
    refine ⟨_, _, _, rfl, ⟨by simp, Nat.le_refl _, by simp only [maxLen]; omega, .inr ⟨w.heap.size, _, rfl, Nat.le_refl _, by have := heap_lt HG3.out; omega, HG3.out, by simp [repL], by simp [repL]⟩⟩, hb2⟩
  · have hk1 : 1 ≤ k := by rw [hk.out]; exact Nat.le_min.2 ⟨Nat.le_refl _, by omega⟩
    clear hk
    go_loopw [8] (fun i wr => ∃ m : Nat, 1 ≤ m ∧ m ≤ c ∧ i = .int .i64 m ∧ Hid (wr.heap[w.heap.size]? = some (.cells (repL v m c).toArray 3 (0, 0))) ∧ Below w.heap.size w wr) (fun i _ => c - (intOf i).toNat)
    case atStart => exact ⟨k, hk1, hkc, rfl, HG3, hb2⟩
    case round =>
      obtain ⟨m, hm1, hmc, rfl, hg, hbel⟩ := hrel
      clear HG3 hb2
      by_cases hlt : m < c
      · have hm0 : (0 : Int) ≤ (m : Int) := by omega
        have hmi : (m : Int) ≤ (c : Int) := by omega
        have hne : ¬ c = m := by omega
        obtain ⟨q, hq⟩ : ∃ q, Hid (q = Nat.min m (c - m)) := ⟨_, Lib.hid rfl⟩
        have hqm : q ≤ m := by rw [hq.out]; exact Nat.min_le_left _ _
        have hqc : m + q ≤ c := by have : q ≤ c - m := by { rw [hq.out]; exact Nat.min_le_right _ _ }; omega
        have hq1 : 1 ≤ q := by rw [hq.out]; exact Nat.le_min.2 ⟨hm1, by omega⟩
        have HN2 : Hid (((List.replicate q v).map vInt).length = Nat.min m (c - m)) := Lib.hid (by simp [hq.out])
        have HS2 : Hid (∀ j u, ((List.replicate q v).map vInt)[j]? = some u → wr.drew.cell? ((⟨w.heap.size, 0, none⟩ : Addr).add j) = some u) := Lib.hid fun j u hu => by
          have h1 := repL_rep v (c := c) hqm hu
          have h2 := (cell_in hg.out j).trans (by simpa using h1)
          by_cases h0 : j = 0
          · subst h0; simpa [Addr.add] using h2
          · simpa [Addr.add, h0] using h2
        have HF2 : Hid (m + ((List.replicate q v).map vInt).length ≤ (repL v m c).length) := Lib.hid (by rw [repL_len v hmc]; simpa using hqc)
        have HSP2 := Lib.hid (repL_splice v (m := m) (c := c) (k := q) hqc)
        have hgd : Hid (wr.drew.heap[w.heap.size]? = some (.cells (repL v m c).toArray 3 (0, 0))) := hg
        have hbd : Below w.heap.size w wr.drew := hbel.drew
        have wrap1 : IntKind.i64.wrap ((m : Int) + q) = (m : Int) + q := IntWalk.i64_in _ (by omega)
        have hcp := run_copy_row (P := Try.prog) wr.drew 24 24 3 3 w.heap.size m (c - m) (c - m) ⟨w.heap.size, 0, none⟩ m c (repL v m c).toArray 3 ((List.replicate q v).map vInt) Try.underlying24 size_int hgd.out HN2.out HS2.out (by simpa using HF2.out) (oneCell_vInt _)
        obtain ⟨C, hC⟩ : ∃ C : Array Value, C = ((repL v m c).toArray.toList.take m ++ ((List.replicate q v).map vInt) ++ (repL v m c).toArray.toList.drop (m + ((List.replicate q v).map vInt).length)).toArray := ⟨_, rfl⟩
        rw [← hC] at hcp
        have hg4 := setRow_heap wr.drew w.heap.size _ C 3 _ hgd.out
        have hb4 := below_setRow hbd (Nat.le_refl w.heap.size) C
        generalize wr.drew.setRow w.heap.size C = w4 at hcp hg4 hb4
        have hCS : C = (repL v (m + q) c).toArray := by rw [hC, ← HSP2.out]; unfold splice; rw [List.append_assoc]
        clear hC
        have hL : ((List.replicate q v).map vInt).length = q := by simp
        have HG4 : Hid (w4.heap[w.heap.size]? = some (.cells (repL v (m + q) c).toArray 3 (0, 0))) := Lib.hid (by rw [hg4, hCS])
        have hgo : goInt (((List.replicate q v).map vInt).length) = .int .i64 (q : Int) := by rw [hL]; rfl
        rw [hgo] at hcp
        clear hq hg4 hL hgo hCS HN2 HS2 HF2 HSP2 hgd hbd hg hbel
        go_wp2_with fail
        go_region_with (fail)
        all_goals
          go_simp
          go_roundw
          case rel => (repeat apply Exists.intro); exact ⟨⟨m + q, by omega, by omega, rfl, HG4, hb4⟩, rfl⟩
          case measure => simp [intOf]; omega
      · obtain rfl : m = c := by omega
        go_wp2
        go_ret
        refine ⟨_, _, _, rfl, ⟨by simp, Nat.le_refl _, by simp only [maxLen]; omega, .inr ⟨w.heap.size, _, rfl, Nat.le_refl _, by have := heap_lt hg.out; omega, hg.out, by simp [repL], by simp [repL]⟩⟩, hbel⟩
def mxF : List Int → Int
  | [] => 0
  | z :: zs => zs.foldl max z
theorem mxF_snoc {zs : List Int} (h : zs ≠ []) (z : Int) : mxF (zs ++ [z]) = max (mxF zs) z := by
  cases zs with
  | nil => exact absurd rfl h
  | cons a zs => simp [mxF, List.foldl_append]
theorem max_any (A : Option Addr) (n c B : Nat) (zs : List Int) (w : World) (h : RI w B A n zs) (hn : n ≤ 4294967296) (h1 : 1 ≤ n) :
    Calls Try.prog 68 #[.slice A n c] w fun e w' => e = .returned (.int .i64 (mxF zs)) ∧ w = w' := by
  have hl := Lib.hid h.len
  obtain ⟨b, off, rfl, hb, hc0⟩ := h.at_ (show 0 < n by omega)
  rw [Nat.add_zero] at hc0
  have hd : decide ((n : Int) < 1) = false := by simp; omega
  have hn0 : (0 : Int) < (n : Int) := by omega
  have hn0' : 0 < n := by omega
  have HM0 : Hid (zat zs 0 = mxF (zs.take 1)) := Lib.hid (by
    cases zs with
    | nil => have := hl.out; simp at this; omega
    | cons a zs => simp [mxF, zat])
  go_enter Try.func68, Try.ntmps68
  go_wp2
  go_loop [3, 4] (fun v i => ∃ k : Nat, 1 ≤ k ∧ k ≤ n ∧ i = .int .i64 k ∧ v = .int .i64 (mxF (zs.take k))) (fun _ i => n - (intOf i).toNat)
  case atStart => exact ⟨1, Nat.le_refl _, h1, rfl, by rw [← HM0.out]⟩
  case round =>
    obtain ⟨k, hk1, hk, rfl, rfl⟩ := hrel
    by_cases hlt : k < n
    · obtain ⟨b', off', e, _, hc⟩ := h.at_ hlt
      simp only [Option.some.injEq, Addr.mk.injEq, and_true] at e
      obtain ⟨rfl, rfl⟩ := e
      have HS : Hid (mxF (zs.take (k + 1)) = max (mxF (zs.take k)) (zat zs k)) := Lib.hid (by
        have := hl.out
        rw [take_zat (by omega), mxF_snoc]
        intro h0
        have := congrArg List.length h0
        rw [List.length_take] at this
        simp only [List.length_nil] at this
        omega)
      have hi1 : (0 : Int) ≤ (k : Int) := by omega
      have hi2 : (k : Int) < (n : Int) := by omega
      go_wp2
      go_round
      case rel => exact ⟨k + 1, by omega, by omega, by go_num, by rw [HS.out]; congr 1; split <;> omega⟩
      case measure => simp [intOf]; omega
    · obtain rfl : k = n := by omega
      have HE : Hid (zs.take k = zs) := Lib.hid (List.take_of_length_le (by have := hl.out; omega))
      go_wp2
      go_ret
      exact ⟨ret_int (by rw [HE.out]), rfl⟩
end Go.Proofs.Ytkmbblooofmnpaa
