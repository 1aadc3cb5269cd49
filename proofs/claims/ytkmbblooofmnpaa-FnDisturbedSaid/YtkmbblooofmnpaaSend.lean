/- SendLanes, the program's: returns sendF. -/
import Derived.Test.YtkmbblooofmnpaaLaneF
import Derived.Test.YtkmbblooofmnpaaII4
import Derived.Test.YtkmbblooofmnpaaRep
namespace Go.Proofs.Ytkmbblooofmnpaa
open Go.RowKit Go.Deep
theorem ownss_none (w : World) : OwnSS w w.heap.size w.heap.size none 0 0 [] :=
  ⟨[], w.heap.size, w.heap.size, Nat.le_refl _, Nat.le_refl _, OwnV.nil, rfl, (fun p hp => by cases hp), Rws.nil⟩
theorem cnt_step {m i n j : Nat} (hc : lcB n = true) : i + j * n < m ↔ j < cntF m i n := by
  unfold cntF
  have := lcB_t.1 hc
  have h3 : n = 1 ∨ n = 2 ∨ n = 4 := by omega
  rcases h3 with rfl | rfl | rfl <;> omega
theorem cnt_trn {m i n : Nat} (_hn : 0 < n) : cntF m i n ≤ trnF m n := by unfold cntF trnF; exact Nat.div_le_div_right (by omega)
theorem trn_cnt {m i n : Nat} (hc : lcB n = true) (hi : i < n) : trnF m n ≤ cntF m i n + 1 := by
  unfold cntF trnF
  have := lcB_t.1 hc
  have h3 : n = 1 ∨ n = 2 ∨ n = 4 := by omega
  rcases h3 with rfl | rfl | rfl <;> omega
theorem trn_le {m n : Nat} (hc : lcB n = true) : trnF m n ≤ m := by
  unfold trnF
  have := lcB_t.1 hc
  have h3 : n = 1 ∨ n = 2 ∨ n = 4 := by omega
  rcases h3 with rfl | rfl | rfl <;> omega
theorem mxF_in {zs : List Int} (h : zs ≠ []) : mxF zs ∈ zs := by
  cases zs with
  | nil => exact absurd rfl h
  | cons a zs =>
    have hg : ∀ (zs : List Int) (u : Int), zs.foldl max u = u ∨ zs.foldl max u ∈ zs := by
      intro zs
      induction zs with
      | nil => intro u; exact .inl rfl
      | cons b zs ih =>
        intro u
        simp only [List.foldl_cons, List.mem_cons]
        rcases ih (max u b) with h | h
        · rw [h]
          by_cases hub : u ≤ b
          · exact .inr (.inl (by omega))
          · exact .inl (by omega)
        · exact .inr (.inr h)
    rcases hg zs a with h | h
    · simp only [mxF, h]; exact List.mem_cons_self ..
    · exact List.mem_cons_of_mem _ h
theorem mxF_ge {zs : List Int} {z : Int} (h : z ∈ zs) : z ≤ mxF zs := by
  cases zs with
  | nil => cases h
  | cons a zs =>
    have hg : ∀ (zs : List Int) (u : Int), u ≤ zs.foldl max u ∧ ∀ z ∈ zs, z ≤ zs.foldl max u := by
      intro zs
      induction zs with
      | nil => intro u; simp
      | cons b zs ih =>
        intro u
        simp only [List.foldl_cons, List.mem_cons]
        have := ih (max u b)
        exact ⟨by omega, fun z hz => by rcases hz with rfl | hz; omega; exact this.2 z hz⟩
    rcases List.mem_cons.1 h with rfl | h
    · exact (hg zs _).1
    · exact (hg zs _).2 z h
theorem sendOk_t {xs sk : List Int} (h : sendOk xs sk = true) : lcB sk.length = true ∧ (∀ z ∈ sk, 0 ≤ z ∧ z ≤ 8) ∧ ∀ z ∈ xs, 0 ≤ z ∧ z ≤ 31 := by
  simp only [sendOk, Bool.and_eq_true, List.all_eq_true] at h
  exact ⟨h.1.1, fun z hz => inB_t.1 (h.1.2 z hz), fun z hz => inB_t.1 (h.2 z hz)⟩
/-- Of one lane: the skew s, the number of symbols C, and the padding P at the end. -/
theorem send_nums {xs sk : List Int} {k : Nat} (h : sendOk xs sk = true) (hk : k < sk.length) :
    ∃ s M P : Nat, zat sk k = (s : Int) ∧ s ≤ 8 ∧ mxF sk = (M : Int) ∧ M ≤ 8 ∧ P ≤ 9 ∧ M + 1 + trnF xs.length sk.length = s + 1 + cntF xs.length k sk.length + P ∧
      sendL xs sk k = (List.replicate s 31 ++ [24] ++ strF xs k sk.length (cntF xs.length k sk.length)) ++ List.replicate P 31 := by
  obtain ⟨h1, h2, h3⟩ := sendOk_t h
  have a1 := h2 _ (zat_mem hk)
  have a2 := mxF_ge (zat_mem hk)
  have a3 := h2 _ (mxF_in (zs := sk) (by intro e; rw [e] at hk; simp at hk))
  have a4 := cnt_trn (m := xs.length) (i := k) (n := sk.length) (by omega)
  have a5 := trn_cnt (m := xs.length) h1 hk
  refine ⟨(zat sk k).toNat, (mxF sk).toNat, (mxF sk).toNat + 1 + trnF xs.length sk.length - ((zat sk k).toNat + 1 + cntF xs.length k sk.length), by omega, by omega, by omega, by omega, by omega, by omega, ?_⟩
  unfold sendL padTo laneF sendTo
  congr 2
  simp [strF_len]
  omega
theorem sendF_yes {xs sk : List Int} (h : sendOk xs sk = true) : sendF xs sk = (List.range sk.length).map (sendL xs sk) := by simp [sendF, h]
theorem sendF_no {xs sk : List Int} (h : sendOk xs sk = false) : sendF xs sk = [] := by simp [sendF, h]
theorem send_snoc (xs sk : List Int) (k : Nat) : (List.range (k + 1)).map (sendL xs sk) = (List.range k).map (sendL xs sk) ++ [sendL xs sk k] := by simp [List.range_succ]
set_option maxHeartbeats 4000000 in
theorem send_i (Ax As : Option Addr) (nx cx Bx n cs Bs : Nat) (xs sk : List Int) (w : World) (hx : RI w Bx Ax nx xs) (hs : RI w Bs As n sk) (hBx : Bx ≤ w.heap.size) (hBs : Bs ≤ w.heap.size) (hnx : nx ≤ 1048576) (hn : n ≤ 1048576) :
    Calls Try.prog 42 #[.slice Ax nx cx, .slice As n cs] w (RetOwnSS w (sendF xs sk)) := by
  have hlx := Lib.hid hx.len
  have hls := Lib.hid hs.len
  cases h1 : lcB (n : Int)
  · have HF := Lib.hid (sendF_no (xs := xs) (sk := sk) (by simp [sendOk, hls.out, h1]))
    go_enter Try.func42, Try.ntmps42
    go_wp2_with (go_at_call 56; refine (laneCountOk_i _ _).mono ?_; rw [h1]; rintro e w' ⟨rfl, rfl⟩)
    go_ret
    exact ⟨_, _, _, rfl, by rw [HF.out]; exact ownss_none _, Below.refl _ _⟩
  · have HC := Lib.hid h1
    have HLC := (laneCountOk_i (n : Int) w)
    rw [h1] at HLC
    clear h1
    have HSK := areSkews_any As n cs Bs sk w hs (by omega)
    have HSY := areSymbols_any Ax nx cx Bx xs w hx (by omega)
    cases h2 : sk.all (fun z => inB z 0 8)
    · rw [h2] at HSK
      have HF := Lib.hid (sendF_no (xs := xs) (sk := sk) (by simp only [sendOk, h2]; simp))
      clear h2 HSY
      go_enter Try.func42, Try.ntmps42
      go_wp2_with (first | (go_at_call 56; refine HLC.mono ?_; rintro e w' ⟨rfl, rfl⟩) | (go_at_call 66; refine HSK.mono ?_; rintro e w' ⟨rfl, rfl⟩))
      go_ret
      exact ⟨_, _, _, rfl, by rw [HF.out]; exact ownss_none _, Below.refl _ _⟩
    · cases h3 : xs.all (fun z => inB z 0 31)
      · rw [h2] at HSK
        rw [h3] at HSY
        have HF := Lib.hid (sendF_no (xs := xs) (sk := sk) (by simp only [sendOk, h3]; simp))
        clear h2 h3
        go_enter Try.func42, Try.ntmps42
        go_wp2_with (first | (go_at_call 56; refine HLC.mono ?_; rintro e w' ⟨rfl, rfl⟩) | (go_at_call 66; refine HSK.mono ?_; rintro e w' ⟨rfl, rfl⟩) | (go_at_call 67; refine HSY.mono ?_; rintro e w' ⟨rfl, rfl⟩))
        go_ret
        exact ⟨_, _, _, rfl, by rw [HF.out]; exact ownss_none _, Below.refl _ _⟩
      · have OK : Hid (sendOk xs sk = true) := Lib.hid (by simp only [sendOk, h2, h3, hls.out, HC.out]; rfl)
        rw [h2] at HSK
        rw [h3] at HSY
        clear h2 h3
        have hn4 := lcB_le HC.out
        obtain ⟨_, M, _, _, _, hM, hM8, _, _, _⟩ := send_nums OK.out (k := 0) (by have := hls.out; omega)
        have HMX := max_any As n cs Bs sk w hs (by omega) (by omega)
        rw [hM] at HMX
        have HMM := Lib.hid hM
        clear hM
        obtain ⟨T, hT⟩ : ∃ T, Hid (T = trnF nx n) := ⟨_, Lib.hid rfl⟩
        have hTn : T ≤ nx := by rw [hT.out]; exact trn_le HC.out
        have hdiv : ((nx : Int) + (n : Int) - 1) / (n : Int) = (T : Int) := by
          rw [hT.out]; unfold trnF
          have e : ((nx + n - 1 : Nat) : Int) = (nx : Int) + n - 1 := by omega
          rw [Int.natCast_ediv, e]
        have hdiv' : ((nx : Int) + (n : Int) - 1).tdiv (n : Int) = (T : Int) := by rw [Int.tdiv_eq_ediv_of_nonneg (by omega)]; exact hdiv
        have hn0 : ¬ (n : Int) = 0 := by omega
        have hnp : (0 : Int) < (n : Int) := by omega
        have hnb : ((n : Int) == 0) = false := by simp; omega
        go_enter Try.func42, Try.ntmps42
        go_wp2_with (first | (go_at_call 56; refine HLC.mono ?_; rintro e w' ⟨rfl, rfl⟩) | (go_at_call 66; refine HSK.mono ?_; rintro e w' ⟨rfl, rfl⟩) | (go_at_call 67; refine HSY.mono ?_; rintro e w' ⟨rfl, rfl⟩) | (go_at_call 68; refine HMX.mono ?_; rintro e w' ⟨rfl, rfl⟩))
        have HO := ownss_nil w
        clear HSK HSY HLC HMX hdiv hdiv' hn0 hnb
        go_loopw [8, 9, 10, 11, 12, 43] (fun o _ _ _ _ i wr => ∃ k : Nat, k ≤ n ∧ i = .int .i64 k ∧ ∃ A' c', o = .slice A' k c' ∧ OwnSS wr w.heap.size wr.heap.size A' k c' ((List.range k).map (sendL xs sk)) ∧ Below w.heap.size w wr) (fun _ _ _ _ _ i _ => n - (intOf i).toNat)
        case atStart => exact ⟨0, Nat.zero_le _, rfl, _, _, rfl, by simpa using HO.mono (Nat.le_refl _) (by simp), (Below.refl _ _).alloc (Nat.le_refl _) _⟩
        case round =>
          rename World => w1
          obtain ⟨k, hk, rfl, A', c', rfl, hown, hbel⟩ := hrel
          clear HO
          have hsz := hbel.size
          by_cases hlt : k < n
          · obtain ⟨s, M', P, hs1, hs8, hM1, _, hP9, hsum, hsend⟩ := send_nums OK.out (k := k) (by have := hls.out; omega)
            obtain rfl : M' = M := by have := HMM.out; omega
            obtain ⟨C, hC⟩ : ∃ C, Hid (C = cntF nx k n) := ⟨_, Lib.hid rfl⟩
            rw [hlx.out, hls.out, ← hC.out] at hsend
            rw [hlx.out, hls.out, ← hC.out, ← hT.out] at hsum
            have HSE := Lib.hid hsend
            have hCn : C ≤ nx := by rw [hC.out]; exact Nat.le_trans (cnt_trn (by omega)) (trn_le HC.out)
            have HSN := Lib.hid (send_snoc xs sk k)
            obtain ⟨b, off, rfl, hb, hc0⟩ := (hs.below hbel hBs).at_ hlt
            rw [hs1] at hc0
            have HR1 := ri_one w1 31 3
            have hi1 : (0 : Int) ≤ (k : Int) := by omega
            have hi2 : (k : Int) < (n : Int) := by omega
            clear hsend hs1 hM1
            go_wp2_with fail
            refine (repeat_one _ _ _ s 31 _ HR1 (by simp) (by omega)).mono ?_
            rintro e w2 ⟨A2, n2, c2, rfl, ho2, hb2⟩
            obtain rfl : s = n2 := by have := ho2.len; simpa using this
            have s2 := hb2.size
            simp only [World.size_alloc] at s2 ho2
            have K2 := (hbel.alloc hsz (.cells #[.int .i64 31] 3)).trans (hb2.mono (by simp; omega))
            have hown2 := (hown.alloc (.cells #[.int .i64 31] 3)).below hb2 (by simp)
            clear hown hbel HR1 hb2 hc0
            go_wp2_with (at_builtin; refine wpList_append_ints rfl _ _ _ rfl Try.underlying24 infoInt _ _ _ _ _ _ rfl (Own.alloc ho2 _) _ _ _ _ _ rfl (ri_one _ _ _) (by omega) (by simp; omega) ?_; intro A3 c3 w3 ho3 hoff3 hb3)
            have s3 := hb3.size
            simp only [World.size_alloc] at s3
            have K3 := (K2.alloc (by omega) (.cells #[.int .i64 24] 3)).trans (hb3.mono (by omega))
            have hown3 := (hown2.alloc (.cells #[.int .i64 24] 3)).below hb3 (by omega)
            have H3 : Own w3 (w1.heap.size + 1) w3.heap.size A3 (s + 1 + 0) c3 (List.replicate s 31 ++ [24] ++ strF xs k n 0) := by simpa [strF] using ho3
            have hxx := hx.below K3 hBx
            have HC2 := HC.out
            have HCN : Hid (lcB (n : Int) = true) := HC
            clear ho2 hown2 K2 hoff3 hb3 ho3 HC2
            go_loopw [11, 12] (fun o i wr => ∃ j I : Nat, j ≤ C ∧ I ≤ nx + 4 ∧ i = .int .i64 I ∧ Hid (I = k + j * n) ∧ ∃ A5 c5, o = .slice A5 (s + 1 + j) c5 ∧ Own wr (w1.heap.size + 1) wr.heap.size A5 (s + 1 + j) c5 (List.replicate s 31 ++ [24] ++ strF xs k n j) ∧ Below (w1.heap.size + 1) w3 wr) (fun _ i _ => nx + 8 - (intOf i).toNat)
            case atStart => exact ⟨0, k, Nat.zero_le _, by omega, rfl, Lib.hid (by simp), _, _, rfl, H3, Below.refl _ _⟩
            case round =>
              rename World => w4
              obtain ⟨j, I, hj, hI, rfl, hIj, A5, c5, rfl, ho5, hb5⟩ := hrel
              clear H3
              have s5 := hb5.size
              by_cases hIn : I < nx
              · have hjC : j < C := by rw [hC.out, ← cnt_step HCN.out, ← hIj.out]; exact hIn
                obtain ⟨b6, off6, rfl, hb6, hc6⟩ := (hxx.below hb5 (by omega)).at_ hIn
                have HS6 := Lib.hid (strF_succ xs k n j)
                have HI6 : Hid (I + n = k + (j + 1) * n) := Lib.hid (by rw [Nat.succ_mul, hIj.out]; omega)
                have hZ : Hid (zat xs I = zat xs (k + j * n)) := Lib.hid (by rw [hIj.out])
                have i1 : (0 : Int) ≤ (I : Int) := by omega
                have i2 : (I : Int) < (nx : Int) := by omega
                go_wp2_with (at_builtin; refine wpList_append_ints rfl _ _ _ rfl Try.underlying24 infoInt _ _ _ _ _ _ rfl (Own.alloc ho5 _) _ _ _ _ _ rfl (ri_one _ _ _) (by omega) (by simp; omega) ?_; intro A7 c7 w7 ho7 hoff7 hb7)
                rw [hZ.out, List.append_assoc, ← HS6.out] at ho7
                have K7 := (hb5.alloc (by omega) (.cells #[.int .i64 (zat xs I)] 3)).trans hb7
                go_roundw
                case rel => exact ⟨j + 1, I + n, by omega, by omega, by go_num, HI6, _, _, rfl, ho7, K7⟩
                case measure => simp [intOf]; omega
              · obtain rfl : j = C := by
                  have : ¬ j < C := by rw [hC.out, ← cnt_step HCN.out, ← hIj.out]; exact hIn
                  omega
                have HR9 := ri_one w4 31 3
                have hown4 := hown3.below hb5 (by omega)
                have K4 := K3.trans (hb5.mono (by omega))
                have hP : (M' : Int) + 1 + (T : Int) - ((s : Int) + 1 + (j : Int)) = (P : Int) := by omega
                clear hIj hC hown3 hb5 hxx
                go_wp2_with fail
                clear hP
                refine (repeat_one _ _ _ P 31 _ HR9 (by simp) hP9).mono ?_
                rintro e w8 ⟨A8, n8, c8, rfl, ho8, hb8⟩
                obtain rfl : P = n8 := by have := ho8.len; simpa using this
                have s8 := hb8.size
                simp only [World.size_alloc] at s8 ho8
                have lane8 := (ho5.alloc (.cells #[.int .i64 31] 3)).below hb8 (by simp)
                have hown8 := (hown4.alloc (.cells #[.int .i64 31] 3)).below hb8 (by simp; omega)
                have K8 := (K4.alloc (by omega) (.cells #[.int .i64 31] 3)).trans (hb8.mono (by simp; omega))
                clear ho5 hown4 K4 hb8 HR9
                go_wp2_with (at_builtin; first
                  | (refine wpList_append_ints rfl _ _ _ rfl Try.underlying24 infoInt _ _ _ _ _ _ rfl lane8 _ _ _ _ _ rfl ho8.ri (by omega) (by omega) ?_
                     intro A9 c9 w9 ho9 hoff9 hb9
                     have s9 := hb9.size
                     have hown9 := (hown8.below hb9 (by omega)).alloc (.cells #[.slice A9 (s + 1 + j + P) c9] 24)
                     have lane9 := ho9.alloc (.cells #[.slice A9 (s + 1 + j + P) c9] 24)
                     have K9 := (K8.trans (hb9.mono (by omega))).alloc (by omega) (.cells #[.slice A9 (s + 1 + j + P) c9] 24)
                     have HR9 := rv_one w9 (.slice A9 (s + 1 + j + P) c9) 24
                     clear hown8 lane8 K8 ho9 hb9 hoff9)
                  | (refine wpList_append_ss rfl _ _ _ rfl Try.underlying36 infoII _ _ _ _ _ _ rfl hown9 _ _ _ _ _ _ lane9 _ _ _ rfl HR9 (by omega) (by omega) (by omega) (by simp) (by simp; omega) ?_
                     intro A10 c10 w10 hown10 hb10
                     have K10 := K9.trans hb10
                     clear hown9 lane9 HR9 hb10))
                rw [← HSE.out, ← HSN.out] at hown10
                go_roundw
                case rel => exact ⟨k + 1, by omega, by go_num, _, _, rfl, hown10, K10⟩
                case measure => simp [intOf]; omega
          · obtain rfl : k = n := by omega
            have R := hown
            have HF : Hid (sendF xs sk = (List.range k).map (sendL xs sk)) := Lib.hid (by rw [sendF_yes OK.out, hls.out])
            go_wp2
            go_ret
            exact ⟨_, _, _, rfl, by rw [HF.out]; exact R, hbel⟩
end Go.Proofs.Ytkmbblooofmnpaa
