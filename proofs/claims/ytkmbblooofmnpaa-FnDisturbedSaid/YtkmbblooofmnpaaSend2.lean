/- SendLanes, the reference's: returns sendF. -/
import Derived.Test.YtkmbblooofmnpaaSend
import Derived.Test.YtkmbblooofmnpaaSwapRow
import Derived.Deep.LoopGhost
import Derived.Deep.QuietTactic
import Derived.BigQuiet
namespace Go.Proofs.Ytkmbblooofmnpaa
open Go.RowKit Go.Deep
/-- Lane i as the reference first pads it. -/
def preL (xs sk : List Int) (T i : Nat) : List Int := padTo (laneF xs sk i sk.length) ((zat sk i).toNat + 1 + T)
theorem all_step {p : Int → Bool} {zs : List Int} {k : Nat} (h : ∀ j, j < k → p (zat zs j) = true) (hk : p (zat zs k) = true) : ∀ j, j < k + 1 → p (zat zs j) = true := fun j hj => by
  rcases Nat.lt_succ_iff_lt_or_eq.1 hj with h1 | rfl
  · exact h j h1
  · exact hk
theorem sendF_badx {xs sk : List Int} {k : Nat} (hk : k < xs.length) (h : inB (zat xs k) 0 31 = false) : sendF xs sk = [] :=
  sendF_no (by have := all_false (p := fun z => inB z 0 31) hk h; simp only [sendOk, this]; simp)
theorem sendF_bads {xs sk : List Int} {k : Nat} (hk : k < sk.length) (h : inB (zat sk k) 0 8 = false) : sendF xs sk = [] :=
  sendF_no (by have := all_false (p := fun z => inB z 0 8) hk h; simp only [sendOk, this]; simp)
theorem ret_some {w : World} {L : List (List Int)} {e : Ending} {w' : World} {A : Option Addr} {n c : Nat} (he : e = .returned (.slice A n c)) (ho : OwnSS w' w.heap.size w'.heap.size A n c L) (hb : Below w.heap.size w w') : RetOwnSS w L e w' := ⟨A, n, c, he, ho, hb⟩
theorem ownss_top (w : World) : OwnSS (w.alloc (.cells #[] 24)) w.heap.size (w.alloc (.cells #[] 24)).heap.size (some ⟨w.heap.size, 0, none⟩) 0 0 [] := (ownss_nil w).mono (Nat.le_refl _) (by simp)
theorem rep_snoc (m : Nat) (v : Int) : List.replicate (m + 1) v = List.replicate m v ++ [v] := by rw [List.replicate_succ']
theorem mxF_take {sk : List Int} {q : Nat} (hq : q < sk.length) : mxF (sk.take (q + 1)) = if q = 0 then zat sk 0 else max (mxF (sk.take q)) (zat sk q) := by
  rw [take_zat hq]
  split
  · rename_i h; subst h; simp [mxF]
  · rename_i h
    rw [mxF_snoc]
    intro e
    have := congrArg List.length e
    rw [List.length_take, List.length_nil] at this
    omega
theorem mo_step {sk : List Int} {q m T : Nat} {Mo : Int} (hq : q < sk.length) (hm : zat sk q = m) (hMo : Mo = if q = 0 then 0 else mxF (sk.take q) + 1 + T) :
    (Mo < ((m + 1 + T : Nat) : Int) → ((m + 1 + T : Nat) : Int) = if q + 1 = 0 then 0 else mxF (sk.take (q + 1)) + 1 + T) ∧ (¬ Mo < ((m + 1 + T : Nat) : Int) → Mo = if q + 1 = 0 then 0 else mxF (sk.take (q + 1)) + 1 + T) := by
  rw [if_neg (by omega), mxF_take hq]
  by_cases h : q = 0
  · subst h
    rw [if_pos rfl] at hMo ⊢
    exact ⟨fun _ => by omega, fun _ => by omega⟩
  · rw [if_neg h] at hMo ⊢
    exact ⟨fun _ => by omega, fun _ => by omega⟩
theorem pre_eq {xs sk : List Int} {T q m j p : Nat} (hs : zat sk q = m) (hC : j = cntF xs.length q sk.length) (hp : m + 1 + j + p = m + 1 + T) :
    (List.replicate m 31 ++ [24] ++ strF xs q sk.length j) ++ List.replicate p 31 = preL xs sk T q := by
  unfold preL padTo laneF
  rw [hs, ← hC]
  congr 2
  simp [strF_len]
  omega
/-- The lists while the second stage runs: those before q are done, p symbols are appended to that at q. -/
def St2 (xs sk : List Int) (T q p : Nat) (X : List (List Int)) : Prop :=
  X.length = sk.length ∧ ∀ j, j < sk.length → lat X j = if j < q then sendL xs sk j else if j = q then preL xs sk T j ++ List.replicate p 31 else preL xs sk T j
theorem st2_start (xs sk : List Int) (T : Nat) : St2 xs sk T 0 0 ((List.range sk.length).map (preL xs sk T)) := by
  refine ⟨by simp, fun j hj => ?_⟩
  rw [lat_eq (by simpa using hj), if_neg (by omega)]
  split <;> simp
theorem st2_more {xs sk : List Int} {T q p : Nat} {X : List (List Int)} (h : St2 xs sk T q p X) (hq : q < sk.length) : St2 xs sk T q (p + 1) (X.set q (lat X q ++ [31])) := by
  refine ⟨by simpa using h.1, fun j hj => ?_⟩
  have hjX : j < X.length := by rw [h.1]; exact hj
  have h2 := h.2 j hj
  by_cases e : j = q
  · subst e
    rw [lat_eq (by simpa using hjX), List.getElem_set_self, h2, if_neg (by omega), if_pos rfl, if_neg (by omega), if_pos rfl, rep_snoc, List.append_assoc]
  · rw [lat_eq (by simpa using hjX), List.getElem_set_ne (fun e' => e e'.symm), ← lat_eq hjX, h2, if_neg e, if_neg e]
theorem pre_len {xs sk : List Int} {T q : Nat} (hT : T = trnF xs.length sk.length) (h0 : 0 < sk.length) : (preL xs sk T q).length = (zat sk q).toNat + 1 + T := by
  have := cnt_trn (m := xs.length) (i := q) h0
  unfold preL padTo laneF
  simp [strF_len]
  omega
theorem pre_pad {xs sk : List Int} {T q p : Nat} (hT : T = trnF xs.length sk.length) (h0 : 0 < sk.length) (hp : (zat sk q).toNat + 1 + T + p = sendTo xs sk) : preL xs sk T q ++ List.replicate p 31 = sendL xs sk q := by
  have hc := cnt_trn (m := xs.length) (i := q) h0
  unfold preL sendL padTo laneF
  simp only [List.length_append, List.length_replicate, strF_len, List.length_cons, List.length_nil]
  rw [List.append_assoc _ (List.replicate _ 31) (List.replicate p 31), List.replicate_append_replicate]
  congr 2
  omega
theorem st2_next {xs sk : List Int} {T q p : Nat} {X : List (List Int)} (h : St2 xs sk T q p X) (hT : T = trnF xs.length sk.length) (h0 : 0 < sk.length) (hp : (zat sk q).toNat + 1 + T + p = sendTo xs sk) : St2 xs sk T (q + 1) 0 X := by
  refine ⟨h.1, fun j hj => ?_⟩
  rw [h.2 j hj]
  by_cases h1 : j < q
  · rw [if_pos h1, if_pos (by omega)]
  · rw [if_neg h1]
    by_cases h2 : j = q
    · subst h2; rw [if_pos rfl, if_pos (by omega)]; exact pre_pad hT h0 hp
    · rw [if_neg h2, if_neg (by omega)]
      split <;> simp
theorem st2_end {xs sk : List Int} {T : Nat} {X : List (List Int)} (h : St2 xs sk T sk.length 0 X) (ok : sendOk xs sk = true) : X = sendF xs sk := by
  rw [sendF_yes ok]
  apply List.ext_getElem (by simpa using h.1)
  intro i h1 h2
  have h3 := h.2 i (by rw [← h.1]; exact h1)
  rw [lat_eq h1, if_pos (by rw [← h.1]; exact h1)] at h3
  rw [h3]; simp
theorem tot_const {L : List (List Int)} {m : Nat} (h : ∀ l ∈ L, l.length = m) : tot L = L.length * m := by
  induction L with
  | nil => simp [tot]
  | cons a L ih =>
    have h1 := h a (List.mem_cons_self ..)
    have h2 := ih fun l hl => h l (List.mem_cons_of_mem _ hl)
    simp only [tot, List.map_cons, List.sum_cons, List.length_cons] at *
    rw [h2, h1, Nat.succ_mul]; omega
theorem sendF_len4 (xs sk : List Int) : (sendF xs sk).length ≤ 4 := by
  cases h : sendOk xs sk
  · rw [sendF_no h]; simp
  · have := lcB_le (sendOk_t h).1
    rw [sendF_yes h]; simp; omega
theorem sendF_tot (xs sk : List Int) : tot (sendF xs sk) ≤ xs.length + 40 := by
  cases h : sendOk xs sk
  · rw [sendF_no h]; simp [tot]
  · obtain ⟨h1, h2, h3⟩ := sendOk_t h
    have hn := lcB_le h1
    have h4 : ∀ l ∈ sendF xs sk, l.length = sendTo xs sk := by
      intro l hl
      rw [sendF_yes h] at hl
      obtain ⟨i, hi, rfl⟩ := List.mem_map.1 hl
      have hi' : i < sk.length := by simpa using hi
      obtain ⟨s, M, P, e1, e2, e3, e4, e5, e6, e7⟩ := send_nums h hi'
      rw [e7]
      unfold sendTo
      simp only [List.length_append, List.length_replicate, strF_len, List.length_cons, List.length_nil]
      omega
    have hmx := mxF_in (zs := sk) (by intro e; rw [e] at hn; simp at hn)
    have hm8 := h2 _ hmx
    rw [tot_const h4, sendF_yes h]
    simp only [List.length_map, List.length_range]
    unfold sendTo trnF
    have hc := lcB_t.1 h1
    have h5 : sk.length = 1 ∨ sk.length = 2 ∨ sk.length = 4 := by omega
    rcases h5 with e | e | e <;> rw [e] <;> omega
theorem pre_snoc (xs sk : List Int) (T k : Nat) : (List.range (k + 1)).map (preL xs sk T) = (List.range k).map (preL xs sk T) ++ [preL xs sk T k] := by simp [List.range_succ]
set_option maxHeartbeats 8000000 in
set_option maxRecDepth 100000 in
theorem send_s (Ax As : Option Addr) (nx cx Bx n cs Bs : Nat) (xs sk : List Int) (w : World) (hx : RI w Bx Ax nx xs) (hs : RI w Bs As n sk) (hBx : Bx ≤ w.heap.size) (hBs : Bs ≤ w.heap.size) (hnx : nx ≤ 1048576) (hn : n ≤ 1048576) :
    Calls Try.prog 40 #[.slice Ax nx cx, .slice As n cs] w (RetOwnSS w (sendF xs sk)) := by
  have hlx := Lib.hid hx.len
  have hls := Lib.hid hs.len
  have HT0 := ownss_top w
  cases h1 : lcB (n : Int)
  · have HF := Lib.hid (sendF_no (xs := xs) (sk := sk) (by simp [sendOk, hls.out, h1]))
    go_enter Try.func40, Try.ntmps40
    go_wp2_with (go_at_call 54; refine (laneCountOk_s _ _).mono ?_; rw [h1]; rintro e w' ⟨rfl, rfl⟩)
    go_ret
    exact ret_some rfl (by rw [HF.out]; exact HT0) ((Below.refl _ _).alloc (Nat.le_refl _) _)
  · have HC := Lib.hid h1
    have HLC := (laneCountOk_s (n : Int) w)
    rw [h1] at HLC
    clear h1
    have hn4 := lcB_le HC.out
    go_enter Try.func40, Try.ntmps40
    go_wp2_with (go_at_call 54; refine HLC.mono ?_; rintro e w' ⟨rfl, rfl⟩)
    clear HLC
    go_loop [6] (fun i => ∃ k : Nat, k ≤ nx ∧ i = .int .i64 k ∧ Hid (∀ j, j < k → inB (zat xs j) 0 31 = true)) (fun i => nx - (intOf i).toNat)
    case atStart => exact ⟨0, Nat.zero_le _, rfl, Lib.hid fun j hj => by omega⟩
    case round =>
      obtain ⟨k, hk, rfl, hok⟩ := hrel
      by_cases hlt : k < nx
      · obtain ⟨b, off, rfl, hb, hc0⟩ := hx.at_ hlt
        have hi1 : (0 : Int) ≤ (k : Int) := by omega
        have hi2 : (k : Int) < (nx : Int) := by omega
        cases hv : inB (zat xs k) 0 31
        · have HF := Lib.hid (sendF_badx (sk := sk) (show k < xs.length by have := hlx.out; omega) hv)
          go_wp2_with (go_at_call 58; refine (l01In_any _ _ _ _).mono ?_; rw [hv]; rintro e w' ⟨rfl, rfl⟩)
          go_ret
          exact ret_some rfl (by rw [HF.out]; exact HT0) ((Below.refl _ _).alloc (Nat.le_refl _) _)
        · have HOK := Lib.hid (all_step (p := fun z => inB z 0 31) hok.out hv)
          go_wp2_with (go_at_call 58; refine (l01In_any _ _ _ _).mono ?_; rw [hv]; rintro e w' ⟨rfl, rfl⟩)
          go_round
          case rel => exact ⟨k + 1, by omega, by go_num, HOK⟩
          case measure => simp [intOf]; omega
      · obtain rfl : k = nx := by omega
        have HXS : Hid (xs.all (fun z => inB z 0 31) = true) := Lib.hid (all_true (p := fun z => inB z 0 31) fun j hj => hok.out j (by have := hlx.out; omega))
        clear hok hlt hk
        obtain ⟨T, hT⟩ : ∃ T, Hid (T = trnF k n) := ⟨_, Lib.hid rfl⟩
        have hTn : T ≤ k := by rw [hT.out]; exact trn_le HC.out
        go_wp2
        go_loopw [7, 8, 9, 10, 11, 12] (fun o m i _ _ _ wr => ∃ (q : Nat) (Mo : Int), q ≤ n ∧ i = .int .i64 q ∧ m = .int .i64 Mo ∧ 0 ≤ Mo ∧ Mo ≤ 9 + (k : Int) ∧ Hid (∀ j, j < q → inB (zat sk j) 0 8 = true) ∧ Hid (Mo = if q = 0 then 0 else mxF (sk.take q) + 1 + T) ∧ ∃ A' c', o = .slice A' q c' ∧ OwnSS wr w.heap.size wr.heap.size A' q c' ((List.range q).map (preL xs sk T)) ∧ Below w.heap.size w wr) (fun _ _ i _ _ _ _ => n - (intOf i).toNat)
        case atStart => exact ⟨0, 0, Nat.zero_le _, rfl, rfl, by omega, by omega, Lib.hid fun j hj => by omega, Lib.hid rfl, _, _, rfl, by simpa using HT0, (Below.refl _ _).alloc (Nat.le_refl _) _⟩
        case round =>
          rename World => w1
          obtain ⟨q, Mo, hq, rfl, rfl, hMo0, hMo1, hok, hMo, A', c', rfl, hown, hbel⟩ := hrel
          clear HT0
          have hsz := hbel.size
          by_cases hlt : q < n
          · obtain ⟨b, off, rfl, hb, hc0'⟩ := hs.at_ hlt
            have hc0 : w1.cell? ⟨b, off + q, none⟩ = some (.int .i64 (zat sk q)) := (hbel.cell (show b < w.heap.size by omega)).trans hc0'
            have hi1 : (0 : Int) ≤ (q : Int) := by omega
            have hi2 : (q : Int) < (n : Int) := by omega
            cases hv : inB (zat sk q) 0 8
            · have HF := Lib.hid (sendF_bads (xs := xs) (show q < sk.length by have := hls.out; omega) hv)
              have HT1 := ownss_top w1
              go_wp2_with (go_at_call 58; refine (l01In_any _ _ _ _).mono ?_; rw [hv]; rintro e w' ⟨rfl, rfl⟩)
              go_ret
              exact ret_some rfl (by rw [HF.out]; exact HT1.mono hsz (Nat.le_refl _)) (hbel.alloc hsz _)
            · have HOK := Lib.hid (all_step (p := fun z => inB z 0 8) hok.out hv)
              have hrng := inB_t.1 hv
              obtain ⟨s, hs1⟩ : ∃ s : Nat, zat sk q = s := ⟨(zat sk q).toNat, by omega⟩
              have hs8 : s ≤ 8 := by omega
              have HS1 := Lib.hid hs1
              rw [hs1] at hc0 hc0' hv
              have hL0 := own_lit0 w1
              clear hrng hs1
              go_wp2_with (go_at_call 58; refine (l01In_any _ _ _ _).mono ?_; rw [hv]; rintro e w' ⟨rfl, rfl⟩)
              have hbw : b < w1.heap.size := by omega
              have hs0 : (0 : Int) ≤ (s : Int) := by omega
              go_loopw [10, 11] (fun o i wr => ∃ m : Nat, m ≤ s ∧ i = .int .i64 m ∧ ∃ A5 c5, o = .slice A5 m c5 ∧ Own wr w1.heap.size wr.heap.size A5 m c5 (List.replicate m 31) ∧ Below w1.heap.size w1 wr) (fun _ i _ => s - (intOf i).toNat)
              case atStart => exact ⟨0, Nat.zero_le _, rfl, _, _, rfl, hL0.top, (Below.refl _ _).alloc (Nat.le_refl _) _⟩
              case round =>
                rename World => w2
                obtain ⟨m, hm, rfl, A5, c5, rfl, ho5, hb5⟩ := hrel
                clear hL0
                have hc5 : w2.cell? ⟨b, off + q, none⟩ = some (.int .i64 s) := (hb5.cell hbw).trans hc0
                have s5 := hb5.size
                by_cases hms : m < s
                · have hR := Lib.hid (rep_snoc m 31)
                  have hms' : (m : Int) < (s : Int) := by omega
                  go_wp2_with (at_builtin; refine wpList_append_ints rfl _ _ _ rfl Try.underlying24 infoInt _ _ _ _ _ _ rfl (Own.alloc ho5 _) _ _ _ _ _ rfl (ri_one _ _ _) (by omega) (by simp; omega) ?_; intro A7 c7 w7 ho7 hoff7 hb7)
                  rw [← hR.out] at ho7
                  have K7 := (hb5.alloc (by omega) (.cells #[.int .i64 31] 3)).trans hb7
                  go_roundw
                  case rel => exact ⟨m + 1, by omega, by go_num, _, _, rfl, ho7, K7⟩
                  case measure => simp [intOf]; omega
                · obtain rfl : m = s := by omega
                  obtain ⟨C, hC⟩ : ∃ C, Hid (C = cntF k q n) := ⟨_, Lib.hid rfl⟩
                  have hCT : C ≤ T := by rw [hC.out, hT.out]; exact cnt_trn (by omega)
                  go_wp2_with (at_builtin; refine wpList_append_ints rfl _ _ _ rfl Try.underlying24 infoInt _ _ _ _ _ _ rfl (Own.alloc ho5 _) _ _ _ _ _ rfl (ri_one _ _ _) (by omega) (by simp; omega) ?_; intro A3 c3 w3 ho3 hoff3 hb3)
                  have K3 := (hb5.alloc (by omega) (.cells #[.int .i64 24] 3)).trans hb3
                  have H3 : Own w3 w1.heap.size w3.heap.size A3 (m + 1 + 0) c3 (List.replicate m 31 ++ [24] ++ strF xs q n 0) := by simpa [strF] using ho3
                  clear ho5 hb5 hc5 hoff3 hb3 ho3
                  go_loopw [10, 12] (fun o i wr => ∃ j I : Nat, j ≤ C ∧ I ≤ k + 4 ∧ i = .int .i64 I ∧ Hid (I = q + j * n) ∧ ∃ A5 c5, o = .slice A5 (m + 1 + j) c5 ∧ Own wr w1.heap.size wr.heap.size A5 (m + 1 + j) c5 (List.replicate m 31 ++ [24] ++ strF xs q n j) ∧ Below w1.heap.size w1 wr) (fun _ i _ => k + 8 - (intOf i).toNat)
                  case atStart => exact ⟨0, q, Nat.zero_le _, by omega, rfl, Lib.hid (by simp), _, _, rfl, H3, K3⟩
                  case round =>
                    rename World => w4
                    obtain ⟨j, I, hj, hI, rfl, hIj, A5, c5, rfl, ho5, hb5⟩ := hrel
                    clear H3 K3
                    have s5 := hb5.size
                    by_cases hIn : I < k
                    · have hjC : j < C := by rw [hC.out, ← cnt_step HC.out, ← hIj.out]; exact hIn
                      obtain ⟨b6, off6, rfl, hb6, hc6⟩ := (hx.below (hbel.trans (hb5.mono hsz)) hBx).at_ hIn
                      have HS6 := Lib.hid (strF_succ xs q n j)
                      have HI6 : Hid (I + n = q + (j + 1) * n) := Lib.hid (by rw [Nat.succ_mul, hIj.out]; omega)
                      have hZ : Hid (zat xs I = zat xs (q + j * n)) := Lib.hid (by rw [hIj.out])
                      have i1 : (0 : Int) ≤ (I : Int) := by omega
                      have i2 : (I : Int) < (k : Int) := by omega
                      go_wp2_with (at_builtin; refine wpList_append_ints rfl _ _ _ rfl Try.underlying24 infoInt _ _ _ _ _ _ rfl (Own.alloc ho5 _) _ _ _ _ _ rfl (ri_one _ _ _) (by omega) (by simp; omega) ?_; intro A7 c7 w7 ho7 hoff7 hb7)
                      rw [hZ.out, List.append_assoc, ← HS6.out] at ho7
                      have K7 := (hb5.alloc (by omega) (.cells #[.int .i64 (zat xs I)] 3)).trans hb7
                      go_roundw
                      case rel => exact ⟨j + 1, I + n, by omega, by omega, by go_num, HI6, _, _, rfl, ho7, K7⟩
                      case measure => simp [intOf]; omega
                    · obtain rfl : j = C := by
                        have : ¬ j < C := by rw [hC.out, ← cnt_step HC.out, ← hIj.out]; exact hIn
                        omega
                      obtain ⟨X, hX⟩ : ∃ X, Hid (X = List.replicate m 31 ++ [24] ++ strF xs q n j) := ⟨_, Lib.hid rfl⟩
                      obtain ⟨N0, hN0⟩ : ∃ N0, Hid (N0 = m + 1 + j) := ⟨_, Lib.hid rfl⟩
                      rw [← hX.out] at ho5
                      rw [← hN0.out] at ho5 ⊢
                      have H5 : Own w4 w1.heap.size w4.heap.size A5 N0 c5 (X ++ List.replicate 0 31) := by simpa using ho5
                      clear hIj ho5
                      go_wp2
                      go_loopg [10] (T + 1) (fun g o wr => ∃ (N p : Nat) (A8 : Option Addr) (c8 : Nat), o = .slice A8 N c8 ∧ Hid (N = N0 + p) ∧ p ≤ T - j ∧ T - j < g + p ∧ Own wr w1.heap.size wr.heap.size A8 N c8 (X ++ List.replicate p 31) ∧ Below w1.heap.size w1 wr)
                      case atStart => exact ⟨N0, 0, _, _, rfl, Lib.hid rfl, Nat.zero_le _, by omega, H5, hb5⟩
                      case round =>
                        rename World => w6
                        obtain ⟨N, p, A8, c8, rfl, hN, hp, hg, ho8, hb8⟩ := hrel
                        clear H5 hb5
                        have hc8 : w6.drew.cell? ⟨b, off + q, none⟩ = some (.int .i64 m) := (hb8.cell hbw).trans hc0
                        have s8 := hb8.size
                        have e1 : IntKind.i64.wrap ((m : Int) + 1) = (m : Int) + 1 := IntWalk.i64_in _ (by omega)
                        have e2 : IntKind.i64.wrap ((k : Int) + n) = (k : Int) + n := IntWalk.i64_in _ (by omega)
                        have e3 : IntKind.i64.wrap ((k : Int) + n - 1) = (k : Int) + n - 1 := IntWalk.i64_in _ (by omega)
                        have e4 : IntKind.i64.wrap (T : Int) = (T : Int) := IntWalk.i64_in _ (by omega)
                        have e5 : IntKind.i64.wrap ((m : Int) + 1 + T) = (m : Int) + 1 + T := IntWalk.i64_in _ (by omega)
                        have hdiv : ((k : Int) + (n : Int) - 1) / (n : Int) = (T : Int) := by
                          rw [hT.out]; unfold trnF
                          have e : ((k + n - 1 : Nat) : Int) = (k : Int) + n - 1 := by omega
                          rw [Int.natCast_ediv, e]
                        have hdiv' : ((k : Int) + (n : Int) - 1).tdiv (n : Int) = (T : Int) := by rw [Int.tdiv_eq_ediv_of_nonneg (by omega)]; exact hdiv
                        have hn0 : ¬ n = 0 := by omega
                        have hnb : ((n : Int) == 0) = false := by simp; omega
                        by_cases hpT : p < T - j
                        · have hd : decide ((N : Int) < (m : Int) + 1 + T) = true := by have h1 := hN.out; have h2 := hN0.out; simp; omega
                          go_wp2_with fail
                          go_region_held3 (fun w' => w'.cell? ⟨b, off + q, none⟩ = some (.int .i64 m)) (exact hc8) (fail)
                          have hA : Own (w6.alloc (.cells #[.int .i64 31] 3)).drew w1.heap.size w6.heap.size A8 N c8 (X ++ List.replicate p 31) := ho8.alloc _
                          have hR1 : RI (w6.alloc (.cells #[.int .i64 31] 3)).drew (w6.heap.size + 1) (some ⟨w6.heap.size, 0, none⟩) 1 [31] := RV.drewN (ri_one w6 31 3) 1
                          have KA : Below w1.heap.size w1 (w6.alloc (.cells #[.int .i64 31] 3)).drew := (hb8.alloc s8 _).drew
                          have hRS := Lib.hid (rep_snoc p 31)
                          have hNb : N ≤ 2100000 := by have h1 := hN.out; have h2 := hN0.out; omega
                          clear e1 e2 e3 e4 e5 hdiv hdiv' hn0 hnb ho8 hb8
                          go_wp2_with (at_builtin; refine wpList_append_ints rfl _ _ _ rfl Try.underlying24 infoInt _ _ _ _ _ _ rfl hA _ _ _ _ _ rfl hR1 (by omega) (by first | (simp; done) | (simp; omega)) ?_; intro A9 c9 w9 ho9 hoff9 hb9)
                          rw [List.append_assoc, ← hRS.out] at ho9
                          go_roundg (T - j - p)
                          case measure => omega
                          case rel => exact ⟨N + 1, p + 1, _, _, rfl, Lib.hid (by have := hN.out; omega), by omega, by omega, ho9, KA.trans hb9⟩
                        · have hd : decide ((N : Int) < (m : Int) + 1 + T) = false := by have h1 := hN.out; have h2 := hN0.out; simp; omega
                          have hNT : Hid (N = m + 1 + T) := Lib.hid (by have h1 := hN.out; have h2 := hN0.out; omega)
                          have hNb : N ≤ 2100000 := by have h1 := hN.out; have h2 := hN0.out; omega
                          have hown8 : OwnSS w6.drew w.heap.size w1.heap.size A' q c' ((List.range q).map (preL xs sk T)) := hown.below (hb8.drew) (Nat.le_refl _)
                          have K8 : Below w.heap.size w w6.drew := hbel.trans (hb8.drew.mono hsz)
                          go_wp2_with fail
                          go_region_held3 (fun w' => w'.cell? ⟨b, off + q, none⟩ = some (.int .i64 m)) (exact hc8) (fail)
                          clear e1 e2 e3 e4 e5 hdiv hdiv' hn0 hnb
                          have hA : OwnSS (w6.alloc (.cells #[.slice A8 N c8] 24)).drew w.heap.size w1.heap.size A' q c' ((List.range q).map (preL xs sk T)) := hown8.alloc _
                          have hL : Own (w6.alloc (.cells #[.slice A8 N c8] 24)).drew w1.heap.size w6.heap.size A8 N c8 (X ++ List.replicate p 31) := ho8.alloc _
                          have hR9 : RV (w6.alloc (.cells #[.slice A8 N c8] 24)).drew (w6.heap.size + 1) (some ⟨w6.heap.size, 0, none⟩) 1 [.slice A8 N c8] := RV.drewN (rv_one w6 (.slice A8 N c8) 24) 1
                          have KA : Below w.heap.size w (w6.alloc (.cells #[.slice A8 N c8] 24)).drew := (K8.alloc (by show w.heap.size ≤ w6.heap.size; omega) _)
                          clear ho8 hb8 hown8 K8
                          by_cases hMN : Mo < (N : Int)
                          all_goals
                            go_wp2_with (at_builtin; refine wpList_append_ss rfl _ _ _ rfl Try.underlying36 infoII _ _ _ _ _ _ rfl hA _ _ _ _ _ _ hL _ _ _ rfl hR9 (by omega) (by omega) (by omega) (by simp) (by simp; omega) ?_; intro A10 c10 w10 ho10 hb10)
                            have HMS := mo_step (sk := sk) (T := T) (show q < sk.length by have := hls.out; omega) HS1.out hMo.out
                            rw [← hNT.out] at HMS
                            have HPE : X ++ List.replicate p 31 = preL xs sk T q := by
                              rw [hX.out, ← hls.out]
                              exact pre_eq HS1.out (by rw [hC.out, hlx.out, hls.out]) (by have h1 := hN.out; have h2 := hN0.out; have h3 := hNT.out; omega)
                            rw [HPE, ← pre_snoc] at ho10
                            go_roundw
                            case rel => first
                              | exact ⟨q + 1, (N : Int), by omega, by go_num, rfl, by omega, by have := hNT.out; omega, HOK, Lib.hid (HMS.1 hMN), _, _, rfl, ho10, KA.trans hb10⟩
                              | exact ⟨q + 1, Mo, by omega, by go_num, rfl, by omega, by omega, HOK, Lib.hid (HMS.2 hMN), _, _, rfl, ho10, KA.trans hb10⟩
                            case measure => simp [intOf]; omega
          · obtain rfl : q = n := by omega
            have HSS : Hid (sk.all (fun z => inB z 0 8) = true) := Lib.hid (all_true (p := fun z => inB z 0 8) fun j hj => hok.out j (by have := hls.out; omega))
            have OK : Hid (sendOk xs sk = true) := Lib.hid (by simp only [sendOk, HSS.out, HXS.out, hls.out, HC.out]; rfl)
            obtain ⟨_, M, _, _, _, hM, hM8, _, _, _⟩ := send_nums OK.out (k := 0) (by have := hls.out; omega)
            obtain ⟨MM, rfl⟩ : ∃ MM : Nat, Mo = MM := ⟨Mo.toNat, by omega⟩
            have HTR : Hid (T = trnF xs.length sk.length) := Lib.hid (by rw [hT.out, hlx.out, hls.out])
            have HSM : Hid (MM = M + 1 + T ∧ MM = sendTo xs sk) := Lib.hid (by
              have h1 := hMo.out
              rw [if_neg (by omega), List.take_of_length_le (by have := hls.out; omega), hM] at h1
              have h2 := HTR.out
              unfold sendTo
              rw [hM, ← h2]
              omega)
            have HX0 : OwnSS w1 w.heap.size w1.heap.size A' q c' ((List.range q).map (preL xs sk T)) := hown
            have HST0 : Hid (St2 xs sk T 0 0 ((List.range q).map (preL xs sk T))) := Lib.hid (by have := st2_start xs sk T; rw [hls.out] at this; exact this)
            have HMX := Lib.hid hM
            clear hown hM hok hMo hlt hq
            go_wp2
            go_loopw [13] (fun i wr => ∃ r : Nat, r ≤ q ∧ i = .int .i64 r ∧ ∃ X, OwnSS wr w.heap.size wr.heap.size A' q c' X ∧ Hid (St2 xs sk T r 0 X) ∧ Below w.heap.size w wr) (fun i _ => q - (intOf i).toNat)
            case atStart => exact ⟨0, Nat.zero_le _, rfl, _, HX0, HST0, hbel⟩
            case round =>
              rename World => w2
              obtain ⟨r, hr, rfl, X, hown, hst, hb2⟩ := hrel
              clear HX0 HST0
              have hsz2 := hb2.size
              by_cases hlt : r < q
              · obtain ⟨s, M', P, hs1, hs8, hM1, _, hP9, hsum, hsend⟩ := send_nums OK.out (k := r) (by have := hls.out; omega)
                have hri0 : (0 : Int) ≤ (r : Int) := by omega
                have hri1 : (r : Int) < (q : Int) := by omega
                have HS1 := Lib.hid hs1
                have hge := Lib.hid (mxF_ge (zat_mem (show r < sk.length by have := hls.out; omega)))
                obtain ⟨N0, hN0⟩ : ∃ N0, Hid (N0 = s + 1 + T) := ⟨_, Lib.hid rfl⟩
                have hNM : N0 ≤ MM := by
                  have h1 := hge.out
                  have h2 := HSM.out.1
                  have h3 := hN0.out
                  have h4 := HS1.out
                  have h5 := HMX.out
                  omega
                clear hs1 hM1 hsend hsum
                go_wp2
                go_loopg [] (MM - N0 + 1) (fun g wr => ∃ (p : Nat) (Y : List (List Int)), N0 + p ≤ MM ∧ MM < g + N0 + p ∧ OwnSS wr w.heap.size wr.heap.size A' q c' Y ∧ Hid (St2 xs sk T r p Y) ∧ Below w.heap.size w wr)
                case atStart => exact ⟨0, X, by omega, by omega, hown, hst, hb2⟩
                case round =>
                  rename World => w3
                  obtain ⟨p, Y, hp, hg, hown3, hst3, hb3⟩ := hrel
                  clear hown hst hb2
                  have hsz3 := hb3.size
                  have hrs : r < sk.length := by have := hls.out; omega
                  have HLY : Hid (lat Y r = preL xs sk T r ++ List.replicate p 31) := Lib.hid (by rw [hst3.out.2 r hrs, if_neg (by omega), if_pos rfl])
                  have HLN : Hid ((lat Y r).length = N0 + p) := Lib.hid (by rw [HLY.out, List.length_append, List.length_replicate, pre_len HTR.out (by omega), HS1.out, hN0.out]; simp)
                  obtain ⟨g3, Ak, nk, ck, gk, rfl, hc3, hnk, hok3, hk1, hk2, hg1, hg2, hgg, hput⟩ := hown3.swap hlt (by have h1 := HLN.out; have h2 := hN0.out; omega) (Nat.le_refl _)
                  obtain ⟨N, hN⟩ : ∃ N, Hid (N = N0 + p) := ⟨_, Lib.hid rfl⟩
                  obtain rfl : N = nk := by have h1 := HLN.out; have h2 := hN.out; omega
                  clear hnk
                  have hMb : MM ≤ 2100000 := by have := HSM.out.1; omega
                  by_cases hNM2 : N < MM
                  · have hNM3 : (N : Int) < (MM : Int) := by omega
                    have HA : Own (w3.alloc (.cells #[.int .i64 31] 3)) gk (gk + 1) Ak N ck (lat Y r) := hok3.alloc _
                    have K3 := hb3.alloc hsz3 (.cells #[.int .i64 31] 3)
                    have O3 : Off gk (gk + 1) w3 (w3.alloc (.cells #[.int .i64 31] 3)) := Off.of_below ((Below.refl _ _).alloc (Nat.le_refl _) _)
                    have HM1 := Lib.hid (st2_more hst3.out hrs)
                    clear hok3 HLY hst3 hown3 hb3
                    go_wp2_with (at_builtin; first
                      | (refine wpList_append_at rfl _ _ _ rfl Try.underlying24 infoInt _ _ _ _ _ rfl HA _ _ _ _ _ rfl (ri_one _ _ _) (by omega) (by simp; omega) ?_
                         intro A9 c9 w9 g9 ho9 hoff9 hg9
                         simp only [World.size_alloc] at hg9
                         obtain ⟨R9, C9, F9⟩ := hput.out w9 A9 (N + 1) c9 g9 (lat Y r ++ [31]) (O3.trans hoff9) ho9 (by omega) (by omega)
                         have s9 := hoff9.size
                         simp only [World.size_alloc] at s9
                         have K9 := (K3.trans (hoff9.below (B := w.heap.size) hk1 (by simp; omega))).setCell (p := ⟨g3, r, none⟩) hg1 (.slice A9 (N + 1) c9)
                         clear hput O3 K3 hoff9 ho9 hg9 hc3))
                    go_roundg (MM - N)
                    case measure => have := hN.out; omega
                    case rel => exact ⟨p + 1, _, by have := hN.out; omega, by have := hN.out; omega, by simpa using R9, HM1, K9⟩
                  · have hd : decide ((N : Int) < (MM : Int)) = false := by simp; omega
                    have HNX := Lib.hid (st2_next hst3.out HTR.out (show 0 < sk.length by omega) (by have h1 := HS1.out; have h2 := hN0.out; have h3 := HSM.out.2; have h4 := hN.out; rw [h1]; omega))
                    clear hst3 HLY HLN hput hok3
                    go_wp2
                    go_roundw
                    case rel => exact ⟨r + 1, by omega, by go_num, _, hown3, HNX, hb3⟩
                    case measure => simp [intOf]; omega
              · obtain rfl : r = q := by omega
                have HE := Lib.hid (st2_end (xs := xs) (sk := sk) (T := T) (X := X) (by have := hst.out; rw [← hls.out] at this; exact this) OK.out)
                go_wp2
                go_ret
                exact ret_some rfl (by rw [← HE.out]; exact hown) hb2
end Go.Proofs.Ytkmbblooofmnpaa
