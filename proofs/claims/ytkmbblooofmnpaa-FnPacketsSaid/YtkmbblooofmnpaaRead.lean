/- ReadPacket of the program. -/
import Derived.Test.YtkmbblooofmnpaaPkt3
import Derived.Deep.RegionHeld3
import Derived.Deep.CutRange
import Derived.Deep.DeepCutAuto
namespace Go.Proofs.Ytkmbblooofmnpaa
open Go.RowKit Go.Deep

/-- How program and reference put one more nibble behind a number. -/
def opI (d n : Int) : Int := bits .or .i64 (wrap64 (d * 16)) n
def opS (d n : Int) : Int := wrap64 (wrap64 (d * 16) + n)
def dotOf (op : Int → Int → Int) (zs : List Int) (k : Nat) : Int := ((zs.drop (5 + 5 * k)).take 5).foldl op 0
def dotsOf (op : Int → Int → Int) (zs : List Int) (m : Nat) : List Int := (List.range m).map (dotOf op zs)
theorem dotsOf_succ (op : Int → Int → Int) (zs : List Int) (m : Nat) : dotsOf op zs (m + 1) = dotsOf op zs m ++ [dotOf op zs m] := by simp [dotsOf, List.range_succ]
theorem dotsOf_len (op : Int → Int → Int) (zs : List Int) (m : Nat) : (dotsOf op zs m).length = m := by simp [dotsOf]
def rdN (zs : List Int) : Nat := if zat zs 0 = 0 then (zat zs 4 + 1).toNat else 0
def rdPre (zs : List Int) : Bool := decide (7 ≤ zs.length) && (if zat zs 0 = 0 then inB (zat zs 4) 0 15 && decide (5 + 5 * (zat zs 4 + 1) ≤ (zs.length : Int)) else true)
def accO (op : Int → Int → Int) (zs : List Int) : Bool :=
  rdPre zs && pkB (zat zs 0) (op (zat zs 1) (zat zs 2)) (zat zs 3) (dotsOf op zs (rdN zs)) && decide (7 + 5 * rdN zs ≤ zs.length) && decide (pkF (zat zs 0) (op (zat zs 1) (zat zs 2)) (zat zs 3) (dotsOf op zs (rdN zs)) = zs.take (7 + 5 * rdN zs))
/-- What ReadPacket returns: nothing, or the packet whose nibbles stand at the list's head. -/
def RetRd (op : Int → Int → Int) (w : World) (zs : List Int) (e : Ending) (w' : World) : Prop :=
  (accO op zs = false ∧ e = .returned (.tuple #[.agg #[.int .i64 0, .int .i64 0, .int .i64 0, .slice none 0 0], .int .i64 0, .bool false]) ∧ Below w.heap.size w w') ∨
  (accO op zs = true ∧ ∃ A c, e = .returned (.tuple #[.agg #[.int .i64 (zat zs 0), .int .i64 (op (zat zs 1) (zat zs 2)), .int .i64 (zat zs 3), .slice A (rdN zs) c], .int .i64 (7 + 5 * rdN zs : Nat), .bool true]) ∧ Own w' w.heap.size w'.heap.size A (rdN zs) c (dotsOf op zs (rdN zs)) ∧ Below w.heap.size w w')
theorem rdN_le {zs : List Int} (h : rdPre zs = true) : rdN zs ≤ 16 := by
  unfold rdPre at h
  unfold rdN
  split
  · rename_i hk
    rw [if_pos hk] at h
    simp only [Bool.and_eq_true] at h
    have := inB_t.1 h.2.1
    omega
  · omega
theorem pkF_len7 {k f l : Int} {ds : List Int} (h : pkB k f l ds = true) : (pkF k f l ds).length = 7 + 5 * ds.length := by unfold pkF; rw [if_pos h]; simp [pkBody_len]; omega
theorem equal_any (A A' : Option Addr) (n n' c c' B B' : Nat) (xs ys : List Int) (w : World) (h : RI w B A n xs) (h' : RI w B' A' n' ys) (hn : n ≤ 4294967296) (hn' : n' ≤ 4294967296) :
    Calls Try.prog 50 #[.slice A n c, .slice A' n' c'] w fun e w' => e = .returned (.bool (decide (xs = ys))) ∧ ∃ q, w' = w.drewN q := by
  have L1 := Lib.hid h.len
  have L2 := Lib.hid h'.len
  by_cases hnn : n = n'
  · subst hnn
    go_enter Try.func50, Try.ntmps50
    go_wp2
    go_loopw [13] (fun i wr => ∃ k : Nat, k ≤ n ∧ i = .int .i64 k ∧ Hid (∀ j, j < k → zat xs j = zat ys j) ∧ ∃ q, wr = w.drewN q) (fun i _ => n - (intOf i).toNat)
    case atStart => exact ⟨0, Nat.zero_le _, rfl, Lib.hid (fun j hj => absurd hj (by omega)), 0, rfl⟩
    case round =>
      obtain ⟨k, hk, rfl, heq, q, rfl⟩ := hrel
      by_cases hlt : k < n
      · obtain ⟨b, off, rfl, hb, hc⟩ := h.at_ hlt
        obtain ⟨b', off', rfl, hb', hc'⟩ := h'.at_ hlt
        have hi1 : (0 : Int) ≤ (k : Int) := by omega
        have hi2 : (k : Int) < (n : Int) := by omega
        go_wp2
        by_cases he : zat xs k = zat ys k
        · have hne : (zat xs k != zat ys k) = false := by simp [he]
          have HE := Lib.hid he; clear he
          go_quiet (fail)
          go_wp2
          go_roundw
          case rel => exact ⟨k + 1, by omega, by go_num, Lib.hid (fun j hj => by rcases Nat.lt_succ_iff_lt_or_eq.1 hj with h1 | h1; exact heq.out j h1; subst h1; exact HE.out), _, rfl⟩
          case measure => simp [intOf]; omega
        · have hne : (zat xs k != zat ys k) = true := by simp [he]
          have HD := Lib.hid (show decide (xs = ys) = false by simp only [decide_eq_false_iff_not]; rintro rfl; exact he rfl)
          clear he
          go_quiet (fail)
          go_wp2
          go_ret
          exact ⟨ret_bool HD.out.symm, _, World.drewN_drewN _ _ _⟩
      · obtain rfl : k = n := by omega
        have HD := Lib.hid (show decide (xs = ys) = true by
          simp only [decide_eq_true_eq]
          exact list_eq_zat (L1.out.trans L2.out.symm) (fun j hj => heq.out j (by have := L1.out; omega)))
        go_wp2
        go_ret
        exact ⟨ret_bool HD.out.symm, _, rfl⟩
  · have hd : decide (xs = ys) = false := by
      simp only [decide_eq_false_iff_not]
      rintro rfl
      exact hnn (L1.out.symm.trans L2.out)
    have hne : ((n : Int) != (n' : Int)) = true := by simp; omega
    go_enter Try.func50, Try.ntmps50
    go_wp2
    go_ret
    exact ⟨by rw [hd]; rfl, 0, rfl⟩
set_option maxRecDepth 10000 in
set_option maxHeartbeats 4000000 in
theorem readPacket_i (A : Option Addr) (n c B : Nat) (zs : List Int) (w : World) (h : RI w B A n zs) (hB : B ≤ w.heap.size) (hn : n ≤ 4294967296) (hc : n ≤ c) :
    Calls Try.prog 15 #[.slice A n c] w (RetRd opI w zs) := by
  have hl := Lib.hid h.len
  by_cases h7 : 7 ≤ n
  case neg =>
    have HA := Lib.hid (show accO opI zs = false by simp [accO, rdPre, h.len, h7])
    have hd : decide ((n : Int) < 7) = true := by simp; omega
    go_enter Try.func15, Try.ntmps15
    go_wp2
    refine bodyPost_ret (v := .tuple #[.agg #[.int .i64 0, .int .i64 0, .int .i64 0, .slice none 0 0], .int .i64 0, .bool false]) (by simp [results, Try.results15, go_sem]) rfl (.inl ⟨HA.out, rfl, ?_⟩)
    exact (Below.refl _ _).alloc (Nat.le_refl _) _
  case pos =>
  obtain ⟨b, off, rfl, hb, c0⟩ := h.at_ (show 0 < n by omega)
  obtain ⟨b1, off1, e1, _, c1⟩ := h.at_ (show 1 < n by omega)
  obtain ⟨b2, off2, e2, _, c2⟩ := h.at_ (show 2 < n by omega)
  obtain ⟨b3, off3, e3, _, c3⟩ := h.at_ (show 3 < n by omega)
  obtain ⟨b4, off4, e4, _, c4⟩ := h.at_ (show 4 < n by omega)
  simp only [Option.some.injEq, Addr.mk.injEq, and_true] at e1 e2 e3 e4
  obtain ⟨rfl, rfl⟩ := e1
  obtain ⟨rfl, rfl⟩ := e2
  obtain ⟨rfl, rfl⟩ := e3
  obtain ⟨rfl, rfl⟩ := e4
  have hbw : b < w.heap.size := by omega
  have n0 : 0 < n := by omega
  have n1 : 1 < n := by omega
  have n2 : 2 < n := by omega
  have n3 : 3 < n := by omega
  have m1 : (1 : Int) < (n : Int) := by omega
  have m2 : (2 : Int) < (n : Int) := by omega
  have m3 : (3 : Int) < (n : Int) := by omega
  have m4 : (4 : Int) < (n : Int) := by omega
  have m5 : (5 : Int) ≤ (n : Int) := by omega
  have m0 : (0 : Int) < (n : Int) := by omega
  have hd7 : decide ((n : Int) < 7) = false := decide_eq_false (by omega)
  go_enter Try.func15, Try.ntmps15
  go_wp2_with fail
  have S0 : (w.alloc (.cells #[.int .i64 0, .int .i64 0, .int .i64 0, .slice none 0 0] 26)).drew.cell? ⟨b, off + 0, none⟩ = some (.int .i64 (zat zs 0)) := (World.cell?_alloc_lt w _ ⟨b, off + 0, none⟩ hbw).trans c0
  have S1 : (w.alloc (.cells #[.int .i64 0, .int .i64 0, .int .i64 0, .slice none 0 0] 26)).drew.cell? ⟨b, off + 1, none⟩ = some (.int .i64 (zat zs 1)) := (World.cell?_alloc_lt w _ ⟨b, off + 1, none⟩ hbw).trans c1
  have S2 : (w.alloc (.cells #[.int .i64 0, .int .i64 0, .int .i64 0, .slice none 0 0] 26)).drew.cell? ⟨b, off + 2, none⟩ = some (.int .i64 (zat zs 2)) := (World.cell?_alloc_lt w _ ⟨b, off + 2, none⟩ hbw).trans c2
  have S3 : (w.alloc (.cells #[.int .i64 0, .int .i64 0, .int .i64 0, .slice none 0 0] 26)).drew.cell? ⟨b, off + 3, none⟩ = some (.int .i64 (zat zs 3)) := (World.cell?_alloc_lt w _ ⟨b, off + 3, none⟩ hbw).trans c3
  have D0 : ∀ o, ((w.alloc (.cells #[.int .i64 0, .int .i64 0, .int .i64 0, .slice none 0 0] 26)).alloc o).drew.cell? ⟨b, off + 0, none⟩ = some (.int .i64 (zat zs 0)) := fun o => (World.cell?_alloc_lt _ o ⟨b, off + 0, none⟩ (by simp; omega)).trans ((World.cell?_alloc_lt w _ ⟨b, off + 0, none⟩ hbw).trans c0)
  have D1 : ∀ o, ((w.alloc (.cells #[.int .i64 0, .int .i64 0, .int .i64 0, .slice none 0 0] 26)).alloc o).drew.cell? ⟨b, off + 1, none⟩ = some (.int .i64 (zat zs 1)) := fun o => (World.cell?_alloc_lt _ o ⟨b, off + 1, none⟩ (by simp; omega)).trans ((World.cell?_alloc_lt w _ ⟨b, off + 1, none⟩ hbw).trans c1)
  have D2 : ∀ o, ((w.alloc (.cells #[.int .i64 0, .int .i64 0, .int .i64 0, .slice none 0 0] 26)).alloc o).drew.cell? ⟨b, off + 2, none⟩ = some (.int .i64 (zat zs 2)) := fun o => (World.cell?_alloc_lt _ o ⟨b, off + 2, none⟩ (by simp; omega)).trans ((World.cell?_alloc_lt w _ ⟨b, off + 2, none⟩ hbw).trans c2)
  have D3 : ∀ o, ((w.alloc (.cells #[.int .i64 0, .int .i64 0, .int .i64 0, .slice none 0 0] 26)).alloc o).drew.cell? ⟨b, off + 3, none⟩ = some (.int .i64 (zat zs 3)) := fun o => (World.cell?_alloc_lt _ o ⟨b, off + 3, none⟩ (by simp; omega)).trans ((World.cell?_alloc_lt w _ ⟨b, off + 3, none⟩ hbw).trans c3)
  go_region_held3 (fun w' => w'.cell? ⟨b, off, none⟩ = some (.int .i64 (zat zs 0)) ∧ w'.cell? ⟨b, off + 1, none⟩ = some (.int .i64 (zat zs 1)) ∧ w'.cell? ⟨b, off + 2, none⟩ = some (.int .i64 (zat zs 2)) ∧ w'.cell? ⟨b, off + 3, none⟩ = some (.int .i64 (zat zs 3)))
    (first | exact ⟨S0, S1, S2, S3⟩ | exact ⟨D0 _, D1 _, D2 _, D3 _⟩)
    (fail)
  rename_i HH
  clear HH S0 S1 S2 S3 D0 D1 D2 D3 c0 c1 c2 c3
  have HE : bits .or .i64 (IntKind.i64.wrap (zat zs 1 * 16)) (zat zs 2) = opI (zat zs 1) (zat zs 2) := by unfold opI wrap64; rw [IntKind.wrap_i64]
  rw [HE]
  clear HE
  have HW : IntKind.i64.wrap (zat zs 1 * 16) = wrap64 (zat zs 1 * 16) := by unfold wrap64; rw [IntKind.wrap_i64]
  rw [HW]
  clear HW
  have G0 : ((w.alloc (.cells #[.int .i64 0, .int .i64 0, .int .i64 0, .slice none 0 0] 26)).alloc (.cells #[.int .i64 (zat zs 0), .int .i64 (opI (zat zs 1) (zat zs 2)), .int .i64 (zat zs 3), .slice none 0 0] 26)).drew.heap[w.heap.size]? = some (.cells #[.int .i64 0, .int .i64 0, .int .i64 0, .slice none 0 0] 26) := (Below.heap_alloc (w.alloc (.cells #[.int .i64 0, .int .i64 0, .int .i64 0, .slice none 0 0] 26)) (.cells #[.int .i64 (zat zs 0), .int .i64 (opI (zat zs 1) (zat zs 2)), .int .i64 (zat zs 3), .slice none 0 0] 26) w.heap.size (by simp)).trans (heap_alloc_new w (.cells #[.int .i64 0, .int .i64 0, .int .i64 0, .slice none 0 0] 26))
  have G1 : ((w.alloc (.cells #[.int .i64 0, .int .i64 0, .int .i64 0, .slice none 0 0] 26)).alloc (.cells #[.int .i64 (zat zs 0), .int .i64 (opI (zat zs 1) (zat zs 2)), .int .i64 (zat zs 3), .slice none 0 0] 26)).drew.heap[w.heap.size + 1]? = some (.cells #[.int .i64 (zat zs 0), .int .i64 (opI (zat zs 1) (zat zs 2)), .int .i64 (zat zs 3), .slice none 0 0] 26) := by have := heap_alloc_new (w.alloc (.cells #[.int .i64 0, .int .i64 0, .int .i64 0, .slice none 0 0] 26)) (.cells #[.int .i64 (zat zs 0), .int .i64 (opI (zat zs 1) (zat zs 2)), .int .i64 (zat zs 3), .slice none 0 0] 26); rw [World.size_alloc] at this; exact this
  have K2 : Below w.heap.size w ((w.alloc (.cells #[.int .i64 0, .int .i64 0, .int .i64 0, .slice none 0 0] 26)).alloc (.cells #[.int .i64 (zat zs 0), .int .i64 (opI (zat zs 1) (zat zs 2)), .int .i64 (zat zs 3), .slice none 0 0] 26)).drew := (((Below.refl w.heap.size w).alloc (Nat.le_refl _) (.cells #[.int .i64 0, .int .i64 0, .int .i64 0, .slice none 0 0] 26)).alloc (by simp) (.cells #[.int .i64 (zat zs 0), .int .i64 (opI (zat zs 1) (zat zs 2)), .int .i64 (zat zs 3), .slice none 0 0] 26)).drew
  have s2 : w.heap.size + 2 ≤ ((w.alloc (.cells #[.int .i64 0, .int .i64 0, .int .i64 0, .slice none 0 0] 26)).alloc (.cells #[.int .i64 (zat zs 0), .int .i64 (opI (zat zs 1) (zat zs 2)), .int .i64 (zat zs 3), .slice none 0 0] 26)).drew.heap.size := by simp
  generalize ((w.alloc (.cells #[.int .i64 0, .int .i64 0, .int .i64 0, .slice none 0 0] 26)).alloc (.cells #[.int .i64 (zat zs 0), .int .i64 (opI (zat zs 1) (zat zs 2)), .int .i64 (zat zs 3), .slice none 0 0] 26)).drew = w2 at G0 G1 K2 s2 ⊢
  obtain ⟨f, hf⟩ : ∃ f, f = opI (zat zs 1) (zat zs 2) := ⟨_, rfl⟩
  rw [← hf] at G1 ⊢
  have HFF := Lib.hid hf
  clear hf
  have g0 := Lib.hid G0
  obtain ⟨p0, p1, p2, p3, _, _, _, _⟩ := cells4 G1
  go_upto_if 33 with fail
  go_cut [] (fun wr => ∃ (AD : Option Addr) (cD : Nat), Hid (wr.heap[w.heap.size + 1]? = some (.cells #[.int .i64 (zat zs 0), .int .i64 f, .int .i64 (zat zs 3), .slice AD (rdN zs) cD] 26)) ∧ Hid (wr.heap[w.heap.size]? = some (.cells #[.int .i64 0, .int .i64 0, .int .i64 0, .slice none 0 0] 26)) ∧ Own wr (w.heap.size + 2) wr.heap.size AD (rdN zs) cD (dotsOf opI zs (rdN zs)) ∧ Hid (rdPre zs = true) ∧ Below w.heap.size w wr ∧ w.heap.size + 2 ≤ wr.heap.size)
  case first =>
    by_cases hk : zat zs 0 = 0
    · have hkb : (zat zs 0 == 0) = true := by simp [hk]
      have h4n : 4 < n := by omega
      have hc5 : ¬ c = 5 := by omega
      have hc5' : 5 ≤ c := by omega
      have n5 : 5 ≤ n := by omega
      obtain ⟨_, _, _, _, f0, f1, f2, f3⟩ := cells4 G0
      obtain ⟨q0, q1, q2, q3, _, _, _, _⟩ := cells4 G0
      have c4w := (K2.cell (p := ⟨b, off + 4, none⟩) hbw).trans c4
      have J1 := heap_setCell_same (j := 0) G0 (.int .i64 0)
      have J2 := heap_setCell_same (j := 1) J1 (.int .i64 0)
      have J3 := heap_setCell_same (j := 2) J2 (.int .i64 0)
      have J4 := heap_setCell_same (j := 3) J3 (.slice none 0 0)
      have j1 := (cells4 J1).1
      have j2 := (cells4 J2).2.1
      have j3 := (cells4 J3).2.2.1
      have j4 := (cells4 J4).2.2.2.1
      clear J1 J2 J3 J4
      cases h4 : inB (zat zs 4) 0 15
      · have HA := Lib.hid (show accO opI zs = false by simp [accO, rdPre, hk, h4])
        clear hk
        go_wp2_with (go_at_call 49; refine (within_any _ _ _ _).mono ?_; rintro e w' ⟨rfl, rfl⟩)
        refine bodyPost_ret (v := .tuple #[.agg #[.int .i64 0, .int .i64 0, .int .i64 0, .slice none 0 0], .int .i64 0, .bool false]) (by simp [results, Try.results15, go_sem, j1, j2, j3, j4]) rfl (.inl ⟨HA.out, rfl, ?_⟩)
        exact (((K2.setCell (by simp) _).setCell (by simp) _).setCell (by simp) _).setCell (by simp) _
      · have b4 := inB_t.1 h4
        obtain ⟨m, hm⟩ : ∃ m : Nat, zat zs 4 = (m : Int) := ⟨(zat zs 4).toNat, by omega⟩
        have HN := Lib.hid (show rdN zs = m + 1 by unfold rdN; rw [if_pos hk, hm]; omega)
        have hm15 : m ≤ 15 := by omega
        by_cases hlen : 5 + 5 * (m + 1) ≤ n
        · have HP := Lib.hid (show rdPre zs = true by unfold rdPre; rw [if_pos hk, h4, hm, h.len]; simp; omega)
          rw [hm] at c4w h4
          have hd : decide ((n : Int) - 5 < 5 * ((m : Int) + 1)) = false := by simp; omega
          have hd2 : decide (((n - 5 : Nat) : Int) < 5 * ((m : Int) + 1)) = false := decide_eq_false (by omega)
          clear hk hm b4
          go_wp2_with (go_at_call 49; refine (within_any _ _ _ _).mono ?_; rintro e w' ⟨rfl, rfl⟩)
          clear hd hd2 j1 j2 j3 j4 q0 q1 q2 q3 f0 f1 f2 f3 p0 p1 p2 p3
          go_loopw [6, 56] (fun v i wr => ∃ j : Nat, j ≤ m + 1 ∧ i = .int .i64 j ∧ ∃ (AR AD : Option Addr) (cD nr cr : Nat), v = .slice AR nr cr ∧ Hid (nr = n - 5 - 5 * j ∧ cr = c - 5 - 5 * j) ∧ Hid (j ≤ m → AR = some ⟨b, off + 5 + 5 * j, none⟩) ∧ Hid (wr.heap[w.heap.size + 1]? = some (.cells #[.int .i64 (zat zs 0), .int .i64 f, .int .i64 (zat zs 3), .slice AD j cD] 26)) ∧ Hid (wr.heap[w.heap.size]? = some (.cells #[.int .i64 0, .int .i64 0, .int .i64 0, .slice none 0 0] 26)) ∧ Own wr (w.heap.size + 2) wr.heap.size AD j cD (dotsOf opI zs j) ∧ Below w.heap.size w wr ∧ w.heap.size + 2 ≤ wr.heap.size) (fun _ i _ => m + 1 - (intOf i).toNat)
          case atStart => exact ⟨0, Nat.zero_le _, rfl, _, none, 0, _, _, rfl, Lib.hid ⟨by omega, by omega⟩, Lib.hid (fun _ => rfl), Lib.hid G1, g0, Own.nil, K2, s2⟩
          case round =>
            clear G1 g0 K2 s2 G0 c4w
            obtain ⟨j, hj, rfl, AR, AD, cD, nr, cr, rfl, hnc, hAR, H1, H0, hoD, K, hs⟩ := hrel
            obtain ⟨p0, p1, p2, p3, _, _, _, pf3⟩ := cells4 H1.out
            by_cases hjm : j ≤ m
            · obtain rfl := hAR.out hjm
              have hjlt : (j : Int) < (m : Int) + 1 := by omega
              have r1 : 5 ≤ nr := by have := hnc.out; omega
              have r2 : 5 ≤ cr := by have := hnc.out; omega
              have r1' : (5 : Int) ≤ (nr : Int) := by omega
              have r2' : (5 : Int) ≤ (cr : Int) := by omega
              have HD := Lib.hid (dotsOf_succ opI zs j)
              have hR := h.below K hB
              go_wp2_with fail
              go_loopw [7, 61] (fun v i wi => ∃ t : Nat, t ≤ 5 ∧ i = .int .i64 t ∧ ∃ x : Int, v = .int .i64 x ∧ Hid (x = ((zs.drop (5 + 5 * j)).take t).foldl opI 0) ∧ wi = wr) (fun _ i _ => 5 - (intOf i).toNat)
              case atStart => exact ⟨0, Nat.zero_le _, rfl, 0, rfl, Lib.hid rfl, rfl⟩
              case round =>
                obtain ⟨t, ht, rfl, x, rfl, hx, rfl⟩ := hrel
                by_cases ht5 : t < 5
                · obtain ⟨b', off', e', _, hct⟩ := hR.at_ (show 5 + 5 * j + t < n by omega)
                  simp only [Option.some.injEq, Addr.mk.injEq, and_true] at e'
                  obtain ⟨rfl, rfl⟩ := e'
                  rw [show off + (5 + 5 * j + t) = off + 5 + 5 * j + t by omega] at hct
                  have HX := Lib.hid (show opI x (zat zs (5 + 5 * j + t)) = ((zs.drop (5 + 5 * j)).take (t + 1)).foldl opI 0 by
                    have hlt : t < (zs.drop (5 + 5 * j)).length := by have := hl.out; simp; omega
                    rw [take_zat hlt, List.foldl_append, ← hx.out]
                    have : zat (zs.drop (5 + 5 * j)) t = zat zs (5 + 5 * j + t) := by rw [zat_eq hlt, zat_eq (by have := hl.out; omega)]; simp
                    rw [this]; rfl)
                  have hi1 : (0 : Int) ≤ (t : Int) := by omega
                  have hi2 : (t : Int) < 5 := by omega
                  go_wp2
                  go_roundw
                  case rel => exact ⟨t + 1, by omega, by go_num, _, rfl, HX, trivial⟩
                  case measure => simp [intOf]; omega
                · obtain rfl : t = 5 := by omega
                  have HXD := Lib.hid (show x = dotOf opI zs j from hx.out)
                  clear hx
                  have hHp := H1.out
                  have hHz := H0.out
                  by_cases hlast : cr = 5
                  all_goals
                    go_wp2_with (at_builtin; refine wpList_append_ints rfl _ _ _ rfl Try.underlying24 infoInt _ _ _ _ _ _ rfl (hoD.alloc _) _ _ _ _ _ rfl (ri_one _ _ _) (by omega) (by simp; omega) ?_; intro A3 c3 w3 ho3 hoff3 hb3; have H3 := (hb3.block (w.heap.size + 1) (by omega)).trans ((Below.heap_alloc wr (.cells #[.int .i64 x] 3) _ (by omega)).trans hHp); have H4 := (hb3.block w.heap.size (by omega)).trans ((Below.heap_alloc wr (.cells #[.int .i64 x] 3) _ (by omega)).trans hHz); (obtain ⟨y0, y1, y2, y3, _, _, _, yf⟩ := cells4 H3))
                    have s3 := hb3.size
                    simp only [World.size_alloc] at s3
                    have K3 := (K.alloc (by omega) (.cells #[.int .i64 x] 3)).trans (hb3.mono (by omega))
                    rw [HXD.out, ← HD.out] at ho3
                    go_roundw
                    case rel => exact ⟨j + 1, by omega, by go_num, _, A3, c3, _, _, rfl, Lib.hid ⟨by have := hnc.out; omega, by have := hnc.out; omega⟩, Lib.hid (fun hh => by have := hnc.out; first | (exfalso; omega) | (simp only [Option.some.injEq, Addr.mk.injEq, and_true, true_and]; omega)), Lib.hid (heap_setCell_same (j := 3) H3 _), Lib.hid (heap_far H4 (by simp) _), by simp only [World.size_setCell]; exact OwnV.far ho3 (by simp) _, K3.setCell (by simp) _, by simp; omega⟩
                    case measure => simp [intOf]; omega
            · obtain rfl : j = m + 1 := by omega
              go_wp2
              go_meet
              rw [HN.out]
              exact ⟨AD, cD, H1, H0, hoD, HP, K, hs⟩
        · have HA := Lib.hid (show accO opI zs = false by unfold accO rdPre; rw [if_pos hk, hm, h.len]; simp; intros; omega)
          rw [hm] at c4w h4
          have hd : decide ((n : Int) - 5 < 5 * ((m : Int) + 1)) = true := by simp; omega
          have hd2 : decide (((n - 5 : Nat) : Int) < 5 * ((m : Int) + 1)) = true := decide_eq_true (by omega)
          clear hk hm b4
          go_wp2_with (go_at_call 49; refine (within_any _ _ _ _).mono ?_; rintro e w' ⟨rfl, rfl⟩)
          refine bodyPost_ret (v := .tuple #[.agg #[.int .i64 0, .int .i64 0, .int .i64 0, .slice none 0 0], .int .i64 0, .bool false]) (by simp [results, Try.results15, go_sem, j1, j2, j3, j4]) rfl (.inl ⟨HA.out, rfl, ?_⟩)
          exact (((K2.setCell (by simp) _).setCell (by simp) _).setCell (by simp) _).setCell (by simp) _
    · have hkb : (zat zs 0 == 0) = false := by simp [hk]
      have HN := Lib.hid (show rdN zs = 0 by unfold rdN; rw [if_neg hk])
      have HP := Lib.hid (show rdPre zs = true by simp [rdPre, h.len, h7, hk])
      clear hk
      go_wp2
      go_meet
      rw [HN.out]
      exact ⟨none, 0, Lib.hid G1, g0, Own.nil, HP, K2, s2⟩
  case rest =>
    obtain ⟨AD, cD, H1, H0, hoD, hpre, K, hs⟩ := hcut
    have hN16 := rdN_le hpre.out
    clear G0 G1 g0 K2 s2 p0 p1 p2 p3 c4
    obtain ⟨p0, p1, p2, p3, _, _, _, _⟩ := cells4 H1.out
    go_wp2_with fail
    refine (packetNibbles_i _ _ _ AD (rdN zs) cD _ (dotsOf opI zs (rdN zs)) _ hoD.ri (Nat.le_refl _) (by omega)).mono ?_
    rintro e w3 ⟨AG, nG, cG, rfl, hoG, hb3⟩
    have s3 := hb3.size
    have H3 := (hb3.block (w.heap.size + 1) (by omega)).trans H1.out
    have H4 := (hb3.block w.heap.size (by omega)).trans H0.out
    have K3 := bthen K hb3 (by omega)
    have oD3 := hoD.below hb3 (Nat.le_refl _)
    have hR := h.below K3 hB
    clear p0 p1 p2 p3 hoD hb3 K
    obtain ⟨p0, p1, p2, p3, _, _, _, _⟩ := cells4 H3
    obtain ⟨q0, q1, q2, q3, f0, f1, f2, f3⟩ := cells4 H4
    cases hp : pkB (zat zs 0) f (zat zs 3) (dotsOf opI zs (rdN zs))
    · have HA := Lib.hid (show accO opI zs = false by unfold accO; rw [← HFF.out, hp]; simp)
      have J1 := heap_setCell_same (j := 0) H4 (.int .i64 0)
      have J2 := heap_setCell_same (j := 1) J1 (.int .i64 0)
      have J3 := heap_setCell_same (j := 2) J2 (.int .i64 0)
      have J4 := heap_setCell_same (j := 3) J3 (.slice none 0 0)
      have j1 := (cells4 J1).1
      have j2 := (cells4 J2).2.1
      have j3 := (cells4 J3).2.2.1
      have j4 := (cells4 J4).2.2.2.1
      clear J1 J2 J3 J4
      go_wp2
      refine bodyPost_ret (v := .tuple #[.agg #[.int .i64 0, .int .i64 0, .int .i64 0, .slice none 0 0], .int .i64 0, .bool false]) (by simp [results, Try.results15, go_sem, j1, j2, j3, j4]) rfl (.inl ⟨HA.out, rfl, ?_⟩)
      exact (((K3.setCell (by simp) _).setCell (by simp) _).setCell (by simp) _).setCell (by simp) _
    · obtain rfl : nG = 7 + 5 * rdN zs := hoG.len.symm.trans ((pkF_len7 hp).trans (by rw [dotsOf_len]))
      by_cases hle : 7 + 5 * rdN zs ≤ n
      · have hi1 : ((7 + 5 * rdN zs : Nat) : Int) ≤ (n : Int) := by omega
        have hi2 : 7 + 5 * rdN zs ≤ c := by omega
        have hi3 : ¬ (n : Int) < ((7 + 5 * rdN zs : Nat) : Int) := by omega
        have hi4 : ¬ n < 7 + 5 * rdN zs := by omega
        by_cases heq : pkF (zat zs 0) f (zat zs 3) (dotsOf opI zs (rdN zs)) = zs.take (7 + 5 * rdN zs)
        · have HA := Lib.hid (show accO opI zs = true by unfold accO; rw [← HFF.out, hp, heq, hpre.out, h.len]; simp [hle])
          have HEQ := Lib.hid (show decide (pkF (zat zs 0) f (zat zs 3) (dotsOf opI zs (rdN zs)) = zs.take (7 + 5 * rdN zs)) = true by simp [heq])
          clear heq
          go_wp2_with (go_at_call 50; refine (equal_any AG _ _ _ cG _ _ _ _ (zs.take (7 + 5 * rdN zs)) _ hoG.ri (hR.take hle) (by omega) (by omega)).mono ?_; rw [HEQ.out]; rintro e w4 ⟨rfl, q4, rfl⟩)
          have J1 := heap_setCell_same (j := 0) (show (w3.drewN q4).heap[w.heap.size]? = _ from H4) (.int .i64 (zat zs 0))
          have J2 := heap_setCell_same (j := 1) J1 (.int .i64 f)
          have J3 := heap_setCell_same (j := 2) J2 (.int .i64 (zat zs 3))
          have J4 := heap_setCell_same (j := 3) J3 (.slice AD (rdN zs) cD)
          have j1 := (cells4 J1).1
          have j2 := (cells4 J2).2.1
          have j3 := (cells4 J3).2.2.1
          have j4 := (cells4 J4).2.2.2.1
          clear J1 J2 J3 J4
          refine bodyPost_ret (v := .tuple #[.agg #[.int .i64 (zat zs 0), .int .i64 f, .int .i64 (zat zs 3), .slice AD (rdN zs) cD], .int .i64 (7 + 5 * rdN zs : Nat), .bool true]) (by simp [results, Try.results15, go_sem, j1, j2, j3, j4]) rfl (.inr ⟨HA.out, AD, cD, by rw [HFF.out], ?_, ?_⟩)
          · simp only [World.size_setCell]
            exact OwnV.mono (OwnV.far (OwnV.far (OwnV.far (OwnV.far (OwnV.drewN oD3 q4) (by simp) _) (by simp) _) (by simp) _) (by simp) _) (by omega) (by show wc.heap.size ≤ w3.heap.size; omega)
          · exact ((((below_drewN K3 q4).setCell (by simp) _).setCell (by simp) _).setCell (by simp) _).setCell (by simp) _
        · have HA := Lib.hid (show accO opI zs = false by unfold accO; rw [← HFF.out]; simp [heq])
          have HEQ := Lib.hid (show decide (pkF (zat zs 0) f (zat zs 3) (dotsOf opI zs (rdN zs)) = zs.take (7 + 5 * rdN zs)) = false by simp [heq])
          clear heq
          go_wp2_with (go_at_call 50; refine (equal_any AG _ _ _ cG _ _ _ _ (zs.take (7 + 5 * rdN zs)) _ hoG.ri (hR.take hle) (by omega) (by omega)).mono ?_; rw [HEQ.out]; rintro e w4 ⟨rfl, q4, rfl⟩)
          have J1 := heap_setCell_same (j := 0) (show (w3.drewN q4).heap[w.heap.size]? = _ from H4) (.int .i64 0)
          have J2 := heap_setCell_same (j := 1) J1 (.int .i64 0)
          have J3 := heap_setCell_same (j := 2) J2 (.int .i64 0)
          have J4 := heap_setCell_same (j := 3) J3 (.slice none 0 0)
          have j1 := (cells4 J1).1
          have j2 := (cells4 J2).2.1
          have j3 := (cells4 J3).2.2.1
          have j4 := (cells4 J4).2.2.2.1
          clear J1 J2 J3 J4
          refine bodyPost_ret (v := .tuple #[.agg #[.int .i64 0, .int .i64 0, .int .i64 0, .slice none 0 0], .int .i64 0, .bool false]) (by simp [results, Try.results15, go_sem, j1, j2, j3, j4]) rfl (.inl ⟨HA.out, rfl, ?_⟩)
          exact ((((below_drewN K3 q4).setCell (by simp) _).setCell (by simp) _).setCell (by simp) _).setCell (by simp) _
      · have HA := Lib.hid (show accO opI zs = false by unfold accO; rw [h.len]; simp [hle])
        have hi1 : (n : Int) < ((7 + 5 * rdN zs : Nat) : Int) := by omega
        have hi4 : n < 7 + 5 * rdN zs := by omega
        have J1 := heap_setCell_same (j := 0) H4 (.int .i64 0)
        have J2 := heap_setCell_same (j := 1) J1 (.int .i64 0)
        have J3 := heap_setCell_same (j := 2) J2 (.int .i64 0)
        have J4 := heap_setCell_same (j := 3) J3 (.slice none 0 0)
        have j1 := (cells4 J1).1
        have j2 := (cells4 J2).2.1
        have j3 := (cells4 J3).2.2.1
        have j4 := (cells4 J4).2.2.2.1
        clear J1 J2 J3 J4
        go_wp2
        refine bodyPost_ret (v := .tuple #[.agg #[.int .i64 0, .int .i64 0, .int .i64 0, .slice none 0 0], .int .i64 0, .bool false]) (by simp [results, Try.results15, go_sem, j1, j2, j3, j4]) rfl (.inl ⟨HA.out, rfl, ?_⟩)
        exact (((K3.setCell (by simp) _).setCell (by simp) _).setCell (by simp) _).setCell (by simp) _
end Go.Proofs.Ytkmbblooofmnpaa
