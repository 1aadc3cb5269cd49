/- ReadPacket of the reference. -/
import Derived.Test.YtkmbblooofmnpaaRead
namespace Go.Proofs.Ytkmbblooofmnpaa
open Go.RowKit Go.Deep
theorem packetLength_sx (k d : Int) (w : World) :
    Calls Try.prog 73 #[.int .i64 k, .int .i64 d] w fun e w' => e = .returned (.int .i64 (packLen k d)) ∧ w = w' := by
  cases h : inB d 1 16
  · have hx := inB_f.1 h
    by_cases d0 : d = 0
    · subst d0
      by_cases k0 : k = 0
      · subst k0
        go_enter Try.func73, Try.ntmps73
        go_wp2_with (go_at_call 58; refine (l01In_any _ _ _ _).mono ?_; rintro e w' ⟨rfl, rfl⟩)
        all_goals (go_ret; exact ⟨by simp [packLen, *], rfl⟩)
      · have k0' : (k == 0) = false := by simp [k0]
        by_cases k1 : k = 1
        · subst k1
          go_enter Try.func73, Try.ntmps73
          go_wp2_with (go_at_call 58; refine (l01In_any _ _ _ _).mono ?_; rintro e w' ⟨rfl, rfl⟩)
          all_goals (go_ret; exact ⟨by simp [packLen, *], rfl⟩)
        · have k1' : (k == 1) = false := by simp [k1]
          by_cases k2 : k = 2
          · subst k2
            go_enter Try.func73, Try.ntmps73
            go_wp2_with (go_at_call 58; refine (l01In_any _ _ _ _).mono ?_; rintro e w' ⟨rfl, rfl⟩)
            all_goals (go_ret; exact ⟨by simp [packLen, *], rfl⟩)
          · have k2' : (k == 2) = false := by simp [k2]
            go_enter Try.func73, Try.ntmps73
            go_wp2_with (go_at_call 58; refine (l01In_any _ _ _ _).mono ?_; rintro e w' ⟨rfl, rfl⟩)
            all_goals (go_ret; exact ⟨by simp [packLen, *], rfl⟩)
    · have d0' : (d == 0) = false := by simp [d0]
      have hp : packLen k d = -1 := by simp [packLen, h, d0]
      by_cases k0 : k = 0
      · subst k0
        go_enter Try.func73, Try.ntmps73
        go_wp2_with (go_at_call 58; refine (l01In_any _ _ _ _).mono ?_; rintro e w' ⟨rfl, rfl⟩)
        all_goals (go_ret; exact ⟨ret_int hp.symm, rfl⟩)
      · have k0' : (k == 0) = false := by simp [k0]
        go_enter Try.func73, Try.ntmps73
        go_wp2_with (go_at_call 58; refine (l01In_any _ _ _ _).mono ?_; rintro e w' ⟨rfl, rfl⟩)
        all_goals (go_ret; exact ⟨ret_int hp.symm, rfl⟩)
  · have hx := inB_t.1 h
    have d0 : ((d : Int) == 0) = false := by simp; omega
    by_cases k0 : k = 0
    · subst k0
      have hp : packLen 0 d = 7 + 5 * d := by simp [packLen, h]
      go_enter Try.func73, Try.ntmps73
      go_wp2_with (go_at_call 58; refine (l01In_any _ _ _ _).mono ?_; rintro e w' ⟨rfl, rfl⟩)
      all_goals (go_ret; exact ⟨ret_int hp.symm, rfl⟩)
    · have k0' : (k == 0) = false := by simp [k0]
      have hp : packLen k d = -1 := by simp [packLen, k0']; omega
      go_enter Try.func73, Try.ntmps73
      go_wp2_with (go_at_call 58; refine (l01In_any _ _ _ _).mono ?_; rintro e w' ⟨rfl, rfl⟩)
      all_goals (go_ret; exact ⟨ret_int hp.symm, rfl⟩)
theorem l05Ints_any (A A' : Option Addr) (n n' c c' B B' : Nat) (xs ys : List Int) (w : World) (h : RI w B A n xs) (h' : RI w B' A' n' ys) (hn : n ≤ 4294967296) (hn' : n' ≤ 4294967296) :
    Calls Try.prog 74 #[.slice A n c, .slice A' n' c'] w fun e w' => e = .returned (.bool (decide (xs = ys))) ∧ ∃ q, w' = w.drewN q := by
  have L1 := Lib.hid h.len
  have L2 := Lib.hid h'.len
  by_cases hnn : n = n'
  · subst hnn
    go_enter Try.func74, Try.ntmps74
    go_wp2
    go_loopw [5] (fun i wr => ∃ k : Nat, k ≤ n ∧ i = .int .i64 k ∧ Hid (∀ j, j < k → zat xs j = zat ys j) ∧ ∃ q, wr = w.drewN q) (fun i _ => n - (intOf i).toNat)
    case atStart => exact ⟨0, Nat.zero_le _, rfl, Lib.hid (fun j hj => absurd hj (by omega)), 0, rfl⟩
    case round =>
      obtain ⟨k, hk, rfl, heq, q, rfl⟩ := hrel
      by_cases hlt : k < n
      · obtain ⟨b, off, rfl, hb, hc⟩ := h.at_ hlt
        obtain ⟨b', off', rfl, hb', hc'⟩ := h'.at_ hlt
        have hi1 : (0 : Int) ≤ (k : Int) := by omega
        have hi2 : (k : Int) < (n : Int) := by omega
        go_wp2
        by_cases he : zat xs k = zat ys k
        · have hne : (zat xs k != zat ys k) = false := by simp [he]
          have HE := Lib.hid he; clear he
          go_quiet (fail)
          go_wp2
          go_roundw
          case rel => exact ⟨k + 1, by omega, by go_num, Lib.hid (fun j hj => by rcases Nat.lt_succ_iff_lt_or_eq.1 hj with h1 | h1; exact heq.out j h1; subst h1; exact HE.out), _, rfl⟩
          case measure => simp [intOf]; omega
        · have hne : (zat xs k != zat ys k) = true := by simp [he]
          have HD := Lib.hid (show decide (xs = ys) = false by simp only [decide_eq_false_iff_not]; rintro rfl; exact he rfl)
          clear he
          go_quiet (fail)
          go_wp2
          go_ret
          exact ⟨ret_bool HD.out.symm, _, World.drewN_drewN _ _ _⟩
      · obtain rfl : k = n := by omega
        have HD := Lib.hid (show decide (xs = ys) = true by
          simp only [decide_eq_true_eq]
          exact list_eq_zat (L1.out.trans L2.out.symm) (fun j hj => heq.out j (by have := L1.out; omega)))
        go_wp2
        go_ret
        exact ⟨ret_bool HD.out.symm, _, rfl⟩
  · have hd : decide (xs = ys) = false := by
      simp only [decide_eq_false_iff_not]
      rintro rfl
      exact hnn (L1.out.symm.trans L2.out)
    have hne : ((n : Int) != (n' : Int)) = true := by simp; omega
    go_enter Try.func74, Try.ntmps74
    go_wp2
    go_ret
    exact ⟨by rw [hd]; rfl, 0, rfl⟩
/-- What the reference's first look at the list says. -/
def rdD (zs : List Int) : Int := if zat zs 0 = 0 then wrap64 (zat zs 4 + 1) else 0
theorem rdD_in {zs : List Int} (h4 : I64 (zat zs 4)) (h7 : 7 ≤ zs.length) (hp : ¬ packLen (zat zs 0) (rdD zs) < 0) (hle : ¬ (zs.length : Int) < packLen (zat zs 0) (rdD zs)) :
    rdD zs = (rdN zs : Int) ∧ packLen (zat zs 0) (rdD zs) = ((7 + 5 * rdN zs : Nat) : Int) ∧ rdPre zs = true ∧ 7 + 5 * rdN zs ≤ zs.length := by
  unfold packLen at hp hle ⊢
  split at hp
  · rename_i hx
    simp only [Bool.and_eq_true, beq_iff_eq] at hx
    obtain ⟨hk, hd⟩ := hx
    have hb := inB_t.1 hd
    have hD : rdD zs = wrap64 (zat zs 4 + 1) := by unfold rdD; rw [if_pos hk]
    have h5 : -9223372036854775808 ≤ zat zs 4 ∧ zat zs 4 ≤ 9223372036854775807 := h4
    have hw : zat zs 4 + 1 = rdD zs := by rw [hD] at hb ⊢; unfold wrap64 at hb ⊢; omega
    have hN : rdN zs = (rdD zs).toNat := by unfold rdN; rw [if_pos hk, hw]
    have hin : inB (zat zs 4) 0 15 = true := inB_t.2 (by omega)
    rw [if_pos (by simp [hk, hd])] at hle
    rw [if_pos (by simp [hk, hd])]
    refine ⟨by omega, by omega, ?_, by omega⟩
    unfold rdPre
    rw [if_pos hk, hin]
    simp
    omega
  · split at hp
    · rename_i hx1 hx
      simp only [Bool.and_eq_true, Bool.or_eq_true, beq_iff_eq] at hx
      have hk : ¬ zat zs 0 = 0 := by omega
      have hN : rdN zs = 0 := by unfold rdN; rw [if_neg hk]
      rw [if_neg (by simpa using hx1), if_pos (by simpa using hx)]
      refine ⟨by rw [hN, hx.2]; rfl, by rw [hN]; rfl, ?_, by omega⟩
      unfold rdPre
      rw [if_neg hk]
      simp; omega
    · omega
theorem rdD_out {zs : List Int} (h : packLen (zat zs 0) (rdD zs) < 0 ∨ (zs.length : Int) < packLen (zat zs 0) (rdD zs)) : accO opS zs = false := by
  cases ha : accO opS zs
  · rfl
  · exfalso
    simp only [accO, Bool.and_eq_true, decide_eq_true_eq] at ha
    obtain ⟨⟨⟨h1, h2⟩, h3⟩, _⟩ := ha
    obtain ⟨_, _, _, h4⟩ := pkB_t h2
    rw [dotsOf_len] at h4
    have hN : rdD zs = (rdN zs : Int) := by
      unfold rdPre at h1
      simp only [Bool.and_eq_true, decide_eq_true_eq] at h1
      rcases h4 with ⟨hk, _, _⟩ | ⟨hk, _⟩
      · rw [if_pos hk] at h1
        simp only [Bool.and_eq_true, decide_eq_true_eq] at h1
        have := inB_t.1 h1.2.1
        unfold rdD rdN
        rw [if_pos hk, if_pos hk]
        unfold wrap64
        omega
      · unfold rdD rdN
        rw [if_neg (by omega), if_neg (by omega)]; rfl
    have hL : packLen (zat zs 0) (rdD zs) = ((7 + 5 * rdN zs : Nat) : Int) := by
      rw [hN]
      unfold packLen
      rcases h4 with ⟨hk, ha, hb⟩ | ⟨hk, hb⟩
      · rw [if_pos (by simp [hk]; exact inB_t.2 (by omega))]; omega
      · rw [if_neg (by simp; omega), if_pos (by simp; omega)]; omega
    omega
set_option maxRecDepth 10000 in
set_option maxHeartbeats 4000000 in
theorem readPacket_s (A : Option Addr) (n c B : Nat) (zs : List Int) (w : World) (h : RI w B A n zs) (hB : B ≤ w.heap.size) (hn : n ≤ 4294967296) (hc : n ≤ c) (hwf : WF zs) :
    Calls Try.prog 45 #[.slice A n c] w (RetRd opS w zs) := by
  have hl := Lib.hid h.len
  by_cases h7 : 7 ≤ n
  case neg =>
    have HA := Lib.hid (show accO opS zs = false by simp [accO, rdPre, h.len, h7])
    have hd : decide ((n : Int) < 7) = true := by simp; omega
    go_enter Try.func45, Try.ntmps45
    go_wp2
    refine bodyPost_ret (v := .tuple #[.agg #[.int .i64 0, .int .i64 0, .int .i64 0, .slice none 0 0], .int .i64 0, .bool false]) (by simp [results, Try.results45, go_sem]) rfl (.inl ⟨HA.out, rfl, ?_⟩)
    exact ((Below.refl _ _).alloc (Nat.le_refl _) _).alloc (by simp) _
  case pos =>
  have h4w := Lib.hid (hwf.at_ (show 4 < zs.length by have := h.len; omega))
  obtain ⟨b, off, rfl, hb, c0⟩ := h.at_ (show 0 < n by omega)
  obtain ⟨b1, off1, e1, _, c1⟩ := h.at_ (show 1 < n by omega)
  obtain ⟨b2, off2, e2, _, c2⟩ := h.at_ (show 2 < n by omega)
  obtain ⟨b3, off3, e3, _, c3⟩ := h.at_ (show 3 < n by omega)
  obtain ⟨b4, off4, e4, _, c4⟩ := h.at_ (show 4 < n by omega)
  simp only [Option.some.injEq, Addr.mk.injEq, and_true] at e1 e2 e3 e4
  obtain ⟨rfl, rfl⟩ := e1
  obtain ⟨rfl, rfl⟩ := e2
  obtain ⟨rfl, rfl⟩ := e3
  obtain ⟨rfl, rfl⟩ := e4
  have hbw : b < w.heap.size := by omega
  have n0 : 0 < n := by omega
  have n1 : 1 < n := by omega
  have n2 : 2 < n := by omega
  have n3 : 3 < n := by omega
  have n4 : 4 < n := by omega
  have m1 : (1 : Int) < (n : Int) := by omega
  have m2 : (2 : Int) < (n : Int) := by omega
  have m3 : (3 : Int) < (n : Int) := by omega
  have m4 : (4 : Int) < (n : Int) := by omega
  have m0 : (0 : Int) < (n : Int) := by omega
  have hd7 : decide ((n : Int) < 7) = false := decide_eq_false (by omega)
  go_enter Try.func45, Try.ntmps45
  go_wp2_with fail
  have S0 : ((w.alloc (.cells #[.int .i64 0, .int .i64 0, .int .i64 0, .slice none 0 0] 26)).alloc (.cells #[.int .i64 0, .int .i64 0, .int .i64 0, .slice none 0 0] 26)).drew.cell? ⟨b, off + 0, none⟩ = some (.int .i64 (zat zs 0)) := (World.cell?_alloc_lt _ _ ⟨b, off + 0, none⟩ (by simp; omega)).trans ((World.cell?_alloc_lt w _ ⟨b, off + 0, none⟩ hbw).trans c0)
  have S1 : ((w.alloc (.cells #[.int .i64 0, .int .i64 0, .int .i64 0, .slice none 0 0] 26)).alloc (.cells #[.int .i64 0, .int .i64 0, .int .i64 0, .slice none 0 0] 26)).drew.cell? ⟨b, off + 1, none⟩ = some (.int .i64 (zat zs 1)) := (World.cell?_alloc_lt _ _ ⟨b, off + 1, none⟩ (by simp; omega)).trans ((World.cell?_alloc_lt w _ ⟨b, off + 1, none⟩ hbw).trans c1)
  have S2 : ((w.alloc (.cells #[.int .i64 0, .int .i64 0, .int .i64 0, .slice none 0 0] 26)).alloc (.cells #[.int .i64 0, .int .i64 0, .int .i64 0, .slice none 0 0] 26)).drew.cell? ⟨b, off + 2, none⟩ = some (.int .i64 (zat zs 2)) := (World.cell?_alloc_lt _ _ ⟨b, off + 2, none⟩ (by simp; omega)).trans ((World.cell?_alloc_lt w _ ⟨b, off + 2, none⟩ hbw).trans c2)
  have S3 : ((w.alloc (.cells #[.int .i64 0, .int .i64 0, .int .i64 0, .slice none 0 0] 26)).alloc (.cells #[.int .i64 0, .int .i64 0, .int .i64 0, .slice none 0 0] 26)).drew.cell? ⟨b, off + 3, none⟩ = some (.int .i64 (zat zs 3)) := (World.cell?_alloc_lt _ _ ⟨b, off + 3, none⟩ (by simp; omega)).trans ((World.cell?_alloc_lt w _ ⟨b, off + 3, none⟩ hbw).trans c3)
  have D0 : ∀ o, (((w.alloc (.cells #[.int .i64 0, .int .i64 0, .int .i64 0, .slice none 0 0] 26)).alloc (.cells #[.int .i64 0, .int .i64 0, .int .i64 0, .slice none 0 0] 26)).alloc o).drew.cell? ⟨b, off + 0, none⟩ = some (.int .i64 (zat zs 0)) := fun o => (World.cell?_alloc_lt _ o ⟨b, off + 0, none⟩ (by simp; omega)).trans ((World.cell?_alloc_lt _ _ ⟨b, off + 0, none⟩ (by simp; omega)).trans ((World.cell?_alloc_lt w _ ⟨b, off + 0, none⟩ hbw).trans c0))
  have D1 : ∀ o, (((w.alloc (.cells #[.int .i64 0, .int .i64 0, .int .i64 0, .slice none 0 0] 26)).alloc (.cells #[.int .i64 0, .int .i64 0, .int .i64 0, .slice none 0 0] 26)).alloc o).drew.cell? ⟨b, off + 1, none⟩ = some (.int .i64 (zat zs 1)) := fun o => (World.cell?_alloc_lt _ o ⟨b, off + 1, none⟩ (by simp; omega)).trans ((World.cell?_alloc_lt _ _ ⟨b, off + 1, none⟩ (by simp; omega)).trans ((World.cell?_alloc_lt w _ ⟨b, off + 1, none⟩ hbw).trans c1))
  have D2 : ∀ o, (((w.alloc (.cells #[.int .i64 0, .int .i64 0, .int .i64 0, .slice none 0 0] 26)).alloc (.cells #[.int .i64 0, .int .i64 0, .int .i64 0, .slice none 0 0] 26)).alloc o).drew.cell? ⟨b, off + 2, none⟩ = some (.int .i64 (zat zs 2)) := fun o => (World.cell?_alloc_lt _ o ⟨b, off + 2, none⟩ (by simp; omega)).trans ((World.cell?_alloc_lt _ _ ⟨b, off + 2, none⟩ (by simp; omega)).trans ((World.cell?_alloc_lt w _ ⟨b, off + 2, none⟩ hbw).trans c2))
  have D3 : ∀ o, (((w.alloc (.cells #[.int .i64 0, .int .i64 0, .int .i64 0, .slice none 0 0] 26)).alloc (.cells #[.int .i64 0, .int .i64 0, .int .i64 0, .slice none 0 0] 26)).alloc o).drew.cell? ⟨b, off + 3, none⟩ = some (.int .i64 (zat zs 3)) := fun o => (World.cell?_alloc_lt _ o ⟨b, off + 3, none⟩ (by simp; omega)).trans ((World.cell?_alloc_lt _ _ ⟨b, off + 3, none⟩ (by simp; omega)).trans ((World.cell?_alloc_lt w _ ⟨b, off + 3, none⟩ hbw).trans c3))
  go_region_held3 (fun w' => w'.cell? ⟨b, off, none⟩ = some (.int .i64 (zat zs 0)) ∧ w'.cell? ⟨b, off + 1, none⟩ = some (.int .i64 (zat zs 1)) ∧ w'.cell? ⟨b, off + 2, none⟩ = some (.int .i64 (zat zs 2)) ∧ w'.cell? ⟨b, off + 3, none⟩ = some (.int .i64 (zat zs 3)))
    (first | exact ⟨S0, S1, S2, S3⟩ | exact ⟨D0 _, D1 _, D2 _, D3 _⟩)
    (fail)
  rename_i HH
  clear HH S0 S1 S2 S3 D0 D1 D2 D3 c0 c1 c2 c3
  have HE : IntKind.i64.wrap (IntKind.i64.wrap (zat zs 1 * 16) + zat zs 2) = opS (zat zs 1) (zat zs 2) := by unfold opS wrap64; rw [IntKind.wrap_i64, IntKind.wrap_i64]
  rw [HE]
  clear HE
  have HW : IntKind.i64.wrap (zat zs 1 * 16) = wrap64 (zat zs 1 * 16) := by unfold wrap64; rw [IntKind.wrap_i64]
  rw [HW]
  clear HW
  have G0 : (((w.alloc (.cells #[.int .i64 0, .int .i64 0, .int .i64 0, .slice none 0 0] 26)).alloc (.cells #[.int .i64 0, .int .i64 0, .int .i64 0, .slice none 0 0] 26)).alloc (.cells #[.int .i64 (zat zs 0), .int .i64 (opS (zat zs 1) (zat zs 2)), .int .i64 (zat zs 3), .slice none 0 0] 26)).drew.heap[w.heap.size]? = some (.cells #[.int .i64 0, .int .i64 0, .int .i64 0, .slice none 0 0] 26) := (Below.heap_alloc _ (.cells #[.int .i64 (zat zs 0), .int .i64 (opS (zat zs 1) (zat zs 2)), .int .i64 (zat zs 3), .slice none 0 0] 26) w.heap.size (by simp; omega)).trans ((Below.heap_alloc _ (.cells #[.int .i64 0, .int .i64 0, .int .i64 0, .slice none 0 0] 26) w.heap.size (by simp)).trans (heap_alloc_new w (.cells #[.int .i64 0, .int .i64 0, .int .i64 0, .slice none 0 0] 26)))
  have GN : (((w.alloc (.cells #[.int .i64 0, .int .i64 0, .int .i64 0, .slice none 0 0] 26)).alloc (.cells #[.int .i64 0, .int .i64 0, .int .i64 0, .slice none 0 0] 26)).alloc (.cells #[.int .i64 (zat zs 0), .int .i64 (opS (zat zs 1) (zat zs 2)), .int .i64 (zat zs 3), .slice none 0 0] 26)).drew.heap[w.heap.size + 1]? = some (.cells #[.int .i64 0, .int .i64 0, .int .i64 0, .slice none 0 0] 26) := (Below.heap_alloc _ (.cells #[.int .i64 (zat zs 0), .int .i64 (opS (zat zs 1) (zat zs 2)), .int .i64 (zat zs 3), .slice none 0 0] 26) (w.heap.size + 1) (by simp)).trans (by have := heap_alloc_new (w.alloc (.cells #[.int .i64 0, .int .i64 0, .int .i64 0, .slice none 0 0] 26)) (.cells #[.int .i64 0, .int .i64 0, .int .i64 0, .slice none 0 0] 26); rw [World.size_alloc] at this; exact this)
  have G1 : (((w.alloc (.cells #[.int .i64 0, .int .i64 0, .int .i64 0, .slice none 0 0] 26)).alloc (.cells #[.int .i64 0, .int .i64 0, .int .i64 0, .slice none 0 0] 26)).alloc (.cells #[.int .i64 (zat zs 0), .int .i64 (opS (zat zs 1) (zat zs 2)), .int .i64 (zat zs 3), .slice none 0 0] 26)).drew.heap[w.heap.size + 2]? = some (.cells #[.int .i64 (zat zs 0), .int .i64 (opS (zat zs 1) (zat zs 2)), .int .i64 (zat zs 3), .slice none 0 0] 26) := by have := heap_alloc_new ((w.alloc (.cells #[.int .i64 0, .int .i64 0, .int .i64 0, .slice none 0 0] 26)).alloc (.cells #[.int .i64 0, .int .i64 0, .int .i64 0, .slice none 0 0] 26)) (.cells #[.int .i64 (zat zs 0), .int .i64 (opS (zat zs 1) (zat zs 2)), .int .i64 (zat zs 3), .slice none 0 0] 26); rw [World.size_alloc, World.size_alloc] at this; exact this
  have K2 : Below w.heap.size w (((w.alloc (.cells #[.int .i64 0, .int .i64 0, .int .i64 0, .slice none 0 0] 26)).alloc (.cells #[.int .i64 0, .int .i64 0, .int .i64 0, .slice none 0 0] 26)).alloc (.cells #[.int .i64 (zat zs 0), .int .i64 (opS (zat zs 1) (zat zs 2)), .int .i64 (zat zs 3), .slice none 0 0] 26)).drew := ((((Below.refl w.heap.size w).alloc (Nat.le_refl _) (.cells #[.int .i64 0, .int .i64 0, .int .i64 0, .slice none 0 0] 26)).alloc (by simp) (.cells #[.int .i64 0, .int .i64 0, .int .i64 0, .slice none 0 0] 26)).alloc (by simp; omega) (.cells #[.int .i64 (zat zs 0), .int .i64 (opS (zat zs 1) (zat zs 2)), .int .i64 (zat zs 3), .slice none 0 0] 26)).drew
  have s2 : w.heap.size + 3 ≤ (((w.alloc (.cells #[.int .i64 0, .int .i64 0, .int .i64 0, .slice none 0 0] 26)).alloc (.cells #[.int .i64 0, .int .i64 0, .int .i64 0, .slice none 0 0] 26)).alloc (.cells #[.int .i64 (zat zs 0), .int .i64 (opS (zat zs 1) (zat zs 2)), .int .i64 (zat zs 3), .slice none 0 0] 26)).drew.heap.size := by simp
  generalize (((w.alloc (.cells #[.int .i64 0, .int .i64 0, .int .i64 0, .slice none 0 0] 26)).alloc (.cells #[.int .i64 0, .int .i64 0, .int .i64 0, .slice none 0 0] 26)).alloc (.cells #[.int .i64 (zat zs 0), .int .i64 (opS (zat zs 1) (zat zs 2)), .int .i64 (zat zs 3), .slice none 0 0] 26)).drew = w2 at G0 GN G1 K2 s2 ⊢
  obtain ⟨f, hf⟩ : ∃ f, f = opS (zat zs 1) (zat zs 2) := ⟨_, rfl⟩
  rw [← hf] at G1 ⊢
  have HFF := Lib.hid hf
  clear hf
  have c4w := (K2.cell (p := ⟨b, off + 4, none⟩) hbw).trans c4
  obtain ⟨p0, p1, p2, p3, _, _, _, _⟩ := cells4 G1
  go_upto_if 36 with fail
  go_cut [7] (fun v wr => v = .int .i64 (rdD zs) ∧ wr = w2)
  case first =>
    by_cases hk : zat zs 0 = 0
    · have hkb : (zat zs 0 == 0) = true := by simp [hk]
      have HD := Lib.hid (show rdD zs = wrap64 (zat zs 4 + 1) by unfold rdD; rw [if_pos hk])
      clear hk
      go_wp2
      go_meet
      rw [HD.out]
      exact ⟨rfl, rfl⟩
    · have hkb : (zat zs 0 == 0) = false := by simp [hk]
      have HD := Lib.hid (show rdD zs = 0 by unfold rdD; rw [if_neg hk])
      clear hk
      go_wp2
      go_meet
      rw [HD.out]
      exact ⟨rfl, rfl⟩
  case rest =>
    obtain ⟨rfl, rfl⟩ := hcut
    obtain ⟨z0, z1, z2, z3, _, _, _, _⟩ := cells4 GN
    obtain ⟨y0, y1, y2, y3, yf0, yf1, yf2, yf3⟩ := cells4 G0
    have L7 : 7 ≤ zs.length := by have := hl.out; omega
    by_cases hq1 : packLen (zat zs 0) (rdD zs) < 0
    · have HA := Lib.hid (rdD_out (.inl hq1))
      have hd1 : decide (packLen (zat zs 0) (rdD zs) < 0) = true := decide_eq_true hq1
      have J1 := heap_setCell_same (j := 0) G0 (.int .i64 0)
      have J2 := heap_setCell_same (j := 1) J1 (.int .i64 0)
      have J3 := heap_setCell_same (j := 2) J2 (.int .i64 0)
      have J4 := heap_setCell_same (j := 3) J3 (.slice none 0 0)
      have j1 := (cells4 J1).1
      have j2 := (cells4 J2).2.1
      have j3 := (cells4 J3).2.2.1
      have j4 := (cells4 J4).2.2.2.1
      clear J1 J2 J3 J4
      clear hq1
      go_wp2_with (go_at_call 73; refine (packetLength_sx _ _ _).mono ?_; rintro e w' ⟨rfl, rfl⟩)
      refine bodyPost_ret (v := .tuple #[.agg #[.int .i64 0, .int .i64 0, .int .i64 0, .slice none 0 0], .int .i64 0, .bool false]) (by simp [results, Try.results45, go_sem, j1, j2, j3, j4]) rfl (.inl ⟨HA.out, rfl, ?_⟩)
      exact (((K2.setCell (by simp) _).setCell (by simp) _).setCell (by simp) _).setCell (by simp) _
    have hd1 : decide (packLen (zat zs 0) (rdD zs) < 0) = false := decide_eq_false hq1
    by_cases hq2 : (n : Int) < packLen (zat zs 0) (rdD zs)
    · have HA := Lib.hid (rdD_out (zs := zs) (.inr (by rw [hl.out]; exact hq2)))
      have hd2 : decide ((n : Int) < packLen (zat zs 0) (rdD zs)) = true := decide_eq_true hq2
      have J1 := heap_setCell_same (j := 0) G0 (.int .i64 0)
      have J2 := heap_setCell_same (j := 1) J1 (.int .i64 0)
      have J3 := heap_setCell_same (j := 2) J2 (.int .i64 0)
      have J4 := heap_setCell_same (j := 3) J3 (.slice none 0 0)
      have j1 := (cells4 J1).1
      have j2 := (cells4 J2).2.1
      have j3 := (cells4 J3).2.2.1
      have j4 := (cells4 J4).2.2.2.1
      clear J1 J2 J3 J4
      clear hq1 hq2
      go_wp2_with (go_at_call 73; refine (packetLength_sx _ _ _).mono ?_; rintro e w' ⟨rfl, rfl⟩)
      refine bodyPost_ret (v := .tuple #[.agg #[.int .i64 0, .int .i64 0, .int .i64 0, .slice none 0 0], .int .i64 0, .bool false]) (by simp [results, Try.results45, go_sem, j1, j2, j3, j4]) rfl (.inl ⟨HA.out, rfl, ?_⟩)
      exact (((K2.setCell (by simp) _).setCell (by simp) _).setCell (by simp) _).setCell (by simp) _
    obtain ⟨hD, hL, hpre, hle'⟩ := rdD_in h4w.out L7 hq1 (by rw [hl.out]; exact hq2)
    have hN16 := rdN_le hpre
    have hle : 7 + 5 * rdN zs ≤ n := by have := hl.out; omega
    rw [hD]
    rw [hD] at hL
    have HL := Lib.hid hL
    have HP := Lib.hid hpre
    have HN := Lib.hid hD
    obtain ⟨dn, hdn⟩ : ∃ dn, dn = rdN zs := ⟨_, rfl⟩
    rw [← hdn]
    rw [← hdn] at HL HN hN16 hle
    have HDN := Lib.hid hdn
    clear hd1 hq1 hq2 hD hL hpre hle' hdn L7 c4w
    have hi1 : ((7 + 5 * dn : Nat) : Int) ≤ (n : Int) := by omega
    have hi2 : 7 + 5 * dn ≤ c := by omega
    have hd3 : decide ((7 : Int) + 5 * (dn : Int) < 0) = false := decide_eq_false (by omega)
    have hd4 : decide ((n : Int) < 7 + 5 * (dn : Int)) = false := decide_eq_false (by omega)
    go_wp2_with (go_at_call 73; refine (packetLength_sx _ _ _).mono ?_; rw [HL.out]; rintro e w' ⟨rfl, rfl⟩)
    clear z0 z1 z2 z3 y0 y1 y2 y3 yf0 yf1 yf2 yf3 p0 p1 p2 p3 hd3 hd4
    go_loopw [9] (fun i wr => ∃ j : Nat, j ≤ dn ∧ i = .int .i64 j ∧ ∃ (AD : Option Addr) (cD : Nat), Hid (wr.heap[w.heap.size + 2]? = some (.cells #[.int .i64 (zat zs 0), .int .i64 f, .int .i64 (zat zs 3), .slice AD j cD] 26)) ∧ Hid (wr.heap[w.heap.size]? = some (.cells #[.int .i64 0, .int .i64 0, .int .i64 0, .slice none 0 0] 26)) ∧ Hid (wr.heap[w.heap.size + 1]? = some (.cells #[.int .i64 0, .int .i64 0, .int .i64 0, .slice none 0 0] 26)) ∧ Own wr (w.heap.size + 3) wr.heap.size AD j cD (dotsOf opS zs j) ∧ Below w.heap.size w wr ∧ w.heap.size + 3 ≤ wr.heap.size) (fun i _ => dn - (intOf i).toNat)
    case atStart => exact ⟨0, Nat.zero_le _, rfl, none, 0, Lib.hid G1, Lib.hid G0, Lib.hid GN, Own.nil, K2, s2⟩
    case round =>
      clear G1 G0 GN K2 s2
      obtain ⟨j, hj, rfl, AD, cD, H1, H0, HNN, hoD, K, hs⟩ := hrel
      obtain ⟨p0, p1, p2, p3, _, _, _, pf3⟩ := cells4 H1.out
      by_cases hjm : j < dn
      · have HD := Lib.hid (dotsOf_succ opS zs j)
        have hR := h.below K hB
        go_wp2_with fail
        go_loopw [10, 11] (fun v i wi => ∃ t : Nat, t ≤ 5 ∧ i = .int .i64 t ∧ ∃ x : Int, v = .int .i64 x ∧ Hid (x = ((zs.drop (5 + 5 * j)).take t).foldl opS 0) ∧ wi = wr) (fun _ i _ => 5 - (intOf i).toNat)
        case atStart => exact ⟨0, Nat.zero_le _, rfl, 0, rfl, Lib.hid rfl, rfl⟩
        case round =>
          obtain ⟨t, ht, rfl, x, rfl, hx, rfl⟩ := hrel
          by_cases ht5 : t < 5
          · obtain ⟨b', off', e', _, hct⟩ := hR.at_ (show 5 + 5 * j + t < n by omega)
            simp only [Option.some.injEq, Addr.mk.injEq, and_true] at e'
            obtain ⟨rfl, rfl⟩ := e'
            have HX := Lib.hid (show opS x (zat zs (5 + 5 * j + t)) = ((zs.drop (5 + 5 * j)).take (t + 1)).foldl opS 0 by
              have hlt : t < (zs.drop (5 + 5 * j)).length := by have := hl.out; simp; omega
              rw [take_zat hlt, List.foldl_append, ← hx.out]
              have : zat (zs.drop (5 + 5 * j)) t = zat zs (5 + 5 * j + t) := by rw [zat_eq hlt, zat_eq (by have := hl.out; omega)]; simp
              rw [this]; rfl)
            have hi3 : (0 : Int) ≤ (t : Int) := by omega
            have hi4 : (t : Int) < 5 := by omega
            have hi5 : (0 : Int) ≤ 5 + 5 * (j : Int) + (t : Int) := by omega
            have hi6 : 5 + 5 * (j : Int) + (t : Int) < (n : Int) := by omega
            have hi7 : (5 + 5 * (j : Int) + (t : Int)).toNat = 5 + 5 * j + t := by omega
            go_wp2
            go_roundw
            case rel => exact ⟨t + 1, by omega, by go_num, _, rfl, HX, trivial⟩
            case measure => simp [intOf]; omega
          · obtain rfl : t = 5 := by omega
            have HXD := Lib.hid (show x = dotOf opS zs j from hx.out)
            clear hx
            have hHp := H1.out
            have hHz := H0.out
            have hHn := HNN.out
            go_wp2_with (at_builtin; refine wpList_append_ints rfl _ _ _ rfl Try.underlying24 infoInt _ _ _ _ _ _ rfl (hoD.alloc _) _ _ _ _ _ rfl (ri_one _ _ _) (by omega) (by simp; omega) ?_; intro A3 c3 w3 ho3 hoff3 hb3; have H3 := (hb3.block (w.heap.size + 2) (by omega)).trans ((Below.heap_alloc wr (.cells #[.int .i64 x] 3) _ (by omega)).trans hHp); have H4 := (hb3.block w.heap.size (by omega)).trans ((Below.heap_alloc wr (.cells #[.int .i64 x] 3) _ (by omega)).trans hHz); have H5 := (hb3.block (w.heap.size + 1) (by omega)).trans ((Below.heap_alloc wr (.cells #[.int .i64 x] 3) _ (by omega)).trans hHn); (obtain ⟨y0, y1, y2, y3, _, _, _, yf⟩ := cells4 H3))
            have s3 := hb3.size
            simp only [World.size_alloc] at s3
            have K3 := (K.alloc (by omega) (.cells #[.int .i64 x] 3)).trans (hb3.mono (by omega))
            rw [HXD.out, ← HD.out] at ho3
            go_roundw
            case rel => exact ⟨j + 1, by omega, by go_num, A3, c3, Lib.hid (heap_setCell_same (j := 3) H3 _), Lib.hid (heap_far H4 (Nat.ne_of_gt (show w.heap.size < w.heap.size + 1 + 1 by omega)) _), Lib.hid (heap_far H5 (Nat.ne_of_gt (show w.heap.size + 1 < w.heap.size + 1 + 1 by omega)) _), by simp only [World.size_setCell]; exact OwnV.far ho3 (by simp) _, K3.setCell (by simp; omega) _, by simp; omega⟩
            case measure => simp [intOf]; omega
      · obtain rfl : j = dn := by omega
        go_wp2_with fail
        refine (packetNibbles_s _ _ _ AD j cD _ (dotsOf opS zs j) _ hoD.ri (Nat.le_refl _) (by omega)).mono ?_
        rintro e w3 ⟨AG, nG, cG, rfl, hoG, hb3⟩
        have s3 := hb3.size
        have H3 := (hb3.block (w.heap.size + 2) (by omega)).trans H1.out
        have H4 := (hb3.block w.heap.size (by omega)).trans H0.out
        have H5 := (hb3.block (w.heap.size + 1) (by omega)).trans HNN.out
        have K3 := bthen K hb3 (by omega)
        have oD3 := hoD.below hb3 (Nat.le_refl _)
        have hR := h.below K3 hB
        clear p0 p1 p2 p3 pf3 hoD hb3 K
        obtain ⟨p0, p1, p2, p3, _, _, _, _⟩ := cells4 H3
        obtain ⟨q0, q1, q2, q3, f0, f1, f2, f3⟩ := cells4 H4
        obtain ⟨z0, z1, z2, z3, _, _, _, _⟩ := cells4 H5
        cases hp : pkB (zat zs 0) f (zat zs 3) (dotsOf opS zs j)
        · have HA := Lib.hid (show accO opS zs = false by unfold accO; rw [← HFF.out, ← HDN.out, hp]; simp)
          have J1 := heap_setCell_same (j := 0) H4 (.int .i64 0)
          have J2 := heap_setCell_same (j := 1) J1 (.int .i64 0)
          have J3 := heap_setCell_same (j := 2) J2 (.int .i64 0)
          have J4 := heap_setCell_same (j := 3) J3 (.slice none 0 0)
          have j1 := (cells4 J1).1
          have j2 := (cells4 J2).2.1
          have j3 := (cells4 J3).2.2.1
          have j4 := (cells4 J4).2.2.2.1
          clear J1 J2 J3 J4
          go_wp2
          refine bodyPost_ret (v := .tuple #[.agg #[.int .i64 0, .int .i64 0, .int .i64 0, .slice none 0 0], .int .i64 0, .bool false]) (by simp [results, Try.results45, go_sem, j1, j2, j3, j4]) rfl (.inl ⟨HA.out, rfl, ?_⟩)
          exact (((K3.setCell (by simp) _).setCell (by simp) _).setCell (by simp) _).setCell (by simp) _
        · obtain rfl : nG = 7 + 5 * j := hoG.len.symm.trans ((pkF_len7 hp).trans (by rw [dotsOf_len]))
          by_cases heq : pkF (zat zs 0) f (zat zs 3) (dotsOf opS zs j) = zs.take (7 + 5 * j)
          · have HA := Lib.hid (show accO opS zs = true by unfold accO; rw [← HFF.out, ← HDN.out, hp, heq, HP.out, hl.out]; simp [hle])
            have HEQ := Lib.hid (show decide (pkF (zat zs 0) f (zat zs 3) (dotsOf opS zs j) = zs.take (7 + 5 * j)) = true by simp [heq])
            clear heq
            go_wp2_with (go_at_call 74; refine (l05Ints_any AG _ _ _ cG _ _ _ _ (zs.take (7 + 5 * j)) _ hoG.ri (hR.take hle) (by omega) (by omega)).mono ?_; rw [HEQ.out]; rintro e w4 ⟨rfl, q4, rfl⟩)
            have J1 := heap_setCell_same (j := 0) (show (w3.drewN q4).heap[w.heap.size]? = _ from H4) (.int .i64 (zat zs 0))
            have J2 := heap_setCell_same (j := 1) J1 (.int .i64 f)
            have J3 := heap_setCell_same (j := 2) J2 (.int .i64 (zat zs 3))
            have J4 := heap_setCell_same (j := 3) J3 (.slice AD j cD)
            have j1 := (cells4 J1).1
            have j2 := (cells4 J2).2.1
            have j3 := (cells4 J3).2.2.1
            have j4 := (cells4 J4).2.2.2.1
            clear J1 J2 J3 J4
            refine bodyPost_ret (v := .tuple #[.agg #[.int .i64 (zat zs 0), .int .i64 f, .int .i64 (zat zs 3), .slice AD j cD], .int .i64 (7 + 5 * j : Nat), .bool true]) (by simp [results, Try.results45, go_sem, j1, j2, j3, j4]) rfl (.inr ⟨HA.out, AD, cD, by rw [HFF.out, HDN.out], ?_, ?_⟩)
            · simp only [World.size_setCell]
              rw [← HDN.out]
              exact OwnV.mono (OwnV.far (OwnV.far (OwnV.far (OwnV.far (OwnV.drewN oD3 q4) (by simp) _) (by simp) _) (by simp) _) (by simp) _) (by omega) (by show wr.heap.size ≤ w3.heap.size; omega)
            · exact ((((below_drewN K3 q4).setCell (by simp) _).setCell (by simp) _).setCell (by simp) _).setCell (by simp) _
          · have HA := Lib.hid (show accO opS zs = false by unfold accO; rw [← HFF.out, ← HDN.out]; simp [heq])
            have HEQ := Lib.hid (show decide (pkF (zat zs 0) f (zat zs 3) (dotsOf opS zs j) = zs.take (7 + 5 * j)) = false by simp [heq])
            clear heq
            go_wp2_with (go_at_call 74; refine (l05Ints_any AG _ _ _ cG _ _ _ _ (zs.take (7 + 5 * j)) _ hoG.ri (hR.take hle) (by omega) (by omega)).mono ?_; rw [HEQ.out]; rintro e w4 ⟨rfl, q4, rfl⟩)
            have J1 := heap_setCell_same (j := 0) (show (w3.drewN q4).heap[w.heap.size]? = _ from H4) (.int .i64 0)
            have J2 := heap_setCell_same (j := 1) J1 (.int .i64 0)
            have J3 := heap_setCell_same (j := 2) J2 (.int .i64 0)
            have J4 := heap_setCell_same (j := 3) J3 (.slice none 0 0)
            have j1 := (cells4 J1).1
            have j2 := (cells4 J2).2.1
            have j3 := (cells4 J3).2.2.1
            have j4 := (cells4 J4).2.2.2.1
            clear J1 J2 J3 J4
            refine bodyPost_ret (v := .tuple #[.agg #[.int .i64 0, .int .i64 0, .int .i64 0, .slice none 0 0], .int .i64 0, .bool false]) (by simp [results, Try.results45, go_sem, j1, j2, j3, j4]) rfl (.inl ⟨HA.out, rfl, ?_⟩)
            exact ((((below_drewN K3 q4).setCell (by simp) _).setCell (by simp) _).setCell (by simp) _).setCell (by simp) _
end Go.Proofs.Ytkmbblooofmnpaa
