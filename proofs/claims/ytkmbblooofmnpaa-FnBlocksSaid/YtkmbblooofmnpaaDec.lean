/- DecodeBlock, program and reference. -/
import Derived.Test.YtkmbblooofmnpaaSyn
import Derived.Test.YtkmbblooofmnpaaWeak
namespace Go.Proofs.Ytkmbblooofmnpaa
open Go.RowKit Go.Deep

def fixK (s t : Nat) : Nat := (flog ((gquo t s : Nat) : Int)).toNat
theorem fix_rng : ∀ s t : Fin 16, s.val ≠ 0 → t.val ≠ 0 → flog ((gquo t.val s.val : Nat) : Int) = ((fixK s.val t.val : Nat) : Int) ∧ fixK s.val t.val < 15 := by decide +kernel
def decL (zs : List Int) (s t : Nat) : List Int :=
  if s = 0 ∨ t = 0 then zs.take 13 else (zs.set (fixK s t) (bits .xor .i64 (zat zs (fixK s t)) (s : Int))).take 13
def decC (s t : Nat) : Int := if s = 0 ∧ t = 0 then 0 else if s = 0 ∨ t = 0 then 2 else 1
def decF (zs : List Int) : List Int := if ok15 zs then decL zs (syn zs).1 (syn zs).2.1 else []
def decK (zs : List Int) : Int := if ok15 zs then decC (syn zs).1 (syn zs).2.1 else -1
theorem decF_len (zs : List Int) : (decF zs).length ≤ 13 := by
  unfold decF decL
  split
  · split <;> rw [List.length_take] <;> omega
  · simp
theorem ok15_of {zs : List Int} {n : Nat} (hl : zs.length = n) {v : Bool} (h : (decide ((n : Int) = 15) && nibs zs) = v) : ok15 zs = v := by
  unfold ok15
  rw [hl]
  have e : decide (n = 15) = decide ((n : Int) = 15) := by by_cases hx : n = 15 <;> simp [hx]; omega
  rw [e]; exact h
set_option maxHeartbeats 1000000 in
theorem decodeBlock_i (A : Option Addr) (n c B : Nat) (zs : List Int) (w : World) (h : RI w B A n zs) (hB : B ≤ w.heap.size) (hn : n ≤ 4294967296) :
    Calls Try.prog 65 #[.slice A n c] w (RetOwnWInt w (decF zs) (decK zs)) := by
  have hl := Lib.hid h.len
  cases h1 : (decide ((n : Int) = 15) && nibs zs)
  · have hno := ok15_of hl.out h1
    have HF := Lib.hid (show decF zs = [] by simp [decF, hno])
    have HK := Lib.hid (show decK zs = -1 by simp [decK, hno])
    clear hno
    go_enter Try.func65, Try.ntmps65
    go_wp2_with (go_at_call 79; refine (isBlock_v _ _ _ _ _ _ _ h hn h1).mono ?_; rintro e w1 ⟨rfl, rfl⟩)
    go_ret2
    rw [HF.out, HK.out]
    exact ⟨_, _, _, rfl, Own.nil.weak, Below.refl _ _⟩
  · have hok := ok15_of hl.out h1
    have h15 : n = 15 := by have := (Bool.and_eq_true_iff.1 h1).1; simp at this; omega
    have hlt := syn_lt (Bool.and_eq_true_iff.1 hok).2 (by have := hl.out; omega)
    subst h15
    obtain ⟨s, hs⟩ : ∃ s, s = (syn zs).1 := ⟨_, rfl⟩
    obtain ⟨t, ht⟩ : ∃ t, t = (syn zs).2.1 := ⟨_, rfl⟩
    rw [← hs, ← ht] at hlt
    obtain ⟨hs16, ht16⟩ := hlt
    have HF := Lib.hid (show decF zs = decL zs s t by rw [hs, ht]; simp [decF, hok])
    have HK := Lib.hid (show decK zs = decC s t by rw [hs, ht]; simp [decK, hok])
    have HSA := Lib.hid (show synA zs = (s : Int) by rw [hs]; simp [synA, hok])
    have HSB := Lib.hid (show synB zs = (t : Int) by rw [ht]; simp [synB, hok])
    clear hs ht hok
    go_enter Try.func65, Try.ntmps65
    go_wp2_with (go_at_call 79; refine (isBlock_v _ _ _ _ _ _ _ h hn h1).mono ?_; rintro e w1 ⟨rfl, rfl⟩)
    refine (syndromes_ib A 15 c _ _ _ h (by omega)).mono ?_
    rw [HSA.out, HSB.out]
    rintro e w1 ⟨rfl, hb1⟩
    have s1 := hb1.size
    have hh := h.below hb1 hB
    go_wp2_with fail
    refine (clone_any _ _ _ _ _ _ hh (by omega) hn).mono ?_
    rintro e w2 ⟨A2, n2, c2, rfl, ho2, hb2⟩
    obtain rfl : n2 = 15 := ho2.len.symm.trans hl.out
    have K2 := bthen hb1 hb2 s1
    have hcap := ho2.cap
    obtain ⟨g, rfl, hg1, hg2, _, _⟩ := ho2.cell (show 0 < 15 by omega)
    by_cases hs0 : s = 0
    · subst hs0
      by_cases ht0 : t = 0
      · subst ht0
        have R := ho2.cutw (show 13 ≤ 15 by omega)
        have HL1 := Lib.hid (show decL zs 0 0 = zs.take 13 by simp [decL])
        have HC1 := Lib.hid (show decC 0 0 = 0 by simp [decC])
        go_wp2
        go_ret2
        rw [HF.out, HK.out, HL1.out, HC1.out]
        exact ⟨_, _, _, rfl, R.mono s1 (Nat.le_refl _), K2⟩
      · have ht0' : ((t : Int) == 0) = false := by simp; omega
        have R := ho2.cutw (show 13 ≤ 15 by omega)
        have HL1 := Lib.hid (show decL zs 0 t = zs.take 13 by simp [decL])
        have HC1 := Lib.hid (show decC 0 t = 2 by simp [decC, ht0])
        clear ht0
        go_wp2
        go_ret2
        rw [HF.out, HK.out, HL1.out, HC1.out]
        exact ⟨_, _, _, rfl, R.mono s1 (Nat.le_refl _), K2⟩
    · have hs0' : ((s : Int) == 0) = false := by simp; omega
      have hs0'' : ((s : Int) != 0) = true := by simp; omega
      by_cases ht0 : t = 0
      · subst ht0
        have R := ho2.cutw (show 13 ≤ 15 by omega)
        have HL1 := Lib.hid (show decL zs s 0 = zs.take 13 by simp [decL])
        have HC1 := Lib.hid (show decC s 0 = 2 by simp [decC, hs0])
        clear hs0
        go_wp2
        go_ret2
        rw [HF.out, HK.out, HL1.out, HC1.out]
        exact ⟨_, _, _, rfl, R.mono s1 (Nat.le_refl _), K2⟩
      · have ht0' : ((t : Int) == 0) = false := by simp; omega
        have ht0'' : ((t : Int) != 0) = true := by simp; omega
        obtain ⟨k, hk⟩ : ∃ k, k = fixK s t := ⟨_, rfl⟩
        have hfr := fix_rng ⟨s, hs16⟩ ⟨t, ht16⟩ hs0 ht0
        simp only at hfr
        rw [← hk] at hfr
        have HL1 := Lib.hid (show decL zs s t = (zs.set k (bits .xor .i64 (zat zs k) (s : Int))).take 13 by rw [hk]; simp [decL, hs0, ht0])
        have HC1 := Lib.hid (show decC s t = 1 by simp [decC, hs0, ht0])
        have e1 : fquo (t : Int) (s : Int) = ((gquo t s : Nat) : Int) := by
          have h1 : inB (t : Int) 0 15 = true := inB_t.2 (by omega)
          have h2 : inB (s : Int) 1 15 = true := inB_t.2 (by omega)
          simp [fquo, h1, h2]
        have e2 := hfr.1
        have hk15 := hfr.2
        have R := (ho2.set k (bits .xor .i64 (zat zs k) (s : Int))).cutw (show 13 ≤ 15 by omega)
        have KB := K2.setCell (p := ⟨g, k, none⟩) (by show w.heap.size ≤ g; omega) (.int .i64 (bits .xor .i64 (zat zs k) (s : Int)))
        obtain ⟨g', hgg, _, _, hc, hf⟩ := ho2.cell hk15
        simp only [Option.some.injEq, Addr.mk.injEq, and_true] at hgg
        subst hgg
        clear hs0 ht0 hk hfr ho2 K2 hb1 hb2
        go_wp2_with (first | (go_at_call 81; refine (fieldQuotient_i _ _ _).mono ?_; rintro e w1 ⟨rfl, rfl⟩) | (go_at_call 84; refine (fieldLog_i _ _).mono ?_; rintro e w1 ⟨rfl, rfl⟩))
        go_ret2
        rw [HF.out, HK.out, HL1.out, HC1.out]
        exact ⟨_, _, _, rfl, R.mono s1 (by simp), KB⟩
end Go.Proofs.Ytkmbblooofmnpaa
