/- EncodeBlock, program and reference. -/
import Derived.Test.YtkmbblooofmnpaaSyn
namespace Go.Proofs.Ytkmbblooofmnpaa
open Go.RowKit Go.Deep

theorem ri_two (w : World) (x y : Int) (T : TypeId) : RI (w.alloc (.cells #[.int .i64 x, .int .i64 y] T)) (w.heap.size + 1) (some ⟨w.heap.size, 0, none⟩) 2 [x, y] :=
  ⟨rfl, fun _ => ⟨w.heap.size, 0, rfl, by omega, fun j u hu => by
    match j, hu with
    | 0, hu => simp at hu; subst hu; simp [vInt]
    | 1, hu => simp at hu; subst hu; simp [vInt]⟩⟩
/-- The first parity nibble, from the syndromes of the data with two zeros behind. -/
def parN (s t : Nat) : Nat := gquo (t ^^^ gmul s 9) 4
theorem par_lt : ∀ s t : Fin 16, parN s.val t.val < 16 := by decide +kernel
theorem par_ref : ∀ s t : Fin 16, s.val ^^^ gquo (t.val ^^^ gmul 13 s.val) 4 = parN s.val t.val ∧ gquo (t.val ^^^ gmul 13 s.val) 4 = s.val ^^^ parN s.val t.val ∧ gquo (t.val ^^^ gmul 13 s.val) 4 < 16 := by decide +kernel
def ok13 (zs : List Int) : Bool := decide (zs.length = 13) && nibs zs
def sOf (zs : List Int) : Nat := (syn (zs ++ [0, 0])).1
def tOf (zs : List Int) : Nat := (syn (zs ++ [0, 0])).2.1
def encW (zs : List Int) : List Int := zs ++ [((parN (sOf zs) (tOf zs) : Nat) : Int), ((sOf zs ^^^ parN (sOf zs) (tOf zs) : Nat) : Int)]
def encF (zs : List Int) : List Int := if ok13 zs then encW zs else []
theorem ok13_15 {zs : List Int} (h : ok13 zs = true) : ok15 (zs ++ [0, 0]) = true := by
  unfold ok13 at h
  have h1 := Bool.and_eq_true_iff.1 h
  have h2 : zs.length = 13 := by simpa using h1.1
  unfold ok15 nibs
  have h3 : zs.all (fun z => inB z 0 15) = true := h1.2
  rw [List.all_append, h3]
  simp [h2, inB]
theorem enc_lt {zs : List Int} (h : ok13 zs = true) : sOf zs < 16 ∧ tOf zs < 16 := by
  have h1 := Bool.and_eq_true_iff.1 (ok13_15 h)
  have h2 : (zs ++ [0, 0]).length = 15 := by simpa using h1.1
  exact syn_lt h1.2 (by omega)
theorem syn_parts {zs : List Int} (h : ok13 zs = true) : synA (zs ++ [0, 0]) = ((sOf zs : Nat) : Int) ∧ synB (zs ++ [0, 0]) = ((tOf zs : Nat) : Int) := by
  have := ok13_15 h
  constructor
  · unfold synA sOf; rw [this]; rfl
  · unfold synB tOf; rw [this]; rfl
theorem fpow13 : fpow 13 = 13 := by decide
theorem fpow14 : fpow 14 = 9 := by decide
theorem xor139 : bits .xor .i64 13 9 = 4 := by decide
theorem fprod9 {s : Nat} (h : s < 16) : fprod (s : Int) 9 = ((gmul s 9 : Nat) : Int) := by
  have h1 : inB (s : Int) 0 15 = true := inB_t.2 (by omega)
  have h2 : inB 9 0 15 = true := by decide
  simp [fprod, h1, h2]
theorem fprod13 {s : Nat} (h : s < 16) : fprod 13 (s : Int) = ((gmul 13 s : Nat) : Int) := by
  have h1 : inB (s : Int) 0 15 = true := inB_t.2 (by omega)
  have h2 : inB 13 0 15 = true := by decide
  simp [fprod, h1, h2]
theorem fquo4 {s : Nat} (h : s < 16) : fquo (s : Int) 4 = ((gquo s 4 : Nat) : Int) := by
  have h1 : inB (s : Int) 0 15 = true := inB_t.2 (by omega)
  have h2 : inB 4 1 15 = true := by decide
  simp [fquo, h1, h2]
set_option maxHeartbeats 1000000 in
theorem encodeBlock_i (A : Option Addr) (n c B : Nat) (zs : List Int) (w : World) (h : RI w B A n zs) (hB : B ≤ w.heap.size) (hn : n ≤ 4294967296) :
    Calls Try.prog 64 #[.slice A n c] w (RetOwn w (encF zs)) := by
  have hl := Lib.hid h.len
  cases h1 : (decide ((n : Int) = 13) && nibs zs)
  · have HF := Lib.hid (show encF zs = [] by
      have hno : ok13 zs = false := by
        have := hl.out
        unfold ok13
        rw [this]
        have e : decide (n = 13) = decide ((n : Int) = 13) := by by_cases hx : n = 13 <;> simp [hx]; omega
        rw [e]; exact h1
      simp [encF, hno])
    go_enter Try.func64, Try.ntmps64
    go_wp2_with (go_at_call 79; refine (isBlock_v _ _ _ _ _ _ _ h hn h1).mono ?_; rintro e w1 ⟨rfl, rfl⟩)
    go_ret
    rw [HF.out]
    exact ⟨_, _, _, rfl, Own.nil, Below.refl _ _⟩
  · have h13 : n = 13 := by have := (Bool.and_eq_true_iff.1 h1).1; simp at this; omega
    have hok : ok13 zs = true := by unfold ok13; rw [(Bool.and_eq_true_iff.1 h1).2, hl.out, h13]; simp
    subst h13
    have HF := Lib.hid (show encF zs = encW zs by simp [encF, hok])
    have hlt := enc_lt hok
    have hsp := syn_parts hok
    obtain ⟨s, hs⟩ : ∃ s, s = sOf zs := ⟨_, rfl⟩
    obtain ⟨t, ht⟩ : ∃ t, t = tOf zs := ⟨_, rfl⟩
    have HW := Lib.hid (show encW zs = zs ++ [((parN s t : Nat) : Int), ((s ^^^ parN s t : Nat) : Int)] by rw [hs, ht]; rfl)
    rw [← hs, ← ht] at hlt hsp
    obtain ⟨hs16, ht16⟩ := hlt
    have HSA := Lib.hid hsp.1
    have HSB := Lib.hid hsp.2
    clear hs ht hsp hok
    have hg := gmul_lt hs16 (show 9 < 16 by omega)
    have hx := xor16 ht16 hg
    have hp := par_lt ⟨s, hs16⟩ ⟨t, ht16⟩
    simp only at hp
    have e1 := fpow13
    have e2 := fpow14
    have e3 := xor139
    have e4 := fprod9 hs16
    have e5 : bits .xor .i64 (t : Int) ((gmul s 9 : Nat) : Int) = ((t ^^^ gmul s 9 : Nat) : Int) := i64_xor_nat t _ (by omega) (by omega)
    have e6 : fquo ((t ^^^ gmul s 9 : Nat) : Int) 4 = ((parN s t : Nat) : Int) := fquo4 hx
    have e7 : bits .xor .i64 (s : Int) ((parN s t : Nat) : Int) = ((s ^^^ parN s t : Nat) : Int) := i64_xor_nat s _ (by omega) (by omega)
    go_enter Try.func64, Try.ntmps64
    go_wp2_with (go_at_call 79; refine (isBlock_v _ _ _ _ _ _ _ h hn h1).mono ?_; rintro e w1 ⟨rfl, rfl⟩)
    refine (clone_any _ _ _ _ _ _ h hB hn).mono ?_
    rintro e w1 ⟨A1, n1, c1, rfl, ho1, hb1⟩
    obtain rfl : n1 = 13 := ho1.len.symm.trans hl.out
    have s1 := hb1.size
    go_wp2_with (at_builtin; refine wpList_append_ints rfl _ _ _ rfl Try.underlying24 infoInt _ _ _ _ _ _ rfl (ho1.alloc _) _ _ _ _ _ rfl (ri_two _ _ _ _) (by omega) (by simp; omega) ?_; intro A2 c2 w2 ho2 hoff2 hb2)
    refine (syndromes_ib A2 15 c2 _ _ _ ho2.ri (by omega)).mono ?_
    rw [HSA.out, HSB.out]
    rintro e w3 ⟨rfl, hb3⟩
    have K2 : Below w.heap.size w w2 := (hb1.alloc s1 _).trans hb2
    have K3 := bthen K2 hb3 K2.size
    have hh := h.below K3 hB
    have s3 := K3.size
    clear ho1 ho2 hoff2 hb2 hb1 hb3 K2
    go_wp2_with (first | (go_at_call 83; refine (fieldPower_i _ _).mono ?_; rintro e w1 ⟨rfl, rfl⟩) | (go_at_call 82; refine (fieldProduct_i _ _ _).mono ?_; rintro e w1 ⟨rfl, rfl⟩) | (go_at_call 81; refine (fieldQuotient_i _ _ _).mono ?_; rintro e w1 ⟨rfl, rfl⟩))
    refine (clone_any _ _ _ _ _ _ hh (by omega) hn).mono ?_
    rintro e w4 ⟨A4, n4, c4, rfl, ho4, hb4⟩
    obtain rfl : n4 = 13 := ho4.len.symm.trans hl.out
    have s4 := hb4.size
    go_wp2_with (at_builtin; refine wpList_append_ints rfl _ _ _ rfl Try.underlying24 infoInt _ _ _ _ _ _ rfl (ho4.alloc _) _ _ _ _ _ rfl (ri_two _ _ _ _) (by omega) (by simp; omega) ?_; intro A5 c5 w5 ho5 hoff5 hb5)
    go_ret
    rw [HF.out, HW.out]
    exact ⟨_, _, _, rfl, ho5.mono (by omega) (Nat.le_refl _), ((bthen K3 hb4 s3).alloc (by omega) _).trans (hb5.mono (by omega))⟩
end Go.Proofs.Ytkmbblooofmnpaa
