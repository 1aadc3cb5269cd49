/- Words for memory: a slice that reads as a list (RV, RI), a slice that the call itself made (OwnV, Own), what is kept (Below, Off), append and make at them. No program is named but by the type numbers of int. -/
import Derived.Test.YtmibajhilbfecaaOpen
import Derived.Below
import Derived.Laws.OwnMore
import Derived.Laws.Rows
import Derived.Deep.AppendLies
import Derived.Deep.Draws
import Derived.Deep.OwnRows
import Derived.Maps.AppendAt
import Derived.RegionTactic
import Derived.OwnWalk
import Derived.Lib.Hide
namespace Go.Proofs.Ytmibajhilbfecaa
open Go.RowKit Go.Deep

def vInt (z : Int) : Value := .int .i64 z
def vByte (z : Int) : Value := .int .u8 z
def zat (zs : List Int) (j : Nat) : Int := zs.getD j 0
def WF (zs : List Int) : Prop := ∀ z ∈ zs, I64 z

theorem zat_eq {zs : List Int} {j : Nat} (h : j < zs.length) : zat zs j = zs[j] := by simp [zat, h]
theorem zat_mem {zs : List Int} {j : Nat} (h : j < zs.length) : zat zs j ∈ zs := by rw [zat_eq h]; exact List.getElem_mem h
theorem WF.at_ {zs : List Int} (h : WF zs) {j : Nat} (hj : j < zs.length) : I64 (zat zs j) := h _ (zat_mem hj)
theorem take_snoc {α : Type} {xs : List α} {k : Nat} (h : k < xs.length) : xs.take (k + 1) = xs.take k ++ [xs[k]] := List.take_succ_eq_append_getElem h
theorem take_zat {zs : List Int} {k : Nat} (h : k < zs.length) : zs.take (k + 1) = zs.take k ++ [zat zs k] := by rw [take_snoc h, zat_eq h]

/-! ### a slice that is read -/
/-- The slice '.slice A n c' holds the cells xs, in a block below B. -/
structure RV (w : World) (B : Nat) (A : Option Addr) (n : Nat) (xs : List Value) : Prop where
  len : xs.length = n
  mem : 0 < n → ∃ b off, A = some ⟨b, off, none⟩ ∧ b < B ∧ ∀ j u, xs[j]? = some u → w.cell? ⟨b, off + j, none⟩ = some u
def RI (w : World) (B : Nat) (A : Option Addr) (n : Nat) (zs : List Int) : Prop := RV w B A n (zs.map vInt)
def RB (w : World) (B : Nat) (A : Option Addr) (n : Nat) (zs : List Int) : Prop := RV w B A n (zs.map vByte)

section
variable {w w' : World} {B B' n : Nat} {A : Option Addr} {xs : List Value} {zs : List Int}
theorem RV.none_ : RV w B A 0 [] := ⟨rfl, fun h => absurd h (by omega)⟩
theorem RV.keep (h : RV w B A n xs) (hk : ∀ p : Addr, p.block < B → w'.cell? p = w.cell? p) : RV w' B A n xs :=
  ⟨h.len, fun hn => by
    obtain ⟨b, off, e, hb, hc⟩ := h.mem hn
    exact ⟨b, off, e, hb, fun j u hu => (hk _ hb).trans (hc j u hu)⟩⟩
theorem RV.more (h : RV w B A n xs) (hB : B ≤ B') : RV w B' A n xs :=
  ⟨h.len, fun hn => by
    obtain ⟨b, off, e, hb, hc⟩ := h.mem hn
    exact ⟨b, off, e, by omega, hc⟩⟩
theorem RV.below {C : Nat} (h : RV w B A n xs) (hb : Below C w w') (hC : B ≤ C) : RV w' B A n xs := h.keep fun _ hp => hb.cell (by omega)
theorem RV.drewN (h : RV w B A n xs) (k : Nat) : RV (w.drewN k) B A n xs := ⟨h.len, h.mem⟩
theorem RV.alloc (h : RV w B A n xs) (hB : B ≤ w.heap.size) (o : Obj) : RV (w.alloc o) B A n xs := h.keep fun p hp => World.cell?_alloc_lt w o p (by omega)
theorem RV.at_ {k : Nat} (h : RV w B A n xs) (hk : k < n) : ∃ b off u, A = some ⟨b, off, none⟩ ∧ b < B ∧ xs[k]? = some u ∧ w.cell? ⟨b, off + k, none⟩ = some u := by
  obtain ⟨b, off, e, hb, hc⟩ := h.mem (by omega)
  have hl : k < xs.length := by have := h.len; omega
  exact ⟨b, off, xs[k], e, hb, List.getElem?_eq_getElem hl, hc k _ (List.getElem?_eq_getElem hl)⟩
theorem RV.take (h : RV w B A n xs) {k : Nat} (hk : k ≤ n) : RV w B A k (xs.take k) :=
  ⟨by rw [List.length_take, h.len]; omega, fun hn => by
    obtain ⟨b, off, e, hb, hc⟩ := h.mem (by omega)
    refine ⟨b, off, e, hb, fun j u hu => hc j u ?_⟩
    rw [List.getElem?_take] at hu
    split at hu
    · exact hu
    · cases hu⟩
/-- 's[k:]': the model keeps the old address where k is the capacity. -/
theorem RV.cut (h : RV w B A n xs) {k cap : Nat} (hk : k ≤ n) (hc : n ≤ cap) : RV w B (if cap = k then A else A.map (·.add k)) (n - k) (xs.drop k) := by
  refine ⟨by rw [List.length_drop, h.len], fun hn => ?_⟩
  obtain ⟨b, off, rfl, hb, hcell⟩ := h.mem (by omega)
  rw [if_neg (by omega)]
  refine ⟨b, off + k, ?_, hb, fun j u hu => ?_⟩
  · by_cases hk0 : k = 0
    · subst hk0; simp [Addr.add]
    · simp [Addr.add, hk0]
  · rw [Nat.add_assoc]
    exact hcell _ u (by rw [← hu, List.getElem?_drop])

theorem RI.len (h : RI w B A n zs) : zs.length = n := by have := RV.len h; simpa using this
theorem RI.at_ {k : Nat} (h : RI w B A n zs) (hk : k < n) : ∃ b off, A = some ⟨b, off, none⟩ ∧ b < B ∧ w.cell? ⟨b, off + k, none⟩ = some (.int .i64 (zat zs k)) := by
  obtain ⟨b, off, u, e, hb, hu, hc⟩ := RV.at_ h hk
  have hl := h.len
  refine ⟨b, off, e, hb, ?_⟩
  rw [hc]
  rw [List.getElem?_map, List.getElem?_eq_getElem (by omega)] at hu
  rw [zat_eq (by omega)]
  simpa [vInt] using hu.symm
theorem RB.len (h : RB w B A n zs) : zs.length = n := by have := RV.len h; simpa using this
theorem RB.at_ {k : Nat} (h : RB w B A n zs) (hk : k < n) : ∃ b off, A = some ⟨b, off, none⟩ ∧ b < B ∧ w.cell? ⟨b, off + k, none⟩ = some (.int .u8 (zat zs k)) := by
  obtain ⟨b, off, u, e, hb, hu, hc⟩ := RV.at_ h hk
  have hl := h.len
  refine ⟨b, off, e, hb, ?_⟩
  rw [hc]
  rw [List.getElem?_map, List.getElem?_eq_getElem (by omega)] at hu
  rw [zat_eq (by omega)]
  simpa [vByte] using hu.symm
theorem RI.below {C : Nat} (h : RI w B A n zs) (hb : Below C w w') (hC : B ≤ C) : RI w' B A n zs := RV.below h hb hC
theorem RI.more (h : RI w B A n zs) (hB : B ≤ B') : RI w B' A n zs := RV.more h hB
theorem RI.take (h : RI w B A n zs) {k : Nat} (hk : k ≤ n) : RI w B A k (zs.take k) := by have := RV.take h hk; rwa [← List.map_take] at this
theorem RI.cut (h : RI w B A n zs) {k cap : Nat} (hk : k ≤ n) (hc : n ≤ cap) : RI w B (if cap = k then A else A.map (·.add k)) (n - k) (zs.drop k) := by
  have := RV.cut h hk hc; rwa [← List.map_drop] at this
theorem RI.nil : RI w B A 0 [] := RV.none_
theorem RB.below {C : Nat} (h : RB w B A n zs) (hb : Below C w w') (hC : B ≤ C) : RB w' B A n zs := RV.below h hb hC
end

/-! ### only the blocks lo .. hi-1 (and new ones) have turned -/
structure Off (lo hi : Nat) (w w' : World) : Prop where
  os : w'.os = w.os
  tape : w'.tape = w.tape
  output : w'.output = w.output
  size : w.heap.size ≤ w'.heap.size
  block : ∀ k, k < w.heap.size → (k < lo ∨ hi ≤ k) → w'.heap[k]? = w.heap[k]?
theorem Off.refl (lo hi : Nat) (w : World) : Off lo hi w w := ⟨rfl, rfl, rfl, Nat.le_refl _, fun _ _ _ => rfl⟩
theorem Off.trans {lo hi : Nat} {a b c : World} (h : Off lo hi a b) (k : Off lo hi b c) : Off lo hi a c :=
  ⟨k.os.trans h.os, k.tape.trans h.tape, k.output.trans h.output, Nat.le_trans h.size k.size, fun i hi' ho => (k.block i (Nat.lt_of_lt_of_le hi' h.size) ho).trans (h.block i hi' ho)⟩
theorem Off.drew {lo hi : Nat} {a b : World} (h : Off lo hi a b) : Off lo hi a b.drew := ⟨h.os, h.tape, h.output, h.size, h.block⟩
theorem Off.drewN {lo hi : Nat} {a b : World} (h : Off lo hi a b) (n : Nat) : Off lo hi a (b.drewN n) := ⟨h.os, h.tape, h.output, h.size, h.block⟩
theorem Off.setCell {lo hi : Nat} {a b : World} (h : Off lo hi a b) {p : Addr} (h1 : lo ≤ p.block) (h2 : p.block < hi) (u : Value) : Off lo hi a (b.setCell p u) :=
  h.trans ⟨rfl, rfl, rfl, by simp [World.setCell], fun k _ hk => Below.heap_setCell _ _ _ _ (by omega)⟩
theorem Off.below {lo hi B : Nat} {w w' : World} (h : Off lo hi w w') (hB : B ≤ lo) (hs : B ≤ w.heap.size) : Below B w w' :=
  ⟨h.os, h.tape, h.output, h.size, fun k hk => h.block k (by omega) (by omega)⟩
theorem Off.of_below {lo hi : Nat} {w w' : World} (h : Below w.heap.size w w') : Off lo hi w w' := ⟨h.os, h.tape, h.output, h.size, fun k hk _ => h.block k hk⟩
theorem below_drewN {B : Nat} {a w : World} (h : Below B a w) (n : Nat) : Below B a (w.drewN n) := ⟨h.os, h.tape, h.output, h.size, h.block⟩

/-! ### a slice that the call itself made -/
/-- '.slice A n c' owns the one-cell elements xs: it is nil, or begins at the head of a block lo .. hi-1 of element type T, none of it frozen. -/
def OwnV (T : TypeId) (w : World) (lo hi : Nat) (A : Option Addr) (n c : Nat) (xs : List Value) : Prop :=
  xs.length = n ∧ n ≤ c ∧ c ≤ maxLen ∧
  ((A = none ∧ c = 0) ∨ ∃ g cur, A = some ⟨g, 0, none⟩ ∧ lo ≤ g ∧ g < hi ∧ w.heap[g]? = some (.cells cur T (0, 0)) ∧ cur.size = c ∧ cur.toList.take n = xs)
def Own (w : World) (lo hi : Nat) (A : Option Addr) (n c : Nat) (zs : List Int) : Prop := OwnV 3 w lo hi A n c (zs.map vInt)

theorem heap_lt {w : World} {g : Nat} {o : Obj} (h : w.heap[g]? = some o) : g < w.heap.size := (Array.getElem?_eq_some_iff.1 h).1

section
variable {T : TypeId} {w w' : World} {lo hi n c : Nat} {A : Option Addr} {xs : List Value} {zs : List Int}
theorem OwnV.nil : OwnV T w lo hi none 0 0 [] := ⟨rfl, Nat.le_refl _, by simp [maxLen], .inl ⟨rfl, rfl⟩⟩
theorem OwnV.keep (h : OwnV T w lo hi A n c xs) (hk : ∀ g, lo ≤ g → g < hi → g < w.heap.size → w'.heap[g]? = w.heap[g]?) : OwnV T w' lo hi A n c xs := by
  obtain ⟨h1, h2, h3, h4⟩ := h
  refine ⟨h1, h2, h3, ?_⟩
  rcases h4 with h4 | ⟨g, cur, e, hl, hh, hg, r⟩
  · exact .inl h4
  · exact .inr ⟨g, cur, e, hl, hh, (hk g hl hh (heap_lt hg)).trans hg, r⟩
theorem OwnV.below {B : Nat} (h : OwnV T w lo hi A n c xs) (hb : Below B w w') (hB : hi ≤ B) : OwnV T w' lo hi A n c xs := h.keep fun g _ hh _ => hb.block g (by omega)
theorem OwnV.off {lo' hi' : Nat} (h : OwnV T w lo hi A n c xs) (ho : Off lo' hi' w w') (hd : hi ≤ lo' ∨ hi' ≤ lo) : OwnV T w' lo hi A n c xs := h.keep fun g hl hh hs => ho.block g hs (by omega)
theorem OwnV.drewN (h : OwnV T w lo hi A n c xs) (k : Nat) : OwnV T (w.drewN k) lo hi A n c xs := h
theorem OwnV.drew (h : OwnV T w lo hi A n c xs) : OwnV T w.drew lo hi A n c xs := h
theorem OwnV.alloc (h : OwnV T w lo hi A n c xs) (o : Obj) : OwnV T (w.alloc o) lo hi A n c xs := h.keep fun g _ _ hs => Below.heap_alloc w o g hs
theorem OwnV.mono {lo' hi' : Nat} (h : OwnV T w lo hi A n c xs) (h1 : lo' ≤ lo) (h2 : hi ≤ hi') : OwnV T w lo' hi' A n c xs := by
  obtain ⟨a, b, d, h4⟩ := h
  refine ⟨a, b, d, ?_⟩
  rcases h4 with h4 | ⟨g, cur, e, hl, hh, r⟩
  · exact .inl h4
  · exact .inr ⟨g, cur, e, by omega, by omega, r⟩
/-- The block lies below the heap's size: so 'hi' may be taken as that. -/
theorem OwnV.top (h : OwnV T w lo hi A n c xs) : OwnV T w lo w.heap.size A n c xs := by
  obtain ⟨a, b, d, h4⟩ := h
  refine ⟨a, b, d, ?_⟩
  rcases h4 with h4 | ⟨g, cur, e, hl, hh, hg, r⟩
  · exact .inl h4
  · exact .inr ⟨g, cur, e, hl, heap_lt hg, hg, r⟩
theorem OwnV.far (h : OwnV T w lo hi A n c xs) {p : Addr} (hp : p.block < lo ∨ hi ≤ p.block) (u : Value) : OwnV T (w.setCell p u) lo hi A n c xs := h.keep fun g _ _ _ => Below.heap_setCell _ _ _ _ (by omega)
theorem OwnV.rv (h : OwnV T w lo hi A n c xs) : RV w hi A n xs := by
  obtain ⟨h1, h2, h3, h4⟩ := h
  refine ⟨h1, fun hn => ?_⟩
  rcases h4 with ⟨_, h4⟩ | ⟨g, cur, e, hl, hh, hg, hs, ht⟩
  · omega
  · refine ⟨g, 0, e, hh, fun j u hu => ?_⟩
    rw [Nat.zero_add, cell_of_row w g j cur T (0, 0) hg]
    have hj : j < n := by rw [← h1]; exact (List.getElem?_eq_some_iff.1 hu).1
    rw [← ht, List.getElem?_take, if_pos hj] at hu
    simpa using hu
theorem OwnV.cell (h : OwnV T w lo hi A n c xs) {j : Nat} (hj : j < n) : ∃ g u, A = some ⟨g, 0, none⟩ ∧ lo ≤ g ∧ g < hi ∧ xs[j]? = some u ∧ w.cell? ⟨g, j, none⟩ = some u ∧ w.frozen? ⟨g, j, none⟩ = false := by
  obtain ⟨h1, h2, h3, h4⟩ := h
  rcases h4 with ⟨_, h4⟩ | ⟨g, cur, e, hl, hh, hg, hs, ht⟩
  · omega
  · refine ⟨g, xs[j]'(by omega), e, hl, hh, List.getElem?_eq_getElem (by omega), ?_, by simp [World.frozen?, hg]⟩
    rw [cell_of_row w g j cur T (0, 0) hg]
    have hu : xs[j]? = some (xs[j]'(by omega)) := List.getElem?_eq_getElem (by omega)
    rw [← hu, ← ht, List.getElem?_take, if_pos hj]
    simp
theorem OwnV.set {g : Nat} (h : OwnV T w lo hi (some ⟨g, 0, none⟩) n c xs) (j : Nat) (u : Value) : OwnV T (w.setCell ⟨g, j, none⟩ u) lo hi (some ⟨g, 0, none⟩) n c (xs.set j u) := by
  obtain ⟨h1, h2, h3, h4⟩ := h
  refine ⟨by simpa using h1, h2, h3, ?_⟩
  rcases h4 with ⟨h4, _⟩ | ⟨g', cur, e, hl, hh, hg, hs, ht⟩
  · cases h4
  · simp only [Option.some.injEq, Addr.mk.injEq, and_true] at e
    subst e
    refine .inr ⟨g, cur.setIfInBounds j u, rfl, hl, hh, ?_, by simpa using hs, ?_⟩
    · simp [World.setCell, Array.getElem?_modify, hg]
    · rw [Array.toList_setIfInBounds, List.take_set, ht]
theorem OwnV.row (h : OwnV T w lo hi A n c xs) : w.ownsRow lo T 1 (.slice A n c) n xs := by
  obtain ⟨h1, h2, h3, h4⟩ := h
  refine ⟨by omega, ?_⟩
  rcases h4 with ⟨rfl, rfl⟩ | ⟨g, cur, rfl, hl, hh, hg, hs, ht⟩
  · obtain rfl : n = 0 := by omega
    exact .inl ⟨rfl, rfl⟩
  · exact .inr ⟨g, c, cur, rfl, hl, hg, h2, h3, by omega, by rw [Nat.mul_one]; exact ht⟩
theorem OwnV.of_row {v : Value} (h : w.ownsRow lo T 1 v n xs) : ∃ A c, v = .slice A n c ∧ OwnV T w lo w.heap.size A n c xs := by
  obtain ⟨h1, h2⟩ := h
  rcases h2 with ⟨rfl, rfl⟩ | ⟨g, cap, cur, rfl, hl, hg, hnc, hcm, hs, ht⟩
  · exact ⟨none, 0, rfl, by simpa using h1, Nat.le_refl _, by simp [maxLen], .inl ⟨rfl, rfl⟩⟩
  · exact ⟨_, cap, rfl, by simpa using h1, hnc, hcm, .inr ⟨g, cur, rfl, hl, heap_lt hg, hg, by omega, by rw [Nat.mul_one] at ht; exact ht⟩⟩
theorem OwnV.len (h : OwnV T w lo hi A n c xs) : xs.length = n := h.1
theorem OwnV.cap (h : OwnV T w lo hi A n c xs) : n ≤ c := h.2.1
theorem OwnV.new (w : World) (T : TypeId) (cs : Array Value) (hs : cs.size ≤ maxLen) : OwnV T (w.alloc (.cells cs T)) w.heap.size (w.heap.size + 1) (some ⟨w.heap.size, 0, none⟩) cs.size cs.size cs.toList :=
  ⟨by simp, Nat.le_refl _, hs, .inr ⟨w.heap.size, cs, rfl, Nat.le_refl _, by omega, heap_alloc_new w _, rfl, List.take_of_length_le (by simp)⟩⟩

theorem Own.nil : Own w lo hi none 0 0 [] := OwnV.nil
theorem Own.below {B : Nat} (h : Own w lo hi A n c zs) (hb : Below B w w') (hB : hi ≤ B) : Own w' lo hi A n c zs := OwnV.below h hb hB
theorem Own.off {lo' hi' : Nat} (h : Own w lo hi A n c zs) (ho : Off lo' hi' w w') (hd : hi ≤ lo' ∨ hi' ≤ lo) : Own w' lo hi A n c zs := OwnV.off h ho hd
theorem Own.mono {lo' hi' : Nat} (h : Own w lo hi A n c zs) (h1 : lo' ≤ lo) (h2 : hi ≤ hi') : Own w lo' hi' A n c zs := OwnV.mono h h1 h2
theorem Own.top (h : Own w lo hi A n c zs) : Own w lo w.heap.size A n c zs := OwnV.top h
theorem Own.ri (h : Own w lo hi A n c zs) : RI w hi A n zs := OwnV.rv h
theorem Own.len (h : Own w lo hi A n c zs) : zs.length = n := by have := OwnV.len h; simpa using this
theorem Own.cap (h : Own w lo hi A n c zs) : n ≤ c := OwnV.cap h
theorem Own.alloc (h : Own w lo hi A n c zs) (o : Obj) : Own (w.alloc o) lo hi A n c zs := OwnV.alloc h o
theorem Own.cell (h : Own w lo hi A n c zs) {j : Nat} (hj : j < n) : ∃ g, A = some ⟨g, 0, none⟩ ∧ lo ≤ g ∧ g < hi ∧ w.cell? ⟨g, j, none⟩ = some (.int .i64 (zat zs j)) ∧ w.frozen? ⟨g, j, none⟩ = false := by
  obtain ⟨g, u, e, h1, h2, hu, hc, hf⟩ := OwnV.cell h hj
  have hl := h.len
  refine ⟨g, e, h1, h2, ?_, hf⟩
  rw [hc]
  rw [List.getElem?_map, List.getElem?_eq_getElem (by omega)] at hu
  rw [zat_eq (by omega)]
  simpa [vInt] using hu.symm
theorem Own.set {g : Nat} (h : Own w lo hi (some ⟨g, 0, none⟩) n c zs) (j : Nat) (z : Int) : Own (w.setCell ⟨g, j, none⟩ (.int .i64 z)) lo hi (some ⟨g, 0, none⟩) n c (zs.set j z) := by
  have := OwnV.set h j (vInt z)
  rw [← List.map_set] at this
  exact this
end

/-! ### results -/
/-- The call returned a new slice that owns zs; nothing that lay there has turned. -/
def RetOwn (w : World) (zs : List Int) (e : Ending) (w' : World) : Prop := ∃ A n c, e = .returned (.slice A n c) ∧ Own w' w.heap.size w'.heap.size A n c zs ∧ Below w.heap.size w w'
/-- .. and a number beside it. -/
def RetOwnInt (w : World) (zs : List Int) (x : Int) (e : Ending) (w' : World) : Prop := ∃ A n c, e = .returned (.tuple #[.slice A n c, .int .i64 x]) ∧ Own w' w.heap.size w'.heap.size A n c zs ∧ Below w.heap.size w w'
def RetOwnBool (w : World) (zs : List Int) (x : Bool) (e : Ending) (w' : World) : Prop := ∃ A n c, e = .returned (.tuple #[.slice A n c, .bool x]) ∧ Own w' w.heap.size w'.heap.size A n c zs ∧ Below w.heap.size w w'

/-! ### make -/
theorem madeCells_ints (n : Nat) : (madeCells #[Value.int .i64 0] n).toList = (List.replicate n (0 : Int)).map vInt := by
  apply List.ext_getElem?
  intro i
  simp only [madeCells, Array.toList_map, List.getElem?_map, Array.toList_range, List.map_replicate, List.getElem?_replicate]
  by_cases h : i < n
  · rw [List.getElem?_range h]; simp [h, vInt, Nat.mod_one]
  · rw [List.getElem?_eq_none (by simpa using h)]; simp [h]
theorem own_made (w : World) (n : Nat) (hn : n ≤ maxLen) : Own (w.alloc (.cells (madeCells #[.int .i64 0] n) 3)) w.heap.size (w.heap.size + 1) (some ⟨w.heap.size, 0, none⟩) n n (List.replicate n 0) := by
  have h := OwnV.new w 3 (madeCells #[.int .i64 0] n) (by rw [size_madeCells]; exact hn)
  rw [size_madeCells, madeCells_ints] at h
  exact h

/-! ### append -/
section
variable {P : Program}
theorem oneCell_vInt (zs : List Int) : ∀ u ∈ zs.map vInt, u.oneCell' = true := by
  intro u hu
  obtain ⟨z, _, rfl⟩ := List.mem_map.1 hu
  rfl
theorem run_append_rv (w : World) (T : TypeId) (lo hi : Nat) (t ty : TypeId) (z : Value) (bytes : Nat) (ht : P.underlying t = some (.slice T)) (hinfo : (P.info? T).map (fun i => (i.zero, i.size, i.bytes)) = some (some z, 1, bytes)) (hz1 : z.cells.size = 1)
    (A : Option Addr) (n c : Nat) (xs : List Value) (hown : OwnV T w lo hi A n c xs) (B : Nat) (S : Option Addr) (m d : Nat) (news : List Value) (hr : RV w B S m news) (h1 : ∀ u ∈ news, u.oneCell' = true)
    (h63 : n + m ≤ maxLen) (hbytes : (n + m) * bytes ≤ 140737488355328) (hlo : lo ≤ w.heap.size) :
    ∃ A' c' w', (Builtin.append_ #[t, t] ty #[.slice A n c, .slice S m d]).run P w = .ok (.slice A' (n + m) c') w' ∧ OwnV T w' lo w'.heap.size A' (n + m) c' (xs ++ news) ∧ Off lo hi w w' ∧ Below lo w w' := by
  obtain ⟨i, hi', hz0, hsz, hby⟩ := info_parts hinfo
  rcases S with _ | ad
  · have hm : m = 0 := by
      rcases Nat.eq_zero_or_pos m with h0 | h0
      · exact h0
      · obtain ⟨b, off, h, _⟩ := hr.mem h0
        cases h
    subst hm
    have hn : news = [] := List.eq_nil_of_length_eq_zero (by simpa using hr.len)
    subst hn
    refine ⟨A, c, w, ?_, by simpa using hown.top, Off.refl _ _ _, Below.refl _ _⟩
    obtain ⟨h1', h2, h3, h4⟩ := hown
    rcases h4 with ⟨rfl, rfl⟩ | ⟨g, cur, rfl, hl, hh, hg, hs, htk⟩
    · obtain rfl : n = 0 := by omega
      simp [Builtin.append_, run_underlying ht, sizeOf, typeInfo, hi', Builtin.lenOf, Builtin.firstCells]
    · simp [Builtin.append_, run_underlying ht, sizeOf, typeInfo, hi', Builtin.lenOf, Builtin.firstCells, h2, storeCells]
  · have hcells : ∀ j u, news[j]? = some u → w.cell? (ad.add j) = some u := by
      intro j u hu
      have hj : 0 < m := by
        rw [← hr.len]
        have := (List.getElem?_eq_some_iff.1 hu).1
        omega
      obtain ⟨b, off, e, _, hc⟩ := hr.mem hj
      injection e with e
      subst e
      have := hc j u hu
      by_cases h0 : j = 0
      · subst h0; simpa [Addr.add] using this
      · simpa [Addr.add, h0] using this
    obtain ⟨v', w', hrun, h2, h3, _, _⟩ := run_append_own_at (P := P) w lo t ty T i z 1 bytes ht hi' hz0 hsz hby hz1 (by omega) (.slice A n c) n xs hown.row ad m d news (by have := hr.len; omega) hcells h1 h63 hbytes hlo
    obtain ⟨A', c', rfl, ho⟩ := OwnV.of_row h2
    have hob : ∀ k, (Value.slice A n c).ownBlock = some k → lo ≤ k ∧ k < hi := by
      intro k hk
      obtain ⟨_, _, _, h4⟩ := hown
      rcases h4 with ⟨rfl, rfl⟩ | ⟨g, cur, rfl, hl, hh, _⟩
      · simp [Value.ownBlock] at hk
      · simp [Value.ownBlock] at hk; omega
    refine ⟨A', c', w', hrun, ho, ⟨h3.os, h3.tape, h3.output, h3.size, fun k hk hd => h3.block k hk (fun e => ?_)⟩, ⟨h3.os, h3.tape, h3.output, h3.size, fun k hk => h3.block k (by omega) (fun e => ?_)⟩⟩
    · have := hob k e.symm; omega
    · have := hob k e.symm; omega

theorem wpList_append_rv {ops : Array Oper} {rest : List Oper} {o : Oper} {a : Act} {Q : Exit → Act → World → Prop} {w : World} (hgd : o.guard = none) (s x : Operand) (t : TypeId)
    (ho : o.op = .call { callee := .builtin .append, args := #[s, x], argTypes := #[t, t] })
    (T : TypeId) (lo hi : Nat) (z : Value) (bytes : Nat) (ht : P.underlying t = some (.slice T)) (hinfo : (P.info? T).map (fun i => (i.zero, i.size, i.bytes)) = some (some z, 1, bytes)) (hz1 : z.cells.size = 1)
    (A : Option Addr) (n c : Nat) (xs : List Value) (hs : a.eval s = .slice A n c) (hown : OwnV T w lo hi A n c xs)
    (B : Nat) (S : Option Addr) (m d : Nat) (news : List Value) (hx : a.eval x = .slice S m d) (hr : RV w B S m news) (h1 : ∀ u ∈ news, u.oneCell' = true)
    (h63 : n + m ≤ maxLen) (hbytes : (n + m) * bytes ≤ 140737488355328) (hlo : lo ≤ w.heap.size)
    (h : ∀ A' c' w', OwnV T w' lo w'.heap.size A' (n + m) c' (xs ++ news) → Off lo hi w w' → Below lo w w' → wpList P ops Q rest (a.put o.dst (.slice A' (n + m) c')) w') : wpList P ops Q (o :: rest) a w := by
  refine wpList_plain hgd fun K hK => ?_
  obtain ⟨A', c', w', hrun, h2, h3, h4⟩ := run_append_rv (P := P) w T lo hi t o.type z bytes ht hinfo hz1 A n c xs hown B S m d news hr h1 h63 hbytes hlo
  unfold Oper.wp execOp
  simp only [ho, resolve, invoke, builtin, Sem.run_bind, Sem.run_pure, Result.andThen_ok, List.map_toArray, List.map_cons, List.map_nil, hs, hx, hrun]
  exact hK _ _ (h A' c' w' h2 h3 h4)

/-- append onto a slice of ints of the call's own: the source may be nil, empty or another. -/
theorem wpList_append_ints {ops : Array Oper} {rest : List Oper} {o : Oper} {a : Act} {Q : Exit → Act → World → Prop} {w : World} (hgd : o.guard = none) (s x : Operand) (t : TypeId)
    (ho : o.op = .call { callee := .builtin .append, args := #[s, x], argTypes := #[t, t] })
    (ht : P.underlying t = some (.slice 3)) (hinfo : (P.info? 3).map (fun i => (i.zero, i.size, i.bytes)) = some (some (.int .i64 0), 1, 8))
    (lo hi : Nat) (A : Option Addr) (n c : Nat) (zs : List Int) (hs : a.eval s = .slice A n c) (hown : Own w lo hi A n c zs)
    (B : Nat) (S : Option Addr) (m d : Nat) (news : List Int) (hx : a.eval x = .slice S m d) (hr : RI w B S m news)
    (hbd : n + m ≤ 1000000000000) (hlo : lo ≤ w.heap.size)
    (h : ∀ A' c' w', Own w' lo w'.heap.size A' (n + m) c' (zs ++ news) → Off lo hi w w' → Below lo w w' → wpList P ops Q rest (a.put o.dst (.slice A' (n + m) c')) w') : wpList P ops Q (o :: rest) a w :=
  wpList_append_rv hgd s x t ho 3 lo hi (.int .i64 0) 8 ht hinfo rfl A n c (zs.map vInt) hs hown B S m d (news.map vInt) hx hr (oneCell_vInt _) (by simp only [maxLen]; omega) (by omega) hlo
    fun A' c' w' h2 h3 h4 => h A' c' w' (by rw [← List.map_append] at h2; exact h2) h3 h4
/-- The one cell that 'append(out, x)' lays first. -/
theorem ri_one (w : World) (z : Int) (T : TypeId) : RI (w.alloc (.cells #[.int .i64 z] T)) (w.heap.size + 1) (some ⟨w.heap.size, 0, none⟩) 1 [z] :=
  ⟨rfl, fun _ => ⟨w.heap.size, 0, rfl, by omega, fun j u hu => by
    match j, hu with
    | 0, hu => simp at hu; subst hu; simp [vInt]⟩⟩
end

section
open Go.ChangeShapes Go.WideShapes Go.ChangeAt
variable {H : Type} {enc : TypeId × Value → H} {P : Program} {w : World}
theorem open_RV {t e : TypeId} {k : IntKind} {fuel : Nat} {cs : List Value} {x : DataW H × List MemPlace} (ht : P.underlying t = some (.slice e)) (he : P.underlying e = some (.int k)) (hc : P.cellsOf e = 1)
    (h : DataW.trod enc P w 0 (fun _ => true) true fuel t cs = some x) (f : Int → Value) (hf : ∀ z, f z = .int k z) :
    ∃ (A : Option Addr) (n c : Nat) (zs : List Int), cs = [.slice A n c] ∧ RV w w.heap.size A n (zs.map f) ∧ (∀ z ∈ zs, (Lit.int k z).wf = true) ∧ n ≤ c ∧ c ≤ maxLen := by
  rcases open_ints ht he hc h with ⟨hcs, _⟩ | ⟨a, len, cap, zs, hcs, _, hl, hm, hz, _, hcell, hwz⟩
  · exact ⟨none, 0, 0, [], hcs, RV.none_, (fun z hz => by cases hz), Nat.le_refl _, by simp [maxLen]⟩
  · simp only [if_true] at hz
    refine ⟨some a, len, cap, zs.take len, hcs, ⟨by simp; omega, fun hn => ?_⟩, fun z hzm => hwz z (List.mem_of_mem_take hzm), hl, hm⟩
    obtain ⟨b, off, spot⟩ := a
    have hc0 := hcell 0 (by omega)
    have hspot : spot = none := by simpa [Addr.add] using World.cell?_spot hc0
    subst hspot
    have hb : b < w.heap.size := by
      have h0 : w.cell? ⟨b, off, none⟩ = some (.int k (zs.getD 0 0)) := by simpa [Addr.add] using hc0
      by_cases hlt : b < w.heap.size
      · exact hlt
      · simp [World.cell?, Array.getElem?_eq_none (Nat.le_of_not_lt hlt)] at h0
    refine ⟨b, off, rfl, hb, fun j u hu => ?_⟩
    have hj : j < len := by
      have := (List.getElem?_eq_some_iff.1 hu).1
      simp at this
      omega
    have hcj := hcell j (by omega)
    rw [List.getElem?_map, List.getElem?_take, if_pos hj, List.getElem?_eq_getElem (by omega)] at hu
    simp only [Option.map_some, Option.some.injEq] at hu
    subst hu
    rw [hf]
    have e1 : zs.getD j 0 = zs[j]'(by omega) := by simp [show j < zs.length by omega]
    rw [← e1, ← hcj]
    by_cases h0 : j = 0
    · subst h0; simp [Addr.add]
    · simp [Addr.add, h0]
theorem open_RI {t e : TypeId} {A : Option Addr} {n c : Nat} {d : DataW H} {p : List MemPlace} (ht : P.underlying t = some (.slice e)) (he : P.underlying e = some (.int .i64)) (hc : P.cellsOf e = 1)
    (h : DataW.Trod enc P w 0 (fun _ => true) true t (.slice A n c) d p) : ∃ zs, RI w w.heap.size A n zs ∧ WF zs ∧ n ≤ c ∧ c ≤ maxLen := by
  obtain ⟨fuel, hf⟩ := h
  obtain ⟨A', n', c', zs, hcs, hr, hw, h1, h2⟩ := open_RV ht he hc hf vInt (fun _ => rfl)
  simp [Value.cells] at hcs
  obtain ⟨rfl, rfl, rfl⟩ := hcs
  exact ⟨zs, hr, fun z hz => bounds_i64 (hw z hz), h1, h2⟩
theorem open_RB {t e : TypeId} {A : Option Addr} {n c : Nat} {d : DataW H} {p : List MemPlace} (ht : P.underlying t = some (.slice e)) (he : P.underlying e = some (.int .u8)) (hc : P.cellsOf e = 1)
    (h : DataW.Trod enc P w 0 (fun _ => true) true t (.slice A n c) d p) : ∃ zs, RB w w.heap.size A n zs ∧ (∀ z ∈ zs, 0 ≤ z ∧ z ≤ 255) ∧ n ≤ c ∧ c ≤ maxLen := by
  obtain ⟨fuel, hf⟩ := h
  obtain ⟨A', n', c', zs, hcs, hr, hw, h1, h2⟩ := open_RV ht he hc hf vByte (fun _ => rfl)
  simp [Value.cells] at hcs
  obtain ⟨rfl, rfl, rfl⟩ := hcs
  exact ⟨zs, hr, fun z hz => bounds_u8 (hw z hz), h1, h2⟩
theorem agg_RI {cs : Array Value} {j : Nat} {t e : TypeId} (ht : P.underlying t = some (.slice e)) (he : P.underlying e = some (.int .i64)) (hc : P.cellsOf e = 1)
    (h : ∃ (c : Value) (y : DataW H × List MemPlace) (n : Nat), cs[j]? = some c ∧ DataW.trod enc P w 0 (fun _ => true) true n t [c] = some y) :
    ∃ (A : Option Addr) (n c : Nat) (zs : List Int), cs[j]? = some (.slice A n c) ∧ RI w w.heap.size A n zs ∧ WF zs ∧ n ≤ c ∧ c ≤ maxLen := by
  obtain ⟨v, y, m, hcv, hy⟩ := h
  obtain ⟨A, n, c, zs, hcs, hr, hw, h1, h2⟩ := open_RV ht he hc hy vInt (fun _ => rfl)
  simp only [List.cons.injEq, and_true] at hcs
  subst hcs
  exact ⟨A, n, c, zs, hcv, hr, fun z hz => bounds_i64 (hw z hz), h1, h2⟩
end
end Go.Proofs.Ytmibajhilbfecaa
