/- Monitors: slices of modes (nine cells each): words for memory and the plain functions. -/
import Derived.Test.YtmibajhilbfecaaSlots
import Derived.Test.YtmibajhilbfecaaSl
import Derived.Test.YtmibajhilbfecaaBase2
import Derived.Maps.AppendAt
namespace Go.Proofs.Ytmibajhilbfecaa
open Go.RowKit Go.Deep
def mCells (m : MD) : List Value := [.int .i64 m.c, .int .i64 m.w, .int .i64 m.hf, .int .i64 m.hs, .int .i64 m.hb, .int .i64 m.h, .int .i64 m.vf, .int .i64 m.vs, .int .i64 m.vb]
def zMD : MD := ⟨0, 0, 0, 0, 0, 0, 0, 0, 0⟩
def mat (ms : List MD) (k : Nat) : MD := ms.getD k zMD
theorem mat_eq {ms : List MD} {k : Nat} (h : k < ms.length) : mat ms k = ms[k] := by simp [mat, h]
theorem mat_mem {ms : List MD} {k : Nat} (h : k < ms.length) : mat ms k ∈ ms := by rw [mat_eq h]; exact List.getElem_mem h
theorem take_mat {ms : List MD} {k : Nat} (h : k < ms.length) : ms.take (k + 1) = ms.take k ++ [mat ms k] := by rw [take_snoc h, mat_eq h]
theorem drop_mat {ms : List MD} {k : Nat} (h : k < ms.length) : ms.drop k = mat ms k :: ms.drop (k + 1) := by rw [List.drop_eq_getElem_cons h, mat_eq h]
/-- The nine cells of a mode, from cell o of block b on. -/
def MCel (w : World) (b o : Nat) (m : MD) : Prop := ∀ i u, (mCells m)[i]? = some u → w.cell? ⟨b, o + i, none⟩ = some u
section
variable {w w' : World} {B B' b o n c : Nat} {A : Option Addr} {ms : List MD} {m : MD}
theorem MCel.nine (h : MCel w b o m) : w.cell? ⟨b, o, none⟩ = some (.int .i64 m.c) ∧ w.cell? ⟨b, o + 1, none⟩ = some (.int .i64 m.w) ∧ w.cell? ⟨b, o + 2, none⟩ = some (.int .i64 m.hf) ∧ w.cell? ⟨b, o + 3, none⟩ = some (.int .i64 m.hs) ∧ w.cell? ⟨b, o + 4, none⟩ = some (.int .i64 m.hb) ∧ w.cell? ⟨b, o + 5, none⟩ = some (.int .i64 m.h) ∧ w.cell? ⟨b, o + 6, none⟩ = some (.int .i64 m.vf) ∧ w.cell? ⟨b, o + 7, none⟩ = some (.int .i64 m.vs) ∧ w.cell? ⟨b, o + 8, none⟩ = some (.int .i64 m.vb) :=
  ⟨h 0 _ rfl, h 1 _ rfl, h 2 _ rfl, h 3 _ rfl, h 4 _ rfl, h 5 _ rfl, h 6 _ rfl, h 7 _ rfl, h 8 _ rfl⟩
theorem MCel.keep (h : MCel w b o m) (hk : ∀ p : Addr, p.block = b → w'.cell? p = w.cell? p) : MCel w' b o m := fun i u hu => (hk _ rfl).trans (h i u hu)
/-- The slice '.slice A n c' of modes reads as ms, in a block below B. -/
structure RM (w : World) (B : Nat) (A : Option Addr) (n : Nat) (ms : List MD) : Prop where
  len : ms.length = n
  mem : 0 < n → ∃ b off, A = some ⟨b, off, none⟩ ∧ b < B ∧ ∀ j, j < n → MCel w b (off + j * 9) (mat ms j)
theorem RM.none_ : RM w B A 0 [] := ⟨rfl, fun h => absurd h (by omega)⟩
theorem RM.keep (h : RM w B A n ms) (hk : ∀ p : Addr, p.block < B → w'.cell? p = w.cell? p) : RM w' B A n ms :=
  ⟨h.len, fun hn => by
    obtain ⟨b, off, e, hb, hc⟩ := h.mem hn
    exact ⟨b, off, e, hb, fun j hj => (hc j hj).keep fun p hp => hk p (by omega)⟩⟩
theorem RM.more (h : RM w B A n ms) (hB : B ≤ B') : RM w B' A n ms :=
  ⟨h.len, fun hn => by
    obtain ⟨b, off, e, hb, hc⟩ := h.mem hn
    exact ⟨b, off, e, by omega, hc⟩⟩
theorem RM.below {C : Nat} (h : RM w B A n ms) (hb : Below C w w') (hC : B ≤ C) : RM w' B A n ms := h.keep fun _ hp => hb.cell (by omega)
theorem RM.drew (h : RM w B A n ms) : RM w.drew B A n ms := ⟨h.len, h.mem⟩
theorem RM.drewN (h : RM w B A n ms) (k : Nat) : RM (w.drewN k) B A n ms := ⟨h.len, h.mem⟩
theorem RM.alloc (h : RM w B A n ms) (hB : B ≤ w.heap.size) (o : Obj) : RM (w.alloc o) B A n ms := h.keep fun p hp => World.cell?_alloc_lt w o p (by omega)
theorem RM.at_ {k : Nat} (h : RM w B A n ms) (hk : k < n) : ∃ b off, A = some ⟨b, off, none⟩ ∧ b < B ∧ MCel w b (off + k * 9) (mat ms k) := by
  obtain ⟨b, off, e, hb, hc⟩ := h.mem (by omega)
  exact ⟨b, off, e, hb, hc k hk⟩
end
/-! ### the cells of a list of modes -/
def flatM (ms : List MD) : List Value := ms.flatMap mCells
theorem flatM_snoc (ms : List MD) (m : MD) : flatM (ms ++ [m]) = flatM ms ++ mCells m := by simp [flatM]
theorem mCells_len (m : MD) : (mCells m).length = 9 := rfl
theorem flatM_len : ∀ ms : List MD, (flatM ms).length = ms.length * 9
  | [] => rfl
  | m :: ms => by
    have : flatM (m :: ms) = mCells m ++ flatM ms := by simp [flatM]
    rw [this, List.length_append, flatM_len ms, mCells_len, List.length_cons]; omega
theorem flatM_at : ∀ (ms : List MD) (j : Nat), j < ms.length → ∀ i, i < 9 → (flatM ms)[j * 9 + i]? = (mCells (mat ms j))[i]?
  | [], j, h => by simp at h
  | m :: ms, 0, _ => fun i hi => by
    have : flatM (m :: ms) = mCells m ++ flatM ms := by simp [flatM]
    rw [this, List.getElem?_append_left (by rw [mCells_len]; omega), show 0 * 9 + i = i by omega]
    rfl
  | m :: ms, j + 1, h => fun i hi => by
    have : flatM (m :: ms) = mCells m ++ flatM ms := by simp [flatM]
    rw [this, List.getElem?_append_right (by rw [mCells_len]; omega), mCells_len, show (j + 1) * 9 + i - 9 = j * 9 + i by omega, flatM_at ms j (by simpa using h) i hi]
    simp [mat]
/-- An owned slice of modes. -/
def OwnM (w : World) (base : Nat) (v : Value) (n : Nat) (ms : List MD) : Prop := w.ownsRow base 39 9 v n (flatM ms)
section
variable {w w' : World} {base n : Nat} {v : Value} {ms : List MD}
theorem OwnM.rm (h : OwnM w base v n ms) (hl : ms.length = n) : ∃ A c, v = .slice A n c ∧ RM w w.heap.size A n ms := by
  obtain ⟨_, ⟨rfl, rfl⟩ | ⟨g, cap, cur, rfl, hb, hg, hnc, _, hcs, htk⟩⟩ := h
  · obtain rfl : ms = [] := List.eq_nil_of_length_eq_zero hl
    exact ⟨none, 0, rfl, RM.none_⟩
  · refine ⟨_, cap, rfl, hl, fun hn => ⟨g, 0, rfl, heap_lt hg, fun j hj i u hu => ?_⟩⟩
    have hi : i < 9 := by have := (List.getElem?_eq_some_iff.1 hu).1; simpa [mCells] using this
    have hf := flatM_at ms j (by omega) i hi
    rw [← htk, List.getElem?_take, if_pos (by omega)] at hf
    rw [cell_in hg, Nat.zero_add]
    rw [← hu, ← hf]
    simp
theorem OwnM.alloc (h : OwnM w base v n ms) (o : Obj) : OwnM (w.alloc o) base v n ms := by
  obtain ⟨h1, h2 | ⟨g, cap, cur, e, hb, hg, r⟩⟩ := h
  · exact ⟨h1, .inl h2⟩
  · exact ⟨h1, .inr ⟨g, cap, cur, e, hb, (Below.heap_alloc w o g (heap_lt hg)).trans hg, r⟩⟩
theorem OwnM.keep (h : OwnM w base v n ms) (hk : ∀ g, base ≤ g → g < w.heap.size → w'.heap[g]? = w.heap[g]?) : OwnM w' base v n ms := by
  obtain ⟨h1, h2 | ⟨g, cap, cur, e, hb, hg, r⟩⟩ := h
  · exact ⟨h1, .inl h2⟩
  · exact ⟨h1, .inr ⟨g, cap, cur, e, hb, (hk g hb (heap_lt hg)).trans hg, r⟩⟩
theorem OwnM.below (h : OwnM w base v n ms) (hb : Below w.heap.size w w') : OwnM w' base v n ms := h.keep fun g _ hg => hb.block g hg
theorem OwnM.nil : OwnM w base (.slice none 0 0) 0 [] := ⟨rfl, .inl ⟨rfl, rfl⟩⟩
theorem OwnM.block {g : Nat} (h : OwnM w base v n ms) (hg : v.ownBlock = some g) : base ≤ g := by
  obtain ⟨_, ⟨rfl, _⟩ | ⟨g', cap, cur, rfl, hb, _⟩⟩ := h
  · simp [Value.ownBlock] at hg
  · simp [Value.ownBlock] at hg; omega
end
/-! ### plain functions -/
def nameB (N : ByteArray) : Bool := N.data.toList.all fun b => inB (b.toNat : Int) 33 126
theorem nameB_no {N : ByteArray} {k : Nat} (hk : k < N.size) (h : inB (N[k].toNat : Int) 33 126 = false) : nameB N = false := by
  unfold nameB
  rw [List.all_eq_false]
  exact ⟨N[k], by rw [Array.mem_toList_iff]; exact Array.getElem_mem (xs := N.data) hk, by rw [h]; decide⟩
theorem nameB_yes {N : ByteArray} (h : ∀ k (hk : k < N.size), inB (N[k].toNat : Int) 33 126 = true) : nameB N = true := by
  unfold nameB
  rw [List.all_eq_true]
  intro b hb
  rw [Array.mem_toList_iff] at hb
  obtain ⟨k, hk, rfl⟩ := Array.getElem_of_mem hb
  exact h k hk
def monB (N : ByteArray) (ms : List MD) (s : Int) : Bool := inB N.size 1 8 && inB ms.length 1 4 && inB s 0 255 && nameB N && ms.all modeB
/-- ChooseMode's search: what is left of the list, the best so far. -/
def chG (w h : Int) : List MD → MD → MD
  | [], b => b
  | x :: xs, b => if x.w = w ∧ x.h = h then x else chG w h xs (if b.w * b.h < x.w * x.h then x else b)
def chooseF (N : ByteArray) (ms : List MD) (s w h : Int) : MD × Bool := if monB N ms s then (chG w h ms (mat ms 0), true) else (zMD, false)
def fitB (l r d : Int) (m : MD) : Bool := inB (slotsF m l r d) 1 16
def bestF (N : ByteArray) (ms : List MD) (s w h l r d : Int) : MD × Bool := if monB N ms s && linkB l r d then chooseF N (ms.filter (fitB l r d)) s w h else (zMD, false)
theorem chG_mem (w h : Int) : ∀ (ms : List MD) (b : MD), chG w h ms b = b ∨ chG w h ms b ∈ ms
  | [], b => .inl rfl
  | x :: xs, b => by
    unfold chG
    split
    · exact .inr List.mem_cons_self
    · rcases chG_mem w h xs (if b.w * b.h < x.w * x.h then x else b) with h1 | h1
      · rw [h1]
        split
        · exact .inr List.mem_cons_self
        · exact .inl rfl
      · exact .inr (List.mem_cons_of_mem _ h1)
theorem monB_t {N : ByteArray} {ms : List MD} {s : Int} : monB N ms s = true ↔ (1 ≤ N.size ∧ N.size ≤ 8) ∧ (1 ≤ ms.length ∧ ms.length ≤ 4) ∧ (0 ≤ s ∧ s ≤ 255) ∧ nameB N = true ∧ ∀ m ∈ ms, modeB m = true := by
  simp only [monB, Bool.and_eq_true, inB_t, List.all_eq_true, and_assoc]
  constructor
  · rintro ⟨h1, h2, h3, h4, h5, h6, h7, h8⟩; exact ⟨by omega, by omega, by omega, by omega, h5, h6, h7, h8⟩
  · rintro ⟨h1, h2, h3, h4, h5, h6, h7, h8⟩; exact ⟨by omega, by omega, by omega, by omega, h5, h6, h7, h8⟩
theorem filter_monB {N : ByteArray} {ms : List MD} {s : Int} (p : MD → Bool) (h : monB N ms s = true) : monB N (ms.filter p) s = decide (ms.filter p ≠ []) := by
  obtain ⟨h1, h2, h3, h4, h5⟩ := monB_t.1 h
  by_cases hn : ms.filter p = []
  · rw [hn]; simp [monB, inB]
  · have : monB N (ms.filter p) s = true := monB_t.2 ⟨h1, ⟨List.length_pos_iff.2 hn, Nat.le_trans (List.length_filter_le _ _) h2.2⟩, h3, h4, fun m hm => h5 m ((List.mem_filter.1 hm).1)⟩
    rw [this]; simp [hn]
end Go.Proofs.Ytmibajhilbfecaa
