/- What a monitor among the arguments reads as: a string, a slice of modes, a number. -/
import Derived.Test.YtmibajhilbfecaaMon
import Derived.ChangeSlices
import Derived.ChangeMaps5
namespace Go.Proofs.Ytmibajhilbfecaa
open Go.ChangeShapes Go.WideShapes Go.ChangeAt Go.RowKit Go.Deep
theorem list_ofM {α : Type} {Q : Nat → α → Prop} : ∀ n, (∀ i, i < n → ∃ a, Q i a) → ∃ ps : List α, ps.length = n ∧ ∀ i a, ps[i]? = some a → Q i a
  | 0, _ => ⟨[], rfl, fun i a h => by simp at h⟩
  | n + 1, h => by
    obtain ⟨ps, h1, h2⟩ := list_ofM n (fun i hi => h i (by omega))
    obtain ⟨a, ha⟩ := h n (by omega)
    refine ⟨ps ++ [a], by simp [h1], fun i b hb => ?_⟩
    by_cases hi : i < ps.length
    · rw [List.getElem?_append_left hi] at hb; exact h2 i b hb
    · rw [List.getElem?_append_right (by omega)] at hb
      have hl := (List.getElem?_eq_some_iff.1 hb).1
      simp at hl
      obtain rfl : i = n := by omega
      simp [h1] at hb
      subst hb
      exact ha
theorem nine_eq {cs : List Value} {m : MD} (hs : cs.length = 9) (h0 : cs[0]? = some (.int .i64 m.c)) (h1 : cs[1]? = some (.int .i64 m.w)) (h2 : cs[2]? = some (.int .i64 m.hf)) (h3 : cs[3]? = some (.int .i64 m.hs)) (h4 : cs[4]? = some (.int .i64 m.hb))
    (h5 : cs[5]? = some (.int .i64 m.h)) (h6 : cs[6]? = some (.int .i64 m.vf)) (h7 : cs[7]? = some (.int .i64 m.vs)) (h8 : cs[8]? = some (.int .i64 m.vb)) : cs = mCells m := by
  match cs, hs with
  | [_, _, _, _, _, _, _, _, _], _ => simp_all [mCells]
section
variable {H : Type} {enc : TypeId × Value → H} {P : Program} {w : World}
theorem cells_mode {e T : TypeId} {fs : Array Field} {fuel : Nat} {cs : List Value} {y : DataW H × List MemPlace} (he : P.underlying e = some (.struct fs)) (hone : oneCellFields P fs = true) (hsz : fs.size = 9) (hall : (fs.all fun f => f.type == T) = true) (hT : P.underlying T = some (.int .i64))
    (hl : cs.length = 9) (h : DataW.trod enc P w 0 (fun _ => true) true fuel e cs = some y) : ∃ m : MD, cs = mCells m := by
  obtain ⟨xs, n, _, _, _, hxl, hg⟩ := DataW.trod_struct he h
  have hz : ∀ j, j < 9 → ∃ z : Int, cs[j]? = some (.int .i64 z) := by
    intro j hj
    have hf : fs[j]? = some (fs[j]'(by omega)) := Array.getElem?_eq_getElem (by omega)
    obtain ⟨ho, hk⟩ := hone_of hone j _ hf
    have ht : (fs[j]'(by omega)).type = T := by
      rw [Array.all_eq_true] at hall
      simpa using hall j (by omega)
    have h1 := hg j _ hf
    rw [ho, hk, ht] at h1
    have hone' : (cs.drop j).take 1 = [cs[j]'(by omega)] := by
      rw [List.drop_eq_getElem_cons (by omega)]; rfl
    rw [hone', List.getElem?_eq_getElem (by omega)] at h1
    obtain ⟨z, hz, _, _⟩ := DataW.trod_int hT h1
    simp only [List.cons.injEq, and_true] at hz
    exact ⟨z, by rw [List.getElem?_eq_getElem (by omega), hz]⟩
  obtain ⟨z0, e0⟩ := hz 0 (by omega)
  obtain ⟨z1, e1⟩ := hz 1 (by omega)
  obtain ⟨z2, e2⟩ := hz 2 (by omega)
  obtain ⟨z3, e3⟩ := hz 3 (by omega)
  obtain ⟨z4, e4⟩ := hz 4 (by omega)
  obtain ⟨z5, e5⟩ := hz 5 (by omega)
  obtain ⟨z6, e6⟩ := hz 6 (by omega)
  obtain ⟨z7, e7⟩ := hz 7 (by omega)
  obtain ⟨z8, e8⟩ := hz 8 (by omega)
  exact ⟨⟨z0, z1, z2, z3, z4, z5, z6, z7, z8⟩, nine_eq hl e0 e1 e2 e3 e4 e5 e6 e7 e8⟩
theorem agg_RM {cs : Array Value} {j : Nat} {t e T : TypeId} {fs : Array Field} (ht : P.underlying t = some (.slice e)) (he : P.underlying e = some (.struct fs)) (hone : oneCellFields P fs = true) (hsz : fs.size = 9) (hall : (fs.all fun f => f.type == T) = true) (hT : P.underlying T = some (.int .i64)) (hC : P.cellsOf e = 9)
    (h : ∃ (c : Value) (y : DataW H × List MemPlace) (n : Nat), cs[j]? = some c ∧ DataW.trod enc P w 0 (fun _ => true) true n t [c] = some y) :
    ∃ (A : Option Addr) (n c : Nat) (ms : List MD), cs[j]? = some (.slice A n c) ∧ RM w w.heap.size A n ms ∧ n ≤ c ∧ c ≤ maxLen := by
  obtain ⟨v, y, fuel, hcv, hf⟩ := h
  rcases DataW.trod_slice ht hf with ⟨h0, _⟩ | ⟨a, len, cap, elems, rest, m, _, h0, _, hb, hl, hm, hlen, hel, hsp, hns⟩
  · simp only [List.cons.injEq, and_true] at h0
    subst h0
    exact ⟨none, 0, 0, [], hcv, RM.none_, Nat.le_refl _, by simp [maxLen]⟩
  · simp only [List.cons.injEq, and_true] at h0
    subst h0
    obtain ⟨ps, hps, hQ⟩ := list_ofM (Q := fun i (q : MD) => ∀ k u, (mCells q)[k]? = some u → w.cell? ((a.add (i * 9)).add k) = some u) len (fun i hi => by
      have h1 := hel i hi
      rw [hC, List.getElem?_eq_getElem (by omega), Option.bind_eq_some_iff] at h1
      obtain ⟨cs', hcs, hy'⟩ := h1
      obtain ⟨_, hl9, hcell⟩ := World.cells?_some hcs
      obtain ⟨q, rfl⟩ := cells_mode he hone hsz hall hT hl9 hy'
      refine ⟨q, fun k u hu => ?_⟩
      have hk : k < 9 := by have := (List.getElem?_eq_some_iff.1 hu).1; simpa [mCells] using this
      rw [hcell k hk, hu])
    refine ⟨some a, len, cap, ps, hcv, ⟨hps, fun hn => ?_⟩, hl, hm⟩
    obtain ⟨b, off, spot⟩ := a
    have hc0 := hQ 0 _ (List.getElem?_eq_getElem (by omega)) 0 _ rfl
    have hc0' : w.cell? ⟨b, off, spot⟩ = some (.int .i64 (ps[0]'(by omega)).c) := by simpa [Addr.add] using hc0
    have hspot : spot = none := by simpa using World.cell?_spot hc0'
    subst hspot
    have hbl : b < w.heap.size := by
      by_cases hlt : b < w.heap.size
      · exact hlt
      · simp [World.cell?, Array.getElem?_eq_none (Nat.le_of_not_lt hlt)] at hc0'
    refine ⟨b, off, rfl, hbl, fun i hi k u hu => ?_⟩
    have hmi : ps[i]? = some (mat ps i) := by rw [mat_eq (by omega), List.getElem?_eq_getElem (by omega)]
    have h2 := hQ i _ hmi k u hu
    have e1 : ((⟨b, off, none⟩ : Addr).add (i * 9)).add k = ⟨b, off + i * 9 + k, none⟩ := by
      by_cases h1 : i * 9 = 0
      · by_cases h2 : k = 0
        · subst h2; simp [Addr.add, h1]
        · simp [Addr.add, h1, h2]
      · by_cases h2 : k = 0
        · subst h2; simp [Addr.add, h1]
        · simp [Addr.add, h1, h2]
    rwa [e1] at h2
theorem agg_str {cs : Array Value} {j : Nat} {t : TypeId} (ht : P.underlying t = some .string)
    (h : ∃ (c : Value) (y : DataW H × List MemPlace) (n : Nat), cs[j]? = some c ∧ DataW.trod enc P w 0 (fun _ => true) true n t [c] = some y) : ∃ N : ByteArray, cs[j]? = some (.string N) ∧ N.size ≤ maxLen := by
  obtain ⟨v, y, n, hcv, hy⟩ := h
  obtain ⟨N, h1, _, h3⟩ := DataW.trod_string ht hy
  simp only [List.cons.injEq, and_true] at h1
  subst h1
  exact ⟨N, hcv, h3⟩
end
end Go.Proofs.Ytmibajhilbfecaa
