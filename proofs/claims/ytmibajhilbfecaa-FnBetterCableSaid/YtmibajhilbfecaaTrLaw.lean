/- Training, the plain law: the first link of the sorted list that works has the greatest capacity of those that work; a better cable has no worse link. -/
import Derived.Test.YtmibajhilbfecaaTrain
namespace Go.Proofs.Ytmibajhilbfecaa
def capL (l : LK) : Int := capOf l.ln l.rt l.dr
set_option maxRecDepth 100000 in
theorem linksS_sorted : linksS.Pairwise (fun a b => capL b ≤ capL a) := by decide +kernel
set_option maxRecDepth 100000 in
theorem linksS_ok : ∀ l ∈ linksS, linkB l.ln l.rt l.dr = true := by decide +kernel
/-- The links that the law tries, by number. -/
def lawL (k : Nat) : LK := ⟨((2 ^ (k % 3) : Nat) : Int), ((1 + k / 3 % 4 : Nat) : Int), ((k / 12 : Nat) : Int)⟩
set_option maxRecDepth 100000 in
theorem lawL_mem : ∀ k, k < 48 → lawL k ∈ linksS := by decide +kernel
structure GoT (q s : List Int) (L : List LK) (n : Nat) (r : LK × Nat × Bool) : Prop where
  yes : r.2.2 = true → r.1 ∈ L ∧ wK q s r.1 = true ∧ ∀ x ∈ L, wK q s x = true → capL x ≤ capL r.1
  no : r.2.2 = false → r.1 = ⟨0, 0, 0⟩ ∧ ∀ x ∈ L, wK q s x = false
  lo : n + min 1 L.length ≤ r.2.1
  hi : r.2.1 ≤ n + L.length
theorem goT_law (q s : List Int) : ∀ (L : List LK) (n : Nat), L.Pairwise (fun a b => capL b ≤ capL a) → GoT q s L n (goT q s L n)
  | [], n, _ => ⟨fun h => by simp [goT] at h, fun _ => ⟨rfl, fun x hx => by cases hx⟩, by simp [goT], by simp [goT]⟩
  | l :: L, n, hp => by
    rw [List.pairwise_cons] at hp
    cases hw : wK q s l
    · have ih := goT_law q s L (n + 1) hp.2
      have e : goT q s (l :: L) n = goT q s L (n + 1) := by simp [goT, hw]
      rw [e]
      refine ⟨fun h => ?_, fun h => ?_, ?_, ?_⟩
      · obtain ⟨h1, h2, h3⟩ := ih.yes h
        refine ⟨List.mem_cons_of_mem _ h1, h2, fun x hx hxw => ?_⟩
        rcases List.mem_cons.1 hx with rfl | hx
        · rw [hw] at hxw; cases hxw
        · exact h3 x hx hxw
      · obtain ⟨h1, h2⟩ := ih.no h
        refine ⟨h1, fun x hx => ?_⟩
        rcases List.mem_cons.1 hx with rfl | hx
        · exact hw
        · exact h2 x hx
      · have := ih.lo; simp; omega
      · have := ih.hi; simp; omega
    · have e : goT q s (l :: L) n = (l, n + 1, true) := by simp [goT, hw]
      rw [e]
      refine ⟨fun _ => ⟨List.mem_cons_self, hw, fun x hx _ => ?_⟩, fun h => (by cases h), (by simp), (by simp)⟩
      rcases List.mem_cons.1 hx with rfl | hx
      · exact Int.le_refl _
      · exact hp.1 x hx
theorem trainF_law {q s : List Int} (h : cableB q s = true) : GoT q s linksS 0 (trainF q s) := by
  have : trainF q s = goT q s linksS 0 := by simp [trainF, h]
  rw [this]
  exact goT_law q s linksS 0 linksS_sorted
theorem capL_nonneg (l : LK) : 0 ≤ capL l := by
  unfold capL capOf
  split
  · rename_i h
    obtain ⟨h1, h2, h3⟩ := linkB_t.1 h
    have a : 0 ≤ l.ln := by omega
    have b : 0 ≤ l.rt := by omega
    exact Int.mul_nonneg a b
  · exact Int.le_refl _
/-- What FnTrained asks of one link. -/
theorem trained_at {q s : List Int} (h : cableB q s = true) {k : Nat} (hk : k < 48) (hw : linkW q s (lawL k).ln (lawL k).rt (lawL k).dr = true) : (trainF q s).2.2 = true ∧ capL (lawL k) ≤ capL (trainF q s).1 := by
  have hl := trainF_law h
  cases ho : (trainF q s).2.2
  · have := (hl.no ho).2 _ (lawL_mem k hk)
    rw [wK, hw] at this
    cases this
  · exact ⟨rfl, (hl.yes ho).2.2 _ (lawL_mem k hk) hw⟩
theorem trained_end {q s : List Int} (h : cableB q s = true) : (1 ≤ (trainF q s).2.1 ∧ (trainF q s).2.1 ≤ 48) ∧ ((trainF q s).2.2 = true → linkW q s (trainF q s).1.ln (trainF q s).1.rt (trainF q s).1.dr = true ∧ ((skewsF q s (trainF q s).1.ln (trainF q s).1.rt (trainF q s).1.dr).length : Int) = (trainF q s).1.ln) := by
  have hl := trainF_law h
  refine ⟨⟨?_, ?_⟩, fun ho => ?_⟩
  · have := hl.lo; rw [linksS_len] at this; omega
  · have := hl.hi; rw [linksS_len] at this; omega
  · obtain ⟨h1, h2, _⟩ := hl.yes ho
    refine ⟨h2, ?_⟩
    have hb := linksS_ok _ h1
    have h4 := (cableB_t.1 h).2.1
    obtain ⟨hln, _, _⟩ := linkB_t.1 hb
    rw [skewsF, if_pos (by rw [h, hb]; rfl), List.length_take]
    omega
/-- A cable is no worse than another where every lane's quality is no less. -/
theorem laneB_mono {q q' s : List Int} (h' : cableB q' s = true) (hq : ∀ j, j < 4 → zat q j ≤ zat q' j) {k r d : Int} (hw : laneB q s k r d = true) : laneB q' s k r d = true := by
  simp only [laneB, Bool.and_eq_true, decide_eq_true_eq, inB_t] at hw ⊢
  obtain ⟨⟨⟨⟨_, hr⟩, hd⟩, hk⟩, hl⟩ := hw
  have := hq k.toNat (by omega)
  exact ⟨⟨⟨⟨h', hr⟩, hd⟩, hk⟩, by omega⟩
theorem linkW_mono {q q' s : List Int} (h' : cableB q' s = true) (hq : ∀ j, j < 4 → zat q j ≤ zat q' j) {l r d : Int} (hw : linkW q s l r d = true) : linkW q' s l r d = true := by
  simp only [linkW, Bool.and_eq_true, List.all_eq_true] at hw ⊢
  exact ⟨hw.1, fun k hk => laneB_mono h' hq (hw.2 k hk)⟩
theorem better_law {q q' s : List Int} (h : cableB q s = true) (h' : cableB q' s = true) (hq : ∀ j, j < 4 → zat q j ≤ zat q' j) :
    ((trainF q s).2.2 = true → (trainF q' s).2.2 = true) ∧ capL (trainF q s).1 ≤ capL (trainF q' s).1 := by
  have hl := trainF_law h
  have hl' := trainF_law h'
  cases ho : (trainF q s).2.2
  · refine ⟨fun h => (by cases h), ?_⟩
    rw [(hl.no ho).1]
    have e : capL ⟨0, 0, 0⟩ = 0 := by decide
    rw [e]
    exact capL_nonneg _
  · obtain ⟨h1, h2, _⟩ := hl.yes ho
    have h3 : wK q' s (trainF q s).1 = true := linkW_mono h' hq h2
    cases ho' : (trainF q' s).2.2
    · have := (hl'.no ho').2 _ h1
      rw [h3] at this
      cases this
    · exact ⟨fun _ => rfl, (hl'.yes ho').2.2 _ h1 h3⟩
/-- Lane k made better by t. -/
def upQ (q : List Int) (k : Nat) (t : Int) : List Int := q.set k (min 12 (zat q k + t))
theorem upQ_len (q : List Int) (k : Nat) (t : Int) : (upQ q k t).length = q.length := by simp [upQ]
theorem zat_upQ (q : List Int) (k j : Nat) (t : Int) (hk : k < q.length) : zat (upQ q k t) j = if k = j then min 12 (zat q k + t) else zat q j := by
  unfold zat upQ
  rw [List.getD_eq_getElem?_getD, List.getElem?_set]
  by_cases h : k = j
  · subst h; rw [if_pos rfl, if_pos hk, if_pos rfl]; rfl
  · simp [h]
theorem upQ_ok {q s : List Int} {k : Nat} {t : Int} (h : cableB q s = true) (hk : k < 4) (ht : 0 ≤ t) : cableB (upQ q k t) s = true ∧ ∀ j, j < 4 → zat q j ≤ zat (upQ q k t) j := by
  obtain ⟨h1, h2, h3, h4⟩ := cableB_t.1 h
  have hz := fun j => zat_upQ q k j t (by omega)
  refine ⟨cableB_t.2 ⟨by rw [upQ_len]; exact h1, h2, fun j hj => ?_, h4⟩, fun j hj => ?_⟩
  · rw [hz]
    have := h3 k hk
    have := h3 j hj
    split <;> omega
  · rw [hz]
    have := h3 k hk
    split
    · rename_i e; subst e; omega
    · exact Int.le_refl _
end Go.Proofs.Ytmibajhilbfecaa
