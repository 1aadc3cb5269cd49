/- Plain laws of the slots: the counts of the streams 1 .. 4. -/
import Derived.Test.YtnagphedlmbagaaTake
namespace Go.Proofs.Ytnagphedlmbagaa
open Go.RowKit Go.Deep

/-- The slots of every stream, as FnSlots keeps them. -/
def owL (T : List Int) : List Int := [0, (T.count 1 : Nat), (T.count 2 : Nat), (T.count 3 : Nat), (T.count 4 : Nat), 0, 0, 0, 0, 0]
def T16 (T : List Int) : Prop := T.length = 16 ∧ ∀ z ∈ T, 0 ≤ z ∧ z ≤ 4
theorem owL_len (T : List Int) : (owL T).length = 10 := rfl
theorem owL_at {T : List Int} {s : Nat} (h1 : 1 ≤ s) (h4 : s ≤ 4) : zat (owL T) s = (T.count (s : Int) : Nat) := by
  have : s = 1 ∨ s = 2 ∨ s = 3 ∨ s = 4 := by omega
  rcases this with rfl | rfl | rfl | rfl <;> rfl
theorem count5 : ∀ (T : List Int), (∀ z ∈ T, 0 ≤ z ∧ z ≤ 4) → T.count 0 + T.count 1 + T.count 2 + T.count 3 + T.count 4 = T.length
  | [], _ => rfl
  | z :: T, h => by
    have ih := count5 T (fun z hz => h z (List.mem_cons_of_mem _ hz))
    have hz := h z (List.mem_cons_self ..)
    have : z = 0 ∨ z = 1 ∨ z = 2 ∨ z = 3 ∨ z = 4 := by omega
    rcases this with rfl | rfl | rfl | rfl | rfl <;> simp <;> omega
theorem owL_sum {T : List Int} (h : T16 T) : (owL T).sum = 16 - (T.count 0 : Nat) := by
  have := count5 T h.2
  have := h.1
  simp [owL]
  omega
theorem owL_rng {T : List Int} (h : T16 T) {k : Nat} (hk : k ≤ 10) : 0 ≤ ((owL T).take k).sum ∧ ((owL T).take k).sum ≤ 16 := by
  have h5 := count5 T h.2
  have h6 := h.1
  have : k = 0 ∨ k = 1 ∨ k = 2 ∨ k = 3 ∨ k = 4 ∨ k = 5 ∨ k = 6 ∨ k = 7 ∨ k = 8 ∨ k = 9 ∨ k = 10 := by omega
  rcases this with rfl | rfl | rfl | rfl | rfl | rfl | rfl | rfl | rfl | rfl | rfl <;> simp [owL] <;> omega
theorem count_free (s : Int) (hs : s ≠ 0) (x : Int) (hx : x ≠ 0) : ∀ T : List Int, (freeF s T).count x = if x = s then 0 else T.count x
  | [] => by simp [freeF]
  | z :: T => by
    have ih := count_free s hs x hx T
    have e : freeF s (z :: T) = (if z = s then 0 else z) :: freeF s T := rfl
    rw [e, List.count_cons, ih, List.count_cons]
    by_cases h1 : z = s
    · subst h1
      by_cases h2 : x = z
      · subst h2; simp; omega
      · have h2' : ¬ z = x := fun h => h2 h.symm
        simp [h2, h2']; omega
    · by_cases h2 : x = s
      · subst h2; simp [h1]
      · simp [h1, h2]
theorem owL_free {T : List Int} {s : Nat} (h1 : 1 ≤ s) (h4 : s ≤ 4) : (owL T).set s 0 = owL (freeF s T) := by
  have : s = 1 ∨ s = 2 ∨ s = 3 ∨ s = 4 := by omega
  rcases this with rfl | rfl | rfl | rfl <;> simp [owL, count_free]
theorem t16_free {T : List Int} (h : T16 T) (s : Int) : T16 (freeF s T) := by
  refine ⟨by rw [freeF_len]; exact h.1, fun z hz => ?_⟩
  obtain ⟨y, hy, rfl⟩ := List.mem_map.1 hz
  have := h.2 y hy
  show 0 ≤ (if y = s then 0 else y) ∧ (if y = s then 0 else y) ≤ 4
  split <;> omega
theorem foldl_count (st x : Int) (hst : st ≠ 0) (hx : x ≠ 0) : ∀ (zs : List Int) (p : List Int × Nat), (zs.foldl (tkStep st) p).1.count x = p.1.count x + zs.count x + (if x = st then min p.2 (zs.count 0) else 0)
  | [], p => by simp
  | z :: zs, p => by
    rw [List.foldl_cons, foldl_count st x hst hx zs]
    have hx' : ¬ (0 : Int) = x := fun h => hx h.symm
    unfold tkStep
    by_cases hz : z = 0
    · subst hz
      by_cases hp : 0 < p.2
      · rw [if_pos ⟨rfl, hp⟩]
        by_cases he : x = st
        · subst he; simp [List.count_append, hx']; omega
        · have he' : ¬ st = x := fun h => he h.symm
          simp [List.count_append, he, he', hx']
      · rw [if_neg (fun h => hp h.2)]
        simp [List.count_append, hx']
        have : p.2 = 0 := by omega
        simp [this]
    · rw [if_neg (fun h => hz h.1)]
      simp [List.count_append, List.count_cons, hz]
      omega
theorem count_tk (st x : Int) (hst : st ≠ 0) (hx : x ≠ 0) (zs : List Int) (m : Nat) (hm : m ≤ zs.count 0) : (tk st zs m).1.count x = zs.count x + (if x = st then m else 0) := by
  rw [tk, foldl_count st x hst hx]
  simp [Nat.min_eq_left hm]
theorem foldl_mem (st : Int) (Q : Int → Prop) (hst : Q st) : ∀ (zs : List Int) (p : List Int × Nat), (∀ z ∈ p.1, Q z) → (∀ z ∈ zs, Q z) → ∀ z ∈ (zs.foldl (tkStep st) p).1, Q z
  | [], _, h, _ => h
  | y :: zs, p, h, h2 => by
    rw [List.foldl_cons]
    apply foldl_mem st Q hst zs
    · intro z hz
      unfold tkStep at hz
      split at hz
      · rcases List.mem_append.1 hz with h3 | h3
        · exact h z h3
        · simp at h3; rw [h3]; exact hst
      · rcases List.mem_append.1 hz with h3 | h3
        · exact h z h3
        · simp at h3; rw [h3]; exact h2 y (List.mem_cons_self ..)
    · exact fun z hz => h2 z (List.mem_cons_of_mem _ hz)
theorem findI_count {v : Int} {zs : List Int} : (0 ≤ findI v zs) ↔ zs.count v ≠ 0 := by
  by_cases h : ∃ j, j < zs.length ∧ zat zs j = v
  · obtain ⟨j, hj, hv⟩ := h
    have hm : v ∈ zs := by rw [← hv]; exact zat_mem hj
    have hc : zs.count v ≠ 0 := by have := List.count_pos_iff.2 hm; omega
    refine ⟨fun _ => hc, fun _ => ?_⟩
    let rec go (m : Nat) (hm : m < zs.length) (h : zat zs m = v) : 0 ≤ findI v zs := by
      by_cases hx : ∃ i, i < m ∧ zat zs i = v
      · obtain ⟨i, hi, hv⟩ := hx
        exact go i (by omega) hv
      · rw [findI_some hm h (fun i hi he => hx ⟨i, hi, he⟩)]; omega
    exact go j hj hv
  · have hn := findI_none (zs := zs) (v := v) (fun j hj he => h ⟨j, hj, he⟩)
    rw [hn]
    refine ⟨fun h => absurd h (by omega), fun hc => ?_⟩
    have := List.count_pos_iff.1 (Nat.pos_of_ne_zero hc)
    obtain ⟨j, hj, hv⟩ := List.mem_iff_getElem.1 this
    exact absurd ⟨j, hj, by rw [zat_eq hj]; exact hv⟩ h
theorem takeOk_eq {T : List Int} (h : T16 T) {s m : Nat} (h1 : 1 ≤ s) (h4 : s ≤ 4) (hm : 1 ≤ m) : takeOk T s m = (decide (zat (owL T) s = 0) && decide ((owL T).sum + m ≤ 16)) := by
  have hall : T.all (fun z => inB z 0 9) = true := by
    rw [List.all_eq_true]
    intro z hz
    have := h.2 z hz
    rw [inB_t]; omega
  have hs : inB (s : Int) 1 9 = true := by rw [inB_t]; omega
  have h5 := count5 T h.2
  have h6 := h.1
  rw [takeOk, hall, hs, owL_sum h, owL_at h1 h4]
  have e1 : (!decide (0 ≤ findI (s : Int) T)) = decide ((T.count (s : Int) : Int) = 0) := by
    by_cases hc : T.count (s : Int) = 0
    · have : ¬ 0 ≤ findI (s : Int) T := fun hx => findI_count.1 hx hc
      simp [hc, this]
    · have : 0 ≤ findI (s : Int) T := findI_count.2 hc
      simp [hc, this]
  have e2 : inB (m : Int) 1 ((T.count 0 : Nat) : Int) = decide ((16 : Int) - (T.count 0 : Nat) + m ≤ 16) := by
    cases hx : inB (m : Int) 1 ((T.count 0 : Nat) : Int)
    · rw [inB_f] at hx; symm; simp; omega
    · rw [inB_t] at hx; symm; simp; omega
  rw [e1, e2]
  simp [h6]
theorem owL_take {T : List Int} {s m : Nat} (h1 : 1 ≤ s) (h4 : s ≤ 4) (hk : takeOk T s m = true) : (owL T).set s m = owL (takeL T s m) := by
  have hm : m ≤ T.count 0 := by
    simp only [takeOk, Bool.and_eq_true] at hk
    have := inB_t.1 hk.2
    omega
  have hc : T.count (s : Int) = 0 := by
    simp only [takeOk, Bool.and_eq_true, Bool.not_eq_true', decide_eq_false_iff_not] at hk
    by_cases h : T.count (s : Int) = 0
    · exact h
    · exact absurd (findI_count.2 h) hk.1.1.1.2
  rw [takeL, if_pos hk]
  have : s = 1 ∨ s = 2 ∨ s = 3 ∨ s = 4 := by omega
  rcases this with rfl | rfl | rfl | rfl <;> simp [owL, count_tk _ _ _ _ _ _ hm] <;> simp at hc <;> omega
theorem t16_take {T : List Int} (h : T16 T) {s m : Nat} (h4 : s ≤ 4) : T16 (takeL T s m) := by
  refine ⟨by rw [takeL_len]; exact h.1, ?_⟩
  unfold takeL
  split
  · exact foldl_mem s (fun z => 0 ≤ z ∧ z ≤ 4) (by omega) T _ (fun z hz => by simp at hz) h.2
  · exact h.2
theorem t16_zero : T16 (List.replicate 16 0) := ⟨rfl, by intro z hz; rw [List.mem_replicate] at hz; omega⟩
theorem owL_zero : owL (List.replicate 16 0) = List.replicate 10 0 := by decide
end Go.Proofs.Ytnagphedlmbagaa
