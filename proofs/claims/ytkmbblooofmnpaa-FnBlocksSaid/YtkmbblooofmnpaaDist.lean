/- Plain laws of the code: the distance of two codewords, and the correction of one wrong nibble. No Go in sight. -/
import Derived.Test.YtkmbblooofmnpaaEnc
import Derived.Test.YtkmbblooofmnpaaDec
namespace Go.Proofs.Ytkmbblooofmnpaa

/-! ### the two syndromes as sums from an index on -/
def sS : List Nat → Nat
  | [] => 0
  | e :: es => e ^^^ sS es
def sT : List Nat → Nat → Nat
  | [], _ => 0
  | e :: es, k => gmul e (powN k) ^^^ sT es (k + 1)
theorem foldl_syn : ∀ (zs : List Int) (a b k : Nat), zs.foldl synStep (a, b, k) = (a ^^^ sS (zs.map Int.toNat), b ^^^ sT (zs.map Int.toNat) k, k + zs.length)
  | [], a, b, k => by simp [sS, sT]
  | z :: zs, a, b, k => by
    rw [List.foldl_cons]
    show List.foldl synStep (a ^^^ z.toNat, b ^^^ gmul z.toNat (powN k), k + 1) zs = _
    rw [foldl_syn zs]
    simp only [List.map_cons, sS, sT, List.length_cons, Nat.xor_assoc]
    congr 2
    omega
theorem syn_eq (zs : List Int) : syn zs = (sS (zs.map Int.toNat), sT (zs.map Int.toNat) 0, zs.length) := by
  unfold syn; rw [foldl_syn]; simp
def nb (es : List Nat) : Prop := ∀ e ∈ es, e < 16
theorem nb_tail {e : Nat} {es : List Nat} (h : nb (e :: es)) : nb es := fun x hx => h x (List.mem_cons_of_mem _ hx)
theorem sS_lt : ∀ {es : List Nat}, nb es → sS es < 16
  | [], _ => by simp [sS]
  | e :: es, h => xor16 (h e (by simp)) (sS_lt (nb_tail h))
theorem sT_lt : ∀ {es : List Nat} {k : Nat}, nb es → k + es.length ≤ 15 → sT es k < 16
  | [], _, _, _ => by simp [sT]
  | e :: es, k, h, hk => by
    simp only [List.length_cons] at hk
    exact xor16 (gmul_lt (h e (by simp)) (powN_lt' (by omega))) (sT_lt (nb_tail h) (by omega))

theorem xor0 {a b : Nat} (h : a ^^^ b = 0) : a = b := by
  have h2 : (a ^^^ b) ^^^ b = 0 ^^^ b := by rw [h]
  rwa [Nat.xor_assoc, Nat.xor_self, Nat.xor_zero, Nat.zero_xor] at h2

/-! ### the difference of two lists -/
theorem gm_dist' {a b c : Nat} (ha : a < 16) (hb : b < 16) (hc : c < 16) : gmul (a ^^^ b) c = gmul a c ^^^ gmul b c := by
  have h : ∀ a b c : Fin 16, gmul (a.val ^^^ b.val) c.val = gmul a.val c.val ^^^ gmul b.val c.val := by decide +kernel
  exact h ⟨a, ha⟩ ⟨b, hb⟩ ⟨c, hc⟩
theorem sS_zip : ∀ {xs ys : List Nat}, xs.length = ys.length → sS (List.zipWith (· ^^^ ·) xs ys) = sS xs ^^^ sS ys
  | [], [], _ => by simp [sS]
  | x :: xs, y :: ys, h => by
    simp only [List.zipWith_cons_cons, sS, sS_zip (Nat.succ.inj h)]
    rw [Nat.xor_assoc, Nat.xor_assoc, ← Nat.xor_assoc y, Nat.xor_comm y, Nat.xor_assoc]
theorem sT_zip : ∀ {xs ys : List Nat} {k : Nat}, xs.length = ys.length → nb xs → nb ys → k + xs.length ≤ 15 → sT (List.zipWith (· ^^^ ·) xs ys) k = sT xs k ^^^ sT ys k
  | [], [], _, _, _, _, _ => by simp [sT]
  | x :: xs, y :: ys, k, h, h1, h2, hk => by
    simp only [List.length_cons] at hk
    simp only [List.zipWith_cons_cons, sT, sT_zip (Nat.succ.inj h) (nb_tail h1) (nb_tail h2) (show k + 1 + xs.length ≤ 15 by omega)]
    rw [gm_dist' (h1 x (by simp)) (h2 y (by simp)) (powN_lt' (by omega))]
    rw [Nat.xor_assoc, Nat.xor_assoc, ← Nat.xor_assoc (gmul y _), Nat.xor_comm (gmul y _), Nat.xor_assoc]
/-- How many are not 0. -/
def wt : List Nat → Nat
  | [] => 0
  | e :: es => (if e = 0 then 0 else 1) + wt es
theorem gm_zero : ∀ k : Fin 16, gmul 0 k.val = 0 := by decide +kernel
theorem wt0 : ∀ {es : List Nat} {k : Nat}, wt es = 0 → k + es.length ≤ 15 → sS es = 0 ∧ sT es k = 0
  | [], _, _, _ => by simp [sS, sT]
  | e :: es, k, h, hk => by
    simp only [List.length_cons] at hk
    simp only [wt] at h
    have he : e = 0 := by
      rcases Nat.eq_zero_or_pos e with h0 | h0
      · exact h0
      · rw [if_neg (by omega)] at h; omega
    have h2 : wt es = 0 := by omega
    have := wt0 (k := k + 1) h2 (by omega)
    have hz := gm_zero ⟨powN k, powN_lt' (by omega)⟩
    simp only at hz
    simp [sS, sT, he, this.1, this.2, hz]
theorem gm_nz : ∀ a b : Fin 16, a.val ≠ 0 → b.val ≠ 0 → gmul a.val b.val ≠ 0 := by decide +kernel
theorem pow_inj : ∀ i j : Fin 15, powN i.val = powN j.val → i = j := by decide +kernel
theorem pow_nz : ∀ i : Fin 15, powN i.val ≠ 0 := by decide +kernel
theorem gm_inj : ∀ a b c : Fin 16, a.val ≠ 0 → gmul a.val b.val = gmul a.val c.val → b = c := by decide +kernel
/-- One place: its index and value. -/
theorem wt1 : ∀ {es : List Nat} {k : Nat}, nb es → wt es = 1 → k + es.length ≤ 15 → ∃ i v, k ≤ i ∧ i < k + es.length ∧ v ≠ 0 ∧ v < 16 ∧ sS es = v ∧ sT es k = gmul v (powN i)
  | [], _, _, h, _ => by simp [wt] at h
  | e :: es, k, hn, h, hk => by
    simp only [List.length_cons] at hk
    simp only [wt] at h
    by_cases he : e = 0
    · rw [if_pos he] at h
      obtain ⟨i, v, h1, h2, h3, h4, h5, h6⟩ := wt1 (k := k + 1) (nb_tail hn) (by omega) (by omega)
      have hz := gm_zero ⟨powN k, powN_lt' (by omega)⟩
      simp only at hz
      exact ⟨i, v, by omega, by simp only [List.length_cons]; omega, h3, h4, by simp [sS, he, h5], by simp [sT, he, h6, hz]⟩
    · rw [if_neg he] at h
      have := wt0 (k := k + 1) (show wt es = 0 by omega) (by omega)
      exact ⟨k, e, by omega, by simp only [List.length_cons]; omega, he, hn e (by simp), by simp [sS, this.1], by simp [sT, this.2]⟩
theorem wt2 : ∀ {es : List Nat} {k : Nat}, nb es → wt es = 2 → k + es.length ≤ 15 → ¬ (sS es = 0 ∧ sT es k = 0)
  | [], _, _, h, _ => by simp [wt] at h
  | e :: es, k, hn, h, hk => by
    simp only [List.length_cons] at hk
    simp only [wt] at h
    by_cases he : e = 0
    · rw [if_pos he] at h
      have ih := wt2 (k := k + 1) (nb_tail hn) (show wt es = 2 by omega) (by omega)
      have hz := gm_zero ⟨powN k, powN_lt' (by omega)⟩
      simp only at hz
      rintro ⟨h1, h2⟩
      refine ih ⟨?_, ?_⟩
      · simpa [sS, he] using h1
      · simpa [sT, he, hz] using h2
    · rw [if_neg he] at h
      obtain ⟨i, v, h1, h2, h3, h4, h5, h6⟩ := wt1 (k := k + 1) (nb_tail hn) (show wt es = 1 by omega) (by omega)
      have he16 := hn e (by simp)
      rintro ⟨h7, h8⟩
      simp only [sS, h5] at h7
      simp only [sT, h6] at h8
      have hev : e = v := xor0 h7
      subst hev
      have hgg := xor0 h8
      have := gm_inj ⟨e, he16⟩ ⟨powN k, powN_lt' (by omega)⟩ ⟨powN i, powN_lt' (by omega)⟩ he hgg
      simp only [Fin.mk.injEq] at this
      have := pow_inj ⟨k, by omega⟩ ⟨i, by omega⟩ this
      simp only [Fin.mk.injEq] at this
      omega

/-! ### codewords -/
theorem par_syn : ∀ s t : Fin 16, s.val ^^^ parN s.val t.val ^^^ (s.val ^^^ parN s.val t.val) = 0 ∧ t.val ^^^ gmul (parN s.val t.val) (powN 13) ^^^ gmul (s.val ^^^ parN s.val t.val) (powN 14) = 0 := by decide +kernel
theorem gm0 : gmul 0 (powN 13) = 0 ∧ gmul 0 (powN 14) = 0 := by decide
theorem enc_syn {zs : List Int} (h : ok13 zs = true) : syn (encW zs) = (0, 0, 15) := by
  have hl : zs.length = 13 := by simpa using (Bool.and_eq_true_iff.1 h).1
  have hlt := enc_lt h
  have hs : syn zs = (sOf zs, tOf zs, 13) := by
    have e : syn (zs ++ [0, 0]) = synStep (synStep (syn zs) 0) 0 := syn_two zs 0 0
    have h3 : (syn zs).2.2 = 13 := by rw [syn_len, hl]
    have e2 : synStep (synStep (syn zs) 0) 0 = ((syn zs).1, (syn zs).2.1, 15) := by
      unfold synStep
      simp only [h3, Int.toNat_zero, Nat.xor_zero]
      rw [gm0.1, show 13 + 1 = 14 from rfl, gm0.2]
      simp
    unfold sOf tOf
    rw [e, e2]
    rw [← h3]
  have hp := par_syn ⟨sOf zs, hlt.1⟩ ⟨tOf zs, hlt.2⟩
  simp only at hp
  unfold encW
  rw [syn_two, hs]
  unfold synStep
  simp only [Int.toNat_natCast]
  rw [hp.1, hp.2]
theorem encW_len {zs : List Int} (h : ok13 zs = true) : (encW zs).length = 15 := by
  have hl : zs.length = 13 := by simpa using (Bool.and_eq_true_iff.1 h).1
  simp [encW, hl]
theorem encW_nibs {zs : List Int} (h : ok13 zs = true) : nibs (encW zs) = true := by
  have hlt := enc_lt h
  have hp := par_lt ⟨sOf zs, hlt.1⟩ ⟨tOf zs, hlt.2⟩
  simp only at hp
  have hx := xor16 hlt.1 hp
  have h1 := (Bool.and_eq_true_iff.1 h).2
  unfold nibs at h1 ⊢
  unfold encW
  rw [List.all_append, h1]
  simp only [List.all_cons, List.all_nil, Bool.and_true, Bool.true_and, Bool.and_eq_true, inB_t]
  omega
theorem encW_take {zs : List Int} (h : ok13 zs = true) : (encW zs).take 13 = zs := by
  have hl : zs.length = 13 := by simpa using (Bool.and_eq_true_iff.1 h).1
  unfold encW
  rw [List.take_append_of_le_length (by omega), List.take_of_length_le (by omega)]
theorem nb_of {zs : List Int} (h : nibs zs = true) : nb (zs.map Int.toNat) := by
  intro e he
  obtain ⟨z, hz, rfl⟩ := List.mem_map.1 he
  have := inB_t.1 (List.all_eq_true.1 h z hz)
  omega
/-- In how many places two lists differ. -/
def dcount : List Int → List Int → Nat
  | x :: xs, y :: ys => (if x = y then 0 else 1) + dcount xs ys
  | _, _ => 0
theorem dcount_snoc : ∀ {xs ys : List Int} {x y : Int}, xs.length = ys.length → dcount (xs ++ [x]) (ys ++ [y]) = dcount xs ys + if x = y then 0 else 1
  | [], [], x, y, _ => by simp [dcount]
  | a :: xs, b :: ys, x, y, h => by
    simp only [List.cons_append, dcount, dcount_snoc (Nat.succ.inj h)]
    omega
theorem dcount_wt : ∀ {xs ys : List Int}, xs.length = ys.length → (∀ x ∈ xs, 0 ≤ x) → (∀ y ∈ ys, 0 ≤ y) → dcount xs ys = wt (List.zipWith (· ^^^ ·) (xs.map Int.toNat) (ys.map Int.toNat))
  | [], [], _, _, _ => by simp [dcount, wt]
  | x :: xs, y :: ys, h, h1, h2 => by
    simp only [List.map_cons, List.zipWith_cons_cons, dcount, wt]
    rw [dcount_wt (Nat.succ.inj h) (fun z hz => h1 z (List.mem_cons_of_mem _ hz)) (fun z hz => h2 z (List.mem_cons_of_mem _ hz))]
    have hx := h1 x (by simp)
    have hy := h2 y (by simp)
    congr 1
    by_cases he : x = y
    · subst he; simp
    · rw [if_neg he, if_neg (fun hz => he (by have := xor0 hz; omega))]
theorem dcount_zero : ∀ {xs ys : List Int}, xs.length = ys.length → dcount xs ys = 0 → xs = ys
  | [], [], _, _ => rfl
  | x :: xs, y :: ys, h, h0 => by
    simp only [dcount] at h0
    have he : x = y := by
      by_cases he : x = y
      · exact he
      · rw [if_neg he] at h0; omega
    rw [he, dcount_zero (Nat.succ.inj h) (by omega)]
theorem dcount_self : ∀ xs : List Int, dcount xs xs = 0
  | [] => rfl
  | x :: xs => by simp [dcount, dcount_self xs]
theorem far_apart {a b : List Int} (ha : ok13 a = true) (hb : ok13 b = true) : 3 ≤ dcount (encW a) (encW b) ∨ (a = b ∧ dcount (encW a) (encW b) = 0) := by
  have na := encW_nibs ha
  have nb' := encW_nibs hb
  have la := encW_len ha
  have lb := encW_len hb
  have hnn : ∀ {zs : List Int}, nibs zs = true → ∀ z ∈ zs, 0 ≤ z := fun h z hz => (inB_t.1 (List.all_eq_true.1 h z hz)).1
  have hd := dcount_wt (xs := encW a) (ys := encW b) (by omega) (hnn na) (hnn nb')
  have sa := enc_syn ha
  have sb := enc_syn hb
  rw [syn_eq] at sa sb
  simp only [Prod.mk.injEq] at sa sb
  have nz : nb (List.zipWith (· ^^^ ·) ((encW a).map Int.toNat) ((encW b).map Int.toNat)) := by
    intro e he
    obtain ⟨i, hi, rfl⟩ := List.getElem_of_mem he
    rw [List.getElem_zipWith]
    exact xor16 (nb_of na _ (List.getElem_mem _)) (nb_of nb' _ (List.getElem_mem _))
  have zl : (List.zipWith (· ^^^ ·) ((encW a).map Int.toNat) ((encW b).map Int.toNat)).length = 15 := by simp [la, lb]
  have zs : sS (List.zipWith (· ^^^ ·) ((encW a).map Int.toNat) ((encW b).map Int.toNat)) = 0 := by
    rw [sS_zip (by simp [la, lb]), sa.1, sb.1]; rfl
  have zt : sT (List.zipWith (· ^^^ ·) ((encW a).map Int.toNat) ((encW b).map Int.toNat)) 0 = 0 := by
    rw [sT_zip (by simp [la, lb]) (nb_of na) (nb_of nb') (by simp [la]), sa.2.1, sb.2.1]; rfl
  rw [hd]
  rcases (show wt (List.zipWith (· ^^^ ·) ((encW a).map Int.toNat) ((encW b).map Int.toNat)) = 0 ∨ wt (List.zipWith (· ^^^ ·) ((encW a).map Int.toNat) ((encW b).map Int.toNat)) = 1 ∨ wt (List.zipWith (· ^^^ ·) ((encW a).map Int.toNat) ((encW b).map Int.toNat)) = 2 ∨ 3 ≤ wt (List.zipWith (· ^^^ ·) ((encW a).map Int.toNat) ((encW b).map Int.toNat)) by omega) with h | h | h | h
  · right
    have he := dcount_zero (xs := encW a) (ys := encW b) (by omega) (by rw [hd]; exact h)
    refine ⟨?_, h⟩
    rw [← encW_take ha, ← encW_take hb, he]
  · exfalso
    obtain ⟨i, v, _, _, hv, _, h5, _⟩ := wt1 (k := 0) nz h (by omega)
    exact hv (h5.symm.trans zs)
  · exact absurd ⟨zs, zt⟩ (wt2 (k := 0) nz h (by omega))
  · exact .inl h

/-! ### one wrong nibble -/
theorem sS_set : ∀ {es : List Nat} {i : Nat} {v : Nat}, i < es.length → sS (es.set i (es.getD i 0 ^^^ v)) = sS es ^^^ v
  | [], _, _, h => by simp at h
  | e :: es, 0, v, _ => by
    simp only [List.set_cons_zero, sS, List.getD_cons_zero]
    rw [Nat.xor_assoc, Nat.xor_comm v, Nat.xor_assoc]
  | e :: es, i + 1, v, h => by
    simp only [List.set_cons_succ, sS, List.getD_cons_succ]
    rw [sS_set (by simpa using h), Nat.xor_assoc]
theorem sT_set : ∀ {es : List Nat} {i k : Nat} {v : Nat}, nb es → v < 16 → i < es.length → k + es.length ≤ 15 → sT (es.set i (es.getD i 0 ^^^ v)) k = sT es k ^^^ gmul v (powN (k + i))
  | [], _, _, _, _, _, h, _ => by simp at h
  | e :: es, 0, k, v, hn, hv, _, hk => by
    simp only [List.length_cons] at hk
    simp only [List.set_cons_zero, sT, List.getD_cons_zero, Nat.add_zero]
    rw [gm_dist' (hn e (by simp)) hv (powN_lt' (by omega)), Nat.xor_assoc, Nat.xor_comm (gmul v _), Nat.xor_assoc]
  | e :: es, i + 1, k, v, hn, hv, h, hk => by
    simp only [List.length_cons] at hk
    simp only [List.set_cons_succ, sT, List.getD_cons_succ]
    rw [sT_set (nb_tail hn) hv (by simpa using h) (by omega), Nat.xor_assoc]
    congr 3
    congr 1
    omega
theorem fix_back : ∀ v : Fin 16, ∀ k : Fin 15, v.val ≠ 0 → fixK v.val (gmul v.val (powN k.val)) = k.val ∧ gmul v.val (powN k.val) ≠ 0 := by decide +kernel
/-- A codeword with v added to nibble k is corrected. -/
theorem one_fixed {zs : List Int} (h : ok13 zs = true) {k : Nat} (hk : k < 15) {v : Nat} (hv0 : v ≠ 0) (hv : v < 16) :
    decF ((encW zs).set k (bits .xor .i64 (zat (encW zs) k) (v : Int))) = zs ∧ decK ((encW zs).set k (bits .xor .i64 (zat (encW zs) k) (v : Int))) = 1 := by
  have ln := encW_len h
  have hn := encW_nibs h
  have hb := nb_of hn
  have hr := nibs_at hn (show k < (encW zs).length by omega)
  obtain ⟨x, hx⟩ := Int.eq_ofNat_of_zero_le hr.1
  have hx16 : x < 16 := by omega
  have ex : bits .xor .i64 (zat (encW zs) k) (v : Int) = ((x ^^^ v : Nat) : Int) := by rw [hx]; exact i64_xor_nat x v (by omega) (by omega)
  rw [ex]
  have hxv := xor16 hx16 hv
  have hgd : ((encW zs).map Int.toNat).getD k 0 = x := by
    have : zat (encW zs) k = (encW zs)[k]'(by omega) := zat_eq (by omega)
    rw [List.getD_eq_getElem?_getD, List.getElem?_map, List.getElem?_eq_getElem (by omega)]
    simp only [Option.map_some, Option.getD_some]
    rw [← this, hx]; rfl
  have hmap : ((encW zs).set k ((x ^^^ v : Nat) : Int)).map Int.toNat = ((encW zs).map Int.toNat).set k (((encW zs).map Int.toNat).getD k 0 ^^^ v) := by
    rw [List.map_set, hgd]; rfl
  have hs := enc_syn h
  rw [syn_eq] at hs
  simp only [Prod.mk.injEq] at hs
  have hsy : syn ((encW zs).set k ((x ^^^ v : Nat) : Int)) = (v, gmul v (powN k), 15) := by
    rw [syn_eq, hmap, sS_set (by simp; omega), sT_set hb hv (by simp; omega) (by simp [ln]), hs.1, hs.2.1, Nat.zero_xor, Nat.zero_xor, Nat.zero_add]
    simp [ln]
  have hok : ok15 ((encW zs).set k ((x ^^^ v : Nat) : Int)) = true := by
    unfold ok15 nibs
    have : ((encW zs).set k ((x ^^^ v : Nat) : Int)).all (fun z => inB z 0 15) = true := by
      rw [List.all_eq_true]
      intro z hz
      rcases List.mem_or_eq_of_mem_set hz with h1 | h1
      · exact List.all_eq_true.1 hn z h1
      · subst h1; exact inB_t.2 (by omega)
    rw [this]
    simp [ln]
  have hf := fix_back ⟨v, hv⟩ ⟨k, hk⟩ hv0
  simp only at hf
  unfold decF decK
  rw [hok, hsy]
  simp only [if_true]
  constructor
  · unfold decL
    rw [if_neg (by omega), hf.1]
    have e2 : zat ((encW zs).set k ((x ^^^ v : Nat) : Int)) k = ((x ^^^ v : Nat) : Int) := by
      rw [zat_eq (by simp; omega), List.getElem_set_self]
    rw [e2]
    have e3 : bits .xor .i64 ((x ^^^ v : Nat) : Int) (v : Int) = (x : Int) := by
      rw [i64_xor_nat _ _ (by omega) (by omega), Nat.xor_assoc, Nat.xor_self, Nat.xor_zero]
    rw [e3, List.set_set]
    have e4 : (encW zs).set k (x : Int) = encW zs := by
      rw [← hx, zat_eq (by omega)]
      exact List.set_getElem_self _
    rw [e4]
    exact encW_take h
  · unfold decC
    rw [if_neg (by omega), if_neg (by omega)]
theorem dec_clean {zs : List Int} (h : ok13 zs = true) : decF (encW zs) = zs ∧ decK (encW zs) = 0 := by
  have hok : ok15 (encW zs) = true := by
    unfold ok15
    rw [encW_nibs h, encW_len h]
    simp
  unfold decF decK
  rw [hok, enc_syn h]
  simp only [if_true]
  constructor
  · unfold decL; simp [encW_take h]
  · simp [decC]
theorem syn_clean {zs : List Int} (h : ok13 zs = true) : synA (encW zs) = 0 ∧ synB (encW zs) = 0 := by
  have hok : ok15 (encW zs) = true := by
    unfold ok15
    rw [encW_nibs h, encW_len h]
    simp
  unfold synA synB
  rw [hok, enc_syn h]
  simp
end Go.Proofs.Ytkmbblooofmnpaa
