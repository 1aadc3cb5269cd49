/- Lanes as plain lists: what was sent comes back, disturbed or not. -/
import Derived.Test.YtkmbblooofmnpaaLaneF
import Derived.Test.YtkmbblooofmnpaaSend
import Derived.Test.YtkmbblooofmnpaaLane1
namespace Go.Proofs.Ytkmbblooofmnpaa
theorem zat_app (l m : List Int) (j : Nat) : zat (l ++ m) j = if j < l.length then zat l j else zat m (j - l.length) := by
  unfold zat
  rw [List.getD_eq_getElem?_getD, List.getD_eq_getElem?_getD, List.getD_eq_getElem?_getD]
  split
  · rename_i h; rw [List.getElem?_append_left h]
  · rename_i h; rw [List.getElem?_append_right (by omega)]
theorem zat_strF {xs : List Int} {i n c j : Nat} (h : j < c) : zat (strF xs i n c) j = zat xs (i + j * n) := by
  rw [zat_eq (by rw [strF_len]; exact h)]; simp [strF]
theorem zat_rowT {M : List (List Int)} {t i : Nat} (h : i < M.length) : zat (rowT M t) i = zat (lat M i) t := by
  rw [zat_eq (by simpa [rowT] using h), lat_eq h]; simp [rowT]
theorem zat_rvF {M : List (List Int)} {p : Nat} (hn : 0 < M.length) : ∀ T, p < T * M.length → zat (rvF M T) p = zat (lat M (p % M.length)) (p / M.length)
  | 0, h => by omega
  | T + 1, h => by
    rw [rvF_succ, zat_app, rvF_len]
    rw [Nat.succ_mul] at h
    split
    · rename_i h1; exact zat_rvF hn T h1
    · rename_i h1
      obtain ⟨i, hi, rfl⟩ : ∃ i, i < M.length ∧ p = i + M.length * T := ⟨p - T * M.length, by omega, by rw [Nat.mul_comm M.length T]; omega⟩
      rw [Nat.add_mul_mod_self_left, Nat.mod_eq_of_lt hi, Nat.add_mul_div_left _ _ hn, Nat.div_eq_of_lt hi, Nat.zero_add, Nat.mul_comm T, Nat.add_sub_cancel, zat_rowT hi]
theorem mnL_ge {M : List (List Int)} {t : Nat} (hn : 0 < M.length) (h : ∀ l ∈ M, t ≤ l.length) : t ≤ mnL M := by
  cases M with
  | nil => simp at hn
  | cons a M =>
    have hg : ∀ (M : List (List Int)) (u : Nat), t ≤ u → (∀ l ∈ M, t ≤ l.length) → t ≤ M.foldl (fun t x => if x.length < t then x.length else t) u := by
      intro M
      induction M with
      | nil => intro u hu _; exact hu
      | cons b M ih =>
        intro u hu hM
        simp only [List.foldl_cons]
        refine ih _ ?_ (fun l hl => hM l (List.mem_cons_of_mem _ hl))
        have := hM b (List.mem_cons_self ..)
        split <;> omega
    exact hg M _ (h a (List.mem_cons_self ..)) (fun l hl => h l (List.mem_cons_of_mem _ hl))
/-- L are n lanes that carry f 0 .. f (len - 1) in turn. -/
structure Carry (L : List (List Int)) (n len : Nat) (f : Nat → Int) : Prop where
  len_ : L.length = n
  cnt : lcB n = true
  lane : ∀ i, i < n → ∃ s : Nat, findI 24 (lat L i) = s ∧ s + 1 + trnF len n ≤ (lat L i).length ∧ ∀ t, i + t * n < len → zat (lat L i) (s + 1 + t) = f (i + t * n)
theorem trn_mul {m n : Nat} (h : lcB n = true) : m ≤ trnF m n * n := by
  unfold trnF
  have := lcB_t.1 h
  have h3 : n = 1 ∨ n = 2 ∨ n = 4 := by omega
  rcases h3 with rfl | rfl | rfl <;> omega
theorem Carry.recv {L : List (List Int)} {n len : Nat} {f : Nat → Int} (h : Carry L n len f) :
    recvOk L = true ∧ len ≤ (recvF L).1.length ∧ ∀ p, p < len → zat (recvF L).1 p = f p := by
  obtain ⟨rfl, hc, hl⟩ := h
  have hn := lcB_le hc
  have ok : recvOk L = true := recvOk_all hc fun j hj => by obtain ⟨s, hs, _⟩ := hl j hj; omega
  have hT : trnF len L.length ≤ mnL (L.map restL) := by
    refine mnL_ge (by simpa using (by omega : 0 < L.length)) fun l hl' => ?_
    obtain ⟨l0, hl0, rfl⟩ := List.mem_map.1 hl'
    obtain ⟨j, hj, rfl⟩ := List.getElem_of_mem hl0
    obtain ⟨s, hs, hlen, _⟩ := hl j hj
    rw [lat_eq hj] at hs hlen
    rw [restL_at hs, List.length_drop]
    omega
  have hTn : len ≤ mnL (L.map restL) * L.length := Nat.le_trans (trn_mul hc) (Nat.mul_le_mul_right _ hT)
  rw [recvF_yes ok]
  refine ⟨ok, by rw [rvF_len, List.length_map]; exact hTn, fun p hp => ?_⟩
  have hM : (L.map restL).length = L.length := by simp
  show zat (rvF (L.map restL) (mnL (L.map restL))) p = _
  rw [zat_rvF (by omega) _ (by rw [hM]; omega), hM]
  have hpn : p % L.length < L.length := Nat.mod_lt _ (by omega)
  obtain ⟨s, hs, hlen, hz⟩ := hl _ hpn
  have hpe : p % L.length + p / L.length * L.length = p := by rw [Nat.mul_comm]; exact Nat.mod_add_div _ _
  rw [lat_map_rest hpn, restL_at hs, zat_drop, hz _ (by omega), hpe]
theorem findI_lane (a : Nat) (s : List Int) : findI 24 (List.replicate a 31 ++ [24] ++ s) = (a : Int) := by
  refine findI_some (by simp) ?_ fun j hj => ?_
  · rw [List.append_assoc, zat_app]; simp [zat]
  · rw [List.append_assoc, zat_app, if_pos (by simpa using hj), zat_eq (by simpa using hj)]; simp
theorem sendL_len {xs sk : List Int} {i : Nat} (hi : i < sk.length) (h : ∀ z ∈ sk, 0 ≤ z ∧ z ≤ 8) : (sendL xs sk i).length = sendTo xs sk := by
  have h1 := mxF_ge (zat_mem hi)
  have h2 := h _ (zat_mem hi)
  have hcn : cntF xs.length i sk.length ≤ trnF xs.length sk.length := by unfold cntF trnF; exact Nat.div_le_div_right (by omega)
  unfold sendL padTo laneF sendTo
  simp [strF_len]
  omega
theorem sendL_find (xs sk : List Int) (i : Nat) : findI 24 (sendL xs sk i) = ((zat sk i).toNat : Int) := by
  unfold sendL padTo laneF
  rw [List.append_assoc (List.replicate _ _ ++ [24])]
  exact findI_lane _ _
theorem lat_sendF {xs sk : List Int} {i : Nat} (h : sendOk xs sk = true) (hi : i < sk.length) : lat (sendF xs sk) i = sendL xs sk i := by
  rw [sendF_yes h, lat_eq (by simpa using hi)]; simp
theorem sendF_len {xs sk : List Int} (h : sendOk xs sk = true) : (sendF xs sk).length = sk.length := by rw [sendF_yes h]; simp
theorem cnt_lt {m i n t : Nat} (hc : lcB n = true) (_hi : i < n) (h : i + t * n < m) : t < cntF m i n := by
  unfold cntF
  have := lcB_t.1 hc
  have h3 : n = 1 ∨ n = 2 ∨ n = 4 := by omega
  rcases h3 with rfl | rfl | rfl <;> omega
theorem sendL_at {xs sk : List Int} {i t : Nat} (hc : lcB sk.length = true) (hi : i < sk.length) (ht : i + t * sk.length < xs.length) :
    zat (sendL xs sk i) ((zat sk i).toNat + 1 + t) = zat xs (i + t * sk.length) := by
  have h := cnt_lt hc hi ht
  unfold sendL padTo laneF
  rw [zat_app, if_pos (by simp [strF_len]; omega), zat_app, if_neg (by simp)]
  have e : (zat sk i).toNat + 1 + t - (List.replicate (zat sk i).toNat (31 : Int) ++ [24]).length = t := by simp
  rw [e, zat_strF h]
theorem send_carry {xs sk : List Int} (h : sendOk xs sk = true) : Carry (sendF xs sk) sk.length xs.length (zat xs) := by
  obtain ⟨h1, h2, h3⟩ := sendOk_t h
  refine ⟨sendF_len h, h1, fun i hi => ⟨(zat sk i).toNat, ?_, ?_, fun t ht => ?_⟩⟩
  · rw [lat_sendF h hi, sendL_find]
  · rw [lat_sendF h hi, sendL_len hi h2]
    have h4 := mxF_ge (zat_mem hi)
    unfold sendTo
    omega
  · rw [lat_sendF h hi]; exact sendL_at h1 hi ht
theorem zat_set (l : List Int) (a j : Nat) (s : Int) (h : a < l.length) : zat (l.set a s) j = if j = a then s else zat l j := by
  unfold zat
  rw [List.getD_eq_getElem?_getD, List.getD_eq_getElem?_getD, List.getElem?_set]
  by_cases e : a = j
  · subst e; simp [h]
  · rw [if_neg e, if_neg (fun e' => e e'.symm)]
theorem findI_set {l : List Int} {a s : Nat} {x : Int} (h : findI 24 l = s) (ha : s < a) : findI 24 (l.set a x) = s := by
  rcases findI_rng 24 l with h' | ⟨j, hj, h', hz⟩
  · omega
  · obtain rfl : j = s := by omega
    by_cases hal : a < l.length
    · refine findI_some (by simpa using hj) (by rw [zat_set _ _ _ _ hal, if_neg (by omega)]; exact hz) fun i hi => ?_
      rw [zat_set _ _ _ _ hal, if_neg (by omega)]
      intro e
      have hmin : ∀ (l : List Int) (k i : Nat), i < l.length → zat l i = 24 → idxOf 24 l k ≤ ((k + i : Nat) : Int) := by
        intro l
        induction l with
        | nil => intro k i hi; simp at hi
        | cons b l ih =>
          intro k i hi he
          unfold idxOf
          split
          · omega
          · rename_i hb
            cases i with
            | zero => exact absurd (by simpa [zat] using he.symm) hb
            | succ i =>
              have := ih (k + 1) i (by simpa using hi) (by simpa [zat] using he)
              omega
      have := hmin l 0 i (by omega) e
      rw [findI] at h
      omega
    · rw [List.set_eq_of_length_le (by omega)]; exact h
theorem Carry.disturb {L : List (List Int)} {n len i : Nat} {f : Nat → Int} {x : Int} (h : Carry L n len f) (hi : i < len) (hx : inB x 0 31 = true) :
    Carry (distF L ((i % n : Nat) : Int) ((i / n : Nat) : Int) x) n len (fun p => if p = i then x else f p) := by
  obtain ⟨rfl, hc, hl⟩ := h
  have hn := lcB_le hc
  have ha : i % L.length < L.length := Nat.mod_lt _ (by omega)
  obtain ⟨s, hs, hlen, hz⟩ := hl _ ha
  have hie : i % L.length + i / L.length * L.length = i := by rw [Nat.mul_comm]; exact Nat.mod_add_div _ _
  have hm : i / L.length < trnF len L.length := by
    have := trn_mul (m := len) hc
    rcases Nat.lt_or_ge (i / L.length) (trnF len L.length) with h1 | h1
    · exact h1
    · have := Nat.mul_le_mul_right L.length h1
      omega
  obtain ⟨m, hmm⟩ : ∃ m, i / L.length = m := ⟨_, rfl⟩
  obtain ⟨a, haa⟩ : ∃ a, i % L.length = a := ⟨_, rfl⟩
  rw [hmm] at hie hm ⊢
  rw [haa] at ha hs hlen hz hie ⊢
  have hlast : ((m : Nat) : Int) < (lat L (a)).length - (s : Int) - 1 := by omega
  rw [distF_yes ha hx hs hlast]
  refine ⟨by simp, hc, fun j hj => ?_⟩
  by_cases hja : j = a
  · rw [hja]
    have hlat : lat (L.set (a) ((lat L (a)).set (s + 1 + m) x)) (a) = (lat L (a)).set (s + 1 + m) x := by
      rw [lat_eq (by simpa using ha)]; simp
    rw [hlat]
    refine ⟨s, findI_set hs (by omega), by simpa using hlen, fun t ht => ?_⟩
    rw [zat_set _ _ _ _ (by omega)]
    by_cases he : t = m
    · rw [he, if_pos rfl, if_pos hie]
    · have hne : ¬ a + t * L.length = i := fun e => he (Nat.eq_of_mul_eq_mul_right (by omega : 0 < L.length) (by omega))
      rw [if_neg (by omega), if_neg hne]; exact hz t ht
  · obtain ⟨s', hs', hlen', hz'⟩ := hl j hj
    have hlat : lat (L.set (a) ((lat L (a)).set (s + 1 + m) x)) j = lat L j := by
      rw [lat_eq (by simpa using hj), lat_eq hj, List.getElem_set_ne (fun e => hja e.symm)]
    rw [hlat]
    refine ⟨s', hs', hlen', fun t ht => ?_⟩
    have hne : ¬ j + t * L.length = i := by
      intro e
      apply hja
      have : (j + t * L.length) % L.length = j := by rw [Nat.add_mul_mod_self_right, Nat.mod_eq_of_lt hj]
      rw [← haa, ← e, this]
    rw [if_neg hne]; exact hz' t ht
end Go.Proofs.Ytkmbblooofmnpaa
