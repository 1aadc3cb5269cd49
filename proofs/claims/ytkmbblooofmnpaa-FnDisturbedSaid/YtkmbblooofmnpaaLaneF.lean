/- Lanes as plain lists: what ReceiveLanes and SendLanes compute. -/
import Derived.Test.YtkmbblooofmnpaaII2
import Derived.Test.YtkmbblooofmnpaaSl
import Derived.Test.YtkmbblooofmnpaaRep
namespace Go.Proofs.Ytkmbblooofmnpaa
/-- What lies behind the first start symbol. -/
def restL (l : List Int) : List Int := l.drop (findI 24 l + 1).toNat
/-- The least length of a list of lists; 0 if there is none. -/
def mnL : List (List Int) → Nat
  | [] => 0
  | l :: M => M.foldl (fun t x => if x.length < t then x.length else t) l.length
theorem mnL_snoc (M : List (List Int)) (l : List Int) : mnL (M ++ [l]) = if M = [] ∨ l.length < mnL M then l.length else mnL M := by
  cases M with
  | nil => simp [mnL]
  | cons a M => simp [mnL]
theorem foldl_min (M : List (List Int)) : ∀ t : Nat, M.foldl (fun t x => if x.length < t then x.length else t) t ≤ t ∧ ∀ x ∈ M, M.foldl (fun t x => if x.length < t then x.length else t) t ≤ x.length := by
  induction M with
  | nil => intro t; simp
  | cons a M ih =>
    intro t
    simp only [List.foldl_cons, List.mem_cons]
    have h := ih (if a.length < t then a.length else t)
    by_cases hc : a.length < t
    · rw [if_pos hc] at h ⊢
      exact ⟨by omega, fun x hx => by rcases hx with rfl | hx; exact h.1; exact h.2 x hx⟩
    · rw [if_neg hc] at h ⊢
      exact ⟨h.1, fun x hx => by rcases hx with rfl | hx; omega; exact h.2 x hx⟩
theorem mnL_le {M : List (List Int)} {l : List Int} (h : l ∈ M) : mnL M ≤ l.length := by
  cases M with
  | nil => cases h
  | cons a M =>
    rcases List.mem_cons.1 h with rfl | h
    · exact (foldl_min M _).1
    · exact (foldl_min M _).2 l h
def rowT (M : List (List Int)) (t : Nat) : List Int := M.map fun l => zat l t
def rvF (M : List (List Int)) (T : Nat) : List Int := (List.range T).flatMap (rowT M)
theorem rvF_succ (M : List (List Int)) (T : Nat) : rvF M (T + 1) = rvF M T ++ rowT M T := by simp [rvF, List.range_succ]
theorem rvF_len (M : List (List Int)) : ∀ T, (rvF M T).length = T * M.length
  | 0 => by simp [rvF]
  | T + 1 => by rw [rvF_succ, List.length_append, rvF_len M T, rowT, List.length_map, Nat.succ_mul]
theorem rowT_snoc {M : List (List Int)} {t i : Nat} (h : i < M.length) : rowT (M.take (i + 1)) t = rowT (M.take i) t ++ [zat (lat M i) t] := by rw [take_lat h]; simp [rowT]
def recvOk (L : List (List Int)) : Bool := lcB L.length && L.all fun l => decide (0 ≤ findI 24 l)
def recvF (L : List (List Int)) : List Int × Bool := if recvOk L then (rvF (L.map restL) (mnL (L.map restL)), true) else ([], false)
theorem recvF_no {L : List (List Int)} (h : recvOk L = false) : recvF L = ([], false) := by simp [recvF, h]
theorem recvF_yes {L : List (List Int)} (h : recvOk L = true) : recvF L = (rvF (L.map restL) (mnL (L.map restL)), true) := by simp [recvF, h]
theorem recvOk_cnt {L : List (List Int)} (h : lcB L.length = false) : recvOk L = false := by simp [recvOk, h]
theorem recvOk_at {L : List (List Int)} {k : Nat} (hk : k < L.length) (h : findI 24 (lat L k) = -1) : recvOk L = false := by
  unfold recvOk
  rw [Bool.and_eq_false_iff]
  refine .inr (List.all_eq_false.2 ⟨lat L k, ?_, by simp [h]⟩)
  rw [lat_eq hk]; exact List.getElem_mem hk
theorem recvOk_all {L : List (List Int)} (h0 : lcB L.length = true) (h : ∀ j, j < L.length → 0 ≤ findI 24 (lat L j)) : recvOk L = true := by
  unfold recvOk
  rw [h0, Bool.true_and, List.all_eq_true]
  intro l hl
  obtain ⟨j, hj, rfl⟩ := List.getElem_of_mem hl
  have := h j hj
  rw [lat_eq hj] at this
  simpa using this
theorem lcB_le {n : Nat} (h : lcB n = true) : 1 ≤ n ∧ n ≤ 4 := by
  have := lcB_t.1 h
  omega
theorem recvF_len (L : List (List Int)) : (recvF L).1.length ≤ 4 * tot L := by
  unfold recvF
  split
  · rename_i h
    have hn := lcB_le (n := L.length) (by unfold recvOk at h; simp only [Bool.and_eq_true] at h; exact h.1)
    rw [rvF_len, List.length_map]
    have hm : lat L 0 ∈ L := by rw [lat_eq (by omega)]; exact List.getElem_mem _
    have h1 : mnL (L.map restL) ≤ (restL (lat L 0)).length := mnL_le (List.mem_map_of_mem hm)
    have h2 : (restL (lat L 0)).length ≤ (lat L 0).length := by unfold restL; simp
    have h3 := tot_mem hm
    calc mnL (L.map restL) * L.length ≤ tot L * 4 := Nat.mul_le_mul (by omega) hn.2
      _ = 4 * tot L := Nat.mul_comm _ _
  · simp
theorem lat_map_rest {L : List (List Int)} {k : Nat} (h : k < L.length) : lat (L.map restL) k = restL (lat L k) := by
  rw [lat_eq (by simpa using h), lat_eq h]; simp
theorem take_map_rest {L : List (List Int)} {k : Nat} (h : k < L.length) : (L.map restL).take (k + 1) = (L.map restL).take k ++ [restL (lat L k)] := by
  rw [take_lat (by simpa using h), lat_map_rest h]
theorem restL_at {l : List Int} {j : Nat} (h : findI 24 l = j) : restL l = l.drop (j + 1) := by
  unfold restL; rw [h]; congr 1
theorem zat_drop (l : List Int) (a t : Nat) : zat (l.drop a) t = zat l (a + t) := by
  simp [zat, List.getD_eq_getElem?_getD]
/-! ### SendLanes -/
/-- Every n-th element of xs from place i on, j of them. -/
def strF (xs : List Int) (i n j : Nat) : List Int := (List.range j).map fun t => zat xs (i + t * n)
theorem strF_succ (xs : List Int) (i n j : Nat) : strF xs i n (j + 1) = strF xs i n j ++ [zat xs (i + j * n)] := by simp [strF, List.range_succ]
theorem strF_len (xs : List Int) (i n j : Nat) : (strF xs i n j).length = j := by simp [strF]
def cntF (m i n : Nat) : Nat := (m - i + (n - 1)) / n
def trnF (m n : Nat) : Nat := (m + n - 1) / n
/-- Lane i before it is padded. -/
def laneF (xs sk : List Int) (i n : Nat) : List Int := List.replicate (zat sk i).toNat 31 ++ [24] ++ strF xs i n (cntF xs.length i n)
def padTo (l : List Int) (m : Nat) : List Int := l ++ List.replicate (m - l.length) 31
def sendOk (xs sk : List Int) : Bool := lcB sk.length && sk.all (fun z => inB z 0 8) && xs.all (fun z => inB z 0 31)
def sendTo (xs sk : List Int) : Nat := (mxF sk).toNat + 1 + trnF xs.length sk.length
def sendL (xs sk : List Int) (i : Nat) : List Int := padTo (laneF xs sk i sk.length) (sendTo xs sk)
def sendF (xs sk : List Int) : List (List Int) := if sendOk xs sk then (List.range sk.length).map (sendL xs sk) else []
end Go.Proofs.Ytkmbblooofmnpaa
