/- The plain law of FnPackets: a packet is read from its nibbles; one changed nibble of its dots or of its check is noticed; a list cut short is refused. -/
import Derived.Test.YtkmbblooofmnpaaReadLaw
namespace Go.Proofs.Ytkmbblooofmnpaa
open Go.RowKit Go.Deep
theorem and15_int (a : Int) (h0 : 0 ≤ a) (h1 : a < 9223372036854775808) : bits .and .i64 a 15 = a % 16 := by
  obtain ⟨b, rfl⟩ := Int.eq_ofNat_of_zero_le h0
  rw [and15_nat b (by omega)]; omega
theorem dot5_back {d : Int} (h0 : 0 ≤ d) (h1 : d ≤ 262143) : (dot5 d).foldl opI 0 = d := by
  have e0 : bits .and .i64 (d / 65536) 15 = d / 65536 % 16 := and15_int _ (by omega) (by omega)
  have e1 : bits .and .i64 (d / 4096) 15 = d / 4096 % 16 := and15_int _ (by omega) (by omega)
  have e2 : bits .and .i64 (d / 256) 15 = d / 256 % 16 := and15_int _ (by omega) (by omega)
  have e3 : bits .and .i64 (d / 16) 15 = d / 16 % 16 := and15_int _ (by omega) (by omega)
  have e4 : bits .and .i64 d 15 = d % 16 := and15_int _ (by omega) (by omega)
  simp only [dot5, e0, e1, e2, e3, e4, List.foldl_cons, List.foldl_nil]
  rw [(op_eq (d := 0) (n := d / 65536 % 16) (by omega) (by omega) (by omega) (by omega)).1]
  rw [(op_eq (d := 0 * 16 + d / 65536 % 16) (n := d / 4096 % 16) (by omega) (by omega) (by omega) (by omega)).1]
  rw [(op_eq (d := (0 * 16 + d / 65536 % 16) * 16 + d / 4096 % 16) (n := d / 256 % 16) (by omega) (by omega) (by omega) (by omega)).1]
  rw [(op_eq (d := ((0 * 16 + d / 65536 % 16) * 16 + d / 4096 % 16) * 16 + d / 256 % 16) (n := d / 16 % 16) (by omega) (by omega) (by omega) (by omega)).1]
  rw [(op_eq (d := (((0 * 16 + d / 65536 % 16) * 16 + d / 4096 % 16) * 16 + d / 256 % 16) * 16 + d / 16 % 16) (n := d % 16) (by omega) (by omega) (by omega) (by omega)).1]
  omega
theorem dotsL_drop : ∀ (ds : List Int) (T : List Int) (k : Nat) (h : k < ds.length), ((dotsL ds ++ T).drop (5 * k)).take 5 = dot5 (ds[k])
  | [], _, k, h => absurd h (by simp)
  | d :: ds, T, 0, _ => by simp [dotsL, dot5]
  | d :: ds, T, k + 1, h => by
    have e : dotsL (d :: ds) = dot5 d ++ dotsL ds := by simp [dotsL]
    have h5 : (dot5 d).length = 5 := by simp [dot5]
    rw [e, List.append_assoc, show 5 * (k + 1) = (dot5 d).length + 5 * k by rw [h5]; omega, List.drop_append, List.drop_eq_nil_of_le (by omega)]
    simpa using dotsL_drop ds T k (by simpa using h)
/-- The header of a list that begins as a packet's nibbles. -/
theorem head_read {k f l : Int} {ds : List Int} (hp : pkB k f l ds = true) (zs : List Int) (hz : ∀ j, j < 5 → zat zs j = zat (pkHead k f l ds.length) j) :
    zat zs 0 = k ∧ opI (zat zs 1) (zat zs 2) = f ∧ zat zs 3 = l ∧ rdN zs = ds.length ∧ (zat zs 0 = 0 → inB (zat zs 4) 0 15 = true ∧ zat zs 4 + 1 = ds.length) := by
  obtain ⟨pf, pl, pd, pk⟩ := pkB_t hp
  have z0 : zat zs 0 = k := hz 0 (by omega)
  have z1 : zat zs 1 = f / 16 := hz 1 (by omega)
  have z2 : zat zs 2 = bits .and .i64 f 15 := hz 2 (by omega)
  have z3 : zat zs 3 = l := hz 3 (by omega)
  have z4 : zat zs 4 = mxD ds.length := hz 4 (by omega)
  have e2 : bits .and .i64 f 15 = f % 16 := and15_int _ (by omega) (by omega)
  refine ⟨z0, ?_, z3, ?_, ?_⟩
  · rw [z1, z2, e2, (op_eq (by omega) (by omega) (by omega) (by omega)).1]; omega
  · unfold rdN
    rw [z0, z4]
    unfold mxD
    split
    · split <;> omega
    · omega
  · intro h
    rw [z0] at h
    rw [z4]
    unfold mxD
    rw [if_neg (by omega)]
    exact ⟨inB_t.2 (by omega), by omega⟩
theorem pkF_head {k f l : Int} {ds : List Int} (hp : pkB k f l ds = true) (T : List Int) : ∀ j, j < 5 → zat (pkF k f l ds ++ T) j = zat (pkHead k f l ds.length) j := by
  intro j hj
  unfold pkF pkBody
  rw [if_pos hp]
  have hl : (pkHead k f l ds.length).length = 5 := rfl
  rw [zat_eq (by simp [hl]; omega), zat_eq (by omega)]
  simp only [List.append_assoc]
  rw [List.getElem_append_left (by omega)]
/-- A packet is read from its nibbles, whatever follows. -/
theorem pk_read {k f l : Int} {ds : List Int} (hp : pkB k f l ds = true) (T : List Int) :
    accO opI (pkF k f l ds ++ T) = true ∧ zat (pkF k f l ds ++ T) 0 = k ∧ opI (zat (pkF k f l ds ++ T) 1) (zat (pkF k f l ds ++ T) 2) = f ∧ zat (pkF k f l ds ++ T) 3 = l ∧ rdN (pkF k f l ds ++ T) = ds.length ∧ dotsOf opI (pkF k f l ds ++ T) ds.length = ds := by
  obtain ⟨z0, z1, z3, hN, z4⟩ := head_read hp _ (pkF_head hp T)
  obtain ⟨pf, pl, pd, pk⟩ := pkB_t hp
  have hlen := pkF_len7 hp
  have hd : dotsOf opI (pkF k f l ds ++ T) ds.length = ds := by
    apply List.ext_getElem
    · simp [dotsOf]
    · intro i h1 h2
      simp only [dotsOf, List.getElem_map, List.getElem_range, dotOf]
      have e : ((pkF k f l ds ++ T).drop (5 + 5 * i)).take 5 = dot5 (ds[i]) := by
        unfold pkF pkBody
        rw [if_pos hp]
        simp only [List.append_assoc]
        rw [show 5 + 5 * i = (pkHead k f l ds.length).length + 5 * i from rfl, List.drop_append, List.drop_eq_nil_of_le (by omega)]
        simpa using dotsL_drop ds _ i h2
      rw [e]
      have := pd i h2
      rw [zat_eq h2] at this
      exact dot5_back this.1 this.2
  refine ⟨?_, z0, z1, z3, hN, hd⟩
  unfold accO
  rw [hN, hd, z1, z3, z0, hp]
  have e2 : (pkF k f l ds ++ T).take (7 + 5 * ds.length) = pkF k f l ds := by rw [← hlen]; simp
  rw [e2]
  have e3 : rdPre (pkF k f l ds ++ T) = true := by
    unfold rdPre
    have hl2 : 7 + 5 * ds.length ≤ (pkF k f l ds ++ T).length := by rw [List.length_append, hlen]; omega
    by_cases h0 : zat (pkF k f l ds ++ T) 0 = 0
    · rw [if_pos h0, (z4 h0).1, (z4 h0).2]
      simp only [Bool.true_and, Bool.and_eq_true, decide_eq_true_eq]
      omega
    · rw [if_neg h0]
      simp only [Bool.and_true, decide_eq_true_eq]
      omega
  rw [e3]
  simp [hlen]
/-- A list cut short is refused. -/
theorem pk_short {k f l : Int} {ds : List Int} (hp : pkB k f l ds = true) (m : Nat) (hm : m < 7 + 5 * ds.length) (h5 : 5 ≤ m) : accO opI ((pkF k f l ds).take m) = false := by
  have hlen := pkF_len7 hp
  have hh : ∀ j, j < 5 → zat ((pkF k f l ds).take m) j = zat (pkHead k f l ds.length) j := by
    intro j hj
    rw [← pkF_head hp [] j hj, List.append_nil, zat_eq (by rw [List.length_take]; omega), zat_eq (by omega)]
    simp
  obtain ⟨z0, z1, z3, hN, z4⟩ := head_read hp _ hh
  have : ¬ 7 + 5 * rdN ((pkF k f l ds).take m) ≤ ((pkF k f l ds).take m).length := by rw [hN, List.length_take]; omega
  unfold accO
  rw [decide_eq_false this]
  simp only [Bool.and_false, Bool.false_and]
theorem sum_set : ∀ (L : List Int) (i : Nat) (y : Int) (h : i < L.length), (L.set i y).sum = L.sum + (y - L[i])
  | [], _, _, h => absurd h (by simp)
  | x :: L, 0, y, _ => by simp; omega
  | x :: L, i + 1, y, h => by
    have := sum_set L i y (by simpa using h)
    simp only [List.set_cons_succ, List.sum_cons, List.getElem_cons_succ]
    omega
/-- A changed nibble behind the head is noticed. -/
theorem pk_changed {k f l : Int} {ds : List Int} (hp : pkB k f l ds = true) (i : Nat) (y : Int) (h5 : 5 ≤ i) (hi : i < 7 + 5 * ds.length) (hy : 0 ≤ y ∧ y ≤ 15) (hne : y ≠ zat (pkF k f l ds) i) : accO opI ((pkF k f l ds).set i y) = false := by
  have hlen := pkF_len7 hp
  have hh : ∀ j, j < 5 → zat ((pkF k f l ds).set i y) j = zat (pkHead k f l ds.length) j := by
    intro j hj
    rw [← pkF_head hp [] j hj, List.append_nil, zat_eq (by rw [List.length_set]; omega), zat_eq (by omega), List.getElem_set_ne (by omega)]
  obtain ⟨z0, z1, z3, hN, z4⟩ := head_read hp _ hh
  cases hacc : accO opI ((pkF k f l ds).set i y)
  · rfl
  exfalso
  simp only [accO, Bool.and_eq_true, decide_eq_true_eq] at hacc
  obtain ⟨⟨⟨_, h2⟩, _⟩, h4⟩ := hacc
  rw [hN, z0, z1, z3] at h2 h4
  rw [List.take_of_length_le (by rw [List.length_set]; omega)] at h4
  have hl' : (dotsOf opI ((pkF k f l ds).set i y) ds.length).length = ds.length := dotsOf_len _ _ _
  generalize hds' : dotsOf opI ((pkF k f l ds).set i y) ds.length = ds' at h2 h4 hl'
  have r1 := sum_rng (pkBody_rng hp)
  have r2 := sum_rng (pkBody_rng h2)
  have n1 := pkBody_len k f l ds
  have n2 := pkBody_len k f l ds'
  obtain ⟨pf, pl, pd, pk⟩ := pkB_t hp
  have rz := pkF_rng hp _ (zat_mem (show i < (pkF k f l ds).length by omega))
  rw [zat_eq (by omega)] at rz hne
  have ep : pkF k f l ds = pkBody k f l ds ++ [bits .and .i64 ((pkBody k f l ds).sum / 16) 15, bits .and .i64 (pkBody k f l ds).sum 15] := by unfold pkF; rw [if_pos hp]
  have ep' : pkF k f l ds' = pkBody k f l ds' ++ [bits .and .i64 ((pkBody k f l ds').sum / 16) 15, bits .and .i64 (pkBody k f l ds').sum 15] := by unfold pkF; rw [if_pos h2]
  have c1 := and15_int ((pkBody k f l ds).sum / 16) (by omega) (by omega)
  have c2 := and15_int ((pkBody k f l ds).sum) (by omega) (by omega)
  have c3 := and15_int ((pkBody k f l ds').sum / 16) (by omega) (by omega)
  have c4 := and15_int ((pkBody k f l ds').sum) (by omega) (by omega)
  by_cases hb : i < 5 + 5 * ds.length
  · have hx : (pkF k f l ds)[i] = (pkBody k f l ds)[i] := by simp only [ep]; rw [List.getElem_append_left]
    rw [hx] at rz hne
    rw [ep', ep, List.set_append, if_pos (by omega)] at h4
    obtain ⟨q1, q2⟩ := List.append_inj h4 (by rw [List.length_set]; omega)
    have q3 := congrArg List.sum q1
    rw [sum_set _ _ _ (by omega)] at q3
    simp only [List.cons.injEq, and_true] at q2
    rw [c1, c2, c3, c4] at q2
    omega
  · have hx : (pkF k f l ds).set i y = pkBody k f l ds ++ ([bits .and .i64 ((pkBody k f l ds).sum / 16) 15, bits .and .i64 (pkBody k f l ds).sum 15].set (i - (5 + 5 * ds.length)) y) := by
      rw [ep, List.set_append, if_neg (by omega), n1]
    have h4' := h4
    rw [hx, ep'] at h4
    obtain ⟨q1, q2⟩ := List.append_inj h4 (by omega)
    have q3 : pkF k f l ds' = pkF k f l ds := by rw [ep', ep, q1]
    rw [q3] at h4'
    have q4 := congrArg (fun L => zat L i) h4'
    rw [zat_eq (by omega), zat_eq (by rw [List.length_set]; omega), List.getElem_set_self] at q4
    exact hne q4.symm
end Go.Proofs.Ytkmbblooofmnpaa
