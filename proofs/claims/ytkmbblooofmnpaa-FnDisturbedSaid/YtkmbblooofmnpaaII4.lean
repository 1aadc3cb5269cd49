/- Slices of slices of ints: as an argument (open_RII), append onto them, l30Copy. -/
import Derived.Test.YtkmbblooofmnpaaII3
import Derived.Test.YtkmbblooofmnpaaApp2
import Derived.Test.YtkmbblooofmnpaaSl
namespace Go.Proofs.Ytkmbblooofmnpaa
open Go.RowKit Go.Deep
theorem list_of {α : Type} {Q : Nat → α → Prop} : ∀ n, (∀ i, i < n → ∃ a, Q i a) → ∃ ps : List α, ps.length = n ∧ ∀ i a, ps[i]? = some a → Q i a
  | 0, _ => ⟨[], rfl, fun i a h => by simp at h⟩
  | n + 1, h => by
    obtain ⟨ps, h1, h2⟩ := list_of n (fun i hi => h i (by omega))
    obtain ⟨a, ha⟩ := h n (by omega)
    refine ⟨ps ++ [a], by simp [h1], fun i b hb => ?_⟩
    by_cases hi : i < ps.length
    · rw [List.getElem?_append_left hi] at hb; exact h2 i b hb
    · rw [List.getElem?_append_right (by omega)] at hb
      have hl := (List.getElem?_eq_some_iff.1 hb).1
      simp at hl
      obtain rfl : i = n := by omega
      simp [h1] at hb
      subst hb
      exact ha
section
open Go.ChangeShapes Go.WideShapes Go.ChangeAt
variable {H : Type} {enc : TypeId × Value → H} {P : Program} {w : World}
theorem open_RII {t e i : TypeId} {A : Option Addr} {n c : Nat} {d : DataW H} {p : List MemPlace} (ht : P.underlying t = some (.slice e)) (he : P.underlying e = some (.slice i)) (hi : P.underlying i = some (.int .i64)) (hce : P.cellsOf e = 1) (hci : P.cellsOf i = 1)
    (h : DataW.Trod enc P w 0 (fun _ => true) true t (.slice A n c) d p) : ∃ L, RSS w w.heap.size A n L ∧ n ≤ c ∧ c ≤ maxLen := by
  obtain ⟨fuel, hf⟩ := h
  rcases DataW.trod_slice ht hf with ⟨h0, _⟩ | ⟨a, len, cap, elems, rest, m, _, h0, _, hb, hl, hm, hlen, hel, hsp, hns⟩
  · simp [Value.cells] at h0
    obtain ⟨rfl, rfl, rfl⟩ := h0
    exact ⟨[], ⟨[], RV.none_, rfl, fun p hp => by cases hp⟩, Nat.le_refl _, by simp [maxLen]⟩
  · simp [Value.cells] at h0
    obtain ⟨rfl, rfl, rfl⟩ := h0
    obtain ⟨ps, hps, hQ⟩ := list_of (Q := fun j (q : Rw) => w.cell? (a.add j) = some q.v ∧ RI w w.heap.size q.A q.n q.zs ∧ q.n ≤ q.c ∧ q.c ≤ maxLen) n (fun j hj => by
      have h1 := hel j hj
      rw [hce, Nat.mul_one, List.getElem?_eq_getElem (by omega), Option.bind_eq_some_iff] at h1
      obtain ⟨cs', hcs, hy'⟩ := h1
      obtain ⟨A', n', c', zs, rfl, hr, _, g1, g2⟩ := open_RV he hi hci hy' vInt (fun _ => rfl)
      exact ⟨⟨A', n', c', 0, 0, zs⟩, cell_of_cells?_one hcs, hr, g1, g2⟩)
    refine ⟨ps.map Rw.zs, ⟨ps, ⟨by simpa using hps, fun hn => ?_⟩, rfl, fun q hq => ?_⟩, hl, hm⟩
    · obtain ⟨b, off, spot⟩ := a
      have hc0 := (hQ 0 _ (List.getElem?_eq_getElem (by omega))).1
      have hspot : spot = none := by simpa [Addr.add] using World.cell?_spot hc0
      subst hspot
      have hb : b < w.heap.size := by
        have h0 : w.cell? ⟨b, off, none⟩ = some (ps[0]'(by omega)).v := by simpa [Addr.add] using hc0
        by_cases hlt : b < w.heap.size
        · exact hlt
        · simp [World.cell?, Array.getElem?_eq_none (Nat.le_of_not_lt hlt)] at h0
      refine ⟨b, off, rfl, hb, fun j u hu => ?_⟩
      rw [List.getElem?_map] at hu
      cases hj : ps[j]? with
      | none => simp [hj] at hu
      | some q =>
        simp [hj] at hu
        subst hu
        have := (hQ j q hj).1
        by_cases h0 : j = 0
        · subst h0; simpa [Addr.add] using this
        · simpa [Addr.add, h0] using this
    · obtain ⟨j, hj, rfl⟩ := List.getElem_of_mem hq
      exact (hQ j _ (List.getElem?_eq_getElem hj)).2
end
section
variable {P : Program}
/-- append of one slice of ints onto an owned list of lists. -/
theorem wpList_append_ss {ops : Array Oper} {rest : List Oper} {o : Oper} {a : Act} {Q : Exit → Act → World → Prop} {w : World} (hgd : o.guard = none) (s x : Operand) (t : TypeId)
    (ho : o.op = .call { callee := .builtin .append, args := #[s, x], argTypes := #[t, t] })
    (ht : P.underlying t = some (.slice 24)) (hinfo : (P.info? 24).map (fun i => (i.zero, i.size, i.bytes)) = some (some (.slice none 0 0), 1, 24))
    (lo hi : Nat) (A : Option Addr) (n c : Nat) (L : List (List Int)) (hs : a.eval s = .slice A n c) (hown : OwnSS w lo hi A n c L)
    (plo phi : Nat) (Ap : Option Addr) (np cp : Nat) (z : List Int) (hp : Own w plo phi Ap np cp z)
    (B : Nat) (S : Option Addr) (d : Nat) (hx : a.eval x = .slice S 1 d) (hr : RV w B S 1 [.slice Ap np cp])
    (hbd : n ≤ 1000000000) (h1 : lo ≤ hi) (h2 : hi ≤ plo) (h3 : phi ≤ w.heap.size) (h4 : hi ≤ w.heap.size)
    (h : ∀ A' c' w', OwnSS w' lo w'.heap.size A' (n + 1) c' (L ++ [z]) → Below lo w w' → wpList P ops Q rest (a.put o.dst (.slice A' (n + 1) c')) w') : wpList P ops Q (o :: rest) a w := by
  refine wpList_plain hgd fun K hK => ?_
  obtain ⟨ps, olo, ohi, g1, g2, g3, g4, g5, g6⟩ := hown
  have hg : ∃ g, OwnV 24 w g (g + 1) A n c (ps.map Rw.v) ∧ lo ≤ g ∧ g ≤ w.heap.size ∧ (∀ p ∈ ps, p.hi ≤ g ∨ g + 1 ≤ p.lo) ∧ (phi ≤ g ∨ g + 1 ≤ plo) := by
    obtain ⟨a1, a2, a3, a4⟩ := g3
    rcases a4 with ⟨rfl, rfl⟩ | ⟨g, cur, e, hl, hh, r⟩
    · obtain rfl : n = 0 := by omega
      refine ⟨w.heap.size, ⟨a1, a2, a3, .inl ⟨rfl, rfl⟩⟩, by omega, Nat.le_refl _, fun p hp => ?_, .inl h3⟩
      have := (g6.1 p hp).2.1
      exact .inl (by omega)
    · refine ⟨g, ⟨a1, a2, a3, .inr ⟨g, cur, e, Nat.le_refl _, by omega, r⟩⟩, by omega, by omega, fun p hp => ?_, .inr (by omega)⟩
      have := g5 p hp
      omega
  obtain ⟨g, q1, q2, q3, q4, q5⟩ := hg
  obtain ⟨A', c', w', g', hrun, b2, b3, b4⟩ := run_append_at (P := P) w 24 g t o.type (.slice none 0 0) 24 ht hinfo rfl A n c (ps.map Rw.v) q1 B S 1 d [.slice Ap np cp] hr (by simp [Value.oneCell']) (by simp only [maxLen]; omega) (by omega) q3
  have hg' : g' < w'.heap.size := by
    obtain ⟨a1, a2, a3, a4⟩ := b2
    rcases a4 with ⟨_, rfl⟩ | ⟨g2, cur, e, hl, hh, hg2, _⟩
    · omega
    · have := heap_lt hg2; omega
  have hsz := b3.size
  have R : OwnSS w' lo w'.heap.size A' (n + 1) c' (L ++ [z]) := by
    refine ⟨ps ++ [⟨Ap, np, cp, plo, phi, z⟩], g', g' + 1, by omega, by omega, by simpa [Rw.v] using b2, by simp [g4], fun p hp => ?_, ?_⟩
    · rcases List.mem_append.1 hp with hp | hp
      · have h5 := q4 p hp
        have h6 := (g6.1 p hp).2.1
        omega
      · rcases List.mem_singleton.1 hp with rfl
        show phi ≤ g' ∨ g' + 1 ≤ plo
        omega
    · have R1 : Rws w' lo hi ps := ⟨fun p hp => ⟨(g6.1 p hp).1, (g6.1 p hp).2.1, (g6.1 p hp).2.2.off b3 (q4 p hp)⟩, g6.2⟩
      exact R1.snoc (p := ⟨Ap, np, cp, plo, phi, z⟩) h2 (by show lo ≤ plo; omega) (by show phi ≤ _; omega) (by omega) (hp.off b3 q5)
  unfold Oper.wp execOp
  simp only [ho, resolve, invoke, builtin, Sem.run_bind, Sem.run_pure, Result.andThen_ok, List.map_toArray, List.map_cons, List.map_nil, hs, hx, hrun]
  exact hK _ _ (h A' c' w' R (b3.below q2 (by omega)))
end
theorem ownss_nil (w : World) : OwnSS (w.alloc (.cells #[] 24)) w.heap.size (w.heap.size + 1) (some ⟨w.heap.size, 0, none⟩) 0 0 [] :=
  ⟨[], w.heap.size, w.heap.size + 1, Nat.le_refl _, Nat.le_refl _, OwnV.new w 24 #[] (by simp [maxLen]), rfl, (fun p hp => by cases hp), Rws.nil⟩
theorem rv_one (w : World) (u : Value) (T : TypeId) : RV (w.alloc (.cells #[u] T)) (w.heap.size + 1) (some ⟨w.heap.size, 0, none⟩) 1 [u] :=
  (OwnV.new w T #[u] (by simp [maxLen])).rv
theorem OwnSS.alloc {w : World} {lo hi n c : Nat} {A : Option Addr} {L : List (List Int)} (h : OwnSS w lo hi A n c L) (o : Obj) : OwnSS (w.alloc o) lo hi A n c L := by
  obtain ⟨ps, olo, ohi, h1, h2, h3, h4, h5, h6⟩ := h
  exact ⟨ps, olo, ohi, h1, h2, h3.alloc o, h4, h5, h6.alloc o⟩
theorem made_ss (w : World) (n : Nat) (hn : n ≤ 1048576) : OwnV 24 (w.alloc (.cells (madeCells #[.slice none 0 0] n) 24)) w.heap.size (w.heap.size + 1) (some ⟨w.heap.size, 0, none⟩) n n (List.replicate n (.slice none 0 0)) := by
  have h1 := OwnV.new w 24 (madeCells #[.slice none 0 0] n) (by rw [size_madeCells]; simp only [maxLen]; omega)
  have h2 : (madeCells #[Value.slice none 0 0] n).toList = List.replicate n (.slice none 0 0) := by
    apply List.ext_getElem?
    intro i
    simp only [madeCells, Array.toList_map, List.getElem?_map, Array.toList_range, List.getElem?_replicate]
    by_cases h : i < n
    · rw [List.getElem?_range h]; simp [h, Nat.mod_one]
    · rw [List.getElem?_eq_none (by simpa using h)]; simp [h]
  rw [size_madeCells, h2] at h1
  exact h1
theorem fill_set (ps : List Rw) (k n : Nat) (hps : ps.length = k) (hlt : k < n) (A1 : Option Addr) (n1 c1 lo hi : Nat) (z : List Int) :
    (ps.map Rw.v ++ List.replicate (n - k) (Value.slice none 0 0)).set k (Value.slice A1 n1 c1) = (ps ++ [(⟨A1, n1, c1, lo, hi, z⟩ : Rw)]).map Rw.v ++ List.replicate (n - (k + 1)) (Value.slice none 0 0) := by
  have e : n - k = (n - (k + 1)) + 1 := by omega
  rw [e, List.replicate_succ, List.set_append_right _ _ (by simp; omega)]
  have : k - (ps.map Rw.v).length = 0 := by simp; omega
  rw [this]
  simp [Rw.v]
theorem eqIntSS_b (A A' : Option Addr) (n n' c c' B B' : Nat) (L : List (List Int)) (w : World) (h : RSS w B A n L) (h' : RSS w B' A' n' L) (hn : n ≤ 4294967296) (hr : ∀ l ∈ L, l.length ≤ 4294967296) :
    Calls Try.prog 25 #[.slice A n c, .slice A' n' c'] w fun e w' => e = .returned (.bool true) ∧ Below w.heap.size w w' :=
  (eqIntSS_t A A' n n' c c' B B' L w h h' hn hr).mono fun e w' ⟨he, q, hq⟩ => ⟨he, by rw [hq]; exact below_of_drewN _⟩
set_option maxHeartbeats 1000000 in
theorem l30Copy_any (A : Option Addr) (n c B : Nat) (L : List (List Int)) (w : World) (h : RSS w B A n L) (hB : B ≤ w.heap.size) (hn : n ≤ 1048576) (hr : ∀ l ∈ L, l.length ≤ 4294967296) :
    Calls Try.prog 57 #[.slice A n c] w (RetOwnSS w L) := by
  have hl := Lib.hid h.len
  have HR := Lib.hid hr
  have HO := ownss_nil w
  go_enter Try.func57, Try.ntmps57
  go_wp2
  go_loopw [3, 4] (fun o i wr => ∃ k : Nat, k ≤ n ∧ i = .int .i64 k ∧ ∃ A' c', o = .slice A' k c' ∧ OwnSS wr w.heap.size wr.heap.size A' k c' (L.take k) ∧ Below w.heap.size w wr) (fun _ i _ => n - (intOf i).toNat)
  case atStart => exact ⟨0, Nat.zero_le _, rfl, _, _, rfl, by simpa using HO, (Below.refl _ _).alloc (Nat.le_refl _) _⟩
  case round =>
    obtain ⟨k, hk, rfl, A', c', rfl, hown, hbel⟩ := hrel
    clear HO
    by_cases hlt : k < n
    · obtain ⟨b, off, Ak, nk, ck, rfl, hb, hc0, hri, hck, _⟩ := (h.below hbel hB).at_ hlt
      have hkl : k < L.length := by have := hl.out; omega
      have hnk : nk ≤ 4294967296 := by
        rw [← hri.len, lat_eq hkl]
        exact HR.out _ (List.getElem_mem _)
      have s0 := hbel.size
      have hi1 : (0 : Int) ≤ (k : Int) := by omega
      have hi2 : (k : Int) < (n : Int) := by omega
      have hblt : b < wr.heap.size := by omega
      have HL := own_lit0 wr
      have HRI : RI (wr.alloc (.cells #[] 3)) B Ak nk (lat L k) := RV.alloc hri (by omega) _
      have HSS := hown.alloc (.cells #[] 3)
      have HB := hbel.alloc (by omega) (.cells #[] 3)
      clear hown hri
      have HE := Lib.hid (take_lat hkl)
      go_wp2_with (at_builtin; first
        | (refine wpList_append_ints rfl _ _ _ rfl Try.underlying24 infoInt _ _ _ _ _ _ rfl HL _ _ _ _ _ rfl HRI (by omega) (by simp) ?_
           intro A1 c1 w1 hown1 hoff1 hbel1
           have s1 := hoff1.size
           simp only [World.size_alloc] at s1
           simp only [List.nil_append, Nat.zero_add] at hown1
           have HSS1 := (HSS.off hoff1 (.inl (Nat.le_refl _))).alloc (.cells #[.slice A1 nk c1] 24)
           have HP := hown1.alloc (.cells #[.slice A1 nk c1] 24)
           have HR1 := rv_one w1 (.slice A1 nk c1) 24
           have HB1 := (HB.trans (hbel1.mono (by omega))).alloc (by omega) (.cells #[.slice A1 nk c1] 24)
           clear HSS HB hown1 HL HRI hoff1 hbel1 hbel hc0
           try simp only [Nat.zero_add])
        | (refine wpList_append_ss rfl _ _ _ rfl Try.underlying36 infoII _ _ _ _ _ _ rfl HSS1 _ _ _ _ _ _ HP _ _ _ rfl HR1 (by omega) (by omega) (Nat.le_refl _) (by simp) (by simp; omega) ?_
           intro A2 c2 w2 hown2 hbel2
           have HB2 := HB1.trans hbel2
           clear HSS1 HP HR1 HB1 hbel2))
      rw [← HE.out] at hown2
      go_roundw
      case rel => exact ⟨k + 1, by omega, by go_num, _, _, rfl, hown2, HB2⟩
      case measure => simp [intOf]; omega
    · obtain rfl : k = n := by omega
      have R := hown
      rw [List.take_of_length_le (by have := hl.out; omega)] at R
      clear hown
      go_wp2
      go_ret
      exact ⟨_, _, _, rfl, R, hbel⟩
end Go.Proofs.Ytkmbblooofmnpaa
