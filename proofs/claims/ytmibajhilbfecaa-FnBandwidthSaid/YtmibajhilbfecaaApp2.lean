/- append onto one of several rows of the call's own: which block the new row lies in. -/
import Derived.Test.YtmibajhilbfecaaBase
namespace Go.Proofs.Ytmibajhilbfecaa
open Go.RowKit Go.Deep

section
variable {P : Program} {T : TypeId} {w : World} {lo hi n c : Nat} {A : Option Addr} {xs : List Value} {zs : List Int}
theorem OwnV.exact_ (h : OwnV T w lo hi A n c xs) (hne : lo < hi) : ∃ g, OwnV T w g (g + 1) A n c xs ∧ lo ≤ g ∧ g < hi := by
  obtain ⟨h1, h2, h3, h4⟩ := h
  rcases h4 with h4 | ⟨g, cur, e, hl, hh, r⟩
  · exact ⟨lo, ⟨h1, h2, h3, .inl h4⟩, Nat.le_refl _, hne⟩
  · exact ⟨g, ⟨h1, h2, h3, .inr ⟨g, cur, e, Nat.le_refl _, by omega, r⟩⟩, hl, hh⟩
theorem Own.exact_ (h : Own w lo hi A n c zs) (hne : lo < hi) : ∃ g, Own w g (g + 1) A n c zs ∧ lo ≤ g ∧ g < hi := OwnV.exact_ h hne

theorem run_append_at (w : World) (T : TypeId) (g : Nat) (t ty : TypeId) (z : Value) (bytes : Nat) (ht : P.underlying t = some (.slice T)) (hinfo : (P.info? T).map (fun i => (i.zero, i.size, i.bytes)) = some (some z, 1, bytes)) (hz1 : z.cells.size = 1)
    (A : Option Addr) (n c : Nat) (xs : List Value) (hown : OwnV T w g (g + 1) A n c xs) (B : Nat) (S : Option Addr) (m d : Nat) (news : List Value) (hr : RV w B S m news) (h1 : ∀ u ∈ news, u.oneCell' = true)
    (h63 : n + m ≤ maxLen) (hbytes : (n + m) * bytes ≤ 140737488355328) (hlo : g ≤ w.heap.size) :
    ∃ A' c' w' g', (Builtin.append_ #[t, t] ty #[.slice A n c, .slice S m d]).run P w = .ok (.slice A' (n + m) c') w' ∧ OwnV T w' g' (g' + 1) A' (n + m) c' (xs ++ news) ∧ Off g (g + 1) w w' ∧ (g' = g ∨ w.heap.size ≤ g') := by
  obtain ⟨i, hi', hz0, hsz, hby⟩ := info_parts hinfo
  rcases S with _ | ad
  · have hm : m = 0 := by
      rcases Nat.eq_zero_or_pos m with h0 | h0
      · exact h0
      · obtain ⟨b, off, h, _⟩ := hr.mem h0
        cases h
    subst hm
    have hn : news = [] := List.eq_nil_of_length_eq_zero (by simpa using hr.len)
    subst hn
    refine ⟨A, c, w, g, ?_, by simpa using hown, Off.refl _ _ _, .inl rfl⟩
    obtain ⟨h1', h2, h3, h4⟩ := hown
    rcases h4 with ⟨rfl, rfl⟩ | ⟨g, cur, rfl, hl, hh, hg, hs, htk⟩
    · obtain rfl : n = 0 := by omega
      simp [Builtin.append_, run_underlying ht, sizeOf, typeInfo, hi', Builtin.lenOf, Builtin.firstCells]
    · simp [Builtin.append_, run_underlying ht, sizeOf, typeInfo, hi', Builtin.lenOf, Builtin.firstCells, h2, storeCells]
  · have hcells : ∀ j u, news[j]? = some u → w.cell? (ad.add j) = some u := by
      intro j u hu
      have hj : 0 < m := by
        rw [← hr.len]
        have := (List.getElem?_eq_some_iff.1 hu).1
        omega
      obtain ⟨b, off, e, _, hc⟩ := hr.mem hj
      injection e with e
      subst e
      have := hc j u hu
      by_cases h0 : j = 0
      · subst h0; simpa [Addr.add] using this
      · simpa [Addr.add, h0] using this
    obtain ⟨v', w', hrun, h2, h3, _, h5⟩ := run_append_own_at (P := P) w g t ty T i z 1 bytes ht hi' hz0 hsz hby hz1 (by omega) (.slice A n c) n xs hown.row ad m d news (by have := hr.len; omega) hcells h1 h63 hbytes hlo
    obtain ⟨A', c', rfl, ho⟩ := OwnV.of_row h2
    have hob : ∀ k, (Value.slice A n c).ownBlock = some k → k = g := by
      intro k hk
      obtain ⟨_, _, _, h4⟩ := hown
      rcases h4 with ⟨rfl, rfl⟩ | ⟨g', cur, rfl, hl, hh, _⟩
      · simp [Value.ownBlock] at hk
      · simp [Value.ownBlock] at hk; omega
    have hoff : Off g (g + 1) w w' := ⟨h3.os, h3.tape, h3.output, h3.size, fun k hk hd => h3.block k hk (fun e => by have := hob k e.symm; omega)⟩
    obtain ⟨a1, a2, a3, a4⟩ := ho
    rcases a4 with a4 | ⟨g', cur, rfl, hl, hh, r⟩
    · exact ⟨A', c', w', g, hrun, ⟨a1, a2, a3, .inl a4⟩, hoff, .inl rfl⟩
    · refine ⟨_, c', w', g', hrun, ⟨a1, a2, a3, .inr ⟨g', cur, rfl, Nat.le_refl _, by omega, r⟩⟩, hoff, ?_⟩
      rcases h5 with h5 | h5
      · exact .inl (hob g' (by rw [← h5]; rfl))
      · simp [Value.ownBlock] at h5; exact .inr (by omega)
theorem wpList_append_at {ops : Array Oper} {rest : List Oper} {o : Oper} {a : Act} {Q : Exit → Act → World → Prop} {w : World} (hgd : o.guard = none) (s x : Operand) (t : TypeId)
    (ho : o.op = .call { callee := .builtin .append, args := #[s, x], argTypes := #[t, t] })
    (ht : P.underlying t = some (.slice 3)) (hinfo : (P.info? 3).map (fun i => (i.zero, i.size, i.bytes)) = some (some (.int .i64 0), 1, 8))
    (g : Nat) (A : Option Addr) (n c : Nat) (zs : List Int) (hs : a.eval s = .slice A n c) (hown : Own w g (g + 1) A n c zs)
    (B : Nat) (S : Option Addr) (m d : Nat) (news : List Int) (hx : a.eval x = .slice S m d) (hr : RI w B S m news)
    (hbd : n + m ≤ 1000000000000) (hlo : g ≤ w.heap.size)
    (h : ∀ A' c' w' g', Own w' g' (g' + 1) A' (n + m) c' (zs ++ news) → Off g (g + 1) w w' → (g' = g ∨ w.heap.size ≤ g') → wpList P ops Q rest (a.put o.dst (.slice A' (n + m) c')) w') : wpList P ops Q (o :: rest) a w := by
  refine wpList_plain hgd fun K hK => ?_
  obtain ⟨A', c', w', g', hrun, h2, h3, h4⟩ := run_append_at (P := P) w 3 g t o.type (.int .i64 0) 8 ht hinfo rfl A n c (zs.map vInt) hown B S m d (news.map vInt) hr (oneCell_vInt _) (by simp only [maxLen]; omega) (by omega) hlo
  unfold Oper.wp execOp
  simp only [ho, resolve, invoke, builtin, Sem.run_bind, Sem.run_pure, Result.andThen_ok, List.map_toArray, List.map_cons, List.map_nil, hs, hx, hrun]
  exact hK _ _ (h A' c' w' g' (by rw [← List.map_append] at h2; exact h2) h3 h4)
end
end Go.Proofs.Ytmibajhilbfecaa
