/- Slices of slices of ints: read (RSS), owned (OwnSS), and the verifier's helpers on them. -/
import Derived.Test.YtkmbblooofmnpaaIntS
import Derived.Test.YtkmbblooofmnpaaBase2
import Derived.Test.YtkmbblooofmnpaaApp3
import Derived.Deep.RegionHeld3
namespace Go.Proofs.Ytkmbblooofmnpaa
open Go.RowKit Go.Deep
/-- One inner slice: its value, the blocks lo .. hi-1 in which it lies, what it holds. -/
structure Rw where
  A : Option Addr
  n : Nat
  c : Nat
  lo : Nat
  hi : Nat
  zs : List Int
def Rw.v (p : Rw) : Value := .slice p.A p.n p.c
def lat (L : List (List Int)) (k : Nat) : List Int := L.getD k []
theorem lat_eq {L : List (List Int)} {k : Nat} (h : k < L.length) : lat L k = L[k] := by simp [lat, h]
theorem take_lat {L : List (List Int)} {k : Nat} (h : k < L.length) : L.take (k + 1) = L.take k ++ [lat L k] := by rw [take_snoc h, lat_eq h]
/-- '.slice A n c' reads as the list of lists L; all of it in blocks below B. -/
def RSS (w : World) (B : Nat) (A : Option Addr) (n : Nat) (L : List (List Int)) : Prop :=
  ∃ ps : List Rw, RV w B A n (ps.map Rw.v) ∧ ps.map Rw.zs = L ∧ ∀ p ∈ ps, RI w B p.A p.n p.zs ∧ p.n ≤ p.c ∧ p.c ≤ maxLen
section
variable {w w' : World} {B B' n : Nat} {A : Option Addr} {L : List (List Int)}
theorem RSS.len (h : RSS w B A n L) : L.length = n := by
  obtain ⟨ps, h1, rfl, _⟩ := h
  have := h1.len
  simpa using this
theorem RSS.below {C : Nat} (h : RSS w B A n L) (hb : Below C w w') (hC : B ≤ C) : RSS w' B A n L := by
  obtain ⟨ps, h1, h2, h3⟩ := h
  exact ⟨ps, h1.below hb hC, h2, fun p hp => ⟨(h3 p hp).1.below hb hC, (h3 p hp).2⟩⟩
theorem RSS.more (h : RSS w B A n L) (hB : B ≤ B') : RSS w B' A n L := by
  obtain ⟨ps, h1, h2, h3⟩ := h
  exact ⟨ps, h1.more hB, h2, fun p hp => ⟨(h3 p hp).1.more hB, (h3 p hp).2⟩⟩
theorem RSS.at_ {k : Nat} (h : RSS w B A n L) (hk : k < n) : ∃ b off Ak nk ck, A = some ⟨b, off, none⟩ ∧ b < B ∧ w.cell? ⟨b, off + k, none⟩ = some (.slice Ak nk ck) ∧ RI w B Ak nk (lat L k) ∧ nk ≤ ck ∧ ck ≤ maxLen := by
  obtain ⟨ps, h1, rfl, h3⟩ := h
  have hl : k < ps.length := by have := h1.len; simp at this; omega
  obtain ⟨b, off, u, e, hb, hu, hc⟩ := h1.at_ hk
  rw [List.getElem?_map, List.getElem?_eq_getElem hl] at hu
  simp only [Option.map_some, Option.some.injEq] at hu
  subst hu
  have h4 := h3 _ (List.getElem_mem hl)
  refine ⟨b, off, ps[k].A, ps[k].n, ps[k].c, e, hb, hc, ?_, h4.2⟩
  rw [lat_eq (by simpa using hl)]
  simpa using h4.1
end
/-- Inner slices in blocks lo .. hi-1, each in blocks of its own. -/
def Rws (w : World) (lo hi : Nat) (ps : List Rw) : Prop :=
  (∀ p ∈ ps, lo ≤ p.lo ∧ p.hi ≤ hi ∧ Own w p.lo p.hi p.A p.n p.c p.zs) ∧ ps.Pairwise (fun p q => p.hi ≤ q.lo ∨ q.hi ≤ p.lo)
/-- '.slice A n c' owns the list of lists L: the outer slice and the inner ones lie in blocks lo .. hi-1, apart from each other. -/
def OwnSS (w : World) (lo hi : Nat) (A : Option Addr) (n c : Nat) (L : List (List Int)) : Prop :=
  ∃ (ps : List Rw) (olo ohi : Nat), lo ≤ olo ∧ ohi ≤ hi ∧ OwnV 24 w olo ohi A n c (ps.map Rw.v) ∧ ps.map Rw.zs = L ∧ (∀ p ∈ ps, p.hi ≤ olo ∨ ohi ≤ p.lo) ∧ Rws w lo hi ps
def RetOwnSS (w : World) (L : List (List Int)) (e : Ending) (w' : World) : Prop := ∃ A n c, e = .returned (.slice A n c) ∧ OwnSS w' w.heap.size w'.heap.size A n c L ∧ Below w.heap.size w w'
section
variable {w w' : World} {lo hi n c : Nat} {A : Option Addr} {L : List (List Int)} {ps : List Rw}
theorem Rws.nil : Rws w lo hi [] := ⟨(fun p hp => by cases hp), List.Pairwise.nil⟩
theorem Rws.below {B : Nat} (h : Rws w lo hi ps) (hb : Below B w w') (hB : hi ≤ B) : Rws w' lo hi ps :=
  ⟨fun p hp => ⟨(h.1 p hp).1, (h.1 p hp).2.1, (h.1 p hp).2.2.below hb (by have := (h.1 p hp).2.1; omega)⟩, h.2⟩
theorem Rws.off {lo' hi' : Nat} (h : Rws w lo hi ps) (ho : Off lo' hi' w w') (hd : hi ≤ lo' ∨ hi' ≤ lo) : Rws w' lo hi ps :=
  ⟨fun p hp => ⟨(h.1 p hp).1, (h.1 p hp).2.1, (h.1 p hp).2.2.off ho (by have h1 := (h.1 p hp).2.1; have h2 := (h.1 p hp).1; omega)⟩, h.2⟩
theorem Rws.far (h : Rws w lo hi ps) {p : Addr} (hp : p.block < lo ∨ hi ≤ p.block) (u : Value) : Rws (w.setCell p u) lo hi ps :=
  ⟨fun q hq => ⟨(h.1 q hq).1, (h.1 q hq).2.1, OwnV.far (h.1 q hq).2.2 (by have h1 := (h.1 q hq).2.1; have h2 := (h.1 q hq).1; omega) u⟩, h.2⟩
theorem Rws.alloc (h : Rws w lo hi ps) (o : Obj) : Rws (w.alloc o) lo hi ps := ⟨fun p hp => ⟨(h.1 p hp).1, (h.1 p hp).2.1, (h.1 p hp).2.2.alloc o⟩, h.2⟩
theorem Rws.mono {lo' hi' : Nat} (h : Rws w lo hi ps) (h1 : lo' ≤ lo) (h2 : hi ≤ hi') : Rws w lo' hi' ps := ⟨fun p hp => ⟨by have := (h.1 p hp).1; omega, by have := (h.1 p hp).2.1; omega, (h.1 p hp).2.2⟩, h.2⟩
theorem Rws.snoc (h : Rws w lo hi ps) {p : Rw} {hi' : Nat} (h1 : hi ≤ p.lo) (h2 : lo ≤ p.lo) (h3 : p.hi ≤ hi') (h4 : hi ≤ hi') (ho : Own w p.lo p.hi p.A p.n p.c p.zs) : Rws w lo hi' (ps ++ [p]) := by
  refine ⟨fun q hq => ?_, ?_⟩
  · rcases List.mem_append.1 hq with hq | hq
    · exact ⟨(h.1 q hq).1, by have := (h.1 q hq).2.1; omega, (h.1 q hq).2.2⟩
    · rcases List.mem_singleton.1 hq with rfl
      exact ⟨h2, h3, ho⟩
  · refine List.pairwise_append.2 ⟨h.2, List.pairwise_singleton _ _, fun a ha b hb => ?_⟩
    rcases List.mem_singleton.1 hb with rfl
    exact .inl (by have := (h.1 a ha).2.1; omega)
theorem OwnSS.len (h : OwnSS w lo hi A n c L) : L.length = n := by
  obtain ⟨ps, olo, ohi, _, _, h3, rfl, _⟩ := h
  have := h3.len
  simpa using this
theorem OwnSS.below {B : Nat} (h : OwnSS w lo hi A n c L) (hb : Below B w w') (hB : hi ≤ B) : OwnSS w' lo hi A n c L := by
  obtain ⟨ps, olo, ohi, h1, h2, h3, h4, h5, h6⟩ := h
  exact ⟨ps, olo, ohi, h1, h2, h3.below hb (by omega), h4, h5, h6.below hb hB⟩
theorem OwnSS.off {lo' hi' : Nat} (h : OwnSS w lo hi A n c L) (ho : Off lo' hi' w w') (hd : hi ≤ lo' ∨ hi' ≤ lo) : OwnSS w' lo hi A n c L := by
  obtain ⟨ps, olo, ohi, h1, h2, h3, h4, h5, h6⟩ := h
  exact ⟨ps, olo, ohi, h1, h2, h3.off ho (by omega), h4, h5, h6.off ho hd⟩
theorem OwnSS.mono {lo' hi' : Nat} (h : OwnSS w lo hi A n c L) (h1 : lo' ≤ lo) (h2 : hi ≤ hi') : OwnSS w lo' hi' A n c L := by
  obtain ⟨ps, olo, ohi, a, b, h3, h4, h5, h6⟩ := h
  exact ⟨ps, olo, ohi, by omega, by omega, h3, h4, h5, h6.mono h1 h2⟩
theorem OwnSS.rss (h : OwnSS w lo hi A n c L) : RSS w hi A n L := by
  obtain ⟨ps, olo, ohi, h1, h2, h3, h4, h5, h6⟩ := h
  exact ⟨ps, h3.rv.more h2, h4, fun p hp => ⟨(h6.1 p hp).2.2.ri.more (h6.1 p hp).2.1, (h6.1 p hp).2.2.cap, (h6.1 p hp).2.2.2.2.1⟩⟩
end
theorem lss_eq {xs ys : List (List Int)} (hl : xs.length = ys.length) (h : ∀ j, j < xs.length → lat xs j = lat ys j) : xs = ys := by
  apply List.ext_getElem hl
  intro i h1 h2
  have := h i h1
  rwa [lat_eq h1, lat_eq h2] at this
theorem eqIntS_q (A A' : Option Addr) (n n' c c' B B' : Nat) (xs : List Int) (w : World) (h : RI w B A n xs) (h' : RI w B' A' n' xs) (hn : n ≤ 4294967296) :
    Calls Try.prog 24 #[.slice A n c, .slice A' n' c'] w fun e w' => e = .returned (.bool true) ∧ ∃ q, w' = w.drewN q :=
  (eqIntS_any A A' n n' c c' B B' xs xs w h h' hn (by have h1 := h.len; have h2 := h'.len; omega)).mono fun e w' ⟨he, q, hq⟩ => ⟨by rw [he]; simp, q, hq⟩
theorem eqIntSS_t (A A' : Option Addr) (n n' c c' B B' : Nat) (L : List (List Int)) (w : World) (h : RSS w B A n L) (h' : RSS w B' A' n' L) (hn : n ≤ 4294967296) (hr : ∀ l ∈ L, l.length ≤ 4294967296) :
    Calls Try.prog 25 #[.slice A n c, .slice A' n' c'] w fun e w' => e = .returned (.bool true) ∧ ∃ q, w' = w.drewN q := by
  obtain rfl : n' = n := h'.len.symm.trans h.len
  have hl := Lib.hid h.len
  have HR := Lib.hid hr
  go_enter Try.func25, Try.ntmps25
  go_wp2
  go_loopw [5] (fun i wr => ∃ k : Nat, k ≤ n' ∧ i = .int .i64 k ∧ ∃ q, wr = w.drewN q) (fun i _ => n' - (intOf i).toNat)
  case atStart => exact ⟨0, Nat.zero_le _, rfl, 0, rfl⟩
  case round =>
    obtain ⟨k, hk, rfl, q, rfl⟩ := hrel
    by_cases hlt : k < n'
    · obtain ⟨b, off, Ak, nk, ck, rfl, hb, hc, hri, _⟩ := h.at_ hlt
      obtain ⟨b', off', Ak', nk', ck', rfl, hb', hc', hri', _⟩ := h'.at_ hlt
      have hi1 : (0 : Int) ≤ (k : Int) := by omega
      have hi2 : (k : Int) < (n' : Int) := by omega
      have hnk : nk ≤ 4294967296 := by
        rw [← hri.len, lat_eq (by have := hl.out; omega)]
        exact HR.out _ (List.getElem_mem _)
      have hD : ∀ m, (w.drewN m).cell? ⟨b, off + k, none⟩ = some (.slice Ak nk ck) := fun _ => hc
      have hD' : ∀ m, (w.drewN m).cell? ⟨b', off' + k, none⟩ = some (.slice Ak' nk' ck') := fun _ => hc'
      go_wp2_with fail
      go_region_held3 (fun w' => w'.cell? ⟨b, off + k, none⟩ = some (.slice Ak nk ck) ∧ w'.cell? ⟨b', off' + k, none⟩ = some (.slice Ak' nk' ck') ∧ ∃ m, w' = w.drewN m)
        (first | exact ⟨hc, hc', q + 1, rfl⟩ | exact ⟨hc, hc', _, rfl⟩)
        (first | (go_at_call 24; refine (eqIntS_q Ak Ak' nk nk' ck ck' B B' _ _ (RV.drewN hri _) (RV.drewN hri' _) hnk).mono ?_; rintro e w' ⟨rfl, q2, rfl⟩))
      clear hD hD' hc hc'
      go_wp2
      go_roundw
      case rel => exact ⟨k + 1, by omega, by go_num, _, rfl⟩
      case measure => simp [intOf]; omega
    · obtain rfl : k = n' := by omega
      go_wp2
      go_ret
      exact ⟨rfl, _, rfl⟩
theorem infoII : (Try.prog.info? 24).map (fun i => (i.zero, i.size, i.bytes)) = some (some (.slice none 0 0), 1, 24) := by kernel_rfl
set_option maxHeartbeats 1000000 in
theorem toIntSS_any (A : Option Addr) (n c B : Nat) (L : List (List Int)) (w : World) (h : RSS w B A n L) (hB : B ≤ w.heap.size) (hn : n ≤ 1048576) (hr : ∀ l ∈ L, l.length ≤ 4294967296) :
    Calls Try.prog 22 #[.slice A n c] w (RetOwnSS w L) := by
  have hmk := run_make_row' (P := Try.prog) 36 24 (.slice none 0 0) 24 Try.underlying36 infoII rfl .i64 .i64 n (by omega) (by omega)
  have hl := Lib.hid h.len
  have HR := Lib.hid hr
  have HO : OwnV 24 (w.alloc (.cells (madeCells #[.slice none 0 0] n) 24)) w.heap.size (w.heap.size + 1) (some ⟨w.heap.size, 0, none⟩) n n (List.replicate n (.slice none 0 0)) := by
    have h1 := OwnV.new w 24 (madeCells #[.slice none 0 0] n) (by rw [size_madeCells]; simp only [maxLen]; omega)
    have h2 : (madeCells #[Value.slice none 0 0] n).toList = List.replicate n (.slice none 0 0) := by
      apply List.ext_getElem?
      intro i
      simp only [madeCells, Array.toList_map, List.getElem?_map, Array.toList_range, List.getElem?_replicate]
      by_cases h : i < n
      · rw [List.getElem?_range h]; simp [h, Nat.mod_one]
      · rw [List.getElem?_eq_none (by simpa using h)]; simp [h]
    rw [size_madeCells, h2] at h1
    exact h1
  go_enter Try.func22, Try.ntmps22
  go_wp2
  go_loopw [4] (fun i wr => ∃ k : Nat, k ≤ n ∧ i = .int .i64 k ∧ ∃ ps : List Rw, ps.length = k ∧ Hid (ps.map Rw.zs = L.take k) ∧ OwnV 24 wr w.heap.size (w.heap.size + 1) (some ⟨w.heap.size, 0, none⟩) n n (ps.map Rw.v ++ List.replicate (n - k) (.slice none 0 0)) ∧ Rws wr (w.heap.size + 1) wr.heap.size ps ∧ Below w.heap.size w wr ∧ w.heap.size + 1 ≤ wr.heap.size) (fun i _ => n - (intOf i).toNat)
  case atStart => exact ⟨0, Nat.zero_le _, rfl, [], rfl, Lib.hid rfl, HO, Rws.nil, (Below.refl _ _).alloc (Nat.le_refl _) _, by simp⟩
  case round =>
    obtain ⟨k, hk, rfl, ps, hps, hzs, hown, hrws, hbel, hsz⟩ := hrel
    clear HO
    by_cases hlt : k < n
    · obtain ⟨b, off, Ak, nk, ck, rfl, hb, hc0, hri, hck, _⟩ := (h.below hbel hB).at_ hlt
      have hnk : nk ≤ 4294967296 := by
        rw [← hri.len, lat_eq (by have := hl.out; omega)]
        exact HR.out _ (List.getElem_mem _)
      have hi1 : (0 : Int) ≤ (k : Int) := by omega
      have hi2 : (k : Int) < (n : Int) := by omega
      go_wp2_with fail
      refine (toIntS_any Ak nk ck B _ _ hri (by omega) hnk).mono ?_
      rintro e w1 ⟨A1, n1, c1, rfl, ho1, hb1⟩
      have s1 := hb1.size
      have own1 := hown.below hb1 (by omega)
      have rws1 := hrws.below hb1 (Nat.le_refl _)
      have K1 := bthen hbel hb1 hbel.size
      clear hown hrws hbel hb1 hc0
      obtain ⟨g, u, hg, _, _, _, hcell, hf⟩ := own1.cell hlt
      simp only [Option.some.injEq, Addr.mk.injEq, and_true] at hg
      subst hg
      have R := own1.set k (.slice A1 n1 c1)
      have hset : (ps.map Rw.v ++ List.replicate (n - k) (Value.slice none 0 0)).set k (Value.slice A1 n1 c1) = (ps ++ [(⟨A1, n1, c1, wr.heap.size, w1.heap.size, lat L k⟩ : Rw)]).map Rw.v ++ List.replicate (n - (k + 1)) (Value.slice none 0 0) := by
        have e : n - k = (n - (k + 1)) + 1 := by omega
        rw [e, List.replicate_succ, List.set_append_right _ _ (by simp; omega)]
        have : k - (ps.map Rw.v).length = 0 := by simp; omega
        rw [this]
        simp [Rw.v]
      rw [hset] at R
      have R2 : Rws (w1.setCell ⟨w.heap.size, k, none⟩ (.slice A1 n1 c1)) (w.heap.size + 1) w1.heap.size (ps ++ [⟨A1, n1, c1, wr.heap.size, w1.heap.size, lat L k⟩]) :=
        (rws1.snoc (p := ⟨A1, n1, c1, wr.heap.size, w1.heap.size, lat L k⟩) (Nat.le_refl _) hsz (Nat.le_refl _) s1 ho1).far (.inl (by simp)) _
      have K2 := K1.setCell (p := ⟨w.heap.size, k, none⟩) (Nat.le_refl _) (.slice A1 n1 c1)
      have hz2 : (ps ++ [(⟨A1, n1, c1, wr.heap.size, w1.heap.size, lat L k⟩ : Rw)]).map Rw.zs = L.take (k + 1) := by
        rw [take_lat (by have := hl.out; omega), List.map_append, hzs.out]; rfl
      have HZ2 := Lib.hid hz2
      clear own1 rws1 K1 hset hz2
      go_wp2
      go_roundw
      case rel => exact ⟨k + 1, by omega, by go_num, _, by simp; omega, HZ2, R, by simpa using R2, K2, by simp; omega⟩
      case measure => simp [intOf]; omega
    · obtain rfl : k = n := by omega
      rw [Nat.sub_self, List.replicate_zero, List.append_nil] at hown
      have HZ := hzs
      rw [List.take_of_length_le (by have := hl.out; omega)] at HZ
      go_wp2
      go_ret
      exact ⟨_, _, _, rfl, ⟨ps, w.heap.size, w.heap.size + 1, Nat.le_refl _, hsz, hown, HZ.out, fun p hp => .inr (hrws.1 p hp).1, hrws.mono (by omega) (Nat.le_refl _)⟩, hbel⟩
end Go.Proofs.Ytkmbblooofmnpaa
