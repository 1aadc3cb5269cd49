/- allLinks: the 48 links, sorted. -/
import Derived.Test.YtmibajhilbfecaaSort8
import Derived.Maps.AppendAt
namespace Go.Proofs.Ytmibajhilbfecaa
open Go.RowKit Go.Deep
def flatK (X : List LK) : List Value := X.flatMap fun l => [.int .i64 l.ln, .int .i64 l.rt, .int .i64 l.dr]
theorem flatK_snoc (X : List LK) (l : LK) : flatK (X ++ [l]) = flatK X ++ [.int .i64 l.ln, .int .i64 l.rt, .int .i64 l.dr] := by simp [flatK]
theorem flatK_at : ∀ (X : List LK) (i : Nat) (l : LK), X[i]? = some l → (flatK X)[i * 3]? = some (.int .i64 l.ln) ∧ (flatK X)[i * 3 + 1]? = some (.int .i64 l.rt) ∧ (flatK X)[i * 3 + 2]? = some (.int .i64 l.dr)
  | [], i, l, h => by simp at h
  | x :: X, 0, l, h => by simp at h; subst h; simp [flatK]
  | x :: X, i + 1, l, h => by
    have := flatK_at X i l (by simpa using h)
    have e : flatK (x :: X) = .int .i64 x.ln :: .int .i64 x.rt :: .int .i64 x.dr :: flatK X := by simp [flatK]
    rw [e, show (i + 1) * 3 = i * 3 + 1 + 1 + 1 by omega]
    simpa using this
def OwnK (w : World) (base : Nat) (v : Value) (n : Nat) (X : List LK) : Prop := w.ownsRow base 29 3 v n (flatK X)
theorem OwnK.row {w : World} {base n : Nat} {v : Value} {X : List LK} (h : OwnK w base v n X) (hn : 0 < n) (hl : X.length = n) : ∃ g c, v = .slice (some ⟨g, 0, none⟩) n c ∧ base ≤ g ∧ Row w g X := by
  obtain ⟨_, ⟨_, h0⟩ | ⟨g, cap, cur, rfl, hb, hg, hnc, _, hcs, htk⟩⟩ := h
  · omega
  · refine ⟨g, cap, rfl, hb, cur, hg, fun i l hi => ?_⟩
    have hin : i < n := by have := (List.getElem?_eq_some_iff.1 hi).1; omega
    have hf := flatK_at X i l hi
    rw [← htk] at hf
    have hq : ∀ j, j < n * 3 → (cur.toList.take (n * 3))[j]? = cur[j]? := fun j hj => by rw [List.getElem?_take, if_pos hj]; simp
    rw [hq _ (by omega), hq _ (by omega), hq _ (by omega)] at hf
    exact hf
theorem OwnK.block {w : World} {base n g : Nat} {v : Value} {X : List LK} (h : OwnK w base v n X) (hg : v.ownBlock = some g) : base ≤ g := by
  obtain ⟨_, ⟨rfl, _⟩ | ⟨g', cap, cur, rfl, hb, _⟩⟩ := h
  · simp [Value.ownBlock] at hg
  · simp [Value.ownBlock] at hg; omega
theorem OwnK.alloc {w : World} {base n : Nat} {v : Value} {X : List LK} (h : OwnK w base v n X) (o : Obj) : OwnK (w.alloc o) base v n X := by
  obtain ⟨h1, h2 | ⟨g, cap, cur, e, hb, hg, r⟩⟩ := h
  · exact ⟨h1, .inl h2⟩
  · exact ⟨h1, .inr ⟨g, cap, cur, e, hb, (Below.heap_alloc w o g (heap_lt hg)).trans hg, r⟩⟩
theorem ownK_nil (w : World) : OwnK (w.alloc (.cells #[] 29)) w.heap.size (.slice (some ⟨w.heap.size, 0, none⟩) 0 0) 0 [] :=
  ⟨rfl, .inr ⟨w.heap.size, 0, #[], rfl, Nat.le_refl _, heap_alloc_new w _, Nat.le_refl _, by simp [maxLen], rfl, rfl⟩⟩
def links0 : List LK := [4, 2, 1].flatMap fun ln => [1, 2, 3, 4].flatMap fun rt => [0, 1, 2, 3].map fun dr => ⟨ln, rt, dr⟩
def laneO (o : Nat) : Int := [4, 2, 1].getD o 0
theorem links_at : ∀ o, o < 3 → ∀ r, r < 4 → ∀ d, d < 4 → links0[16 * o + 4 * r + d]? = some ⟨laneO o, ((r + 1 : Nat) : Int), (d : Int)⟩ := by decide
theorem links_take {k : Nat} {l : LK} (h : links0[k]? = some l) : links0.take (k + 1) = links0.take k ++ [l] := by
  obtain ⟨h1, h2⟩ := List.getElem?_eq_some_iff.1 h
  rw [List.take_succ_eq_append_getElem h1, h2]
/-- What allLinks has made so far: k links; the literal [4 2 1] lies in block H + 1. -/
def ALs (w w' : World) (v : Value) (k : Nat) : Prop := OwnK w' w.heap.size v k (links0.take k) ∧ v.ownBlock ≠ some (w.heap.size + 1) ∧ w'.heap[w.heap.size + 1]? = some (.cells #[.int .i64 4, .int .i64 2, .int .i64 1] 3 (0, 0)) ∧ Below w.heap.size w w' ∧ w.heap.size + 2 ≤ w'.heap.size
theorem ALs.start (w : World) : ALs w ((w.alloc (.cells #[] 29)).alloc (.cells #[.int .i64 4, .int .i64 2, .int .i64 1] 3)) (.slice (some ⟨w.heap.size, 0, none⟩) 0 0) 0 := by
  refine ⟨by simpa using (ownK_nil w).alloc _, by simp [Value.ownBlock], ?_, ((Below.refl _ _).alloc (Nat.le_refl _) _).alloc (by simp) _, by simp⟩
  have := heap_alloc_new (w.alloc (.cells #[] 29)) (.cells #[.int .i64 4, .int .i64 2, .int .i64 1] 3)
  simpa using this
theorem ALs.lane {w w' : World} {v : Value} {k o : Nat} (h : ALs w w' v k) (ho : o < 3) : w'.cell? ⟨w.heap.size + 1, o, none⟩ = some (.int .i64 (laneO o)) := by
  rw [cell_in h.2.2.1]
  have : o = 0 ∨ o = 1 ∨ o = 2 := by omega
  rcases this with rfl | rfl | rfl <;> rfl
theorem ALs.step {w w1 w2 : World} {v v' : Value} {k : Nat} {l : LK} (h : ALs w w1 v k) (hl : links0[k]? = some l)
    (h2 : w2.ownsRow w.heap.size 29 3 v' (k + 1) (flatK (links0.take k) ++ [.int .i64 l.ln, .int .i64 l.rt, .int .i64 l.dr]))
    (h3 : (w1.alloc (.cells #[.int .i64 l.ln, .int .i64 l.rt, .int .i64 l.dr] 29)).grownBy w2 v.ownBlock)
    (h5 : v'.ownBlock = v.ownBlock ∨ v'.ownBlock = some (w1.alloc (.cells #[.int .i64 l.ln, .int .i64 l.rt, .int .i64 l.dr] 29)).heap.size) : ALs w w2 v' (k + 1) := by
  obtain ⟨a1, a2, a3, a4, a5⟩ := h
  have hs := h3.size
  simp only [World.size_alloc] at hs
  have hB : Below w.heap.size (w1.alloc (.cells #[.int .i64 l.ln, .int .i64 l.rt, .int .i64 l.dr] 29)) w2 := ⟨h3.os, h3.tape, h3.output, h3.size, fun j hj => h3.block j (by simp; omega) (fun e => by have := a1.block e.symm; omega)⟩
  refine ⟨?_, ?_, ?_, (a4.alloc (by omega) _).trans hB, by omega⟩
  · show w2.ownsRow _ _ _ _ _ _
    rw [links_take hl, flatK_snoc]; exact h2
  · rcases h5 with h5 | h5
    · rw [h5]; exact a2
    · rw [h5]; simp; omega
  · rw [h3.block _ (by simp; omega) (fun e => a2 e.symm), Below.heap_alloc _ _ _ (by omega)]; exact a3
theorem infoLink : (Try.prog.info? 29).map (fun i => (i.zero, i.size, i.bytes)) = some (some (.agg #[.int .i64 0, .int .i64 0, .int .i64 0]), 3, 24) := by kernel_rfl
set_option maxHeartbeats 2000000 in
set_option maxRecDepth 100000 in
theorem allLinks_any (w : World) : Calls Try.prog 55 #[] w fun e w' => ∃ g c, e = .returned (.slice (some ⟨g, 0, none⟩) 48 c) ∧ w.heap.size ≤ g ∧ RowN w' g (stF links0) 48 ∧ Below w.heap.size w w' := by
  obtain ⟨il, hil, hz0, hsz, hby⟩ := info_parts infoLink
  have H0 := ownK_nil w
  have IL := Lib.hid hil
  have HZ := Lib.hid hz0
  have HS := Lib.hid hsz
  have HY := Lib.hid hby
  clear hil hz0 hsz hby
  go_enter Try.func55, Try.ntmps55
  go_wp2
  have HS0 := ALs.start w
  clear H0
  go_loopw [1, 3, 4, 5, 9] (fun v _ _ _ i wr => ∃ o : Nat, o ≤ 3 ∧ i = .int .i64 o ∧ ALs w wr v (16 * o)) (fun _ _ _ _ i _ => 3 - (intOf i).toNat)
  case atStart => exact ⟨0, by omega, rfl, HS0⟩
  case round =>
    rename World => w1
    obtain ⟨o, ho, rfl, hal⟩ := hrel
    clear HS0
    by_cases ho3 : o < 3
    · have hlane := hal.lane ho3
      have o0 : (0 : Int) ≤ (o : Int) := by omega
      have o1 : (o : Int) < 3 := by omega
      obtain ⟨K0, hK0⟩ : ∃ K0, Hid (K0 = 16 * o) := ⟨_, Lib.hid rfl⟩
      rw [← hK0.out] at hal
      go_wp2
      go_loopw [1, 4, 5] (fun v r _ wr => ∃ (rt K : Nat), 1 ≤ rt ∧ rt ≤ 5 ∧ r = .int .i64 rt ∧ Hid (K + 4 = 16 * o + 4 * rt) ∧ ALs w wr v K) (fun _ r _ _ => 5 - (intOf r).toNat)
      case atStart => exact ⟨1, K0, by omega, by omega, by first | rfl | go_num, Lib.hid (by have := hK0.out; omega), hal⟩
      case round =>
        rename World => w2
        obtain ⟨rt, K, hr1, hr5, rfl, hK, hal2⟩ := hrel
        clear hal hlane
        by_cases hr4 : rt ≤ 4
        · have hr4' : (rt : Int) ≤ 4 := by omega
          go_wp2
          go_loopw [1, 5] (fun v d wr => ∃ (dr J : Nat), dr ≤ 4 ∧ d = .int .i64 dr ∧ Hid (J = K + dr) ∧ ALs w wr v J) (fun _ d _ => 4 - (intOf d).toNat)
          case atStart => exact ⟨0, K, by omega, by first | rfl | go_num, Lib.hid rfl, hal2⟩
          case round =>
            rename World => w3
            obtain ⟨dr, J, hd4, rfl, hJ, hal3⟩ := hrel
            clear hal2
            by_cases hd3 : dr ≤ 3
            · have hd3' : (dr : Int) ≤ 3 := by omega
              have hl := links_at o ho3 (rt - 1) (by omega) dr (by omega)
              have eJ : 16 * o + 4 * (rt - 1) + dr = J := by have h1 := hK.out; have h2 := hJ.out; omega
              have eR : ((rt - 1 + 1 : Nat) : Int) = (rt : Int) := by omega
              rw [eJ, eR] at hl
              have HL := Lib.hid hl
              have hs3 := hal3.2.2.2.2
              have HO : OwnK (w3.alloc (.cells #[.int .i64 (laneO o), .int .i64 (rt : Int), .int .i64 (dr : Int)] 29)) w.heap.size u1 J (links0.take J) := hal3.1.alloc _
              have HN : Hid (∀ j u, ([.int .i64 (laneO o), .int .i64 (rt : Int), .int .i64 (dr : Int)] : List Value)[j]? = some u → (w3.alloc (.cells #[.int .i64 (laneO o), .int .i64 (rt : Int), .int .i64 (dr : Int)] 29)).cell? ((⟨w3.heap.size, 0, none⟩ : Addr).add j) = some u) := Lib.hid fun j u hu => by
                have hb := heap_alloc_new w3 (.cells #[.int .i64 (laneO o), .int .i64 (rt : Int), .int .i64 (dr : Int)] 29)
                have h2 := cell_in hb j
                by_cases h0 : j = 0
                · subst h0; rw [show ((⟨w3.heap.size, 0, none⟩ : Addr).add 0) = ⟨w3.heap.size, 0, none⟩ by simp [Addr.add], h2]; simpa using hu
                · rw [show ((⟨w3.heap.size, 0, none⟩ : Addr).add j) = ⟨w3.heap.size, j, none⟩ by simp [Addr.add, h0], h2]; simpa using hu
              have hJb : J ≤ 48 := by have h1 := hK.out; have h2 := hJ.out; omega
              clear hl eJ eR
              go_wp2_with (at_builtin; refine wpList_append_own_at _ rfl _ _ _ rfl w.heap.size 29 il _ 3 24 Try.underlying76 IL.out HZ.out HS.out HY.out (by rfl) (by omega) u1 J _ rfl HO ⟨w3.heap.size, 0, none⟩ 1 _ [.int .i64 (laneO o), .int .i64 (rt : Int), .int .i64 (dr : Int)] rfl (by rfl) HN.out (by simp [Value.oneCell']) (by simp only [maxLen]; omega) (by omega) (by simp; omega) ?_; intro v' w4 h2 h3 h4 h5)
              have R := hal3.step HL.out h2 h3 h5
              clear hal3 h2 h3 h4 h5 HO HN
              go_roundw
              case rel => exact ⟨dr + 1, J + 1, by omega, by go_num, Lib.hid (by have := hJ.out; omega), R⟩
              case measure => simp [intOf]; omega
            · obtain rfl : dr = 4 := by omega
              go_wp2
              go_roundw
              case rel => exact ⟨rt + 1, J, by omega, by omega, by go_num, Lib.hid (by have h1 := hK.out; have h2 := hJ.out; omega), hal3⟩
              case measure => simp [intOf]; omega
        · obtain rfl : rt = 5 := by omega
          go_wp2
          go_roundw
          case rel => exact ⟨o + 1, by omega, by go_num, by have h1 := hK.out; rw [show 16 * (o + 1) = K by omega]; exact hal2⟩
          case measure => simp [intOf]; omega
    · obtain rfl : o = 3 := by omega
      obtain ⟨g, c, hv, hg, hrow⟩ := hal.1.row (by omega) (by rfl)
      subst hv
      have HB := hal.2.2.2.1
      have hrn : RowN w1 g links0 48 := ⟨hrow, rfl⟩
      have hs1 := hal.2.2.2.2
      clear hal hrow
      go_wp2_with fail
      refine (sortStable_any g c links0 _ hrn).mono ?_
      rintro e w2 ⟨rfl, h2, o2⟩
      go_wp2
      go_ret
      exact ⟨g, c, rfl, hg, h2, HB.trans (o2.below hg (by omega))⟩
end Go.Proofs.Ytmibajhilbfecaa
