/- TrainLink, the program's: the first of the sorted links that works. -/
import Derived.Test.YtmibajhilbfecaaLinks2
import Derived.Test.YtmibajhilbfecaaCable2
namespace Go.Proofs.Ytmibajhilbfecaa
open Go.RowKit Go.Deep
def wK (q s : List Int) (l : LK) : Bool := linkW q s l.ln l.rt l.dr
/-- The first link of a list that works, and the number of links tried. -/
def goT (q s : List Int) : List LK → Nat → LK × Nat × Bool
  | [], n => (⟨0, 0, 0⟩, n, false)
  | l :: L, n => if wK q s l then (l, n + 1, true) else goT q s L (n + 1)
def trainF (q s : List Int) : LK × Nat × Bool := if cableB q s then goT q s linksS 0 else (⟨0, 0, 0⟩, 0, false)
def vTr (r : LK × Nat × Bool) : Value := .tuple #[.agg #[.int .i64 r.1.ln, .int .i64 r.1.rt, .int .i64 r.1.dr], .int .i64 (r.2.1 : Nat), .bool r.2.2]
theorem drop_lat {X : List LK} {k : Nat} (h : k < X.length) : X.drop k = lat X k :: X.drop (k + 1) := by
  rw [List.drop_eq_getElem_cons h]
  congr 1
  simp [lat, h]
theorem set3 {w : World} {g : Nat} {a b c : Value} {T : TypeId} (h : w.heap[g]? = some (.cells #[a, b, c] T (0, 0))) (x y z : Value) :
    (((w.setCell ⟨g, 0, none⟩ x).setCell ⟨g, 1, none⟩ y).setCell ⟨g, 2, none⟩ z).heap[g]? = some (.cells #[x, y, z] T (0, 0)) := by
  have h1 := heap_setCell_same (j := 0) h x
  have h2 := heap_setCell_same (j := 1) h1 y
  have h3 := heap_setCell_same (j := 2) h2 z
  rw [h3]; simp
set_option maxHeartbeats 2000000 in
set_option maxRecDepth 100000 in
theorem trainLink_i (Q S : Option Addr) (nq cq ns cs B : Nat) (q s : List Int) (w : World) (h : RC w B Q nq q S ns s) (hB : B ≤ w.heap.size) (hnq : nq ≤ 4294967296) (hns : ns ≤ 4294967296) :
    Calls Try.prog 17 #[.agg #[.slice Q nq cq, .slice S ns cs]] w fun e w' => e = .returned (vTr (trainF q s)) ∧ Below w.heap.size w w' := by
  obtain ⟨w0, hw0⟩ : ∃ w0, w0 = (w.alloc (.cells #[.slice Q nq cq, .slice S ns cs] 26)).alloc (.cells #[.int .i64 0, .int .i64 0, .int .i64 0] 29) := ⟨_, rfl⟩
  have K0 : Below w.heap.size w w0 := by rw [hw0]; exact ((Below.refl w.heap.size w).alloc (Nat.le_refl _) _).alloc (by simp) _
  have G1 : Hid (w0.heap[w.heap.size + 1]? = some (.cells #[.int .i64 0, .int .i64 0, .int .i64 0] 29)) := Lib.hid (by
    rw [hw0]
    have := heap_alloc_new (w.alloc (.cells #[.slice Q nq cq, .slice S ns cs] 26)) (.cells #[.int .i64 0, .int .i64 0, .int .i64 0] 29)
    simpa using this)
  have G0 : Hid (w0.heap[w.heap.size]? = some (.cells #[.slice Q nq cq, .slice S ns cs] 26)) := Lib.hid (by rw [hw0, Below.heap_alloc _ _ _ (by simp), heap_alloc_new])
  have hs0 : w0.heap.size = w.heap.size + 2 := by rw [hw0]; simp
  have HS0 := Lib.hid hs0
  clear hs0
  go_enter Try.func17, Try.ntmps17
  go_wp2_with fail
  rw [← hw0]
  clear hw0
  have hC0 := h.below K0 hB
  refine (cableOk_i Q S nq cq ns cs B q s w0 hC0 (by have := HS0.out; omega) hnq hns).mono ?_
  cases hcb : cableB q s
  · have HF : Hid (trainF q s = (⟨0, 0, 0⟩, 0, false)) := Lib.hid (by simp [trainF, hcb])
    rintro e w1 ⟨rfl, hb1⟩
    have g1 := (hb1.block _ (by have := HS0.out; omega)).trans G1.out
    have K1 := K0.trans (hb1.mono (by have := HS0.out; omega))
    have hs1 := hb1.size
    obtain ⟨a1, a2, a3, b1, b2, b3⟩ := cells3 g1
    obtain ⟨j1, j2, j3, _⟩ := cells3 (set3 g1 (.int .i64 0) (.int .i64 0) (.int .i64 0))
    clear hb1 g1 hcb
    go_wp2
    refine bodyPost_ret (v := .tuple #[.agg #[.int .i64 0, .int .i64 0, .int .i64 0], .int .i64 0, .bool false]) (by simp [results, Try.results17, go_sem, j1, j2, j3]) rfl ⟨by rw [HF.out]; rfl, ?_⟩
    have hle : w.heap.size ≤ w.heap.size + 1 := by omega
    first
      | exact K1
      | exact ((K1.setCell hle _).setCell hle _).setCell hle _
  · have HF : Hid (trainF q s = goT q s linksS 0) := Lib.hid (by simp [trainF, hcb])
    rintro e w1 ⟨rfl, hb1⟩
    have g1 := Lib.hid ((hb1.block _ (by have := HS0.out; omega)).trans G1.out)
    have g0 := Lib.hid ((hb1.block _ (by have := HS0.out; omega)).trans G0.out)
    have K1 := K0.trans (hb1.mono (by have := HS0.out; omega))
    have hs1 : w.heap.size + 2 ≤ w1.heap.size := by have h1 := hb1.size; have h2 := HS0.out; omega
    clear hb1 hcb K0 G0 G1 hC0 HS0
    go_wp2_with fail
    refine (allLinks_any _).mono ?_
    rintro e w2 ⟨g, c, rfl, hg, hrn, hb2⟩
    rw [st_links] at hrn
    have g12 := Lib.hid ((hb2.block _ (by omega)).trans g1.out)
    have g02 := Lib.hid ((hb2.block _ (by omega)).trans g0.out)
    have K2 := K1.trans (hb2.mono (by omega))
    have hs2 := hb2.size
    have hgl := hrn.1.lt
    have HL48 := Lib.hid linksS_len
    clear g1 g0 hb2 K1
    go_wp2
    go_loopw [6, 7, 15] (fun _ _ i wr => ∃ k : Nat, k ≤ 48 ∧ i = .int .i64 k ∧ Row wr g linksS ∧ Hid (wr.heap[w.heap.size + 1]? = some (.cells #[.int .i64 0, .int .i64 0, .int .i64 0] 29)) ∧ Hid (wr.heap[w.heap.size]? = some (.cells #[.slice Q nq cq, .slice S ns cs] 26)) ∧ Hid (goT q s (linksS.drop k) k = trainF q s) ∧ Below w.heap.size w wr ∧ w2.heap.size ≤ wr.heap.size) (fun _ _ i _ => 48 - (intOf i).toNat)
    case atStart => exact ⟨0, by omega, rfl, hrn.1, g12, g02, Lib.hid HF.out.symm, K2, Nat.le_refl _⟩
    case round =>
      rename World => w3
      obtain ⟨k, hk, rfl, hr, g13, g03, hG, K3, hs3⟩ := hrel
      clear g12 g02 hrn
      by_cases hlt : k < 48
      · have hkl : k < linksS.length := by have := HL48.out; omega
        obtain ⟨c1, c2, c3⟩ := hr.cell hkl
        obtain ⟨l, hl⟩ : ∃ l, l = lat linksS k := ⟨_, rfl⟩
        rw [← hl] at c1 c2 c3
        obtain ⟨d1, d2, _, _⟩ := cells2 g03.out
        have k0 : (0 : Int) ≤ (k : Int) := by omega
        have k1 : (k : Int) < 48 := by omega
        have HD := Lib.hid (drop_lat hkl)
        have HLL := Lib.hid hl
        clear hl hkl
        have n1 : ¬ w3.heap.size = w.heap.size := by omega
        have n2 : ¬ w.heap.size = w3.heap.size := by omega
        have D1 : ∀ o, (w3.alloc o).cell? ⟨w.heap.size, 0, none⟩ = some (.slice Q nq cq) := fun o => (World.cell?_alloc_lt w3 o ⟨w.heap.size, 0, none⟩ (by show w.heap.size < _; omega)).trans d1
        have D2 : ∀ o, (w3.alloc o).cell? ⟨w.heap.size, 1, none⟩ = some (.slice S ns cs) := fun o => (World.cell?_alloc_lt w3 o ⟨w.heap.size, 1, none⟩ (by show w.heap.size < _; omega)).trans d2
        have NEW := Lib.hid (heap_alloc_new w3 (.cells #[.int .i64 l.ln, .int .i64 l.rt, .int .i64 l.dr] 29))
        have g14 : Hid ((w3.alloc (.cells #[.int .i64 l.ln, .int .i64 l.rt, .int .i64 l.dr] 29)).heap[w.heap.size + 1]? = some (.cells #[.int .i64 0, .int .i64 0, .int .i64 0] 29)) := Lib.hid ((Below.heap_alloc w3 _ _ (by omega)).trans g13.out)
        have g04 : Hid ((w3.alloc (.cells #[.int .i64 l.ln, .int .i64 l.rt, .int .i64 l.dr] 29)).heap[w.heap.size]? = some (.cells #[.slice Q nq cq, .slice S ns cs] 26)) := Lib.hid ((Below.heap_alloc w3 _ _ (by omega)).trans g03.out)
        have hr4 : Row (w3.alloc (.cells #[.int .i64 l.ln, .int .i64 l.rt, .int .i64 l.dr] 29)) g linksS := hr.below ((Below.refl w3.heap.size w3).alloc (Nat.le_refl _) _) hr.lt
        have K4 := K3.alloc (show w.heap.size ≤ w3.heap.size by omega) (.cells #[.int .i64 l.ln, .int .i64 l.rt, .int .i64 l.dr] 29)
        have hgl3 := hr.lt
        have hC4 := h.below K4 hB
        cases hw : linkW q s l.ln l.rt l.dr
        · have HN : Hid (goT q s (linksS.drop (k + 1)) (k + 1) = trainF q s) := Lib.hid (by
            have h1 := hG.out
            rw [HD.out, goT, if_neg (by rw [← HLL.out]; simp only [wK, hw]; decide)] at h1
            exact h1)
          clear hG HD HLL
          go_wp2_with fail
          refine (linkWorks_i Q S nq cq ns cs B q s l.ln l.rt l.dr _ hC4 (by simp; omega) hnq hns).mono ?_
          rw [hw]
          rintro e w5 ⟨rfl, hb5⟩
          have s5 := hb5.size
          simp only [World.size_alloc] at s5
          have hr5 := hr4.below hb5 (by simp; omega)
          have g15 := Lib.hid ((hb5.block _ (by simp; omega)).trans g14.out)
          have g05 := Lib.hid ((hb5.block _ (by simp; omega)).trans g04.out)
          have K5 := bthen K4 hb5 (by simp; omega)
          clear hw hr hr4 g13 g03 g14 g04 K3 K4 hb5 D1 D2 NEW c1 c2 c3 d1 d2 n1 n2
          go_wp2
          go_roundw
          case rel => exact ⟨k + 1, by omega, by go_num, hr5, g15, g05, HN, K5, by omega⟩
          case measure => simp [intOf]; omega
        · have HN : Hid (trainF q s = (l, k + 1, true)) := Lib.hid (by
            have h1 := hG.out
            rw [HD.out, goT, if_pos (by rw [← HLL.out]; exact hw), ← HLL.out] at h1
            exact h1.symm)
          clear hG HD HLL
          go_wp2_with fail
          refine (linkWorks_i Q S nq cq ns cs B q s l.ln l.rt l.dr _ hC4 (by simp; omega) hnq hns).mono ?_
          rw [hw]
          rintro e w5 ⟨rfl, hb5⟩
          have s5 := hb5.size
          simp only [World.size_alloc] at s5
          have g15 := (hb5.block _ (by simp; omega)).trans g14.out
          have g75 := (hb5.block _ (by simp)).trans NEW.out
          have K5 := bthen K4 hb5 (by simp; omega)
          obtain ⟨a1, a2, a3, b1, b2, b3⟩ := cells3 g15
          obtain ⟨f1, f2, f3, _⟩ := cells3 g75
          obtain ⟨j1, j2, j3, _⟩ := cells3 (set3 g15 (.int .i64 l.ln) (.int .i64 l.rt) (.int .i64 l.dr))
          clear hw hr hr4 g13 g03 g14 g04 K3 K4 hb5 D1 D2 NEW c1 c2 c3 d1 d2 n1 n2 g15 g75
          go_wp2
          refine bodyPost_ret (v := .tuple #[.agg #[.int .i64 l.ln, .int .i64 l.rt, .int .i64 l.dr], .int .i64 ((k : Int) + 1), .bool true]) (by simp [results, Try.results17, go_sem, j1, j2, j3]) rfl ⟨by rw [HN.out]; rfl, ?_⟩
          have hle : w.heap.size ≤ w.heap.size + 1 := by omega
          exact ((K5.setCell hle _).setCell hle _).setCell hle _
      · obtain rfl : k = 48 := by omega
        have HE : Hid (trainF q s = (⟨0, 0, 0⟩, 48, false)) := Lib.hid (by rw [← hG.out, List.drop_eq_nil_of_le (by have := HL48.out; omega)]; rfl)
        obtain ⟨a1, a2, a3, b1, b2, b3⟩ := cells3 g13.out
        obtain ⟨j1, j2, j3, _⟩ := cells3 (set3 g13.out (.int .i64 0) (.int .i64 0) (.int .i64 0))
        go_wp2
        refine bodyPost_ret (v := .tuple #[.agg #[.int .i64 0, .int .i64 0, .int .i64 0], .int .i64 48, .bool false]) (by simp [results, Try.results17, go_sem, j1, j2, j3]) rfl ⟨by rw [HE.out]; rfl, ?_⟩
        have hle : w.heap.size ≤ w.heap.size + 1 := by omega
        first
          | exact K3
          | exact ((K3.setCell hle _).setCell hle _).setCell hle _
end Go.Proofs.Ytmibajhilbfecaa
