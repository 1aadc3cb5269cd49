/- insertionSort over a row of links: it does what its mirror does. -/
import Derived.Test.YtmibajhilbfecaaSort2
import Derived.Deep.QuietTactic
import Derived.BigQuiet
namespace Go.Proofs.Ytmibajhilbfecaa
open Go.RowKit Go.Deep
/-- The mirror of insertionSort's inner loop: element j goes down to a at most. -/
def insIn (a : Nat) : Nat → List LK → List LK
  | 0, L => L
  | j + 1, L => if a < j + 1 ∧ cmpK (lat L (j + 1)) (lat L j) < 0 then insIn a j (swap2 L (j + 1) j) else L
def insOut (a : Nat) : Nat → Nat → List LK → List LK
  | 0, _, L => L
  | n + 1, i, L => insOut a n (i + 1) (insIn a i L)
def insS (L : List LK) (a b : Nat) : List LK := insOut a (b - (a + 1)) (a + 1) L
theorem insIn_len (a : Nat) : ∀ (j : Nat) (L : List LK), (insIn a j L).length = L.length
  | 0, _ => rfl
  | j + 1, L => by
    unfold insIn
    split
    · rw [insIn_len a j, swap2_len]
    · rfl
theorem insIn_stop {a j q : Nat} {L : List LK} (h : j = q + 1) (hc : ¬ cmpK (lat L j) (lat L q) < 0) : insIn a j L = L := by
  subst h; unfold insIn; rw [if_neg (fun h => hc h.2)]
theorem insIn_low {a j : Nat} {L : List LK} (h : ¬ a < j) : insIn a j L = L := by
  cases j with
  | zero => rfl
  | succ j => unfold insIn; rw [if_neg (fun h' => h h'.1)]
theorem insIn_go {a j q : Nat} {L : List LK} (h : j = q + 1) (ha : a < j) (hc : cmpK (lat L j) (lat L q) < 0) : insIn a j L = insIn a q (swap2 L j q) := by
  subst h; rw [insIn, if_pos ⟨ha, hc⟩]
/-- Two elements of a row, cell by cell. -/
def RR (w : World) (g i j : Nat) (x y : LK) : Prop :=
  (w.cell? ⟨g, i * 3, none⟩ = some (.int .i64 x.ln) ∧ w.cell? ⟨g, i * 3 + 1, none⟩ = some (.int .i64 x.rt) ∧ w.cell? ⟨g, i * 3 + 2, none⟩ = some (.int .i64 x.dr)) ∧
  (w.cell? ⟨g, j * 3, none⟩ = some (.int .i64 y.ln) ∧ w.cell? ⟨g, j * 3 + 1, none⟩ = some (.int .i64 y.rt) ∧ w.cell? ⟨g, j * 3 + 2, none⟩ = some (.int .i64 y.dr))
theorem Row.rr {w : World} {g : Nat} {L : List LK} (h : Row w g L) {i j : Nat} (hi : i < L.length) (hj : j < L.length) : RR w g i j (lat L i) (lat L j) := ⟨h.cell hi, h.cell hj⟩
theorem RR.below {w w' : World} {B g i j : Nat} {x y : LK} (h : RR w g i j x y) (hb : Below B w w') (hg : g < B) : RR w' g i j x y := by
  obtain ⟨⟨a, b, c⟩, d, e, f⟩ := h
  exact ⟨⟨(hb.cell hg).trans a, (hb.cell hg).trans b, (hb.cell hg).trans c⟩, (hb.cell hg).trans d, (hb.cell hg).trans e, (hb.cell hg).trans f⟩
set_option maxHeartbeats 4000000 in
set_option maxRecDepth 100000 in
theorem insertion_any (g c a b : Nat) (L : List LK) (w : World) (h : Row w g L) (hb : b ≤ L.length) (hL : L.length ≤ 1000) (ha : a ≤ 1000) :
    Calls Try.prog 98 #[.slice (some ⟨g, 0, none⟩) L.length c, .int .i64 a, .int .i64 b, .func (.func 84) #[] #[]] w fun e w' => e = .returned (.tuple #[]) ∧ Row w' g (insS L a b) ∧ Off g (g + 1) w w' := by
  have hlt0 := h.lt
  go_enter Try.func98, Try.ntmps98
  go_wp2
  go_loopw [8] (fun i wr => ∃ (k : Nat) (M : List LK), a + 1 ≤ k ∧ k ≤ 1001 ∧ i = .int .i64 k ∧ Row wr g M ∧ Hid (M.length = L.length) ∧ Hid (insOut a (b - k) k M = insS L a b) ∧ Off g (g + 1) w wr) (fun i _ => 1002 - (intOf i).toNat)
  case atStart => exact ⟨a + 1, L, Nat.le_refl _, by omega, by go_num, h, Lib.hid rfl, Lib.hid rfl, Off.refl _ _ _⟩
  case round =>
    rename World => w1
    obtain ⟨k, M, hk1, hk2, rfl, hr, hml, hO, ho⟩ := hrel
    by_cases hkb : k < b
    · have HSTEP : Hid (insOut a (b - (k + 1)) (k + 1) (insIn a k M) = insS L a b) := Lib.hid (by
        have := hO.out
        rw [show b - k = (b - (k + 1)) + 1 by omega] at this
        exact this)
      have hkbi : (k : Int) < (b : Int) := by omega
      clear hO
      go_wp2
      go_loopw [9] (fun v wr => ∃ (j : Nat) (X : List LK), j ≤ k ∧ v = .int .i64 j ∧ Row wr g X ∧ Hid (X.length = L.length) ∧ Hid (insIn a j X = insIn a k M) ∧ Off g (g + 1) w wr) (fun v _ => (intOf v).toNat)
      case atStart => exact ⟨k, M, Nat.le_refl _, rfl, hr, hml, Lib.hid rfl, ho⟩
      case round =>
        rename World => w2
        obtain ⟨j, X, hj, rfl, hr2, hxl, hI, ho2⟩ := hrel
        clear hr ho
        have hl2 := hr2.lt
        by_cases hja : a < j
        · obtain ⟨q, hq⟩ : ∃ q, Hid (j = q + 1) := ⟨j - 1, Lib.hid (by omega)⟩
          have hqj : q < j := by have := hq.out; omega
          have hjL : j < L.length := by omega
          have hjX : j < X.length := by rw [hxl.out]; omega
          have hqX : q < X.length := by omega
          have hrr := hr2.rr hjX hqX
          have e1 : IntKind.i64.wrap ((j : Int) - 1) = (q : Int) := by rw [IntKind.wrap_i64]; have := hq.out; omega
          have e3 : IntKind.i64.wrap (q : Int) = (q : Int) := IntWalk.i64_in _ (by omega)
          have qN : q < L.length := by omega
          have e2 : (j : Int) - 1 = (q : Int) := by have := hq.out; omega
          have j0 : (0 : Int) ≤ (j : Int) := by omega
          have j1 : (j : Int) < (L.length : Int) := by omega
          have q0 : (0 : Int) ≤ (q : Int) := by omega
          have q1 : (q : Int) < (L.length : Int) := by omega
          have hjai : (a : Int) < (j : Int) := by omega
          have hrd : RR w2.drew g j q (lat X j) (lat X q) := hrr
          by_cases hc : cmpK (lat X j) (lat X q) < 0
          · have HGO := Lib.hid ((insIn_go hq.out hja hc).symm.trans hI.out)
            clear hrr
            go_wp2_with fail
            go_region_held3 (fun w' => (w'.cell? ⟨g, j * 3, none⟩ = some (.int .i64 (lat X j).ln) ∧ w'.cell? ⟨g, j * 3 + 1, none⟩ = some (.int .i64 (lat X j).rt) ∧ w'.cell? ⟨g, j * 3 + 2, none⟩ = some (.int .i64 (lat X j).dr)) ∧ (w'.cell? ⟨g, q * 3, none⟩ = some (.int .i64 (lat X q).ln) ∧ w'.cell? ⟨g, q * 3 + 1, none⟩ = some (.int .i64 (lat X q).rt) ∧ w'.cell? ⟨g, q * 3 + 2, none⟩ = some (.int .i64 (lat X q).dr)))
              (first | exact hrd | exact hrd.below hb3 hl2)
              (first | (go_at_call 84; refine (cmpK_any (lat X j) (lat X q) _).mono ?_; rintro e w3 ⟨rfl, hb3⟩))
            have s3 := hb3.size
            have hr3 : Row w3 g X := hr2.drew.below hb3 hl2
            have ho3 : Off g (g + 1) w w3 := ho2.drew.trans (Off.of_below hb3)
            clear hrd hr2 ho2 hb3
            rename_i HS
            clear HS
            obtain ⟨⟨c1, c2, c3⟩, c4, c5, c6⟩ := hr3.rr hjX hqX
            have fz := hr3.unfrozen
            have d00 : ¬ j * 3 = q * 3 := by omega
            have e00 : ¬ q * 3 = j * 3 := by omega
            have d01 : ¬ j * 3 = q * 3 + 1 := by omega
            have e01 : ¬ q * 3 + 1 = j * 3 := by omega
            have d02 : ¬ j * 3 = q * 3 + 2 := by omega
            have e02 : ¬ q * 3 + 2 = j * 3 := by omega
            have d10 : ¬ j * 3 + 1 = q * 3 := by omega
            have e10 : ¬ q * 3 = j * 3 + 1 := by omega
            have d11 : ¬ j * 3 + 1 = q * 3 + 1 := by omega
            have e11 : ¬ q * 3 + 1 = j * 3 + 1 := by omega
            have d12 : ¬ j * 3 + 1 = q * 3 + 2 := by omega
            have e12 : ¬ q * 3 + 2 = j * 3 + 1 := by omega
            have d20 : ¬ j * 3 + 2 = q * 3 := by omega
            have e20 : ¬ q * 3 = j * 3 + 2 := by omega
            have d21 : ¬ j * 3 + 2 = q * 3 + 1 := by omega
            have e21 : ¬ q * 3 + 1 = j * 3 + 2 := by omega
            have d22 : ¬ j * 3 + 2 = q * 3 + 2 := by omega
            have e22 : ¬ q * 3 + 2 = j * 3 + 2 := by omega
            go_wp2_with fail
            go_region_with (fail)
            all_goals
              have R1 := hr3.swW hjX hqX
              have O1 := ho3.swW j q (lat X j) (lat X q)
              clear hr3 ho3 fz e1 e3 c1 c2 c3 c4 c5 c6
              go_wp2
              go_roundw
              case rel => exact ⟨q, _, by omega, by first | rfl | go_num, R1, Lib.hid (by rw [swap2_len]; exact hxl.out), HGO, O1⟩
              case measure => simp [intOf]; omega
          · have HST : Hid (insOut a (b - (k + 1)) (k + 1) X = insS L a b) := Lib.hid (by have h1 := HSTEP.out; rw [← hI.out, insIn_stop hq.out hc] at h1; exact h1)
            clear hrr
            go_wp2_with fail
            go_region_held3 (fun w' => (w'.cell? ⟨g, j * 3, none⟩ = some (.int .i64 (lat X j).ln) ∧ w'.cell? ⟨g, j * 3 + 1, none⟩ = some (.int .i64 (lat X j).rt) ∧ w'.cell? ⟨g, j * 3 + 2, none⟩ = some (.int .i64 (lat X j).dr)) ∧ (w'.cell? ⟨g, q * 3, none⟩ = some (.int .i64 (lat X q).ln) ∧ w'.cell? ⟨g, q * 3 + 1, none⟩ = some (.int .i64 (lat X q).rt) ∧ w'.cell? ⟨g, q * 3 + 2, none⟩ = some (.int .i64 (lat X q).dr)))
              (first | exact hrd | exact hrd.below hb3 hl2)
              (first | (go_at_call 84; refine (cmpK_any (lat X j) (lat X q) _).mono ?_; rintro e w3 ⟨rfl, hb3⟩))
            have s3 := hb3.size
            have hr3 : Row w3 g X := hr2.drew.below hb3 hl2
            have ho3 : Off g (g + 1) w w3 := ho2.drew.trans (Off.of_below hb3)
            clear hrd hr2 ho2 hb3 e1 e3
            rename_i HS
            clear HS
            go_wp2
            go_roundw
            case rel => exact ⟨k + 1, X, by omega, by omega, by go_num, hr3, hxl, HST, ho3⟩
            case measure => simp [intOf]; omega
        · have HST : Hid (insOut a (b - (k + 1)) (k + 1) X = insS L a b) := Lib.hid (by have h1 := HSTEP.out; rw [← hI.out, insIn_low hja] at h1; exact h1)
          have hja' : ¬ (a : Int) < (j : Int) := by omega
          have hjad : decide (a < j) = false := decide_eq_false hja
          have hjle : j ≤ a := by omega
          go_wp2_with fail
          go_quiet (fail)
          go_wp2
          go_roundw
          case rel => exact ⟨k + 1, X, by omega, by omega, by go_num, hr2.drewN _, hxl, HST, ho2.drewN _⟩
          case measure => simp [intOf]; omega
    · have HE : Hid (M = insS L a b) := Lib.hid (by have := hO.out; rw [show b - k = 0 by omega] at this; exact this)
      have hkb' : ¬ (k : Int) < (b : Int) := by omega
      go_wp2
      go_end0
      exact ⟨rfl, by rw [← HE.out]; exact hr, ho⟩
end Go.Proofs.Ytmibajhilbfecaa
