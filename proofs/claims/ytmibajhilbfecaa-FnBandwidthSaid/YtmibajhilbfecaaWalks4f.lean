/- The walk of FnBandwidth. -/
import Derived.Test.YtmibajhilbfecaaDrawMo
import Derived.Test.YtmibajhilbfecaaBandLaw
import Derived.Test.YtmibajhilbfecaaBest
import Derived.Test.YtmibajhilbfecaaAt
import Derived.Test.YtmibajhilbfecaaWalks4e
namespace Go.Proofs.Ytmibajhilbfecaa
open Go.RowKit Go.Deep
theorem keepYL {W w' w1 : World} {gy gl : Nat} {m : MD} {l r d : Int} (hb : Below w'.heap.size w' w1) (h1 : gy < W.heap.size) (h2 : gl < W.heap.size)
    (h : (w'.cell? ⟨gy, 0, none⟩ = some (.int .i64 m.c) ∧ w'.cell? ⟨gy, 1, none⟩ = some (.int .i64 m.w) ∧ w'.cell? ⟨gy, 2, none⟩ = some (.int .i64 m.hf) ∧ w'.cell? ⟨gy, 3, none⟩ = some (.int .i64 m.hs) ∧ w'.cell? ⟨gy, 4, none⟩ = some (.int .i64 m.hb) ∧ w'.cell? ⟨gy, 5, none⟩ = some (.int .i64 m.h) ∧ w'.cell? ⟨gy, 6, none⟩ = some (.int .i64 m.vf) ∧ w'.cell? ⟨gy, 7, none⟩ = some (.int .i64 m.vs) ∧ w'.cell? ⟨gy, 8, none⟩ = some (.int .i64 m.vb)) ∧ (w'.cell? ⟨gl, 0, none⟩ = some (.int .i64 l) ∧ w'.cell? ⟨gl, 1, none⟩ = some (.int .i64 r) ∧ w'.cell? ⟨gl, 2, none⟩ = some (.int .i64 d)) ∧ Below W.heap.size W w') : (w1.cell? ⟨gy, 0, none⟩ = some (.int .i64 m.c) ∧ w1.cell? ⟨gy, 1, none⟩ = some (.int .i64 m.w) ∧ w1.cell? ⟨gy, 2, none⟩ = some (.int .i64 m.hf) ∧ w1.cell? ⟨gy, 3, none⟩ = some (.int .i64 m.hs) ∧ w1.cell? ⟨gy, 4, none⟩ = some (.int .i64 m.hb) ∧ w1.cell? ⟨gy, 5, none⟩ = some (.int .i64 m.h) ∧ w1.cell? ⟨gy, 6, none⟩ = some (.int .i64 m.vf) ∧ w1.cell? ⟨gy, 7, none⟩ = some (.int .i64 m.vs) ∧ w1.cell? ⟨gy, 8, none⟩ = some (.int .i64 m.vb)) ∧ (w1.cell? ⟨gl, 0, none⟩ = some (.int .i64 l) ∧ w1.cell? ⟨gl, 1, none⟩ = some (.int .i64 r) ∧ w1.cell? ⟨gl, 2, none⟩ = some (.int .i64 d)) ∧ Below W.heap.size W w1 := by
  obtain ⟨⟨x1, x2, x3, x4, x5, x6, x7, x8, x9⟩, ⟨y1, y2, y3⟩, k⟩ := h
  have hc := (bcell hb).1
  have hs := k.size
  refine ⟨⟨?_, ?_, ?_, ?_, ?_, ?_, ?_, ?_, ?_⟩, ⟨?_, ?_, ?_⟩, k.trans (hb.mono hs)⟩
  all_goals (rw [hc _ _ (by omega)]; assumption)
theorem shlL {a : Int} (_h0 : 0 ≤ a) : ∃ L : Int, wrap64 (2 ^ (a % 3).toNat) = L ∧ IntKind.i64.wrap (2 ^ (a % 3).toNat) = L ∧ lcB L = true := by
  have h : a % 3 = 0 ∨ a % 3 = 1 ∨ a % 3 = 2 := by omega
  rcases h with h | h | h <;> rw [h]
  · exact ⟨1, by decide +kernel, by decide +kernel, by decide⟩
  · exact ⟨2, by decide +kernel, by decide +kernel, by decide⟩
  · exact ⟨4, by decide +kernel, by decide +kernel, by decide⟩
set_option maxRecDepth 10000 in
set_option maxHeartbeats 4000000 in
theorem walk_fnBandwidth (w : World) (A : Option Addr) (n c : Nat) (zs : List Int) (r0 : RB w w.heap.size A n zs) (hz : BY zs) (_g : n ≤ c) (_i : c ≤ maxLen) :
    Calls Try.prog 11 #[.slice A n c] w fun e w' => e = .returned (.bool true) ∧ Below w.heap.size w w' := by
  by_cases hbig : 1048576 < n
  · go_enter Try.func11, Try.ntmps11
    go_wp2_with (go_at_call 15; refine (big_any _ _ _ _).mono ?_; rintro e w' ⟨rfl, rfl⟩)
    go_ret
    exact ⟨rfl, Below.refl _ _⟩
  · have hn : n ≤ 1048576 := by omega
    go_enter Try.func11, Try.ntmps11
    go_wp2_with (go_at_call 15; refine (big_any _ _ _ _).mono ?_; rintro e w' ⟨rfl, rfl⟩)
    refine (drawMonitor_any A n c _ zs _ r0 hz (Nat.le_refl _) hn).mono ?_
    rintro e w1 ⟨⟨N, ms, D, cd, s, rfl, hmon, hown⟩, hb1⟩
    have s1 := hb1.size
    have r1 := r0.below hb1 (Nat.le_refl _)
    obtain ⟨D', cd', he, hrm⟩ := hown.rm rfl
    obtain ⟨rfl, -, rfl⟩ : D = D' ∧ True ∧ cd = cd' := by simpa using he
    have gM := heap_alloc_new w1 (.cells #[.string N, .slice D ms.length cd, .int .i64 s] 58)
    have bM := (Below.refl w1.heap.size w1).alloc (Nat.le_refl _) (.cells #[.string N, .slice D ms.length cd, .int .i64 s] 58)
    have s2 : (w1.alloc (.cells #[.string N, .slice D ms.length cd, .int .i64 s] 58)).heap.size = w1.heap.size + 1 := by simp
    have r2 := r1.below bM s1
    have K2 := hb1.trans (bM.mono s1)
    have rm2 := hrm.below bM (Nat.le_refl _)
    have HA0 := fun W h => at_int A n c w.heap.size zs 0 W h hz hn (by omega) (by omega)
    have HA1 := fun W h => at_int A n c w.heap.size zs 1 W h hz hn (by omega) (by omega)
    have HA2 := fun W h => at_int A n c w.heap.size zs 2 W h hz hn (by omega) (by omega)
    have HA3 := fun W h => at_int A n c w.heap.size zs 3 W h hz hn (by omega) (by omega)
    have y0 := atF_rng hz (0 : Int).toNat
    have y1 := atF_rng hz (1 : Int).toNat
    have y2 := atF_rng hz (2 : Int).toNat
    have y3 := atF_rng hz (3 : Int).toNat
    generalize atF zs (0 : Int).toNat = a0 at HA0 y0
    generalize atF zs (1 : Int).toNat = a1 at HA1 y1
    generalize atF zs (2 : Int).toNat = a2 at HA2 y2
    generalize atF zs (3 : Int).toNat = a3 at HA3 y3
    clear he hown hb1 r1 r0 hrm
    go_wp2_with fail
    generalize w1.alloc (.cells #[.string N, .slice D ms.length cd, .int .i64 s] 58) = w2 at gM bM s2 r2 K2 rm2 ⊢
    have sz2 : w1.heap.size < w2.heap.size := by omega
    clear s2 bM
    obtain ⟨L, eL, eL', hLc⟩ := shlL y0.1
    obtain ⟨R, hR⟩ : ∃ R : Int, Hid (R = 1 + a1 % 4) := ⟨_, Lib.hid rfl⟩
    have hR14 : 1 ≤ R ∧ R ≤ 4 := by have := hR.out; omega
    have eR : 1 + a1 % 4 = R := hR.out.symm
    have eR' : IntKind.i64.wrap (1 + a1 % 4) = R := by rw [eR]; exact IntWalk.i64_in _ (by omega)
    have eRR : IntKind.i64.wrap R = R := IntWalk.i64_in _ (by omega)
    have t0 : a0.tmod 3 = a0 % 3 := Int.tmod_eq_emod_of_nonneg y0.1
    have t1 : a1.tmod 4 = a1 % 4 := Int.tmod_eq_emod_of_nonneg y1.1
    have hlk : linkB L R 0 = true := linkB_t.2 ⟨lcB_t.1 hLc, hR14, by omega⟩
    have HLK := Lib.hid hlk
    clear hlk hLc
    have rA : RB w2.drew w.heap.size A n zs := RV.drewN r2 1
    have rB : RB (w2.alloc (.cells #[.int .i64 0, .int .i64 0, .int .i64 0] 29)).drew w.heap.size A n zs := RV.drewN (RV.alloc r2 (by omega) _) 1
    go_cut [4] (fun p wr => p = .pointer (some ⟨w2.heap.size, 0, none⟩) ∧ wr.heap[w2.heap.size]? = some (.cells #[.int .i64 L, .int .i64 R, .int .i64 0] 29) ∧ Below w2.heap.size w2 wr)
    case first =>
      first | go_must (go_region_held3 (fun w' => True) (trivial)
        (first | (go_at_call 43; first
            | ((with_reducible refine (HA0 _ rA).mono ?_); rintro e w' ⟨rfl, rfl⟩)
            | ((with_reducible refine (HA0 _ rB).mono ?_); rintro e w' ⟨rfl, rfl⟩)
            | ((with_reducible refine (HA1 _ rA).mono ?_); rintro e w' ⟨rfl, rfl⟩)
            | ((with_reducible refine (HA1 _ rB).mono ?_); rintro e w' ⟨rfl, rfl⟩)))) | fail
      all_goals
        go_wp2
        go_meet
        exact ⟨rfl, heap_alloc_new w2 _, ((Below.refl _ _).alloc (Nat.le_refl _) _).drew⟩
    case rest =>
      obtain ⟨rfl, gL, b3⟩ := hcut
      rename World => w4
      have s4 := b3.size
      have gl4 := heap_lt gL
      have gM4 := (b3.block _ sz2).trans gM
      have r4 := r2.below b3 (by omega)
      have rm4 := rm2.below b3 (by omega)
      have K4 := K2.trans (b3.mono (by omega))
      clear gM rA rB r2 rm2 K2 b3 HA0 HA1 eL eL' eR eR' eRR t0 t1
      obtain ⟨⟨bm, ok⟩, hbest⟩ : ∃ p, bestF N ms s (4 + a2 % 7) (3 + a3 % 6) L R 0 = p := ⟨_, rfl⟩
      have HBL := Lib.hid (best_law (x := 4 + a2 % 7) (y := 3 + a3 % 6) hmon HLK.out)
      rw [hbest] at HBL
      have HB := Lib.hid hbest
      clear hbest
      have e2 : IntKind.i64.wrap (4 + a2 % 7) = 4 + a2 % 7 := IntWalk.i64_in _ (by omega)
      have e3 : IntKind.i64.wrap (3 + a3 % 6) = 3 + a3 % 6 := IntWalk.i64_in _ (by omega)
      have t2 : a2.tmod 7 = a2 % 7 := Int.tmod_eq_emod_of_nonneg y2.1
      have t3 : a3.tmod 6 = a3 % 6 := Int.tmod_eq_emod_of_nonneg y3.1
      obtain ⟨d1, d2, d3, _, _, _⟩ := cells3 gM4
      obtain ⟨l1, l2, l3, _, _, _⟩ := cells3 gL
      have lm : w1.heap.size < w4.heap.size := by omega
      have hN8 := (monB_t.1 hmon).1
      have hm4 := (monB_t.1 hmon).2.1
      go_wp2_with fail
      go_cut [5, 6] (fun p v wr => ∃ gx : Nat, p = .pointer (some ⟨gx, 0, none⟩) ∧ v = .bool ok ∧ MB 39 wr gx bm ∧ w4.heap.size ≤ gx ∧ Below w4.heap.size w4 wr)
      case first =>
        have N1 : MB 39 (w4.alloc (.cells #[.int .i64 0, .int .i64 0, .int .i64 0, .int .i64 0, .int .i64 0, .int .i64 0, .int .i64 0, .int .i64 0, .int .i64 0] 39)).drew w4.heap.size zMD := MB.new 39 w4 zMD
        have rA : RB w4.drew w.heap.size A n zs := RV.drewN r4 1
        have rB : RB (w4.alloc (.cells #[.int .i64 0, .int .i64 0, .int .i64 0, .int .i64 0, .int .i64 0, .int .i64 0, .int .i64 0, .int .i64 0, .int .i64 0] 39)).drew w.heap.size A n zs := RV.drewN (RV.alloc r4 (by omega) _) 1
        have R1 : RM (w4.alloc (.cells #[.int .i64 0, .int .i64 0, .int .i64 0, .int .i64 0, .int .i64 0, .int .i64 0, .int .i64 0, .int .i64 0, .int .i64 0] 39)).drew w1.heap.size D ms.length ms := (rm4.alloc (by omega) _).drew
        have R0 : RM w4.drew w1.heap.size D ms.length ms := rm4.drew
        have Z1' : w4.drew.heap.size = w4.heap.size := rfl
        have HS0 : (w4.drew.cell? ⟨w1.heap.size, 0, none⟩ = some (.string N) ∧ w4.drew.cell? ⟨w1.heap.size, 1, none⟩ = some (.slice D ms.length cd) ∧ w4.drew.cell? ⟨w1.heap.size, 2, none⟩ = some (.int .i64 s)) ∧ (w4.drew.cell? ⟨w2.heap.size, 0, none⟩ = some (.int .i64 L) ∧ w4.drew.cell? ⟨w2.heap.size, 1, none⟩ = some (.int .i64 R) ∧ w4.drew.cell? ⟨w2.heap.size, 2, none⟩ = some (.int .i64 0)) ∧ Below w4.heap.size w4 w4.drew := ⟨⟨d1, d2, d3⟩, ⟨l1, l2, l3⟩, (Below.refl _ _).drew⟩
        have HS1 : ((w4.alloc (.cells #[.int .i64 0, .int .i64 0, .int .i64 0, .int .i64 0, .int .i64 0, .int .i64 0, .int .i64 0, .int .i64 0, .int .i64 0] 39)).drew.cell? ⟨w1.heap.size, 0, none⟩ = some (.string N) ∧ (w4.alloc (.cells #[.int .i64 0, .int .i64 0, .int .i64 0, .int .i64 0, .int .i64 0, .int .i64 0, .int .i64 0, .int .i64 0, .int .i64 0] 39)).drew.cell? ⟨w1.heap.size, 1, none⟩ = some (.slice D ms.length cd) ∧ (w4.alloc (.cells #[.int .i64 0, .int .i64 0, .int .i64 0, .int .i64 0, .int .i64 0, .int .i64 0, .int .i64 0, .int .i64 0, .int .i64 0] 39)).drew.cell? ⟨w1.heap.size, 2, none⟩ = some (.int .i64 s)) ∧ ((w4.alloc (.cells #[.int .i64 0, .int .i64 0, .int .i64 0, .int .i64 0, .int .i64 0, .int .i64 0, .int .i64 0, .int .i64 0, .int .i64 0] 39)).drew.cell? ⟨w2.heap.size, 0, none⟩ = some (.int .i64 L) ∧ (w4.alloc (.cells #[.int .i64 0, .int .i64 0, .int .i64 0, .int .i64 0, .int .i64 0, .int .i64 0, .int .i64 0, .int .i64 0, .int .i64 0] 39)).drew.cell? ⟨w2.heap.size, 1, none⟩ = some (.int .i64 R) ∧ (w4.alloc (.cells #[.int .i64 0, .int .i64 0, .int .i64 0, .int .i64 0, .int .i64 0, .int .i64 0, .int .i64 0, .int .i64 0, .int .i64 0] 39)).drew.cell? ⟨w2.heap.size, 2, none⟩ = some (.int .i64 0)) ∧ Below w4.heap.size w4 (w4.alloc (.cells #[.int .i64 0, .int .i64 0, .int .i64 0, .int .i64 0, .int .i64 0, .int .i64 0, .int .i64 0, .int .i64 0, .int .i64 0] 39)).drew := keepBa lm gl4 _ HS0
        first | go_must (go_region_held3 (fun w' => (w'.cell? ⟨w1.heap.size, 0, none⟩ = some (.string N) ∧ w'.cell? ⟨w1.heap.size, 1, none⟩ = some (.slice D ms.length cd) ∧ w'.cell? ⟨w1.heap.size, 2, none⟩ = some (.int .i64 s)) ∧ (w'.cell? ⟨w2.heap.size, 0, none⟩ = some (.int .i64 L) ∧ w'.cell? ⟨w2.heap.size, 1, none⟩ = some (.int .i64 R) ∧ w'.cell? ⟨w2.heap.size, 2, none⟩ = some (.int .i64 0)) ∧ Below w4.heap.size w4 w')
          (first | (with_reducible assumption) | (with_reducible exact keepBa lm gl4 _ ‹_ ∧ _›) | (with_reducible exact keepBr lm gl4 (by omega) _ ‹_ ∧ _›) | (with_reducible exact keepB9 lm gl4 (by omega) bm ‹_ ∧ _›) | (with_reducible exact keepBc lm gl4 ‹_› ‹_ ∧ _›))
          (first
            | (go_at_call 43; first
                | ((with_reducible refine (HA2 _ rA).mono ?_); rintro e w' ⟨rfl, rfl⟩)
                | ((with_reducible refine (HA2 _ rB).mono ?_); rintro e w' ⟨rfl, rfl⟩)
                | ((with_reducible refine (HA3 _ rA).mono ?_); rintro e w' ⟨rfl, rfl⟩)
                | ((with_reducible refine (HA3 _ rB).mono ?_); rintro e w' ⟨rfl, rfl⟩))
            | (go_at_call 44; first
                | ((with_reducible refine (bestMode_i N D ms.length cd w1.heap.size ms s (4 + a2 % 7) (3 + a3 % 6) L R 0 (w4.alloc (.cells #[.int .i64 0, .int .i64 0, .int .i64 0, .int .i64 0, .int .i64 0, .int .i64 0, .int .i64 0, .int .i64 0, .int .i64 0] 39)).drew R1 (by simp; omega) (by omega) (by omega) bm ok HB.out).mono ?_); rintro e w9 ⟨rfl, hb9⟩; have s9 := hb9.size; have hbx9 := N1.below hb9 N1.lt; obtain ⟨z0, z1, z2, z3, z4, z5, z6, z7, z8⟩ := hbx9.nine; simp only [zMD] at z0 z1 z2 z3 z4 z5 z6 z7 z8; obtain ⟨f0, f1, f2, f3, f4, f5, f6, f7, f8⟩ := hbx9.fz)
                | ((with_reducible refine (bestMode_i N D ms.length cd w1.heap.size ms s (4 + a2 % 7) (3 + a3 % 6) L R 0 w4.drew R0 (by omega) (by omega) (by omega) bm ok HB.out).mono ?_); rintro e w9 ⟨rfl, hb9⟩; have s9 := hb9.size)))) | fail
        all_goals
          rename_i HH
          go_wp2
          go_meet
          first
            | (with_reducible exact ⟨_, rfl, rfl, MB.new 39 _ bm, by omega, HH.2.2⟩)
            | (have HB9 := hbx9.set9 bm; simp only [set9] at HB9; (with_reducible exact ⟨_, rfl, rfl, HB9, by omega, HH.2.2⟩))
      case rest =>
        obtain ⟨gx, rfl, rfl, hx0, hgx, K10⟩ := hcut
        rename World => w10
        have s10 := K10.size
        have hgxl := hx0.lt
        have gM10 := (K10.block _ lm).trans gM4
        have gL10 := (K10.block _ gl4).trans gL
        have rm10 := rm4.below K10 (by omega)
        have K11 := K4.trans (K10.mono (by omega))
        clear d1 d2 d3 l1 l2 l3 gM4 gL K4 r4 rm4 e2 e3 t2 t3 HA2 HA3
        have hmod : ∀ k, k < ms.length → modeB (mat ms k) = true := fun k hk => (monB_t.1 hmon).2.2.2.2 _ (mat_mem hk)
        have HMOD := Lib.hid hmod
        clear hmod
        go_wp2_with fail
        go_loopw [7, 8] (fun av i wr => ∃ k : Nat, k ≤ ms.length ∧ i = .int .i64 k ∧ av = .bool ((ms.take k).any (fitB L R 0)) ∧ Below w10.heap.size w10 wr) (fun _ i _ => ms.length - (intOf i).toNat)
        case atStart => exact ⟨0, Nat.zero_le _, rfl, by simp, Below.refl _ _⟩
        case round =>
          rename World => w11
          obtain ⟨k, hk, rfl, rfl, b11⟩ := hrel
          have s11 := b11.size
          have gM11 := (b11.block _ (by omega)).trans gM10
          have gL11 := (b11.block _ (by omega)).trans gL10
          obtain ⟨d1, d2, d3, _, _, _⟩ := cells3 gM11
          by_cases hlt : k < ms.length
          · have rm11 := rm10.below b11 (by omega)
            obtain ⟨b, off, he, _, hc⟩ := rm11.at_ hlt
            subst he
            obtain ⟨m, hm⟩ : ∃ m, m = mat ms k := ⟨_, rfl⟩
            have hmo := HMOD.out k hlt
            rw [← hm] at hc hmo
            have HANY : Hid ((ms.take (k + 1)).any (fitB L R 0) = ((ms.take k).any (fitB L R 0) || fitB L R 0 m)) := Lib.hid (by rw [take_mat hlt, List.any_append, hm]; simp)
            clear hm
            have hband := band_at (l := L) (r := R) (d := 0) hmo HLK.out
            have CF := fun W => fitsLink_i m L R 0 W
            have CN := fun W => slotsNeeded_i m L R 0 W
            have CR := fun W => lineRoom_i m L R 0 W
            have CS := fun W => symFor_i m.w W
            simp only [fitB] at hband HANY
            generalize inB (slotsF m L R 0) 1 16 = fb at hband HANY CF
            generalize slotsF m L R 0 = q at hband CN
            generalize roomF m L R 0 = ρ at hband CR
            generalize symFor m.w = σ at hband CS
            obtain ⟨hρ, hσ, hq, hfb, hp1, hp2⟩ := hband
            obtain ⟨P1, hP1⟩ : ∃ P1, Hid (P1 = q * ρ) := ⟨_, Lib.hid rfl⟩
            obtain ⟨P2, hP2⟩ : ∃ P2, Hid (P2 = (q - 1) * ρ) := ⟨_, Lib.hid rfl⟩
            have hb1 := mul_bd (a := q) (b := ρ) (x := 1681) (y := 4352) (by omega) hq.2 (by omega) hρ.2
            have hb2 := mul_bd (a := q - 1) (b := ρ) (x := 1681) (y := 4352) (by omega) (by omega) (by omega) hρ.2
            have w1' : IntKind.i64.wrap (q * ρ) = P1 := by rw [hP1.out]; exact IntWalk.i64_in _ (by omega)
            have w2' : IntKind.i64.wrap ((q - 1) * ρ) = P2 := by rw [hP2.out]; exact IntWalk.i64_in _ (by omega)
            have w3' : IntKind.i64.wrap (16 * σ) = 16 * σ := IntWalk.i64_in _ (by omega)
            have w4' : IntKind.i64.wrap (q - 1) = q - 1 := IntWalk.i64_in _ (by omega)
            have c1 : ¬ P1 < 16 * σ := by rw [hP1.out]; omega
            have c2 : ¬ 16 * σ ≤ P2 := by rw [hP2.out]; omega
            have cb1 : decide (P1 < 16 * σ) = false := decide_eq_false c1
            have cb2 : decide (16 * σ ≤ P2) = false := decide_eq_false c2
            have v1' : wrap64 (q * ρ) = P1 := by rw [hP1.out]; exact IntWalk.wrap64_in _ (by omega)
            clear hb1 hb2 hp1 hp2
            obtain ⟨y0, y1, y2, y3, y4, y5, y6, y7, y8⟩ := hc.nine
            have i1 : (0 : Int) ≤ (k : Int) := by omega
            have i2 : (k : Int) < (ms.length : Int) := by omega
            have gy := MB.new 39 w11 m
            have by_ := (Below.refl w11.heap.size w11).alloc (Nat.le_refl _) (.cells #[.int .i64 m.c, .int .i64 m.w, .int .i64 m.hf, .int .i64 m.hs, .int .i64 m.hb, .int .i64 m.h, .int .i64 m.vf, .int .i64 m.vs, .int .i64 m.vb] 39)
            have sy : w11.heap.size < (w11.alloc (.cells #[.int .i64 m.c, .int .i64 m.w, .int .i64 m.hf, .int .i64 m.hs, .int .i64 m.hb, .int .i64 m.h, .int .i64 m.vf, .int .i64 m.vs, .int .i64 m.vb] 39)).heap.size := by simp
            go_upto_region 11 with fail
            generalize w11.alloc (.cells #[.int .i64 m.c, .int .i64 m.w, .int .i64 m.hf, .int .i64 m.hs, .int .i64 m.hb, .int .i64 m.h, .int .i64 m.vf, .int .i64 m.vs, .int .i64 m.vb] 39) = w12 at gy by_ sy ⊢
            have gL12 := (by_.block _ (by omega)).trans gL11
            have b12 := b11.trans (by_.mono s11)
            obtain ⟨x0, x1, x2, x3, x4, x5, x6, x7, x8⟩ := gy.nine
            obtain ⟨l1, l2, l3, _, _, _⟩ := cells3 gL12
            clear y0 y1 y2 y3 y4 y5 y6 y7 y8 d1 d2 d3 hc i1 i2 gM11 gL11 rm11 b11
            go_wp2_with fail
            refine (CF _).mono ?_
            rintro e w13 ⟨rfl, hb13⟩
            have s13 := hb13.size
            have gy13 := gy.below hb13 sy
            have gL13 := (hb13.block _ (by omega)).trans gL12
            have b13 := b12.trans (hb13.mono b12.size)
            clear x0 x1 x2 x3 x4 x5 x6 x7 x8 l1 l2 l3 gy gL12 hb13
            obtain ⟨x0, x1, x2, x3, x4, x5, x6, x7, x8⟩ := gy13.nine
            obtain ⟨l1, l2, l3, _, _, _⟩ := cells3 gL13
            generalize (ms.take k).any (fitB L R 0) = av at HANY ⊢
            subst hfb
            dsimp only
            go_upto_region 12 with fail
            go_cut [7] (fun a wr => a = .bool (av || decide (σ ≤ ρ)) ∧ wr = w13)
            case first =>
              cases av
              all_goals
                go_wp2
                go_meet
                exact ⟨rfl, rfl⟩
            case rest =>
                obtain ⟨rfl, hwc⟩ := hcut
                subst hwc
                go_wp2_with fail
                refine (CN _).mono ?_
                rintro e w14 ⟨rfl, hb14⟩
                have s14 := hb14.size
                have gy14 := gy13.below hb14 gy13.lt
                have gL14 := (hb14.block _ (by omega)).trans gL13
                have b14 := b13.trans (hb14.mono b13.size)
                have hyl := gy14.lt
                have hll := heap_lt gL14
                clear x0 x1 x2 x3 x4 x5 x6 x7 x8 l1 l2 l3 hb14
                obtain ⟨x0, x1, x2, x3, x4, x5, x6, x7, x8⟩ := gy14.nine
                obtain ⟨l1, l2, l3, _, _, _⟩ := cells3 gL14
                go_wp2_with fail
                have HSY : ((w14.drew.cell? ⟨w11.heap.size, 0, none⟩ = some (.int .i64 m.c) ∧ w14.drew.cell? ⟨w11.heap.size, 1, none⟩ = some (.int .i64 m.w) ∧ w14.drew.cell? ⟨w11.heap.size, 2, none⟩ = some (.int .i64 m.hf) ∧ w14.drew.cell? ⟨w11.heap.size, 3, none⟩ = some (.int .i64 m.hs) ∧ w14.drew.cell? ⟨w11.heap.size, 4, none⟩ = some (.int .i64 m.hb) ∧ w14.drew.cell? ⟨w11.heap.size, 5, none⟩ = some (.int .i64 m.h) ∧ w14.drew.cell? ⟨w11.heap.size, 6, none⟩ = some (.int .i64 m.vf) ∧ w14.drew.cell? ⟨w11.heap.size, 7, none⟩ = some (.int .i64 m.vs) ∧ w14.drew.cell? ⟨w11.heap.size, 8, none⟩ = some (.int .i64 m.vb)) ∧ (w14.drew.cell? ⟨w2.heap.size, 0, none⟩ = some (.int .i64 L) ∧ w14.drew.cell? ⟨w2.heap.size, 1, none⟩ = some (.int .i64 R) ∧ w14.drew.cell? ⟨w2.heap.size, 2, none⟩ = some (.int .i64 0)) ∧ Below w14.heap.size w14 w14.drew) := ⟨⟨x0, x1, x2, x3, x4, x5, x6, x7, x8⟩, ⟨l1, l2, l3⟩, (Below.refl _ _).drew⟩
                clear CF CN x0 x1 x2 x3 x4 x5 x6 x7 x8 l1 l2 l3 gM10 gL10 hx0 rm10 gy14 gL14 gy13 gL13
                first | go_must (go_region_held3 (fun w' => ((w'.cell? ⟨w11.heap.size, 0, none⟩ = some (.int .i64 m.c) ∧ w'.cell? ⟨w11.heap.size, 1, none⟩ = some (.int .i64 m.w) ∧ w'.cell? ⟨w11.heap.size, 2, none⟩ = some (.int .i64 m.hf) ∧ w'.cell? ⟨w11.heap.size, 3, none⟩ = some (.int .i64 m.hs) ∧ w'.cell? ⟨w11.heap.size, 4, none⟩ = some (.int .i64 m.hb) ∧ w'.cell? ⟨w11.heap.size, 5, none⟩ = some (.int .i64 m.h) ∧ w'.cell? ⟨w11.heap.size, 6, none⟩ = some (.int .i64 m.vf) ∧ w'.cell? ⟨w11.heap.size, 7, none⟩ = some (.int .i64 m.vs) ∧ w'.cell? ⟨w11.heap.size, 8, none⟩ = some (.int .i64 m.vb)) ∧ (w'.cell? ⟨w2.heap.size, 0, none⟩ = some (.int .i64 L) ∧ w'.cell? ⟨w2.heap.size, 1, none⟩ = some (.int .i64 R) ∧ w'.cell? ⟨w2.heap.size, 2, none⟩ = some (.int .i64 0)) ∧ Below w14.heap.size w14 w'))
                  (first | (with_reducible assumption) | (with_reducible exact keepYL ‹_› hyl hll ‹_ ∧ _›))
                  (first | (go_at_call 45; (with_reducible refine (CS _).mono ?_); rintro e w' ⟨rfl, rfl⟩) | (go_at_call 25; (with_reducible refine (CR _).mono ?_); rintro e wq ⟨rfl, hbq⟩))) | fail
                rename_i HH
                have bE := HH.2.2
                clear HH HSY
                go_wp2
                go_roundw
                case rel => exact ⟨k + 1, by omega, by go_num, by rw [HANY.out], b14.trans (bE.mono b14.size)⟩
                case measure => simp [intOf]; omega
          · obtain rfl : k = ms.length := by omega
            have hany : (ms.take ms.length).any (fitB L R 0) = ok := by rw [List.take_length]; exact HBL.out.1.symm
            rw [hany]
            clear hany
            have hfit := HBL.out.2
            cases ok
            · go_wp2
              go_ret
              exact ⟨rfl, K11.trans (b11.mono (by omega))⟩
            · have hft : inB (slotsF bm L R 0) 1 16 = true := hfit rfl
              have gx11 := hx0.below b11 hgxl
              obtain ⟨x0, x1, x2, x3, x4, x5, x6, x7, x8⟩ := gx11.nine
              obtain ⟨l1, l2, l3, _, _, _⟩ := cells3 gL11
              go_wp2_with fail
              refine (fitsLink_i bm L R 0 w11).mono ?_
              rw [hft]
              rintro e w12 ⟨rfl, bE⟩
              clear x0 x1 x2 x3 x4 x5 x6 x7 x8 l1 l2 l3
              go_wp2
              go_ret
              exact ⟨rfl, K11.trans ((b11.mono (by omega)).trans (bE.mono (by omega)))⟩
end Go.Proofs.Ytmibajhilbfecaa
