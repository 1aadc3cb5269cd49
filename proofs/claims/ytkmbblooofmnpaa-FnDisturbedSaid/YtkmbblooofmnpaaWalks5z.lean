/- The walk of FnDisturbed. -/
import Derived.Test.YtkmbblooofmnpaaWalks5l
import Derived.Test.YtkmbblooofmnpaaLane2
namespace Go.Proofs.Ytkmbblooofmnpaa
open Go.RowKit Go.Deep
theorem ri_four (w : World) (a b c d : Int) : RI (w.alloc (.cells #[.int .i64 a, .int .i64 b, .int .i64 c, .int .i64 d] 3)) (w.heap.size + 1) (some ⟨w.heap.size, 0, none⟩) 4 [a, b, c, d] :=
  (OwnV.new w 3 #[.int .i64 a, .int .i64 b, .int .i64 c, .int .i64 d] (by simp [maxLen])).rv
/-- A disturbed symbol is the only one that changes. -/
theorem back_dist {xs sk : List Int} {i : Nat} {x : Int} (h : sendOk xs sk = true) (hi : i < xs.length) (hx : inB x 0 31 = true) :
    recvF (distF (sendF xs sk) ((i % sk.length : Nat) : Int) ((i / sk.length : Nat) : Int) x) = ((recvF (distF (sendF xs sk) ((i % sk.length : Nat) : Int) ((i / sk.length : Nat) : Int) x)).1, true) ∧
      xs.length ≤ (recvF (distF (sendF xs sk) ((i % sk.length : Nat) : Int) ((i / sk.length : Nat) : Int) x)).1.length ∧
      ∀ p, p < xs.length → zat (recvF (distF (sendF xs sk) ((i % sk.length : Nat) : Int) ((i / sk.length : Nat) : Int) x)).1 p = if p = i then x else zat xs p := by
  obtain ⟨h1, h2, h3⟩ := ((send_carry h).disturb hi hx).recv
  exact ⟨by rw [recvF_yes h1], h2, h3⟩
set_option maxRecDepth 10000 in
set_option maxHeartbeats 4000000 in
theorem walk_fnDisturbed (w : World) (A : Option Addr) (n c : Nat) (zs : List Int) (r0 : RB w w.heap.size A n zs) (hz : BY zs) (_g : n ≤ c) (_i : c ≤ maxLen) :
    Calls Try.prog 11 #[.slice A n c] w fun e w' => e = .returned (.bool true) ∧ Below w.heap.size w w' := by
  by_cases hbig : 1048576 < n
  · go_enter Try.func11, Try.ntmps11
    go_wp2_with (go_at_call 12; refine (big_any _ _ _ _).mono ?_; rintro e w' ⟨rfl, rfl⟩)
    go_ret
    exact ⟨rfl, Below.refl _ _⟩
  · have hn : n ≤ 1048576 := by omega
    go_enter Try.func11, Try.ntmps11
    go_wp2_with (go_at_call 12; refine (big_any _ _ _ _).mono ?_; rintro e w' ⟨rfl, rfl⟩)
    refine (drawNibbles_any A n c _ zs _ r0 hz (Nat.le_refl _) hn).mono ?_
    rintro e w0 ⟨L0, hnib0, hlen0, AL0, nL0, cL0, rfl, hoL0, hb0⟩
    obtain rfl : nL0 = L0.length := hoL0.len.symm
    have s0 := hb0.size
    have hF := ri_four w0 1 2 3 4
    have HA0 := fun W h => at_any A n c w.heap.size zs 0 W h hz hn (by omega)
    have hrng := atF_rng hz 0
    obtain ⟨a, ha, ha3⟩ : ∃ a : Int, a = atF zs 0 ∧ 0 ≤ a ∧ a ≤ 255 := ⟨_, rfl, hrng⟩
    rw [← ha] at HA0
    clear ha hrng
    go_wp2_with (at_builtin; refine wpList_append_ints rfl _ _ _ rfl Try.underlying24 infoInt _ _ _ _ _ _ rfl (hoL0.alloc _) _ _ _ _ _ rfl hF (by omega) (by simp; omega) ?_; intro AL cL w1 hoL hoffL hbL)
    have s1 := hbL.size
    simp only [World.size_alloc] at s1
    have hb1 : Below w.heap.size w w1 := (hb0.alloc s0 (.cells #[.int .i64 1, .int .i64 2, .int .i64 3, .int .i64 4] 3)).trans hbL
    have r1 := r0.below hb1 (Nat.le_refl _)
    have hnib : NIB (L0 ++ [1, 2, 3, 4]) := fun z hz' => by
      rcases List.mem_append.1 hz' with h | h
      · exact hnib0 z h
      · simp at h; omega
    have hlen : (L0 ++ [1, 2, 3, 4]).length = L0.length + 4 := by simp
    generalize L0 ++ [1, 2, 3, 4] = L at hoL hnib hlen
    have HLEN := Lib.hid hlen
    clear hoL0 hF hbL hoffL hb0 hlen
    refine (symbolsOf_s AL (L0.length + 4) cL _ L _ hoL.ri (Nat.le_refl _) (by omega)).mono ?_
    rw [symsF_nib hnib]
    have hsr := Lib.hid (symL_rng L)
    have hsl := Lib.hid (symL_len L)
    generalize symL L = X at hsr hsl
    rintro e w2 ⟨AX, nX, cX, rfl, hoX, hb2⟩
    obtain rfl : nX = X.length := hoX.len.symm
    have hX43 : X.length ≤ 43 := by have := hsl.out; have := HLEN.out; omega
    have hX4 : 4 ≤ X.length := by have := hsl.out; have := HLEN.out; omega
    have s2 := hb2.size
    have K2 := bthen hb1 hb2 (by omega)
    have r2 := r1.below hb2 (by omega)
    clear hoL hb1 hb2 r1 r0 hnib hnib0 hlen0
    go_wp2_with (go_at_call 18; refine (HA0 _ r2).mono ?_; rintro e w' ⟨rfl, rfl⟩)
    obtain ⟨N, hN, hNc⟩ := shl3 ha3.1
    rw [hN]
    have hN4 := lcB_le hNc
    have HNC := Lib.hid hNc
    have HO := own_lit0 w2
    clear hN hNc HA0
    go_loopw [5, 6] (fun o i wr => ∃ k : Nat, k ≤ N ∧ i = .int .i64 k ∧ ∃ A' c', o = .slice A' k c' ∧ Own wr w2.heap.size wr.heap.size A' k c' (skF zs k) ∧ Below w2.heap.size w2 wr) (fun _ i _ => N - (intOf i).toNat)
    case atStart => exact ⟨0, Nat.zero_le _, rfl, _, _, rfl, by simpa [skF] using HO.top, (Below.refl _ _).alloc (Nat.le_refl _) _⟩
    case round =>
      rename World => w3
      obtain ⟨k, hk, rfl, A', c', rfl, hown, hbel⟩ := hrel
      clear HO
      have hsz := hbel.size
      have r3 := r2.below hbel (by omega)
      have o3 := hoX.below hbel (Nat.le_refl _)
      have K3 := K2.trans (hbel.mono (by omega))
      by_cases hlt : k < N
      · have HA1 := at_any A n c w.heap.size zs (k + 1) w3 r3 hz hn (by omega)
        have hcast : ((k + 1 : Nat) : Int) = (k : Int) + 1 := by omega
        rw [hcast] at HA1
        have hrng := atF_rng hz (k + 1)
        have HS := Lib.hid (skF_snoc zs k)
        obtain ⟨b, hb⟩ : ∃ b : Int, b = atF zs (k + 1) := ⟨_, rfl⟩
        rw [← hb] at HA1 hrng
        have HB := Lib.hid hb
        have hk1 : (k : Int) < (N : Int) := by omega
        have hb0 : 0 ≤ b := hrng.1
        have hb1 : b ≤ 255 := hrng.2
        clear hb hcast hrng
        go_wp2_with (first
          | (go_at_call 18; refine HA1.mono ?_; rintro e w' ⟨rfl, rfl⟩)
          | (at_builtin; refine wpList_append_ints rfl _ _ _ rfl Try.underlying24 infoInt _ _ _ _ _ _ rfl (hown.alloc _) _ _ _ _ _ rfl (ri_one _ _ _) (by omega) (by simp; omega) ?_; intro A7 c7 w7 ho7 hoff7 hb7))
        rw [HB.out, ← HS.out] at ho7
        have K7 := (hbel.alloc (by omega) (.cells #[.int .i64 (b % 9)] 3)).trans hb7
        go_roundw
        case rel => exact ⟨k + 1, by omega, by go_num, _, _, rfl, ho7, K7⟩
        case measure => simp [intOf]; omega
      · obtain rfl : k = N := by omega
        have OK : Hid (sendOk X (skF zs k) = true) := Lib.hid (send_ok (by rw [skF_len]; exact HNC.out) (skF_rng zs k) hsr.out)
        have hskl := Lib.hid (skF_len zs k)
        generalize skF zs k = sk at OK hskl hown
        obtain ⟨b, hb⟩ : ∃ b : Nat, atF zs 5 = (b : Int) := ⟨(atF zs 5).toNat, by have := (atF_rng hz 5).1; omega⟩
        have hb255 : b ≤ 255 := by have := (atF_rng hz 5).2; omega
        have HA5 : Calls Try.prog 18 #[.slice A n c, .int .i64 5] w3 fun e w' => e = .returned (.int .i64 (b : Int)) ∧ w3 = w' := by have := at_any A n c w.heap.size zs 5 w3 r3 hz hn (by omega); rw [hb] at this; exact this
        obtain ⟨i, hi⟩ : ∃ i, i = b % X.length := ⟨_, rfl⟩
        have hiX : i < X.length := by rw [hi]; exact Nat.mod_lt _ (by omega)
        have hie : (b : Int) % (X.length : Int) = (i : Int) := by rw [hi]; simp
        have hX0 : ¬ X.length = 0 := by omega
        have hXb : ((X.length : Int) == 0) = false := beq_eq_false_iff_ne.2 (by omega)
        clear hb hi hlt
        go_wp2_with (go_at_call 18; refine HA5.mono ?_; rintro e w' ⟨rfl, rfl⟩)
        obtain ⟨y, hy⟩ : ∃ y : Int, y = atF zs 6 := ⟨_, rfl⟩
        have hyr := atF_rng hz 6
        rw [← hy] at hyr
        have hy0 : 0 ≤ y := hyr.1
        have hy1 : y ≤ 255 := hyr.2
        have HA6 : ∀ W, RB W w.heap.size A n zs → Calls Try.prog 18 #[.slice A n c, .int .i64 6] W fun e w' => e = .returned (.int .i64 y) ∧ W = w' := fun W hW => by have := at_any A n c w.heap.size zs 6 W hW hz hn (by omega); rw [← hy] at this; exact this
        have hx31 : Hid (inB (y % 32) 0 31 = true) := Lib.hid (inB_t.2 (by omega))
        have HDN := fun B4 A4 c4 W (h4 : RSS W B4 A4 k (sendF X sk)) hB4 => disturb_i A4 k c4 B4 (sendF X sk) ((i % k : Nat) : Int) ((i / k : Nat) : Int) (y % 32) W h4 hB4 (by omega) (fun l hl => by have h1 := tot_mem hl; have h2 := sendF_tot X sk; omega)
        have HDL : Hid ((distF (sendF X sk) ((i % k : Nat) : Int) ((i / k : Nat) : Int) (y % 32)).length = k ∧ tot (distF (sendF X sk) ((i % k : Nat) : Int) ((i / k : Nat) : Int) (y % 32)) ≤ X.length + 40) := Lib.hid ⟨by rw [distF_len, sendF_len OK.out, hskl.out], by rw [distF_tot]; exact sendF_tot X sk⟩
        have HBD : Hid _ := back_dist (i := i) OK.out hiX hx31.out
        rw [hskl.out] at HBD
        have e1 : (i : Int).tmod (k : Int) = ((i % k : Nat) : Int) := by rw [Int.tmod_eq_emod_of_nonneg (by omega)]; simp
        have e2 : (i : Int).tdiv (k : Int) = ((i / k : Nat) : Int) := by rw [Int.tdiv_eq_ediv_of_nonneg (by omega)]; simp
        have e1' : (i : Int) % (k : Int) = ((i % k : Nat) : Int) := by simp
        have e2' : (i : Int) / (k : Int) = ((i / k : Nat) : Int) := by simp
        have ik : i / k ≤ i := Nat.div_le_self _ _
        have e4 : y.tmod 32 = y % 32 := Int.tmod_eq_emod_of_nonneg (by omega)
        have hk0 : ¬ k = 0 := by omega
        have o3d : Own w3.drew w1.heap.size w2.heap.size AX X.length cX X := o3
        have hownd : Own w3.drew w2.heap.size w3.heap.size A' k c' sk := hown
        have r3d : RB w3.drew w.heap.size A n zs := RV.drewN r3 1
        have K3d : Below w.heap.size w w3.drew := K3.drew
        obtain ⟨im, hIM⟩ : ∃ im : Nat, im = i % k := ⟨_, rfl⟩
        obtain ⟨iq, hIQ⟩ : ∃ iq : Nat, iq = i / k := ⟨_, rfl⟩
        rw [← hIM] at e1 e1' HDN HDL HBD
        rw [← hIQ] at e2 e2' ik HDN HDL HBD
        have e3 : IntKind.i64.wrap (iq : Int) = (iq : Int) := IntWalk.i64_in _ (by omega)
        clear hIM hIQ ik hyr hy
        have hs3 : w3.drew.heap.size = w3.heap.size := rfl
        go_region_held3 (fun w' => True) (trivial)
          (first
            | (go_at_call 42; (with_reducible refine (send_i AX A' X.length cX _ k c' _ X sk _ o3d.ri hownd.ri (by omega) (by omega) (by omega) (by omega)).mono ?_); rintro e w4 ⟨A4, n4, c4, rfl, ho4, hb4⟩; (obtain rfl : k = n4 := by have h1 := ho4.len; rw [sendF_len OK.out, hskl.out] at h1; exact h1); have r4 := r3d.below hb4 (by omega))
            | (go_at_call 18; (with_reducible refine (HA6 _ r4).mono ?_); rintro e w' ⟨rfl, rfl⟩)
            | (go_at_call 30; (with_reducible refine (HDN _ _ _ _ ho4.rss (Nat.le_refl _)).mono ?_); rintro e w5 ⟨A5, n5, c5, rfl, ho5, hb5⟩))
        clear e1 e2 e1' e2' e3 e4 HDN HA5 hie hX0 hXb
        generalize distF (sendF X sk) (im : Int) (iq : Int) (y % 32) = D at HDL HBD ho5
        obtain rfl : k = n5 := by have h1 := ho5.len; rw [HDL.out.1] at h1; exact h1
        have s4 := hb4.size
        have s5 := hb5.size
        have o5 := (o3d.below hb4 (by omega)).below hb5 (by omega)
        have r5 := r4.below hb5 (by omega)
        have K5 := bthen (bthen K3d hb4 (by omega)) hb5 (by omega)
        have HRL : Hid (∀ l ∈ D, l.length ≤ 4294967296) := Lib.hid fun l hl => by have h1 := tot_mem hl; have h2 := HDL.out.2; omega
        have HB1 := HBD.out.1
        have HB2 := Lib.hid HBD.out.2
        clear hb4 hb5 o3d hownd r3d K3d hown o3 r3 K3 hbel r4 ho4 HBD r2 K2 hoX
        go_wp2_with fail
        refine (recv_i A5 k c5 _ D _ ho5.rss (Nat.le_refl _) (by omega) HRL.out).mono ?_
        rw [HB1]
        clear HB1
        generalize (recvF D).1 = Bk at HB2
        rintro e w6 ⟨A6, n6, c6, rfl, ho6, hb6⟩
        obtain rfl : n6 = Bk.length := ho6.len.symm
        have s6 := hb6.size
        have o6 := o5.below hb6 (by omega)
        have r6 := r5.below hb6 (by omega)
        have K6 := bthen K5 hb6 (by omega)
        have hlen1 : X.length ≤ Bk.length := HB2.out.1
        have hlt5 : ¬ Bk.length < X.length := by omega
        clear o5 r5 K5 hb6 ho5
        go_wp2
        go_loop [11] (fun v => ∃ q : Nat, q ≤ X.length ∧ v = .int .i64 q) (fun v => X.length - (intOf v).toNat)
        case atStart => exact ⟨0, Nat.zero_le _, rfl⟩
        case round =>
          obtain ⟨q, hq, rfl⟩ := hrel
          by_cases hqX : q < X.length
          · obtain ⟨gx, rfl, _, _, hcx, _⟩ := o6.cell hqX
            obtain ⟨gb, rfl, _, _, hcb, _⟩ := ho6.cell (show q < Bk.length by omega)
            have hi1 : (0 : Int) ≤ (q : Int) := by omega
            have hi2 : (q : Int) < (X.length : Int) := by omega
            have hi3 : (q : Int) < (Bk.length : Int) := by omega
            have hi4 : q < Bk.length := by omega
            have HZ := HB2.out.2 q hqX
            by_cases hqi : q = i
            · rw [if_pos hqi] at HZ
              have heq : ((q : Int) == (i : Int)) = true := by simp [hqi]
              rw [HZ] at hcb
              clear HZ hqi
              go_wp2_with (go_at_call 18; refine (HA6 _ r6).mono ?_; rintro e w' ⟨rfl, rfl⟩)
              go_round
              case rel => exact ⟨q + 1, by omega, by go_num⟩
              case measure => simp [intOf]; omega
            · rw [if_neg hqi] at HZ
              have heq : ((q : Int) == (i : Int)) = false := beq_eq_false_iff_ne.2 (by omega)
              rw [HZ] at hcb
              clear HZ hqi
              go_wp2
              go_round
              case rel => exact ⟨q + 1, by omega, by go_num⟩
              case measure => simp [intOf]; omega
          · obtain rfl : q = X.length := by omega
            go_wp2
            go_ret
            exact ⟨rfl, K6⟩
end Go.Proofs.Ytkmbblooofmnpaa
