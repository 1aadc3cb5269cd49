/- The walk of FnLanes. -/
import Derived.Test.YtkmbblooofmnpaaLaneLaw
import Derived.Test.YtkmbblooofmnpaaRecv
import Derived.Test.YtkmbblooofmnpaaSend2
import Derived.Test.YtkmbblooofmnpaaDraw
import Derived.Test.YtkmbblooofmnpaaAt
import Derived.Test.YtkmbblooofmnpaaSym
namespace Go.Proofs.Ytkmbblooofmnpaa
open Go.RowKit Go.Deep
theorem symsF_nib {zs : List Int} (h : NIB zs) : symsF zs = symL zs := by
  unfold symsF
  rw [if_pos]
  rw [List.all_eq_true]
  intro z hz
  exact inB_t.2 (h z hz)
theorem tabL_rng : ∀ z ∈ tabL, 0 ≤ z ∧ z ≤ 31 := by decide
theorem symL_rng (zs : List Int) : ∀ z ∈ symL zs, 0 ≤ z ∧ z ≤ 31 := by
  intro z hz
  obtain ⟨y, _, rfl⟩ := List.mem_map.1 hz
  by_cases h : y.toNat < tabL.length
  · exact tabL_rng _ (zat_mem h)
  · rw [zat, List.getD_eq_getElem?_getD, List.getElem?_eq_none (Nat.le_of_not_lt h)]; exact ⟨Int.le_refl _, by decide⟩
/-- The skews that the laws make of the code. -/
def skF (zs : List Int) (n : Nat) : List Int := (List.range n).map fun k => atF zs (k + 1) % 9
theorem skF_len (zs : List Int) (n : Nat) : (skF zs n).length = n := by simp [skF]
theorem skF_snoc (zs : List Int) (n : Nat) : skF zs (n + 1) = skF zs n ++ [atF zs (n + 1) % 9] := by simp [skF, List.range_succ]
theorem skF_rng (zs : List Int) (n : Nat) : ∀ z ∈ skF zs n, 0 ≤ z ∧ z ≤ 8 := by
  intro z hz
  obtain ⟨k, _, rfl⟩ := List.mem_map.1 hz
  omega
theorem send_ok {xs sk : List Int} (h1 : lcB sk.length = true) (h2 : ∀ z ∈ sk, 0 ≤ z ∧ z ≤ 8) (h3 : ∀ z ∈ xs, 0 ≤ z ∧ z ≤ 31) : sendOk xs sk = true := by
  simp only [sendOk, Bool.and_eq_true, List.all_eq_true]
  exact ⟨⟨h1, fun z hz => inB_t.2 (h2 z hz)⟩, fun z hz => inB_t.2 (h3 z hz)⟩
/-- What comes back begins with what was sent. -/
theorem back_take {xs sk : List Int} (h : sendOk xs sk = true) : recvF (sendF xs sk) = ((recvF (sendF xs sk)).1, true) ∧ xs.length ≤ (recvF (sendF xs sk)).1.length ∧ (recvF (sendF xs sk)).1.take xs.length = xs := by
  obtain ⟨h1, h2, h3⟩ := (send_carry h).recv
  refine ⟨by rw [recvF_yes h1], h2, list_eq_zat (by rw [List.length_take]; omega) fun j hj => ?_⟩
  have hj' : j < xs.length := by rw [List.length_take] at hj; omega
  rw [← h3 j hj', zat, zat, List.getD_eq_getElem?_getD, List.getD_eq_getElem?_getD, List.getElem?_take, if_pos hj']
theorem shl3 {a : Int} (_h0 : 0 ≤ a) : ∃ N : Nat, wrap64 (2 ^ (a % 3).toNat) = (N : Int) ∧ lcB (N : Int) = true := by
  have h : a % 3 = 0 ∨ a % 3 = 1 ∨ a % 3 = 2 := by omega
  rcases h with h | h | h <;> rw [h]
  · exact ⟨1, by decide +kernel, by decide⟩
  · exact ⟨2, by decide +kernel, by decide⟩
  · exact ⟨4, by decide +kernel, by decide⟩
set_option maxRecDepth 10000 in
set_option maxHeartbeats 4000000 in
theorem walk_fnLanes (w : World) (A : Option Addr) (n c : Nat) (zs : List Int) (r0 : RB w w.heap.size A n zs) (hz : BY zs) (_g : n ≤ c) (_i : c ≤ maxLen) :
    Calls Try.prog 9 #[.slice A n c] w fun e w' => e = .returned (.bool true) ∧ Below w.heap.size w w' := by
  by_cases hbig : 1048576 < n
  · go_enter Try.func9, Try.ntmps9
    go_wp2_with (go_at_call 12; refine (big_any _ _ _ _).mono ?_; rintro e w' ⟨rfl, rfl⟩)
    go_ret
    exact ⟨rfl, Below.refl _ _⟩
  · have hn : n ≤ 1048576 := by omega
    go_enter Try.func9, Try.ntmps9
    go_wp2_with (go_at_call 12; refine (big_any _ _ _ _).mono ?_; rintro e w' ⟨rfl, rfl⟩)
    refine (drawNibbles_any A n c _ zs _ r0 hz (Nat.le_refl _) hn).mono ?_
    rintro e w1 ⟨L, hnib, hlen, AL, nL, cL, rfl, hoL, hb1⟩
    obtain rfl : nL = L.length := hoL.len.symm
    have s1 := hb1.size
    have r1 := r0.below hb1 (Nat.le_refl _)
    go_wp2_with fail
    refine (symbolsOf_s AL L.length cL _ L _ hoL.ri (Nat.le_refl _) (by omega)).mono ?_
    rw [symsF_nib hnib]
    have hsr := Lib.hid (symL_rng L)
    have hsl := Lib.hid (symL_len L)
    generalize symL L = X at hsr hsl
    rintro e w2 ⟨AX, nX, cX, rfl, hoX, hb2⟩
    obtain rfl : nX = X.length := hoX.len.symm
    have hX39 : X.length ≤ 39 := by have := hsl.out; omega
    have s2 := hb2.size
    have K2 := bthen hb1 hb2 (by omega)
    have r2 := r1.below hb2 (by omega)
    have HA0 := fun W h => at_any A n c w.heap.size zs 0 W h hz hn (by omega)
    have hrng := atF_rng hz 0
    obtain ⟨a, ha, ha3⟩ : ∃ a : Int, a = atF zs 0 ∧ 0 ≤ a ∧ a ≤ 255 := ⟨_, rfl, hrng⟩
    rw [← ha] at HA0
    clear ha hrng hoL hb1 hb2 r1 r0 hnib hlen
    go_wp2_with (go_at_call 18; refine (HA0 _ r2).mono ?_; rintro e w' ⟨rfl, rfl⟩)
    obtain ⟨N, hN, hNc⟩ := shl3 ha3.1
    rw [hN]
    have hN4 := lcB_le hNc
    have HNC := Lib.hid hNc
    have HO := own_lit0 w2
    have HX2 : Own (w2.alloc (.cells #[] 3)) w1.heap.size w2.heap.size AX X.length cX X := hoX.alloc _
    have r3 := RB.below r2 ((Below.refl w2.heap.size w2).alloc (Nat.le_refl _) (.cells #[] 3)) (by omega)
    have KK := K2.alloc (by omega) (.cells #[] 3)
    clear hN hNc HA0
    go_loopw [5, 6] (fun o i wr => ∃ k : Nat, k ≤ N ∧ i = .int .i64 k ∧ ∃ A' c', o = .slice A' k c' ∧ Own wr w2.heap.size wr.heap.size A' k c' (skF zs k) ∧ Below w2.heap.size w2 wr) (fun _ i _ => N - (intOf i).toNat)
    case atStart => exact ⟨0, Nat.zero_le _, rfl, _, _, rfl, by simpa [skF] using HO.top, (Below.refl _ _).alloc (Nat.le_refl _) _⟩
    case round =>
      rename World => w3
      obtain ⟨k, hk, rfl, A', c', rfl, hown, hbel⟩ := hrel
      clear HO HX2 r3 KK
      have hsz := hbel.size
      have r3 := r2.below hbel (by omega)
      have o3 := hoX.below hbel (Nat.le_refl _)
      have K3 := K2.trans (hbel.mono (by omega))
      by_cases hlt : k < N
      · have HA1 := at_any A n c w.heap.size zs (k + 1) w3 r3 hz hn (by omega)
        have hcast : ((k + 1 : Nat) : Int) = (k : Int) + 1 := by omega
        rw [hcast] at HA1
        have hrng := atF_rng hz (k + 1)
        have HS := Lib.hid (skF_snoc zs k)
        obtain ⟨b, hb⟩ : ∃ b : Int, b = atF zs (k + 1) := ⟨_, rfl⟩
        rw [← hb] at HA1 hrng
        have HB := Lib.hid hb
        have hk1 : (k : Int) < (N : Int) := by omega
        have hb0 : 0 ≤ b := hrng.1
        have hb1 : b ≤ 255 := hrng.2
        clear hb hcast hrng
        go_wp2_with (first
          | (go_at_call 18; refine HA1.mono ?_; rintro e w' ⟨rfl, rfl⟩)
          | (at_builtin; refine wpList_append_ints rfl _ _ _ rfl Try.underlying24 infoInt _ _ _ _ _ _ rfl (hown.alloc _) _ _ _ _ _ rfl (ri_one _ _ _) (by omega) (by simp; omega) ?_; intro A7 c7 w7 ho7 hoff7 hb7))
        rw [HB.out, ← HS.out] at ho7
        have K7 := (hbel.alloc (by omega) (.cells #[.int .i64 (b % 9)] 3)).trans hb7
        go_roundw
        case rel => exact ⟨k + 1, by omega, by go_num, _, _, rfl, ho7, K7⟩
        case measure => simp [intOf]; omega
      · obtain rfl : k = N := by omega
        have OK : Hid (sendOk X (skF zs k) = true) := Lib.hid (send_ok (by rw [skF_len]; exact HNC.out) (skF_rng zs k) hsr.out)
        have hskl := Lib.hid (skF_len zs k)
        have hskr := Lib.hid (skF_rng zs k)
        generalize skF zs k = sk at OK hskl hskr hown
        have HSC := Lib.hid (send_carry OK.out)
        go_wp2_with fail
        refine (send_i AX A' X.length cX _ k c' _ X sk _ o3.ri hown.ri (by omega) (by omega) (by omega) (by omega)).mono ?_
        rintro e w4 ⟨A4, n4, c4, rfl, ho4, hb4⟩
        obtain rfl : k = n4 := by have h1 := ho4.len; rw [sendF_len OK.out, hskl.out] at h1; exact h1
        have s4 := hb4.size
        have o4 := o3.below hb4 (by omega)
        have own4 := hown.below hb4 (by omega)
        have K4 := bthen K3 hb4 (by omega)
        have HRL : Hid (∀ l ∈ sendF X sk, l.length ≤ 4294967296) := Lib.hid fun l hl => by have h1 := tot_mem hl; have h2 := sendF_tot X sk; omega
        clear o3 hown hb4 K3 r3 hbel
        go_wp2_with fail
        refine (recv_i A4 k c4 _ (sendF X sk) _ ho4.rss (Nat.le_refl _) (by omega) HRL.out).mono ?_
        have HBK := back_take OK.out
        rw [HBK.1]
        have HB2 := Lib.hid HBK.2
        generalize (recvF (sendF X sk)).1 = Bk at HB2
        clear HBK
        rintro e w5 ⟨A5, n5, c5, rfl, ho5, hb5⟩
        obtain rfl : n5 = Bk.length := ho5.len.symm
        have s5 := hb5.size
        have lane5 := ho4.below hb5 (Nat.le_refl _)
        have o5 := o4.below hb5 (by omega)
        have own5 := own4.below hb5 (by omega)
        have K5 := bthen K4 hb5 (by omega)
        clear ho4 o4 own4 K4 hb5
        have hlen1 : X.length ≤ Bk.length := HB2.out.1
        have hcap5 := ho5.cap
        have hlt5 : ¬ Bk.length < X.length := by omega
        have RT := ho5.ri.take hlen1
        rw [HB2.out.2] at RT
        have HSI := fun W hW1 hW2 => sameInts_t A5 AX X.length X.length c5 cX w5.heap.size w2.heap.size X W hW1 hW2 (by omega)
        go_wp2_with fail
        refine (HSI _ RT o5.ri).mono ?_
        rintro e w6 ⟨rfl, hb6⟩
        have s6 := hb6.size
        have lane6 := lane5.below hb6 (by omega)
        have own6 := own5.below hb6 (by omega)
        have K6 := bthen K5 hb6 (by omega)
        clear HSI RT ho5 lane5 o5 own5 K5 hb6 hlt5 hcap5 hlen1 HB2
        go_wp2
        go_loopw [10] (fun i wr => ∃ q : Nat, q ≤ k ∧ i = .int .i64 q ∧ Below w6.heap.size w6 wr) (fun i _ => k - (intOf i).toNat)
        case atStart => exact ⟨0, Nat.zero_le _, rfl, Below.refl _ _⟩
        case round =>
          rename World => w7
          obtain ⟨q, hq, rfl, hb7⟩ := hrel
          by_cases hqk : q < k
          · have s7 := hb7.size
            have hqs : q < sk.length := by have := hskl.out; omega
            have h0s : 0 < sk.length := by omega
            obtain ⟨g, Aq, nq, cq, lq, hq', eA, hcq, _, _, hqq, hoq, _⟩ := (lane6.below hb7 (by omega)).at_ hqk
            obtain ⟨g', A0, n0, c0, l0, h0', eA', hc0, _, _, _, ho0, _⟩ := (lane6.below hb7 (by omega)).at_ (show 0 < k by omega)
            subst eA
            simp only [Option.some.injEq, Addr.mk.injEq, and_true] at eA'
            subst eA'
            obtain ⟨gs, eS, _, _, hcs, _⟩ := (own6.below hb7 (by omega)).cell hqk
            subst eS
            have HL1 := hoq.len
            have HL2 := ho0.len
            rw [lat_sendF OK.out hqs, sendL_len hqs (sendOk_t OK.out).2.1] at HL1
            rw [lat_sendF OK.out h0s, sendL_len h0s (sendOk_t OK.out).2.1] at HL2
            obtain rfl : n0 = nq := HL2.symm.trans HL1
            have hST := startOf_i Aq n0 cq hq' (lat (sendF X sk) q) w7.drew (RV.drewN hoq.ri 1) (by have h1 := hoq.len; have h2 := HRL.out _ (by rw [lat_eq (by rw [sendF_len OK.out]; exact hqs)]; exact List.getElem_mem _ : lat (sendF X sk) q ∈ sendF X sk); omega)
            have hzz := hskr.out _ (zat_mem hqs)
            rw [lat_sendF OK.out hqs, sendL_find, show ((zat sk q).toNat : Int) = zat sk q by omega] at hST
            have hi1 : (0 : Int) ≤ (q : Int) := by omega
            have hi2 : (q : Int) < (k : Int) := by omega
            have hk0 : (0 : Int) < (k : Int) := by omega
            have hk0' : 0 < k := by omega
            have hcq' : w7.drew.cell? ⟨g, q, none⟩ = some (.slice Aq n0 cq) := hcq
            have hc0' : w7.drew.cell? ⟨g, 0, none⟩ = some (.slice A0 n0 c0) := hc0
            have hcs' : w7.drew.cell? ⟨gs, q, none⟩ = some (.int .i64 (zat sk q)) := hcs
            clear HL1 HL2 hoq ho0 hzz
            go_wp2_with fail
            go_region_held3 (fun w' => w'.cell? ⟨g, q, none⟩ = some (.slice Aq n0 cq) ∧ w'.cell? ⟨g, 0, none⟩ = some (.slice A0 n0 c0) ∧ w'.cell? ⟨gs, q, none⟩ = some (.int .i64 (zat sk q)))
              (exact ⟨hcq', hc0', hcs'⟩)
              (first | (go_at_call 44; refine hST.mono ?_; rintro e w' ⟨rfl, rfl⟩))
            go_wp2
            go_roundw
            case rel => exact ⟨q + 1, by omega, by go_num, hb7.drew⟩
            case measure => simp [intOf]; omega
          · obtain rfl : q = k := by omega
            go_wp2
            go_ret
            exact ⟨rfl, bthen K6 hb7 (by omega)⟩
end Go.Proofs.Ytkmbblooofmnpaa
