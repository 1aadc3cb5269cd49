/- DecodeBlocks, program and reference. -/
import Derived.Test.YtkmbblooofmnpaaDec
namespace Go.Proofs.Ytkmbblooofmnpaa
open Go.RowKit Go.Deep

def dblk (zs : List Int) (i : Nat) : List Int := (zs.drop (15 * i)).take 15
def decTo (zs : List Int) (j : Nat) : List Int := (List.range j).flatMap fun i => decF (dblk zs i)
def cntTo (v : Int) (zs : List Int) (j : Nat) : Nat := (List.range j).countP fun i => decK (dblk zs i) == v
def decBs (zs : List Int) : List Int := if nibs zs then decTo zs (zs.length / 15) else []
def decX (v : Int) (zs : List Int) : Int := if nibs zs then ((cntTo v zs (zs.length / 15) : Nat) : Int) else 0
theorem decTo_succ (zs : List Int) (j : Nat) : decTo zs (j + 1) = decTo zs j ++ decF (dblk zs j) := by simp [decTo, List.range_succ]
theorem cntTo_succ (v : Int) (zs : List Int) (j : Nat) : cntTo v zs (j + 1) = cntTo v zs j + if decK (dblk zs j) == v then 1 else 0 := by
  simp [cntTo, List.range_succ, List.countP_cons]
theorem cntTo_le (v : Int) (zs : List Int) (j : Nat) : cntTo v zs j ≤ j := by
  have := List.countP_le_length (p := fun i => decK (dblk zs i) == v) (l := List.range j)
  simpa [cntTo] using this
def RetOwn3 (w : World) (zs : List Int) (x y : Int) (e : Ending) (w' : World) : Prop := ∃ A n c, e = .returned (.tuple #[.slice A n c, .int .i64 x, .int .i64 y]) ∧ Own w' w.heap.size w'.heap.size A n c zs ∧ Below w.heap.size w w'
theorem decK_cases (zs : List Int) (h : ok15 zs = true) : decK zs = 0 ∨ decK zs = 1 ∨ decK zs = 2 := by
  unfold decK decC
  rw [h, if_pos rfl]
  split
  · exact .inl rfl
  · split
    · exact .inr (.inr rfl)
    · exact .inr (.inl rfl)
theorem dblk_ok {zs : List Int} (h : nibs zs = true) {j : Nat} (hj : 15 * j + 15 ≤ zs.length) : ok15 (dblk zs j) = true := by
  unfold ok15 nibs dblk
  have h1 : ((zs.drop (15 * j)).take 15).all (fun z => inB z 0 15) = true := by
    rw [List.all_eq_true]
    intro x hx
    exact List.all_eq_true.1 h x (List.mem_of_mem_drop (List.mem_of_mem_take hx))
  rw [h1]
  simp
  omega
def lenVd : Value → Nat
  | .slice _ n _ => n
  | _ => 0
set_option maxHeartbeats 1000000 in
theorem decodeBlocks_i (A : Option Addr) (n c B : Nat) (zs : List Int) (w : World) (h : RI w B A n zs) (hB : B ≤ w.heap.size) (hn : n ≤ 4294967296) (hc : n ≤ c) :
    Calls Try.prog 39 #[.slice A n c] w (RetOwn3 w (decBs zs) (decX 1 zs) (decX 2 zs)) := by
  have hl := Lib.hid h.len
  cases h1 : zs.all (fun z => inB z 0 15)
  · have HF := Lib.hid (show decBs zs = [] by simp only [decBs, nibs, h1]; simp)
    have HX := Lib.hid (show ∀ v, decX v zs = 0 by intro v; simp only [decX, nibs, h1]; simp)
    go_enter Try.func39, Try.ntmps39
    go_wp2_with (go_at_call 63; refine (areNibbles_any _ _ _ _ _ _ h hn).mono ?_; rintro e w1 ⟨rfl, rfl⟩)
    go_ret3
    rw [HF.out, HX.out, HX.out]
    exact ⟨_, _, _, rfl, Own.nil, Below.refl _ _⟩
  · have HN := Lib.hid (show nibs zs = true from h1)
    have HF := Lib.hid (show decBs zs = decTo zs (zs.length / 15) by simp only [decBs, nibs, h1]; simp)
    have HX := Lib.hid (show ∀ v, decX v zs = ((cntTo v zs (zs.length / 15) : Nat) : Int) by intro v; simp only [decX, nibs, h1]; simp)
    have HL := own_lit0 w
    go_enter Try.func39, Try.ntmps39
    go_wp2_with (go_at_call 63; refine (areNibbles_any _ _ _ _ _ _ h hn).mono ?_; rintro e w1 ⟨rfl, rfl⟩)
    go_loopw [0, 5, 6, 7] (fun l v f b wr => ∃ (j N : Nat) (A1 : Option Addr) (C : Nat), l = .slice A1 N C ∧ Hid (N + 15 * j = n) ∧ N ≤ C ∧ N ≤ n ∧ j ≤ n ∧ RI wr B A1 N (zs.drop (15 * j)) ∧ ∃ (A' : Option Addr) (L c' x y : Nat), v = .slice A' L c' ∧ L ≤ 13 * j ∧ f = .int .i64 x ∧ b = .int .i64 y ∧ x ≤ j ∧ y ≤ j ∧ Hid (x = cntTo 1 zs j) ∧ Hid (y = cntTo 2 zs j) ∧ Own wr w.heap.size wr.heap.size A' L c' (decTo zs j) ∧ Below w.heap.size w wr) (fun l _ _ _ _ => lenVd l)
    case atStart => exact ⟨0, n, _, _, rfl, Lib.hid (by omega), hc, Nat.le_refl _, Nat.zero_le _, RV.alloc h hB _, _, _, _, 0, 0, rfl, Nat.le_refl _, rfl, rfl, Nat.le_refl _, Nat.le_refl _, Lib.hid (by simp [cntTo]), Lib.hid (by simp [cntTo]), HL.top, (Below.refl _ _).alloc (Nat.le_refl _) _⟩
    case round =>
      obtain ⟨j, N, A1, C, rfl, hNj, hNC, hNn, hjn, hr, A', L, c', x, y, rfl, hL, rfl, rfl, hxj, hyj, hx, hy, hown, hbel⟩ := hrel
      have hsz := hbel.size
      clear HL
      by_cases hlt : 15 ≤ N
      · obtain ⟨b, off, rfl, hb, _⟩ := RI.at_ hr (show 0 < N by omega)
        have hr15 := hr.take hlt
        have HOK := Lib.hid (dblk_ok HN.out (show 15 * j + 15 ≤ zs.length by have := hNj.out; have := hl.out; omega))
        have hcut := hr.cut hlt hNC
        have HDR := Lib.hid (show (zs.drop (15 * j)).drop 15 = zs.drop (15 * (j + 1)) by rw [List.drop_drop]; congr 1)
        rw [HDR.out] at hcut
        have C1 := Lib.hid (cntTo_succ 1 zs j)
        have C2 := Lib.hid (cntTo_succ 2 zs j)
        go_wp2_with fail
        refine (decodeBlock_i (some ⟨b, off, none⟩) 15 _ _ (dblk zs j) _ hr15 (by omega) (by omega)).mono ?_
        rintro e w2 ⟨A2, n2, c2, rfl, ho2, hb2⟩
        have hn2 : n2 ≤ 13 := by have := ho2.len; have := decF_len (dblk zs j); omega
        have hown2 := hown.below hb2 (Nat.le_refl _)
        have K2 := bthen hbel hb2 hsz
        have hcut2 := hcut.below hb2 (by omega)
        have s2 := hb2.size
        obtain ⟨code, hcode⟩ : ∃ code, code = decK (dblk zs j) := ⟨_, rfl⟩
        have HCK := Lib.hid (hcode ▸ decK_cases _ HOK.out)
        rw [← hcode]
        have C1' := C1.out
        have C2' := C2.out
        rw [← hcode] at C1' C2'
        clear hown hbel hb2 hcut hcode C1 C2 hr hr15
        by_cases hC : C = 15
        · subst hC
          obtain rfl : N = 15 := by omega
          rw [if_pos rfl, Nat.sub_self] at hcut2
          rcases HCK.out with rfl | rfl | rfl
          · simp at C1' C2'
            have D1 := Lib.hid C1'
            have D2 := Lib.hid C2'
            clear C1' C2'
            go_wp2_with (at_builtin; refine wpList_append_ints rfl _ _ _ rfl Try.underlying24 infoInt _ _ _ _ _ _ rfl hown2 _ _ _ _ _ rfl ho2.ri (by omega) (by omega) ?_; intro A4 c4 w4 ho4 hoff4 hb4; rw [← decTo_succ] at ho4; have hcut4 := hcut2.below hb4 (by omega))
            go_roundw
            case rel => exact ⟨j + 1, _, _, _, rfl, Lib.hid (by have := hNj.out; omega), by omega, by omega, by have := hNj.out; omega, hcut4, _, _, _, x, y, rfl, by omega, by go_num, by go_num, by omega, by omega, Lib.hid (by rw [D1.out, ← hx.out]), Lib.hid (by rw [D2.out, ← hy.out]), ho4, K2.trans hb4⟩
            case measure => simp [lenVd] <;> omega
          · simp at C1' C2'
            have D1 := Lib.hid C1'
            have D2 := Lib.hid C2'
            clear C1' C2'
            go_wp2_with (at_builtin; refine wpList_append_ints rfl _ _ _ rfl Try.underlying24 infoInt _ _ _ _ _ _ rfl hown2 _ _ _ _ _ rfl ho2.ri (by omega) (by omega) ?_; intro A4 c4 w4 ho4 hoff4 hb4; rw [← decTo_succ] at ho4; have hcut4 := hcut2.below hb4 (by omega))
            go_roundw
            case rel => exact ⟨j + 1, _, _, _, rfl, Lib.hid (by have := hNj.out; omega), by omega, by omega, by have := hNj.out; omega, hcut4, _, _, _, x + 1, y, rfl, by omega, by go_num, by go_num, by omega, by omega, Lib.hid (by rw [D1.out, ← hx.out]), Lib.hid (by rw [D2.out, ← hy.out]), ho4, K2.trans hb4⟩
            case measure => simp [lenVd] <;> omega
          · simp at C1' C2'
            have D1 := Lib.hid C1'
            have D2 := Lib.hid C2'
            clear C1' C2'
            go_wp2_with (at_builtin; refine wpList_append_ints rfl _ _ _ rfl Try.underlying24 infoInt _ _ _ _ _ _ rfl hown2 _ _ _ _ _ rfl ho2.ri (by omega) (by omega) ?_; intro A4 c4 w4 ho4 hoff4 hb4; rw [← decTo_succ] at ho4; have hcut4 := hcut2.below hb4 (by omega))
            go_roundw
            case rel => exact ⟨j + 1, _, _, _, rfl, Lib.hid (by have := hNj.out; omega), by omega, by omega, by have := hNj.out; omega, hcut4, _, _, _, x, y + 1, rfl, by omega, by go_num, by go_num, by omega, by omega, Lib.hid (by rw [D1.out, ← hx.out]), Lib.hid (by rw [D2.out, ← hy.out]), ho4, K2.trans hb4⟩
            case measure => simp [lenVd] <;> omega
        · rw [if_neg hC] at hcut2
          have hC15 : 15 < C := by omega
          rcases HCK.out with rfl | rfl | rfl
          · simp at C1' C2'
            have D1 := Lib.hid C1'
            have D2 := Lib.hid C2'
            clear C1' C2' hC
            go_wp2_with (at_builtin; refine wpList_append_ints rfl _ _ _ rfl Try.underlying24 infoInt _ _ _ _ _ _ rfl hown2 _ _ _ _ _ rfl ho2.ri (by omega) (by omega) ?_; intro A4 c4 w4 ho4 hoff4 hb4; rw [← decTo_succ] at ho4; have hcut4 := hcut2.below hb4 (by omega))
            go_roundw
            case rel => exact ⟨j + 1, _, _, _, rfl, Lib.hid (by have := hNj.out; omega), by omega, by omega, by have := hNj.out; omega, hcut4, _, _, _, x, y, rfl, by omega, by go_num, by go_num, by omega, by omega, Lib.hid (by rw [D1.out, ← hx.out]), Lib.hid (by rw [D2.out, ← hy.out]), ho4, K2.trans hb4⟩
            case measure => simp [lenVd] <;> omega
          · simp at C1' C2'
            have D1 := Lib.hid C1'
            have D2 := Lib.hid C2'
            clear C1' C2' hC
            go_wp2_with (at_builtin; refine wpList_append_ints rfl _ _ _ rfl Try.underlying24 infoInt _ _ _ _ _ _ rfl hown2 _ _ _ _ _ rfl ho2.ri (by omega) (by omega) ?_; intro A4 c4 w4 ho4 hoff4 hb4; rw [← decTo_succ] at ho4; have hcut4 := hcut2.below hb4 (by omega))
            go_roundw
            case rel => exact ⟨j + 1, _, _, _, rfl, Lib.hid (by have := hNj.out; omega), by omega, by omega, by have := hNj.out; omega, hcut4, _, _, _, x + 1, y, rfl, by omega, by go_num, by go_num, by omega, by omega, Lib.hid (by rw [D1.out, ← hx.out]), Lib.hid (by rw [D2.out, ← hy.out]), ho4, K2.trans hb4⟩
            case measure => simp [lenVd] <;> omega
          · simp at C1' C2'
            have D1 := Lib.hid C1'
            have D2 := Lib.hid C2'
            clear C1' C2' hC
            go_wp2_with (at_builtin; refine wpList_append_ints rfl _ _ _ rfl Try.underlying24 infoInt _ _ _ _ _ _ rfl hown2 _ _ _ _ _ rfl ho2.ri (by omega) (by omega) ?_; intro A4 c4 w4 ho4 hoff4 hb4; rw [← decTo_succ] at ho4; have hcut4 := hcut2.below hb4 (by omega))
            go_roundw
            case rel => exact ⟨j + 1, _, _, _, rfl, Lib.hid (by have := hNj.out; omega), by omega, by omega, by have := hNj.out; omega, hcut4, _, _, _, x, y + 1, rfl, by omega, by go_num, by go_num, by omega, by omega, Lib.hid (by rw [D1.out, ← hx.out]), Lib.hid (by rw [D2.out, ← hy.out]), ho4, K2.trans hb4⟩
            case measure => simp [lenVd] <;> omega
      · have HJ := Lib.hid (show zs.length / 15 = j by have := hNj.out; have := hl.out; omega)
        go_wp2
        go_ret3
        rw [HF.out, HX.out, HX.out, HJ.out, ← hx.out, ← hy.out]
        exact ⟨_, _, _, rfl, hown, hbel⟩
end Go.Proofs.Ytkmbblooofmnpaa
