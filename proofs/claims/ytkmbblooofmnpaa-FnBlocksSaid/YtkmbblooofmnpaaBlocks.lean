/- EncodeBlocks, DecodeBlocks, program and reference. -/
import Derived.Test.YtkmbblooofmnpaaEnc
import Derived.Test.YtkmbblooofmnpaaDec
import Derived.Laws.CopyOwn
namespace Go.Proofs.Ytkmbblooofmnpaa
open Go.RowKit Go.Deep

section
variable {P : Program}
/-- copy into a slice of ints of the call's own. -/
theorem wpList_copy_ints {ops : Array Oper} {rest : List Oper} {o : Oper} {a : Act} {Q : Exit → Act → World → Prop} {w : World} (hgd : o.guard = none) (d s : Operand) (t : TypeId)
    (ho : o.op = .call { callee := .builtin .copy, args := #[d, s], argTypes := #[t, t] })
    (hu : P.underlying t = some (.slice 3)) (hinfo : (P.info? 3).map (fun i => (i.zero, i.size, i.bytes)) = some (some (.int .i64 0), 1, 8))
    (lo hi : Nat) (A : Option Addr) (n c : Nat) (zs : List Int) (hd : a.eval d = .slice A n c) (hown : Own w lo hi A n c zs) (hn : 0 < n)
    (B : Nat) (S : Option Addr) (m e : Nat) (news : List Int) (hs : a.eval s = .slice S m e) (hr : RI w B S m news)
    (h : ∀ w', Own w' lo hi A n c (news.take n ++ zs.drop m) → Below lo w w' → wpList P ops Q rest (a.put o.dst (goInt (news.take n).length)) w') : wpList P ops Q (o :: rest) a w := by
  obtain ⟨i, hi', hz0, hsz, hby⟩ := info_parts hinfo
  have hlz := hown.len
  have hln := hr.len
  obtain ⟨h1, h2, h3, h4⟩ := hown
  rcases h4 with ⟨_, h4⟩ | ⟨g, cur, rfl, hl, hh, hg, hcs, htk⟩
  · omega
  · have hcur : cur.toList.length = c := by simpa using hcs
    refine wpList_copy_splice (w := w) hgd d s t t ho 3 hu (by rw [hi']; simp [hsz]) (some ⟨g, 0, none⟩) S n c m e hd hs g 0 cur.toList 3 (by simpa using hg) ((news.take n).map vInt) ?_ ?_ ?_ ?_ lo w (Below.refl _ _) hl ?_
    · simp only [List.length_map, List.length_take, hln]
      show min n m = min m n
      omega
    · intro hp
      simp only [List.length_map, List.length_take] at hp
      obtain ⟨b, off, rfl, _, hc⟩ := RV.mem hr (by omega)
      refine ⟨rfl, _, rfl, fun j v hv => ?_⟩
      have hj : j < (news.take n).length := by have := (List.getElem?_eq_some_iff.1 hv).1; simpa using this
      have hv' : (news.map vInt)[j]? = some v := by
        rw [← hv, List.getElem?_map, List.getElem?_map, List.getElem?_take]
        rw [List.length_take] at hj
        rw [if_pos (by omega)]
      have := hc j v hv'
      by_cases h0 : j = 0
      · subst h0; simpa [Addr.add] using this
      · simpa [Addr.add, h0] using this
    · simp only [List.length_map, List.length_take]; omega
    · exact oneCell_vInt _
    · intro w' hw' hb'
      have hmn : (news.take n ++ zs.drop m).length = n := by simp only [List.length_append, List.length_take, List.length_drop]; omega
      have key := h w' ⟨by rw [List.length_map]; exact hmn, h2, h3, .inr ⟨g, (splice cur.toList 0 ((news.take n).map vInt)).toArray, rfl, hl, hh, hw'.out, ?_, ?_⟩⟩ hb'
      · simpa using key
      · simp only [List.size_toArray]
        rw [length_splice _ _ _ (by simp only [List.length_map, List.length_take]; omega)]
        exact hcur
      · simp only [splice, List.take_zero, List.nil_append, Nat.zero_add]
        rw [List.map_append, List.take_append, List.take_of_length_le (by simp; omega)]
        congr 1
        rw [List.map_drop, ← htk]
        simp only [List.length_map, List.length_take, hln]
        by_cases hm : n ≤ m
        · rw [Nat.min_eq_left hm, Nat.sub_self, List.take_zero, List.drop_eq_nil_of_le (by simp; omega)]
        · rw [Nat.min_eq_right (by omega), List.take_drop, Nat.add_sub_cancel' (by omega)]
end

def lenV : Value → Nat
  | .slice _ n _ => n
  | _ => 0
/-! ### EncodeBlocks -/
def blk (zs : List Int) (i : Nat) : List Int := (zs.drop (13 * i)).take 13 ++ List.replicate (13 - ((zs.drop (13 * i)).take 13).length) 0
def encTo (zs : List Int) (j : Nat) : List Int := (List.range j).flatMap fun i => encF (blk zs i)
def encBs (zs : List Int) : List Int := if nibs zs then encTo zs ((zs.length + 12) / 13) else []
theorem encTo_succ (zs : List Int) (j : Nat) : encTo zs (j + 1) = encTo zs j ++ encF (blk zs j) := by simp [encTo, List.range_succ]
theorem encF_len (zs : List Int) : (encF zs).length ≤ 15 := by
  unfold encF
  split
  · rename_i h
    have := (Bool.and_eq_true_iff.1 h).1
    simp at this
    simp [encW, this]
  · simp
theorem encodeBlocks_i (A : Option Addr) (n c B : Nat) (zs : List Int) (w : World) (h : RI w B A n zs) (hB : B ≤ w.heap.size) (hn : n ≤ 4294967296) (hc : n ≤ c) :
    Calls Try.prog 38 #[.slice A n c] w (RetOwn w (encBs zs)) := by
  have hl := Lib.hid h.len
  cases h1 : zs.all (fun z => inB z 0 15)
  · have HF := Lib.hid (show encBs zs = [] by simp only [encBs, nibs, h1]; simp)
    go_enter Try.func38, Try.ntmps38
    go_wp2_with (go_at_call 63; refine (areNibbles_any _ _ _ _ _ _ h hn).mono ?_; rintro e w1 ⟨rfl, rfl⟩)
    go_ret
    rw [HF.out]
    exact ⟨_, _, _, rfl, Own.nil, Below.refl _ _⟩
  · have HF := Lib.hid (show encBs zs = encTo zs ((zs.length + 12) / 13) by simp only [encBs, nibs, h1]; simp)
    have hmk : ∀ w : World, (Instr.makeSlice 24 (.int .i64 13) (.int .i64 13)).run Try.prog w = .ok (.slice (some ⟨w.heap.size, 0, none⟩) 13 13) (w.alloc (.cells (madeCells #[.int .i64 0] 13) 3)) :=
      run_make_row' (P := Try.prog) 24 3 (.int .i64 0) 8 Try.underlying24 infoInt rfl .i64 .i64 13 (by omega) (by omega)
    have HL := own_lit0 w
    go_enter Try.func38, Try.ntmps38
    go_wp2_with (go_at_call 63; refine (areNibbles_any _ _ _ _ _ _ h hn).mono ?_; rintro e w1 ⟨rfl, rfl⟩)
    go_loopw [3, 4] (fun v i wr => ∃ k j : Nat, i = .int .i64 k ∧ Hid (k = 13 * j) ∧ k ≤ n + 12 ∧ ∃ (A' : Option Addr) (L c' : Nat), v = .slice A' L c' ∧ L ≤ 15 * j ∧ j ≤ k ∧ Own wr w.heap.size wr.heap.size A' L c' (encTo zs j) ∧ Below w.heap.size w wr) (fun _ i _ => n + 13 - (intOf i).toNat)
    case atStart => exact ⟨0, 0, rfl, Lib.hid rfl, by omega, _, _, _, rfl, Nat.le_refl _, Nat.le_refl _, HL.top, (Below.refl _ _).alloc (Nat.le_refl _) _⟩
    case round =>
      obtain ⟨k, j, rfl, hkj, hk, A', L, c', rfl, hL, hjk, hown, hbel⟩ := hrel
      by_cases hlt : k < n
      · have hsz := hbel.size
        have HM := own_made wr 13 (by simp [maxLen])
        have HR1 := RI.cut (h.below hbel hB) (show k ≤ n by omega) hc
        rw [if_neg (by omega)] at HR1
        have HR2 : RI (wr.alloc (.cells (madeCells #[.int .i64 0] 13) 3)) B (A.map (·.add k)) (n - k) (zs.drop k) := RV.alloc HR1 (by omega) _
        have HBLK := Lib.hid (show (zs.drop k).take 13 ++ (List.replicate 13 (0 : Int)).drop (n - k) = blk zs j by
          have h1 := hkj.out
          have h2 := hl.out
          unfold blk
          rw [← h1]
          simp only [List.drop_replicate, List.length_take, List.length_drop, h2]
          congr 2
          omega)
        clear HR1 HL
        go_wp2_with (with_reducible refine wpList_copy_ints rfl _ _ _ rfl Try.underlying24 infoInt _ _ _ _ _ _ rfl HM (by omega) _ _ _ _ _ rfl HR2 ?_; intro w2 ho2 hb2)
        rw [HBLK.out] at ho2
        have s2 := hb2.size
        simp only [World.size_alloc] at s2
        have hown2 : Own w2 w.heap.size wr.heap.size A' L c' (encTo zs j) := (hown.alloc _).below hb2 (Nat.le_refl _)
        have K2 : Below w.heap.size w w2 := (hbel.alloc hsz _).trans (hb2.mono hsz)
        clear HM HR2 hb2 hown hbel
        refine (encodeBlock_i _ 13 13 _ (blk zs j) _ ho2.ri (by omega) (by omega)).mono ?_
        rintro e w3 ⟨A3, n3, c3, rfl, ho3, hb3⟩
        have s3 := hb3.size
        have hn3 : n3 ≤ 15 := by have := ho3.len; have := encF_len (blk zs j); omega
        have hown3 := hown2.below hb3 (by omega)
        have K3 := bthen K2 hb3 K2.size
        clear ho2 hown2 K2 hb3
        go_wp2_with (at_builtin; refine wpList_append_ints rfl _ _ _ rfl Try.underlying24 infoInt _ _ _ _ _ _ rfl hown3 _ _ _ _ _ rfl ho3.ri (by omega) (by omega) ?_; intro A4 c4 w4 ho4 hoff4 hb4)
        rw [← encTo_succ] at ho4
        go_roundw
        case rel => exact ⟨k + 13, j + 1, by go_num, Lib.hid (by have := hkj.out; omega), by omega, _, _, _, rfl, by omega, by omega, ho4, K3.trans hb4⟩
        case measure => simp [intOf]; omega
      · have R := hown
        have HJ := Lib.hid (show (zs.length + 12) / 13 = j by have := hkj.out; have := hl.out; omega)
        go_wp2
        go_ret
        rw [HF.out, HJ.out]
        exact ⟨_, _, _, rfl, R, hbel⟩
end Go.Proofs.Ytkmbblooofmnpaa
