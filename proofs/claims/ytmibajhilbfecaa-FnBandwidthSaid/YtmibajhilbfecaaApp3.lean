/- append onto a slice of ints of the call's own, as a step of a region that draws its order (go_region_law). -/
import Derived.Test.YtmibajhilbfecaaBase
import Derived.Deep.RegionLaw
namespace Go.Proofs.Ytmibajhilbfecaa
open Go.RowKit Go.Deep
theorem RI.alloc {w : World} {B n : Nat} {A : Option Addr} {zs : List Int} (h : RI w B A n zs) (hB : B ≤ w.heap.size) (o : Obj) : RI (w.alloc o) B A n zs := RV.alloc h hB o
theorem step_append_ints {P : Program} {ops : Array Oper} {o : Oper} {a : Act} {K : Act → World → Prop} {Q : Exit → Act → World → Prop} {E : Prop} {w : World} (hgd : o.guard = none) (s x : Operand) (t : TypeId)
    (ho : o.op = .call { callee := .builtin .append, args := #[s, x], argTypes := #[t, t] })
    (ht : P.underlying t = some (.slice 3)) (hinfo : (P.info? 3).map (fun i => (i.zero, i.size, i.bytes)) = some (some (.int .i64 0), 1, 8))
    (lo hi : Nat) (A : Option Addr) (n c : Nat) (zs : List Int) (hs : a.eval s = .slice A n c) (hown : Own w lo hi A n c zs)
    (B : Nat) (S : Option Addr) (m d : Nat) (news : List Int) (hx : a.eval x = .slice S m d) (hr : RI w B S m news)
    (hbd : n + m ≤ 1000000000000) (hlo : lo ≤ w.heap.size)
    (h : ∀ A' c' w', Own w' lo w'.heap.size A' (n + m) c' (zs ++ news) → Off lo hi w w' → Below lo w w' → K (a.put o.dst (.slice A' (n + m) c')) w') :
    if Region.wanted o (yielded ops a.tmps) = true then Oper.wp P o a w K Q else E := by
  rw [if_pos (by simp [Region.wanted, hgd])]
  obtain ⟨A', c', w', hrun, h2, h3, h4⟩ := run_append_rv (P := P) w 3 lo hi t o.type (.int .i64 0) 8 ht hinfo rfl A n c (zs.map vInt) hown B S m d (news.map vInt) hr (oneCell_vInt _) (by simp only [maxLen]; omega) (by omega) hlo
  unfold Oper.wp execOp
  simp only [ho, resolve, invoke, builtin, Sem.run_bind, Sem.run_pure, Result.andThen_ok, List.map_toArray, List.map_cons, List.map_nil, hs, hx, hrun]
  exact h A' c' w' (by rw [← List.map_append] at h2; exact h2) h3 h4
theorem ri_three (w : World) (a b c : Int) : RI (w.alloc (.cells #[.int .i64 a, .int .i64 b, .int .i64 c] 3)) (w.heap.size + 1) (some ⟨w.heap.size, 0, none⟩) 3 [a, b, c] :=
  OwnV.rv (OwnV.new w 3 #[.int .i64 a, .int .i64 b, .int .i64 c] (by simp [maxLen]))
end Go.Proofs.Ytmibajhilbfecaa
