/-
  Whether a change lies in a view; the document's comparisons of lines and of views that are alike.
-/
import Derived.Test.YtcidioomhdkbnaaDif5
import Derived.Test.YtcidioomhdkbnaaDif4
namespace Go.Proofs.Ytcidioomhdkbnaa
open Go.RowKit
set_option linter.unusedVariables false
set_option linter.unusedSimpArgs false

def liesB (row col : Int) (n : Nat) (wd hi : Int) : Bool := decide (0 ≤ row ∧ row < hi ∧ 0 ≤ col ∧ col < wd ∧ (n : Int) ≤ wd - col)
set_option maxHeartbeats 1000000 in
theorem lies_ok (row col wd hi r c : Int) (p au : Bool) (A : Option Addr) (n cc : Nat) (y : Value) (w : World) (hy : y.cells = #[y]) (hw : (Lit.int .i64 wd).wf = true) (hc : (Lit.int .i64 col).wf = true) :
    Calls Try.prog 24 #[.agg #[.int .i64 row, .int .i64 col, .slice A n cc], .agg #[.int .i64 wd, .int .i64 hi, y, .int .i64 r, .int .i64 c, .bool p, .bool au]] w fun e w' => e = .returned (.bool (liesB row col n wd hi)) ∧ Below w.heap.size w w' := by
  obtain ⟨h1, h2⟩ := i64_wf hw
  obtain ⟨h3, h4⟩ := i64_wf hc
  have hb0 : Below w.heap.size w ((w.alloc (.cells #[.int .i64 row, .int .i64 col, .slice A n cc] 38)).alloc (.cells #[.int .i64 wd, .int .i64 hi, y, .int .i64 r, .int .i64 c, .bool p, .bool au] 26)) := ((Below.refl _ w).alloc (Nat.le_refl _) _).alloc (by simp) _
  have bc : Blk ((w.alloc (.cells #[.int .i64 row, .int .i64 col, .slice A n cc] 38)).alloc (.cells #[.int .i64 wd, .int .i64 hi, y, .int .i64 r, .int .i64 c, .bool p, .bool au] 26)) w.heap.size 38 #[.int .i64 row, .int .i64 col, .slice A n cc] := (Blk.new w 38 #[.int .i64 row, .int .i64 col, .slice A n cc]).alloc _
  have bv : Blk ((w.alloc (.cells #[.int .i64 row, .int .i64 col, .slice A n cc] 38)).alloc (.cells #[.int .i64 wd, .int .i64 hi, y, .int .i64 r, .int .i64 c, .bool p, .bool au] 26)) (w.heap.size + 1) 26 #[.int .i64 wd, .int .i64 hi, y, .int .i64 r, .int .i64 c, .bool p, .bool au] := by
    have := Blk.new (w.alloc (.cells #[.int .i64 row, .int .i64 col, .slice A n cc] 38)) 26 #[.int .i64 wd, .int .i64 hi, y, .int .i64 r, .int .i64 c, .bool p, .bool au]
    simpa using this
  generalize hW0 : (w.alloc (.cells #[.int .i64 row, .int .i64 col, .slice A n cc] 38)).alloc (.cells #[.int .i64 wd, .int .i64 hi, y, .int .i64 r, .int .i64 c, .bool p, .bool au] 26) = w0 at *
  have k0 := bc.cell 0
  have k1 := bc.cell 1
  have k2 := bc.cell 2
  have y0 := bv.cell 0
  have y1 := bv.cell 1
  simp only [List.getElem?_toArray, List.getElem?_cons_succ, List.getElem?_cons_zero] at k0 k1 k2 y0 y1
  by_cases g1 : 0 ≤ row
  · by_cases g2 : row < hi
    · by_cases g3 : 0 ≤ col
      · by_cases g4 : col < wd
        · have hs : IntKind.i64.wrap (wd - col) = wd - col := IntWalk.i64_in _ (by omega)
          by_cases g5 : (n : Int) ≤ wd - col
          · have hl : liesB row col n wd hi = true := decide_eq_true ⟨g1, g2, g3, g4, g5⟩
            rw [hl]
            clear hl hs
            go_enter Try.func24, Try.ntmps24
            go_wp2
            go_ret
            exact ⟨rfl, hb0⟩
          · have hl : liesB row col n wd hi = false := decide_eq_false (fun h => g5 h.2.2.2.2)
            rw [hl]
            clear hl hs
            go_enter Try.func24, Try.ntmps24
            go_wp2
            go_ret
            exact ⟨rfl, hb0⟩
        · have hl : liesB row col n wd hi = false := decide_eq_false (fun h => g4 h.2.2.2.1)
          rw [hl]
          clear hl
          go_enter Try.func24, Try.ntmps24
          go_wp2
          go_ret
          exact ⟨rfl, hb0⟩
      · have hl : liesB row col n wd hi = false := decide_eq_false (fun h => g3 h.2.2.1)
        rw [hl]
        clear hl
        go_enter Try.func24, Try.ntmps24
        go_wp2
        go_ret
        exact ⟨rfl, hb0⟩
    · have hl : liesB row col n wd hi = false := decide_eq_false (fun h => g2 h.2.1)
      rw [hl]
      clear hl
      go_enter Try.func24, Try.ntmps24
      go_wp2
      go_ret
      exact ⟨rfl, hb0⟩
  · have hl : liesB row col n wd hi = false := decide_eq_false (fun h => g1 h.1)
    rw [hl]
    clear hl
    go_enter Try.func24, Try.ntmps24
    go_wp2
    go_ret
    exact ⟨rfl, hb0⟩

set_option maxHeartbeats 2000000 in
theorem rSame32_eq (So Si To Ti : Nat → Prop) (x y : Value) (ls : List LineV) (w : World) (hx : Slc RLine So Si w x ls) (hy : Slc RLine To Ti w y ls) :
    Calls Try.prog 26 #[x, y] w fun e w' => e = .returned (.bool true) ∧ ∃ n, w' = w.drewN n := by
  obtain ⟨A, c, rfl, hl1, hl2, hA⟩ := hx.open_
  obtain ⟨B, d, rfl, hm1, hm2, hB⟩ := hy.open_
  go_enter Try.func26, Try.ntmps26
  go_wp2
  go_loopw [5] (fun i wr => ∃ k : Nat, k ≤ ls.length ∧ i = .int .i64 k ∧ ∃ n, wr = w.drewN n) (fun i _ => ls.length - (intOf i).toNat)
  case atStart => exact ⟨0, Nat.zero_le _, rfl, 0, rfl⟩
  case round =>
    obtain ⟨k, hk, rfl, n, rfl⟩ := hrel
    by_cases hlt : k < ls.length
    · obtain ⟨ab, off, v, rfl, _, q0, q1, hv⟩ := line_at hA hlt
      obtain ⟨A', c', rfl, _, _, _⟩ := hv.open_
      obtain ⟨bb, off2, v2, rfl, _, p0, p1, hu⟩ := line_at hB hlt
      obtain ⟨B', d', rfl, _, _, _⟩ := hu.open_
      have hki : (k : Int) < ls.length := by omega
      have hS := hide (fun m => rSame23_ok _ _ _ _ _ _ ls[k].1 ls[k].1 (w.drewN m) (hv.mono (Keep.drewN _ w m) (Keep.drewN _ w m)) (hu.mono (Keep.drewN _ w m) (Keep.drewN _ w m)))
      rw [decide_eq_true rfl] at hS
      go_wp2
      go_quiet ((go_at_call 10; refine (hS.out _).mono ?_; rintro e w' ⟨rfl, m, rfl⟩; exact ⟨rfl, _, by rw [World.drewN_drewN, Nat.add_assoc]⟩))
      go_wp2
      go_roundw
      case rel => exact ⟨k + 1, by omega, by go_num, _, rfl⟩
      case measure => simp [intOf]; omega
    · go_wp2
      go_ret
      exact ⟨rfl, _, rfl⟩

set_option maxHeartbeats 2000000 in
theorem rSame40_eq (So Si To Ti : Nat → Prop) (x y : Value) (wd hi r c : Int) (p au : Bool) (ls : List LineV) (w : World) (hx : Slc RLine So Si w x ls) (hy : Slc RLine To Ti w y ls) :
    Calls Try.prog 14 #[.agg #[.int .i64 wd, .int .i64 hi, x, .int .i64 r, .int .i64 c, .bool p, .bool au], .agg #[.int .i64 wd, .int .i64 hi, y, .int .i64 r, .int .i64 c, .bool p, .bool au]] w fun e w' => e = .returned (.bool true) ∧ Below w.heap.size w w' := by
  obtain ⟨A, cp, rfl, hl1, hl2, hA⟩ := hx.open_
  obtain ⟨B, cq, rfl, hm1, hm2, hB⟩ := hy.open_
  have hb0 : Below w.heap.size w ((w.alloc (.cells #[.int .i64 wd, .int .i64 hi, .slice A ls.length cp, .int .i64 r, .int .i64 c, .bool p, .bool au] 26)).alloc (.cells #[.int .i64 wd, .int .i64 hi, .slice B ls.length cq, .int .i64 r, .int .i64 c, .bool p, .bool au] 26)) := ((Below.refl _ w).alloc (Nat.le_refl _) _).alloc (by simp) _
  have bv : Blk ((w.alloc (.cells #[.int .i64 wd, .int .i64 hi, .slice A ls.length cp, .int .i64 r, .int .i64 c, .bool p, .bool au] 26)).alloc (.cells #[.int .i64 wd, .int .i64 hi, .slice B ls.length cq, .int .i64 r, .int .i64 c, .bool p, .bool au] 26)) w.heap.size 26 #[.int .i64 wd, .int .i64 hi, .slice A ls.length cp, .int .i64 r, .int .i64 c, .bool p, .bool au] := (Blk.new w 26 #[.int .i64 wd, .int .i64 hi, .slice A ls.length cp, .int .i64 r, .int .i64 c, .bool p, .bool au]).alloc _
  have bw : Blk ((w.alloc (.cells #[.int .i64 wd, .int .i64 hi, .slice A ls.length cp, .int .i64 r, .int .i64 c, .bool p, .bool au] 26)).alloc (.cells #[.int .i64 wd, .int .i64 hi, .slice B ls.length cq, .int .i64 r, .int .i64 c, .bool p, .bool au] 26)) (w.heap.size + 1) 26 #[.int .i64 wd, .int .i64 hi, .slice B ls.length cq, .int .i64 r, .int .i64 c, .bool p, .bool au] := by
    have := Blk.new (w.alloc (.cells #[.int .i64 wd, .int .i64 hi, .slice A ls.length cp, .int .i64 r, .int .i64 c, .bool p, .bool au] 26)) 26 #[.int .i64 wd, .int .i64 hi, .slice B ls.length cq, .int .i64 r, .int .i64 c, .bool p, .bool au]
    simpa using this
  have hS := hide (rSame32_eq _ _ _ _ _ _ ls _ ((hx.mono (Keep.alloc So w (.cells #[.int .i64 wd, .int .i64 hi, .slice A ls.length cp, .int .i64 r, .int .i64 c, .bool p, .bool au] 26)) (Keep.alloc Si w (.cells #[.int .i64 wd, .int .i64 hi, .slice A ls.length cp, .int .i64 r, .int .i64 c, .bool p, .bool au] 26))).mono (Keep.alloc So _ (.cells #[.int .i64 wd, .int .i64 hi, .slice B ls.length cq, .int .i64 r, .int .i64 c, .bool p, .bool au] 26)) (Keep.alloc Si _ (.cells #[.int .i64 wd, .int .i64 hi, .slice B ls.length cq, .int .i64 r, .int .i64 c, .bool p, .bool au] 26))) ((hy.mono (Keep.alloc To w (.cells #[.int .i64 wd, .int .i64 hi, .slice A ls.length cp, .int .i64 r, .int .i64 c, .bool p, .bool au] 26)) (Keep.alloc Ti w (.cells #[.int .i64 wd, .int .i64 hi, .slice A ls.length cp, .int .i64 r, .int .i64 c, .bool p, .bool au] 26))).mono (Keep.alloc To _ (.cells #[.int .i64 wd, .int .i64 hi, .slice B ls.length cq, .int .i64 r, .int .i64 c, .bool p, .bool au] 26)) (Keep.alloc Ti _ (.cells #[.int .i64 wd, .int .i64 hi, .slice B ls.length cq, .int .i64 r, .int .i64 c, .bool p, .bool au] 26))))
  generalize hW0 : (w.alloc (.cells #[.int .i64 wd, .int .i64 hi, .slice A ls.length cp, .int .i64 r, .int .i64 c, .bool p, .bool au] 26)).alloc (.cells #[.int .i64 wd, .int .i64 hi, .slice B ls.length cq, .int .i64 r, .int .i64 c, .bool p, .bool au] 26) = w0 at *
  clear hA hB hx hy
  go_enter Try.func14, Try.ntmps14
  have y0 := bv.cell 0; have y1 := bv.cell 1; have y2 := bv.cell 2; have y3 := bv.cell 3; have y4 := bv.cell 4; have y5 := bv.cell 5; have y6 := bv.cell 6; simp only [List.getElem?_toArray, List.getElem?_cons_succ, List.getElem?_cons_zero] at y0 y1 y2 y3 y4 y5 y6; have z0 := bw.cell 0; have z1 := bw.cell 1; have z2 := bw.cell 2; have z3 := bw.cell 3; have z4 := bw.cell 4; have z5 := bw.cell 5; have z6 := bw.cell 6; simp only [List.getElem?_toArray, List.getElem?_cons_succ, List.getElem?_cons_zero] at z0 z1 z2 z3 z4 z5 z6
  go_wp2_with fail
  refine hS.out.mono ?_
  rintro e w1 ⟨rfl, q, rfl⟩
  go_wp2
  go_ret
  exact ⟨rfl, below_drewN hb0 q⟩
end Go.Proofs.Ytcidioomhdkbnaa
