/-
  Several texts of this seat as one: Cell3, S40, Wir14, Wir15, Laid55p.
-/
import Derived.Test.YtphdagmaamcapaaDoorCell0
import Derived.Test.YtphdagmaamcapaaDoorView0
import Derived.Test.YtphdagmaamcapaaDoorDif0
import Derived.Deep.RegionHeld3
import Derived.RegionTactic
import Derived.Deep.CutRange
import Derived.BigQuiet
import Derived.Test.YtphdagmaamcapaaDoorWirC
import Derived.Test.YtphdagmaamcapaaDoorWgt
import Derived.Test.YtphdagmaamcapaaDoorErr3
import Derived.Test.YtphdagmaamcapaaDoorRows
namespace Go.Proofs.YtphdagmaamcapaaDoor
open Go.RowKit
set_option linter.unusedVariables false
set_option linter.unusedSimpArgs false

set_option maxHeartbeats 1000000 in
theorem rSame23_ok (So Si To Ti : Nat → Prop) (x y : Value) (l m : List CellV) (w : World) (hx : Slc RCell So Si w x l) (hy : Slc RCell To Ti w y m) :
    Calls Tryd.prog 37 #[x, y] w fun e w' => e = .returned (.bool (decide (l = m))) ∧ ∃ n, w' = w.drewN n := by
  obtain ⟨A, c, rfl, hl1, hl2, hA⟩ := hx.open_
  obtain ⟨B, d, rfl, hm1, hm2, hB⟩ := hy.open_
  by_cases hlen : l.length = m.length
  · have hd : ((l.length : Int) != m.length) = false := by simp [hlen]
    have Hlen := hide hlen
    clear hlen
    go_enter Tryd.func37, Tryd.ntmps37
    go_wp2
    go_loopw [5] (fun i wr => ∃ k : Nat, k ≤ l.length ∧ i = .int .i64 k ∧ (∀ j, j < k → l[j]? = m[j]?) ∧ ∃ n, wr = w.drewN n) (fun i _ => l.length - (intOf i).toNat)
    case atStart => exact ⟨0, Nat.zero_le _, rfl, by simp, 0, rfl⟩
    case round =>
      obtain ⟨k, hk, rfl, hpre, n, rfl⟩ := hrel
      have HP := hide hpre
      clear hpre
      by_cases hlt : k < l.length
      · have hltm : k < m.length := by have := Hlen.out; omega
        obtain ⟨ab, off, v, rfl, _, q0, q1, hw, hv⟩ := cell_at hA hlt
        obtain ⟨A', c', rfl, hd1, hd2, _⟩ := hv.open_
        obtain ⟨bb, off2, v2, rfl, _, p0, p1, hw2, hv2⟩ := cell_at hB hltm
        obtain ⟨B', d', rfl, he1, he2, _⟩ := hv2.open_
        by_cases hkd : l[k].1 = m[k].1
        · have hb : (l[k].1 != m[k].1) = false := by simp [hkd]
          by_cases htx : l[k].2 = m[k].2
          · have heq : l[k]? = m[k]? := by rw [List.getElem?_eq_getElem hlt, List.getElem?_eq_getElem hltm]; congr 1; exact Prod.ext hkd htx
            have hdec : decide (l[k].2 = m[k].2) = true := decide_eq_true htx
            have HEQ := hide heq
            clear heq hkd htx
            go_wp2
            go_quiet ((go_at_call 48; refine (Same_ok _ _ _ _ _ _ _ _ _ (hv.ints_keep (Keep.drewN _ _ _)) (hv2.ints_keep (Keep.drewN _ _ _))).mono ?_; rintro e w' ⟨rfl, m, rfl⟩; rw [hdec]; exact ⟨rfl, _, by rw [World.drewN_drewN, Nat.add_assoc]⟩))
            clear hb hdec
            go_wp2
            go_roundw
            case rel =>
              refine ⟨k + 1, by omega, by go_num, fun j hj => ?_, _, rfl⟩
              by_cases e : j = k
              · subst e; exact HEQ.out
              · exact HP.out j (by omega)
            case measure => simp [intOf]; omega
          · have hdec : decide (l[k].2 = m[k].2) = false := decide_eq_false htx
            have hne : l ≠ m := by rintro rfl; exact htx rfl
            have HNE := hide hne
            clear hkd htx hne
            go_wp2
            go_quiet ((go_at_call 48; refine (Same_ok _ _ _ _ _ _ _ _ _ (hv.ints_keep (Keep.drewN _ _ _)) (hv2.ints_keep (Keep.drewN _ _ _))).mono ?_; rintro e w' ⟨rfl, m, rfl⟩; rw [hdec]; exact ⟨rfl, _, by rw [World.drewN_drewN, Nat.add_assoc]⟩))
            clear hb hdec
            go_wp2
            go_ret
            exact ⟨ret_1 (bool_eq (by rw [decide_eq_false HNE.out])), drew2 _ _ _⟩
        · have hb : (l[k].1 != m[k].1) = true := by simp [hkd]
          have hne : l ≠ m := by rintro rfl; exact hkd rfl
          have HNE := hide hne
          clear hkd hne
          go_wp2
          go_quiet (fail)
          clear hb
          go_wp2
          go_ret
          exact ⟨ret_1 (bool_eq (by rw [decide_eq_false HNE.out])), drew2 _ _ _⟩
      · go_wp2
        go_ret
        refine ⟨ret_1 (bool_eq ?_), _, rfl⟩
        symm
        rw [decide_eq_true_eq]
        apply List.ext_getElem?
        intro j
        by_cases hj : j < l.length
        · exact HP.out j (by omega)
        · rw [List.getElem?_eq_none (by omega), List.getElem?_eq_none (by have := Hlen.out; omega)]
  · have hd : ((l.length : Int) != m.length) = true := by simp; omega
    have Hlen := hide hlen
    clear hlen
    go_enter Tryd.func37, Tryd.ntmps37
    go_wp2
    go_ret
    exact ⟨ret_1 (bool_eq (by rw [decide_eq_false]; intro e; exact Hlen.out (by rw [e]))), 0, rfl⟩
end Go.Proofs.YtphdagmaamcapaaDoor

namespace Go.Proofs.YtphdagmaamcapaaDoor
open Go.RowKit
set_option linter.unusedVariables false
set_option linter.unusedSimpArgs false

set_option maxHeartbeats 2000000 in
theorem rSame32_eq (So Si To Ti : Nat → Prop) (x y : Value) (ls : List LineV) (w : World) (hx : Slc RLine So Si w x ls) (hy : Slc RLine To Ti w y ls) :
    Calls Tryd.prog 25 #[x, y] w fun e w' => e = .returned (.bool true) ∧ ∃ n, w' = w.drewN n := by
  obtain ⟨A, c, rfl, hl1, hl2, hA⟩ := hx.open_
  obtain ⟨B, d, rfl, hm1, hm2, hB⟩ := hy.open_
  go_enter Tryd.func25, Tryd.ntmps25
  go_wp2
  go_loopw [5] (fun i wr => ∃ k : Nat, k ≤ ls.length ∧ i = .int .i64 k ∧ ∃ n, wr = w.drewN n) (fun i _ => ls.length - (intOf i).toNat)
  case atStart => exact ⟨0, Nat.zero_le _, rfl, 0, rfl⟩
  case round =>
    obtain ⟨k, hk, rfl, n, rfl⟩ := hrel
    by_cases hlt : k < ls.length
    · obtain ⟨ab, off, v, rfl, _, q0, q1, hv⟩ := line_at hA hlt
      obtain ⟨A', c', rfl, _, _, _⟩ := hv.open_
      obtain ⟨bb, off2, v2, rfl, _, p0, p1, hu⟩ := line_at hB hlt
      obtain ⟨B', d', rfl, _, _, _⟩ := hu.open_
      have hki : (k : Int) < ls.length := by omega
      have hS := hide (fun m => rSame23_ok _ _ _ _ _ _ ls[k].1 ls[k].1 (w.drewN m) (hv.mono (Keep.drewN _ w m) (Keep.drewN _ w m)) (hu.mono (Keep.drewN _ w m) (Keep.drewN _ w m)))
      rw [decide_eq_true rfl] at hS
      go_wp2
      go_quiet ((go_at_call 37; refine (hS.out _).mono ?_; rintro e w' ⟨rfl, m, rfl⟩; exact ⟨rfl, _, by rw [World.drewN_drewN, Nat.add_assoc]⟩))
      go_wp2
      go_roundw
      case rel => exact ⟨k + 1, by omega, by go_num, _, rfl⟩
      case measure => simp [intOf]; omega
    · go_wp2
      go_ret
      exact ⟨rfl, _, rfl⟩

set_option maxHeartbeats 2000000 in
theorem rSame40_eq (So Si To Ti : Nat → Prop) (x y : Value) (wd hi r c : Int) (p au : Bool) (ls : List LineV) (w : World) (hx : Slc RLine So Si w x ls) (hy : Slc RLine To Ti w y ls) :
    Calls Tryd.prog 14 #[.agg #[.int .i64 wd, .int .i64 hi, x, .int .i64 r, .int .i64 c, .bool p, .bool au], .agg #[.int .i64 wd, .int .i64 hi, y, .int .i64 r, .int .i64 c, .bool p, .bool au]] w fun e w' => e = .returned (.bool true) ∧ Below w.heap.size w w' := by
  obtain ⟨A, cp, rfl, hl1, hl2, hA⟩ := hx.open_
  obtain ⟨B, cq, rfl, hm1, hm2, hB⟩ := hy.open_
  have hb0 : Below w.heap.size w ((w.alloc (.cells #[.int .i64 wd, .int .i64 hi, .slice A ls.length cp, .int .i64 r, .int .i64 c, .bool p, .bool au] 26)).alloc (.cells #[.int .i64 wd, .int .i64 hi, .slice B ls.length cq, .int .i64 r, .int .i64 c, .bool p, .bool au] 26)) := ((Below.refl _ w).alloc (Nat.le_refl _) _).alloc (by simp) _
  have bv : Blk ((w.alloc (.cells #[.int .i64 wd, .int .i64 hi, .slice A ls.length cp, .int .i64 r, .int .i64 c, .bool p, .bool au] 26)).alloc (.cells #[.int .i64 wd, .int .i64 hi, .slice B ls.length cq, .int .i64 r, .int .i64 c, .bool p, .bool au] 26)) w.heap.size 26 #[.int .i64 wd, .int .i64 hi, .slice A ls.length cp, .int .i64 r, .int .i64 c, .bool p, .bool au] := (Blk.new w 26 #[.int .i64 wd, .int .i64 hi, .slice A ls.length cp, .int .i64 r, .int .i64 c, .bool p, .bool au]).alloc _
  have bw : Blk ((w.alloc (.cells #[.int .i64 wd, .int .i64 hi, .slice A ls.length cp, .int .i64 r, .int .i64 c, .bool p, .bool au] 26)).alloc (.cells #[.int .i64 wd, .int .i64 hi, .slice B ls.length cq, .int .i64 r, .int .i64 c, .bool p, .bool au] 26)) (w.heap.size + 1) 26 #[.int .i64 wd, .int .i64 hi, .slice B ls.length cq, .int .i64 r, .int .i64 c, .bool p, .bool au] := by
    have := Blk.new (w.alloc (.cells #[.int .i64 wd, .int .i64 hi, .slice A ls.length cp, .int .i64 r, .int .i64 c, .bool p, .bool au] 26)) 26 #[.int .i64 wd, .int .i64 hi, .slice B ls.length cq, .int .i64 r, .int .i64 c, .bool p, .bool au]
    simpa using this
  have hS := hide (rSame32_eq _ _ _ _ _ _ ls _ ((hx.mono (Keep.alloc So w (.cells #[.int .i64 wd, .int .i64 hi, .slice A ls.length cp, .int .i64 r, .int .i64 c, .bool p, .bool au] 26)) (Keep.alloc Si w (.cells #[.int .i64 wd, .int .i64 hi, .slice A ls.length cp, .int .i64 r, .int .i64 c, .bool p, .bool au] 26))).mono (Keep.alloc So _ (.cells #[.int .i64 wd, .int .i64 hi, .slice B ls.length cq, .int .i64 r, .int .i64 c, .bool p, .bool au] 26)) (Keep.alloc Si _ (.cells #[.int .i64 wd, .int .i64 hi, .slice B ls.length cq, .int .i64 r, .int .i64 c, .bool p, .bool au] 26))) ((hy.mono (Keep.alloc To w (.cells #[.int .i64 wd, .int .i64 hi, .slice A ls.length cp, .int .i64 r, .int .i64 c, .bool p, .bool au] 26)) (Keep.alloc Ti w (.cells #[.int .i64 wd, .int .i64 hi, .slice A ls.length cp, .int .i64 r, .int .i64 c, .bool p, .bool au] 26))).mono (Keep.alloc To _ (.cells #[.int .i64 wd, .int .i64 hi, .slice B ls.length cq, .int .i64 r, .int .i64 c, .bool p, .bool au] 26)) (Keep.alloc Ti _ (.cells #[.int .i64 wd, .int .i64 hi, .slice B ls.length cq, .int .i64 r, .int .i64 c, .bool p, .bool au] 26))))
  generalize hW0 : (w.alloc (.cells #[.int .i64 wd, .int .i64 hi, .slice A ls.length cp, .int .i64 r, .int .i64 c, .bool p, .bool au] 26)).alloc (.cells #[.int .i64 wd, .int .i64 hi, .slice B ls.length cq, .int .i64 r, .int .i64 c, .bool p, .bool au] 26) = w0 at *
  clear hA hB hx hy
  go_enter Tryd.func14, Tryd.ntmps14
  have y0 := bv.cell 0; have y1 := bv.cell 1; have y2 := bv.cell 2; have y3 := bv.cell 3; have y4 := bv.cell 4; have y5 := bv.cell 5; have y6 := bv.cell 6; simp only [List.getElem?_toArray, List.getElem?_cons_succ, List.getElem?_cons_zero] at y0 y1 y2 y3 y4 y5 y6; have z0 := bw.cell 0; have z1 := bw.cell 1; have z2 := bw.cell 2; have z3 := bw.cell 3; have z4 := bw.cell 4; have z5 := bw.cell 5; have z6 := bw.cell 6; simp only [List.getElem?_toArray, List.getElem?_cons_succ, List.getElem?_cons_zero] at z0 z1 z2 z3 z4 z5 z6
  go_wp2_with fail
  refine hS.out.mono ?_
  rintro e w1 ⟨rfl, q, rfl⟩
  go_wp2
  go_ret
  exact ⟨rfl, below_drewN hb0 q⟩
end Go.Proofs.YtphdagmaamcapaaDoor

namespace Go.Proofs.YtphdagmaamcapaaDoor
open Go.RowKit
set_option linter.unusedVariables false
set_option linter.unusedSimpArgs false

def cellsN (l : List LineV) : Nat := (l.map fun p => p.1.length).sum
theorem cellsN_snoc {l : List LineV} {k : Nat} (h : k < l.length) : cellsN (l.take (k + 1)) = cellsN (l.take k) + l[k].1.length := by
  unfold cellsN
  rw [take_snoc' l k h, List.map_append, List.sum_append]
  simp
theorem cellsN_mem : ∀ {l : List LineV} {p : LineV}, p ∈ l → p.1.length ≤ cellsN l
  | q :: l, p, h => by
    have e : cellsN (q :: l) = q.1.length + cellsN l := by simp [cellsN]
    rcases List.mem_cons.1 h with rfl | h
    · omega
    · have := cellsN_mem h; omega
theorem lines_len2 : ∀ (ls : List LineV), (∀ l ∈ ls, l.1.length ≤ 1024 ∧ soundB l.1 = true) → (ls.flatMap lineE).length ≤ 70 * cellsN ls + ls.length
  | [], _ => by simp [cellsN]
  | l :: ls, h => by
    obtain ⟨h1, h2⟩ := h l (List.mem_cons.2 (.inl rfl))
    have h3 := line_len (p := l) (by omega) h2
    have h4 := lines_len2 ls (fun x hx => h x (List.mem_cons.2 (.inr hx)))
    have e : cellsN (l :: ls) = l.1.length + cellsN ls := by simp [cellsN]
    rw [List.flatMap_cons, List.length_append, List.length_cons, e]
    omega
theorem enc_len {v : ViewV} (h : rightV v = true) (h2 : cellsN v.lines < 2500) : 0 < (encF v).length ∧ (encF v).length ≤ 180000 := by
  obtain ⟨⟨h3, h4, h5, h6, h7⟩, ⟨h8, h9, h10, h11⟩, h12⟩ := rightV_parts h
  have h1 : v.lines.length ≤ 1024 := by omega
  have hl := lines_len2 v.lines (fun l hl => ⟨by have := (h12 l hl).1; omega, (h12 l hl).2⟩)
  have e1 := (numF_len v.wide.toNat (by omega)).2
  have e2 := (numF_len v.high.toNat (by omega)).2
  have e3 := (numF_len v.row.toNat (by omega)).2
  have e4 := (numF_len v.col.toNat (by omega)).2
  unfold encF
  simp only [List.length_cons, List.length_append, List.length_nil]
  omega
theorem getV_back {v : ViewV} (h : rightV v = true) : GetV (encF v) = some v := by
  have e := view_back v h []
  rw [List.append_nil] at e
  unfold GetV
  rw [e]
  simp [h]
theorem getV_cut {v : ViewV} (h : rightV v = true) (k : Nat) (hk : k < (encF v).length) : GetV ((encF v).take k) = none := by
  cases hg : GetV ((encF v).take k) with
  | none => rfl
  | some v' =>
    exfalso
    obtain ⟨hr, he⟩ := getV_some hg
    have e1 := view_back v' hr ((encF v).drop k)
    rw [he, List.take_append_drop] at e1
    have e2 := view_back v h []
    rw [List.append_nil] at e2
    rw [e1] at e2
    have e3 : (encF v).drop k = [] := congrArg (fun x => x.2.1) e2
    have e4 := congrArg List.length e3
    rw [List.length_drop, List.length_nil] at e4
    omega
theorem getV_more {v : ViewV} (h : rightV v = true) (x : Int) : GetV (encF v ++ [x]) = none := by
  have e := view_back v h [x]
  have hne : ¬ encF v = encF v ++ [x] := fun hh => by
    have := congrArg List.length hh
    rw [List.length_append] at this
    simp at this
  unfold GetV
  rw [e]
  simp only
  rw [if_neg (by decide), if_neg (fun hh => hne hh.2)]

def Great55R (ls : List LineV) (w : World) (e : Ending) (w' : World) : Prop := ∃ g, e = .returned (.bool g) ∧ (g = false → ls.length ≤ 1100 ∧ cellsN ls < 2500) ∧ Below w.heap.size w w'
set_option maxHeartbeats 2000000 in
theorem great55_ok (So : Nat → Prop) (x : Value) (wd hi r c : Int) (p au : Bool) (ls : List LineV) (w : World) (hx : Slc RLine So So w x ls) (hok : ∀ p ∈ ls, p.1.length ≤ 140737488355328) :
    Calls Tryd.prog 7 #[.agg #[.int .i64 wd, .int .i64 hi, x, .int .i64 r, .int .i64 c, .bool p, .bool au]] w (Great55R ls w) := by
  obtain ⟨A, c0, rfl, _, _, _⟩ := hx.open_
  have HOK := hide hok
  have bv := Blk.new w 26 #[.int .i64 wd, .int .i64 hi, .slice A ls.length c0, .int .i64 r, .int .i64 c, .bool p, .bool au]
  have hb1 := (Below.refl w.heap.size w).alloc (Nat.le_refl _) (.cells #[.int .i64 wd, .int .i64 hi, .slice A ls.length c0, .int .i64 r, .int .i64 c, .bool p, .bool au] 26)
  have hx1 : Slc RLine So So (w.alloc (.cells #[.int .i64 wd, .int .i64 hi, .slice A ls.length c0, .int .i64 r, .int .i64 c, .bool p, .bool au] 26)) (.slice A ls.length c0) ls := hx.mono (Keep.alloc _ w _) (Keep.alloc _ w _)
  clear hok hx
  go_enter Tryd.func7, Tryd.ntmps7
  go_upto_region 1 with fail
  obtain ⟨gv, hgv⟩ : ∃ gv, w.heap.size = gv := ⟨_, rfl⟩
  rw [hgv] at bv
  try rw [hgv]
  generalize w.alloc (.cells #[.int .i64 wd, .int .i64 hi, .slice A ls.length c0, .int .i64 r, .int .i64 c, .bool p, .bool au] 26) = w1 at *
  clear hgv
  have y2 := bv.cell 2
  simp only [List.getElem?_toArray, List.getElem?_cons_succ, List.getElem?_cons_zero] at y2
  obtain ⟨_, _, hse, hc1, hc2, hA⟩ := hx1.open_
  injection hse with e1 e2 e3
  subst e1
  clear e2 e3 hc1 hc2 hx1
  go_wp2
  go_loopw [3, 4] (fun nv iv wr => ∃ k : Nat, k ≤ ls.length ∧ iv = .int .i64 k ∧ nv = .int .i64 (cellsN (ls.take k)) ∧ cellsN (ls.take k) ≤ 140737488358000 ∧ w1 = wr) (fun _ iv _ => ls.length - (intOf iv).toNat)
  case atStart => exact ⟨0, Nat.zero_le _, rfl, rfl, Nat.zero_le _, rfl⟩
  case round =>
    obtain ⟨k, hk, rfl, rfl, hN, rfl⟩ := hrel
    by_cases hlt : k < ls.length
    · have hki : (k : Int) < ls.length := by omega
      by_cases hn : cellsN (ls.take k) < 2500
      · obtain ⟨ab, off, v, rfl, _, q0, q1, hv⟩ := line_at hA hlt
        obtain ⟨A', c', rfl, _, _, _⟩ := hv.open_
        have hsn := cellsN_snoc hlt
        have hle := HOK.out ls[k] (List.getElem_mem _)
        obtain ⟨M, hM⟩ : ∃ M, cellsN (ls.take k) = M := ⟨_, rfl⟩
        rw [hM] at hsn hn hN ⊢
        obtain ⟨n0, hn0⟩ : ∃ n0, ls[k].1.length = n0 := ⟨_, rfl⟩
        rw [hn0] at hsn hle q0
        have hni : (M : Int) < 2500 := by omega
        have HSN := hide hsn
        clear hsn hM hn0
        go_wp2
        go_roundw
        case rel => exact ⟨k + 1, by omega, by go_num, (by rw [HSN.out]; first | rfl | exact int_eq (by omega)), by rw [HSN.out]; omega, (by first | rfl | trivial)⟩
        case measure => simp [intOf]; omega
      · have hni : ¬ ((cellsN (ls.take k) : Nat) : Int) < 2500 := by omega
        have hni2 : (2500 : Int) ≤ (cellsN (ls.take k) : Nat) := by omega
        generalize cellsN (ls.take k) = M at *
        go_wp2
        go_ret
        exact ⟨true, rfl, (fun h => by cases h), hb1⟩
    · obtain rfl : k = ls.length := by omega
      rw [List.take_of_length_le (Nat.le_refl _)] at hN ⊢
      by_cases hn : cellsN ls < 2500
      · have hni : ¬ (2500 : Int) ≤ ((cellsN ls : Nat) : Int) := by omega
        by_cases hl : ls.length ≤ 1100
        · have hli : ¬ (1100 : Int) < ls.length := by omega
          have HP := hide (⟨hl, hn⟩ : _ ∧ _)
          obtain ⟨M, hM⟩ : ∃ M, cellsN ls = M := ⟨_, rfl⟩
          rw [hM] at hni hN ⊢
          clear hn hM
          go_wp2
          go_ret
          exact ⟨false, rfl, (fun _ => HP.out), hb1⟩
        · have hli : (1100 : Int) < ls.length := by omega
          generalize cellsN ls = M at *
          go_wp2
          go_ret
          exact ⟨true, rfl, (fun h => by cases h), hb1⟩
      · have hni : (2500 : Int) ≤ ((cellsN ls : Nat) : Int) := by omega
        generalize cellsN ls = M at *
        go_wp2
        go_ret
        exact ⟨true, rfl, (fun h => by cases h), hb1⟩
end Go.Proofs.YtphdagmaamcapaaDoor

namespace Go.Proofs.YtphdagmaamcapaaDoor
open Go.RowKit
set_option linter.unusedVariables false
set_option linter.unusedSimpArgs false

theorem u8_up {So : Nat → Prop} {w w' : World} {v : Value} {l : List Int} (h : Slc (Rep.int .u8) So (fun _ => False) w v l) (hs : ∀ b, So b → b < w.heap.size) (hb : Below w.heap.size w w') : Slc (Rep.int .u8) (fun b => b < w'.heap.size) (fun _ => False) w' v l :=
  ((h.ints_keep (Keep.weaken hs)).ints_keep (Keep.below hb)).ints_keep (Keep.weaken fun b hb' => Nat.lt_of_lt_of_le hb' hb.size)

set_option maxRecDepth 8000 in
set_option maxHeartbeats 4000000 in
theorem walkS_WirePuts (b : Nat → Addr) (cs : Array Value) (v : ViewV) (w : World) (hS : Sents b w) (hm : RView.E (fun b => b < w.heap.size) w cs.toList v) (hok : LinesOk v.lines) :
    Calls Tryd.prog 3 #[.agg cs] w fun e w' => e = .returned (.bool true) ∧ Below w.heap.size w w' := by
  obtain ⟨x, hcs, _, _, _, _, hx⟩ := view_open hm
  obtain ⟨wd, hi, ls, r, c, p, au⟩ := v
  obtain ⟨l0⟩ := cs
  simp only at hcs hx hok
  subst hcs
  obtain ⟨A, c0, rfl, _, _, _⟩ := hx.open_
  have HSE := hide hS
  have HOK := hide hok.2
  have bv := Blk.new w 26 #[.int .i64 wd, .int .i64 hi, .slice A ls.length c0, .int .i64 r, .int .i64 c, .bool p, .bool au]
  have hb0 := (Below.refl w.heap.size w).alloc (Nat.le_refl _) (.cells #[.int .i64 wd, .int .i64 hi, .slice A ls.length c0, .int .i64 r, .int .i64 c, .bool p, .bool au] 26)
  have hz0 := hb0.size
  have hx0 := Slc.lt_up hx (fun _ h => h) hb0
  clear hS hm hok hx
  go_enter Tryd.func3, Tryd.ntmps3
  go_upto_region 1 with fail
  obtain ⟨gv, hgv⟩ : ∃ gv, w.heap.size = gv := ⟨_, rfl⟩
  rw [hgv] at bv
  try rw [hgv]
  generalize w.alloc (.cells #[.int .i64 wd, .int .i64 hi, .slice A ls.length c0, .int .i64 r, .int .i64 c, .bool p, .bool au] 26) = w0 at *
  clear hgv
  go_wp2_with fail
  refine (works55_ok b _ (HSE.out.below hb0)).mono ?_
  rintro e w1 ⟨rfl, hc1⟩
  have hb1 := hb0.trans (hc1.mono hz0)
  have hz1 := hb1.size
  have bv1 := bv.same hc1
  have hx1 := Slc.lt_up hx0 (fun _ h => h) hc1
  clear hx0 bv hc1
  have y0 := bv1.cell 0
  have y1 := bv1.cell 1
  have y2 := bv1.cell 2
  have y3 := bv1.cell 3
  have y4 := bv1.cell 4
  have y5 := bv1.cell 5
  have y6 := bv1.cell 6
  simp only [List.getElem?_toArray, List.getElem?_cons_succ, List.getElem?_cons_zero] at y0 y1 y2 y3 y4 y5 y6
  have HGR := hide (great55_ok _ (.slice A ls.length c0) wd hi r c p au ls w1 hx1 HOK.out)
  go_wp2_with fail
  refine HGR.out.mono ?_
  rintro e w2 ⟨g, rfl, hg, hc2⟩
  have hb2 := hb1.trans (hc2.mono hz1)
  have hz2 := hb2.size
  have bv2 := bv1.same hc2
  have hx2 := Slc.lt_up hx1 (fun _ h => h) hc2
  clear hx1 bv1 hc2 HGR y0 y1 y2 y3 y4 y5 y6
  cases g with
  | true =>
    clear hg
    go_wp2_with fail
    refine (works55_ok b _ (HSE.out.below hb2)).mono ?_
    rintro e w9 ⟨rfl, hc9⟩
    go_wp2
    go_ret
    exact ⟨rfl, hb2.trans (hc9.mono hz2)⟩
  | false =>
    obtain ⟨hl1, hl2⟩ := hg rfl
    clear hg
    have hcs : ∀ l ∈ ls, l.1.length ≤ 1000000 := fun l hl => by have := cellsN_mem hl; omega
    have hls : ls.length ≤ 1000000 := by omega
    have HCL := hide (⟨hls, hcs⟩ : _ ∧ _)
    have HC := hide hl2
    have HX2 := hide hx2
    have y0 := bv2.cell 0
    have y1 := bv2.cell 1
    have y2 := bv2.cell 2
    have y3 := bv2.cell 3
    have y4 := bv2.cell 4
    have y5 := bv2.cell 5
    have y6 := bv2.cell 6
    simp only [List.getElem?_toArray, List.getElem?_cons_succ, List.getElem?_cons_zero] at y0 y1 y2 y3 y4 y5 y6
    have HPU := hide (Put_ok b (.slice A ls.length c0) wd hi r c p au ls w2 (HSE.out.below hb2) hx2 hcs hls)
    clear hcs hls hl1 hl2 hx2
    go_wp2_with fail
    refine HPU.out.mono ?_
    rintro e w3 ⟨hyes, hno, hc3⟩
    have hb3 := hb2.trans (hc3.mono hz2)
    have hz3 := hb3.size
    have bv3 := bv2.same hc3
    have hx3 := Slc.lt_up HX2.out (fun _ h => h) hc3
    have HX3 := hide hx3
    have HRR := hide (rRight43_ok _ (.slice A ls.length c0) wd hi r c p au ls w3 hx3 HCL.out.2 HCL.out.1)
    clear hx3 HX2 bv2 hc3 HPU y0 y1 y2 y3 y4 y5 y6
    cases hrv : rightV ⟨wd, hi, ls, r, c, p, au⟩ with
    | false =>
      obtain rfl := hno hrv
      rw [hrv] at HRR
      clear hyes hno hrv
      have y0 := bv3.cell 0
      have y1 := bv3.cell 1
      have y2 := bv3.cell 2
      have y3 := bv3.cell 3
      have y4 := bv3.cell 4
      have y5 := bv3.cell 5
      have y6 := bv3.cell 6
      simp only [List.getElem?_toArray, List.getElem?_cons_succ, List.getElem?_cons_zero] at y0 y1 y2 y3 y4 y5 y6
      go_wp2_with fail
      refine HRR.out.mono ?_
      rintro e w4 ⟨rfl, hc4⟩
      have hb4 := hb3.trans (hc4.mono hz3)
      clear y0 y1 y2 y3 y4 y5 y6 HRR hc4
      go_wp2_with fail
      refine (Code_ok b _ 4 none _ (HSE.out.below hb4) rfl (by decide)).mono ?_
      rintro e w6 ⟨rfl, rfl⟩
      go_wp2
      go_ret
      exact ⟨rfl, hb4⟩
    | true =>
      obtain ⟨s, rfl, hs⟩ := hyes hrv
      rw [hrv] at HRR
      have HRV := hide hrv
      have HS3 := hide hs
      obtain ⟨As, cc, hse, _, _, _⟩ := hs.islc.open_
      obtain ⟨n, hn⟩ : ∃ n, (encF ⟨wd, hi, ls, r, c, p, au⟩).length = n := ⟨_, rfl⟩
      have hlen := enc_len hrv HC.out
      rw [hn] at hse hlen
      subst hse
      clear hyes hno hs hrv hn
      have y0 := bv3.cell 0
      have y1 := bv3.cell 1
      have y2 := bv3.cell 2
      have y3 := bv3.cell 3
      have y4 := bv3.cell 4
      have y5 := bv3.cell 5
      have y6 := bv3.cell 6
      simp only [List.getElem?_toArray, List.getElem?_cons_succ, List.getElem?_cons_zero] at y0 y1 y2 y3 y4 y5 y6
      go_wp2_with fail
      refine HRR.out.mono ?_
      rintro e w4 ⟨rfl, hc4⟩
      have hb4 := hb3.trans (hc4.mono hz3)
      have hz4 := hb4.size
      have bv4 := bv3.same hc4
      have hs4 := u8_up HS3.out.islc (fun _ h => h.1) hc4
      have HS4 := hide hs4
      have HX4 := hide (Slc.lt_up HX3.out (fun _ h => h) hc4)
      have HGT := hide (Get_ok b (.slice As n cc) _ w4 (HSE.out.below hb4) hs4 (by have := enc_len HRV.out HC.out; omega))
      clear y0 y1 y2 y3 y4 y5 y6 HRR hc4 bv3 hs4 HS3 HX3
      go_wp2_with fail
      refine HGT.out.mono ?_
      rintro e w5 ⟨hsome, hnone, hc5⟩
      obtain ⟨lv, rfl, hln⟩ := hsome _ (getV_back HRV.out)
      simp only at hln
      have hb5 := hb4.trans (hc5.mono hz4)
      have hz5 := hb5.size
      have bv5 := bv4.same hc5
      have HS5 := hide (u8_up HS4.out (fun _ h => h) hc5)
      have hx5 := Slc.lt_up HX4.out (fun _ h => h) hc5
      obtain ⟨Al, cl, hle, _, _, _⟩ := (Lns.slc hln).open_
      subst hle
      have bw := Blk.new w5 26 #[.int .i64 wd, .int .i64 hi, .slice Al ls.length cl, .int .i64 r, .int .i64 c, .bool p, .bool au]
      have hb6 := hb5.alloc hz5 (.cells #[.int .i64 wd, .int .i64 hi, .slice Al ls.length cl, .int .i64 r, .int .i64 c, .bool p, .bool au] 26)
      have bv6 := bv5.alloc (.cells #[.int .i64 wd, .int .i64 hi, .slice Al ls.length cl, .int .i64 r, .int .i64 c, .bool p, .bool au] 26)
      have hk6 := (Below.refl w5.heap.size w5).alloc (Nat.le_refl _) (.cells #[.int .i64 wd, .int .i64 hi, .slice Al ls.length cl, .int .i64 r, .int .i64 c, .bool p, .bool au] 26)
      have HS6 := hide (u8_up HS5.out (fun _ h => h) hk6)
      have hx6 := Slc.lt_up hx5 (fun _ h => h) hk6
      have hl6 := Lns.slc (Lns.alloc hln (.cells #[.int .i64 wd, .int .i64 hi, .slice Al ls.length cl, .int .i64 r, .int .i64 c, .bool p, .bool au] 26))
      have HX6 := hide hx6
      have HL6 := hide hl6
      clear HGT hsome hnone hc5 bv4 HS4 HX4 HS5 hx5 hk6 hln bv5 hl6 hx6
      go_upto_region 7 with fail
      obtain ⟨gw, hgw⟩ : ∃ gw, w5.heap.size = gw := ⟨_, rfl⟩
      rw [hgw] at bw
      try rw [hgw]
      generalize w5.alloc (.cells #[.int .i64 wd, .int .i64 hi, .slice Al ls.length cl, .int .i64 r, .int .i64 c, .bool p, .bool au] 26) = w6 at *
      clear hgw
      have hz6 := hb6.size
      have y0 := bv6.cell 0
      have y1 := bv6.cell 1
      have y2 := bv6.cell 2
      have y3 := bv6.cell 3
      have y4 := bv6.cell 4
      have y5 := bv6.cell 5
      have y6 := bv6.cell 6
      simp only [List.getElem?_toArray, List.getElem?_cons_succ, List.getElem?_cons_zero] at y0 y1 y2 y3 y4 y5 y6
      have HPT := hide (rPut55_ok (.slice A ls.length c0) wd hi r c p au ls w6 HRV.out HX6.out)
      go_wp2_with fail
      refine HPT.out.mono ?_
      rintro e w7 ⟨s7, rfl, hs7, hc7⟩
      have hb7 := hb6.trans (hc7.mono hz6)
      have bv7 := bv6.same hc7
      have bw7 := bw.same hc7
      have HBY := hide (rBytes_ok _ _ _ _ (.slice As n cc) s7 _ _ w7 (u8_up HS6.out (fun _ h => h) hc7) hs7.islc)
      rw [decide_eq_true rfl] at HBY
      have HSA := hide (rSame40_eq _ _ _ _ (.slice A ls.length c0) (.slice Al ls.length cl) wd hi r c p au ls w7 (Slc.lt_up HX6.out (fun _ h => h) hc7) (HL6.out.mono (Keep.below hc7) (Keep.below hc7)))
      clear y0 y1 y2 y3 y4 y5 y6 HPT hs7 HS6 hc7 bv6 bw HX6 HL6
      go_wp2_with fail
      refine HBY.out.mono ?_
      rintro e w8 ⟨rfl, rfl⟩
      have y0 := bv7.cell 0
      have y1 := bv7.cell 1
      have y2 := bv7.cell 2
      have y3 := bv7.cell 3
      have y4 := bv7.cell 4
      have y5 := bv7.cell 5
      have y6 := bv7.cell 6
      simp only [List.getElem?_toArray, List.getElem?_cons_succ, List.getElem?_cons_zero] at y0 y1 y2 y3 y4 y5 y6
      have z0 := bw7.cell 0
      have z1 := bw7.cell 1
      have z2 := bw7.cell 2
      have z3 := bw7.cell 3
      have z4 := bw7.cell 4
      have z5 := bw7.cell 5
      have z6 := bw7.cell 6
      simp only [List.getElem?_toArray, List.getElem?_cons_succ, List.getElem?_cons_zero] at z0 z1 z2 z3 z4 z5 z6
      clear HBY
      go_wp2_with fail
      refine HSA.out.mono ?_
      rintro e w9 ⟨rfl, hc9⟩
      go_wp2
      go_ret
      exact ⟨rfl, hb7.trans (hc9.mono hb7.size)⟩
end Go.Proofs.YtphdagmaamcapaaDoor

namespace Go.Proofs.YtphdagmaamcapaaDoor
open Go.RowKit
set_option linter.unusedVariables false

theorem walk_WirePuts (cs : Array Value) (v : ViewV) (w : World) (hL : laidMetH Tryd.prog Rows.wirePutsRow.laid w) (hm : RView.E (fun b => b < w.heap.size) w cs.toList v) (hok : LinesOk v.lines) :
    Calls Tryd.prog 3 #[.agg cs] w fun e w' => e = .returned (.bool true) ∧ Below w.heap.size w w' := by
  have h' : laidMet Tryd.prog Rows.wirePutsRow.laid w := hL
  obtain ⟨b, hS⟩ := sents_of_laid _ _ h' (fun k hk => by
    match k, hk with
    | 0, _ => exact List.mem_of_getElem? (i := 0) rfl
    | 1, _ => exact List.mem_of_getElem? (i := 1) rfl
    | 2, _ => exact List.mem_of_getElem? (i := 2) rfl
    | 3, _ => exact List.mem_of_getElem? (i := 3) rfl
    | 4, _ => exact List.mem_of_getElem? (i := 4) rfl
    | 5, _ => exact List.mem_of_getElem? (i := 5) rfl
    | 6, _ => exact List.mem_of_getElem? (i := 6) rfl
    | 7, _ => exact List.mem_of_getElem? (i := 7) rfl
    | k + 8, h => exact absurd h (by omega))
  exact walkS_WirePuts b cs v w hS hm hok
end Go.Proofs.YtphdagmaamcapaaDoor
