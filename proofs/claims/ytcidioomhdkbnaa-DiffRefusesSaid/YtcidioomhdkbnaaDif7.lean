/-
  Package diff's Apply: what it returns.
-/
import Derived.Test.YtcidioomhdkbnaaDif6
import Derived.Test.YtcidioomhdkbnaaLns2
import Derived.RegionTactic
import Derived.ChangeAlike
namespace Go.Proofs.Ytcidioomhdkbnaa
open Go.RowKit
set_option linter.unusedVariables false
set_option linter.unusedSimpArgs false

def chgF (wd hi : Int) : List ChangeV → List LineV → Option (List LineV)
  | [], ls => some ls
  | c :: cs, ls => if liesB c.1 c.2.1 c.2.2.length wd hi = true then chgF wd hi cs (putL ls c) else none
def wrpF (hi : Int) : List Int → List LineV → Option (List LineV)
  | [], ls => some ls
  | i :: is, ls => if 0 ≤ i ∧ i < hi then wrpF hi is (flipL ls i) else none
structure PatchV where
  cs : List ChangeV
  is : List Int
  row : Int
  col : Int
  pend : Bool
  auto : Bool
  whole : Bool
  view : ViewV
def applyF (v : ViewV) (p : PatchV) : Option ViewV :=
  if rightV v = true ∧ rightV (if p.whole = true then p.view else v) = true then
    (if p.whole = true then some p.view else
      match chgF v.wide v.high p.cs v.lines with
      | none => none
      | some l1 => match wrpF v.high p.is l1 with
        | none => none
        | some l2 => if rightV ⟨v.wide, v.high, l2, p.row, p.col, p.pend, p.auto⟩ = true then some ⟨v.wide, v.high, l2, p.row, p.col, p.pend, p.auto⟩ else none)
  else none
/-- What Apply returns. -/
def AppR (o : Option ViewV) (w : World) (e : Ending) (w' : World) : Prop :=
  (∀ v, o = some v → ∃ ov, e = .returned (.tuple #[.agg #[.int .i64 v.wide, .int .i64 v.high, ov, .int .i64 v.row, .int .i64 v.col, .bool v.pend, .bool v.auto], .bool true]) ∧ Lns w.heap.size w' ov v.lines) ∧
  (o = none → e = .returned (.tuple #[.agg #[.int .i64 0, .int .i64 0, .slice none 0 0, .int .i64 0, .int .i64 0, .bool false, .bool false], .bool false])) ∧ Below w.heap.size w w'

theorem applyF_no {v : ViewV} {p : PatchV} (h : rightV v = false ∨ rightV (if p.whole = true then p.view else v) = false) : applyF v p = none := by
  unfold applyF
  rw [if_neg]
  rintro ⟨h1, h2⟩
  rcases h with h | h
  · rw [h] at h1; cases h1
  · rw [h] at h2; cases h2
theorem applyF_part {v : ViewV} {p : PatchV} (h : rightV v = true) (hp : p.whole = false) : applyF v p = (match chgF v.wide v.high p.cs v.lines with
      | none => none
      | some l1 => match wrpF v.high p.is l1 with
        | none => none
        | some l2 => if rightV ⟨v.wide, v.high, l2, p.row, p.col, p.pend, p.auto⟩ = true then some ⟨v.wide, v.high, l2, p.row, p.col, p.pend, p.auto⟩ else none) := by
  unfold applyF
  rw [hp]
  simp only [Bool.false_eq_true, if_false]
  rw [if_pos ⟨h, h⟩]
theorem applyF_whole {v : ViewV} {p : PatchV} (h : rightV v = true) (hp : p.whole = true) (h2 : rightV p.view = true) : applyF v p = some p.view := by
  unfold applyF
  rw [hp]
  simp only [if_true]
  rw [if_pos ⟨h, h2⟩]
theorem Lns.down {base b0 : Nat} {w : World} {v : Value} {ls : List LineV} (h : Lns base w v ls) (hb : b0 ≤ base) : Lns b0 w v ls := by
  obtain ⟨ps, e, h⟩ := h
  exact ⟨ps, e, h.down hb⟩
structure applyF_lines (lk : List LineV) (ps : List (Value × LineV)) (wd : Int) : Prop where
  eq : ps.map Prod.snd = lk
  wide : ∀ l ∈ lk, (l.1.length : Int) = wd
  triv : True = True

theorem applyF_put {lk : List LineV} {ps : List (Value × LineV)} {wd : Int} {i f n : Nat} {m : List CellV} (h : applyF_lines lk ps wd) (hi : i < ps.length) (hl : i < lk.length) (he : ps[i].2 = lk[i]) (hn : ps[i].2.1.length = n) (hnw : (n : Int) = wd) (hf : f + m.length ≤ n) :
    applyF_lines (putL lk ((i : Int), (f : Int), m)) (ps.set i (ps[i].1, (ps[i].2.1.take f ++ m ++ ps[i].2.1.drop (f + m.length), ps[i].2.2))) wd := by
  have e : putL lk ((i : Int), (f : Int), m) = lk.set i (ps[i].2.1.take f ++ m ++ ps[i].2.1.drop (f + m.length), ps[i].2.2) := by
    unfold putL putC
    simp only [Int.toNat_natCast]
    rw [lnD_at lk hl, he]
  rw [e]
  refine ⟨by rw [List.map_set, h.eq], fun l hm => ?_, rfl⟩
  rcases List.mem_or_eq_of_mem_set hm with hm | rfl
  · exact h.wide l hm
  · simp only [List.length_append, List.length_take, List.length_drop]
    omega

theorem applyF_flip {lk : List LineV} {ps : List (Value × LineV)} {wd : Int} {i : Nat} (h : applyF_lines lk ps wd) (hi : i < ps.length) (hl : i < lk.length) (he : ps[i].2 = lk[i]) :
    applyF_lines (flipL lk (i : Int)) (ps.set i (ps[i].1, (ps[i].2.1, !ps[i].2.2))) wd := by
  have e : flipL lk (i : Int) = lk.set i (ps[i].2.1, !ps[i].2.2) := by
    unfold flipL
    simp only [Int.toNat_natCast]
    rw [lnD_at lk hl, he]
  rw [e]
  refine ⟨by rw [List.map_set, h.eq], fun l hm => ?_, rfl⟩
  rcases List.mem_or_eq_of_mem_set hm with hm | rfl
  · exact h.wide l hm
  · simp only
    rw [he]
    exact h.wide lk[i] (List.getElem_mem _)

set_option maxRecDepth 4096 in
set_option maxHeartbeats 8000000 in
theorem Apply_ok (So To Uo Xo : Nat → Prop) (x y z u : Value) (wd hi r c wd2 hi2 r2 c2 pr pc : Int) (p au p2 au2 pp pa wh : Bool) (ls ls2 : List LineV) (cs : List ChangeV) (is : List Int) (w : World) (hx : Slc RLine So (fun b => b < w.heap.size) w x ls) (hy : Slc RLine To (fun b => b < w.heap.size) w y ls2) (hz : Slc RChange Uo (fun b => b < w.heap.size) w z cs) (hu : Slc (Rep.int .i64) Xo (fun b => b < w.heap.size) w u is) (hok : TextsOk ls) (hok2 : TextsOk ls2) (hct : ∀ c ∈ cs, ∀ x ∈ c.2.2, x.2.length * 4 ≤ 140737488355328) (hcn : cs.length ≤ 100000000) (hin : is.length ≤ 100000000) (hww : (Lit.int .i64 wd).wf = true) :
    Calls Try.prog 13 #[.agg #[.int .i64 wd, .int .i64 hi, x, .int .i64 r, .int .i64 c, .bool p, .bool au], .agg #[z, u, .int .i64 pr, .int .i64 pc, .bool pp, .bool pa, .bool wh, .int .i64 wd2, .int .i64 hi2, y, .int .i64 r2, .int .i64 c2, .bool p2, .bool au2]] w (AppR (applyF ⟨wd, hi, ls, r, c, p, au⟩ ⟨cs, is, pr, pc, pp, pa, wh, ⟨wd2, hi2, ls2, r2, c2, p2, au2⟩⟩) w) := by
  obtain ⟨A, cp, rfl, _, _, _⟩ := hx.open_
  obtain ⟨A2, cp2, rfl, _, _, _⟩ := hy.open_
  obtain ⟨A3, cp3, rfl, _, _, _⟩ := hz.open_
  obtain ⟨A4, cp4, rfl, _, _, _⟩ := hu.open_
  have hb0 : Below w.heap.size w (((w.alloc (.cells #[.int .i64 wd, .int .i64 hi, .slice A ls.length cp, .int .i64 r, .int .i64 c, .bool p, .bool au] 26)).alloc (.cells #[.slice A3 cs.length cp3, .slice A4 is.length cp4, .int .i64 pr, .int .i64 pc, .bool pp, .bool pa, .bool wh, .int .i64 wd2, .int .i64 hi2, .slice A2 ls2.length cp2, .int .i64 r2, .int .i64 c2, .bool p2, .bool au2] 33)).alloc (.cells #[.int .i64 0, .int .i64 0, .slice none 0 0, .int .i64 0, .int .i64 0, .bool false, .bool false] 26)) := (((Below.refl _ w).alloc (Nat.le_refl _) _).alloc (by simp) _).alloc (by simp; omega) _
  have bv : Blk (((w.alloc (.cells #[.int .i64 wd, .int .i64 hi, .slice A ls.length cp, .int .i64 r, .int .i64 c, .bool p, .bool au] 26)).alloc (.cells #[.slice A3 cs.length cp3, .slice A4 is.length cp4, .int .i64 pr, .int .i64 pc, .bool pp, .bool pa, .bool wh, .int .i64 wd2, .int .i64 hi2, .slice A2 ls2.length cp2, .int .i64 r2, .int .i64 c2, .bool p2, .bool au2] 33)).alloc (.cells #[.int .i64 0, .int .i64 0, .slice none 0 0, .int .i64 0, .int .i64 0, .bool false, .bool false] 26)) w.heap.size 26 #[.int .i64 wd, .int .i64 hi, .slice A ls.length cp, .int .i64 r, .int .i64 c, .bool p, .bool au] := ((Blk.new w 26 #[.int .i64 wd, .int .i64 hi, .slice A ls.length cp, .int .i64 r, .int .i64 c, .bool p, .bool au]).alloc _).alloc _
  have bp : Blk (((w.alloc (.cells #[.int .i64 wd, .int .i64 hi, .slice A ls.length cp, .int .i64 r, .int .i64 c, .bool p, .bool au] 26)).alloc (.cells #[.slice A3 cs.length cp3, .slice A4 is.length cp4, .int .i64 pr, .int .i64 pc, .bool pp, .bool pa, .bool wh, .int .i64 wd2, .int .i64 hi2, .slice A2 ls2.length cp2, .int .i64 r2, .int .i64 c2, .bool p2, .bool au2] 33)).alloc (.cells #[.int .i64 0, .int .i64 0, .slice none 0 0, .int .i64 0, .int .i64 0, .bool false, .bool false] 26)) (w.heap.size + 1) 33 #[.slice A3 cs.length cp3, .slice A4 is.length cp4, .int .i64 pr, .int .i64 pc, .bool pp, .bool pa, .bool wh, .int .i64 wd2, .int .i64 hi2, .slice A2 ls2.length cp2, .int .i64 r2, .int .i64 c2, .bool p2, .bool au2] := by
    have := (Blk.new (w.alloc (.cells #[.int .i64 wd, .int .i64 hi, .slice A ls.length cp, .int .i64 r, .int .i64 c, .bool p, .bool au] 26)) 33 #[.slice A3 cs.length cp3, .slice A4 is.length cp4, .int .i64 pr, .int .i64 pc, .bool pp, .bool pa, .bool wh, .int .i64 wd2, .int .i64 hi2, .slice A2 ls2.length cp2, .int .i64 r2, .int .i64 c2, .bool p2, .bool au2]).alloc (.cells #[.int .i64 0, .int .i64 0, .slice none 0 0, .int .i64 0, .int .i64 0, .bool false, .bool false] 26)
    simpa using this
  have br : Blk (((w.alloc (.cells #[.int .i64 wd, .int .i64 hi, .slice A ls.length cp, .int .i64 r, .int .i64 c, .bool p, .bool au] 26)).alloc (.cells #[.slice A3 cs.length cp3, .slice A4 is.length cp4, .int .i64 pr, .int .i64 pc, .bool pp, .bool pa, .bool wh, .int .i64 wd2, .int .i64 hi2, .slice A2 ls2.length cp2, .int .i64 r2, .int .i64 c2, .bool p2, .bool au2] 33)).alloc (.cells #[.int .i64 0, .int .i64 0, .slice none 0 0, .int .i64 0, .int .i64 0, .bool false, .bool false] 26)) (w.heap.size + 1 + 1) 26 #[.int .i64 0, .int .i64 0, .slice none 0 0, .int .i64 0, .int .i64 0, .bool false, .bool false] := by
    have := Blk.new ((w.alloc (.cells #[.int .i64 wd, .int .i64 hi, .slice A ls.length cp, .int .i64 r, .int .i64 c, .bool p, .bool au] 26)).alloc (.cells #[.slice A3 cs.length cp3, .slice A4 is.length cp4, .int .i64 pr, .int .i64 pc, .bool pp, .bool pa, .bool wh, .int .i64 wd2, .int .i64 hi2, .slice A2 ls2.length cp2, .int .i64 r2, .int .i64 c2, .bool p2, .bool au2] 33)) 26 #[.int .i64 0, .int .i64 0, .slice none 0 0, .int .i64 0, .int .i64 0, .bool false, .bool false]
    simpa using this
  have HX := hide (fun W (h : Below w.heap.size w W) => (hx.mono (Keep.below (S := So) h) (Keep.below (S := fun b => b < w.heap.size) h)).mono (Keep.refl _ _) (Keep.weaken (S' := fun b => b < W.heap.size) fun b hb => by have := h.size; omega))
  have HY := hide (fun W (h : Below w.heap.size w W) => (hy.mono (Keep.below (S := To) h) (Keep.below (S := fun b => b < w.heap.size) h)).mono (Keep.refl _ _) (Keep.weaken (S' := fun b => b < W.heap.size) fun b hb => by have := h.size; omega))
  have HSA := hide (fun W (h : Below w.heap.size w W) => SRight_ok _ _ wd hi r c p au ls W (HX.out W h) hok.w hok.n)
  have HCA := hide (fun W (h : Below w.heap.size w W) => copied_ok _ _ wd hi r c p au ls W (HX.out W h) hok)
  have HCB := hide (fun W (h : Below w.heap.size w W) => copied_ok _ _ wd2 hi2 r2 c2 p2 au2 ls2 W (HY.out W h) hok2)
  have HOK := hide hok
  have HOK2 := hide hok2
  have HCT := hide hct
  clear hok hok2 hct
  obtain ⟨res, hres⟩ : ∃ res, applyF ⟨wd, hi, ls, r, c, p, au⟩ ⟨cs, is, pr, pc, pp, pa, wh, ⟨wd2, hi2, ls2, r2, c2, p2, au2⟩⟩ = res := ⟨_, rfl⟩
  rw [hres]
  have HRES := hide hres
  clear hres
  generalize hW0 : ((w.alloc (.cells #[.int .i64 wd, .int .i64 hi, .slice A ls.length cp, .int .i64 r, .int .i64 c, .bool p, .bool au] 26)).alloc (.cells #[.slice A3 cs.length cp3, .slice A4 is.length cp4, .int .i64 pr, .int .i64 pc, .bool pp, .bool pa, .bool wh, .int .i64 wd2, .int .i64 hi2, .slice A2 ls2.length cp2, .int .i64 r2, .int .i64 c2, .bool p2, .bool au2] 33)).alloc (.cells #[.int .i64 0, .int .i64 0, .slice none 0 0, .int .i64 0, .int .i64 0, .bool false, .bool false] 26) = w0 at *
  have hz0 := hb0.size
  go_enter Try.func13, Try.ntmps13
  have y0 := bv.cell 0; have y1 := bv.cell 1; have y2 := bv.cell 2; have y3 := bv.cell 3; have y4 := bv.cell 4; have y5 := bv.cell 5; have y6 := bv.cell 6; simp only [List.getElem?_toArray, List.getElem?_cons_succ, List.getElem?_cons_zero] at y0 y1 y2 y3 y4 y5 y6; have q0 := bp.cell 0; have q1 := bp.cell 1; have q2 := bp.cell 2; have q3 := bp.cell 3; have q4 := bp.cell 4; have q5 := bp.cell 5; have q6 := bp.cell 6; have q7 := bp.cell 7; have q8 := bp.cell 8; have q9 := bp.cell 9; have q10 := bp.cell 10; have q11 := bp.cell 11; have q12 := bp.cell 12; have q13 := bp.cell 13; simp only [List.getElem?_toArray, List.getElem?_cons_succ, List.getElem?_cons_zero] at q0 q1 q2 q3 q4 q5 q6 q7 q8 q9 q10 q11 q12 q13
  go_wp2_with fail
  refine (HCA.out _ hb0).mono ?_
  rintro e w1 ⟨ov, rfl, hl1, hc1⟩
  obtain ⟨A5, n5, c5, rfl⟩ : ∃ A5 n5 c5, ov = .slice A5 n5 c5 := by
    obtain ⟨A, c, e, _⟩ := hl1.slc.open_
    exact ⟨A, _, c, e⟩
  have hb1 := hb0.trans (hc1.mono hz0)
  have hz1 := hb1.size
  have bv := bv.same hc1
  have bp := bp.same hc1
  have br := br.same hc1
  clear hc1
  go_upto_region 2 with fail
  have hrl := br.lt
  have hb2 := hb1.alloc hz1 (.cells #[.int .i64 wd, .int .i64 hi, .slice A5 n5 c5, .int .i64 r, .int .i64 c, .bool p, .bool au] 26)
  have bo := Blk.new w1 26 #[.int .i64 wd, .int .i64 hi, .slice A5 n5 c5, .int .i64 r, .int .i64 c, .bool p, .bool au]
  have bv := bv.alloc (.cells #[.int .i64 wd, .int .i64 hi, .slice A5 n5 c5, .int .i64 r, .int .i64 c, .bool p, .bool au] 26)
  have bp := bp.alloc (.cells #[.int .i64 wd, .int .i64 hi, .slice A5 n5 c5, .int .i64 r, .int .i64 c, .bool p, .bool au] 26)
  have br := br.alloc (.cells #[.int .i64 wd, .int .i64 hi, .slice A5 n5 c5, .int .i64 r, .int .i64 c, .bool p, .bool au] 26)
  have hl2 := hl1.alloc (.cells #[.int .i64 wd, .int .i64 hi, .slice A5 n5 c5, .int .i64 r, .int .i64 c, .bool p, .bool au] 26)
  obtain ⟨go, hgo⟩ : ∃ go, w1.heap.size = go := ⟨_, rfl⟩
  have hgo1 : w.heap.size ≤ go := by omega
  have hgo2 : w.heap.size ≠ go ∧ w.heap.size + 1 ≠ go ∧ w.heap.size + 1 + 1 ≠ go := by
    rw [← hgo]
    omega
  rw [hgo] at bo ⊢
  generalize w1.alloc (.cells #[.int .i64 wd, .int .i64 hi, .slice A5 n5 c5, .int .i64 r, .int .i64 c, .bool p, .bool au] 26) = w2 at *
  clear hgo hb1 hz1 hl1 hrl
  have hz2 := hb2.size
  have y0 := bv.cell 0; have y1 := bv.cell 1; have y2 := bv.cell 2; have y3 := bv.cell 3; have y4 := bv.cell 4; have y5 := bv.cell 5; have y6 := bv.cell 6; simp only [List.getElem?_toArray, List.getElem?_cons_succ, List.getElem?_cons_zero] at y0 y1 y2 y3 y4 y5 y6; have q0 := bp.cell 0; have q1 := bp.cell 1; have q2 := bp.cell 2; have q3 := bp.cell 3; have q4 := bp.cell 4; have q5 := bp.cell 5; have q6 := bp.cell 6; have q7 := bp.cell 7; have q8 := bp.cell 8; have q9 := bp.cell 9; have q10 := bp.cell 10; have q11 := bp.cell 11; have q12 := bp.cell 12; have q13 := bp.cell 13; simp only [List.getElem?_toArray, List.getElem?_cons_succ, List.getElem?_cons_zero] at q0 q1 q2 q3 q4 q5 q6 q7 q8 q9 q10 q11 q12 q13
  cases wh with
  | true =>
    -- <s2>
    go_wp2_with fail
    refine (HCB.out _ hb2).mono ?_
    rintro e w3 ⟨ov2, rfl, hl3, hc3⟩
    obtain ⟨A6, n6, c6, rfl⟩ : ∃ A6 n6 c6, ov2 = .slice A6 n6 c6 := by
      obtain ⟨A, c, e, _⟩ := hl3.slc.open_
      exact ⟨A, _, c, e⟩
    have hl3 := hl3.down hz2
    have hb3 := hb2.trans (hc3.mono hz2)
    have hz3 := hb3.size
    have bv := bv.same hc3
    have bp := bp.same hc3
    have br := br.same hc3
    have bo := bo.same hc3
    clear hc3 hl2
    have o0 := bo.cell 0; have o1 := bo.cell 1; have o2 := bo.cell 2; have o3 := bo.cell 3; have o4 := bo.cell 4; have o5 := bo.cell 5; have o6 := bo.cell 6; simp only [List.getElem?_toArray, List.getElem?_cons_succ, List.getElem?_cons_zero] at o0 o1 o2 o3 o4 o5 o6
    have f0 := bo.frozen 0; have f1 := bo.frozen 1; have f2 := bo.frozen 2; have f3 := bo.frozen 3; have f4 := bo.frozen 4; have f5 := bo.frozen 5; have f6 := bo.frozen 6
    go_upto_region 4 with fail
    have hst4 : Step w.heap.size [26] w3 ((((((((w3).setCell ⟨go, 0, none⟩ (.int .i64 wd2)).setCell ⟨go, 1, none⟩ (.int .i64 hi2)).setCell ⟨go, 2, none⟩ (.slice A6 n6 c6)).setCell ⟨go, 3, none⟩ (.int .i64 r2)).setCell ⟨go, 4, none⟩ (.int .i64 c2)).setCell ⟨go, 5, none⟩ (.bool p2)).setCell ⟨go, 6, none⟩ (.bool au2)) := (((((((Step.refl w.heap.size [26] w3).setCell (p := ⟨go, 0, none⟩) hgo1 (bo).bears (.int .i64 wd2)).setCell (p := ⟨go, 1, none⟩) hgo1 ((bo).set_ 0 (.int .i64 wd2)).bears (.int .i64 hi2)).setCell (p := ⟨go, 2, none⟩) hgo1 (((bo).set_ 0 (.int .i64 wd2)).set_ 1 (.int .i64 hi2)).bears (.slice A6 n6 c6)).setCell (p := ⟨go, 3, none⟩) hgo1 ((((bo).set_ 0 (.int .i64 wd2)).set_ 1 (.int .i64 hi2)).set_ 2 (.slice A6 n6 c6)).bears (.int .i64 r2)).setCell (p := ⟨go, 4, none⟩) hgo1 (((((bo).set_ 0 (.int .i64 wd2)).set_ 1 (.int .i64 hi2)).set_ 2 (.slice A6 n6 c6)).set_ 3 (.int .i64 r2)).bears (.int .i64 c2)).setCell (p := ⟨go, 5, none⟩) hgo1 ((((((bo).set_ 0 (.int .i64 wd2)).set_ 1 (.int .i64 hi2)).set_ 2 (.slice A6 n6 c6)).set_ 3 (.int .i64 r2)).set_ 4 (.int .i64 c2)).bears (.bool p2)).setCell (p := ⟨go, 6, none⟩) hgo1 (((((((bo).set_ 0 (.int .i64 wd2)).set_ 1 (.int .i64 hi2)).set_ 2 (.slice A6 n6 c6)).set_ 3 (.int .i64 r2)).set_ 4 (.int .i64 c2)).set_ 5 (.bool p2)).bears (.bool au2)
    have bo4 : Blk ((((((((w3).setCell ⟨go, 0, none⟩ (.int .i64 wd2)).setCell ⟨go, 1, none⟩ (.int .i64 hi2)).setCell ⟨go, 2, none⟩ (.slice A6 n6 c6)).setCell ⟨go, 3, none⟩ (.int .i64 r2)).setCell ⟨go, 4, none⟩ (.int .i64 c2)).setCell ⟨go, 5, none⟩ (.bool p2)).setCell ⟨go, 6, none⟩ (.bool au2)) go 26 #[.int .i64 wd2, .int .i64 hi2, .slice A6 n6 c6, .int .i64 r2, .int .i64 c2, .bool p2, .bool au2] := by
      have := (((((((bo).set_ 0 (.int .i64 wd2)).set_ 1 (.int .i64 hi2)).set_ 2 (.slice A6 n6 c6)).set_ 3 (.int .i64 r2)).set_ 4 (.int .i64 c2)).set_ 5 (.bool p2)).set_ 6 (.bool au2)
      simp only [List.setIfInBounds_toArray, List.set_cons_zero, List.set_cons_succ] at this
      exact this
    have bv4 : Blk ((((((((w3).setCell ⟨go, 0, none⟩ (.int .i64 wd2)).setCell ⟨go, 1, none⟩ (.int .i64 hi2)).setCell ⟨go, 2, none⟩ (.slice A6 n6 c6)).setCell ⟨go, 3, none⟩ (.int .i64 r2)).setCell ⟨go, 4, none⟩ (.int .i64 c2)).setCell ⟨go, 5, none⟩ (.bool p2)).setCell ⟨go, 6, none⟩ (.bool au2)) w.heap.size 26 #[.int .i64 wd, .int .i64 hi, .slice A ls.length cp, .int .i64 r, .int .i64 c, .bool p, .bool au] := (((((((bv).far (p := ⟨go, 0, none⟩) hgo2.1 (.int .i64 wd2)).far (p := ⟨go, 1, none⟩) hgo2.1 (.int .i64 hi2)).far (p := ⟨go, 2, none⟩) hgo2.1 (.slice A6 n6 c6)).far (p := ⟨go, 3, none⟩) hgo2.1 (.int .i64 r2)).far (p := ⟨go, 4, none⟩) hgo2.1 (.int .i64 c2)).far (p := ⟨go, 5, none⟩) hgo2.1 (.bool p2)).far (p := ⟨go, 6, none⟩) hgo2.1 (.bool au2)
    have br4 : Blk ((((((((w3).setCell ⟨go, 0, none⟩ (.int .i64 wd2)).setCell ⟨go, 1, none⟩ (.int .i64 hi2)).setCell ⟨go, 2, none⟩ (.slice A6 n6 c6)).setCell ⟨go, 3, none⟩ (.int .i64 r2)).setCell ⟨go, 4, none⟩ (.int .i64 c2)).setCell ⟨go, 5, none⟩ (.bool p2)).setCell ⟨go, 6, none⟩ (.bool au2)) (w.heap.size + 1 + 1) 26 #[.int .i64 0, .int .i64 0, .slice none 0 0, .int .i64 0, .int .i64 0, .bool false, .bool false] := (((((((br).far (p := ⟨go, 0, none⟩) hgo2.2.2 (.int .i64 wd2)).far (p := ⟨go, 1, none⟩) hgo2.2.2 (.int .i64 hi2)).far (p := ⟨go, 2, none⟩) hgo2.2.2 (.slice A6 n6 c6)).far (p := ⟨go, 3, none⟩) hgo2.2.2 (.int .i64 r2)).far (p := ⟨go, 4, none⟩) hgo2.2.2 (.int .i64 c2)).far (p := ⟨go, 5, none⟩) hgo2.2.2 (.bool p2)).far (p := ⟨go, 6, none⟩) hgo2.2.2 (.bool au2)
    have bp4 : Blk ((((((((w3).setCell ⟨go, 0, none⟩ (.int .i64 wd2)).setCell ⟨go, 1, none⟩ (.int .i64 hi2)).setCell ⟨go, 2, none⟩ (.slice A6 n6 c6)).setCell ⟨go, 3, none⟩ (.int .i64 r2)).setCell ⟨go, 4, none⟩ (.int .i64 c2)).setCell ⟨go, 5, none⟩ (.bool p2)).setCell ⟨go, 6, none⟩ (.bool au2)) (w.heap.size + 1) 33 #[.slice A3 cs.length cp3, .slice A4 is.length cp4, .int .i64 pr, .int .i64 pc, .bool pp, .bool pa, .bool true, .int .i64 wd2, .int .i64 hi2, .slice A2 ls2.length cp2, .int .i64 r2, .int .i64 c2, .bool p2, .bool au2] := bp.step hst4 (by decide)
    have hb4 := hb3.trans (hst4.below hz3)
    have hl4 := hl3.step hst4 (by decide) (by decide) (by decide)
    clear bo bv br bp hst4 hb3 hl3 o0 o1 o2 o3 o4 o5 o6 f0 f1 f2 f3 f4 f5 f6 y0 y1 y2 y3 y4 y5 y6 q0 q1 q2 q3 q4 q5 q6 q7 q8 q9 q10 q11 q12 q13
    generalize (((((((w3).setCell ⟨go, 0, none⟩ (.int .i64 wd2)).setCell ⟨go, 1, none⟩ (.int .i64 hi2)).setCell ⟨go, 2, none⟩ (.slice A6 n6 c6)).setCell ⟨go, 3, none⟩ (.int .i64 r2)).setCell ⟨go, 4, none⟩ (.int .i64 c2)).setCell ⟨go, 5, none⟩ (.bool p2)).setCell ⟨go, 6, none⟩ (.bool au2) = w4 at *
    have hz4 := hb4.size
    have bv := bv4; have bp := bp4; have br := br4; have bo := bo4
    clear bv4 bp4 br4 bo4
    have y0 := bv.cell 0; have y1 := bv.cell 1; have y2 := bv.cell 2; have y3 := bv.cell 3; have y4 := bv.cell 4; have y5 := bv.cell 5; have y6 := bv.cell 6; simp only [List.getElem?_toArray, List.getElem?_cons_succ, List.getElem?_cons_zero] at y0 y1 y2 y3 y4 y5 y6; have q0 := bp.cell 0; have q1 := bp.cell 1; have q2 := bp.cell 2; have q3 := bp.cell 3; have q4 := bp.cell 4; have q5 := bp.cell 5; have q6 := bp.cell 6; have q7 := bp.cell 7; have q8 := bp.cell 8; have q9 := bp.cell 9; have q10 := bp.cell 10; have q11 := bp.cell 11; have q12 := bp.cell 12; have q13 := bp.cell 13; simp only [List.getElem?_toArray, List.getElem?_cons_succ, List.getElem?_cons_zero] at q0 q1 q2 q3 q4 q5 q6 q7 q8 q9 q10 q11 q12 q13
    go_wp2_with fail
    refine (HSA.out _ hb4).mono ?_
    cases hr : rightV ⟨wd, hi, ls, r, c, p, au⟩ with
    | false =>
      rintro e w5 ⟨rfl, hc5⟩
      have hb5 := hb4.trans (hc5.mono hz4)
      have br := br.same hc5
      obtain rfl : res = none := by rw [← HRES.out]; exact applyF_no (.inl hr)
      clear hr hc5 y0 y1 y2 y3 y4 y5 y6 q0 q1 q2 q3 q4 q5 q6 q7 q8 q9 q10 q11 q12 q13
      have t0 := br.cell 0; have t1 := br.cell 1; have t2 := br.cell 2; have t3 := br.cell 3; have t4 := br.cell 4; have t5 := br.cell 5; have t6 := br.cell 6; have f0 := br.frozen 0; have f1 := br.frozen 1; have f2 := br.frozen 2; have f3 := br.frozen 3; have f4 := br.frozen 4; have f5 := br.frozen 5; have f6 := br.frozen 6; simp only [List.getElem?_toArray, List.getElem?_cons_succ, List.getElem?_cons_zero] at t0 t1 t2 t3 t4 t5 t6
      go_wp2
      have hbz : Below w.heap.size w ((((((((w5).setCell ⟨w.heap.size + 1 + 1, 0, none⟩ (.int .i64 0)).setCell ⟨w.heap.size + 1 + 1, 1, none⟩ (.int .i64 0)).setCell ⟨w.heap.size + 1 + 1, 2, none⟩ (.slice none 0 0)).setCell ⟨w.heap.size + 1 + 1, 3, none⟩ (.int .i64 0)).setCell ⟨w.heap.size + 1 + 1, 4, none⟩ (.int .i64 0)).setCell ⟨w.heap.size + 1 + 1, 5, none⟩ (.bool false)).setCell ⟨w.heap.size + 1 + 1, 6, none⟩ (.bool false)) := (((((((hb5).setCell (p := ⟨w.heap.size + 1 + 1, 0, none⟩) (by show w.heap.size ≤ w.heap.size + 1 + 1; omega) (.int .i64 0)).setCell (p := ⟨w.heap.size + 1 + 1, 1, none⟩) (by show w.heap.size ≤ w.heap.size + 1 + 1; omega) (.int .i64 0)).setCell (p := ⟨w.heap.size + 1 + 1, 2, none⟩) (by show w.heap.size ≤ w.heap.size + 1 + 1; omega) (.slice none 0 0)).setCell (p := ⟨w.heap.size + 1 + 1, 3, none⟩) (by show w.heap.size ≤ w.heap.size + 1 + 1; omega) (.int .i64 0)).setCell (p := ⟨w.heap.size + 1 + 1, 4, none⟩) (by show w.heap.size ≤ w.heap.size + 1 + 1; omega) (.int .i64 0)).setCell (p := ⟨w.heap.size + 1 + 1, 5, none⟩) (by show w.heap.size ≤ w.heap.size + 1 + 1; omega) (.bool false)).setCell (p := ⟨w.heap.size + 1 + 1, 6, none⟩) (by show w.heap.size ≤ w.heap.size + 1 + 1; omega) (.bool false)
      have bn : Blk ((((((((w5).setCell ⟨w.heap.size + 1 + 1, 0, none⟩ (.int .i64 0)).setCell ⟨w.heap.size + 1 + 1, 1, none⟩ (.int .i64 0)).setCell ⟨w.heap.size + 1 + 1, 2, none⟩ (.slice none 0 0)).setCell ⟨w.heap.size + 1 + 1, 3, none⟩ (.int .i64 0)).setCell ⟨w.heap.size + 1 + 1, 4, none⟩ (.int .i64 0)).setCell ⟨w.heap.size + 1 + 1, 5, none⟩ (.bool false)).setCell ⟨w.heap.size + 1 + 1, 6, none⟩ (.bool false)) (w.heap.size + 1 + 1) 26 #[.int .i64 0, .int .i64 0, .slice none 0 0, .int .i64 0, .int .i64 0, .bool false, .bool false] := by have := (((((((br).set_ 0 (.int .i64 0)).set_ 1 (.int .i64 0)).set_ 2 (.slice none 0 0)).set_ 3 (.int .i64 0)).set_ 4 (.int .i64 0)).set_ 5 (.bool false)).set_ 6 (.bool false); simpa using this
      generalize (((((((w5).setCell ⟨w.heap.size + 1 + 1, 0, none⟩ (.int .i64 0)).setCell ⟨w.heap.size + 1 + 1, 1, none⟩ (.int .i64 0)).setCell ⟨w.heap.size + 1 + 1, 2, none⟩ (.slice none 0 0)).setCell ⟨w.heap.size + 1 + 1, 3, none⟩ (.int .i64 0)).setCell ⟨w.heap.size + 1 + 1, 4, none⟩ (.int .i64 0)).setCell ⟨w.heap.size + 1 + 1, 5, none⟩ (.bool false)).setCell ⟨w.heap.size + 1 + 1, 6, none⟩ (.bool false) = wz at *
      have x0 := bn.cell 0; have x1 := bn.cell 1; have x2 := bn.cell 2; have x3 := bn.cell 3; have x4 := bn.cell 4; have x5 := bn.cell 5; have x6 := bn.cell 6; simp only [List.getElem?_toArray, List.getElem?_cons_succ, List.getElem?_cons_zero] at x0 x1 x2 x3 x4 x5 x6
      refine bodyPost_ret (v := .tuple #[.agg #[.int .i64 0, .int .i64 0, .slice none 0 0, .int .i64 0, .int .i64 0, .bool false, .bool false], .bool false]) (by simp [results, Try.results13, go_sem, x0, x1, x2, x3, x4, x5, x6]) rfl ⟨fun v hv => (by cases hv), fun _ => rfl, hbz⟩
    | true =>
      rintro e w5 ⟨rfl, hc5⟩
      have hb5 := hb4.trans (hc5.mono hz4)
      have hz5 := hb5.size
      have bv := bv.same hc5
      have bp := bp.same hc5
      have br := br.same hc5
      have bo := bo.same hc5
      have hl5 := hl4.below hc5
      have HSO := hide (SRight_ok _ _ wd2 hi2 r2 c2 p2 au2 ls2 w5 hl5.slc HOK2.out.w HOK2.out.n)
      have HR := hide hr
      clear hr hc5 hl4 hz4 hb4
      have y0 := bv.cell 0; have y1 := bv.cell 1; have y2 := bv.cell 2; have y3 := bv.cell 3; have y4 := bv.cell 4; have y5 := bv.cell 5; have y6 := bv.cell 6; simp only [List.getElem?_toArray, List.getElem?_cons_succ, List.getElem?_cons_zero] at y0 y1 y2 y3 y4 y5 y6; have q0 := bp.cell 0; have q1 := bp.cell 1; have q2 := bp.cell 2; have q3 := bp.cell 3; have q4 := bp.cell 4; have q5 := bp.cell 5; have q6 := bp.cell 6; have q7 := bp.cell 7; have q8 := bp.cell 8; have q9 := bp.cell 9; have q10 := bp.cell 10; have q11 := bp.cell 11; have q12 := bp.cell 12; have q13 := bp.cell 13; simp only [List.getElem?_toArray, List.getElem?_cons_succ, List.getElem?_cons_zero] at q0 q1 q2 q3 q4 q5 q6 q7 q8 q9 q10 q11 q12 q13
      have o0 := bo.cell 0; have o1 := bo.cell 1; have o2 := bo.cell 2; have o3 := bo.cell 3; have o4 := bo.cell 4; have o5 := bo.cell 5; have o6 := bo.cell 6; simp only [List.getElem?_toArray, List.getElem?_cons_succ, List.getElem?_cons_zero] at o0 o1 o2 o3 o4 o5 o6
      go_wp2_with fail
      refine HSO.out.mono ?_
      cases hr2 : rightV ⟨wd2, hi2, ls2, r2, c2, p2, au2⟩ with
      | false =>
        rintro e w6 ⟨rfl, hc6⟩
        have hb6 := hb5.trans (hc6.mono hz5)
        have br := br.same hc6
        obtain rfl : res = none := by rw [← HRES.out]; exact applyF_no (.inr hr2)
        clear hr2 hc6 y0 y1 y2 y3 y4 y5 y6 q0 q1 q2 q3 q4 q5 q6 q7 q8 q9 q10 q11 q12 q13 o0 o1 o2 o3 o4 o5 o6
        have t0 := br.cell 0; have t1 := br.cell 1; have t2 := br.cell 2; have t3 := br.cell 3; have t4 := br.cell 4; have t5 := br.cell 5; have t6 := br.cell 6; have f0 := br.frozen 0; have f1 := br.frozen 1; have f2 := br.frozen 2; have f3 := br.frozen 3; have f4 := br.frozen 4; have f5 := br.frozen 5; have f6 := br.frozen 6; simp only [List.getElem?_toArray, List.getElem?_cons_succ, List.getElem?_cons_zero] at t0 t1 t2 t3 t4 t5 t6
        go_wp2
        have hbz : Below w.heap.size w ((((((((w6).setCell ⟨w.heap.size + 1 + 1, 0, none⟩ (.int .i64 0)).setCell ⟨w.heap.size + 1 + 1, 1, none⟩ (.int .i64 0)).setCell ⟨w.heap.size + 1 + 1, 2, none⟩ (.slice none 0 0)).setCell ⟨w.heap.size + 1 + 1, 3, none⟩ (.int .i64 0)).setCell ⟨w.heap.size + 1 + 1, 4, none⟩ (.int .i64 0)).setCell ⟨w.heap.size + 1 + 1, 5, none⟩ (.bool false)).setCell ⟨w.heap.size + 1 + 1, 6, none⟩ (.bool false)) := (((((((hb6).setCell (p := ⟨w.heap.size + 1 + 1, 0, none⟩) (by show w.heap.size ≤ w.heap.size + 1 + 1; omega) (.int .i64 0)).setCell (p := ⟨w.heap.size + 1 + 1, 1, none⟩) (by show w.heap.size ≤ w.heap.size + 1 + 1; omega) (.int .i64 0)).setCell (p := ⟨w.heap.size + 1 + 1, 2, none⟩) (by show w.heap.size ≤ w.heap.size + 1 + 1; omega) (.slice none 0 0)).setCell (p := ⟨w.heap.size + 1 + 1, 3, none⟩) (by show w.heap.size ≤ w.heap.size + 1 + 1; omega) (.int .i64 0)).setCell (p := ⟨w.heap.size + 1 + 1, 4, none⟩) (by show w.heap.size ≤ w.heap.size + 1 + 1; omega) (.int .i64 0)).setCell (p := ⟨w.heap.size + 1 + 1, 5, none⟩) (by show w.heap.size ≤ w.heap.size + 1 + 1; omega) (.bool false)).setCell (p := ⟨w.heap.size + 1 + 1, 6, none⟩) (by show w.heap.size ≤ w.heap.size + 1 + 1; omega) (.bool false)
        have bn : Blk ((((((((w6).setCell ⟨w.heap.size + 1 + 1, 0, none⟩ (.int .i64 0)).setCell ⟨w.heap.size + 1 + 1, 1, none⟩ (.int .i64 0)).setCell ⟨w.heap.size + 1 + 1, 2, none⟩ (.slice none 0 0)).setCell ⟨w.heap.size + 1 + 1, 3, none⟩ (.int .i64 0)).setCell ⟨w.heap.size + 1 + 1, 4, none⟩ (.int .i64 0)).setCell ⟨w.heap.size + 1 + 1, 5, none⟩ (.bool false)).setCell ⟨w.heap.size + 1 + 1, 6, none⟩ (.bool false)) (w.heap.size + 1 + 1) 26 #[.int .i64 0, .int .i64 0, .slice none 0 0, .int .i64 0, .int .i64 0, .bool false, .bool false] := by have := (((((((br).set_ 0 (.int .i64 0)).set_ 1 (.int .i64 0)).set_ 2 (.slice none 0 0)).set_ 3 (.int .i64 0)).set_ 4 (.int .i64 0)).set_ 5 (.bool false)).set_ 6 (.bool false); simpa using this
        generalize (((((((w6).setCell ⟨w.heap.size + 1 + 1, 0, none⟩ (.int .i64 0)).setCell ⟨w.heap.size + 1 + 1, 1, none⟩ (.int .i64 0)).setCell ⟨w.heap.size + 1 + 1, 2, none⟩ (.slice none 0 0)).setCell ⟨w.heap.size + 1 + 1, 3, none⟩ (.int .i64 0)).setCell ⟨w.heap.size + 1 + 1, 4, none⟩ (.int .i64 0)).setCell ⟨w.heap.size + 1 + 1, 5, none⟩ (.bool false)).setCell ⟨w.heap.size + 1 + 1, 6, none⟩ (.bool false) = wz at *
        have x0 := bn.cell 0; have x1 := bn.cell 1; have x2 := bn.cell 2; have x3 := bn.cell 3; have x4 := bn.cell 4; have x5 := bn.cell 5; have x6 := bn.cell 6; simp only [List.getElem?_toArray, List.getElem?_cons_succ, List.getElem?_cons_zero] at x0 x1 x2 x3 x4 x5 x6
        refine bodyPost_ret (v := .tuple #[.agg #[.int .i64 0, .int .i64 0, .slice none 0 0, .int .i64 0, .int .i64 0, .bool false, .bool false], .bool false]) (by simp [results, Try.results13, go_sem, x0, x1, x2, x3, x4, x5, x6]) rfl ⟨fun v hv => (by cases hv), fun _ => rfl, hbz⟩
      | true =>
        rintro e w6 ⟨rfl, hc6⟩
        have hb6 := hb5.trans (hc6.mono hz5)
        have bp := bp.same hc6
        have br := br.same hc6
        have bo := bo.same hc6
        have hl10 := hl5.below hc6
        have HRS := hide (HRES.out.symm.trans (applyF_whole (p := ⟨cs, is, pr, pc, pp, pa, true, ⟨wd2, hi2, ls2, r2, c2, p2, au2⟩⟩) HR.out rfl hr2))
        clear hr2 hc6 y0 y1 y2 y3 y4 y5 y6 q0 q1 q2 q3 q4 q5 q6 q7 q8 q9 q10 q11 q12 q13
        have o0 := bo.cell 0; have o1 := bo.cell 1; have o2 := bo.cell 2; have o3 := bo.cell 3; have o4 := bo.cell 4; have o5 := bo.cell 5; have o6 := bo.cell 6; simp only [List.getElem?_toArray, List.getElem?_cons_succ, List.getElem?_cons_zero] at o0 o1 o2 o3 o4 o5 o6
        have q6 := bp.cell 6
        simp only [List.getElem?_toArray, List.getElem?_cons_succ, List.getElem?_cons_zero] at q6
        have t0 := br.cell 0; have t1 := br.cell 1; have t2 := br.cell 2; have t3 := br.cell 3; have t4 := br.cell 4; have t5 := br.cell 5; have t6 := br.cell 6; have f0 := br.frozen 0; have f1 := br.frozen 1; have f2 := br.frozen 2; have f3 := br.frozen 3; have f4 := br.frozen 4; have f5 := br.frozen 5; have f6 := br.frozen 6; simp only [List.getElem?_toArray, List.getElem?_cons_succ, List.getElem?_cons_zero] at t0 t1 t2 t3 t4 t5 t6
        go_wp2
        have hbz : Below w.heap.size w ((((((((w6).setCell ⟨w.heap.size + 1 + 1, 0, none⟩ (.int .i64 wd2)).setCell ⟨w.heap.size + 1 + 1, 1, none⟩ (.int .i64 hi2)).setCell ⟨w.heap.size + 1 + 1, 2, none⟩ (.slice A6 n6 c6)).setCell ⟨w.heap.size + 1 + 1, 3, none⟩ (.int .i64 r2)).setCell ⟨w.heap.size + 1 + 1, 4, none⟩ (.int .i64 c2)).setCell ⟨w.heap.size + 1 + 1, 5, none⟩ (.bool p2)).setCell ⟨w.heap.size + 1 + 1, 6, none⟩ (.bool au2)) := (((((((hb6).setCell (p := ⟨w.heap.size + 1 + 1, 0, none⟩) (by show w.heap.size ≤ w.heap.size + 1 + 1; omega) (.int .i64 wd2)).setCell (p := ⟨w.heap.size + 1 + 1, 1, none⟩) (by show w.heap.size ≤ w.heap.size + 1 + 1; omega) (.int .i64 hi2)).setCell (p := ⟨w.heap.size + 1 + 1, 2, none⟩) (by show w.heap.size ≤ w.heap.size + 1 + 1; omega) (.slice A6 n6 c6)).setCell (p := ⟨w.heap.size + 1 + 1, 3, none⟩) (by show w.heap.size ≤ w.heap.size + 1 + 1; omega) (.int .i64 r2)).setCell (p := ⟨w.heap.size + 1 + 1, 4, none⟩) (by show w.heap.size ≤ w.heap.size + 1 + 1; omega) (.int .i64 c2)).setCell (p := ⟨w.heap.size + 1 + 1, 5, none⟩) (by show w.heap.size ≤ w.heap.size + 1 + 1; omega) (.bool p2)).setCell (p := ⟨w.heap.size + 1 + 1, 6, none⟩) (by show w.heap.size ≤ w.heap.size + 1 + 1; omega) (.bool au2)
        have bn : Blk ((((((((w6).setCell ⟨w.heap.size + 1 + 1, 0, none⟩ (.int .i64 wd2)).setCell ⟨w.heap.size + 1 + 1, 1, none⟩ (.int .i64 hi2)).setCell ⟨w.heap.size + 1 + 1, 2, none⟩ (.slice A6 n6 c6)).setCell ⟨w.heap.size + 1 + 1, 3, none⟩ (.int .i64 r2)).setCell ⟨w.heap.size + 1 + 1, 4, none⟩ (.int .i64 c2)).setCell ⟨w.heap.size + 1 + 1, 5, none⟩ (.bool p2)).setCell ⟨w.heap.size + 1 + 1, 6, none⟩ (.bool au2)) (w.heap.size + 1 + 1) 26 #[.int .i64 wd2, .int .i64 hi2, .slice A6 n6 c6, .int .i64 r2, .int .i64 c2, .bool p2, .bool au2] := by have := (((((((br).set_ 0 (.int .i64 wd2)).set_ 1 (.int .i64 hi2)).set_ 2 (.slice A6 n6 c6)).set_ 3 (.int .i64 r2)).set_ 4 (.int .i64 c2)).set_ 5 (.bool p2)).set_ 6 (.bool au2); simpa using this
        have hlz : Lns w.heap.size ((((((((w6).setCell ⟨w.heap.size + 1 + 1, 0, none⟩ (.int .i64 wd2)).setCell ⟨w.heap.size + 1 + 1, 1, none⟩ (.int .i64 hi2)).setCell ⟨w.heap.size + 1 + 1, 2, none⟩ (.slice A6 n6 c6)).setCell ⟨w.heap.size + 1 + 1, 3, none⟩ (.int .i64 r2)).setCell ⟨w.heap.size + 1 + 1, 4, none⟩ (.int .i64 c2)).setCell ⟨w.heap.size + 1 + 1, 5, none⟩ (.bool p2)).setCell ⟨w.heap.size + 1 + 1, 6, none⟩ (.bool au2)) (.slice A6 n6 c6) ls2 := hl10.step (es := [26]) ((((((((Step.refl w.heap.size [26] w6).setCell (p := ⟨w.heap.size + 1 + 1, 0, none⟩) (by show w.heap.size ≤ w.heap.size + 1 + 1; omega) (br).bears (.int .i64 wd2)).setCell (p := ⟨w.heap.size + 1 + 1, 1, none⟩) (by show w.heap.size ≤ w.heap.size + 1 + 1; omega) ((br).set_ 0 (.int .i64 wd2)).bears (.int .i64 hi2)).setCell (p := ⟨w.heap.size + 1 + 1, 2, none⟩) (by show w.heap.size ≤ w.heap.size + 1 + 1; omega) (((br).set_ 0 (.int .i64 wd2)).set_ 1 (.int .i64 hi2)).bears (.slice A6 n6 c6)).setCell (p := ⟨w.heap.size + 1 + 1, 3, none⟩) (by show w.heap.size ≤ w.heap.size + 1 + 1; omega) ((((br).set_ 0 (.int .i64 wd2)).set_ 1 (.int .i64 hi2)).set_ 2 (.slice A6 n6 c6)).bears (.int .i64 r2)).setCell (p := ⟨w.heap.size + 1 + 1, 4, none⟩) (by show w.heap.size ≤ w.heap.size + 1 + 1; omega) (((((br).set_ 0 (.int .i64 wd2)).set_ 1 (.int .i64 hi2)).set_ 2 (.slice A6 n6 c6)).set_ 3 (.int .i64 r2)).bears (.int .i64 c2)).setCell (p := ⟨w.heap.size + 1 + 1, 5, none⟩) (by show w.heap.size ≤ w.heap.size + 1 + 1; omega) ((((((br).set_ 0 (.int .i64 wd2)).set_ 1 (.int .i64 hi2)).set_ 2 (.slice A6 n6 c6)).set_ 3 (.int .i64 r2)).set_ 4 (.int .i64 c2)).bears (.bool p2)).setCell (p := ⟨w.heap.size + 1 + 1, 6, none⟩) (by show w.heap.size ≤ w.heap.size + 1 + 1; omega) (((((((br).set_ 0 (.int .i64 wd2)).set_ 1 (.int .i64 hi2)).set_ 2 (.slice A6 n6 c6)).set_ 3 (.int .i64 r2)).set_ 4 (.int .i64 c2)).set_ 5 (.bool p2)).bears (.bool au2)) (by decide) (by decide) (by decide)
        generalize (((((((w6).setCell ⟨w.heap.size + 1 + 1, 0, none⟩ (.int .i64 wd2)).setCell ⟨w.heap.size + 1 + 1, 1, none⟩ (.int .i64 hi2)).setCell ⟨w.heap.size + 1 + 1, 2, none⟩ (.slice A6 n6 c6)).setCell ⟨w.heap.size + 1 + 1, 3, none⟩ (.int .i64 r2)).setCell ⟨w.heap.size + 1 + 1, 4, none⟩ (.int .i64 c2)).setCell ⟨w.heap.size + 1 + 1, 5, none⟩ (.bool p2)).setCell ⟨w.heap.size + 1 + 1, 6, none⟩ (.bool au2) = wz at *
        have x0 := bn.cell 0; have x1 := bn.cell 1; have x2 := bn.cell 2; have x3 := bn.cell 3; have x4 := bn.cell 4; have x5 := bn.cell 5; have x6 := bn.cell 6; simp only [List.getElem?_toArray, List.getElem?_cons_succ, List.getElem?_cons_zero] at x0 x1 x2 x3 x4 x5 x6
        refine bodyPost_ret (v := .tuple #[.agg #[.int .i64 wd2, .int .i64 hi2, .slice A6 n6 c6, .int .i64 r2, .int .i64 c2, .bool p2, .bool au2], .bool true]) (by simp [results, Try.results13, go_sem, x0, x1, x2, x3, x4, x5, x6]) rfl ⟨fun v hv => (by rw [HRS.out] at hv; injection hv with hv; subst hv; exact ⟨_, rfl, hlz⟩), fun h => (by rw [HRS.out] at h; cases h), hbz⟩
  | false =>
    go_wp2_with fail
    refine (HSA.out _ hb2).mono ?_
    cases hr : rightV ⟨wd, hi, ls, r, c, p, au⟩ with
    | false =>
      rintro e w3 ⟨rfl, hc3⟩
      have hb3 := hb2.trans (hc3.mono hz2)
      have br := br.same hc3
      obtain rfl : res = none := by rw [← HRES.out]; exact applyF_no (.inl hr)
      clear hr hc3 y0 y1 y2 y3 y4 y5 y6 q0 q1 q2 q3 q4 q5 q6 q7 q8 q9 q10 q11 q12 q13
      have t0 := br.cell 0; have t1 := br.cell 1; have t2 := br.cell 2; have t3 := br.cell 3; have t4 := br.cell 4; have t5 := br.cell 5; have t6 := br.cell 6; have f0 := br.frozen 0; have f1 := br.frozen 1; have f2 := br.frozen 2; have f3 := br.frozen 3; have f4 := br.frozen 4; have f5 := br.frozen 5; have f6 := br.frozen 6; simp only [List.getElem?_toArray, List.getElem?_cons_succ, List.getElem?_cons_zero] at t0 t1 t2 t3 t4 t5 t6
      go_wp2
      have hbz : Below w.heap.size w ((((((((w3).setCell ⟨w.heap.size + 1 + 1, 0, none⟩ (.int .i64 0)).setCell ⟨w.heap.size + 1 + 1, 1, none⟩ (.int .i64 0)).setCell ⟨w.heap.size + 1 + 1, 2, none⟩ (.slice none 0 0)).setCell ⟨w.heap.size + 1 + 1, 3, none⟩ (.int .i64 0)).setCell ⟨w.heap.size + 1 + 1, 4, none⟩ (.int .i64 0)).setCell ⟨w.heap.size + 1 + 1, 5, none⟩ (.bool false)).setCell ⟨w.heap.size + 1 + 1, 6, none⟩ (.bool false)) := (((((((hb3).setCell (p := ⟨w.heap.size + 1 + 1, 0, none⟩) (by show w.heap.size ≤ w.heap.size + 1 + 1; omega) (.int .i64 0)).setCell (p := ⟨w.heap.size + 1 + 1, 1, none⟩) (by show w.heap.size ≤ w.heap.size + 1 + 1; omega) (.int .i64 0)).setCell (p := ⟨w.heap.size + 1 + 1, 2, none⟩) (by show w.heap.size ≤ w.heap.size + 1 + 1; omega) (.slice none 0 0)).setCell (p := ⟨w.heap.size + 1 + 1, 3, none⟩) (by show w.heap.size ≤ w.heap.size + 1 + 1; omega) (.int .i64 0)).setCell (p := ⟨w.heap.size + 1 + 1, 4, none⟩) (by show w.heap.size ≤ w.heap.size + 1 + 1; omega) (.int .i64 0)).setCell (p := ⟨w.heap.size + 1 + 1, 5, none⟩) (by show w.heap.size ≤ w.heap.size + 1 + 1; omega) (.bool false)).setCell (p := ⟨w.heap.size + 1 + 1, 6, none⟩) (by show w.heap.size ≤ w.heap.size + 1 + 1; omega) (.bool false)
      have bn : Blk ((((((((w3).setCell ⟨w.heap.size + 1 + 1, 0, none⟩ (.int .i64 0)).setCell ⟨w.heap.size + 1 + 1, 1, none⟩ (.int .i64 0)).setCell ⟨w.heap.size + 1 + 1, 2, none⟩ (.slice none 0 0)).setCell ⟨w.heap.size + 1 + 1, 3, none⟩ (.int .i64 0)).setCell ⟨w.heap.size + 1 + 1, 4, none⟩ (.int .i64 0)).setCell ⟨w.heap.size + 1 + 1, 5, none⟩ (.bool false)).setCell ⟨w.heap.size + 1 + 1, 6, none⟩ (.bool false)) (w.heap.size + 1 + 1) 26 #[.int .i64 0, .int .i64 0, .slice none 0 0, .int .i64 0, .int .i64 0, .bool false, .bool false] := by have := (((((((br).set_ 0 (.int .i64 0)).set_ 1 (.int .i64 0)).set_ 2 (.slice none 0 0)).set_ 3 (.int .i64 0)).set_ 4 (.int .i64 0)).set_ 5 (.bool false)).set_ 6 (.bool false); simpa using this
      generalize (((((((w3).setCell ⟨w.heap.size + 1 + 1, 0, none⟩ (.int .i64 0)).setCell ⟨w.heap.size + 1 + 1, 1, none⟩ (.int .i64 0)).setCell ⟨w.heap.size + 1 + 1, 2, none⟩ (.slice none 0 0)).setCell ⟨w.heap.size + 1 + 1, 3, none⟩ (.int .i64 0)).setCell ⟨w.heap.size + 1 + 1, 4, none⟩ (.int .i64 0)).setCell ⟨w.heap.size + 1 + 1, 5, none⟩ (.bool false)).setCell ⟨w.heap.size + 1 + 1, 6, none⟩ (.bool false) = wz at *
      have x0 := bn.cell 0; have x1 := bn.cell 1; have x2 := bn.cell 2; have x3 := bn.cell 3; have x4 := bn.cell 4; have x5 := bn.cell 5; have x6 := bn.cell 6; simp only [List.getElem?_toArray, List.getElem?_cons_succ, List.getElem?_cons_zero] at x0 x1 x2 x3 x4 x5 x6
      refine bodyPost_ret (v := .tuple #[.agg #[.int .i64 0, .int .i64 0, .slice none 0 0, .int .i64 0, .int .i64 0, .bool false, .bool false], .bool false]) (by simp [results, Try.results13, go_sem, x0, x1, x2, x3, x4, x5, x6]) rfl ⟨fun v hv => (by cases hv), fun _ => rfl, hbz⟩
    | true =>
      rintro e w3 ⟨rfl, hc3⟩
      have hb3 := hb2.trans (hc3.mono hz2)
      have hz3 := hb3.size
      have bv := bv.same hc3
      have bp := bp.same hc3
      have br := br.same hc3
      have bo := bo.same hc3
      have hl3 := hl2.below hc3
      have hSO := SRight_ok _ _ wd hi r c p au ls w3 hl3.slc HOK.out.w HOK.out.n
      rw [hr] at hSO
      have HSO := hide hSO
      have hpart := applyF_part hr (p := ⟨cs, is, pr, pc, pp, pa, false, ⟨wd2, hi2, ls2, r2, c2, p2, au2⟩⟩) rfl
      have HPART := hide (HRES.out.symm.trans hpart)
      have hrg := Rgt46.of hr
      have HRG := hide hrg
      clear hr hSO hpart hrg hc3 hl2 hz2 hb2
      have y0 := bv.cell 0; have y1 := bv.cell 1; have y2 := bv.cell 2; have y3 := bv.cell 3; have y4 := bv.cell 4; have y5 := bv.cell 5; have y6 := bv.cell 6; simp only [List.getElem?_toArray, List.getElem?_cons_succ, List.getElem?_cons_zero] at y0 y1 y2 y3 y4 y5 y6; have q0 := bp.cell 0; have q1 := bp.cell 1; have q2 := bp.cell 2; have q3 := bp.cell 3; have q4 := bp.cell 4; have q5 := bp.cell 5; have q6 := bp.cell 6; have q7 := bp.cell 7; have q8 := bp.cell 8; have q9 := bp.cell 9; have q10 := bp.cell 10; have q11 := bp.cell 11; have q12 := bp.cell 12; have q13 := bp.cell 13; simp only [List.getElem?_toArray, List.getElem?_cons_succ, List.getElem?_cons_zero] at q0 q1 q2 q3 q4 q5 q6 q7 q8 q9 q10 q11 q12 q13
      have o0 := bo.cell 0; have o1 := bo.cell 1; have o2 := bo.cell 2; have o3 := bo.cell 3; have o4 := bo.cell 4; have o5 := bo.cell 5; have o6 := bo.cell 6; simp only [List.getElem?_toArray, List.getElem?_cons_succ, List.getElem?_cons_zero] at o0 o1 o2 o3 o4 o5 o6
      go_wp2_with fail
      refine HSO.out.mono ?_
      rintro e w4 ⟨rfl, hc4⟩
      have hb4 := hb3.trans (hc4.mono hz3)
      have hz4 := hb4.size
      have bv := bv.same hc4
      have bp := bp.same hc4
      have br := br.same hc4
      have bo := bo.same hc4
      have hl4 := hl3.below hc4
      clear hc4 hl3 hz3 hb3
      have y0 := bv.cell 0; have y1 := bv.cell 1; have y2 := bv.cell 2; have y3 := bv.cell 3; have y4 := bv.cell 4; have y5 := bv.cell 5; have y6 := bv.cell 6; simp only [List.getElem?_toArray, List.getElem?_cons_succ, List.getElem?_cons_zero] at y0 y1 y2 y3 y4 y5 y6; have q0 := bp.cell 0; have q1 := bp.cell 1; have q2 := bp.cell 2; have q3 := bp.cell 3; have q4 := bp.cell 4; have q5 := bp.cell 5; have q6 := bp.cell 6; have q7 := bp.cell 7; have q8 := bp.cell 8; have q9 := bp.cell 9; have q10 := bp.cell 10; have q11 := bp.cell 11; have q12 := bp.cell 12; have q13 := bp.cell 13; simp only [List.getElem?_toArray, List.getElem?_cons_succ, List.getElem?_cons_zero] at q0 q1 q2 q3 q4 q5 q6 q7 q8 q9 q10 q11 q12 q13
      have o0 := bo.cell 0; have o1 := bo.cell 1; have o2 := bo.cell 2; have o3 := bo.cell 3; have o4 := bo.cell 4; have o5 := bo.cell 5; have o6 := bo.cell 6; simp only [List.getElem?_toArray, List.getElem?_cons_succ, List.getElem?_cons_zero] at o0 o1 o2 o3 o4 o5 o6
      obtain ⟨ps0, hps0, hln0⟩ := hl4
      have hln0 := hln0.down hz0
      have hno : applyF_lines ls ps0 wd := ⟨hps0, fun l hl => (HRG.out.line l hl).1, rfl⟩
      go_wp2
      go_loopw [33] (fun iv wr => ∃ (k : Nat) (ps : List (Value × LineV)) (lk : List LineV), k ≤ cs.length ∧ iv = .int .i64 k ∧ applyF_lines lk ps wd ∧ lk.length = ls.length ∧ chgF wd hi cs ls = chgF wd hi (cs.drop k) lk ∧ LnsP w.heap.size wr (.slice A5 n5 c5) ps ∧ Blk wr w.heap.size 26 #[.int .i64 wd, .int .i64 hi, .slice A ls.length cp, .int .i64 r, .int .i64 c, .bool p, .bool au] ∧ Blk wr (w.heap.size + 1) 33 #[.slice A3 cs.length cp3, .slice A4 is.length cp4, .int .i64 pr, .int .i64 pc, .bool pp, .bool pa, .bool false, .int .i64 wd2, .int .i64 hi2, .slice A2 ls2.length cp2, .int .i64 r2, .int .i64 c2, .bool p2, .bool au2] ∧ Blk wr (w.heap.size + 1 + 1) 26 #[.int .i64 0, .int .i64 0, .slice none 0 0, .int .i64 0, .int .i64 0, .bool false, .bool false] ∧ Blk wr go 26 #[.int .i64 wd, .int .i64 hi, .slice A5 n5 c5, .int .i64 r, .int .i64 c, .bool p, .bool au] ∧ Below w.heap.size w wr) (fun iv _ => cs.length - (intOf iv).toNat)
      case atStart => exact ⟨0, ps0, ls, Nat.zero_le _, rfl, hno, rfl, rfl, hln0, bv, bp, br, bo, hb4⟩
      case round =>
        clear y0 y1 y2 y3 y4 y5 y6 q0 q1 q2 q3 q4 q5 q6 q7 q8 q9 q10 q11 q12 q13 o0 o1 o2 o3 o4 o5 o6 bv bp br bo hb4 hln0
        obtain ⟨k, ps, lk, hk, rfl, hlk, hll, hcf, hln, bv, bp, br, bo, hbr⟩ := hrel
        have hzr := hbr.size
        by_cases hlt : k < cs.length
        · -- <s1>
          obtain ⟨ab, off, v8, rfl, _, p00, p01, p02, hrw, hcw, hcv⟩ := change_at hz.slb hlt
          obtain ⟨A8, c8, rfl, _, _, _⟩ := hcv.open_
          have hab := World.block_lt_of_cell? _ _ p00
          simp only at hab
          have hki : (k : Int) < cs.length := by omega
          have htx := HCT.out cs[k] (List.getElem_mem _)
          rw [List.drop_eq_getElem_cons hlt] at hcf
          obtain ⟨ck, hck⟩ : ∃ ck, cs[k] = ck := ⟨_, rfl⟩
          obtain ⟨row, col, m⟩ := ck
          rw [hck] at p00 p01 hrw hcw htx hcf
          simp only [hck] at p02 hcv
          simp only at p00 p01 hrw hcw htx
          have s0 := (hbr.cell (p := ⟨ab, off + k * 3, none⟩) hab).trans p00
          have s1 := (hbr.cell (p := ⟨ab, off + k * 3 + 1, none⟩) hab).trans p01
          have s2 := (hbr.cell (p := ⟨ab, off + k * 3 + 2, none⟩) hab).trans p02
          have HTX := hide htx
          have HCF := hide hcf
          have HLK := hide hlk
          have HLL := hide hll
          clear hck p00 p01 p02 hcf hlk hll htx
          go_upto_region 11 with fail
          have hb5 := hbr.alloc hzr (.cells #[.int .i64 row, .int .i64 col, .slice A8 m.length c8] 38)
          have bv := bv.alloc (.cells #[.int .i64 row, .int .i64 col, .slice A8 m.length c8] 38)
          have bp := bp.alloc (.cells #[.int .i64 row, .int .i64 col, .slice A8 m.length c8] 38)
          have br := br.alloc (.cells #[.int .i64 row, .int .i64 col, .slice A8 m.length c8] 38)
          have bo := bo.alloc (.cells #[.int .i64 row, .int .i64 col, .slice A8 m.length c8] 38)
          have bc := Blk.new wr 38 #[.int .i64 row, .int .i64 col, .slice A8 m.length c8]
          have hln5 := hln.step (Step.alloc1 w.heap.size [] wr (.cells #[.int .i64 row, .int .i64 col, .slice A8 m.length c8] 38)) (by simp) (by simp) (by simp)
          obtain ⟨gc, hgc⟩ : ∃ gc, wr.heap.size = gc := ⟨_, rfl⟩
          rw [hgc] at bc ⊢
          generalize wr.alloc (.cells #[.int .i64 row, .int .i64 col, .slice A8 m.length c8] 38) = w5 at *
          have hz5 := hb5.size
          clear hgc hbr hzr hln s0 s1 s2
          have k0 := bc.cell 0
          have k1 := bc.cell 1
          have k2 := bc.cell 2
          simp only [List.getElem?_toArray, List.getElem?_cons_succ, List.getElem?_cons_zero] at k0 k1 k2
          have y0 := bv.cell 0; have y1 := bv.cell 1; have y2 := bv.cell 2; have y3 := bv.cell 3; have y4 := bv.cell 4; have y5 := bv.cell 5; have y6 := bv.cell 6; simp only [List.getElem?_toArray, List.getElem?_cons_succ, List.getElem?_cons_zero] at y0 y1 y2 y3 y4 y5 y6
          go_wp2_with fail
          refine (lies_ok row col wd hi r c p au A8 m.length c8 (.slice A ls.length cp) w5 rfl hww hcw).mono ?_
          cases hli : liesB row col m.length wd hi with
          | false =>
            rintro e w6 ⟨rfl, hc6⟩
            have hb6 := hb5.trans (hc6.mono hz5)
            have br := br.same hc6
            obtain rfl : res = none := by
              rw [HPART.out, HCF.out]
              unfold chgF
              rw [if_neg (by simp only; rw [hli]; decide)]
            clear hli hc6 y0 y1 y2 y3 y4 y5 y6 k0 k1 k2
            have t0 := br.cell 0; have t1 := br.cell 1; have t2 := br.cell 2; have t3 := br.cell 3; have t4 := br.cell 4; have t5 := br.cell 5; have t6 := br.cell 6; have f0 := br.frozen 0; have f1 := br.frozen 1; have f2 := br.frozen 2; have f3 := br.frozen 3; have f4 := br.frozen 4; have f5 := br.frozen 5; have f6 := br.frozen 6; simp only [List.getElem?_toArray, List.getElem?_cons_succ, List.getElem?_cons_zero] at t0 t1 t2 t3 t4 t5 t6
            go_wp2
            have hbz : Below w.heap.size w ((((((((w6).setCell ⟨w.heap.size + 1 + 1, 0, none⟩ (.int .i64 0)).setCell ⟨w.heap.size + 1 + 1, 1, none⟩ (.int .i64 0)).setCell ⟨w.heap.size + 1 + 1, 2, none⟩ (.slice none 0 0)).setCell ⟨w.heap.size + 1 + 1, 3, none⟩ (.int .i64 0)).setCell ⟨w.heap.size + 1 + 1, 4, none⟩ (.int .i64 0)).setCell ⟨w.heap.size + 1 + 1, 5, none⟩ (.bool false)).setCell ⟨w.heap.size + 1 + 1, 6, none⟩ (.bool false)) := (((((((hb6).setCell (p := ⟨w.heap.size + 1 + 1, 0, none⟩) (by show w.heap.size ≤ w.heap.size + 1 + 1; omega) (.int .i64 0)).setCell (p := ⟨w.heap.size + 1 + 1, 1, none⟩) (by show w.heap.size ≤ w.heap.size + 1 + 1; omega) (.int .i64 0)).setCell (p := ⟨w.heap.size + 1 + 1, 2, none⟩) (by show w.heap.size ≤ w.heap.size + 1 + 1; omega) (.slice none 0 0)).setCell (p := ⟨w.heap.size + 1 + 1, 3, none⟩) (by show w.heap.size ≤ w.heap.size + 1 + 1; omega) (.int .i64 0)).setCell (p := ⟨w.heap.size + 1 + 1, 4, none⟩) (by show w.heap.size ≤ w.heap.size + 1 + 1; omega) (.int .i64 0)).setCell (p := ⟨w.heap.size + 1 + 1, 5, none⟩) (by show w.heap.size ≤ w.heap.size + 1 + 1; omega) (.bool false)).setCell (p := ⟨w.heap.size + 1 + 1, 6, none⟩) (by show w.heap.size ≤ w.heap.size + 1 + 1; omega) (.bool false)
            have bn : Blk ((((((((w6).setCell ⟨w.heap.size + 1 + 1, 0, none⟩ (.int .i64 0)).setCell ⟨w.heap.size + 1 + 1, 1, none⟩ (.int .i64 0)).setCell ⟨w.heap.size + 1 + 1, 2, none⟩ (.slice none 0 0)).setCell ⟨w.heap.size + 1 + 1, 3, none⟩ (.int .i64 0)).setCell ⟨w.heap.size + 1 + 1, 4, none⟩ (.int .i64 0)).setCell ⟨w.heap.size + 1 + 1, 5, none⟩ (.bool false)).setCell ⟨w.heap.size + 1 + 1, 6, none⟩ (.bool false)) (w.heap.size + 1 + 1) 26 #[.int .i64 0, .int .i64 0, .slice none 0 0, .int .i64 0, .int .i64 0, .bool false, .bool false] := by have := (((((((br).set_ 0 (.int .i64 0)).set_ 1 (.int .i64 0)).set_ 2 (.slice none 0 0)).set_ 3 (.int .i64 0)).set_ 4 (.int .i64 0)).set_ 5 (.bool false)).set_ 6 (.bool false); simpa using this
            generalize (((((((w6).setCell ⟨w.heap.size + 1 + 1, 0, none⟩ (.int .i64 0)).setCell ⟨w.heap.size + 1 + 1, 1, none⟩ (.int .i64 0)).setCell ⟨w.heap.size + 1 + 1, 2, none⟩ (.slice none 0 0)).setCell ⟨w.heap.size + 1 + 1, 3, none⟩ (.int .i64 0)).setCell ⟨w.heap.size + 1 + 1, 4, none⟩ (.int .i64 0)).setCell ⟨w.heap.size + 1 + 1, 5, none⟩ (.bool false)).setCell ⟨w.heap.size + 1 + 1, 6, none⟩ (.bool false) = wz at *
            have x0 := bn.cell 0; have x1 := bn.cell 1; have x2 := bn.cell 2; have x3 := bn.cell 3; have x4 := bn.cell 4; have x5 := bn.cell 5; have x6 := bn.cell 6; simp only [List.getElem?_toArray, List.getElem?_cons_succ, List.getElem?_cons_zero] at x0 x1 x2 x3 x4 x5 x6
            refine bodyPost_ret (v := .tuple #[.agg #[.int .i64 0, .int .i64 0, .slice none 0 0, .int .i64 0, .int .i64 0, .bool false, .bool false], .bool false]) (by simp [results, Try.results13, go_sem, x0, x1, x2, x3, x4, x5, x6]) rfl ⟨fun v hv => (by cases hv), fun _ => rfl, hbz⟩
          | true =>
            rintro e w6 ⟨rfl, hc6⟩
            have hb6 := hb5.trans (hc6.mono hz5)
            have hz6 := hb6.size
            have bv := bv.same hc6
            have bp := bp.same hc6
            have br := br.same hc6
            have bo := bo.same hc6
            have bc := bc.same hc6
            have hln6 := hln5.step (es := []) (Step.of_below hc6) (by simp) (by simp) (by simp)
            obtain ⟨l1, l2, l3, l4, l5⟩ : 0 ≤ row ∧ row < hi ∧ 0 ≤ col ∧ col < wd ∧ (m.length : Int) ≤ wd - col := of_decide_eq_true hli
            have HLI := hide hli
            obtain ⟨i, rfl⟩ := Int.eq_ofNat_of_zero_le l1
            obtain ⟨f, rfl⟩ := Int.eq_ofNat_of_zero_le l3
            have hpl : ps.length = lk.length := by rw [← HLK.out.eq, List.length_map]
            have hips : i < ps.length := by have := HRG.out.hl; have := HLL.out; omega
            have hilk : i < lk.length := by omega
            have hpi : ps[i].2 = lk[i] := by
              have := HLK.out.eq
              subst this
              rw [List.getElem_map]
            have hwi := HLK.out.wide lk[i] (List.getElem_mem _)
            have hw2 := HRG.out.w2
            obtain ⟨G, cap, he, hGb, hGl, hcap, g0, g1, gf⟩ := hln6.at_ hips
            injection he with e1 e2 e3
            subst e1
            subst e3
            have hcl6 := hln6.cells ps[i] (List.getElem_mem _)
            obtain ⟨g, cap2, xs, rest, hpe, hgb, hgblk, hxl, hxels, hxr, hnc, hcm⟩ := own2_open hcl6 (by rw [hpi]; omega)
            obtain ⟨n, hn⟩ : ∃ n, ps[i].2.1.length = n := ⟨_, rfl⟩
            have hnw : (n : Int) = wd := by rw [← hn, hpi]; exact hwi
            rw [hn] at hpe hnc
            have g0' := g0
            rw [hpe] at g0'
            have HPE := hide hpe
            have HN := hide hn
            have HNW := hide hnw
            have HPL := hide hpl
            have HPI := hide hpi
            have hin : (i : Int) < n5 := by omega
            have hfn : f < n := by omega
            have hfn2 : f ≤ n := by omega
            have hfm : f + m.length ≤ n := by omega
            have hfc : (f : Int) ≤ cap2 := by omega
            have hfne : cap2 ≠ f := by omega
            have hmn : m.length ≤ 1000000 := by omega
            have HE2 := hide e2
            clear hli hc6 hln5 hb5 hz5 y0 y1 y2 y3 y4 y5 y6 k0 k1 k2 hpl hpi hwi hn hnw g0 g1 gf l1 l2 l3 l4 l5 hcl6 hpe e2
            go_upto_region 13 with fail
            have k0 := bc.cell 0
            have k1 := bc.cell 1
            have k2 := bc.cell 2
            have o2 := bo.cell 2
            simp only [List.getElem?_toArray, List.getElem?_cons_succ, List.getElem?_cons_zero] at k0 k1 k2 o2
            have hvm : Slc RCell (fun b => b < w.heap.size) (fun b => b < w.heap.size) w6.drew (.slice A8 m.length c8) m := hcv.mono (Keep.below (w' := w6.drew) (below_drw hb6)) (Keep.below (w' := w6.drew) (below_drw hb6))
            refine wp_region_late (S := fun w' => w'.cell? ⟨go, 2, none⟩ = some (.slice (some ⟨G, 0, none⟩) n5 c5) ∧ w'.cell? ⟨gc, 0, none⟩ = some (.int .i64 i) ∧ w'.cell? ⟨gc, 1, none⟩ = some (.int .i64 f) ∧ w'.cell? ⟨gc, 2, none⟩ = some (.slice A8 m.length c8) ∧ w'.cell? ⟨G, i * 2, none⟩ = some (.slice (some ⟨g, 0, none⟩) n cap2)) [13] (by kernel_rfl) (by exact ⟨o2, k0, k1, k2, g0'⟩) (fun hHeld => ?_)
            refine wpAnyT_take (i := 0) (oi := ?_) (v := ?_) ?_ (by kernel_rfl) (by kernel_rfl) (by kernel_rfl) (by kernel_rfl) (by kernel_rfl) ?_ (Or.inl ⟨?_, ?_⟩) (by assumption) ?_
            rotate_left 2
            · (simp only [List.getElem?_toArray, List.getElem?_cons_succ, List.getElem?_cons_zero]; rfl)
            rotate_left 1
            · rfl
            · (intro w hSw; (try dsimp only at hSw); go_simp; try with_reducible rfl)
            rotate_left 1
            · exact fun _ _ _ h => h
            try simp only [Act.put, List.setIfInBounds_toArray, List.set_cons_zero, List.set_cons_succ]
            refine wpAnyT_take (i := 1) (oi := ?_) (v := ?_) ?_ (by kernel_rfl) (by kernel_rfl) (by kernel_rfl) (by kernel_rfl) (by kernel_rfl) ?_ (Or.inl ⟨?_, ?_⟩) (by assumption) ?_
            rotate_left 2
            · (simp only [List.getElem?_toArray, List.getElem?_cons_succ, List.getElem?_cons_zero]; rfl)
            rotate_left 1
            · rfl
            · (intro w hSw; (try dsimp only at hSw); go_simp; try with_reducible rfl)
            rotate_left 1
            · exact fun _ _ _ h => h
            try simp only [Act.put, List.setIfInBounds_toArray, List.set_cons_zero, List.set_cons_succ]
            refine wpAnyT_take (i := 2) (oi := ?_) (v := ?_) ?_ (by kernel_rfl) (by kernel_rfl) (by kernel_rfl) (by kernel_rfl) (by kernel_rfl) ?_ (Or.inl ⟨?_, ?_⟩) (by assumption) ?_
            rotate_left 2
            · (simp only [List.getElem?_toArray, List.getElem?_cons_succ, List.getElem?_cons_zero]; rfl)
            rotate_left 1
            · rfl
            · (intro w hSw; (try dsimp only at hSw); go_simp; try with_reducible rfl)
            rotate_left 1
            · exact fun _ _ _ h => h
            try simp only [Act.put, List.setIfInBounds_toArray, List.set_cons_zero, List.set_cons_succ]
            refine wpAnyT_take (i := 3) (oi := ?_) (v := ?_) ?_ (by kernel_rfl) (by kernel_rfl) (by kernel_rfl) (by kernel_rfl) (by kernel_rfl) ?_ (Or.inl ⟨?_, ?_⟩) (by assumption) ?_
            rotate_left 2
            · (simp only [List.getElem?_toArray, List.getElem?_cons_succ, List.getElem?_cons_zero]; rfl)
            rotate_left 1
            · rfl
            · (intro w hSw; (try dsimp only at hSw); go_simp; try with_reducible rfl)
            rotate_left 1
            · exact fun _ _ _ h => h
            try simp only [Act.put, List.setIfInBounds_toArray, List.set_cons_zero, List.set_cons_succ]
            refine wpAnyT_take (i := 4) (oi := ?_) (v := ?_) ?_ (by kernel_rfl) (by kernel_rfl) (by kernel_rfl) (by kernel_rfl) (by kernel_rfl) ?_ (Or.inl ⟨?_, ?_⟩) (by assumption) ?_
            rotate_left 2
            · (simp only [List.getElem?_toArray, List.getElem?_cons_succ, List.getElem?_cons_zero]; rfl)
            rotate_left 1
            · rfl
            · (intro w hSw; (try dsimp only at hSw); go_simp; try with_reducible rfl)
            rotate_left 1
            · exact fun _ _ _ h => h
            try simp only [Act.put, List.setIfInBounds_toArray, List.set_cons_zero, List.set_cons_succ]
            refine wpAnyT_take (i := 5) (oi := ?_) (v := ?_) ?_ (by kernel_rfl) (by kernel_rfl) (by kernel_rfl) (by kernel_rfl) (by kernel_rfl) ?_ (Or.inl ⟨?_, ?_⟩) (by assumption) ?_
            rotate_left 2
            · (simp only [List.getElem?_toArray, List.getElem?_cons_succ, List.getElem?_cons_zero]; rfl)
            rotate_left 1
            · rfl
            · (intro w hSw; (try dsimp only at hSw); go_simp; try with_reducible rfl)
            rotate_left 1
            · exact fun _ _ _ h => h
            try simp only [Act.put, List.setIfInBounds_toArray, List.set_cons_zero, List.set_cons_succ]
            refine wpAnyT_take (i := 6) (oi := ?_) (v := ?_) ?_ (by kernel_rfl) (by kernel_rfl) (by kernel_rfl) (by kernel_rfl) (by kernel_rfl) ?_ (Or.inl ⟨?_, ?_⟩) (by assumption) ?_
            rotate_left 2
            · (simp only [List.getElem?_toArray, List.getElem?_cons_succ, List.getElem?_cons_zero]; rfl)
            rotate_left 1
            · rfl
            · (intro w hSw; (try dsimp only at hSw); go_simp; try with_reducible rfl)
            rotate_left 1
            · exact fun _ _ _ h => h
            try simp only [Act.put, List.setIfInBounds_toArray, List.set_cons_zero, List.set_cons_succ]
            refine wpAnyT_take (i := 7) (oi := ?_) (v := ?_) ?_ (by kernel_rfl) (by kernel_rfl) (by kernel_rfl) (by kernel_rfl) (by kernel_rfl) ?_ (Or.inl ⟨?_, ?_⟩) (by assumption) ?_
            rotate_left 2
            · (simp only [List.getElem?_toArray, List.getElem?_cons_succ, List.getElem?_cons_zero]; rfl)
            rotate_left 1
            · rfl
            · (intro w hSw; (try dsimp only at hSw); go_simp; try with_reducible rfl)
            rotate_left 1
            · exact fun _ _ _ h => h
            try simp only [Act.put, List.setIfInBounds_toArray, List.set_cons_zero, List.set_cons_succ]
            refine wpAnyT_take (i := 8) (oi := ?_) (v := ?_) ?_ (by kernel_rfl) (by kernel_rfl) (by kernel_rfl) (by kernel_rfl) (by kernel_rfl) ?_ (Or.inl ⟨?_, ?_⟩) (by assumption) ?_
            rotate_left 2
            · (simp only [List.getElem?_toArray, List.getElem?_cons_succ, List.getElem?_cons_zero]; rfl)
            rotate_left 1
            · rfl
            · (intro w hSw; (try dsimp only at hSw); go_simp; try with_reducible rfl)
            rotate_left 1
            · exact fun _ _ _ h => h
            try simp only [Act.put, List.setIfInBounds_toArray, List.set_cons_zero, List.set_cons_succ]
            refine wpAnyT_take (i := 9) (oi := ?_) (v := ?_) ?_ (by kernel_rfl) (by kernel_rfl) (by kernel_rfl) (by kernel_rfl) (by kernel_rfl) ?_ (Or.inl ⟨?_, ?_⟩) (by assumption) ?_
            rotate_left 2
            · (simp only [List.getElem?_toArray, List.getElem?_cons_succ, List.getElem?_cons_zero]; rfl)
            rotate_left 1
            · rfl
            · (intro w hSw; (try dsimp only at hSw); go_simp; try with_reducible rfl)
            rotate_left 1
            · exact fun _ _ _ h => h
            try simp only [Act.put, List.setIfInBounds_toArray, List.set_cons_zero, List.set_cons_succ]
            refine wpAnyT_take (i := 10) (oi := ?_) (v := ?_) ?_ (by kernel_rfl) (by kernel_rfl) (by kernel_rfl) (by kernel_rfl) (by kernel_rfl) ?_ (Or.inl ⟨?_, ?_⟩) (by assumption) ?_
            rotate_left 2
            · (simp only [List.getElem?_toArray, List.getElem?_cons_succ, List.getElem?_cons_zero]; rfl)
            rotate_left 1
            · rfl
            · (intro w hSw; (try dsimp only at hSw); go_simp; try with_reducible rfl)
            rotate_left 1
            · exact fun _ _ _ h => h
            try simp only [Act.put, List.setIfInBounds_toArray, List.set_cons_zero, List.set_cons_succ]
            refine wpAnyT_take (i := 11) (oi := ?_) (v := ?_) ?_ (by kernel_rfl) (by kernel_rfl) (by kernel_rfl) (by kernel_rfl) (by kernel_rfl) ?_ (Or.inl ⟨?_, ?_⟩) (by assumption) ?_
            rotate_left 2
            · (simp only [List.getElem?_toArray, List.getElem?_cons_succ, List.getElem?_cons_zero]; rfl)
            rotate_left 1
            · rfl
            · (intro w hSw; (try dsimp only at hSw); go_simp; try with_reducible rfl)
            rotate_left 1
            · exact fun _ _ _ h => h
            try simp only [Act.put, List.setIfInBounds_toArray, List.set_cons_zero, List.set_cons_succ]
            refine wpAnyT_ready (rs := [12]) (by kernel_rfl) (by simp) ?_
            refine AllReadyT.cons (o := ?_) ?_ (fun K hK => ?_) AllReadyT.nil
            rotate_left 1
            · (simp only [List.getElem?_toArray, List.getElem?_cons_succ, List.getElem?_cons_zero]; rfl)
            go_simp
            go_at_call 25; refine (own46_ok _ _ _ m _ hvm hmn HTX.out).mono ?_; rintro e w7 ⟨s7, rfl, hs7, hc7⟩; have hb7 := (below_drw hb6).trans (hc7.mono hz6); have hz7 := hb7.size; have bv7 := (show Blk w6.drew _ _ _ from bv).same hc7; have bp7 := (show Blk w6.drew _ _ _ from bp).same hc7; have br7 := (show Blk w6.drew _ _ _ from br).same hc7; have bo7 := (show Blk w6.drew _ _ _ from bo).same hc7; have bc7 := (show Blk w6.drew _ _ _ from bc).same hc7; have hg7 := (show Blk w6.drew _ _ _ from hgblk).same hc7; have hln7 := (hln6.step ((Step.refl w.heap.size [] w6).drew) (by simp) (by simp) (by simp)).step (es := []) (Step.of_below hc7) (by simp) (by simp) (by simp); obtain ⟨A9, c9, rfl, _, _, ys, hys, hrow9⟩ := hs7.slc; have o2 := bo7.cell 2; have k0 := bc7.cell 0; have k1 := bc7.cell 1; have k2 := bc7.cell 2; simp only [List.getElem?_toArray, List.getElem?_cons_succ, List.getElem?_cons_zero] at o2 k0 k1 k2; have g0' := (hc7.cell (p := ⟨G, i * 2, none⟩) hGl).trans g0'
            refine hK.out _ _ ?_ (fun hHeld => ?_)
            · ((try dsimp only); go_keep)
            clear hK K
            try simp only [Act.put, List.setIfInBounds_toArray, List.set_cons_zero, List.set_cons_succ]
            refine wpAnyT_ready (rs := [13]) (by kernel_rfl) (by simp) ?_
            refine AllReadyT.consL (o := ?_) ?_ (by kernel_rfl) (fun K hK => ?_) AllReadyT.nil
            rotate_left 1
            · (simp only [List.getElem?_toArray, List.getElem?_cons_succ, List.getElem?_cons_zero]; rfl)
            refine step_copyz rfl (.tmp 51) (.tmp 54) 36 36 rfl 50 RCell.sz Try.underlying36 (by kernel_rfl) g (f * RCell.sz) (n - f) (cap2 - f) A9 m.length c9 rfl rfl _ 50 ys hg7 (by rw [hys.length]; congr 1; exact (Nat.min_eq_left (by omega)).symm) (fun h0 => (by obtain ⟨a, e, _, hc⟩ := hrow9 (by rw [← hys.length]; exact h0); exact ⟨a, e, hc⟩)) (by rw [hys.length]; have e := hxl; rw [HN.out] at e; have : (f + m.length) * RCell.sz ≤ n * RCell.sz := Nat.mul_le_mul_right _ hfm; rw [Nat.add_mul] at this; simp only [List.size_toArray, List.length_append]; omega) hys.one ?_; generalize hw8 : World.setRow w7 g _ = w8; obtain ⟨hput, hstp⟩ := hln7.put hips HPE.out HN.out hfm (by omega) hg7 hys hw8.symm
            refine hK.out _ _ ?_
            clear hK K
            try simp only [Act.put, List.setIfInBounds_toArray, List.set_cons_zero, List.set_cons_succ]
            refine wpAnyT_done (by kernel_rfl) ?_ _
            have bv8 := bv7.step hstp (by decide)
            have bp8 := bp7.step hstp (by decide)
            have br8 := br7.step hstp (by decide)
            have bo8 := bo7.step hstp (by decide)
            have hb8 := hb7.trans (hstp.below hz7)
            have hcf2 : chgF wd hi cs ls = chgF wd hi (cs.drop (k + 1)) (putL lk ((i : Int), (f : Int), m)) := by
              rw [HCF.out]
              show (if liesB (i : Int) (f : Int) m.length wd hi = true then _ else _) = _
              rw [if_pos HLI.out]
            have hnl := applyF_put HLK.out hips hilk HPI.out HN.out HNW.out hfm
            have hll2 : (putL lk ((i : Int), (f : Int), m)).length = ls.length := by unfold putL; rw [List.length_set]; exact HLL.out
            have HCF2 := hide hcf2
            have HNL := hide hnl
            have HLL2 := hide hll2
            clear hcf2 hnl hll2 hHeld o2 k0 k1 k2 g0'
            go_wp2
            go_roundw
            case rel => exact ⟨k + 1, _, _, by omega, by go_num, HNL.out, HLL2.out, HCF2.out, hput, bv8, bp8, br8, bo8, hb8⟩
            case measure => simp [intOf]; omega
        · obtain rfl : k = cs.length := by omega
          rw [List.drop_length] at hcf
          have HCFD := hide hcf
          have q1 := bp.cell 1
          simp only [List.getElem?_toArray, List.getElem?_cons_succ, List.getElem?_cons_zero] at q1
          have hl0 : lk.length = ls.length := hll
          have HL0 := hide hl0
          clear hcf hll hl0
          go_upto_region 15 with fail
          go_wp2
          go_loopw [60] (fun iv ws => ∃ (j : Nat) (qs : List (Value × LineV)) (lm : List LineV), j ≤ is.length ∧ iv = .int .i64 j ∧ applyF_lines lm qs wd ∧ lm.length = ls.length ∧ wrpF hi is lk = wrpF hi (is.drop j) lm ∧ LnsP w.heap.size ws (.slice A5 n5 c5) qs ∧ Blk ws w.heap.size 26 #[.int .i64 wd, .int .i64 hi, .slice A ls.length cp, .int .i64 r, .int .i64 c, .bool p, .bool au] ∧ Blk ws (w.heap.size + 1) 33 #[.slice A3 cs.length cp3, .slice A4 is.length cp4, .int .i64 pr, .int .i64 pc, .bool pp, .bool pa, .bool false, .int .i64 wd2, .int .i64 hi2, .slice A2 ls2.length cp2, .int .i64 r2, .int .i64 c2, .bool p2, .bool au2] ∧ Blk ws (w.heap.size + 1 + 1) 26 #[.int .i64 0, .int .i64 0, .slice none 0 0, .int .i64 0, .int .i64 0, .bool false, .bool false] ∧ Blk ws go 26 #[.int .i64 wd, .int .i64 hi, .slice A5 n5 c5, .int .i64 r, .int .i64 c, .bool p, .bool au] ∧ Below w.heap.size w ws) (fun iv _ => is.length - (intOf iv).toNat)
          case atStart => exact ⟨0, ps, lk, Nat.zero_le _, rfl, hlk, HL0.out, rfl, hln, bv, bp, br, bo, hbr⟩
          case round =>
            clear q1 bv bp br bo hbr hzr hln hlk
            obtain ⟨j, qs, lm, hj, rfl, hlm, hlL, hwf, hln, bv, bp, br, bo, hbs⟩ := hrel
            have hzs := hbs.size
            by_cases hlt2 : j < is.length
            · obtain ⟨ab, off, rfl, _, p00, hiw⟩ := ints_at hu.slb hlt2
              have hab := World.block_lt_of_cell? _ _ p00
              simp only at hab
              have s0 := (hbs.cell (p := ⟨ab, off + j, none⟩) hab).trans p00
              have hji : (j : Int) < is.length := by omega
              rw [List.drop_eq_getElem_cons hlt2] at hwf
              obtain ⟨ij, hij⟩ : ∃ ij, is[j] = ij := ⟨_, rfl⟩
              rw [hij] at s0 hwf
              have HWF := hide hwf
              have HLM := hide hlm
              have HLL := hide hlL
              have y1 := bv.cell 1
              simp only [List.getElem?_toArray, List.getElem?_cons_succ, List.getElem?_cons_zero] at y1
              clear hij p00 hwf hlm hlL hiw
              by_cases hout : ij < 0
              · obtain rfl : res = none := by
                  rw [HPART.out]
                  rw [HCFD.out]
                  unfold chgF
                  simp only
                  rw [HWF.out]
                  unfold wrpF
                  rw [if_neg (by omega)]
                have t0 := br.cell 0; have t1 := br.cell 1; have t2 := br.cell 2; have t3 := br.cell 3; have t4 := br.cell 4; have t5 := br.cell 5; have t6 := br.cell 6; have f0 := br.frozen 0; have f1 := br.frozen 1; have f2 := br.frozen 2; have f3 := br.frozen 3; have f4 := br.frozen 4; have f5 := br.frozen 5; have f6 := br.frozen 6; simp only [List.getElem?_toArray, List.getElem?_cons_succ, List.getElem?_cons_zero] at t0 t1 t2 t3 t4 t5 t6
                go_wp2
                have hbz : Below w.heap.size w ((((((((wr).setCell ⟨w.heap.size + 1 + 1, 0, none⟩ (.int .i64 0)).setCell ⟨w.heap.size + 1 + 1, 1, none⟩ (.int .i64 0)).setCell ⟨w.heap.size + 1 + 1, 2, none⟩ (.slice none 0 0)).setCell ⟨w.heap.size + 1 + 1, 3, none⟩ (.int .i64 0)).setCell ⟨w.heap.size + 1 + 1, 4, none⟩ (.int .i64 0)).setCell ⟨w.heap.size + 1 + 1, 5, none⟩ (.bool false)).setCell ⟨w.heap.size + 1 + 1, 6, none⟩ (.bool false)) := (((((((hbs).setCell (p := ⟨w.heap.size + 1 + 1, 0, none⟩) (by show w.heap.size ≤ w.heap.size + 1 + 1; omega) (.int .i64 0)).setCell (p := ⟨w.heap.size + 1 + 1, 1, none⟩) (by show w.heap.size ≤ w.heap.size + 1 + 1; omega) (.int .i64 0)).setCell (p := ⟨w.heap.size + 1 + 1, 2, none⟩) (by show w.heap.size ≤ w.heap.size + 1 + 1; omega) (.slice none 0 0)).setCell (p := ⟨w.heap.size + 1 + 1, 3, none⟩) (by show w.heap.size ≤ w.heap.size + 1 + 1; omega) (.int .i64 0)).setCell (p := ⟨w.heap.size + 1 + 1, 4, none⟩) (by show w.heap.size ≤ w.heap.size + 1 + 1; omega) (.int .i64 0)).setCell (p := ⟨w.heap.size + 1 + 1, 5, none⟩) (by show w.heap.size ≤ w.heap.size + 1 + 1; omega) (.bool false)).setCell (p := ⟨w.heap.size + 1 + 1, 6, none⟩) (by show w.heap.size ≤ w.heap.size + 1 + 1; omega) (.bool false)
                have bn : Blk ((((((((wr).setCell ⟨w.heap.size + 1 + 1, 0, none⟩ (.int .i64 0)).setCell ⟨w.heap.size + 1 + 1, 1, none⟩ (.int .i64 0)).setCell ⟨w.heap.size + 1 + 1, 2, none⟩ (.slice none 0 0)).setCell ⟨w.heap.size + 1 + 1, 3, none⟩ (.int .i64 0)).setCell ⟨w.heap.size + 1 + 1, 4, none⟩ (.int .i64 0)).setCell ⟨w.heap.size + 1 + 1, 5, none⟩ (.bool false)).setCell ⟨w.heap.size + 1 + 1, 6, none⟩ (.bool false)) (w.heap.size + 1 + 1) 26 #[.int .i64 0, .int .i64 0, .slice none 0 0, .int .i64 0, .int .i64 0, .bool false, .bool false] := by have := (((((((br).set_ 0 (.int .i64 0)).set_ 1 (.int .i64 0)).set_ 2 (.slice none 0 0)).set_ 3 (.int .i64 0)).set_ 4 (.int .i64 0)).set_ 5 (.bool false)).set_ 6 (.bool false); simpa using this
                generalize (((((((wr).setCell ⟨w.heap.size + 1 + 1, 0, none⟩ (.int .i64 0)).setCell ⟨w.heap.size + 1 + 1, 1, none⟩ (.int .i64 0)).setCell ⟨w.heap.size + 1 + 1, 2, none⟩ (.slice none 0 0)).setCell ⟨w.heap.size + 1 + 1, 3, none⟩ (.int .i64 0)).setCell ⟨w.heap.size + 1 + 1, 4, none⟩ (.int .i64 0)).setCell ⟨w.heap.size + 1 + 1, 5, none⟩ (.bool false)).setCell ⟨w.heap.size + 1 + 1, 6, none⟩ (.bool false) = wz at *
                have x0 := bn.cell 0; have x1 := bn.cell 1; have x2 := bn.cell 2; have x3 := bn.cell 3; have x4 := bn.cell 4; have x5 := bn.cell 5; have x6 := bn.cell 6; simp only [List.getElem?_toArray, List.getElem?_cons_succ, List.getElem?_cons_zero] at x0 x1 x2 x3 x4 x5 x6
                refine bodyPost_ret (v := .tuple #[.agg #[.int .i64 0, .int .i64 0, .slice none 0 0, .int .i64 0, .int .i64 0, .bool false, .bool false], .bool false]) (by simp [results, Try.results13, go_sem, x0, x1, x2, x3, x4, x5, x6]) rfl ⟨fun v hv => (by cases hv), fun _ => rfl, hbz⟩
              · by_cases hout2 : hi ≤ ij
                · obtain rfl : res = none := by
                    rw [HPART.out]
                    rw [HCFD.out]
                    unfold chgF
                    simp only
                    rw [HWF.out]
                    unfold wrpF
                    rw [if_neg (by omega)]
                  have t0 := br.cell 0; have t1 := br.cell 1; have t2 := br.cell 2; have t3 := br.cell 3; have t4 := br.cell 4; have t5 := br.cell 5; have t6 := br.cell 6; have f0 := br.frozen 0; have f1 := br.frozen 1; have f2 := br.frozen 2; have f3 := br.frozen 3; have f4 := br.frozen 4; have f5 := br.frozen 5; have f6 := br.frozen 6; simp only [List.getElem?_toArray, List.getElem?_cons_succ, List.getElem?_cons_zero] at t0 t1 t2 t3 t4 t5 t6
                  go_wp2
                  have hbz : Below w.heap.size w ((((((((wr).setCell ⟨w.heap.size + 1 + 1, 0, none⟩ (.int .i64 0)).setCell ⟨w.heap.size + 1 + 1, 1, none⟩ (.int .i64 0)).setCell ⟨w.heap.size + 1 + 1, 2, none⟩ (.slice none 0 0)).setCell ⟨w.heap.size + 1 + 1, 3, none⟩ (.int .i64 0)).setCell ⟨w.heap.size + 1 + 1, 4, none⟩ (.int .i64 0)).setCell ⟨w.heap.size + 1 + 1, 5, none⟩ (.bool false)).setCell ⟨w.heap.size + 1 + 1, 6, none⟩ (.bool false)) := (((((((hbs).setCell (p := ⟨w.heap.size + 1 + 1, 0, none⟩) (by show w.heap.size ≤ w.heap.size + 1 + 1; omega) (.int .i64 0)).setCell (p := ⟨w.heap.size + 1 + 1, 1, none⟩) (by show w.heap.size ≤ w.heap.size + 1 + 1; omega) (.int .i64 0)).setCell (p := ⟨w.heap.size + 1 + 1, 2, none⟩) (by show w.heap.size ≤ w.heap.size + 1 + 1; omega) (.slice none 0 0)).setCell (p := ⟨w.heap.size + 1 + 1, 3, none⟩) (by show w.heap.size ≤ w.heap.size + 1 + 1; omega) (.int .i64 0)).setCell (p := ⟨w.heap.size + 1 + 1, 4, none⟩) (by show w.heap.size ≤ w.heap.size + 1 + 1; omega) (.int .i64 0)).setCell (p := ⟨w.heap.size + 1 + 1, 5, none⟩) (by show w.heap.size ≤ w.heap.size + 1 + 1; omega) (.bool false)).setCell (p := ⟨w.heap.size + 1 + 1, 6, none⟩) (by show w.heap.size ≤ w.heap.size + 1 + 1; omega) (.bool false)
                  have bn : Blk ((((((((wr).setCell ⟨w.heap.size + 1 + 1, 0, none⟩ (.int .i64 0)).setCell ⟨w.heap.size + 1 + 1, 1, none⟩ (.int .i64 0)).setCell ⟨w.heap.size + 1 + 1, 2, none⟩ (.slice none 0 0)).setCell ⟨w.heap.size + 1 + 1, 3, none⟩ (.int .i64 0)).setCell ⟨w.heap.size + 1 + 1, 4, none⟩ (.int .i64 0)).setCell ⟨w.heap.size + 1 + 1, 5, none⟩ (.bool false)).setCell ⟨w.heap.size + 1 + 1, 6, none⟩ (.bool false)) (w.heap.size + 1 + 1) 26 #[.int .i64 0, .int .i64 0, .slice none 0 0, .int .i64 0, .int .i64 0, .bool false, .bool false] := by have := (((((((br).set_ 0 (.int .i64 0)).set_ 1 (.int .i64 0)).set_ 2 (.slice none 0 0)).set_ 3 (.int .i64 0)).set_ 4 (.int .i64 0)).set_ 5 (.bool false)).set_ 6 (.bool false); simpa using this
                  generalize (((((((wr).setCell ⟨w.heap.size + 1 + 1, 0, none⟩ (.int .i64 0)).setCell ⟨w.heap.size + 1 + 1, 1, none⟩ (.int .i64 0)).setCell ⟨w.heap.size + 1 + 1, 2, none⟩ (.slice none 0 0)).setCell ⟨w.heap.size + 1 + 1, 3, none⟩ (.int .i64 0)).setCell ⟨w.heap.size + 1 + 1, 4, none⟩ (.int .i64 0)).setCell ⟨w.heap.size + 1 + 1, 5, none⟩ (.bool false)).setCell ⟨w.heap.size + 1 + 1, 6, none⟩ (.bool false) = wz at *
                  have x0 := bn.cell 0; have x1 := bn.cell 1; have x2 := bn.cell 2; have x3 := bn.cell 3; have x4 := bn.cell 4; have x5 := bn.cell 5; have x6 := bn.cell 6; simp only [List.getElem?_toArray, List.getElem?_cons_succ, List.getElem?_cons_zero] at x0 x1 x2 x3 x4 x5 x6
                  refine bodyPost_ret (v := .tuple #[.agg #[.int .i64 0, .int .i64 0, .slice none 0 0, .int .i64 0, .int .i64 0, .bool false, .bool false], .bool false]) (by simp [results, Try.results13, go_sem, x0, x1, x2, x3, x4, x5, x6]) rfl ⟨fun v hv => (by cases hv), fun _ => rfl, hbz⟩
                · obtain ⟨i, rfl⟩ := Int.eq_ofNat_of_zero_le (by omega : 0 ≤ ij)
                  have hql : qs.length = lm.length := by rw [← HLM.out.eq, List.length_map]
                  have hiq : i < qs.length := by have := HRG.out.hl; have := HLL.out; omega
                  have hilm : i < lm.length := by omega
                  have hqi : qs[i].2 = lm[i] := by
                    have := HLM.out.eq
                    subst this
                    rw [List.getElem_map]
                  obtain ⟨G, cap, he, hGb, hGl, hcap, g0, g1, gf⟩ := hln.at_ hiq
                  have hlnd := hln.step ((Step.refl w.heap.size [] wr).drew) (by simp) (by simp) (by simp)
                  obtain ⟨hfl, hst⟩ := hlnd.flip (b := !qs[i].2.2) hiq he
                  injection he with e1 e2 e3
                  subst e1
                  subst e3
                  have hin : (i : Int) < n5 := by omega
                  have HE2 := hide e2
                  have hwf2 : wrpF hi is lk = wrpF hi (is.drop (j + 1)) (flipL lm (i : Int)) := by
                    rw [HWF.out]
                    show (if (0 : Int) ≤ (i : Int) ∧ (i : Int) < hi then _ else _) = _
                    rw [if_pos ⟨by omega, by omega⟩]
                  have hnl := applyF_flip HLM.out hiq hilm hqi
                  have hll2 : (flipL lm (i : Int)).length = ls.length := by unfold flipL; rw [List.length_set]; exact HLL.out
                  obtain ⟨qb, hqb⟩ : ∃ qb, qs[i].2.2 = qb := ⟨_, rfl⟩
                  rw [hqb] at g1 hfl hst hnl
                  have hb2 := hide ((below_drw hbs).setCell (p := ⟨G, i * 2 + 1, none⟩) hGb (.bool (!qb)))
                  have bv2 := hide ((show Blk wr.drew _ _ _ from bv).step hst (by decide))
                  have bp2 := hide ((show Blk wr.drew _ _ _ from bp).step hst (by decide))
                  have br2 := hide ((show Blk wr.drew _ _ _ from br).step hst (by decide))
                  have bo2 := hide ((show Blk wr.drew _ _ _ from bo).step hst (by decide))
                  have HFL := hide hfl
                  have HNL := hide hnl
                  have HWF2 := hide hwf2
                  have HLL2 := hide hll2
                  clear hfl hnl hwf2 hll2 hst hlnd hqb hqi hql e2
                  go_upto_region 20 with fail
                  have o2 := bo.cell 2
                  simp only [List.getElem?_toArray, List.getElem?_cons_succ, List.getElem?_cons_zero] at o2
                  refine wp_region_late (S := fun w' => w'.cell? ⟨go, 2, none⟩ = some (.slice (some ⟨G, 0, none⟩) n5 c5) ∧ w'.cell? ⟨G, i * 2 + 1, none⟩ = some (.bool qb)) [12] (by kernel_rfl) (by exact ⟨o2, g1⟩) (fun hHeld => ?_)
                  refine wpAnyT_take (i := 0) (oi := ?_) (v := ?_) ?_ (by kernel_rfl) (by kernel_rfl) (by kernel_rfl) (by kernel_rfl) (by kernel_rfl) ?_ (Or.inl ⟨?_, ?_⟩) (by assumption) ?_
                  rotate_left 2
                  · (simp only [List.getElem?_toArray, List.getElem?_cons_succ, List.getElem?_cons_zero]; rfl)
                  rotate_left 1
                  · rfl
                  · (intro w hSw; (try dsimp only at hSw); go_simp; try with_reducible rfl)
                  rotate_left 1
                  · exact fun _ _ _ h => h
                  try simp only [Act.put, List.setIfInBounds_toArray, List.set_cons_zero, List.set_cons_succ]
                  refine wpAnyT_take (i := 1) (oi := ?_) (v := ?_) ?_ (by kernel_rfl) (by kernel_rfl) (by kernel_rfl) (by kernel_rfl) (by kernel_rfl) ?_ (Or.inl ⟨?_, ?_⟩) (by assumption) ?_
                  rotate_left 2
                  · (simp only [List.getElem?_toArray, List.getElem?_cons_succ, List.getElem?_cons_zero]; rfl)
                  rotate_left 1
                  · rfl
                  · (intro w hSw; (try dsimp only at hSw); go_simp; try with_reducible rfl)
                  rotate_left 1
                  · exact fun _ _ _ h => h
                  try simp only [Act.put, List.setIfInBounds_toArray, List.set_cons_zero, List.set_cons_succ]
                  refine wpAnyT_take (i := 2) (oi := ?_) (v := ?_) ?_ (by kernel_rfl) (by kernel_rfl) (by kernel_rfl) (by kernel_rfl) (by kernel_rfl) ?_ (Or.inl ⟨?_, ?_⟩) (by assumption) ?_
                  rotate_left 2
                  · (simp only [List.getElem?_toArray, List.getElem?_cons_succ, List.getElem?_cons_zero]; rfl)
                  rotate_left 1
                  · rfl
                  · (intro w hSw; (try dsimp only at hSw); go_simp; try with_reducible rfl)
                  rotate_left 1
                  · exact fun _ _ _ h => h
                  try simp only [Act.put, List.setIfInBounds_toArray, List.set_cons_zero, List.set_cons_succ]
                  refine wpAnyT_take (i := 3) (oi := ?_) (v := ?_) ?_ (by kernel_rfl) (by kernel_rfl) (by kernel_rfl) (by kernel_rfl) (by kernel_rfl) ?_ (Or.inl ⟨?_, ?_⟩) (by assumption) ?_
                  rotate_left 2
                  · (simp only [List.getElem?_toArray, List.getElem?_cons_succ, List.getElem?_cons_zero]; rfl)
                  rotate_left 1
                  · rfl
                  · (intro w hSw; (try dsimp only at hSw); go_simp; try with_reducible rfl)
                  rotate_left 1
                  · exact fun _ _ _ h => h
                  try simp only [Act.put, List.setIfInBounds_toArray, List.set_cons_zero, List.set_cons_succ]
                  refine wpAnyT_take (i := 4) (oi := ?_) (v := ?_) ?_ (by kernel_rfl) (by kernel_rfl) (by kernel_rfl) (by kernel_rfl) (by kernel_rfl) ?_ (Or.inl ⟨?_, ?_⟩) (by assumption) ?_
                  rotate_left 2
                  · (simp only [List.getElem?_toArray, List.getElem?_cons_succ, List.getElem?_cons_zero]; rfl)
                  rotate_left 1
                  · rfl
                  · (intro w hSw; (try dsimp only at hSw); go_simp; try with_reducible rfl)
                  rotate_left 1
                  · exact fun _ _ _ h => h
                  try simp only [Act.put, List.setIfInBounds_toArray, List.set_cons_zero, List.set_cons_succ]
                  refine wpAnyT_take (i := 5) (oi := ?_) (v := ?_) ?_ (by kernel_rfl) (by kernel_rfl) (by kernel_rfl) (by kernel_rfl) (by kernel_rfl) ?_ (Or.inl ⟨?_, ?_⟩) (by assumption) ?_
                  rotate_left 2
                  · (simp only [List.getElem?_toArray, List.getElem?_cons_succ, List.getElem?_cons_zero]; rfl)
                  rotate_left 1
                  · rfl
                  · (intro w hSw; (try dsimp only at hSw); go_simp; try with_reducible rfl)
                  rotate_left 1
                  · exact fun _ _ _ h => h
                  try simp only [Act.put, List.setIfInBounds_toArray, List.set_cons_zero, List.set_cons_succ]
                  refine wpAnyT_take (i := 6) (oi := ?_) (v := ?_) ?_ (by kernel_rfl) (by kernel_rfl) (by kernel_rfl) (by kernel_rfl) (by kernel_rfl) ?_ (Or.inl ⟨?_, ?_⟩) (by assumption) ?_
                  rotate_left 2
                  · (simp only [List.getElem?_toArray, List.getElem?_cons_succ, List.getElem?_cons_zero]; rfl)
                  rotate_left 1
                  · rfl
                  · (intro w hSw; (try dsimp only at hSw); go_simp; try with_reducible rfl)
                  rotate_left 1
                  · exact fun _ _ _ h => h
                  try simp only [Act.put, List.setIfInBounds_toArray, List.set_cons_zero, List.set_cons_succ]
                  refine wpAnyT_take (i := 7) (oi := ?_) (v := ?_) ?_ (by kernel_rfl) (by kernel_rfl) (by kernel_rfl) (by kernel_rfl) (by kernel_rfl) ?_ (Or.inl ⟨?_, ?_⟩) (by assumption) ?_
                  rotate_left 2
                  · (simp only [List.getElem?_toArray, List.getElem?_cons_succ, List.getElem?_cons_zero]; rfl)
                  rotate_left 1
                  · rfl
                  · (intro w hSw; (try dsimp only at hSw); go_simp; try with_reducible rfl)
                  rotate_left 1
                  · exact fun _ _ _ h => h
                  try simp only [Act.put, List.setIfInBounds_toArray, List.set_cons_zero, List.set_cons_succ]
                  refine wpAnyT_take (i := 8) (oi := ?_) (v := ?_) ?_ (by kernel_rfl) (by kernel_rfl) (by kernel_rfl) (by kernel_rfl) (by kernel_rfl) ?_ (Or.inl ⟨?_, ?_⟩) (by assumption) ?_
                  rotate_left 2
                  · (simp only [List.getElem?_toArray, List.getElem?_cons_succ, List.getElem?_cons_zero]; rfl)
                  rotate_left 1
                  · rfl
                  · (intro w hSw; (try dsimp only at hSw); go_simp; try with_reducible rfl)
                  rotate_left 1
                  · exact fun _ _ _ h => h
                  try simp only [Act.put, List.setIfInBounds_toArray, List.set_cons_zero, List.set_cons_succ]
                  refine wpAnyT_take (i := 9) (oi := ?_) (v := ?_) ?_ (by kernel_rfl) (by kernel_rfl) (by kernel_rfl) (by kernel_rfl) (by kernel_rfl) ?_ (Or.inl ⟨?_, ?_⟩) (by assumption) ?_
                  rotate_left 2
                  · (simp only [List.getElem?_toArray, List.getElem?_cons_succ, List.getElem?_cons_zero]; rfl)
                  rotate_left 1
                  · rfl
                  · (intro w hSw; (try dsimp only at hSw); go_simp; try with_reducible rfl)
                  rotate_left 1
                  · exact fun _ _ _ h => h
                  try simp only [Act.put, List.setIfInBounds_toArray, List.set_cons_zero, List.set_cons_succ]
                  refine wpAnyT_take (i := 10) (oi := ?_) (v := ?_) ?_ (by kernel_rfl) (by kernel_rfl) (by kernel_rfl) (by kernel_rfl) (by kernel_rfl) ?_ (Or.inl ⟨?_, ?_⟩) (by assumption) ?_
                  rotate_left 2
                  · (simp only [List.getElem?_toArray, List.getElem?_cons_succ, List.getElem?_cons_zero]; rfl)
                  rotate_left 1
                  · rfl
                  · (intro w hSw; (try dsimp only at hSw); go_simp; try with_reducible rfl)
                  rotate_left 1
                  · exact fun _ _ _ h => h
                  try simp only [Act.put, List.setIfInBounds_toArray, List.set_cons_zero, List.set_cons_succ]
                  refine wpAnyT_take (i := 11) (oi := ?_) (v := ?_) ?_ (by kernel_rfl) (by kernel_rfl) (by kernel_rfl) (by kernel_rfl) (by kernel_rfl) ?_ (Or.inl ⟨?_, ?_⟩) (by assumption) ?_
                  rotate_left 2
                  · (simp only [List.getElem?_toArray, List.getElem?_cons_succ, List.getElem?_cons_zero]; rfl)
                  rotate_left 1
                  · rfl
                  · (intro w hSw; (try dsimp only at hSw); go_simp; try with_reducible rfl)
                  rotate_left 1
                  · exact fun _ _ _ h => h
                  try simp only [Act.put, List.setIfInBounds_toArray, List.set_cons_zero, List.set_cons_succ]
                  refine wpAnyT_ready (rs := [12]) (by kernel_rfl) (by simp) ?_
                  refine AllReadyT.consL (o := ?_) ?_ (by kernel_rfl) (fun K hK => ?_) AllReadyT.nil
                  rotate_left 1
                  · (simp only [List.getElem?_toArray, List.getElem?_cons_succ, List.getElem?_cons_zero]; rfl)
                  go_simp
                  refine hK.out _ _ ?_
                  clear hK K
                  try simp only [Act.put, List.setIfInBounds_toArray, List.set_cons_zero, List.set_cons_succ]
                  refine wpAnyT_done (by kernel_rfl) ?_ _
                  clear hHeld o2 g1 gf g0 y1 s0
                  go_wp2
                  go_roundw
                  case rel => exact ⟨j + 1, _, _, by omega, by go_num, HNL.out, HLL2.out, HWF2.out, HFL.out, bv2.out, bp2.out, br2.out, bo2.out, hb2.out⟩
                  case measure => simp [intOf]; omega
            · obtain rfl : j = is.length := by omega
              rw [List.drop_length] at hwf
              have HWFD := hide (hwf.trans (show wrpF hi [] lm = some lm from rfl))
              have HLM := hide hlm
              have HLL := hide hlL
              have q2 := bp.cell 2
              have q3 := bp.cell 3
              have q4 := bp.cell 4
              have q5 := bp.cell 5
              have f3 := bo.frozen 3
              have f4 := bo.frozen 4
              have f5 := bo.frozen 5
              have f6 := bo.frozen 6
              simp only [List.getElem?_toArray, List.getElem?_cons_succ, List.getElem?_cons_zero] at q2 q3 q4 q5
              have o3 := bo.cell 3
              have o4 := bo.cell 4
              have o5 := bo.cell 5
              have o6 := bo.cell 6
              simp only [List.getElem?_toArray, List.getElem?_cons_succ, List.getElem?_cons_zero] at o3 o4 o5 o6
              clear hwf hlm hlL
              go_upto_region 22 with fail
              have hne1 : w.heap.size + 1 ≠ go := hgo2.2.1
              have hne2 : go ≠ w.heap.size + 1 := fun e => hgo2.2.1 e.symm
              go_region
              have br9 : Blk (((((wr.setCell ⟨go, 3, none⟩ (.int .i64 pr)).setCell ⟨go, 4, none⟩ (.int .i64 pc)).setCell ⟨go, 5, none⟩ (.bool pp)).setCell ⟨go, 6, none⟩ (.bool pa)).drew) (w.heap.size + 1 + 1) 26 #[.int .i64 0, .int .i64 0, .slice none 0 0, .int .i64 0, .int .i64 0, .bool false, .bool false] := (((br.far (p := ⟨go, 3, none⟩) hgo2.2.2 (.int .i64 pr)).far (p := ⟨go, 4, none⟩) hgo2.2.2 (.int .i64 pc)).far (p := ⟨go, 5, none⟩) hgo2.2.2 (.bool pp)).far (p := ⟨go, 6, none⟩) hgo2.2.2 (.bool pa)
              have bo9 : Blk (((((wr.setCell ⟨go, 3, none⟩ (.int .i64 pr)).setCell ⟨go, 4, none⟩ (.int .i64 pc)).setCell ⟨go, 5, none⟩ (.bool pp)).setCell ⟨go, 6, none⟩ (.bool pa)).drew) go 26 #[.int .i64 wd, .int .i64 hi, .slice A5 n5 c5, .int .i64 pr, .int .i64 pc, .bool pp, .bool pa] := by
                have := (((bo.set_ 3 (.int .i64 pr)).set_ 4 (.int .i64 pc)).set_ 5 (.bool pp)).set_ 6 (.bool pa)
                simp only [List.setIfInBounds_toArray, List.set_cons_zero, List.set_cons_succ] at this
                exact this
              have hst9 : Step w.heap.size [26] wr (((((wr.setCell ⟨go, 3, none⟩ (.int .i64 pr)).setCell ⟨go, 4, none⟩ (.int .i64 pc)).setCell ⟨go, 5, none⟩ (.bool pp)).setCell ⟨go, 6, none⟩ (.bool pa)).drew) := (((((Step.refl w.heap.size [26] wr).setCell (p := ⟨go, 3, none⟩) hgo1 bo.bears (.int .i64 pr)).setCell (p := ⟨go, 4, none⟩) hgo1 (bo.set_ 3 (.int .i64 pr)).bears (.int .i64 pc)).setCell (p := ⟨go, 5, none⟩) hgo1 ((bo.set_ 3 (.int .i64 pr)).set_ 4 (.int .i64 pc)).bears (.bool pp)).setCell (p := ⟨go, 6, none⟩) hgo1 (((bo.set_ 3 (.int .i64 pr)).set_ 4 (.int .i64 pc)).set_ 5 (.bool pp)).bears (.bool pa)).drew
              have hb9 : Below w.heap.size w (((((wr.setCell ⟨go, 3, none⟩ (.int .i64 pr)).setCell ⟨go, 4, none⟩ (.int .i64 pc)).setCell ⟨go, 5, none⟩ (.bool pp)).setCell ⟨go, 6, none⟩ (.bool pa)).drew) := hbs.trans (hst9.below hzs)
              have hln9 := hln.step hst9 (by decide) (by decide) (by decide)
              clear bo br bv bp hbs hln hst9 q2 q3 q4 q5 f3 f4 f5 f6 o3 o4 o5 o6
              generalize ((((wr.setCell ⟨go, 3, none⟩ (.int .i64 pr)).setCell ⟨go, 4, none⟩ (.int .i64 pc)).setCell ⟨go, 5, none⟩ (.bool pp)).setCell ⟨go, 6, none⟩ (.bool pa)).drew = w9 at *
              have hz9 := hb9.size
              have hl9 : Lns w.heap.size w9 (.slice A5 n5 c5) lm := ⟨qs, HLM.out.eq, hln9⟩
              have hSO2 := SRight_ok _ _ wd hi pr pc pp pa lm w9 hl9.slc (fun l hl => by have := HLM.out.wide l hl; have := HRG.out.w2; omega) (by have := HLL.out; have := HRG.out.hl; have := HRG.out.h2; omega)
              have HSO2 := hide hSO2
              clear hSO2
              have o0 := bo9.cell 0; have o1 := bo9.cell 1; have o2 := bo9.cell 2; have o3 := bo9.cell 3; have o4 := bo9.cell 4; have o5 := bo9.cell 5; have o6 := bo9.cell 6; simp only [List.getElem?_toArray, List.getElem?_cons_succ, List.getElem?_cons_zero] at o0 o1 o2 o3 o4 o5 o6
              go_wp2_with fail
              refine HSO2.out.mono ?_
              cases hr2 : rightV ⟨wd, hi, lm, pr, pc, pp, pa⟩ with
              | false =>
                rintro e w10 ⟨rfl, hc10⟩
                have hb10 := hb9.trans (hc10.mono hz9)
                have br := br9.same hc10
                obtain rfl : res = none := by
                  rw [HPART.out]
                  rw [HCFD.out]
                  unfold chgF
                  simp only
                  rw [HWFD.out]
                  simp only
                  rw [if_neg (by rw [hr2]; decide)]
                clear hr2 hc10 o0 o1 o2 o3 o4 o5 o6
                have t0 := br.cell 0; have t1 := br.cell 1; have t2 := br.cell 2; have t3 := br.cell 3; have t4 := br.cell 4; have t5 := br.cell 5; have t6 := br.cell 6; have f0 := br.frozen 0; have f1 := br.frozen 1; have f2 := br.frozen 2; have f3 := br.frozen 3; have f4 := br.frozen 4; have f5 := br.frozen 5; have f6 := br.frozen 6; simp only [List.getElem?_toArray, List.getElem?_cons_succ, List.getElem?_cons_zero] at t0 t1 t2 t3 t4 t5 t6
                go_wp2
                have hbz : Below w.heap.size w ((((((((w10).setCell ⟨w.heap.size + 1 + 1, 0, none⟩ (.int .i64 0)).setCell ⟨w.heap.size + 1 + 1, 1, none⟩ (.int .i64 0)).setCell ⟨w.heap.size + 1 + 1, 2, none⟩ (.slice none 0 0)).setCell ⟨w.heap.size + 1 + 1, 3, none⟩ (.int .i64 0)).setCell ⟨w.heap.size + 1 + 1, 4, none⟩ (.int .i64 0)).setCell ⟨w.heap.size + 1 + 1, 5, none⟩ (.bool false)).setCell ⟨w.heap.size + 1 + 1, 6, none⟩ (.bool false)) := (((((((hb10).setCell (p := ⟨w.heap.size + 1 + 1, 0, none⟩) (by show w.heap.size ≤ w.heap.size + 1 + 1; omega) (.int .i64 0)).setCell (p := ⟨w.heap.size + 1 + 1, 1, none⟩) (by show w.heap.size ≤ w.heap.size + 1 + 1; omega) (.int .i64 0)).setCell (p := ⟨w.heap.size + 1 + 1, 2, none⟩) (by show w.heap.size ≤ w.heap.size + 1 + 1; omega) (.slice none 0 0)).setCell (p := ⟨w.heap.size + 1 + 1, 3, none⟩) (by show w.heap.size ≤ w.heap.size + 1 + 1; omega) (.int .i64 0)).setCell (p := ⟨w.heap.size + 1 + 1, 4, none⟩) (by show w.heap.size ≤ w.heap.size + 1 + 1; omega) (.int .i64 0)).setCell (p := ⟨w.heap.size + 1 + 1, 5, none⟩) (by show w.heap.size ≤ w.heap.size + 1 + 1; omega) (.bool false)).setCell (p := ⟨w.heap.size + 1 + 1, 6, none⟩) (by show w.heap.size ≤ w.heap.size + 1 + 1; omega) (.bool false)
                have bn : Blk ((((((((w10).setCell ⟨w.heap.size + 1 + 1, 0, none⟩ (.int .i64 0)).setCell ⟨w.heap.size + 1 + 1, 1, none⟩ (.int .i64 0)).setCell ⟨w.heap.size + 1 + 1, 2, none⟩ (.slice none 0 0)).setCell ⟨w.heap.size + 1 + 1, 3, none⟩ (.int .i64 0)).setCell ⟨w.heap.size + 1 + 1, 4, none⟩ (.int .i64 0)).setCell ⟨w.heap.size + 1 + 1, 5, none⟩ (.bool false)).setCell ⟨w.heap.size + 1 + 1, 6, none⟩ (.bool false)) (w.heap.size + 1 + 1) 26 #[.int .i64 0, .int .i64 0, .slice none 0 0, .int .i64 0, .int .i64 0, .bool false, .bool false] := by have := (((((((br).set_ 0 (.int .i64 0)).set_ 1 (.int .i64 0)).set_ 2 (.slice none 0 0)).set_ 3 (.int .i64 0)).set_ 4 (.int .i64 0)).set_ 5 (.bool false)).set_ 6 (.bool false); simpa using this
                generalize (((((((w10).setCell ⟨w.heap.size + 1 + 1, 0, none⟩ (.int .i64 0)).setCell ⟨w.heap.size + 1 + 1, 1, none⟩ (.int .i64 0)).setCell ⟨w.heap.size + 1 + 1, 2, none⟩ (.slice none 0 0)).setCell ⟨w.heap.size + 1 + 1, 3, none⟩ (.int .i64 0)).setCell ⟨w.heap.size + 1 + 1, 4, none⟩ (.int .i64 0)).setCell ⟨w.heap.size + 1 + 1, 5, none⟩ (.bool false)).setCell ⟨w.heap.size + 1 + 1, 6, none⟩ (.bool false) = wz at *
                have x0 := bn.cell 0; have x1 := bn.cell 1; have x2 := bn.cell 2; have x3 := bn.cell 3; have x4 := bn.cell 4; have x5 := bn.cell 5; have x6 := bn.cell 6; simp only [List.getElem?_toArray, List.getElem?_cons_succ, List.getElem?_cons_zero] at x0 x1 x2 x3 x4 x5 x6
                refine bodyPost_ret (v := .tuple #[.agg #[.int .i64 0, .int .i64 0, .slice none 0 0, .int .i64 0, .int .i64 0, .bool false, .bool false], .bool false]) (by simp [results, Try.results13, go_sem, x0, x1, x2, x3, x4, x5, x6]) rfl ⟨fun v hv => (by cases hv), fun _ => rfl, hbz⟩
              | true =>
                rintro e w10 ⟨rfl, hc10⟩
                have hb10 := hb9.trans (hc10.mono hz9)
                have br := br9.same hc10
                have bo := bo9.same hc10
                have hl10 := hl9.below hc10
                have hres : res = some ⟨wd, hi, lm, pr, pc, pp, pa⟩ := by
                  rw [HPART.out]
                  rw [HCFD.out]
                  unfold chgF
                  simp only
                  rw [HWFD.out]
                  simp only
                  rw [if_pos hr2]
                have HRS := hide hres
                clear hr2 hc10 hres o0 o1 o2 o3 o4 o5 o6
                have o0 := bo.cell 0; have o1 := bo.cell 1; have o2 := bo.cell 2; have o3 := bo.cell 3; have o4 := bo.cell 4; have o5 := bo.cell 5; have o6 := bo.cell 6; simp only [List.getElem?_toArray, List.getElem?_cons_succ, List.getElem?_cons_zero] at o0 o1 o2 o3 o4 o5 o6
                have t0 := br.cell 0; have t1 := br.cell 1; have t2 := br.cell 2; have t3 := br.cell 3; have t4 := br.cell 4; have t5 := br.cell 5; have t6 := br.cell 6; have f0 := br.frozen 0; have f1 := br.frozen 1; have f2 := br.frozen 2; have f3 := br.frozen 3; have f4 := br.frozen 4; have f5 := br.frozen 5; have f6 := br.frozen 6; simp only [List.getElem?_toArray, List.getElem?_cons_succ, List.getElem?_cons_zero] at t0 t1 t2 t3 t4 t5 t6
                go_wp2
                have hbz : Below w.heap.size w ((((((((w10).setCell ⟨w.heap.size + 1 + 1, 0, none⟩ (.int .i64 wd)).setCell ⟨w.heap.size + 1 + 1, 1, none⟩ (.int .i64 hi)).setCell ⟨w.heap.size + 1 + 1, 2, none⟩ (.slice A5 n5 c5)).setCell ⟨w.heap.size + 1 + 1, 3, none⟩ (.int .i64 pr)).setCell ⟨w.heap.size + 1 + 1, 4, none⟩ (.int .i64 pc)).setCell ⟨w.heap.size + 1 + 1, 5, none⟩ (.bool pp)).setCell ⟨w.heap.size + 1 + 1, 6, none⟩ (.bool pa)) := (((((((hb10).setCell (p := ⟨w.heap.size + 1 + 1, 0, none⟩) (by show w.heap.size ≤ w.heap.size + 1 + 1; omega) (.int .i64 wd)).setCell (p := ⟨w.heap.size + 1 + 1, 1, none⟩) (by show w.heap.size ≤ w.heap.size + 1 + 1; omega) (.int .i64 hi)).setCell (p := ⟨w.heap.size + 1 + 1, 2, none⟩) (by show w.heap.size ≤ w.heap.size + 1 + 1; omega) (.slice A5 n5 c5)).setCell (p := ⟨w.heap.size + 1 + 1, 3, none⟩) (by show w.heap.size ≤ w.heap.size + 1 + 1; omega) (.int .i64 pr)).setCell (p := ⟨w.heap.size + 1 + 1, 4, none⟩) (by show w.heap.size ≤ w.heap.size + 1 + 1; omega) (.int .i64 pc)).setCell (p := ⟨w.heap.size + 1 + 1, 5, none⟩) (by show w.heap.size ≤ w.heap.size + 1 + 1; omega) (.bool pp)).setCell (p := ⟨w.heap.size + 1 + 1, 6, none⟩) (by show w.heap.size ≤ w.heap.size + 1 + 1; omega) (.bool pa)
                have bn : Blk ((((((((w10).setCell ⟨w.heap.size + 1 + 1, 0, none⟩ (.int .i64 wd)).setCell ⟨w.heap.size + 1 + 1, 1, none⟩ (.int .i64 hi)).setCell ⟨w.heap.size + 1 + 1, 2, none⟩ (.slice A5 n5 c5)).setCell ⟨w.heap.size + 1 + 1, 3, none⟩ (.int .i64 pr)).setCell ⟨w.heap.size + 1 + 1, 4, none⟩ (.int .i64 pc)).setCell ⟨w.heap.size + 1 + 1, 5, none⟩ (.bool pp)).setCell ⟨w.heap.size + 1 + 1, 6, none⟩ (.bool pa)) (w.heap.size + 1 + 1) 26 #[.int .i64 wd, .int .i64 hi, .slice A5 n5 c5, .int .i64 pr, .int .i64 pc, .bool pp, .bool pa] := by have := (((((((br).set_ 0 (.int .i64 wd)).set_ 1 (.int .i64 hi)).set_ 2 (.slice A5 n5 c5)).set_ 3 (.int .i64 pr)).set_ 4 (.int .i64 pc)).set_ 5 (.bool pp)).set_ 6 (.bool pa); simpa using this
                have hlz : Lns w.heap.size ((((((((w10).setCell ⟨w.heap.size + 1 + 1, 0, none⟩ (.int .i64 wd)).setCell ⟨w.heap.size + 1 + 1, 1, none⟩ (.int .i64 hi)).setCell ⟨w.heap.size + 1 + 1, 2, none⟩ (.slice A5 n5 c5)).setCell ⟨w.heap.size + 1 + 1, 3, none⟩ (.int .i64 pr)).setCell ⟨w.heap.size + 1 + 1, 4, none⟩ (.int .i64 pc)).setCell ⟨w.heap.size + 1 + 1, 5, none⟩ (.bool pp)).setCell ⟨w.heap.size + 1 + 1, 6, none⟩ (.bool pa)) (.slice A5 n5 c5) lm := hl10.step (es := [26]) ((((((((Step.refl w.heap.size [26] w10).setCell (p := ⟨w.heap.size + 1 + 1, 0, none⟩) (by show w.heap.size ≤ w.heap.size + 1 + 1; omega) (br).bears (.int .i64 wd)).setCell (p := ⟨w.heap.size + 1 + 1, 1, none⟩) (by show w.heap.size ≤ w.heap.size + 1 + 1; omega) ((br).set_ 0 (.int .i64 wd)).bears (.int .i64 hi)).setCell (p := ⟨w.heap.size + 1 + 1, 2, none⟩) (by show w.heap.size ≤ w.heap.size + 1 + 1; omega) (((br).set_ 0 (.int .i64 wd)).set_ 1 (.int .i64 hi)).bears (.slice A5 n5 c5)).setCell (p := ⟨w.heap.size + 1 + 1, 3, none⟩) (by show w.heap.size ≤ w.heap.size + 1 + 1; omega) ((((br).set_ 0 (.int .i64 wd)).set_ 1 (.int .i64 hi)).set_ 2 (.slice A5 n5 c5)).bears (.int .i64 pr)).setCell (p := ⟨w.heap.size + 1 + 1, 4, none⟩) (by show w.heap.size ≤ w.heap.size + 1 + 1; omega) (((((br).set_ 0 (.int .i64 wd)).set_ 1 (.int .i64 hi)).set_ 2 (.slice A5 n5 c5)).set_ 3 (.int .i64 pr)).bears (.int .i64 pc)).setCell (p := ⟨w.heap.size + 1 + 1, 5, none⟩) (by show w.heap.size ≤ w.heap.size + 1 + 1; omega) ((((((br).set_ 0 (.int .i64 wd)).set_ 1 (.int .i64 hi)).set_ 2 (.slice A5 n5 c5)).set_ 3 (.int .i64 pr)).set_ 4 (.int .i64 pc)).bears (.bool pp)).setCell (p := ⟨w.heap.size + 1 + 1, 6, none⟩) (by show w.heap.size ≤ w.heap.size + 1 + 1; omega) (((((((br).set_ 0 (.int .i64 wd)).set_ 1 (.int .i64 hi)).set_ 2 (.slice A5 n5 c5)).set_ 3 (.int .i64 pr)).set_ 4 (.int .i64 pc)).set_ 5 (.bool pp)).bears (.bool pa)) (by decide) (by decide) (by decide)
                generalize (((((((w10).setCell ⟨w.heap.size + 1 + 1, 0, none⟩ (.int .i64 wd)).setCell ⟨w.heap.size + 1 + 1, 1, none⟩ (.int .i64 hi)).setCell ⟨w.heap.size + 1 + 1, 2, none⟩ (.slice A5 n5 c5)).setCell ⟨w.heap.size + 1 + 1, 3, none⟩ (.int .i64 pr)).setCell ⟨w.heap.size + 1 + 1, 4, none⟩ (.int .i64 pc)).setCell ⟨w.heap.size + 1 + 1, 5, none⟩ (.bool pp)).setCell ⟨w.heap.size + 1 + 1, 6, none⟩ (.bool pa) = wz at *
                have x0 := bn.cell 0; have x1 := bn.cell 1; have x2 := bn.cell 2; have x3 := bn.cell 3; have x4 := bn.cell 4; have x5 := bn.cell 5; have x6 := bn.cell 6; simp only [List.getElem?_toArray, List.getElem?_cons_succ, List.getElem?_cons_zero] at x0 x1 x2 x3 x4 x5 x6
                refine bodyPost_ret (v := .tuple #[.agg #[.int .i64 wd, .int .i64 hi, .slice A5 n5 c5, .int .i64 pr, .int .i64 pc, .bool pp, .bool pa], .bool true]) (by simp [results, Try.results13, go_sem, x0, x1, x2, x3, x4, x5, x6]) rfl ⟨fun v hv => (by rw [HRS.out] at hv; injection hv with hv; subst hv; exact ⟨_, rfl, hlz⟩), fun h => (by rw [HRS.out] at h; cases h), hbz⟩
end Go.Proofs.Ytcidioomhdkbnaa
