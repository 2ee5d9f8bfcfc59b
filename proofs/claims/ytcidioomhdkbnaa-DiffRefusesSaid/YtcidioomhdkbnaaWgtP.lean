/-
  A patch that comes in: what it reads as, and that no slice of it, nor of a view, is longer than memory bears. What Apply's result tells of a patch.
-/
import Derived.Test.YtcidioomhdkbnaaDif9
import Derived.Test.YtcidioomhdkbnaaWgt
namespace Go.Proofs.Ytcidioomhdkbnaa
open Go.RowKit Go.ChangeShapes
set_option linter.unusedVariables false
set_option linter.unusedSimpArgs false

def RPatch : Rep PatchV := Rep.map (Rep.pair (Rep.slice RChange) (Rep.pair (Rep.slice (Rep.int .i64)) (Rep.pair (Rep.pair (Rep.int .i64) (Rep.pair (Rep.int .i64) Rep.bool)) (Rep.pair Rep.bool (Rep.pair Rep.bool RView))))) (fun p => (p.cs, p.is, (p.row, p.col, p.pend), p.auto, p.whole, p.view))
theorem patch_open {S : Nat → Prop} {w : World} {cs : List Value} {v : PatchV} (h : RPatch.E S w cs v) :
    ∃ z u y, cs = [z, u, .int .i64 v.row, .int .i64 v.col, .bool v.pend, .bool v.auto, .bool v.whole, .int .i64 v.view.wide, .int .i64 v.view.high, y, .int .i64 v.view.row, .int .i64 v.view.col, .bool v.view.pend, .bool v.view.auto] ∧ Slc RChange S S w z v.cs ∧ Slc (Rep.int .i64) S S w u v.is ∧ Slc RLine S S w y v.view.lines := by
  obtain ⟨a1, a2, rfl, ⟨z, rfl, h1⟩, b1, b2, rfl, ⟨u, rfl, h2⟩, c1, c2, rfl, ⟨e1, e2, rfl, ⟨rfl, h4⟩, f1, f2, rfl, ⟨rfl, h5⟩, h6⟩, d1, d2, rfl, h7, g1, g2, rfl, h8, h9⟩ := h
  cases h6
  cases h7
  cases h8
  obtain ⟨y, rfl, _, _, _, _, h10⟩ := view_open h9
  exact ⟨z, u, y, rfl, h1, h2, h10⟩

def TextW (c : CellV) : Prop := c.2.length * 4 ≤ 140737488355328
def LinesTx (ls : List LineV) : Prop := LinesOk ls ∧ ∀ l ∈ ls, ∀ c ∈ l.1, TextW c
def PatchOk (p : PatchV) : Prop := (∀ c ∈ p.cs, ∀ x ∈ c.2.2, TextW x) ∧ LinesTx p.view.lines
theorem opensW_cellT : OpensW Try.prog RCell 50 TextW :=
  (opensW_struct Try.underlying50 (opensW_cons _ rfl rfl (by kernel_rfl) (opens_int Try.underlying3).any (opensW_last _ rfl rfl (by kernel_rfl) (by kernel_rfl)
    (opensW_slice (R := Rep.int .i32) Try.underlying48 (by kernel_rfl) (of_decide_eq_true (by kernel_rfl)) (opens_int Try.underlying21).any)))).weak (fun c h => by
    have h1 := h.2.1
    rw [show Try.prog.bytesOf 21 = 4 by kernel_rfl] at h1
    simp only [reachBytes] at h1
    unfold TextW
    omega)
theorem opensW_cellsT : OpensW Try.prog (Rep.slice RCell) 36 (fun l => l.length ≤ 140737488355328 ∧ ∀ c ∈ l, TextW c) :=
  (opensW_slice (R := RCell) Try.underlying36 (by kernel_rfl) (of_decide_eq_true (by kernel_rfl)) opensW_cellT).weak (fun l h => by
    have h1 := h.1
    rw [show Try.prog.bytesOf 50 = 32 by kernel_rfl] at h1
    simp only [reachBytes] at h1
    exact ⟨by omega, h.2⟩)
theorem opensW_lineT : OpensW Try.prog RLine 40 (fun l => l.1.length ≤ 140737488355328 ∧ ∀ c ∈ l.1, TextW c) :=
  (opensW_struct Try.underlying40 (opensW_cons _ rfl rfl (by kernel_rfl) opensW_cellsT (opensW_last _ rfl rfl (by kernel_rfl) (by kernel_rfl) (opens_bool Try.underlying4).any))).weak (fun _ h => h.1)
theorem opensW_linesT : OpensW Try.prog (Rep.slice RLine) 22 LinesTx :=
  (opensW_slice (R := RLine) Try.underlying22 (by kernel_rfl) (of_decide_eq_true (by kernel_rfl)) opensW_lineT).weak (fun l h => by
    have h1 := h.1
    rw [show Try.prog.bytesOf 40 = 32 by kernel_rfl] at h1
    simp only [reachBytes] at h1
    exact ⟨⟨by omega, fun x hx => (h.2 x hx).1⟩, fun x hx => (h.2 x hx).2⟩)
theorem opensW_viewT : OpensW Try.prog RView 26 (fun v => LinesTx v.lines) :=
  (opensW_map (opensW_struct Try.underlying26 (opensW_cons _ rfl rfl (by kernel_rfl) (opens_int Try.underlying3).any (opensW_cons _ rfl rfl (by kernel_rfl) (opens_int Try.underlying3).any (opensW_cons _ rfl rfl (by kernel_rfl) opensW_linesT (opensW_cons _ rfl rfl (by kernel_rfl) opensW_cursor (opensW_last _ rfl rfl (by kernel_rfl) (by kernel_rfl) (opens_bool Try.underlying4).any))))))
    (fun v : ViewV => (v.wide, v.high, v.lines, (v.row, v.col, v.pend), v.auto)) (fun x => ⟨⟨x.1, x.2.1, x.2.2.1, x.2.2.2.1.1, x.2.2.2.1.2.1, x.2.2.2.1.2.2, x.2.2.2.2⟩, rfl⟩)).weak (fun _ h => h.2.2.1)
theorem opensW_change : OpensW Try.prog RChange 38 (fun c => ∀ x ∈ c.2.2, TextW x) :=
  (opensW_struct Try.underlying38 (opensW_cons _ rfl rfl (by kernel_rfl) (opens_int Try.underlying3).any (opensW_cons _ rfl rfl (by kernel_rfl) (opens_int Try.underlying3).any (opensW_last _ rfl rfl (by kernel_rfl) (by kernel_rfl) opensW_cellsT)))).weak (fun _ h => h.2.2.2)
theorem opensW_changes : OpensW Try.prog (Rep.slice RChange) 30 (fun l => ∀ c ∈ l, ∀ x ∈ c.2.2, TextW x) :=
  (opensW_slice (R := RChange) Try.underlying30 (by kernel_rfl) (of_decide_eq_true (by kernel_rfl)) opensW_change).weak (fun l h => h.2)
theorem opensW_patch : OpensW Try.prog RPatch 33 PatchOk :=
  (opensW_map (opensW_struct Try.underlying33 (opensW_cons _ rfl rfl (by kernel_rfl) opensW_changes (opensW_cons _ rfl rfl (by kernel_rfl) (opens_slice (R := Rep.int .i64) Try.underlying31 (by kernel_rfl) (opens_int Try.underlying3)).any (opensW_cons _ rfl rfl (by kernel_rfl) opensW_cursor (opensW_cons _ rfl rfl (by kernel_rfl) (opens_bool Try.underlying4).any (opensW_cons _ rfl rfl (by kernel_rfl) (opens_bool Try.underlying4).any (opensW_last _ rfl rfl (by kernel_rfl) (by kernel_rfl) opensW_viewT)))))))
    (fun p : PatchV => (p.cs, p.is, (p.row, p.col, p.pend), p.auto, p.whole, p.view)) (fun x => ⟨⟨x.1, x.2.1, x.2.2.1.1, x.2.2.1.2.1, x.2.2.1.2.2, x.2.2.2.1, x.2.2.2.2.1, x.2.2.2.2.2⟩, rfl⟩)).weak (fun _ h => ⟨h.1, h.2.2.2.2.2⟩)

/-! ### What Apply's result tells -/
def liesC (wd hi : Int) (c : ChangeV) : Bool := liesB c.1 c.2.1 c.2.2.length wd hi
def inR (hi : Int) (i : Int) : Bool := decide (0 ≤ i ∧ i < hi)
theorem chgF_some {wd hi : Int} : ∀ (cs : List ChangeV) (ls l : List LineV), chgF wd hi cs ls = some l → cs.all (liesC wd hi) = true
  | [], _, _, _ => rfl
  | c :: cs, ls, l, h => by
    unfold chgF at h
    split at h
    · rename_i h1
      rw [List.all_cons, Bool.and_eq_true]
      exact ⟨h1, chgF_some cs _ l h⟩
    · cases h
theorem wrpF_some {hi : Int} : ∀ (is : List Int) (ls l : List LineV), wrpF hi is ls = some l → is.all (inR hi) = true
  | [], _, _, _ => rfl
  | i :: is, ls, l, h => by
    unfold wrpF at h
    split at h
    · rename_i h1
      rw [List.all_cons, Bool.and_eq_true]
      exact ⟨decide_eq_true h1, wrpF_some is _ l h⟩
    · cases h
theorem applyF_right {v : ViewV} {p : PatchV} {u : ViewV} (h : applyF v p = some u) : rightV v = true ∧ rightV (if p.whole = true then p.view else v) = true := by
  refine Decidable.byContradiction fun hn => ?_
  unfold applyF at h
  rw [if_neg hn] at h
  cases h
theorem some_whole {v : ViewV} {p : PatchV} {u : ViewV} (h : applyF v p = some u) (hp : p.whole = true) : u = p.view ∧ rightV v = true ∧ rightV p.view = true := by
  obtain ⟨h1, h2⟩ := applyF_right h
  rw [if_pos hp] at h2
  rw [applyF_whole h1 hp h2] at h
  injection h with h
  exact ⟨h.symm, h1, h2⟩
theorem some_part {v : ViewV} {p : PatchV} {u : ViewV} (h : applyF v p = some u) (hp : p.whole = false) :
    rightV v = true ∧ p.cs.all (liesC v.wide v.high) = true ∧ p.is.all (inR v.high) = true ∧ rightV u = true ∧ u.wide = v.wide ∧ u.high = v.high ∧ u.row = p.row ∧ u.col = p.col ∧ u.pend = p.pend ∧ u.auto = p.auto := by
  obtain ⟨h1, _⟩ := applyF_right h
  rw [applyF_part h1 hp] at h
  split at h
  · cases h
  · rename_i l1 hc
    split at h
    · cases h
    · rename_i l2 hw
      split at h
      · rename_i hr
        injection h with h
        subst h
        exact ⟨h1, chgF_some _ _ _ hc, wrpF_some _ _ _ hw, hr, rfl, rfl, rfl, rfl, rfl, rfl⟩
      · cases h
end Go.Proofs.Ytcidioomhdkbnaa
