/-
  append as one step of a region that draws its order; rows of rows of numbers. No program in sight.
-/
import Derived.Test.YtphdagmaamcapaaDoorMem3
namespace Go.Proofs.YtphdagmaamcapaaDoor
open Go.RowKit
set_option linter.unusedVariables false

/-- append onto a row of the call's own, as one step. -/
theorem step_appg {α : Type} {P : Program} {ops : Array Oper} {o : Oper} {a : Act} {w : World} {K : Act → World → Prop} {Q : Exit → Act → World → Prop} {E : Prop} (hgd : o.guard = none) (s x : Operand) (t : TypeId)
    (ho : o.op = .call { callee := .builtin .append, args := #[s, x], argTypes := #[t, t] })
    (R : Rep α) (e : TypeId) (T : List TypeId) (base bytes : Nat) (z : Value) (ht : P.underlying t = some (.slice e)) (hi : (P.info? e).map (fun i => (i.zero, i.size, i.bytes)) = some (some z, R.sz, bytes)) (hzs : z.cells.size = R.sz) (hsz : 0 < R.sz) (hb0 : 0 < bytes)
    (v : Value) (l : List α) (hs : a.eval s = v) (hown : Own R e T base w v l) (So Si : Nat → Prop) (vx : Value) (l2 : List α) (hxe : a.eval x = vx) (hx : Slc R So Si w vx l2) (hSi : ∀ b, Si b → Typed base T w b)
    (hb : (l.length + l2.length) * bytes ≤ 140737488355328) (hbase : base ≤ w.heap.size)
    (h : ∀ v' w', Own R e T base w' v' (l ++ l2) → Step base [e] w w' → w.grownBy w' v.ownBlock → (v'.ownBlock = v.ownBlock ∨ v'.ownBlock = some w.heap.size) → K (a.put o.dst v') w') :
    if Region.wanted o (yielded ops a.tmps) = true then Oper.wp P o a w K Q else E := by
  have hw : Region.wanted o (yielded ops a.tmps) = true := by simp [Region.wanted, hgd]
  rw [if_pos hw]
  obtain ⟨i0, hi0, hz0, hz1, hz2⟩ := info_parts hi
  obtain ⟨v', w', hrun, h2, h3, h4, h5⟩ := run_app (P := P) w R t o.type e T base i0 z bytes ht hi0 hz0 hz1 hz2 hzs hsz hb0 v l hown So Si vx l2 hx hSi hb hbase
  unfold Oper.wp execOp
  simp only [ho, resolve, invoke, builtin, Sem.run_bind, Sem.run_pure, Result.andThen_ok, List.map_toArray, List.map_cons, List.map_nil, hs, hxe, hrun]
  exact h v' w' h2 h3 h4 h5

/-- A row of numbers, as an element. -/
def RRow : Rep (List Int) := Rep.slice (Rep.int .i32)
/-- A row of the call's own among the inner memory of a row of rows. -/
theorem Own.rowE {e : TypeId} {T : List TypeId} {base base' : Nat} {w : World} {s : Value} {l : List Int} (h : Own (Rep.int .i32) e T base' w s l) (hb : base ≤ base') : RRow.E (Typed base [e] w) w [s] l := by
  have h2 := h.slc.flat_any (Flat.int .i32) (Typed base [e] w)
  exact ⟨s, rfl, h2.mono (Keep.weaken fun b hb2 => Fresh.typed (fun t ht => ht) b hb2.2) (Keep.refl _ _)⟩
theorem Slc.one_row {e e2 : TypeId} {base : Nat} {w : World} {s : Value} {l : List Int} (h : RRow.E (Typed base [e] w) w [s] l) (m : Nat) (hm : m = w.heap.size) :
    Slc RRow (fun _ => True) (Typed base [e] (w.alloc (.cells #[s] e2))) (w.alloc (.cells #[s] e2)) (.slice (some ⟨m, 0, none⟩) 1 1) [l] := by
  subst hm
  have := Slc.lit1 (R := RRow) (Si := Typed base [e] w) (Si' := Typed base [e] (w.alloc (.cells #[s] e2))) e2 h (Keep.step (Step.alloc1 base [] w (.cells #[s] e2)) (by simp))
  exact this.mono (Keep.weaken fun _ _ => trivial) (Keep.refl _ _)
end Go.Proofs.YtphdagmaamcapaaDoor
