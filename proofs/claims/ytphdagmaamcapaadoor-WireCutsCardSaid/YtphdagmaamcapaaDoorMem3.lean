/-
  append where a guard stands before it. No program in sight.
-/
import Derived.Test.YtphdagmaamcapaaDoorMem2
namespace Go.Proofs.YtphdagmaamcapaaDoor
open Go.RowKit
set_option linter.unusedVariables false

/-- append, guarded, the guard as it must be. -/
theorem wpList_apph {α : Type} {P : Program} {ops : Array Oper} {rest : List Oper} {o : Oper} {a : Act} {w : World} {Q : Exit → Act → World → Prop} (s x : Operand) (t : TypeId)
    (ho : o.op = .call { callee := .builtin .append, args := #[s, x], argTypes := #[t, t] })
    (hgw : Region.wanted o (yielded ops a.tmps) = true)
    (R : Rep α) (e : TypeId) (T : List TypeId) (base bytes : Nat) (z : Value) (ht : P.underlying t = some (.slice e)) (hi : (P.info? e).map (fun i => (i.zero, i.size, i.bytes)) = some (some z, R.sz, bytes)) (hzs : z.cells.size = R.sz) (hsz : 0 < R.sz) (hb0 : 0 < bytes)
    (v : Value) (l : List α) (hs : a.eval s = v) (hown : Own R e T base w v l) (So Si : Nat → Prop) (vx : Value) (l2 : List α) (hxe : a.eval x = vx) (hx : Slc R So Si w vx l2) (hSi : ∀ b, Si b → Typed base T w b)
    (hb : (l.length + l2.length) * bytes ≤ 140737488355328) (hbase : base ≤ w.heap.size)
    (h : ∀ v' w', Own R e T base w' v' (l ++ l2) → Step base [e] w w' → w.grownBy w' v.ownBlock → (v'.ownBlock = v.ownBlock ∨ v'.ownBlock = some w.heap.size) → wpList P ops Q rest (a.put o.dst v') w') : wpList P ops Q (o :: rest) a w := by
  obtain ⟨i0, hi0, hz0, hz1, hz2⟩ := info_parts hi
  refine wpList_step fun K hK => ?_
  rw [if_pos hgw]
  obtain ⟨v', w', hrun, h2, h3, h4, h5⟩ := run_app (P := P) w R t o.type e T base i0 z bytes ht hi0 hz0 hz1 hz2 hzs hsz hb0 v l hown So Si vx l2 hx hSi hb hbase
  unfold Oper.wp execOp
  simp only [ho, resolve, invoke, builtin, Sem.run_bind, Sem.run_pure, Result.andThen_ok, List.map_toArray, List.map_cons, List.map_nil, hs, hxe, hrun]
  exact hK _ _ (h v' w' h2 h3 h4 h5)
end Go.Proofs.YtphdagmaamcapaaDoor
