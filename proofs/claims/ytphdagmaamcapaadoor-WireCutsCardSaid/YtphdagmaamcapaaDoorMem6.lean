/-
  copy of elements of more than one cell, into a row of the call's own. No program in sight.
-/
import Derived.Test.YtphdagmaamcapaaDoorMem5
import Derived.Laws.CopyRow
import Derived.Laws.CopyOwn
namespace Go.Proofs.YtphdagmaamcapaaDoor
open Go.RowKit
set_option linter.unusedVariables false
set_option linter.unusedSimpArgs false

section
variable {P : Program}
theorem run_copyz (w : World) (dT sT ty elem : TypeId) (g o dLen dCap : Nat) (sp : Option Addr) (sLen sCap : Nat) (cur : Array Value) (t : TypeId) (cs : List Value) (sz : Nat)
    (hu : P.underlying dT = some (.slice elem)) (hs : (P.info? elem).map (·.size) = some sz)
    (hg : w.heap[g]? = some (.cells cur t (0, 0))) (hn : cs.length = Nat.min sLen dLen * sz)
    (hsrc : 0 < cs.length → ∃ ad, sp = some ad ∧ ∀ j v, cs[j]? = some v → w.cell? (ad.add j) = some v) (hfit : o + cs.length ≤ cur.size) (h1 : ∀ v ∈ cs, v.oneCell' = true) :
    (Builtin.copy_ #[dT, sT] ty #[.slice (some ⟨g, o, none⟩) dLen dCap, .slice sp sLen sCap]).run P w =
      .ok (goInt (Nat.min sLen dLen)) (w.setRow g (cur.toList.take o ++ cs ++ cur.toList.drop (o + cs.length)).toArray) := by
  have hst := run_storeCells_at P g o t cs 0 cur w hg (by simpa using hfit) h1
  cases hq : P.info? elem with
  | none => simp [hq] at hs
  | some i =>
    have hi : i.size = sz := by simpa [hq] using hs
    rcases Nat.eq_zero_or_pos cs.length with h0 | h0
    · obtain rfl : cs = [] := List.eq_nil_of_length_eq_zero h0
      have hn0 : Nat.min sLen dLen * sz = 0 := by simpa using hn.symm
      have hst0 : (storeCells ⟨g, o, none⟩ [] 0).run P w = .ok () w := rfl
      have hsr := setRow_self w g cur t (0, 0) hg
      cases sp with
      | none => simp [Builtin.copy_, run_underlying hu, Builtin.lenOf, Builtin.firstCells, sizeOf, typeInfo, hq, hi, hn0, hst0, hsr, storeCells]
      | some ad =>
        have hl := run_loadCells_list (P := P) w ad [] (fun j v h => by simp at h)
        simp only [List.length_nil] at hl
        simp [Builtin.copy_, run_underlying hu, Builtin.lenOf, Builtin.firstCells, sizeOf, typeInfo, hq, hi, hn0, hl, hst0, hsr]
    · obtain ⟨ad, rfl, hsr⟩ := hsrc h0
      have hl := run_loadCells_list (P := P) w ad cs hsr
      simp [Builtin.copy_, run_underlying hu, Builtin.lenOf, Builtin.firstCells, sizeOf, typeInfo, hq, hi, ← hn, hl, hst]
end

/-- copy as one step. -/
theorem step_copyz {P : Program} {ops : Array Oper} {o : Oper} {a : Act} {w : World} {K : Act → World → Prop} {Q : Exit → Act → World → Prop} {E : Prop} (hgd : o.guard = none) (d s : Operand) (dT sT : TypeId)
    (ho : o.op = .call { callee := .builtin .copy, args := #[d, s], argTypes := #[dT, sT] }) (elem : TypeId) (sz : Nat) (hu : P.underlying dT = some (.slice elem)) (hs : (P.info? elem).map (·.size) = some sz)
    (g off dLen dCap : Nat) (sp : Option Addr) (sLen sCap : Nat) (hd : a.eval d = .slice (some ⟨g, off, none⟩) dLen dCap) (he : a.eval s = .slice sp sLen sCap) (cur : Array Value) (t : TypeId) (cs : List Value)
    (hg : w.heap[g]? = some (.cells cur t (0, 0))) (hn : cs.length = Nat.min sLen dLen * sz)
    (hsrc : 0 < cs.length → ∃ ad, sp = some ad ∧ ∀ j v, cs[j]? = some v → w.cell? (ad.add j) = some v) (hfit : off + cs.length ≤ cur.size) (h1 : ∀ v ∈ cs, v.oneCell' = true)
    (h : K (a.put o.dst (goInt (Nat.min sLen dLen))) (w.setRow g (cur.toList.take off ++ cs ++ cur.toList.drop (off + cs.length)).toArray)) :
    if Region.wanted o (yielded ops a.tmps) = true then Oper.wp P o a w K Q else E := by
  have hw : Region.wanted o (yielded ops a.tmps) = true := by simp [Region.wanted, hgd]
  rw [if_pos hw]
  have hrun := run_copyz (P := P) w dT sT o.type elem g off dLen dCap sp sLen sCap cur t cs sz hu hs hg hn hsrc hfit h1
  unfold Oper.wp execOp
  simp only [ho, resolve, invoke, builtin, Sem.run_bind, Sem.run_pure, Result.andThen_ok, List.map_toArray, List.map_cons, List.map_nil, hd, he, hrun]
  exact h

/-- Part of a row of the call's own is laid anew; no other block turns. -/
theorem Own2.splice_ {α : Type} {R : Rep α} {e : TypeId} {T : List TypeId} {base : Nat} {w w' : World} {g n cap : Nat} {l m : List α} {cur : Array Value} {ys : List Value} {f : Nat} (h : Own2 R e T base 0 w (.slice (some ⟨g, 0, none⟩) n cap) l) (hn : l.length = n) (hf : f + m.length ≤ l.length) (hsz : 0 < R.sz) (h0 : 0 < l.length)
    (hcur : w.heap[g]? = some (.cells cur e (0, 0))) (hy : Els R (Typed 0 T w) w m ys) (hw : w' = w.setRow g (cur.toList.take (f * R.sz) ++ ys ++ cur.toList.drop (f * R.sz + ys.length)).toArray) :
    Own2 R e T base 0 w' (.slice (some ⟨g, 0, none⟩) n cap) (l.take f ++ m ++ l.drop (f + m.length)) ∧ Step base [e] w w' ∧ w.grownBy w' (some g) ∧ base ≤ g := by
  have hT := h.2.1
  obtain ⟨g', cap', xs, rest, he, hb, hblk, hx, hels, hlen, hc, hm⟩ := own2_open h h0
  injection he with e1 e2 e3
  injection e1 with e1
  injection e1 with e1
  subst e1; subst e3
  have hce : cur = (xs ++ rest).toArray := by
    unfold Blk at hblk
    rw [hcur] at hblk
    injection hblk with hblk
    injection hblk
  subst hce
  have hyl := hy.length
  have hgr : w.grownBy w' (some g) := by
    rw [hw]
    exact ⟨rfl, rfl, rfl, by simp [World.setRow], fun k hk hne => setRow_other w g k _ (fun e => hne (by rw [e]))⟩
  have hst : Step base [e] w w' := Step.of_grown hgr (fun k hk => by
    injection hk with hk
    subst hk
    exact ⟨hb, _, e, _, hcur, by simp⟩)
  have hk := Keep.step (T := T) (hst.mono (Nat.zero_le base) (fun _ h => h)) (fun t' ht' he => by simp at he; subst he; exact hT ht')
  have hrow : w'.heap[g]? = some (.cells ((xs.take (f * R.sz) ++ ys ++ xs.drop (f * R.sz + ys.length)) ++ rest).toArray e (0, 0)) := by
    rw [hw, setRow_heap w g _ _ e _ hcur]
    congr 3
    have h2 : f * R.sz + ys.length ≤ xs.length := by
      rw [hyl, hx, ← Nat.add_mul]
      exact Nat.mul_le_mul_right _ hf
    rw [List.toList_toArray, List.take_append_of_le_length (by omega), List.drop_append_of_le_length h2]
    simp
  have hdl : (f + m.length) * R.sz = f * R.sz + ys.length := by rw [Nat.add_mul, hyl]
  have hels' : Els R (Typed 0 T w') w' (l.take f ++ m ++ l.drop (f + m.length)) (xs.take (f * R.sz) ++ ys ++ xs.drop (f * R.sz + ys.length)) := by
    rw [← hdl]
    exact (((hels.take f).append hy).append (hels.drop (f + m.length))).mono hk
  have hll : (l.take f ++ m ++ l.drop (f + m.length)).length = n := by
    simp only [List.length_append, List.length_take, List.length_drop]
    omega
  have hxl : (xs.take (f * R.sz) ++ ys ++ xs.drop (f * R.sz + ys.length)).length = xs.length := by
    have h2 : f * R.sz + ys.length ≤ xs.length := by
      rw [hyl, hx, ← Nat.add_mul]
      exact Nat.mul_le_mul_right _ hf
    simp only [List.length_append, List.length_take, List.length_drop]
    omega
  refine ⟨own2_shut (Nat.zero_le _) hT hb hrow hels' hll (by rw [List.length_append, hxl, ← List.length_append]; exact hlen) (by omega) hm, hst, hgr, hb⟩
end Go.Proofs.YtphdagmaamcapaaDoor
