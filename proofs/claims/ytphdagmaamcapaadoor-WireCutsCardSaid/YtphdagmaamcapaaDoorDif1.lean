/-
  What package diff's own and row return: cells of their own memory; the changes of a row. Each function once.
-/
import Derived.Test.YtphdagmaamcapaaDoorDif0
import Derived.Test.YtphdagmaamcapaaDoorClone
import Derived.Test.YtphdagmaamcapaaDoorCell7
import Derived.Test.YtphdagmaamcapaaDoorMem5
import Derived.Deep.RegionHeld3
import Derived.RegionTactic
import Derived.Deep.CutRange
import Derived.BigQuiet
namespace Go.Proofs.YtphdagmaamcapaaDoor
open Go.RowKit
set_option linter.unusedVariables false
set_option linter.unusedSimpArgs false

/-- Rows of the call's own that lead to memory of the call's own alone, as data of a greater row. -/
theorem Own2.weak {α : Type} {R : Rep α} {e : TypeId} {T T' : List TypeId} {base b0 : Nat} {w : World} {v : Value} {l : List α} (h : Own2 R e T base 0 w v l) (he : e ∈ T') (hT : ∀ t ∈ T, t ∈ T') : Slc R (Typed b0 T' w) (Typed b0 T' w) w v l :=
  h.slc.mono (Keep.weaken fun b hb => Fresh.typed (fun t ht => by simp at ht; subst ht; exact he) b hb.2) (Keep.weaken fun b hb => by
    rcases hb with hb | ⟨cs, t, fz, hh, ht⟩
    · exact absurd hb (Nat.not_lt_zero b)
    · exact .inr ⟨cs, t, fz, hh, hT t ht⟩)

/-- append of rows of the call's own, as one step. -/
theorem els_cellT {S : Nat → Prop} {w : World} {k : Int} {v : Value} {t : List Int} (hw : (Lit.int .i64 k).wf = true) (hv : Slc (Rep.int .i32) S S w v t) : Els RCell S w [(k, t)] [.int .i64 k, v] :=
  Els.single (R := RCell) ⟨_, _, rfl, ⟨rfl, hw⟩, _, rfl, hv⟩
theorem own_text {base b0 : Nat} {w : World} {v : Value} {t : List Int} (h : Own (Rep.int .i32) 21 [] base w v t) : Slc (Rep.int .i32) (Typed b0 [21] w) (Typed b0 [21] w) w v t :=
  (h.islc.mono (So' := Typed b0 [21] w) (Si' := fun _ => False) (Keep.weaken fun b hb => Fresh.typed (fun _ h => h) b hb.2) (Keep.refl _ _)).ints_any _

def RChange : Rep ChangeV := Rep.pair (Rep.int .i64) (Rep.pair (Rep.int .i64) (Rep.slice RCell))
theorem els_change {S : Nat → Prop} {w : World} {r c : Int} {v : Value} {t : List CellV} (hr : (Lit.int .i64 r).wf = true) (hc : (Lit.int .i64 c).wf = true) (hv : Slc RCell S S w v t) : Els RChange S w [(r, c, t)] [.int .i64 r, .int .i64 c, v] :=
  Els.single (R := RChange) ⟨_, _, rfl, ⟨rfl, hr⟩, _, _, rfl, ⟨rfl, hc⟩, _, rfl, hv⟩
theorem change_at {So Si : Nat → Prop} {w : World} {A : Option Addr} {l : List ChangeV} (h : SlB RChange So Si w A l) {k : Nat} (hk : k < l.length) :
    ∃ b off v, A = some ⟨b, off, none⟩ ∧ So b ∧ w.cell? ⟨b, off + k * 3, none⟩ = some (.int .i64 l[k].1) ∧ w.cell? ⟨b, off + k * 3 + 1, none⟩ = some (.int .i64 l[k].2.1) ∧ w.cell? ⟨b, off + k * 3 + 2, none⟩ = some v ∧ (Lit.int .i64 l[k].1).wf = true ∧ (Lit.int .i64 l[k].2.1).wf = true ∧ Slc RCell Si Si w v l[k].2.2 := by
  obtain ⟨b, off, u, rfl, hs, hu, hc⟩ := h.at_ (k := k) (x := l[k]) (List.getElem?_eq_getElem hk) (by decide)
  obtain ⟨v1, v2, rfl, ⟨rfl, hw⟩, v3, v4, rfl, ⟨rfl, hw2⟩, v, rfl, hv⟩ := hu
  have h0 := hc 0 (by decide)
  have h1 := hc 1 (by decide)
  have h2 := hc 2 (by decide)
  have e : RChange.sz = 3 := rfl
  rw [e] at h0 h1 h2
  simp only [← Nat.add_assoc, Nat.add_zero] at h0 h1 h2
  exact ⟨b, off, v, rfl, hs, h0, h1, h2, hw, hw2, hv⟩
/-- One element of a slice, as a slice. -/
theorem slc_one {α : Type} {R : Rep α} {So Si : Nat → Prop} {w : World} {b off n c k : Nat} {l : List α} (h : Slc R So Si w (.slice (some ⟨b, off, none⟩) n c) l) (hn : l.length = n) (hk : k < l.length) (hc : n ≤ c) (o : Nat) (ho : o = off + k * R.sz) (m : Nat) (hm : m = c - k) : Slc R So Si w (.slice (some ⟨b, o, none⟩) 1 m) [l[k]] := by
  subst hn; subst ho; subst hm
  have h1 := h.cut (k := k) (by omega)
  rw [if_neg (by omega)] at h1
  have e1 : (l.drop k).length = l.length - k := List.length_drop
  rw [← e1] at h1
  have h2 := h1.front (k := 1) (by omega)
  have e2 : (l.drop k).take 1 = [l[k]] := by rw [List.drop_eq_getElem_cons hk]; rfl
  rw [e2] at h2
  have e3 : (some (⟨b, off, none⟩ : Addr)).map (·.add (k * R.sz)) = some ⟨b, off + k * R.sz, none⟩ := by
    simp [Addr.add_lit]
  rw [e3] at h2
  exact h2
theorem slc_mid {α : Type} {R : Rep α} {So Si : Nat → Prop} {w : World} {b off n c f t : Nat} {l : List α} (h : Slc R So Si w (.slice (some ⟨b, off, none⟩) n c) l) (hn : l.length = n) (hf : f < t) (ht : t ≤ l.length) (hc : n ≤ c) (o : Nat) (ho : o = off + f * R.sz) (m j : Nat) (hm : m = c - f) (hj : j = t - f) : Slc R So Si w (.slice (some ⟨b, o, none⟩) j m) ((l.take t).drop f) := by
  subst hn; subst ho; subst hm; subst hj
  have h1 := h.cut (k := f) (by omega)
  rw [if_neg (by omega)] at h1
  have e1 : (l.drop f).length = l.length - f := List.length_drop
  rw [← e1] at h1
  have h2 := h1.front (k := t - f) (by omega)
  have e2 : (l.drop f).take (t - f) = (l.take t).drop f := by rw [List.drop_take]
  rw [e2] at h2
  have e3 : (some (⟨b, off, none⟩ : Addr)).map (·.add (f * R.sz)) = some ⟨b, off + f * R.sz, none⟩ := by
    simp [Addr.add_lit]
  rw [e3] at h2
  exact h2
theorem below_dr2 {w w' : World} (h : Below w.drew.heap.size w.drew w') : Below w.heap.size w w' := ⟨h.os, h.tape, h.output, h.size, h.block⟩
theorem st_len (n : Nat) (a b : List CellV) : ∀ i, (stD n a b i).1.length ≤ i
  | 0 => Nat.le_refl _
  | i + 1 => by
    have ih := st_len n a b i
    show (stepD n a b i (stD n a b i)).1.length ≤ i + 1
    unfold stepD
    split
    · simp only; omega
    · split
      · rw [List.length_append, List.length_singleton]; omega
      · omega
theorem cAt_at (l : List CellV) {k : Nat} (h : k < l.length) : cAt l k = l[k] := by unfold cAt; rw [List.getD_eq_getElem?_getD, List.getElem?_eq_getElem h]; rfl

end Go.Proofs.YtphdagmaamcapaaDoor
