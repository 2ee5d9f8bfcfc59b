import Derived.Test.YtdjpdllehhecpaaGreatDoorQ03
import Derived.ProofKit
import Derived.OpenShut
import Derived.ShutString
import Derived.ChangeOld
import Derived.Deep.Slices
open List renaming getElem?_toArray → zA, getElem?_cons_succ → zB, getElem?_cons_zero → zC, setIfInBounds_toArray → zD, set_cons_zero → zE, set_cons_succ → zF
namespace Go.Proofs.YtdjpdllehhecpaaGreatDoor
open Go.ChangeShapes Go.WideShapes Go.ChangeAt Go.RowKit
set_option linter.unusedVariables false
def Opens {α : Type} (P : Program) (R : Rep α) (t : TypeId) : Prop :=
  ∀ (H : Type) (enc : TypeId × Value → H) (w : World) (base : Nat) (spare : Nat → Bool) (held : Bool) (fuel : Nat) (cs : List Value) (x : DataW H × List MemPlace),
    DataW.trod enc P w base spare held fuel t cs = some x → ∃ y, R.E (fun b => b < w.heap.size) w cs y
section
variable {P : Program} {α β : Type}
theorem opens_int {k : IntKind} {t : TypeId} (ht : P.underlying t = some (.int k)) : Opens P (Rep.int k) t := by
  intro H enc w base spare held fuel cs x h
  obtain ⟨n, rfl, _, hw⟩ := DataW.trod_int ht h
  exact ⟨n, rfl, hw⟩
theorem els_of {R : Rep α} {S : Nat → Prop} {w : World} : ∀ (n : Nat) (f : Nat → List Value), (∀ i, i < n → ∃ y, R.E S w (f i) y) → ∃ l : List α, l.length = n ∧ Els R S w l ((List.range n).flatMap f)
  | 0, _, _ => ⟨[], rfl, rfl⟩
  | n + 1, f, h => by
    obtain ⟨y, hy⟩ := h 0 (by omega)
    obtain ⟨l, hl, he⟩ := els_of n (fun i => f (i + 1)) (fun i hi => h (i + 1) (by omega))
    refine ⟨y :: l, by simp [hl], f 0, _, ?_, hy, he⟩
    rw [List.range_succ_eq_map, List.flatMap_cons, List.flatMap_map]
theorem flat_get {f : Nat → List Value} {sz : Nat} (hf : ∀ i, (f i).length = sz) : ∀ (n j : Nat) (u : Value), ((List.range n).flatMap f)[j]? = some u → ∃ i k, i < n ∧ k < sz ∧ j = i * sz + k ∧ (f i)[k]? = some u := by
  intro n
  induction n generalizing f with
  | zero => intro j u h; simp at h
  | succ n ih =>
    intro j u h
    rw [List.range_succ_eq_map, List.flatMap_cons, List.flatMap_map] at h
    rcases Nat.lt_or_ge j (f 0).length with hj | hj
    · rw [List.getElem?_append_left hj] at h
      exact ⟨0, j, by omega, by rw [← hf 0]; exact hj, by omega, h⟩
    · rw [List.getElem?_append_right hj] at h
      obtain ⟨i, k, hi, hk, e, hu⟩ := ih (f := fun i => f (i + 1)) (fun i => hf (i + 1)) _ _ h
      refine ⟨i + 1, k, by omega, hk, ?_, hu⟩
      rw [hf 0] at e hj
      rw [Nat.add_mul]; omega
theorem opens_slice {R : Rep α} {t e : TypeId} (ht : P.underlying t = some (.slice e)) (hc : P.cellsOf e = R.sz) (h : Opens P R e) : Opens P (Rep.slice R) t := by
  intro H enc w base spare held fuel cs x hx
  rcases Deep.open_slice ht hx with ⟨rfl, _⟩ | ⟨a, len, cap, m, n, D, Pl, rfl, hb, hl, hm, hmm, _, hi⟩
  · exact ⟨[], _, rfl, Slc.nil_⟩
  · have hlm : len ≤ m := by rw [hmm]; split <;> omega
    have hex : ∀ i, ∃ cs', i < m → w.cells? base (a.add (i * P.cellsOf e)) (P.cellsOf e) = some cs' ∧ DataW.trod enc P w base spare held n e cs' = some (D i, Pl i) := by
      intro i
      by_cases him : i < m
      · obtain ⟨c, hc⟩ := hi i him; exact ⟨c, fun _ => hc⟩
      · exact ⟨[], fun h => absurd h him⟩
    obtain ⟨f, hf⟩ := Classical.axiomOfChoice hex
    have hE : ∀ i, i < len → ∃ y, R.E (fun b => b < w.heap.size) w (f i) y := fun i hil => h H enc w base spare held n (f i) _ (hf i (by omega)).2
    have hcell : ∀ i, i < len → (f i).length = R.sz ∧ ∀ k, k < R.sz → w.cell? (a.add (i * R.sz + k)) = (f i)[k]? := by
      intro i hil
      obtain ⟨_, h1, h2⟩ := World.cells?_some (hf i (by omega)).1
      rw [hc] at h1 h2
      exact ⟨h1, fun k hk => by rw [← h2 k hk, add_add]⟩
    let g : Nat → List Value := fun i => if i < len then f i else List.replicate R.sz default
    have hg : ∀ i, i < len → g i = f i := fun i hil => if_pos hil
    obtain ⟨l, hl', he⟩ := els_of (R := R) (S := fun b => b < w.heap.size) (w := w) len g (fun i hil => by rw [hg i hil]; exact hE i hil)
    have hcells : ∀ (j : Nat) (u : Value), ((List.range len).flatMap g)[j]? = some u → w.cell? (a.add j) = some u := by
      intro j u hu
      obtain ⟨i, k, hil, hk, rfl, hfu⟩ := flat_get (f := g) (sz := R.sz) (fun i => by
        by_cases hil : i < len
        · rw [hg i hil]; exact (hcell i hil).1
        · simp [g, hil]) len j u hu
      rw [hg i hil] at hfu
      rw [(hcell i hil).2 k hk]; exact hfu
    refine ⟨l, _, rfl, some a, cap, by rw [hl'], by omega, hm, _, he, fun h0 => ⟨a, rfl, ?_, hcells⟩⟩
    have h1 : 0 < len * R.sz := by rw [← hl']; exact h0
    have h2 : 0 < len := Nat.pos_of_mul_pos_right h1
    have h3 : 0 < R.sz := Nat.pos_of_mul_pos_left h1
    have hc0 := (hcell 0 h2).2 0 h3
    rw [List.getElem?_eq_getElem (by rw [(hcell 0 h2).1]; exact h3)] at hc0
    have := World.block_lt_of_cell? w _ hc0
    rwa [block_add] at this
section
variable {H : Type} {enc : TypeId × Value → H} {W : World} {base : Nat} {spare : Nat → Bool} {held : Bool} {r : Reach} {b0 : Nat} {t : TypeId} {v : Value} {d : DataW H} {p : List MemPlace}
theorem arg_slice {R : Rep α} {e : TypeId} (ht : P.underlying t = some (.slice e)) (hR : Opens P (Rep.slice R) t) (hv : Value.okWide P W r b0 t v) (h : DataW.Trod enc P W base spare held t v d p) :
    ∃ l, Slc R (fun b => b < W.heap.size) (fun b => b < W.heap.size) W v l := by
  obtain ⟨a, len, cap, rfl⟩ := okWide_slice ht hv
  obtain ⟨fuel, hf⟩ := h
  obtain ⟨l, v', he, hl⟩ := hR H enc W base spare held fuel _ _ hf
  simp [Value.cells] at he
  subst he
  exact ⟨l, hl⟩
theorem arg_int {k : IntKind} (ht : P.underlying t = some (.int k)) (hv : Value.okWide P W r b0 t v) (h : DataW.Trod enc P W base spare held t v d p) : ∃ n, v = .int k n ∧ (Lit.int k n).wf = true := by
  obtain ⟨n, rfl, _, _, hw⟩ := open_int ht hv h
  exact ⟨n, rfl, hw⟩
end
end
end Go.Proofs.YtdjpdllehhecpaaGreatDoor
