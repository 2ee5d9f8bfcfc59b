/-
  What comes in as data is no larger in our words than its reading holds values.
-/
import Derived.Test.YthjddpflcgcpiaaRows
import Derived.Test.YthjddpflcgcpiaaCellOpen
import Derived.ChangeSame
namespace Go.Proofs.Ythjddpflcgcpiaa
open Go.RowKit Go.ChangeShapes
set_option linter.unusedVariables false

theorem bulk_pos {H : Type} (d : DataW H) : 1 ≤ Rows.uptoBulk d := by
  cases d with
  | lit l => cases l <;> simp [Rows.uptoBulk]
  | _ => simp [Rows.uptoBulk]
theorem bulk_map {H : Type} (D : Nat → DataW H) : ∀ l : List Nat, Rows.uptoBulkAll (l.map D) = (l.map fun i => Rows.uptoBulk (D i)).sum
  | [] => rfl
  | i :: l => by simp only [List.map_cons, Rows.uptoBulkAll, List.sum_cons, bulk_map D l]
theorem bulk_small {H : Type} {l : List (DataW H)} (h : Rows.uptoSmall H l = true) : Rows.uptoBulkAll l ≤ 1048576 := by simpa [Rows.uptoSmall] using h

def OpensB {α : Type} (P : Program) (R : Rep α) (t : TypeId) (size : α → Nat) : Prop :=
  ∀ (H : Type) (enc : TypeId × Value → H) (w : World) (base : Nat) (spare : Nat → Bool) (held : Bool) (fuel : Nat) (cs : List Value) (x : DataW H × List MemPlace),
    DataW.trod enc P w base spare held fuel t cs = some x → ∃ y, R.E (fun b => b < w.heap.size) w cs y ∧ size y ≤ Rows.uptoBulk x.1
theorem Opens.one {α : Type} {P : Program} {R : Rep α} {t : TypeId} (h : Opens P R t) : OpensB P R t (fun _ => 1) := by
  intro H enc w base spare held fuel cs x hx
  obtain ⟨y, hy⟩ := h H enc w base spare held fuel cs x hx
  exact ⟨y, hy, bulk_pos _⟩
theorem els_ofB {α : Type} {R : Rep α} {S : Nat → Prop} {w : World} {size : α → Nat} : ∀ (n : Nat) (f : Nat → List Value) (b : Nat → Nat), (∀ i, i < n → ∃ y, R.E S w (f i) y ∧ size y ≤ b i) →
    ∃ l : List α, l.length = n ∧ Els R S w l ((List.range n).flatMap f) ∧ (l.map size).sum ≤ ((List.range n).map b).sum
  | 0, _, _, _ => ⟨[], rfl, rfl, Nat.le_refl _⟩
  | n + 1, f, b, h => by
    obtain ⟨y, hy, hs⟩ := h 0 (by omega)
    obtain ⟨l, hl, he, hb⟩ := els_ofB n (fun i => f (i + 1)) (fun i => b (i + 1)) (fun i hi => h (i + 1) (by omega))
    refine ⟨y :: l, by simp [hl], ⟨f 0, _, ?_, hy, he⟩, ?_⟩
    · rw [List.range_succ_eq_map, List.flatMap_cons, List.flatMap_map]
    · rw [List.range_succ_eq_map, List.map_cons, List.sum_cons, List.map_cons, List.sum_cons, List.map_map]
      exact Nat.add_le_add hs hb
theorem opensB_slice {α : Type} {P : Program} {R : Rep α} {t e : TypeId} {size : α → Nat} (ht : P.underlying t = some (.slice e)) (hc : P.cellsOf e = R.sz) (h : OpensB P R e size) : OpensB P (Rep.slice R) t (fun l => (l.map size).sum) := by
  intro H enc w base spare held fuel cs x hx
  rcases Deep.open_slice ht hx with ⟨rfl, rfl⟩ | ⟨a, len, cap, m, n, D, Pl, rfl, hb, hl, hm, hmm, rfl, hi⟩
  · exact ⟨[], ⟨_, rfl, Slc.nil_⟩, by simp⟩
  · have hlm : len ≤ m := by rw [hmm]; split <;> omega
    have hex : ∀ i, ∃ cs', i < m → w.cells? base (a.add (i * P.cellsOf e)) (P.cellsOf e) = some cs' ∧ DataW.trod enc P w base spare held n e cs' = some (D i, Pl i) := by
      intro i
      by_cases him : i < m
      · obtain ⟨c, hc⟩ := hi i him; exact ⟨c, fun _ => hc⟩
      · exact ⟨[], fun h => absurd h him⟩
    obtain ⟨f, hf⟩ := Classical.axiomOfChoice hex
    have hE : ∀ i, i < len → ∃ y, R.E (fun b => b < w.heap.size) w (f i) y ∧ size y ≤ Rows.uptoBulk (D i) := fun i hil => h H enc w base spare held n (f i) _ (hf i (by omega)).2
    have hcell : ∀ i, i < len → (f i).length = R.sz ∧ ∀ k, k < R.sz → w.cell? (a.add (i * R.sz + k)) = (f i)[k]? := by
      intro i hil
      obtain ⟨_, h1, h2⟩ := World.cells?_some (hf i (by omega)).1
      rw [hc] at h1 h2
      exact ⟨h1, fun k hk => by rw [← h2 k hk, add_add]⟩
    let g : Nat → List Value := fun i => if i < len then f i else List.replicate R.sz default
    have hg : ∀ i, i < len → g i = f i := fun i hil => if_pos hil
    obtain ⟨l, hl', he, hsum⟩ := els_ofB (R := R) (S := fun b => b < w.heap.size) (w := w) (size := size) len g (fun i => Rows.uptoBulk (D i)) (fun i hil => by rw [hg i hil]; exact hE i hil)
    have hcells : ∀ (j : Nat) (u : Value), ((List.range len).flatMap g)[j]? = some u → w.cell? (a.add j) = some u := by
      intro j u hu
      obtain ⟨i, k, hil, hk, rfl, hfu⟩ := flat_get (f := g) (sz := R.sz) (fun i => by
        by_cases hil : i < len
        · rw [hg i hil]; exact (hcell i hil).1
        · simp [g, hil]) len j u hu
      rw [hg i hil] at hfu
      rw [(hcell i hil).2 k hk]; exact hfu
    refine ⟨l, ⟨_, rfl, some a, cap, by rw [hl'], by omega, hm, _, he, fun h0 => ⟨a, rfl, ?_, hcells⟩⟩, ?_⟩
    · have h1 : 0 < len * R.sz := by rw [← hl']; exact h0
      have h2 : 0 < len := Nat.pos_of_mul_pos_right h1
      have h3 : 0 < R.sz := Nat.pos_of_mul_pos_left h1
      have hc0 := (hcell 0 h2).2 0 h3
      rw [List.getElem?_eq_getElem (by rw [(hcell 0 h2).1]; exact h3)] at hc0
      have := World.block_lt_of_cell? w _ hc0
      rwa [block_add] at this
    · show (l.map size).sum ≤ Rows.uptoBulk (.slice ((List.range len).map D) _)
      simp only [Rows.uptoBulk]
      rw [bulk_map]
      omega
theorem opensB_runes : OpensB Try.prog (Rep.slice (Rep.int .i32)) 22 List.length := by
  have h := opensB_slice (R := Rep.int .i32) Try.underlying22 (by kernel_rfl) (opens_int Try.underlying21).one
  intro H enc w base spare held fuel cs x hx
  obtain ⟨y, hy, hs⟩ := h H enc w base spare held fuel cs x hx
  refine ⟨y, hy, ?_⟩
  have e : (y.map (fun _ => 1)).sum = y.length := by rw [List.map_const', List.sum_replicate_nat, Nat.mul_one]
  rw [← e]; exact hs
theorem opensB_cell : OpensB Try.prog RCell 38 (fun c => c.2.length) := by
  intro H enc w base spare held fuel cs x hx
  obtain ⟨y0, y1, n, rfl, hl, h0, h1⟩ := trod_struct2 Try.underlying38 hx
  rw [show Try.prog.cellsOf 38 = 2 by kernel_rfl] at hl
  match cs, hl with
  | [a, b], _ =>
    rw [show Try.prog.cellsOf 3 = 1 by kernel_rfl] at h0
    rw [show Try.prog.cellsOf 22 = 1 by kernel_rfl] at h1
    obtain ⟨k, hk⟩ := opens_int Try.underlying3 H enc w base spare held n _ _ h0
    obtain ⟨t, ht, hs⟩ := opensB_runes H enc w base spare held n _ _ h1
    refine ⟨(k, t), ⟨_, _, rfl, hk, ht⟩, ?_⟩
    simp only [Rows.uptoBulk, Rows.uptoBulkAll]
    omega
theorem flat_len (l : List CellV) : (l.flatMap Prod.snd).length = (l.map fun c => c.2.length).sum := by
  induction l with
  | nil => rfl
  | cons c l ih => simp only [List.flatMap_cons, List.length_append, List.map_cons, List.sum_cons, ih]
theorem opensB_cells : OpensB Try.prog (Rep.slice RCell) 25 (fun l => (l.flatMap Prod.snd).length) := by
  have h := opensB_slice (R := RCell) Try.underlying25 (by kernel_rfl) opensB_cell
  intro H enc w base spare held fuel cs x hx
  obtain ⟨y, hy, hs⟩ := h H enc w base spare held fuel cs x hx
  refine ⟨y, hy, ?_⟩
  show (y.flatMap Prod.snd).length ≤ _
  rw [flat_len]; exact hs
theorem arg_sliceB {α : Type} {P : Program} {R : Rep α} {t e : TypeId} {size : List α → Nat} {H : Type} {enc : TypeId × Value → H} {W : World} {base : Nat} {spare : Nat → Bool} {held : Bool} {r : Reach} {b0 : Nat} {v : Value} {d : DataW H} {p : List MemPlace}
    (ht : P.underlying t = some (.slice e)) (hR : OpensB P (Rep.slice R) t size) (hv : Value.okWide P W r b0 t v) (h : DataW.Trod enc P W base spare held t v d p) :
    ∃ l, Slc R (fun b => b < W.heap.size) (fun b => b < W.heap.size) W v l ∧ size l ≤ Rows.uptoBulk d := by
  obtain ⟨a, len, cap, rfl⟩ := Go.WideShapes.okWide_slice ht hv
  obtain ⟨fuel, hf⟩ := h
  obtain ⟨l, ⟨v', he, hl⟩, hs⟩ := hR H enc W base spare held fuel _ _ hf
  simp [Value.cells] at he
  subst he
  exact ⟨l, hl, hs⟩
end Go.Proofs.Ythjddpflcgcpiaa
