/-
  What comes in as data is no longer in our words than its reading weighs: no slice of it is longer than memory bears.
-/
import Derived.Test.YtphdagmaamcapaaDoorCellOpen
import Derived.Test.YtphdagmaamcapaaDoorView0
import Derived.ChangeSame
import Derived.Stop.Joined
namespace Go.Proofs.YtphdagmaamcapaaDoor
open Go.RowKit Go.ChangeShapes
set_option linter.unusedVariables false

def OpensW {α : Type} (P : Program) (R : Rep α) (t : TypeId) (ok : α → Prop) : Prop :=
  ∀ (H : Type) (enc : TypeId × Value → H) (w : World) (base : Nat) (spare : Nat → Bool) (held : Bool) (fuel : Nat) (cs : List Value) (x : DataW H × List MemPlace),
    DataW.trod enc P w base spare held fuel t cs = some x → (∀ n ∈ x.1.weights P t, n ≤ reachBytes) → ∃ y, R.E (fun b => b < w.heap.size) w cs y ∧ ok y
section
variable {P : Program} {α β : Type}
theorem Opens.any {R : Rep α} {t : TypeId} (h : Opens P R t) : OpensW P R t (fun _ => True) := by
  intro H enc w base spare held fuel cs x hx _
  obtain ⟨y, hy⟩ := h H enc w base spare held fuel cs x hx
  exact ⟨y, hy, trivial⟩
theorem OpensW.weak {R : Rep α} {t : TypeId} {ok ok' : α → Prop} (h : OpensW P R t ok) (hw : ∀ y, ok y → ok' y) : OpensW P R t ok' := by
  intro H enc w base spare held fuel cs x hx hn
  obtain ⟨y, hy, hk⟩ := h H enc w base spare held fuel cs x hx hn
  exact ⟨y, hy, hw y hk⟩
theorem els_ofW {R : Rep α} {S : Nat → Prop} {w : World} {ok : α → Prop} : ∀ (n : Nat) (f : Nat → List Value), (∀ i, i < n → ∃ y, R.E S w (f i) y ∧ ok y) →
    ∃ l : List α, l.length = n ∧ Els R S w l ((List.range n).flatMap f) ∧ ∀ y ∈ l, ok y
  | 0, _, _ => ⟨[], rfl, rfl, by simp⟩
  | n + 1, f, h => by
    obtain ⟨y, hy, hs⟩ := h 0 (by omega)
    obtain ⟨l, hl, he, hb⟩ := els_ofW n (fun i => f (i + 1)) (fun i hi => h (i + 1) (by omega))
    refine ⟨y :: l, by simp [hl], ⟨f 0, _, ?_, hy, he⟩, ?_⟩
    · rw [List.range_succ_eq_map, List.flatMap_cons, List.flatMap_map]
    · intro z hz
      rcases List.mem_cons.1 hz with rfl | hz
      · exact hs
      · exact hb z hz
theorem weights_map {H : Type} (D : Nat → DataW H) (e : TypeId) : ∀ (l : List Nat) (i : Nat), i ∈ l → ∀ n ∈ (D i).weights P e, n ∈ DataW.weightsAll P e (l.map D)
  | [], i, hi, _, _ => by cases hi
  | j :: l, i, hi, n, hn => by
    simp only [List.map_cons, DataW.weightsAll, List.mem_append]
    rcases List.mem_cons.1 hi with rfl | hi
    · exact .inl hn
    · exact .inr (weights_map D e l i hi n hn)
theorem opensW_slice {R : Rep α} {t e : TypeId} {ok : α → Prop} (ht : P.underlying t = some (.slice e)) (hc : P.cellsOf e = R.sz) (hby : 1 ≤ P.bytesOf e) (h : OpensW P R e ok) :
    OpensW P (Rep.slice R) t (fun l => l.length * P.bytesOf e ≤ reachBytes ∧ ∀ y ∈ l, ok y) := by
  intro H enc w base spare held fuel cs x hx hwt
  rcases Deep.open_slice ht hx with ⟨rfl, rfl⟩ | ⟨a, len, cap, m, n, D, Pl, rfl, hb, hl, hm, hmm, hxe, hi⟩
  · exact ⟨[], ⟨_, rfl, Slc.nil_⟩, by simp, by simp⟩
  · subst hxe
    have hlm : len ≤ m := by rw [hmm]; split <;> omega
    simp only [DataW.weights, ht] at hwt
    have hex : ∀ i, ∃ cs', i < m → w.cells? base (a.add (i * P.cellsOf e)) (P.cellsOf e) = some cs' ∧ DataW.trod enc P w base spare held n e cs' = some (D i, Pl i) := by
      intro i
      by_cases him : i < m
      · obtain ⟨c, hc⟩ := hi i him; exact ⟨c, fun _ => hc⟩
      · exact ⟨[], fun h => absurd h him⟩
    obtain ⟨f, hf⟩ := Classical.axiomOfChoice hex
    have hE : ∀ i, i < len → ∃ y, R.E (fun b => b < w.heap.size) w (f i) y ∧ ok y := fun i hil => h H enc w base spare held n (f i) _ (hf i (by omega)).2 (fun q hq => hwt q (by
      simp only [List.mem_cons, List.mem_append]
      exact .inr (.inl (weights_map D e _ i (List.mem_range.2 hil) q hq))))
    have hcell : ∀ i, i < len → (f i).length = R.sz ∧ ∀ k, k < R.sz → w.cell? (a.add (i * R.sz + k)) = (f i)[k]? := by
      intro i hil
      obtain ⟨_, h1, h2⟩ := World.cells?_some (hf i (by omega)).1
      rw [hc] at h1 h2
      exact ⟨h1, fun k hk => by rw [← h2 k hk, add_add]⟩
    let g : Nat → List Value := fun i => if i < len then f i else List.replicate R.sz default
    have hg : ∀ i, i < len → g i = f i := fun i hil => if_pos hil
    obtain ⟨l, hl', he, hok⟩ := els_ofW (R := R) (S := fun b => b < w.heap.size) (w := w) (ok := ok) len g (fun i hil => by rw [hg i hil]; exact hE i hil)
    have hcells : ∀ (j : Nat) (u : Value), ((List.range len).flatMap g)[j]? = some u → w.cell? (a.add j) = some u := by
      intro j u hu
      obtain ⟨i, k, hil, hk, rfl, hfu⟩ := flat_get (f := g) (sz := R.sz) (fun i => by
        by_cases hil : i < len
        · rw [hg i hil]; exact (hcell i hil).1
        · simp [g, hil]) len j u hu
      rw [hg i hil] at hfu
      rw [(hcell i hil).2 k hk]; exact hfu
    refine ⟨l, ⟨_, rfl, some a, cap, by rw [hl'], by omega, hm, _, he, fun h0 => ⟨a, rfl, ?_, hcells⟩⟩, ?_, hok⟩
    · have h1 : 0 < len * R.sz := by rw [← hl']; exact h0
      have h2 : 0 < len := Nat.pos_of_mul_pos_right h1
      have h3 : 0 < R.sz := Nat.pos_of_mul_pos_left h1
      have hc0 := (hcell 0 h2).2 0 h3
      rw [List.getElem?_eq_getElem (by rw [(hcell 0 h2).1]; exact h3)] at hc0
      have := World.block_lt_of_cell? w _ hc0
      rwa [block_add] at this
    · have h1 := hwt _ (List.mem_cons.2 (.inl rfl))
      rw [List.length_map, List.length_range] at h1
      rw [hl']
      exact Nat.le_trans (Nat.mul_le_mul_right _ (by omega)) h1

/-- The fields of a struct from number i on, whose cells begin at 'off'. -/
def OpensTailW (P : Program) (fs : Array Field) (total i off : Nat) (R : Rep α) (ok : α → Prop) : Prop :=
  ∀ (H : Type) (enc : TypeId × Value → H) (w : World) (base : Nat) (spare : Nat → Bool) (held : Bool) (n : Nat) (cs : List Value) (xs : List (DataW H × List MemPlace)),
    cs.length = total → xs.length = fs.size → (∀ (j : Nat) (f : Field), fs[j]? = some f → DataW.trod enc P w base spare held n f.type ((cs.drop f.offset).take (P.cellsOf f.type)) = xs[j]?) →
    (∀ (j : Nat) (f : Field) (x : DataW H × List MemPlace), fs[j]? = some f → xs[j]? = some x → ∀ n ∈ x.1.weights P f.type, n ≤ reachBytes) →
    ∃ y, R.E (fun b => b < w.heap.size) w (cs.drop off) y ∧ ok y
theorem opensW_last {R : Rep α} {ok : α → Prop} {fs : Array Field} {total i off : Nat} (f : Field) (hf : fs[i]? = some f) (ho : f.offset = off) (hc : P.cellsOf f.type = R.sz) (ht : off + R.sz = total) (h : OpensW P R f.type ok) : OpensTailW P fs total i off R ok := by
  intro H enc w base spare held n cs xs hl hx hall hwt
  have h1 := hall i f hf
  have hi : i < xs.length := by rw [hx]; exact (Array.getElem?_eq_some_iff.1 hf).1
  have h2 := hwt i f xs[i] hf (List.getElem?_eq_getElem hi)
  rw [List.getElem?_eq_getElem hi, ho, hc] at h1
  obtain ⟨y, hy, hk⟩ := h H enc w base spare held n _ _ h1 h2
  rw [List.take_of_length_le (by rw [List.length_drop]; omega)] at hy
  exact ⟨y, hy, hk⟩
theorem opensW_cons {R : Rep α} {R' : Rep β} {ok : α → Prop} {ok' : β → Prop} {fs : Array Field} {total i off : Nat} (f : Field) (hf : fs[i]? = some f) (ho : f.offset = off) (hc : P.cellsOf f.type = R.sz) (h : OpensW P R f.type ok) (h' : OpensTailW P fs total (i + 1) (off + R.sz) R' ok') : OpensTailW P fs total i off (Rep.pair R R') (fun y => ok y.1 ∧ ok' y.2) := by
  intro H enc w base spare held n cs xs hl hx hall hwt
  have h1 := hall i f hf
  have hi : i < xs.length := by rw [hx]; exact (Array.getElem?_eq_some_iff.1 hf).1
  have h2 := hwt i f xs[i] hf (List.getElem?_eq_getElem hi)
  rw [List.getElem?_eq_getElem hi, ho, hc] at h1
  obtain ⟨y, hy, hk⟩ := h H enc w base spare held n _ _ h1 h2
  obtain ⟨z, hz, hk'⟩ := h' H enc w base spare held n cs xs hl hx hall hwt
  refine ⟨(y, z), ⟨_, _, ?_, hy, hz⟩, hk, hk'⟩
  rw [← List.drop_drop, List.take_append_drop]
theorem weights_each {H : Type} : ∀ (ts : List TypeId) (ds : List (DataW H)) (j : Nat) (t : TypeId) (d : DataW H), ts[j]? = some t → ds[j]? = some d → ∀ n ∈ d.weights P t, n ∈ DataW.weightsEach P ts ds
  | [], _, j, _, _, h, _, _, _ => by simp at h
  | _ :: _, [], j, _, _, _, h, _, _ => by simp at h
  | t0 :: ts, d0 :: ds, 0, t, d, h, h', n, hn => by
    simp at h h'
    subst h; subst h'
    simp only [DataW.weightsEach, List.mem_append]
    exact .inl hn
  | t0 :: ts, d0 :: ds, j + 1, t, d, h, h', n, hn => by
    simp only [DataW.weightsEach, List.mem_append]
    exact .inr (weights_each ts ds j t d (by simpa using h) (by simpa using h') n hn)
theorem opensW_struct {R : Rep α} {ok : α → Prop} {t : TypeId} {fs : Array Field} (hs : P.underlying t = some (.struct fs)) (h : OpensTailW P fs (P.cellsOf t) 0 0 R ok) : OpensW P R t ok := by
  intro H enc w base spare held fuel cs x hx hwt
  obtain ⟨xs, n, hx1, hx2, hlen, hyl, hall⟩ := DataW.trod_struct hs hx
  subst hx2
  obtain ⟨y, hy, hk⟩ := h H enc w base spare held n cs xs hlen hyl hall (fun j f x hf hxj q hq => hwt q (by
    simp only [DataW.weights, hs]
    refine weights_each _ _ j f.type x.1 ?_ ?_ q hq
    · rw [List.getElem?_map, Array.getElem?_toList, hf]; rfl
    · rw [List.getElem?_map, hxj]; rfl))
  exact ⟨y, by simpa using hy, hk⟩
theorem opensW_map {R : Rep α} {ok : α → Prop} {t : TypeId} (h : OpensW P R t ok) (g : β → α) (hg : ∀ x, ∃ y, g y = x) : OpensW P (R.map g) t (fun y => ok (g y)) := by
  intro H enc w base spare held fuel cs x hx hn
  obtain ⟨y, hy, hk⟩ := h H enc w base spare held fuel cs x hx hn
  obtain ⟨z, rfl⟩ := hg y
  exact ⟨z, hy, hk⟩
end
/-- The lines of a view are no longer than memory bears. -/
def LinesOk (ls : List LineV) : Prop := ls.length ≤ 140737488355328 ∧ ∀ l ∈ ls, l.1.length ≤ 140737488355328
theorem opensW_cells : OpensW Tryd.prog (Rep.slice RCell) 43 (fun l => l.length ≤ 140737488355328) :=
  (opensW_slice (R := RCell) Tryd.underlying43 (by kernel_rfl) (of_decide_eq_true (by kernel_rfl)) opens_cell.any).weak (fun l h => by
    have h1 := h.1
    rw [show Tryd.prog.bytesOf 62 = 32 by kernel_rfl] at h1
    simp only [reachBytes] at h1
    omega)
theorem opensW_line : OpensW Tryd.prog RLine 45 (fun l => l.1.length ≤ 140737488355328) :=
  (opensW_struct Tryd.underlying45 (opensW_cons _ rfl rfl (by kernel_rfl) opensW_cells (opensW_last _ rfl rfl (by kernel_rfl) (by kernel_rfl) (opens_bool Tryd.underlying4).any))).weak (fun _ h => h.1)
theorem opensW_lines : OpensW Tryd.prog (Rep.slice RLine) 22 LinesOk :=
  (opensW_slice (R := RLine) Tryd.underlying22 (by kernel_rfl) (of_decide_eq_true (by kernel_rfl)) opensW_line).weak (fun l h => by
    have h1 := h.1
    rw [show Tryd.prog.bytesOf 45 = 32 by kernel_rfl] at h1
    simp only [reachBytes] at h1
    exact ⟨by omega, h.2⟩)
theorem opensW_cursor : OpensW Tryd.prog (Rep.pair (Rep.int .i64) (Rep.pair (Rep.int .i64) Rep.bool)) 24 (fun _ => True) :=
  (opens_struct Tryd.underlying24 (opens_cons _ rfl rfl (by kernel_rfl) (opens_int Tryd.underlying3) (opens_cons _ rfl rfl (by kernel_rfl) (opens_int Tryd.underlying3) (opens_last _ rfl rfl (by kernel_rfl) (by kernel_rfl) (opens_bool Tryd.underlying4))))).any
theorem opensW_view : OpensW Tryd.prog RView 26 (fun v => LinesOk v.lines) :=
  (opensW_map (opensW_struct Tryd.underlying26 (opensW_cons _ rfl rfl (by kernel_rfl) (opens_int Tryd.underlying3).any (opensW_cons _ rfl rfl (by kernel_rfl) (opens_int Tryd.underlying3).any (opensW_cons _ rfl rfl (by kernel_rfl) opensW_lines (opensW_cons _ rfl rfl (by kernel_rfl) opensW_cursor (opensW_last _ rfl rfl (by kernel_rfl) (by kernel_rfl) (opens_bool Tryd.underlying4).any))))))
    (fun v : ViewV => (v.wide, v.high, v.lines, (v.row, v.col, v.pend), v.auto)) (fun x => ⟨⟨x.1, x.2.1, x.2.2.1, x.2.2.2.1.1, x.2.2.2.1.2.1, x.2.2.2.1.2.2, x.2.2.2.2⟩, rfl⟩)).weak (fun _ h => h.2.2.1)
theorem arg_structW {α : Type} {P : Program} {R : Rep α} {ok : α → Prop} {fs : Array Field} {H : Type} {enc : TypeId × Value → H} {W : World} {base : Nat} {spare : Nat → Bool} {held : Bool} {r : Reach} {b0 : Nat} {t : TypeId} {v : Value} {d : DataW H} {p : List MemPlace}
    (ht : P.underlying t = some (.struct fs)) (hR : OpensW P R t ok) (hv : Value.okWide P W r b0 t v) (h : DataW.Trod enc P W base spare held t v d p) (hw : ∀ n ∈ d.weights P t, n ≤ reachBytes) :
    ∃ cs y, v = .agg cs ∧ R.E (fun b => b < W.heap.size) W cs.toList y ∧ ok y := by
  obtain ⟨cs, rfl, _⟩ := Go.WideShapes.okWide_struct ht hv
  obtain ⟨fuel, hf⟩ := h
  obtain ⟨y, hy, hk⟩ := hR H enc W base spare held fuel _ _ hf hw
  exact ⟨cs, y, rfl, hy, hk⟩
end Go.Proofs.YtphdagmaamcapaaDoor
