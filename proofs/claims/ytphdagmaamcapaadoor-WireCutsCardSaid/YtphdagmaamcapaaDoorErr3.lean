/-
  What the laid variables give: the eight sentinels, each where its variable points.
-/
import Derived.Test.YtphdagmaamcapaaDoorErr2
import Derived.LaidLaws
import Derived.Stop.LaidErr
namespace Go.Proofs.YtphdagmaamcapaaDoor
open Go.RowKit
set_option linter.unusedVariables false
set_option linter.unusedSimpArgs false

theorem Tryd.star : "*" ++ "errors.errorString" = "*errors.errorString" := by decide
theorem Tryd.rowES (u : TypeId) (h : Tryd.prog.typeName? 3 u = some "*errors.errorString") : u = 123 :=
  typeName_ptr_named (nm := "errors.errorString") (by rw [Tryd.star]; kernel_rfl) (by kernel_rfl) (by decide) u (by rw [Tryd.star]; exact h)
theorem Tryd.cellsES : Tryd.prog.cellsOf 148 = 1 := by kernel_rfl
theorem Tryd.cellsS : Tryd.prog.cellsOf 9 = 1 := by kernel_rfl

abbrev sentD (text : List UInt8) : DataW Unit := .iface "*errors.errorString" (.ptr (.agg [.lit (.string text)]))
theorem laid_one {P : Program} {W : World} {ti tp te ts : TypeId} {ms : Array (String × TypeId)} {f : Field}
    (hi : P.underlying ti = some (.interface ms)) (hrow : ∀ u, P.typeName? 3 u = some "*errors.errorString" → u = tp)
    (hp : P.underlying tp = some (.pointer te)) (he : P.underlying te = some (.struct #[f])) (hft : f.type = ts) (hfo : f.offset = 0) (hs : P.underlying ts = some .string) (hc : P.cellsOf te = 1) (hcs : P.cellsOf ts = 1) :
    ∀ (laid : List (String × DataW Unit)) (ps : List MemPlace), DataW.LaidVars P W laid ps →
    (∀ b off, MemPlace.cell b off ∈ ps → (∃ c t, W.heap[b]? = some (.cells c t (0, 0))) ∧ ∀ u v, W.cell? ⟨b, off, none⟩ = some (.iface u v) → Value.okWide P W .any 0 u v) →
    ∀ (n : String) (text : List UInt8) (g : Nat), (n, sentD text) ∈ laid → P.globalNamed n = some g → (P.globals[g]?).map (·.type) = some ti →
    ∃ a s c t, W.cell? ⟨g, 0, none⟩ = some (.iface tp (.pointer (some a))) ∧ W.cell? a = some (.string s) ∧ s.data.toList = text ∧ W.heap[a.block]? = some (.cells c t (0, 0))
  | [], _, _, _, _, _, _, hm, _, _ => by cases hm
  | (m, d) :: r, ps, h, hr, n, text, g, hm, hg, ht => by
    obtain ⟨g0, t0, cs0, f0, p0, q0, hg0, ht0, hv0, hd0, hrest, rfl⟩ := h
    rcases List.mem_cons.1 hm with e | hm
    · obtain ⟨e1, e2⟩ := Prod.mk.inj e
      subst e1
      subst e2
      obtain rfl := Option.some.inj (hg.symm.trans hg0)
      obtain rfl := Option.some.inj (ht.symm.trans ht0)
      obtain ⟨l0⟩ := cs0
      have ok0 : ∀ u v, l0 = [.iface u v] → Value.okWide P W .any 0 u v := fun u v e => by
        subst e
        exact (hr g 0 (by simp [MemPlace.row])).2 u v (by simpa using World.var?_cell hg hv0 0)
      obtain ⟨a0, s0, rfl, hc0, hs0, hz0, rfl⟩ := errorString_of_trod hi hrow hp he hft hfo hs hc hcs hd0 ok0
      obtain ⟨c0, t0, hb0⟩ := (hr a0.block a0.off (by simp [MemPlace.row])).1
      exact ⟨a0, s0, c0, t0, by simpa using World.var?_cell hg hv0 0, hc0, hs0, hb0⟩
    · exact laid_one hi hrow hp he hft hfo hs hc hcs r q0 hrest (fun b off hb => hr b off (by simp [hb])) n text g hm hg ht

def nameOf : Nat → String
  | 0 => "linotype/api.ErrScalar"
  | 1 => "linotype/api.ErrForm"
  | 2 => "linotype/api.ErrRange"
  | 3 => "linotype/api.ErrLong"
  | 4 => "linotype/api.ErrKind"
  | 5 => "linotype/api.ErrWord"
  | 6 => "linotype/api.ErrFull"
  | _ => "linotype/api.ErrNone"
def textOf : Nat → List UInt8
  | 0 => [115, 99, 97, 108, 97, 114]
  | 1 => [102, 111, 114, 109]
  | 2 => [114, 97, 110, 103, 101]
  | 3 => [108, 111, 110, 103]
  | 4 => [107, 105, 110, 100]
  | 5 => [119, 111, 114, 100]
  | 6 => [102, 117, 108, 108]
  | _ => [110, 111, 110, 101]
theorem named_g : ∀ k, k < 8 → Tryd.prog.globalNamed (nameOf k) = some (gOf k) ∧ (Tryd.prog.globals[gOf k]?).map (·.type) = some 31
  | 0, _ => ⟨by kernel_rfl, by kernel_rfl⟩
  | 1, _ => ⟨by kernel_rfl, by kernel_rfl⟩
  | 2, _ => ⟨by kernel_rfl, by kernel_rfl⟩
  | 3, _ => ⟨by kernel_rfl, by kernel_rfl⟩
  | 4, _ => ⟨by kernel_rfl, by kernel_rfl⟩
  | 5, _ => ⟨by kernel_rfl, by kernel_rfl⟩
  | 6, _ => ⟨by kernel_rfl, by kernel_rfl⟩
  | 7, _ => ⟨by kernel_rfl, by kernel_rfl⟩
  | k + 8, h => absurd h (by omega)
theorem text_ne : ∀ i, i < 8 → ∀ j, j < 8 → textOf i = textOf j → i = j := by decide

theorem sents_of_laid (laid : List (String × DataW Unit)) (W : World) (h : laidMet Tryd.prog laid W) (hm : ∀ k, k < 8 → (nameOf k, sentD (textOf k)) ∈ laid) : ∃ b, Sents b W := by
  obtain ⟨ps, hv, _, hr⟩ := h
  have h1 : ∀ k, ∃ a : Addr, k < 8 → ∃ s c t, W.cell? ⟨gOf k, 0, none⟩ = some (.iface 123 (.pointer (some a))) ∧ W.cell? a = some (.string s) ∧ s.data.toList = textOf k ∧ W.heap[a.block]? = some (.cells c t (0, 0)) := by
    intro k
    by_cases hk : k < 8
    · obtain ⟨hg, ht⟩ := named_g k hk
      obtain ⟨a, s, c, t, e⟩ := laid_one Tryd.underlying31 Tryd.rowES Tryd.underlying123 Tryd.underlying148 rfl rfl Tryd.underlying9 Tryd.cellsES Tryd.cellsS laid ps hv hr (nameOf k) (textOf k) (gOf k) (hm k hk) hg ht
      exact ⟨a, fun _ => ⟨s, c, t, e⟩⟩
    · exact ⟨⟨0, 0, none⟩, fun h => absurd h hk⟩
  obtain ⟨b, hb⟩ := Classical.axiomOfChoice h1
  refine ⟨b, fun k hk => ?_, fun k hk => ?_, fun i j hi hj e => ?_⟩
  · obtain ⟨s, c, t, h, _⟩ := hb k hk
    exact h
  · obtain ⟨s, c, t, _, _, _, h⟩ := hb k hk
    exact ⟨c, t, h⟩
  · obtain ⟨s, _, _, _, h2, h3, _⟩ := hb i hi
    obtain ⟨s', _, _, _, h2', h3', _⟩ := hb j hj
    rw [e, h2'] at h2
    injection h2 with h2
    injection h2 with h2
    subst h2
    exact text_ne i hi j hj (h3.symm.trans h3')
end Go.Proofs.YtphdagmaamcapaaDoor
