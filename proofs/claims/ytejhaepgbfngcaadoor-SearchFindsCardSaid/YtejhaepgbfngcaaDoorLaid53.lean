/-
  What the laid variables give the walk of the law on texts that are sought.
-/
import Derived.Test.YtejhaepgbfngcaaDoorSea7
import Derived.Test.YtejhaepgbfngcaaDoorErr3
import Derived.Test.YtejhaepgbfngcaaDoorRows
namespace Go.Proofs.YtejhaepgbfngcaaDoor
open Go.RowKit
set_option linter.unusedVariables false

def RPlace : Rep (Int × Int) := Rep.pair (Rep.int .i64) (Rep.int .i64)
theorem opens_place : Opens Tryd.prog RPlace 42 :=
  opens_struct Tryd.underlying42 (opens_cons _ rfl rfl (by kernel_rfl) (opens_int Tryd.underlying3) (opens_last _ rfl rfl (by kernel_rfl) (by kernel_rfl) (opens_int Tryd.underlying3)))
/-- The variables that a sound view may name. -/
theorem varsA_of_laid (laid : List (String × DataW Unit)) (W : World) (h : laidMet Tryd.prog laid W) (hm : ∀ k, k = 1 ∨ k = 2 ∨ k = 3 ∨ k = 4 ∨ k = 7 → (nameOf k, sentD (textOf k)) ∈ laid) : ∃ b, VarsA b W := by
  obtain ⟨ps, hv, _, hr⟩ := h
  have h1 : ∀ k, ∃ a : Addr, (k = 1 ∨ k = 2 ∨ k = 3 ∨ k = 4 ∨ k = 7) → W.cell? ⟨gOf k, 0, none⟩ = some (.iface 146 (.pointer (some a))) := by
    intro k
    by_cases hk : k = 1 ∨ k = 2 ∨ k = 3 ∨ k = 4 ∨ k = 7
    · obtain ⟨hg, ht⟩ := named_g k (by omega)
      obtain ⟨a, s, c, t, e, _⟩ := laid_one Tryd.underlying26 Tryd.rowES Tryd.underlying146 Tryd.underlying168 rfl rfl Tryd.underlying9 Tryd.cellsES Tryd.cellsS laid ps hv hr (nameOf k) (textOf k) (gOf k) (hm k hk) hg ht
      exact ⟨a, fun _ => e⟩
    · exact ⟨⟨0, 0, none⟩, fun h => absurd h hk⟩
  obtain ⟨b, hb⟩ := Classical.axiomOfChoice h1
  exact ⟨b, fun k hk => hb k hk⟩
theorem laid_five {laid : List (String × DataW Unit)} (h : laid = [(nameOf 1, sentD (textOf 1)), (nameOf 2, sentD (textOf 2)), (nameOf 3, sentD (textOf 3)), (nameOf 4, sentD (textOf 4)), (nameOf 7, sentD (textOf 7))]) : ∀ k, k = 1 ∨ k = 2 ∨ k = 3 ∨ k = 4 ∨ k = 7 → (nameOf k, sentD (textOf k)) ∈ laid := by
  subst h
  rintro k (rfl | rfl | rfl | rfl | rfl)
  · exact List.mem_of_getElem? (i := 0) rfl
  · exact List.mem_of_getElem? (i := 1) rfl
  · exact List.mem_of_getElem? (i := 2) rfl
  · exact List.mem_of_getElem? (i := 3) rfl
  · exact List.mem_of_getElem? (i := 4) rfl
theorem place_open {S : Nat → Prop} {w : World} {cs : Array Value} {a : Int × Int} (h : RPlace.E S w cs.toList a) : cs = #[.int .i64 a.1, .int .i64 a.2] := by
  obtain ⟨l⟩ := cs
  obtain ⟨a1, a2, rfl, ⟨rfl, _⟩, rfl, _⟩ := h
  rfl

theorem walk_SearchFinds (c0 : Array Value) (v : ViewV) (x1 : Value) (t : List Int) (c2 : Array Value) (d : Int × Int) (w : World) (hL : laidMetH Tryd.prog Rows.searchFindsRow.laid w) (hm : RView.E (fun b => b < w.heap.size) w c0.toList v) (hy : Slc (Rep.int .i32) (fun b => b < w.heap.size) (fun b => b < w.heap.size) w x1 t) (h2 : RPlace.E (fun b => b < w.heap.size) w c2.toList d) (hok : LinesOk v.lines) :
    Calls Tryd.prog 4 #[.agg c0, x1, .agg c2] w fun e w' => e = .returned (.bool true) ∧ Below w.heap.size w w' := by
  have h' : laidMet Tryd.prog Rows.searchFindsRow.laid w := hL
  obtain ⟨b, hV⟩ := varsA_of_laid _ _ h' (laid_five rfl)
  rw [place_open h2]
  exact walkV_SearchFinds b c0 v x1 t d.1 d.2 w hV hm hy hok
end Go.Proofs.YtejhaepgbfngcaaDoor
