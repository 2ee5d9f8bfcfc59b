/-
  Each thing that is told of a view: its line, its column, its number, as package api reads them off the error.
-/
import Derived.Test.YtejhaepgbfngcaaDoorAud6
import Derived.Test.YtejhaepgbfngcaaDoorAud7
import Derived.Test.YtejhaepgbfngcaaDoorErr8
namespace Go.Proofs.YtejhaepgbfngcaaDoor
open Go.RowKit
set_option linter.unusedVariables false

theorem lookF_good (v : ViewV) : ∀ x ∈ lookF v, (x.1 = -1 → x.2.1 = -1) ∧ (x.2.2 = 2 ∨ x.2.2 = 3 ∨ x.2.2 = 4 ∨ x.2.2 = 5 ∨ x.2.2 = 8) := by
  intro x hx
  unfold lookF at hx
  rcases List.mem_append.1 hx with hx | hx
  · rcases List.mem_append.1 hx with hx | hx
    · split at hx
      · cases hx
      · obtain rfl := List.mem_singleton.1 hx
        exact ⟨fun _ => rfl, .inr (.inl rfl)⟩
    · unfold lookN at hx
      obtain ⟨i, _, hx⟩ := List.mem_flatMap.1 hx
      unfold lookL at hx
      rcases List.mem_append.1 hx with hx | hx
      · split at hx
        · cases hx
        · obtain rfl := List.mem_singleton.1 hx
          exact ⟨fun _ => rfl, .inr (.inr (.inl rfl))⟩
      · unfold lookC at hx
        obtain ⟨k, _, hx⟩ := List.mem_flatMap.1 hx
        split at hx
        · cases hx
        · rename_i hne
          obtain rfl := List.mem_singleton.1 hx
          refine ⟨fun h => ?_, ?_⟩
          · simp only at h
            omega
          · rcases wrong_is (v.lines.getD i ([], false)).1 k with h | h | h
            · exact absurd h hne
            · exact .inr (.inr (.inr (.inl h)))
            · exact .inl h
  · split at hx
    · cases hx
    · obtain rfl := List.mem_singleton.1 hx
      exact ⟨fun _ => rfl, .inr (.inr (.inr (.inr rfl)))⟩

theorem AtD_ok (b : Nat → Addr) (S : Nat → Prop) (e : Value) (x1 x2 x3 : Int) (w : World) (hT : TypeVar w) (he : errIs b S w e (dOf (x1, x2, x3))) :
    Calls Tryd.prog 14 #[e] w fun e w' => e = .returned (.int .i64 x1) ∧ Below w.heap.size w w' := by
  unfold dOf at he
  by_cases h1 : x1 = -1
  · rw [if_pos h1] at he
    have he : e = .iface 146 (.pointer (some (b (kOf x3)))) := he
    subst he
    rw [h1]
    exact AtS_ok _ _ hT
  · rw [if_neg h1] at he
    by_cases h2 : x2 = -1
    · rw [if_pos h2] at he
      obtain ⟨pb, rfl, _, h0, _⟩ := he
      exact AtF_ok pb _ _ hT h0
    · rw [if_neg h2] at he
      obtain ⟨pb, pc, rfl, _, _, h0, _, _, _⟩ := he
      exact AtF_ok pb _ _ hT h0

theorem WithinD_ok (b : Nat → Addr) (S : Nat → Prop) (e : Value) (x1 x2 x3 : Int) (w : World) (hT : TypeVar w) (he : errIs b S w e (dOf (x1, x2, x3))) (hg : x1 = -1 → x2 = -1) :
    Calls Tryd.prog 36 #[e] w fun e w' => e = .returned (.int .i64 x2) ∧ Below w.heap.size w w' := by
  unfold dOf at he
  by_cases h1 : x1 = -1
  · rw [if_pos h1] at he
    have he : e = .iface 146 (.pointer (some (b (kOf x3)))) := he
    subst he
    rw [hg h1]
    exact WithinS_ok _ _ hT
  · rw [if_neg h1] at he
    by_cases h2 : x2 = -1
    · rw [if_pos h2] at he
      obtain ⟨pb, rfl, _, _, h1⟩ := he
      rw [h2]
      exact WithinG_ok pb _ _ hT h1
    · rw [if_neg h2] at he
      obtain ⟨pb, pc, rfl, _, _, _, h1, h2, _⟩ := he
      exact WithinF_ok pb pc _ _ hT h1 h2

theorem CodeX_ok (b : Nat → Addr) (S : Nat → Prop) (e : Value) (x1 x2 x3 : Int) (w : World) (hS : Sents b w) (he : errIs b S w e (dOf (x1, x2, x3))) (hg : x3 = 2 ∨ x3 = 3 ∨ x3 = 4 ∨ x3 = 5 ∨ x3 = 8) :
    Calls Tryd.prog 13 #[e] w fun e w' => e = .returned (.int .i64 x3) ∧ w = w' := by
  have hk : kOf x3 < 8 ∧ ((kOf x3 : Nat) : Int) + 1 = x3 := by
    unfold kOf
    rcases hg with rfl | rfl | rfl | rfl | rfl <;> decide
  have h := CodeD_ok b S e _ (kOf x3) w hS he hk.1
  rw [hk.2] at h
  exact h
end Go.Proofs.YtejhaepgbfngcaaDoor
