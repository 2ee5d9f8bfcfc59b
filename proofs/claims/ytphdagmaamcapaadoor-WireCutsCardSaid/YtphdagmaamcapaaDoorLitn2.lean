/-
  Several texts of this seat as one: Litn, Litn2.
-/
import Derived.Test.YtphdagmaamcapaaDoorView0
namespace Go.Proofs.YtphdagmaamcapaaDoor
open Go.RowKit
set_option linter.unusedVariables false
set_option linter.unusedSimpArgs false

/-- A row that is written out. -/
theorem Slc.litn {α : Type} {R : Rep α} {Si Si' : Nat → Prop} {w : World} {l : List α} {xs : List Value} (e : TypeId) (h : Els R Si w l xs) (hk : Keep Si w Si' (w.alloc (.cells xs.toArray e))) (n : Nat) (hn : l.length = n) (hm : n ≤ maxLen) (m : Nat) (hw : m = w.heap.size) :
    Slc R (fun b => b = m) Si' (w.alloc (.cells xs.toArray e)) (.slice (some ⟨m, 0, none⟩) n n) l := by
  subst hn
  subst hw
  refine ⟨_, _, rfl, Nat.le_refl _, hm, xs, h.mono hk, fun _ => ⟨_, rfl, rfl, fun j y hy => ?_⟩⟩
  have : (⟨w.heap.size, 0, none⟩ : Addr).add j = ⟨w.heap.size, j, none⟩ := by unfold Addr.add; split <;> simp_all
  rw [this, World.cell?_alloc_new]
  simpa using hy
theorem els_2 {S : Nat → Prop} {w : World} {k m : Int} {v u : Value} {t s : List Int} (hk : (Lit.int .i64 k).wf = true) (hm : (Lit.int .i64 m).wf = true) (hv : Slc (Rep.int .i32) S S w v t) (hu : Slc (Rep.int .i32) S S w u s) : Els RCell S w [(k, t), (m, s)] [.int .i64 k, v, .int .i64 m, u] :=
  Els.append (Els.single (R := RCell) ⟨_, _, rfl, ⟨rfl, hk⟩, _, rfl, hv⟩) (Els.single (R := RCell) ⟨_, _, rfl, ⟨rfl, hm⟩, _, rfl, hu⟩)
theorem els_l2 {S : Nat → Prop} {w : World} {v u : Value} {l m : List CellV} {p q : Bool} (hv : Slc RCell S S w v l) (hu : Slc RCell S S w u m) : Els RLine S w [(l, p), (m, q)] [v, .bool p, u, .bool q] :=
  Els.append (Els.single (R := RLine) ⟨_, _, rfl, ⟨_, rfl, hv⟩, rfl⟩) (Els.single (R := RLine) ⟨_, _, rfl, ⟨_, rfl, hu⟩, rfl⟩)
theorem Slc.lt_up {α : Type} {R : Rep α} {So : Nat → Prop} {w w' : World} {v : Value} {l : List α} (h : Slc R So (fun b => b < w.heap.size) w v l) (hSo : ∀ b, So b → b < w.heap.size) (hb : Below w.heap.size w w') : Slc R (fun b => b < w'.heap.size) (fun b => b < w'.heap.size) w' v l :=
  (h.mono (Keep.below (S := So) hb) (Keep.below (S := fun b => b < w.heap.size) hb)).mono (Keep.weaken fun b h => Nat.lt_of_lt_of_le (hSo b h) hb.size) (Keep.weaken fun b h => Nat.lt_of_lt_of_le h hb.size)
theorem short_of_sound {l : List CellV} (h : soundB l = true) : ∀ c ∈ l, c.2.length ≤ 16 := by
  intro c hc
  obtain ⟨k, hk, rfl⟩ := List.getElem_of_mem hc
  have hw := (wrong_sound l).2 h k hk
  unfold wrongAt at hw
  rw [dif_pos hk] at hw
  split at hw
  · cases hw
  · rename_i h1
    have h1 : rightB l[k] = true := by simpa using h1
    unfold rightB at h1
    split at h1
    · rw [decide_eq_true_eq] at h1; omega
    · split at h1
      · rw [Bool.and_eq_true, decide_eq_true_eq] at h1; omega
      · cases h1
/-- The texts of a right view's cells are short, its sides what they must be. -/
theorem right_short {v : ViewV} (h : rightV v = true) : ∀ l ∈ v.lines, ∀ c ∈ l.1, c.2.length ≤ 16 := by
  unfold rightV headR at h
  rw [Bool.and_eq_true, Bool.and_eq_true, List.all_eq_true] at h
  intro l hl
  have := h.2 l hl
  unfold lineR at this
  rw [Bool.and_eq_true] at this
  exact short_of_sound this.2
end Go.Proofs.YtphdagmaamcapaaDoor

namespace Go.Proofs.YtphdagmaamcapaaDoor
open Go.RowKit
set_option linter.unusedVariables false
set_option linter.unusedSimpArgs false

theorem els_3 {S : Nat → Prop} {w : World} {k m n : Int} {v u x : Value} {t s r : List Int} (hk : (Lit.int .i64 k).wf = true) (hm : (Lit.int .i64 m).wf = true) (hn : (Lit.int .i64 n).wf = true) (hv : Slc (Rep.int .i32) S S w v t) (hu : Slc (Rep.int .i32) S S w u s) (hx : Slc (Rep.int .i32) S S w x r) : Els RCell S w [(k, t), (m, s), (n, r)] [.int .i64 k, v, .int .i64 m, u, .int .i64 n, x] :=
  Els.append (els_2 hk hm hv hu) (Els.single (R := RCell) ⟨_, _, rfl, ⟨rfl, hn⟩, _, rfl, hx⟩)
theorem els_l1 {S : Nat → Prop} {w : World} {v : Value} {l : List CellV} {p : Bool} (hv : Slc RCell S S w v l) : Els RLine S w [(l, p)] [v, .bool p] :=
  Els.single (R := RLine) ⟨_, _, rfl, ⟨_, rfl, hv⟩, rfl⟩
/-- A view of one line that is written out. -/
theorem view_lit {w : World} {l : List CellV} {xs : List Value} {p : Bool} {vs : Array Value} (e e2 e3 : TypeId) (h : Els RCell (fun b => b < w.heap.size) w l xs) (n : Nat) (hn : l.length = n) (hm : n ≤ maxLen) :
    Slc RLine (fun b => b < w.heap.size + 1 + 1 + 1) (fun b => b < w.heap.size + 1 + 1 + 1) (((w.alloc (.cells xs.toArray e)).alloc (.cells #[.slice (some ⟨w.heap.size, 0, none⟩) n n, .bool p] e2)).alloc (.cells vs e3)) (.slice (some ⟨w.heap.size + 1, 0, none⟩) 1 1) [(l, p)] ∧
    Blk (((w.alloc (.cells xs.toArray e)).alloc (.cells #[.slice (some ⟨w.heap.size, 0, none⟩) n n, .bool p] e2)).alloc (.cells vs e3)) (w.heap.size + 1 + 1) e3 vs ∧
    Below w.heap.size w (((w.alloc (.cells xs.toArray e)).alloc (.cells #[.slice (some ⟨w.heap.size, 0, none⟩) n n, .bool p] e2)).alloc (.cells vs e3)) ∧
    (((w.alloc (.cells xs.toArray e)).alloc (.cells #[.slice (some ⟨w.heap.size, 0, none⟩) n n, .bool p] e2)).alloc (.cells vs e3)).heap.size = w.heap.size + 1 + 1 + 1 := by
  have hs1 : (w.alloc (.cells xs.toArray e)).heap.size = w.heap.size + 1 := by simp
  have h1 : Slc RCell (fun b => b = w.heap.size) (fun b => b < w.heap.size) (w.alloc (.cells xs.toArray e)) (.slice (some ⟨w.heap.size, 0, none⟩) n n) l := Slc.litn e h (Keep.alloc _ _ _) n hn hm _ rfl
  have h2 := h1.mono (So' := fun b => b < w.heap.size + 1) (Si' := fun b => b < w.heap.size + 1) (Keep.weaken fun b h => by omega) (Keep.weaken fun b h => by omega)
  have h3 : Slc RLine (fun b => b = w.heap.size + 1) (fun b => b < w.heap.size + 1) ((w.alloc (.cells xs.toArray e)).alloc (.cells #[.slice (some ⟨w.heap.size, 0, none⟩) n n, .bool p] e2)) (.slice (some ⟨w.heap.size + 1, 0, none⟩) 1 1) [(l, p)] :=
    Slc.litn e2 (els_l1 h2) (Keep.alloc _ _ _) 1 rfl (by simp [maxLen]) _ (by simp)
  refine ⟨(h3.mono (Keep.alloc _ _ (.cells vs e3)) (Keep.alloc _ _ (.cells vs e3))).mono (Keep.weaken fun b h => by omega) (Keep.weaken fun b h => by omega), ?_, ?_, by simp⟩
  · have := Blk.new ((w.alloc (.cells xs.toArray e)).alloc (.cells #[.slice (some ⟨w.heap.size, 0, none⟩) n n, .bool p] e2)) e3 vs
    simpa using this
  · exact (((Below.refl _ w).alloc (Nat.le_refl _) _).alloc (by simp) _).alloc (by simp; omega) _
end Go.Proofs.YtphdagmaamcapaaDoor
