/-
  The sentinels, and the errors that tell one: what the function that tells an error's number returns. Each function once.
-/
import Derived.Test.YtphdagmaamcapaaDoorErr1
namespace Go.Proofs.YtphdagmaamcapaaDoor
open Go.RowKit
set_option linter.unusedVariables false
set_option linter.unusedSimpArgs false

def gOf : Nat → Nat
  | 0 => 1
  | 1 => 2
  | 2 => 3
  | 3 => 4
  | 4 => 0
  | 5 => 5
  | 6 => 6
  | _ => 7
/-- The variable of sentinel k points to the text at block b k; no two at one. -/
structure Sents (b : Nat → Addr) (w : World) : Prop where
  var : ∀ k, k < 8 → w.cell? ⟨gOf k, 0, none⟩ = some (.iface 123 (.pointer (some (b k))))
  row : ∀ k, k < 8 → ∃ cs t, w.heap[(b k).block]? = some (.cells cs t (0, 0))
  ne : ∀ i j, i < 8 → j < 8 → b i = b j → i = j
theorem Sents.below {b : Nat → Addr} {w w' : World} (h : Sents b w) (hb : Below w.heap.size w w') : Sents b w' := by
  refine ⟨fun k hk => ?_, fun k hk => ?_, h.ne⟩
  · have h1 := h.var k hk
    exact (hb.cell (p := ⟨gOf k, 0, none⟩) (World.block_lt_of_cell? w _ h1)).trans h1
  · obtain ⟨cs, t, h1⟩ := h.row k hk
    exact ⟨cs, t, (hb.block _ (Array.getElem?_eq_some_iff.1 h1).1).trans h1⟩
/-- An error that tells sentinel k: it itself, or a fault that wraps it; 'at_' is the fault's number. -/
def ErrIs (b : Nat → Addr) (w : World) (e : Value) (k : Nat) : Option Int → Prop
  | none => e = .iface 123 (.pointer (some (b k)))
  | some n => ∃ pb, e = .iface 101 (.pointer (some ⟨pb, 0, none⟩)) ∧ w.cell? ⟨pb, 0, none⟩ = some (.int .i64 n) ∧ w.cell? ⟨pb, 1, none⟩ = some (.iface 123 (.pointer (some (b k))))
theorem ErrIs.form {b : Nat → Addr} {w : World} {e : Value} {k : Nat} {o : Option Int} (h : ErrIs b w e k o) : ∃ t v, e = .iface t v := by
  cases o with
  | none => exact ⟨_, _, h⟩
  | some n => obtain ⟨pb, h, _⟩ := h; exact ⟨_, _, h⟩
theorem ErrIs.below {b : Nat → Addr} {w w' : World} {e : Value} {k : Nat} {o : Option Int} (h : ErrIs b w e k o) (hb : Below w.heap.size w w') : ErrIs b w' e k o := by
  cases o with
  | none => exact h
  | some n =>
    obtain ⟨pb, h, h0, h1⟩ := h
    exact ⟨pb, h, (hb.cell (World.block_lt_of_cell? w _ h0)).trans h0, (hb.cell (World.block_lt_of_cell? w _ h1)).trans h1⟩

theorem Is_ok (b : Nat → Addr) (e : Value) (k j : Nat) (o : Option Int) (w : World) (hS : Sents b w) (he : ErrIs b w e k o) (hk : k < 8) (hj : j < 8) :
    Calls Tryd.prog 21 #[e, .iface 123 (.pointer (some (b j)))] w fun e w' => e = .returned (.bool (decide (k = j))) ∧ w = w' := by
  obtain ⟨ca, ta, ha⟩ := hS.row k hk
  obtain ⟨cb, tb, hb⟩ := hS.row j hj
  have hne : k ≠ j → b k ≠ b j := fun h e => h (hS.ne k j hk hj e)
  cases o with
  | none =>
    obtain rfl : e = _ := he
    by_cases hkj : k = j
    · subst hkj
      rw [decide_eq_true rfl]
      exact is_same _ _
    · rw [decide_eq_false hkj]
      exact is_other _ _ ca cb ta tb w (hne hkj) ha hb
  | some n =>
    obtain ⟨pb, rfl, _, h1⟩ := he
    by_cases hkj : k = j
    · subst hkj
      rw [decide_eq_true rfl]
      exact is_wrap_same pb _ w h1
    · rw [decide_eq_false hkj]
      exact is_wrap_other pb _ _ ca cb ta tb w h1 (hne hkj) ha hb

set_option maxHeartbeats 1000000 in
theorem Code_ok (b : Nat → Addr) (e : Value) (k : Nat) (o : Option Int) (w : World) (hS : Sents b w) (he : ErrIs b w e k o) (hk : k < 8) :
    Calls Tryd.prog 10 #[e] w fun e w' => e = .returned (.int .i64 (k + 1)) ∧ w = w' := by
  have hI := fun j hj => Is_ok b e k j o w hS he hk hj
  obtain ⟨t, v, rfl⟩ := he.form
  have v0 := hS.var 0 (by decide)
  have v1 := hS.var 1 (by decide)
  have v2 := hS.var 2 (by decide)
  have v3 := hS.var 3 (by decide)
  have v4 := hS.var 4 (by decide)
  have v5 := hS.var 5 (by decide)
  have v6 := hS.var 6 (by decide)
  have v7 := hS.var 7 (by decide)
  simp only [gOf] at v0 v1 v2 v3 v4 v5 v6 v7
  have HI := hide hI
  clear hI he hS
  go_enter Tryd.func10, Tryd.ntmps10
  go_wp2_with fail
  refine (HI.out 0 (by decide)).mono ?_
  rintro e w1 ⟨rfl, rfl⟩
  by_cases k0 : k = 0
  · rw [decide_eq_true k0]
    subst k0
    go_wp2
    go_ret
    exact ⟨rfl, rfl⟩
  · rw [decide_eq_false k0]
    go_wp2_with fail
    refine (HI.out 1 (by decide)).mono ?_
    rintro e w1 ⟨rfl, rfl⟩
    by_cases k1 : k = 1
    · rw [decide_eq_true k1]
      subst k1
      go_wp2
      go_ret
      exact ⟨rfl, rfl⟩
    · rw [decide_eq_false k1]
      go_wp2_with fail
      refine (HI.out 2 (by decide)).mono ?_
      rintro e w1 ⟨rfl, rfl⟩
      by_cases k2 : k = 2
      · rw [decide_eq_true k2]
        subst k2
        go_wp2
        go_ret
        exact ⟨rfl, rfl⟩
      · rw [decide_eq_false k2]
        go_wp2_with fail
        refine (HI.out 3 (by decide)).mono ?_
        rintro e w1 ⟨rfl, rfl⟩
        by_cases k3 : k = 3
        · rw [decide_eq_true k3]
          subst k3
          go_wp2
          go_ret
          exact ⟨rfl, rfl⟩
        · rw [decide_eq_false k3]
          go_wp2_with fail
          refine (HI.out 4 (by decide)).mono ?_
          rintro e w1 ⟨rfl, rfl⟩
          by_cases k4 : k = 4
          · rw [decide_eq_true k4]
            subst k4
            go_wp2
            go_ret
            exact ⟨rfl, rfl⟩
          · rw [decide_eq_false k4]
            go_wp2_with fail
            refine (HI.out 5 (by decide)).mono ?_
            rintro e w1 ⟨rfl, rfl⟩
            by_cases k5 : k = 5
            · rw [decide_eq_true k5]
              subst k5
              go_wp2
              go_ret
              exact ⟨rfl, rfl⟩
            · rw [decide_eq_false k5]
              go_wp2_with fail
              refine (HI.out 6 (by decide)).mono ?_
              rintro e w1 ⟨rfl, rfl⟩
              by_cases k6 : k = 6
              · rw [decide_eq_true k6]
                subst k6
                go_wp2
                go_ret
                exact ⟨rfl, rfl⟩
              · rw [decide_eq_false k6]
                go_wp2_with fail
                refine (HI.out 7 (by decide)).mono ?_
                rintro e w1 ⟨rfl, rfl⟩
                by_cases k7 : k = 7
                · rw [decide_eq_true k7]
                  subst k7
                  go_wp2
                  go_ret
                  exact ⟨rfl, rfl⟩
                · rw [decide_eq_false k7]
                  omega

theorem Code_nil (w : World) :
    Calls Tryd.prog 10 #[.nilIface] w fun e w' => e = .returned (.int .i64 0) ∧ w = w' := by
  go_enter Tryd.func10, Tryd.ntmps10
  go_wp2
  go_ret
  exact ⟨rfl, rfl⟩

/-- An error at a place. -/
theorem Wrong_ok (b : Nat → Addr) (n : Int) (k : Nat) (w : World) (hS : Sents b w) :
    Calls Tryd.prog 40 #[.int .i64 n, .iface 123 (.pointer (some (b k)))] w fun e w' => ∃ v, e = .returned v ∧ ErrIs b w' v k (some n) ∧ Below w.heap.size w w' := by
  go_enter Tryd.func40, Tryd.ntmps40
  go_wp2
  go_ret
  exact ⟨_, rfl, ⟨w.heap.size, rfl, by simp, by simp⟩, (Below.refl _ w).alloc (Nat.le_refl _) _⟩
end Go.Proofs.YtphdagmaamcapaaDoor
