/-
  Errors that tell a line and a column of it: errors.Is, their number, their place, the place within. Each function once.
-/
import Derived.Test.YtphdagmaamcapaaDoorErr5
import Derived.Test.YtphdagmaamcapaaDoorAud5
namespace Go.Proofs.YtphdagmaamcapaaDoor
open Go.RowKit Go.Extern.Stop Go.Stop Go.Extern
set_option linter.unusedVariables false
set_option linter.unusedSimpArgs false

/-- errors.Is(f, x), f a fault that wraps a fault that wraps x. -/
theorem is_wrap2_same (pb pc : Nat) (b : Addr) (w : World) (h0 : w.cell? ⟨pb, 1, none⟩ = some (.iface 101 (.pointer (some ⟨pc, 0, none⟩)))) (h1 : w.cell? ⟨pc, 1, none⟩ = some (.iface 123 (.pointer (some b)))) :
    Calls Tryd.prog 21 #[.iface 101 (.pointer (some ⟨pb, 0, none⟩)), .iface 123 (.pointer (some b))] w fun e w' => e = .returned (.bool true) ∧ w = w' := by
  obtain ⟨i, hi, hcmp⟩ := Option.map_eq_some_iff.1 Tryd.isComp
  obtain ⟨j, hj, hjs⟩ := Option.map_eq_some_iff.1 Tryd.isSize
  have h8 := @run_callFunc_extern Tryd.prog 32 _ Extern.ReflectliteType.typeOf Tryd.func32 (by kernel_rfl) (by kernel_rfl) (by kernel_rfl) (by kernel_rfl)
  have h32 := @run_callFunc_extern Tryd.prog 92 _ (Extern.ReflectliteType.method cmpF) Tryd.func92 (by kernel_rfl) (by kernel_rfl) (by kernel_rfl) (by kernel_rfl)
  have tT := Tryd.isTypeOf
  have cT := Tryd.isComparable
  have mR := Tryd.isMethodComparable
  have nE := Tryd.noIsE
  have uE := Tryd.noUnwrapE
  have vE := Tryd.noUnwrapsE
  have nW := Tryd.noIsW
  have uW := Tryd.hasUnwrapW
  have mU := Tryd.methodUnwrap
  have heq := run_eql_iface_ptr_same (P := Tryd.prog) w b Tryd.underlying31 Tryd.underlying123 hi hcmp hj
  have hty := run_eql_iface_types (P := Tryd.prog) 101 123 (.pointer (some ⟨pb, 0, none⟩)) (.pointer (some b)) Tryd.underlying31 (by decide) w
  have hty2 := run_eql_iface_types (P := Tryd.prog) 101 123 (.pointer (some ⟨pc, 0, none⟩)) (.pointer (some b)) Tryd.underlying31 (by decide) w
  go_enter Tryd.func21, Tryd.ntmps21
  go_wp2
  refine wp_loop_rounds 3 ?_
  rw [rounds_succ]
  go_wp2
  rw [rounds_succ]
  go_wp2
  rw [rounds_succ]
  go_wp2
  go_ret
  exact ⟨rfl, rfl⟩
/-- errors.Is(f, x), f a fault that wraps a fault that wraps another error of errors.New's make. -/
theorem is_wrap2_other (pb pc : Nat) (b a : Addr) (ca cb : Array Value) (ta tb : TypeId) (w : World) (h0 : w.cell? ⟨pb, 1, none⟩ = some (.iface 101 (.pointer (some ⟨pc, 0, none⟩)))) (h1 : w.cell? ⟨pc, 1, none⟩ = some (.iface 123 (.pointer (some a)))) (hne : a ≠ b) (ha : w.heap[a.block]? = some (.cells ca ta (0, 0))) (hb : w.heap[b.block]? = some (.cells cb tb (0, 0))) :
    Calls Tryd.prog 21 #[.iface 101 (.pointer (some ⟨pb, 0, none⟩)), .iface 123 (.pointer (some b))] w fun e w' => e = .returned (.bool false) ∧ w = w' := by
  obtain ⟨i, hi, hcmp⟩ := Option.map_eq_some_iff.1 Tryd.isComp
  obtain ⟨j, hj, hjs⟩ := Option.map_eq_some_iff.1 Tryd.isSize
  have h8 := @run_callFunc_extern Tryd.prog 32 _ Extern.ReflectliteType.typeOf Tryd.func32 (by kernel_rfl) (by kernel_rfl) (by kernel_rfl) (by kernel_rfl)
  have h32 := @run_callFunc_extern Tryd.prog 92 _ (Extern.ReflectliteType.method cmpF) Tryd.func92 (by kernel_rfl) (by kernel_rfl) (by kernel_rfl) (by kernel_rfl)
  have tT := Tryd.isTypeOf
  have cT := Tryd.isComparable
  have mR := Tryd.isMethodComparable
  have nE := Tryd.noIsE
  have uE := Tryd.noUnwrapE
  have vE := Tryd.noUnwrapsE
  have nW := Tryd.noIsW
  have uW := Tryd.hasUnwrapW
  have mU := Tryd.methodUnwrap
  have heq := run_eql_iface_ptr_other (P := Tryd.prog) w Tryd.underlying31 Tryd.underlying123 hi hcmp hj (by rw [hjs]; decide) hne ha hb
  have hty := run_eql_iface_types (P := Tryd.prog) 101 123 (.pointer (some ⟨pb, 0, none⟩)) (.pointer (some b)) Tryd.underlying31 (by decide) w
  have hty2 := run_eql_iface_types (P := Tryd.prog) 101 123 (.pointer (some ⟨pc, 0, none⟩)) (.pointer (some b)) Tryd.underlying31 (by decide) w
  go_enter Tryd.func21, Tryd.ntmps21
  go_wp2
  refine wp_loop_rounds 3 ?_
  rw [rounds_succ]
  go_wp2
  rw [rounds_succ]
  go_wp2
  rw [rounds_succ]
  go_wp2
  go_ret
  exact ⟨rfl, rfl⟩

theorem IsD_ok (b : Nat → Addr) (S : Nat → Prop) (e : Value) (o : Option (Int × Option Int)) (k j : Nat) (w : World) (hS : Sents b w) (he : errIs b S w e (o, k)) (hk : k < 8) (hj : j < 8) :
    Calls Tryd.prog 21 #[e, .iface 123 (.pointer (some (b j)))] w fun e w' => e = .returned (.bool (decide (k = j))) ∧ w = w' := by
  obtain ⟨ca, ta, ha⟩ := hS.row k hk
  obtain ⟨cb, tb, hb⟩ := hS.row j hj
  have hne : k ≠ j → b k ≠ b j := fun h e => h (hS.ne k j hk hj e)
  cases o with
  | none => exact Is_ok b e k j none w hS he hk hj
  | some x =>
    obtain ⟨n, c⟩ := x
    cases c with
    | none =>
      obtain ⟨pb, rfl, _, h0, h1⟩ := he
      exact Is_ok b _ k j (some n) w hS ⟨pb, rfl, h0, h1⟩ hk hj
    | some c =>
      obtain ⟨pb, pc, rfl, _, _, h0, h1, h2, h3⟩ := he
      by_cases hkj : k = j
      · subst hkj
        rw [decide_eq_true rfl]
        exact is_wrap2_same pb pc _ w h1 h3
      · rw [decide_eq_false hkj]
        exact is_wrap2_other pb pc _ _ ca cb ta tb w h1 h3 (hne hkj) ha hb

set_option maxHeartbeats 1000000 in
theorem CodeD_ok (b : Nat → Addr) (S : Nat → Prop) (e : Value) (o : Option (Int × Option Int)) (k : Nat) (w : World) (hS : Sents b w) (he : errIs b S w e (o, k)) (hk : k < 8) :
    Calls Tryd.prog 10 #[e] w fun e w' => e = .returned (.int .i64 (k + 1)) ∧ w = w' := by
  have hI := fun j hj => IsD_ok b S e o k j w hS he hk hj
  obtain ⟨t, v, rfl⟩ := he.form
  have v0 := hS.var 0 (by decide)
  have v1 := hS.var 1 (by decide)
  have v2 := hS.var 2 (by decide)
  have v3 := hS.var 3 (by decide)
  have v4 := hS.var 4 (by decide)
  have v5 := hS.var 5 (by decide)
  have v6 := hS.var 6 (by decide)
  have v7 := hS.var 7 (by decide)
  simp only [gOf] at v0 v1 v2 v3 v4 v5 v6 v7
  have HI := hide hI
  clear hI he hS
  go_enter Tryd.func10, Tryd.ntmps10
  go_wp2_with fail
  refine (HI.out 0 (by decide)).mono ?_
  rintro e w1 ⟨rfl, rfl⟩
  by_cases k0 : k = 0
  · rw [decide_eq_true k0]
    subst k0
    go_wp2
    go_ret
    exact ⟨rfl, rfl⟩
  · rw [decide_eq_false k0]
    go_wp2_with fail
    refine (HI.out 1 (by decide)).mono ?_
    rintro e w1 ⟨rfl, rfl⟩
    by_cases k1 : k = 1
    · rw [decide_eq_true k1]
      subst k1
      go_wp2
      go_ret
      exact ⟨rfl, rfl⟩
    · rw [decide_eq_false k1]
      go_wp2_with fail
      refine (HI.out 2 (by decide)).mono ?_
      rintro e w1 ⟨rfl, rfl⟩
      by_cases k2 : k = 2
      · rw [decide_eq_true k2]
        subst k2
        go_wp2
        go_ret
        exact ⟨rfl, rfl⟩
      · rw [decide_eq_false k2]
        go_wp2_with fail
        refine (HI.out 3 (by decide)).mono ?_
        rintro e w1 ⟨rfl, rfl⟩
        by_cases k3 : k = 3
        · rw [decide_eq_true k3]
          subst k3
          go_wp2
          go_ret
          exact ⟨rfl, rfl⟩
        · rw [decide_eq_false k3]
          go_wp2_with fail
          refine (HI.out 4 (by decide)).mono ?_
          rintro e w1 ⟨rfl, rfl⟩
          by_cases k4 : k = 4
          · rw [decide_eq_true k4]
            subst k4
            go_wp2
            go_ret
            exact ⟨rfl, rfl⟩
          · rw [decide_eq_false k4]
            go_wp2_with fail
            refine (HI.out 5 (by decide)).mono ?_
            rintro e w1 ⟨rfl, rfl⟩
            by_cases k5 : k = 5
            · rw [decide_eq_true k5]
              subst k5
              go_wp2
              go_ret
              exact ⟨rfl, rfl⟩
            · rw [decide_eq_false k5]
              go_wp2_with fail
              refine (HI.out 6 (by decide)).mono ?_
              rintro e w1 ⟨rfl, rfl⟩
              by_cases k6 : k = 6
              · rw [decide_eq_true k6]
                subst k6
                go_wp2
                go_ret
                exact ⟨rfl, rfl⟩
              · rw [decide_eq_false k6]
                go_wp2_with fail
                refine (HI.out 7 (by decide)).mono ?_
                rintro e w1 ⟨rfl, rfl⟩
                by_cases k7 : k = 7
                · rw [decide_eq_true k7]
                  subst k7
                  go_wp2
                  go_ret
                  exact ⟨rfl, rfl⟩
                · rw [decide_eq_false k7]
                  omega


end Go.Proofs.YtphdagmaamcapaaDoor
