/-
  What audit.First and audit.Sound return, and the checks at the head of the laws on audit. Each function once.
-/
import Derived.Test.YtphdagmaamcapaaDoorAud5
import Derived.Test.YtphdagmaamcapaaDoorErr7
namespace Go.Proofs.YtphdagmaamcapaaDoor
open Go.RowKit
set_option linter.unusedVariables false
set_option linter.unusedSimpArgs false

theorem els_cell1w {S : Nat → Prop} {w : World} {k : Int} {v : Value} {t : List Int} (hk : (Lit.int .i64 k).wf = true) (hv : Slc (Rep.int .i32) S S w v t) : Els RCell S w [(k, t)] [.int .i64 k, v] := Els.single ⟨_, _, rfl, ⟨rfl, hk⟩, _, rfl, hv⟩
theorem AFirst_ok (b : Nat → Addr) (So : Nat → Prop) (x : Value) (wd hi r c : Int) (p au : Bool) (ls : List LineV) (w : World) (hV : VarsA b w) (hx : Slc RLine So (fun b => b < w.heap.size) w x ls) (hlen : ∀ l ∈ ls, l.1.length ≤ 1000000) (hll : ls.length ≤ 1000000) :
    Calls Tryd.prog 26 #[.agg #[.int .i64 wd, .int .i64 hi, x, .int .i64 r, .int .i64 c, .bool p, .bool au]] w fun e w' => ∃ u, e = .returned u ∧ ((((lookF ⟨wd, hi, ls, r, c, p, au⟩).map dOf).length = 0 ∧ u = .nilIface) ∨ (∃ h : 0 < ((lookF ⟨wd, hi, ls, r, c, p, au⟩).map dOf).length, errIs b (fun b => b < w'.heap.size) w' u ((lookF ⟨wd, hi, ls, r, c, p, au⟩).map dOf)[0])) ∧ Below w.heap.size w w' := by
  have hL := fun (So' : Nat → Prop) (w' : World) (hV' : VarsA b w') hx' => ALook_ok b So' x wd hi r c p au ls w' hV' hx' hlen hll
  generalize (lookF ⟨wd, hi, ls, r, c, p, au⟩).map dOf = m at *
  have HL := hide hL
  clear hL
  obtain ⟨A, cp, rfl, _, _, _⟩ := hx.open_
  have hb0 := (Below.refl w.heap.size w).alloc (Nat.le_refl _) (.cells #[.int .i64 wd, .int .i64 hi, .slice A ls.length cp, .int .i64 r, .int .i64 c, .bool p, .bool au] 26)
  have hz0 := hb0.size
  have hV0 := hV.below hb0
  have hx0 := (hx.mono (Keep.below (S := So) hb0) (Keep.below (S := fun b => b < w.heap.size) hb0)).mono (So' := So) (Si' := fun b => b < (w.alloc (.cells #[.int .i64 wd, .int .i64 hi, .slice A ls.length cp, .int .i64 r, .int .i64 c, .bool p, .bool au] 26)).heap.size) (Keep.refl _ _) (Keep.weaken fun b h => by omega)
  go_enter Tryd.func26, Tryd.ntmps26
  go_wp2_with fail
  refine (HL.out _ _ hV0 hx0).mono ?_
  rintro e w1 ⟨s1, rfl, hv1, hb1⟩
  have hb1' := hb0.trans (hb1.mono hz0)
  have hs1 := hv1.slc.mono (Keep.lt _ _) (Keep.lt _ _)
  obtain ⟨A1, c1, rfl, _, _, _⟩ := hs1.open_
  by_cases hm : m.length = 0
  · have h2 : ¬ (0 : Int) < m.length := by omega
    go_wp2
    go_ret
    exact ⟨_, rfl, .inl ⟨by omega, rfl⟩, hb1'⟩
  · have h2 : (0 : Int) < m.length := by omega
    have h3 : 0 < m.length := by omega
    obtain ⟨g, off, u, rfl, _, q0, hu⟩ := err_at hs1.slb (k := 0) h3
    simp only [Nat.add_zero] at q0
    obtain ⟨t, u', rfl⟩ := hu.form
    go_wp2
    go_ret
    exact ⟨_, rfl, .inr ⟨h3, hu⟩, hb1'⟩

theorem ASound_ok (b : Nat → Addr) (So : Nat → Prop) (x : Value) (wd hi r c : Int) (p au : Bool) (ls : List LineV) (w : World) (hV : VarsA b w) (hx : Slc RLine So (fun b => b < w.heap.size) w x ls) (hlen : ∀ l ∈ ls, l.1.length ≤ 1000000) (hll : ls.length ≤ 1000000) :
    Calls Tryd.prog 15 #[.agg #[.int .i64 wd, .int .i64 hi, x, .int .i64 r, .int .i64 c, .bool p, .bool au]] w fun e w' => e = .returned (.bool (rightV ⟨wd, hi, ls, r, c, p, au⟩)) ∧ Below w.heap.size w w' := by
  have hF := fun (So' : Nat → Prop) (w' : World) (hV' : VarsA b w') hx' => AFirst_ok b So' x wd hi r c p au ls w' hV' hx' hlen hll
  have hn := lookF_nil ⟨wd, hi, ls, r, c, p, au⟩
  have hml : ((lookF ⟨wd, hi, ls, r, c, p, au⟩).map dOf).length = (lookF ⟨wd, hi, ls, r, c, p, au⟩).length := List.length_map ..
  rw [← hml] at hn
  generalize (lookF ⟨wd, hi, ls, r, c, p, au⟩).map dOf = m at *
  generalize rightV ⟨wd, hi, ls, r, c, p, au⟩ = res at *
  have HF := hide hF
  have HN := hide hn
  clear hF hn hml
  obtain ⟨A, cp, rfl, _, _, _⟩ := hx.open_
  have hb0 := (Below.refl w.heap.size w).alloc (Nat.le_refl _) (.cells #[.int .i64 wd, .int .i64 hi, .slice A ls.length cp, .int .i64 r, .int .i64 c, .bool p, .bool au] 26)
  have hz0 := hb0.size
  have hV0 := hV.below hb0
  have hx0 := (hx.mono (Keep.below (S := So) hb0) (Keep.below (S := fun b => b < w.heap.size) hb0)).mono (So' := So) (Si' := fun b => b < (w.alloc (.cells #[.int .i64 wd, .int .i64 hi, .slice A ls.length cp, .int .i64 r, .int .i64 c, .bool p, .bool au] 26)).heap.size) (Keep.refl _ _) (Keep.weaken fun b h => by omega)
  go_enter Tryd.func15, Tryd.ntmps15
  go_wp2_with fail
  refine (HF.out _ _ hV0 hx0).mono ?_
  rintro e w1 ⟨u1, rfl, hh, hb1⟩
  have hb1' := hb0.trans (hb1.mono hz0)
  rcases hh with ⟨hm, rfl⟩ | ⟨hm, hu⟩
  · have hr : res = true := HN.out.1 hm
    have HR := hide hr
    clear hr hm
    go_wp2
    go_ret
    rw [HR.out]
    exact ⟨rfl, hb1'⟩
  · have hr : res = false := by
      rcases Bool.eq_false_or_eq_true res with h | h
      · have := HN.out.2 h; omega
      · exact h
    have HR := hide hr
    obtain ⟨t, u', rfl⟩ := hu.form
    clear hr hm hu
    go_wp2
    go_ret
    rw [HR.out]
    exact ⟨rfl, hb1'⟩

theorem VarsA.of {b : Nat → Addr} {w : World} (h : Sents b w) : VarsA b w := fun k hk => h.var k (by omega)
end Go.Proofs.YtphdagmaamcapaaDoor
