/-
  What audit.First and audit.Sound return, and the checks at the head of the laws on audit. Each function once.
-/
import Derived.Test.YtejhaepgbfngcaaDoorAud5
import Derived.Test.YtejhaepgbfngcaaDoorErr7
namespace Go.Proofs.YtejhaepgbfngcaaDoor
open Go.RowKit
set_option linter.unusedVariables false
set_option linter.unusedSimpArgs false

theorem els_cell1w {S : Nat → Prop} {w : World} {k : Int} {v : Value} {t : List Int} (hk : (Lit.int .i64 k).wf = true) (hv : Slc (Rep.int .i32) S S w v t) : Els RCell S w [(k, t)] [.int .i64 k, v] := Els.single ⟨_, _, rfl, ⟨rfl, hk⟩, _, rfl, hv⟩
theorem AFirst_ok (b : Nat → Addr) (So : Nat → Prop) (x : Value) (wd hi r c : Int) (p au : Bool) (ls : List LineV) (w : World) (hV : VarsA b w) (hx : Slc RLine So (fun b => b < w.heap.size) w x ls) (hlen : ∀ l ∈ ls, l.1.length ≤ 1000000) (hll : ls.length ≤ 1000000) :
    Calls Tryd.prog 34 #[.agg #[.int .i64 wd, .int .i64 hi, x, .int .i64 r, .int .i64 c, .bool p, .bool au]] w fun e w' => ∃ u, e = .returned u ∧ ((((lookF ⟨wd, hi, ls, r, c, p, au⟩).map dOf).length = 0 ∧ u = .nilIface) ∨ (∃ h : 0 < ((lookF ⟨wd, hi, ls, r, c, p, au⟩).map dOf).length, errIs b (fun b => b < w'.heap.size) w' u ((lookF ⟨wd, hi, ls, r, c, p, au⟩).map dOf)[0])) ∧ Below w.heap.size w w' := by
  have hL := fun (So' : Nat → Prop) (w' : World) (hV' : VarsA b w') hx' => ALook_ok b So' x wd hi r c p au ls w' hV' hx' hlen hll
  generalize (lookF ⟨wd, hi, ls, r, c, p, au⟩).map dOf = m at *
  have HL := hide hL
  clear hL
  obtain ⟨A, cp, rfl, _, _, _⟩ := hx.open_
  have hb0 := (Below.refl w.heap.size w).alloc (Nat.le_refl _) (.cells #[.int .i64 wd, .int .i64 hi, .slice A ls.length cp, .int .i64 r, .int .i64 c, .bool p, .bool au] 40)
  have hz0 := hb0.size
  have hV0 := hV.below hb0
  have hx0 := (hx.mono (Keep.below (S := So) hb0) (Keep.below (S := fun b => b < w.heap.size) hb0)).mono (So' := So) (Si' := fun b => b < (w.alloc (.cells #[.int .i64 wd, .int .i64 hi, .slice A ls.length cp, .int .i64 r, .int .i64 c, .bool p, .bool au] 40)).heap.size) (Keep.refl _ _) (Keep.weaken fun b h => by omega)
  go_enter Tryd.func34, Tryd.ntmps34
  go_wp2_with fail
  refine (HL.out _ _ hV0 hx0).mono ?_
  rintro e w1 ⟨s1, rfl, hv1, hb1⟩
  have hb1' := hb0.trans (hb1.mono hz0)
  have hs1 := hv1.slc.mono (Keep.lt _ _) (Keep.lt _ _)
  obtain ⟨A1, c1, rfl, _, _, _⟩ := hs1.open_
  by_cases hm : m.length = 0
  · have h2 : ¬ (0 : Int) < m.length := by omega
    go_wp2
    go_ret
    exact ⟨_, rfl, .inl ⟨by omega, rfl⟩, hb1'⟩
  · have h2 : (0 : Int) < m.length := by omega
    have h3 : 0 < m.length := by omega
    obtain ⟨g, off, u, rfl, _, q0, hu⟩ := err_at hs1.slb (k := 0) h3
    simp only [Nat.add_zero] at q0
    obtain ⟨t, u', rfl⟩ := hu.form
    go_wp2
    go_ret
    exact ⟨_, rfl, .inr ⟨h3, hu⟩, hb1'⟩

theorem ASound_ok (b : Nat → Addr) (So : Nat → Prop) (x : Value) (wd hi r c : Int) (p au : Bool) (ls : List LineV) (w : World) (hV : VarsA b w) (hx : Slc RLine So (fun b => b < w.heap.size) w x ls) (hlen : ∀ l ∈ ls, l.1.length ≤ 1000000) (hll : ls.length ≤ 1000000) :
    Calls Tryd.prog 35 #[.agg #[.int .i64 wd, .int .i64 hi, x, .int .i64 r, .int .i64 c, .bool p, .bool au]] w fun e w' => e = .returned (.bool (rightV ⟨wd, hi, ls, r, c, p, au⟩)) ∧ Below w.heap.size w w' := by
  have hF := fun (So' : Nat → Prop) (w' : World) (hV' : VarsA b w') hx' => AFirst_ok b So' x wd hi r c p au ls w' hV' hx' hlen hll
  have hn := lookF_nil ⟨wd, hi, ls, r, c, p, au⟩
  have hml : ((lookF ⟨wd, hi, ls, r, c, p, au⟩).map dOf).length = (lookF ⟨wd, hi, ls, r, c, p, au⟩).length := List.length_map ..
  rw [← hml] at hn
  generalize (lookF ⟨wd, hi, ls, r, c, p, au⟩).map dOf = m at *
  generalize rightV ⟨wd, hi, ls, r, c, p, au⟩ = res at *
  have HF := hide hF
  have HN := hide hn
  clear hF hn hml
  obtain ⟨A, cp, rfl, _, _, _⟩ := hx.open_
  have hb0 := (Below.refl w.heap.size w).alloc (Nat.le_refl _) (.cells #[.int .i64 wd, .int .i64 hi, .slice A ls.length cp, .int .i64 r, .int .i64 c, .bool p, .bool au] 40)
  have hz0 := hb0.size
  have hV0 := hV.below hb0
  have hx0 := (hx.mono (Keep.below (S := So) hb0) (Keep.below (S := fun b => b < w.heap.size) hb0)).mono (So' := So) (Si' := fun b => b < (w.alloc (.cells #[.int .i64 wd, .int .i64 hi, .slice A ls.length cp, .int .i64 r, .int .i64 c, .bool p, .bool au] 40)).heap.size) (Keep.refl _ _) (Keep.weaken fun b h => by omega)
  go_enter Tryd.func35, Tryd.ntmps35
  go_wp2_with fail
  refine (HF.out _ _ hV0 hx0).mono ?_
  rintro e w1 ⟨u1, rfl, hh, hb1⟩
  have hb1' := hb0.trans (hb1.mono hz0)
  rcases hh with ⟨hm, rfl⟩ | ⟨hm, hu⟩
  · have hr : res = true := HN.out.1 hm
    have HR := hide hr
    clear hr hm
    go_wp2
    go_ret
    rw [HR.out]
    exact ⟨rfl, hb1'⟩
  · have hr : res = false := by
      rcases Bool.eq_false_or_eq_true res with h | h
      · have := HN.out.2 h; omega
      · exact h
    have HR := hide hr
    obtain ⟨t, u', rfl⟩ := hu.form
    clear hr hm hu
    go_wp2
    go_ret
    rw [HR.out]
    exact ⟨rfl, hb1'⟩

theorem VarsA.of {b : Nat → Addr} {w : World} (h : Sents b w) : VarsA b w := fun k hk => h.var k (by omega)
set_option maxHeartbeats 1000000 in
theorem works47_ok (b : Nat → Addr) (w : World) (hS : Sents b w) (hT : TypeVar w) :
    Calls Tryd.prog 31 #[] w fun e w' => e = .returned (.bool true) ∧ Below w.heap.size w w' := by
  have hlk : (lookF ⟨1, 1, [([(3, [])], false)], 0, 0, false, false⟩).map dOf = [(some (0, some 0), 1)] := by decide
  have HLK := hide hlk
  have HS := hide hS
  have HT := hide hT
  clear hlk hS hT
  go_enter Tryd.func31, Tryd.ntmps31
  go_wp2_with fail
  have hcl : Own RCell 51 [] 0 (w.alloc (.cells #[.int .i64 3, .slice none 0 0] 51)) (.slice (some ⟨w.heap.size, 0, none⟩) 1 1) [(3, [])] :=
    Own.lit (xs := [.int .i64 3, .slice none 0 0]) (by decide) (els_cell1w (by decide) Slc.nil_) (Nat.zero_le _) rfl (by simp [maxLen])
  have hcs := hcl.slc.mono (So' := fun b => b < (w.alloc (.cells #[.int .i64 3, .slice none 0 0] 51)).heap.size) (Si' := fun b => b < (w.alloc (.cells #[.int .i64 3, .slice none 0 0] 51)).heap.size) (Keep.weaken fun b h => h.1) (Keep.lt _ _)
  have hll : Slc RLine (fun _ => True) (fun b => b < (w.alloc (.cells #[.int .i64 3, .slice none 0 0] 51)).heap.size) ((w.alloc (.cells #[.int .i64 3, .slice none 0 0] 51)).alloc (.cells #[.slice (some ⟨w.heap.size, 0, none⟩) 1 1, .bool false] 54)) (.slice (some ⟨w.heap.size + 1, 0, none⟩) 1 1) [([(3, [])], false)] := by
    have := Slc.lit1 (R := RLine) (Si := fun b => b < (w.alloc (.cells #[.int .i64 3, .slice none 0 0] 51)).heap.size) (Si' := fun b => b < (w.alloc (.cells #[.int .i64 3, .slice none 0 0] 51)).heap.size) (w := w.alloc (.cells #[.int .i64 3, .slice none 0 0] 51)) (x := (([(3, [])], false) : LineV)) (u := [.slice (some ⟨w.heap.size, 0, none⟩) 1 1, .bool false]) 54 ⟨_, _, rfl, ⟨_, rfl, hcs⟩, rfl⟩ (Keep.alloc _ _ _)
    simpa using this.mono (So' := fun _ => True) (Keep.weaken fun _ _ => trivial) (Keep.refl _ _)
  have hb0 : Below w.heap.size w ((w.alloc (.cells #[.int .i64 3, .slice none 0 0] 51)).alloc (.cells #[.slice (some ⟨w.heap.size, 0, none⟩) 1 1, .bool false] 54)) := ((Below.refl _ w).alloc (Nat.le_refl _) _).alloc (by simp) _
  have hz0 := hb0.size
  have hll2 := hll.mono (So' := fun _ => True) (Si' := fun b => b < ((w.alloc (.cells #[.int .i64 3, .slice none 0 0] 51)).alloc (.cells #[.slice (some ⟨w.heap.size, 0, none⟩) 1 1, .bool false] 54)).heap.size) (Keep.refl _ _) (Keep.weaken fun b h => by simp at h ⊢; omega)
  refine (ALook_ok b _ _ 1 1 0 0 false false _ _ ((VarsA.of HS.out).below hb0) hll2 (by simp) (by simp)).mono ?_
  rw [HLK.out]
  rintro e w1 ⟨s1, rfl, hv1, hb1⟩
  have hb1' := hb0.trans (hb1.mono hz0)
  have hz1 := hb1'.size
  have hs1 := hv1.slc.mono (Keep.lt _ _) (Keep.lt _ _)
  obtain ⟨A1, c1, rfl, _, _, _⟩ := hs1.open_
  obtain ⟨g, off, u, rfl, hgl, q0, hu⟩ := err_at hs1.slb (k := 0) (by simp)
  simp only [Nat.add_zero, List.getElem_cons_zero, List.length_singleton] at q0 hu ⊢
  obtain ⟨pb, pc, rfl, _, _, f0, f1, f2, f3⟩ := hu
  have hlb := World.block_lt_of_cell? w1 _ f0
  have hlc := World.block_lt_of_cell? w1 _ f2
  go_wp2_with fail
  refine (AtF_ok pb 0 _ (HT.out.below hb1') f0).mono ?_
  rintro e w2 ⟨rfl, hb2⟩
  have hb2' := hb1'.trans (hb2.mono hz1)
  have hz2 := hb2'.size
  have q2 := (hb2.cell hgl).trans q0
  have k0 := (hb2.cell hlb).trans f0
  have k1 := (hb2.cell (p := ⟨pb, 1, none⟩) hlb).trans f1
  have k2 := (hb2.cell hlc).trans f2
  have k3 := (hb2.cell (p := ⟨pc, 1, none⟩) hlc).trans f3
  go_wp2_with fail
  refine (WithinF_ok pb pc 0 _ (HT.out.below hb2') k1 k2).mono ?_
  rintro e w3 ⟨rfl, hb3⟩
  have hb3' := hb2'.trans (hb3.mono hz2)
  have q3 := (hb3.cell (Nat.lt_of_lt_of_le hgl hb2.size)).trans q2
  have m0 := (hb3.cell (Nat.lt_of_lt_of_le hlb hb2.size)).trans k0
  have m1 := (hb3.cell (p := ⟨pb, 1, none⟩) (Nat.lt_of_lt_of_le hlb hb2.size)).trans k1
  have m2 := (hb3.cell (Nat.lt_of_lt_of_le hlc hb2.size)).trans k2
  have m3 := (hb3.cell (p := ⟨pc, 1, none⟩) (Nat.lt_of_lt_of_le hlc hb2.size)).trans k3
  go_wp2_with fail
  refine (CodeD_ok b (fun _ => True) _ (some (0, some 0)) 1 _ (HS.out.below hb3') ⟨pb, pc, rfl, trivial, trivial, m0, m1, m2, m3⟩ (by decide)).mono ?_
  rintro e w4 ⟨rfl, rfl⟩
  go_wp2
  go_ret
  exact ⟨rfl, hb3'⟩
end Go.Proofs.YtejhaepgbfngcaaDoor
