/-
  What the program's functions that cut a stretch out of a row, and read one behind which more is marked, return. Each function once.
-/
import Derived.Test.YtejhaepgbfngcaaDoorReg0
namespace Go.Proofs.YtejhaepgbfngcaaDoor
open Go.RowKit
set_option linter.unusedVariables false
set_option linter.unusedSimpArgs false

theorem cells_sub {So Si : Nat → Prop} {w : World} {ab off c : Nat} {l : List CellV} (hx : Slc RCell So Si w (.slice (some ⟨ab, off, none⟩) l.length c) l) {lo hi : Nat} (h1 : lo < hi) (h2 : hi ≤ l.length) (hc : l.length ≤ c) :
    Slc RCell So Si w (.slice (some ⟨ab, off + lo * 2, none⟩) (hi - lo) (c - lo)) ((l.take hi).drop lo) := by
  have hf := hx.front (k := hi) h2
  have hl : (l.take hi).length = hi := by rw [List.length_take]; omega
  have hf2 : Slc RCell So Si w (.slice (some ⟨ab, off, none⟩) (l.take hi).length c) (l.take hi) := by rw [hl]; exact hf
  have hd := hf2.cut (k := lo) (by omega)
  rw [if_neg (by omega), hl] at hd
  have esz : RCell.sz = 2 := rfl
  simp only [Option.map_some, Addr.add_lit, esz] at hd
  exact hd

set_option maxHeartbeats 1000000 in
theorem stretch_ok (So Si : Nat → Prop) (x : Value) (l : List CellV) (f t : Nat) (w : World) (hx : Slc RCell So Si w x l) (hft : f ≤ t) (ht : t < l.length) (hf3 : kindI l f = 3 → 0 < f) (ht2 : kindI l t = 2 → t + 1 < l.length) :
    Calls Tryd.prog 55 #[x, .int .i64 f, .int .i64 t] w fun e w' => ∃ v, e = .returned v ∧ Slc RCell So Si w v (stretchF l f t) ∧ w = w' := by
  obtain ⟨A, c, rfl, hc1, hc2, _⟩ := hx.open_
  obtain ⟨ab, off, v2, rfl, _, q0, _, _, _⟩ := cell_at hx.slb (k := f) (by omega)
  obtain ⟨ab', off', v3, hA, _, r0, _, _, _⟩ := cell_at hx.slb (k := t) ht
  obtain ⟨rfl, rfl⟩ : ab = ab' ∧ off = off' := by cases hA; exact ⟨rfl, rfl⟩
  clear hA
  have kf := kindI_at l f (by omega)
  have kt := kindI_at l t ht
  rw [kf] at hf3
  rw [kt] at ht2
  have hs : stretchF l f t = (l.take ((if l[t].1 = 2 then t + 1 else t) + 1)).drop (if l[f].1 = 3 then f - 1 else f) := by unfold stretchF toF fromF; rw [kf, kt]
  rw [hs]
  have key := fun (lo hi : Nat) (h1 : lo < hi) (h2 : hi ≤ l.length) => cells_sub hx h1 h2 hc1
  have KEY := hide key
  have hft' : (f : Int) < l.length := by omega
  have htt' : (t : Int) < l.length := by omega
  clear key hs kf kt
  by_cases h3 : l[f].1 = 3
  · obtain ⟨g, rfl⟩ : ∃ g, f = g + 1 := ⟨f - 1, by have := hf3 h3; omega⟩
    have e1 : (l[g + 1].1 == 3) = true := by simpa using h3
    have e0 : ((g + 1 : Nat) : Int) - 1 = g := by omega
    by_cases h2 : l[t].1 = 2
    · have e2 : (l[t].1 == 2) = true := by simpa using h2
      have hk := KEY.out g (t + 1 + 1) (by omega) (ht2 h2)
      have ht3 := ht2 h2
      have hcl : ¬ c = g := by omega
      have HK := hide hk
      rw [if_pos h2, if_pos h3, Nat.add_sub_cancel]
      clear hk h2 h3 hf3 ht2
      go_enter Tryd.func55, Tryd.ntmps55
      go_wp2
      go_ret
      exact ⟨_, rfl, HK.out, rfl⟩
    · have e2 : (l[t].1 == 2) = false := by simpa using h2
      have hk := KEY.out g (t + 1) (by omega) (by omega)
      have hcl : ¬ c = g := by omega
      have HK := hide hk
      rw [if_neg h2, if_pos h3, Nat.add_sub_cancel]
      clear hk h2 h3 hf3 ht2
      go_enter Tryd.func55, Tryd.ntmps55
      go_wp2
      go_ret
      exact ⟨_, rfl, HK.out, rfl⟩
  · have e1 : (l[f].1 == 3) = false := by simpa using h3
    by_cases h2 : l[t].1 = 2
    · have e2 : (l[t].1 == 2) = true := by simpa using h2
      have hk := KEY.out f (t + 1 + 1) (by omega) (ht2 h2)
      have ht3 := ht2 h2
      have hcl : ¬ c = f := by omega
      have HK := hide hk
      rw [if_pos h2, if_neg h3]
      clear hk h2 h3 hf3 ht2
      go_enter Tryd.func55, Tryd.ntmps55
      go_wp2
      go_ret
      exact ⟨_, rfl, HK.out, rfl⟩
    · have e2 : (l[t].1 == 2) = false := by simpa using h2
      have hk := KEY.out f (t + 1) (by omega) (by omega)
      have hcl : ¬ c = f := by omega
      have HK := hide hk
      rw [if_neg h2, if_neg h3]
      clear hk h2 h3 hf3 ht2
      go_enter Tryd.func55, Tryd.ntmps55
      go_wp2
      go_ret
      exact ⟨_, rfl, HK.out, rfl⟩

set_option maxHeartbeats 1000000 in
theorem inner_ok (So : Nat → Prop) (x : Value) (l : List CellV) (on : Bool) (w : World) (hx : Slc RCell So (fun b => b < w.heap.size) w x l) (hlen : l.length ≤ 1000000) (htx : ∀ c ∈ l, c.2.length ≤ 16) (hp : 0 < l.length) :
    Calls Tryd.prog 56 #[x, .bool on] w fun e w' => ∃ s, e = .returned s ∧ Own (Rep.int .i32) 21 [] w.heap.size w' s (innerF l on) ∧ Below w.heap.size w w' := by
  obtain ⟨A, c, rfl, hc1, hc2, _⟩ := hx.open_
  cases on with
  | false =>
    have hT := trimmed_ok So _ A c l w hx
    have hu := used_le l
    have hxt := hx.front (k := usedF l) hu
    have hl : (l.take (usedF l)).length = usedF l := by rw [List.length_take]; omega
    have hR := read_ok So _ (l.take (usedF l)) w hxt (by omega) (take_short htx _)
    have hrl := read_len (l.take (usedF l)) (take_short htx _)
    have hif : innerF l false = readF (l.take (usedF l)) ++ [10] := if_pos rfl
    rw [hif]
    rw [hl] at hrl
    generalize readF (l.take (usedF l)) = rd at *
    generalize usedF l = u at *
    have HT := hide hT
    have HR := hide hR
    clear hT hR hif hl hxt
    go_enter Tryd.func56, Tryd.ntmps56
    go_upto_region 2 with fail
    go_wp2_with (first
      | (go_at_call 58; refine HT.out.mono ?_; rintro e w1 ⟨rfl, rfl⟩)
      | (go_at_call 57; refine HR.out.mono ?_; rintro e w1 ⟨s1, rfl, hv1, hb1⟩; have hz1 := hb1.size; have hout := hv1.alloc (.cells #[.int .i32 10] 21); have hone := (own_i32 w1 [10] (by decide) 0 w1.heap.size 1 (Nat.zero_le _) rfl rfl (by simp [maxLen])).slc.flat_any (Flat.int .i32) (fun _ => False); simp only [List.map_cons, List.map_nil] at hone)
      | (at_builtin; refine wpList_appg rfl (.tmp 10) (.tmp 11) 22 rfl (Rep.int .i32) 21 [] w.heap.size 4 _ Tryd.underlying22 i32_info rfl (by decide) (by decide) _ _ rfl hout _ _ _ _ rfl hone (fun _ h => h.elim) (by simp; omega) (by simp; omega) ?_; intro v5 w5 hv5 hst5 hg5 hob5))
    go_ret
    exact ⟨_, rfl, hv5, (hb1.alloc hz1 _).trans (hst5.below (by simp; omega))⟩
  | true =>
    obtain ⟨m, hm⟩ : ∃ m, l.length = m + 1 := ⟨l.length - 1, by omega⟩
    have hml : m < l.length := by omega
    obtain ⟨ab, off, v2, rfl, _, q0, _, _, _⟩ := cell_at hx.slb (k := m) hml
    have ki := kindI_at l m hml
    have e0 : (l.length : Int) - 1 = m := by omega
    have hif : innerF l true = readF (if l[m].1 = 0 then l.take m else l) := by
      unfold innerF
      rw [if_neg (by simp), e0, ki, show l.length - 1 = m by omega]
    rw [hif]
    have hmi : (m : Int) < l.length := by omega
    have HM := hide hm
    by_cases h0 : l[m].1 = 0
    · have e1 : (l[m].1 == 0) = true := by simpa using h0
      have hxt := hx.front (k := m) (by omega)
      have hR := read_ok So _ (l.take m) w hxt (by rw [List.length_take]; omega) (take_short htx _)
      have HR := hide hR
      rw [if_pos h0]
      clear hm ki hif hR hxt h0
      go_enter Tryd.func56, Tryd.ntmps56
      go_wp2_with fail
      refine HR.out.mono ?_
      rintro e w1 ⟨s1, rfl, hv1, hb1⟩
      go_wp2
      go_ret
      exact ⟨_, rfl, hv1, hb1⟩
    · have e1 : (l[m].1 == 0) = false := by simpa using h0
      have hR := read_ok So _ l w hx hlen htx
      have HR := hide hR
      rw [if_neg h0]
      clear hm ki hif hR h0
      go_enter Tryd.func56, Tryd.ntmps56
      go_wp2_with fail
      refine HR.out.mono ?_
      rintro e w1 ⟨s1, rfl, hv1, hb1⟩
      go_wp2
      go_ret
      exact ⟨_, rfl, hv1, hb1⟩
end Go.Proofs.YtejhaepgbfngcaaDoor
