import Derived.Test.YtdjpdllehhecpaaGreatDoorQ10
open List renaming getElem?_toArray → zA, getElem?_cons_succ → zB, getElem?_cons_zero → zC, setIfInBounds_toArray → zD, set_cons_zero → zE, set_cons_succ → zF
namespace Go.Proofs.YtdjpdllehhecpaaGreatDoor
open Go.RowKit
set_option linter.unusedVariables false
set_option linter.unusedSimpArgs false
def replF (r : Int) : Int := if validB r = true then r else 65533
theorem replF_range (r : Int) (h0 : -2147483648 ≤ r) (h1 : r ≤ 2147483647) : -2147483648 ≤ replF r ∧ replF r ≤ 2147483647 := by
  unfold replF; split <;> omega
set_option maxHeartbeats 1000000 in
theorem Replace_ok (So Si : Nat → Prop) (x : Value) (l : List Int) (w : World) (hx : Slc (Rep.int .i32) So Si w x l) (hlen : l.length ≤ 100000) :
    Calls Tryz.prog 30 #[x] w fun e w' => ∃ v, e = .returned v ∧ Own (Rep.int .i32) 21 [] w.heap.size w' v (l.map replF) ∧ Below w.heap.size w w' := by
  obtain ⟨A1, c1, rfl, hd1, hd2, hB1⟩ := hx.open_
  obtain ⟨ti, hi1, hi2, hi3, hi4⟩ := info_parts i32_info
  go_enter Tryz.func30, Tryz.ntmps30
  go_wp2_with (refine wpList_make_own _ rfl (.const (.int .i64 0)) (.tmp 7) 24 rfl w.heap.size 21 ti _ 1 Tryz.underlying24 hi1 hi2 hi3 .i64 .i64 _ l.length rfl rfl rfl (by rw [hi4]; omega) (by simp [maxLen]; omega) (Nat.le_refl _) ?_; intro w1 hown1 hg1)
  have hb1 : Below w.heap.size w w1 := ⟨hg1.os, hg1.tape, hg1.output, hg1.size, fun k hk => hg1.block k hk (by simp)⟩
  have hO1 : Own (Rep.int .i32) 21 [] w.heap.size w1 (.slice (some ⟨w.heap.size, 0, none⟩) 0 l.length) [] := ⟨by simp, [], hown1, rfl⟩
  clear hi1 hi2 hi3 hi4
  go_loopw [3, 11] (fun out i wr => ∃ k : Nat, k ≤ l.length ∧ i = .int .i64 k ∧ Own (Rep.int .i32) 21 [] w.heap.size wr out ((l.take k).map replF) ∧ Below w.heap.size w wr) (fun _ i _ => l.length - (intOf i).toNat)
  case atStart => exact ⟨0, Nat.zero_le _, rfl, hO1, hb1⟩
  case round =>
    obtain ⟨k, hk, rfl, hown, hbel⟩ := hrel
    have hsz := hbel.size
    by_cases hlt : k < l.length
    · have hBk := hB1.ints_keep (Keep.below (S := So) hbel)
      obtain ⟨ab, off, rfl, _, hck, hwk⟩ := ints_at hBk hlt
      obtain ⟨hw0, hw1⟩ := i32_wf hwk
      have hsn : (l.take (k + 1)).map replF = (l.take k).map replF ++ [replF l[k]] := by rw [take_snoc' l k hlt, List.map_append]; rfl
      have hrg := replF_range l[k] hw0 hw1
      have hR := fun w => sValid_ok l[k] hw0 hw1 w
      have hlt2 : ((l.take k).map replF).length ≤ k := by simp; omega
      have hown2 := hown.alloc (.cells #[.int .i32 (replF l[k])] 21)
      have hone := own_i32 wr [replF l[k]] (by intro n hn; simp at hn; subst hn; exact wf_i32 hrg.1 hrg.2) wr.heap.size wr.heap.size 1 (Nat.le_refl _) rfl rfl (by simp [maxLen])
      have HSN := hide hsn
      have hrf : replF l[k] = if validB l[k] = true then l[k] else 65533 := rfl
      clear hsn hrg
      rcases Bool.eq_false_or_eq_true (validB l[k]) with hv | hv
      · rw [if_pos hv] at hrf
        rw [hv] at hR
        rw [hrf] at hown2 hone
        have HR := hide hR
        have HRF := hide hrf
        clear hR hv hrf
        go_wp2_with (first
          | (go_at_call 53; refine (HR.out _).mono ?_; rintro e w' ⟨rfl, rfl⟩)
          | (at_builtin; refine wpList_appi rfl (.tmp 18) (.tmp 20) 24 rfl .i32 21 w.heap.size 4 Tryz.underlying24 i32_info (by decide) _ _ rfl hown2 _ _ _ _ rfl hone.islc (by simp; omega) (by simp; omega) ?_; intro v3 w3 hv3 hst3))
        go_roundw
        case rel => exact ⟨k + 1, by omega, by go_num, by rw [HSN.out, HRF.out]; exact hv3, (hbel.alloc hsz _).trans (hst3.below (by simp; omega))⟩
        case measure => simp [intOf]; omega
      · rw [if_neg (by simp [hv])] at hrf
        rw [hv] at hR
        rw [hrf] at hown2 hone
        have HR := hide hR
        have HRF := hide hrf
        clear hR hv hrf
        go_wp2_with (first
          | (go_at_call 53; refine (HR.out _).mono ?_; rintro e w' ⟨rfl, rfl⟩)
          | (at_builtin; refine wpList_appi rfl (.tmp 18) (.tmp 20) 24 rfl .i32 21 w.heap.size 4 Tryz.underlying24 i32_info (by decide) _ _ rfl hown2 _ _ _ _ rfl hone.islc (by simp; omega) (by simp; omega) ?_; intro v3 w3 hv3 hst3))
        go_roundw
        case rel => exact ⟨k + 1, by omega, by go_num, by rw [HSN.out, HRF.out]; exact hv3, (hbel.alloc hsz _).trans (hst3.below (by simp; omega))⟩
        case measure => simp [intOf]; omega
    · have e : l.take k = l := List.take_of_length_le (by omega)
      rw [e] at hown
      go_wp2
      go_ret
      exact ⟨_, rfl, hown, hbel⟩
theorem range_two (f : Nat → Value) (a b : Value) (h : ∀ i, f (i * 2) = a ∧ f (i * 2 + 1) = b) : ∀ n, (List.range (n * 2)).map f = (List.replicate n [a, b]).flatten
  | 0 => rfl
  | n + 1 => by
    rw [show (n + 1) * 2 = n * 2 + 1 + 1 by omega, List.range_succ, List.range_succ, List.map_append, List.map_append, range_two f a b h n, List.replicate_succ', List.flatten_append]
    simp [(h n).1, (h n).2]
theorem made_two (a b : Value) (n : Nat) : (madeCells #[a, b] (n * 2)).toList = (List.replicate n [a, b]).flatten := by
  unfold madeCells
  rw [Array.toList_map, Array.toList_range]
  apply range_two
  intro i
  constructor
  · have : (i * 2) % (#[a, b] : Array Value).size = 0 := by simp
    rw [this]; rfl
  · have : (i * 2 + 1) % (#[a, b] : Array Value).size = 1 := by simp <;> omega
    rw [this]; rfl
theorem els_blanks (S : Nat → Prop) (w : World) : ∀ n, Els RCell S w (List.replicate n ((0, []) : CellV)) (List.replicate n [Value.int .i64 0, .slice none 0 0]).flatten
  | 0 => rfl
  | n + 1 => ⟨[Value.int .i64 0, .slice none 0 0], _, rfl, ⟨[.int .i64 0], [.slice none 0 0], rfl, ⟨rfl, by decide⟩, _, rfl, Slc.nil_⟩, els_blanks S w n⟩
def blanksN (n : Int) : Nat := (max 0 (min n 1024)).toNat
theorem Blanks_ok (n : Int) (hn : (Lit.int .i64 n).wf = true) (w : World) :
    Calls Tryz.prog 57 #[.int .i64 n] w fun e w' => ∃ v, e = .returned v ∧ Own RCell 86 [21] w.heap.size w' v (List.replicate (blanksN n) (0, [])) ∧ Below w.heap.size w w' := by
  obtain ⟨ti, hi1, hi2, hi3, hi4⟩ := info_parts cell_info
  have key : ∀ (m : Nat) (w1 : World), m ≤ 1024 → w1.ownsRow w.heap.size 86 RCell.sz (.slice (some ⟨w.heap.size, 0, none⟩) m m) m (madeCells (Value.agg #[.int .i64 0, .slice none 0 0]).cells (m * RCell.sz)).toList → w.grownBy w1 none →
      Own RCell 86 [21] w.heap.size w1 (.slice (some ⟨w.heap.size, 0, none⟩) m m) (List.replicate m (0, [])) ∧ Below w.heap.size w w1 := by
    intro m w1 hm hown hg
    refine ⟨⟨by decide, _, by rw [List.length_replicate]; exact hown, ?_⟩, hg.os, hg.tape, hg.output, hg.size, fun k hk => hg.block k hk (by simp)⟩
    have e : (madeCells (Value.agg #[.int .i64 0, .slice none 0 0]).cells (m * RCell.sz)).toList = (List.replicate m [Value.int .i64 0, .slice none 0 0]).flatten := made_two _ _ m
    rw [e]
    exact els_blanks _ _ _
  have KEY := hide key
  clear key
  have hc : n ≤ 0 ∨ (0 < n ∧ n ≤ 1024) ∨ 1024 < n := by omega
  rcases hc with h0 | ⟨h0, h1⟩ | h0
  · have hb : blanksN n = 0 := by unfold blanksN; omega
    have HB := hide hb
    have h1 : n ≤ 1024 := by omega
    clear hb
    go_enter Tryz.func57, Tryz.ntmps57
    go_wp2_with (refine wpList_make_full _ rfl (.tmp 5) (.tmp 5) 48 rfl w.heap.size 86 ti _ RCell.sz Tryz.underlying48 hi1 hi2 hi3 .i64 .i64 _ _ 0 rfl rfl rfl rfl (by rw [hi4]; omega) (by simp only [maxLen]; omega) (Nat.le_refl _) ?_; intro w1 hown1 hg1; obtain ⟨hO1, hB1⟩ := KEY.out 0 w1 (by omega) hown1 hg1)
    go_ret
    rw [HB.out]
    exact ⟨_, rfl, hO1, hB1⟩
  · obtain ⟨m, rfl⟩ := Int.eq_ofNat_of_zero_le (Int.le_of_lt h0)
    have hb : blanksN (m : Int) = m := by unfold blanksN; omega
    have HB := hide hb
    clear hb
    go_enter Tryz.func57, Tryz.ntmps57
    go_wp2_with (refine wpList_make_full _ rfl (.tmp 5) (.tmp 5) 48 rfl w.heap.size 86 ti _ RCell.sz Tryz.underlying48 hi1 hi2 hi3 .i64 .i64 _ _ m rfl rfl rfl rfl (by rw [hi4]; omega) (by simp only [maxLen]; omega) (Nat.le_refl _) ?_; intro w1 hown1 hg1; obtain ⟨hO1, hB1⟩ := KEY.out m w1 (by omega) hown1 hg1)
    go_ret
    rw [HB.out]
    exact ⟨_, rfl, hO1, hB1⟩
  · have hb : blanksN n = 1024 := by unfold blanksN; omega
    have HB := hide hb
    clear hb
    go_enter Tryz.func57, Tryz.ntmps57
    go_wp2_with (refine wpList_make_full _ rfl (.tmp 5) (.tmp 5) 48 rfl w.heap.size 86 ti _ RCell.sz Tryz.underlying48 hi1 hi2 hi3 .i64 .i64 _ _ 1024 rfl rfl rfl rfl (by rw [hi4]; omega) (by simp only [maxLen]; omega) (Nat.le_refl _) ?_; intro w1 hown1 hg1; obtain ⟨hO1, hB1⟩ := KEY.out 1024 w1 (by omega) hown1 hg1)
    go_ret
    rw [HB.out]
    exact ⟨_, rfl, hO1, hB1⟩
end Go.Proofs.YtdjpdllehhecpaaGreatDoor
namespace Go.Proofs.YtdjpdllehhecpaaGreatDoor
open Go.RowKit
set_option linter.unusedVariables false
set_option linter.unusedSimpArgs false
theorem own_typed {e : TypeId} {base base' : Nat} {w : World} {v : Value} {l : List Int} (h : Own (Rep.int .i32) e [] base w v l) (S : Nat → Prop) : Slc (Rep.int .i32) (Typed base' [e] w) S w v l :=
  (h.islc.ints_any S).ints_keep (Keep.weaken fun b hb => Fresh.typed (by simp) b hb.2)
theorem own_open {α : Type} {R : Rep α} {e : TypeId} {T : List TypeId} {base : Nat} {w : World} {v : Value} {l : List α} (h : Own R e T base w v l) (hl : 0 < l.length) :
    ∃ g cap xs rest, v = .slice (some ⟨g, 0, none⟩) l.length cap ∧ base ≤ g ∧ Blk w g e (xs ++ rest).toArray ∧ xs.length = l.length * R.sz ∧ Els R (Typed base T w) w l xs ∧ (xs ++ rest).length = cap * R.sz ∧ l.length ≤ cap ∧ cap ≤ maxLen := by
  obtain ⟨hT, xs, ⟨hx, hown⟩, hels⟩ := h
  rcases hown with ⟨_, h0⟩ | ⟨g, cap, cur, rfl, hb, hh, hc, hm, hs, ht⟩
  · omega
  · refine ⟨g, cap, xs, cur.toList.drop (l.length * R.sz), rfl, hb, ?_, hx, hels, ?_, hc, hm⟩
    · rw [← ht, List.take_append_drop]; exact hh
    · rw [← ht, List.take_append_drop]; simpa using hs
theorem cell_E {S : Nat → Prop} {w : World} {k : Int} {v : Value} {t : List Int} (hk : (Lit.int .i64 k).wf = true) (hv : Slc (Rep.int .i32) S S w v t) : RCell.E S w [.int .i64 k, v] (k, t) :=
  ⟨[.int .i64 k], [v], rfl, ⟨rfl, hk⟩, v, rfl, hv⟩
theorem els_cell1 {S : Nat → Prop} {w : World} {k : Int} {v : Value} {t : List Int} (hk : (Lit.int .i64 k).wf = true) (hv : Slc (Rep.int .i32) S S w v t) : Els RCell S w [(k, t)] [.int .i64 k, v] := Els.single (cell_E hk hv)
theorem els_cell2 {S : Nat → Prop} {w : World} {k k' : Int} {v v' : Value} {t t' : List Int} (hk : (Lit.int .i64 k).wf = true) (hv : Slc (Rep.int .i32) S S w v t) (hk' : (Lit.int .i64 k').wf = true) (hv' : Slc (Rep.int .i32) S S w v' t') :
    Els RCell S w [(k, t), (k', t')] [.int .i64 k, v, .int .i64 k', v'] := (els_cell1 hk hv).append (els_cell1 hk' hv')
def ofF (wide : Int) (text : List Int) : List CellV :=
  if text.length = 0 then (if 1 < wide then [(0, []), (0, [])] else [(0, [])]) else (if 1 < wide then [(2, (text.take 16).map replF), (3, [])] else [(1, (text.take 16).map replF)])
end Go.Proofs.YtdjpdllehhecpaaGreatDoor
namespace Go.Proofs.YtdjpdllehhecpaaGreatDoor
open Go.RowKit
set_option linter.unusedVariables false
set_option linter.unusedSimpArgs false
theorem els_cell2_inv {S : Nat → Prop} {w : World} {k k' : Int} {t t' : List Int} {xs : List Value} (h : Els RCell S w [(k, t), (k', t')] xs) :
    ∃ v v', xs = [.int .i64 k, v, .int .i64 k', v'] ∧ Slc (Rep.int .i32) S S w v t ∧ Slc (Rep.int .i32) S S w v' t' := by
  obtain ⟨u, xs1, rfl, ⟨a1, a2, rfl, ⟨rfl, _⟩, v, rfl, hv⟩, u', xs2, rfl, ⟨b1, b2, rfl, ⟨rfl, _⟩, v', rfl, hv'⟩, rfl⟩ := h
  exact ⟨v, v', rfl, hv, hv'⟩
end Go.Proofs.YtdjpdllehhecpaaGreatDoor
namespace Go.Proofs.YtdjpdllehhecpaaGreatDoor
open Go.RowKit
set_option linter.unusedVariables false
set_option linter.unusedSimpArgs false
theorem soundG_drop (l : List CellV) (k : Nat) (hk : k < l.length) (lead : Bool) : soundG lead (l.drop k) = (rightB l[k] && (lead == decide (l[k].1 = 3)) && soundG (decide (l[k].1 = 2)) (l.drop (k + 1))) := by
  rw [List.drop_eq_getElem_cons hk]; rfl
set_option maxHeartbeats 1000000 in
theorem Sound_ok (So Si : Nat → Prop) (x : Value) (l : List CellV) (w : World) (hx : Slc RCell So Si w x l) :
    Calls Tryz.prog 32 #[x] w fun e w' => e = .returned (.bool (soundB l)) ∧ Below w.heap.size w w' := by
  obtain ⟨A, c, rfl, hc1, hc2, hB⟩ := hx.open_
  go_enter Tryz.func32, Tryz.ntmps32
  go_wp2
  go_loopw [3, 8] (fun b i wr => ∃ (k : Nat) (B : Bool), k ≤ l.length ∧ i = .int .i64 k ∧ b = .bool B ∧ soundB l = soundG B (l.drop k) ∧ Below w.heap.size w wr) (fun _ i _ => l.length - (intOf i).toNat)
  case atStart => exact ⟨0, false, Nat.zero_le _, rfl, rfl, rfl, Below.refl _ _⟩
  case round =>
    obtain ⟨k, B, hk, rfl, rfl, hto, hbel⟩ := hrel
    have hsz := hbel.size
    have hxk := hx.mono (Keep.below (S := So) hbel) (Keep.below (S := Si) hbel)
    by_cases hlt : k < l.length
    · rw [soundG_drop l k hlt] at hto
      obtain ⟨ab, off, v, rfl, _, q0, q1, hw, hv⟩ := cell_at hxk.slb hlt
      obtain ⟨A', c', rfl, hd1, hd2, _⟩ := hv.open_
      have hva := hv.ints_keep (Keep.alloc Si wr (.cells #[.int .i64 l[k].1, .slice A' l[k].2.length c'] 86))
      have hR := Right_ok _ _ _ _ l[k].2 _ hw hva
      have HR := hide hR
      have HTO := hide hto
      clear hR hto
      go_wp2_with fail
      refine HR.out.mono ?_
      rintro e w1 ⟨rfl, hb1⟩
      have hg : Blk w1 wr.heap.size 86 #[.int .i64 l[k].1, .slice A' l[k].2.length c'] := (Blk.new wr _ _).same hb1
      have z0 := hg.cell 0
      have z1 := hg.cell 1
      simp only [zA, zB, zC] at z0 z1
      have hbel1 := (hbel.alloc hsz (.cells #[.int .i64 l[k].1, .slice A' l[k].2.length c'] 86)).trans (hb1.mono (by simp; omega))
      generalize hrb : rightB (l[k].1, l[k].2) = rb at *
      generalize hkd : l[k].1 = kd at *
      clear HR hrb hkd hg
      cases rb with
      | false =>
        have hfin : soundB l = false := by rw [HTO.out]; rfl
        have HF := hide hfin
        clear hfin
        go_wp2
        go_ret
        exact ⟨ret_1 (bool_eq HF.out.symm), hbel1⟩
      | true =>
        by_cases h3 : kd = 3
        · subst h3
          cases B with
          | false =>
            have hfin : soundB l = false := by rw [HTO.out]; rfl
            have HF := hide hfin
            clear hfin
            go_wp2
            go_ret
            exact ⟨ret_1 (bool_eq HF.out.symm), hbel1⟩
          | true =>
            have hfin : soundB l = soundG false (l.drop (k + 1)) := by rw [HTO.out]; simp
            have HF := hide hfin
            clear hfin
            go_wp2
            go_roundw
            case rel => exact ⟨k + 1, false, by omega, by go_num, rfl, HF.out, hbel1⟩
            case measure => simp [intOf]; omega
        · have hb3 : (kd == 3) = false := by simpa using h3
          cases B with
          | true =>
            have hfin : soundB l = false := by rw [HTO.out]; simp [h3]
            have HF := hide hfin
            clear hfin h3
            go_wp2
            go_ret
            exact ⟨ret_1 (bool_eq HF.out.symm), hbel1⟩
          | false =>
            have hfin : soundB l = soundG (kd == 2) (l.drop (k + 1)) := by rw [HTO.out]; simp [h3]; rfl
            have HF := hide hfin
            clear hfin h3
            go_wp2
            go_roundw
            case rel => exact ⟨k + 1, _, by omega, by go_num, rfl, HF.out, hbel1⟩
            case measure => simp [intOf]; omega
    · rw [List.drop_eq_nil_of_le (by omega)] at hto
      have HF := hide hto
      clear hto
      go_wp2
      go_ret
      exact ⟨ret_1 (bool_eq (by rw [HF.out]; rfl)), hbel⟩
end Go.Proofs.YtdjpdllehhecpaaGreatDoor
