/-
  What the functions that read a row as a text return: how far it is used, its text, its text with blanks. Each function once.
-/
import Derived.Test.YthjddpflcgcpiaaDoorRow3
import Derived.Test.YthjddpflcgcpiaaDoorTxt0
namespace Go.Proofs.YthjddpflcgcpiaaDoor
open Go.RowKit
set_option linter.unusedVariables false
set_option linter.unusedSimpArgs false

theorem text_len : ∀ (l : List CellV), (∀ c ∈ l, c.2.length ≤ 16) → (textF l).length ≤ 16 * l.length
  | [], _ => by simp [textF]
  | c :: l, h => by
    have ih := text_len l (fun d hd => h d (List.mem_cons.2 (.inr hd)))
    have h1 := h c (List.mem_cons.2 (.inl rfl))
    unfold textF at ih ⊢
    rw [List.flatMap_cons, List.length_append, List.length_cons]
    omega
theorem text_take (l : List CellV) (k : Nat) (h : k < l.length) : textF (l.take (k + 1)) = textF (l.take k) ++ l[k].2 := by
  unfold textF
  rw [take_snoc' l k h, List.flatMap_append]; simp
theorem take_short {l : List CellV} (h : ∀ c ∈ l, c.2.length ≤ 16) (k : Nat) : ∀ c ∈ l.take k, c.2.length ≤ 16 := fun c hc => h c (List.mem_of_mem_take hc)

set_option maxHeartbeats 1000000 in
theorem Used_ok (base : Nat) (v : Value) (l : List CellV) (wrap : Bool) (w : World) (h : RowIs base w v l wrap) (hlen : l.length ≤ 100000) (htx : ∀ c ∈ l, c.2.length ≤ 16) :
    Calls Tryd.prog 37 #[v] w fun e w' => e = .returned (.int .i64 (usedF l)) ∧ Below w.heap.size w w' := by
  have HH := hide h
  obtain ⟨g0, s0, rfl, _, _, _⟩ := h
  have HTX := hide htx
  clear htx
  go_enter Tryd.func37, Tryd.ntmps37
  go_wp2_with fail
  refine (Cells_ok _ _ _ _ _ HH.out hlen HTX.out).mono ?_
  rintro e w1 ⟨v1, rfl, hv1, hb1⟩
  have hz1 := hb1.size
  obtain ⟨A1, c1, rfl, _, _, hB1⟩ := hv1.slc.open_
  go_wp2
  go_loopw [4] (fun n wr => ∃ k : Nat, k ≤ l.length ∧ n = .int .i64 k ∧ usedF l = usedF (l.take k) ∧ wr = w1) (fun n _ => (intOf n).toNat)
  case atStart => exact ⟨l.length, Nat.le_refl _, rfl, by rw [List.take_length], rfl⟩
  case round =>
    obtain ⟨k, hk, rfl, hu, rfl⟩ := hrel
    by_cases h0 : k = 0
    · subst h0
      have HU := hide hu
      clear hu
      go_wp2
      go_ret
      refine ⟨?_, hb1⟩
      rw [HU.out]; rfl
    · obtain ⟨j, rfl⟩ : ∃ j, k = j + 1 := ⟨k - 1, by omega⟩
      have e1 : ((j + 1 : Nat) : Int) - 1 = j := by omega
      obtain ⟨ab, off, v2, rfl, _, q0, q1, hw, hv⟩ := cell_at hB1 (k := j) (by omega)
      have hut := used_take l j (by omega)
      by_cases hc : l[j].1 = 0
      · have hc2 : (l[j].1 != 0) = false := by simp [hc]
        rw [if_pos hc] at hut
        have HU := hide (hu.trans hut)
        clear hu hut hc
        go_wp2
        go_roundw
        case rel => exact ⟨j, by omega, by go_num, HU.out, trivial⟩
        case measure => simp [intOf]
      · have hc2 : (l[j].1 != 0) = true := by simp [hc]
        rw [if_neg hc] at hut
        have HU := hide (hu.trans hut)
        clear hu hut hc
        go_wp2
        go_ret
        rw [HU.out]
        exact ⟨rfl, hb1⟩

theorem Used_nil (w : World) :
    Calls Tryd.prog 37 #[.pointer none] w fun e w' => e = .returned (.int .i64 0) ∧ w = w' := by
  go_enter Tryd.func37, Tryd.ntmps37
  go_wp2_with fail
  refine (Cells_nil _).mono ?_
  rintro e w1 ⟨rfl, rfl⟩
  go_wp2
  go_loopw [4] (fun n wr => n = .int .i64 0 ∧ wr = w) (fun n _ => 0)
  case atStart => exact ⟨rfl, rfl⟩
  case round =>
    obtain ⟨rfl, rfl⟩ := hrel
    go_wp2
    go_ret
    exact ⟨rfl, rfl⟩

set_option maxHeartbeats 1000000 in
theorem Text_ok (base : Nat) (v : Value) (l : List CellV) (wrap : Bool) (w : World) (h : RowIs base w v l wrap) (hlen : l.length ≤ 100000) (htx : ∀ c ∈ l, c.2.length ≤ 16) :
    Calls Tryd.prog 33 #[v] w fun e w' => ∃ s, e = .returned s ∧ Own (Rep.int .i32) 21 [] w.heap.size w' s (textF l) ∧ Below w.heap.size w w' := by
  have HH := hide h
  obtain ⟨g0, s0, rfl, _, _, _⟩ := h
  have HTX := hide htx
  clear htx
  go_enter Tryd.func33, Tryd.ntmps33
  go_wp2_with fail
  refine (Cells_ok _ _ _ _ _ HH.out hlen HTX.out).mono ?_
  rintro e w1 ⟨v1, rfl, hv1, hb1⟩
  have hz1 := hb1.size
  obtain ⟨A1, c1, rfl, _, _, _⟩ := hv1.slc.open_
  go_wp2
  go_loopw [3, 9] (fun out i wr => ∃ k : Nat, k ≤ l.length ∧ i = .int .i64 k ∧ Own (Rep.int .i32) 21 [] w1.heap.size wr out (textF (l.take k)) ∧ Below w1.heap.size w1 wr) (fun _ i _ => l.length - (intOf i).toNat)
  case atStart => exact ⟨0, Nat.zero_le _, rfl, Own.nil_ _ _ _ _ _ (by decide), Below.refl _ _⟩
  case round =>
    obtain ⟨k, hk, rfl, hout, hbel⟩ := hrel
    have hsz := hbel.size
    by_cases hlt : k < l.length
    · have hv1r := hv1.below hbel
      obtain ⟨ab, off, v2, rfl, hab, q0, q1, hw, hv⟩ := cell_at hv1r.slc.slb hlt
      have hsn := text_take l k hlt
      have HSN := hide hsn
      have hln := HTX.out l[k] (List.getElem_mem _)
      have htl := text_len _ (take_short HTX.out k)
      have htl2 : (l.take k).length ≤ k := List.length_take_le _ _
      clear hsn
      have hv2 := hv.flat_any (Flat.int .i32) (fun _ => False)
      obtain ⟨A2, c2, rfl, _, _, _⟩ := hv.open_
      have hout2 := hout.alloc (.cells #[.int .i64 l[k].1, .slice A2 l[k].2.length c2] 46)
      have hv3 := hv2.mono (Keep.alloc _ wr (.cells #[.int .i64 l[k].1, .slice A2 l[k].2.length c2] 46)) (Keep.alloc _ wr (.cells #[.int .i64 l[k].1, .slice A2 l[k].2.length c2] 46))
      go_wp2_with (at_builtin; refine wpList_appg rfl (.tmp 13) (.tmp 15) 44 rfl (Rep.int .i32) 21 [] w1.heap.size 4 _ Tryd.underlying44 i32_info rfl (by decide) (by decide) _ _ rfl hout2 _ _ _ _ rfl hv3 (fun _ h => h.elim) (by omega) (by simp; omega) ?_; intro v5 w5 hv5 hst5 hg5 hob5)
      go_roundw
      case rel => exact ⟨k + 1, by omega, by go_num, by rw [HSN.out]; exact hv5, (hbel.alloc hsz _).trans (hst5.below (by simp; omega))⟩
      case measure => simp [intOf]; omega
    · have e : l.take k = l := List.take_of_length_le (by omega)
      rw [e] at hout
      go_wp2
      go_ret
      exact ⟨_, rfl, hout.flat_base (Flat.int .i32) hz1 (by decide), hb1.trans (hbel.mono hz1)⟩
end Go.Proofs.YthjddpflcgcpiaaDoor
