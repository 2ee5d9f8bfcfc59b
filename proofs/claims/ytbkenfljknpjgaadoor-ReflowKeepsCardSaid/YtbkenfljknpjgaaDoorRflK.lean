/-
  Several texts of this seat as one: Keep, Law51k.
-/
import Derived.Test.YtbkenfljknpjgaaDoorRflC
namespace Go.Proofs.YtbkenfljknpjgaaDoor
open Go.RowKit
set_option linter.unusedVariables false
set_option linter.unusedSimpArgs false

/-- The items that a line counts for. -/
def lineI (l : List LineV) (i : Nat) : List ItemV := cntF (decide (i + 1 < l.length)) (itemsF (l.getD i ([], false)).1)
/-- Where every line but the last goes on there is one long line. -/
theorem lon_keep (l : List LineV) (hw : ∀ k (hk : k < l.length), (l[k].2 = true ↔ k + 1 < l.length)) : ∀ k, k + 1 ≤ l.length → lonS l (k + 1) = ([(List.range (k + 1)).flatMap (lineI l)], decide (k + 1 < l.length)) := by
  have hb : ∀ k (hk : k < l.length), lonB l k l[k] = decide (k + 1 < l.length) := fun k hk => by
    unfold lonB
    have := hw k hk
    by_cases h : k + 1 < l.length
    · rw [this.2 h, decide_eq_true h]; rfl
    · rw [decide_eq_false h, Bool.and_false]
  have hi : ∀ k (hk : k < l.length), cntF (lonB l k l[k]) (itemsF l[k].1) = lineI l k := fun k hk => by
    unfold lineI
    rw [hb k hk, List.getD_eq_getElem?_getD, List.getElem?_eq_getElem hk]; rfl
  intro k
  induction k with
  | zero =>
    intro hk
    rw [lonS_succ (by omega), hi 0 (by omega), hb 0 (by omega)]
    simp [lonS, lonO, lonP]
  | succ k ih =>
    intro hk
    rw [lonS_succ (by omega), hi (k + 1) (by omega), hb (k + 1) (by omega), ih (by omega)]
    have e : decide (k + 1 < l.length) = true := decide_eq_true (by omega)
    rw [e, List.range_succ (n := k + 1), List.flatMap_append]
    simp [lonO, lonP]
theorem long_keep (l : List LineV) (h0 : 0 < l.length) (hw : ∀ k (hk : k < l.length), (l[k].2 = true ↔ k + 1 < l.length)) : longF l = [(List.range l.length).flatMap (lineI l)] := by
  obtain ⟨k, hk⟩ : ∃ k, l.length = k + 1 := ⟨l.length - 1, by omega⟩
  have h := lon_keep l hw k (by omega)
  unfold longF
  rw [hk, h]

/-- Items of cells and blanks behind them. -/
theorem items_fill (x : List ItemV) (h : ∀ i ∈ x, rightI i = true) (n : Nat) : itemsF (cellsI x ++ List.replicate n (0, [])) = x ++ List.replicate n (1, []) := by
  have e : cellsI x ++ List.replicate n ((0, []) : CellV) = cellsI (x ++ List.replicate n (1, [])) := by
    unfold cellsI
    rw [List.flatMap_append]
    congr 1
    induction n with
    | zero => rfl
    | succ n ih => rw [List.replicate_succ, List.replicate_succ, List.flatMap_cons, ← ih]; rfl
  rw [e]
  refine (cells_back _ (fun i hi => ?_)).1
  rcases List.mem_append.1 hi with hi | hi
  · exact h i hi
  · rw [List.eq_of_mem_replicate hi]; decide
/-- Blanks behind items that are not are cut. -/
theorem cutN_fill (x : List ItemV) (h : ∀ i ∈ x, i.2.length ≠ 0) (m : Nat) : ∀ n, n ≤ m → cutN (x ++ List.replicate m (1, [])) (x.length + n) = x.length
  | 0, _ => by
    cases hx : x.length with
    | zero => rfl
    | succ k =>
      have hk : k < x.length := by omega
      have hk2 : k < (x ++ List.replicate m ((1, []) : ItemV)).length := by rw [List.length_append]; omega
      refine (cut_keep hk2 ?_).1
      rw [List.getElem_append_left hk]
      exact h _ (List.getElem_mem _)
  | n + 1, hn => by
    have hk2 : x.length + n < (x ++ List.replicate m ((1, []) : ItemV)).length := by rw [List.length_append, List.length_replicate]; omega
    have e := (cut_blank hk2 (by rw [List.getElem_append_right (by omega), List.getElem_replicate]; rfl)).1
    rw [← Nat.add_assoc, e]
    exact cutN_fill x h m n (by omega)
theorem cnt_end (x : List ItemV) (h : ∀ i ∈ x, i.2.length ≠ 0) (m : Nat) : cntF false (x ++ List.replicate m (1, [])) = x := by
  have e := cutN_fill x h m m (Nat.le_refl _)
  unfold cntF cntN
  rw [if_neg (by decide), List.length_append, List.length_replicate, e, List.take_left]
theorem cnt_on (x : List ItemV) (h : ∀ i ∈ x, i.2.length ≠ 0) (m : Nat) (hm : m ≤ 1) : cntF true (x ++ List.replicate m (1, [])) = x := by
  unfold cntF cntN
  rw [if_pos rfl, List.length_append, List.length_replicate]
  rcases (by omega : m = 0 ∨ m = 1) with rfl | rfl
  · cases hx : x.length with
    | zero =>
      obtain rfl := List.eq_nil_of_length_eq_zero hx
      rfl
    | succ k =>
      have hk : k < x.length := by omega
      have hk2 : k < (x ++ List.replicate 0 ((1, []) : ItemV)).length := by rw [List.length_append]; omega
      have e := (cut_keep hk2 (by rw [List.getElem_append_left hk]; exact h _ (List.getElem_mem _))).2
      rw [Nat.add_zero, e, ← hx, List.take_left]
  · have hk2 : x.length < (x ++ List.replicate 1 ((1, []) : ItemV)).length := by rw [List.length_append, List.length_replicate]; omega
    have e := (cut_blank hk2 (by rw [List.getElem_append_right (by omega), List.getElem_replicate]; rfl)).2
    rw [e, List.take_left]
theorem range_flat (gs : List (List ItemV)) (f : Nat → List ItemV) (h : ∀ i (hi : i < gs.length), f i = gs[i]) : (List.range gs.length).flatMap f = gs.flatten := by
  have e : (List.range gs.length).map f = gs := by
    apply List.ext_getElem
    · simp
    · intro i h1 h2
      rw [List.getElem_map, List.getElem_range]
      exact h i h2
  rw [List.flatMap_def, e]
theorem ofF_two (i : ItemV) (h : rightI i = true) : (ofF i.1 i.2).length ≤ 2 := by
  rcases right_cells i h with ⟨_, _, e⟩ | ⟨_, e, _⟩ | ⟨_, e, _⟩ <;> rw [e] <;> simp
theorem cellsW_two {w : Nat} (hw : 2 ≤ w) (i : ItemV) (h : rightI i = true) : cellsW w i = ofF i.1 i.2 := by
  have := ofF_two i h
  unfold cellsW
  rw [if_neg (by omega)]
theorem cellsI_snoc (x : List ItemV) (i : ItemV) : cellsI (x ++ [i]) = cellsI x ++ ofF i.1 i.2 := by
  unfold cellsI
  rw [List.flatMap_append]
  simp
/-- Which items stand on which line. -/
structure Groups (w : Nat) (x : List ItemV) (s : BrkS) (gs : List (List ItemV)) (xl : List ItemV) : Prop where
  all : x = gs.flatten ++ xl
  line : s.2 = cellsI xl
  out : s.1 = gs.map (fun g => (fillL w (cellsI g), true))
  full : ∀ g ∈ gs, w - (cellsI g).length ≤ 1
theorem groups_ok (w : Nat) (hw : 2 ≤ w) (x : List ItemV) (h : ∀ i ∈ x, rightI i = true) : ∀ k, k ≤ x.length → ∃ gs xl, Groups w (x.take k) (brkS w (x.take k)) gs xl
  | 0, _ => ⟨[], [], ⟨by simp, by simp [brkS, cellsI], by simp [brkS], fun g hg => by cases hg⟩⟩
  | k + 1, hk => by
    obtain ⟨gs, xl, h1, h2, h3, h4⟩ := groups_ok w hw x h k (by omega)
    have hr := h x[k] (List.getElem_mem (by omega))
    rw [brkS_snoc w x k (by omega), cellsW_two hw x[k] hr, take_snoc' x k (by omega)]
    have h5 := ofF_two x[k] hr
    generalize brkS w (x.take k) = s at *
    obtain ⟨out, line⟩ := s
    simp only at h2 h3
    by_cases hroom : w - line.length < (ofF x[k].1 x[k].2).length
    · have e : putS w (out, line) (ofF x[k].1 x[k].2) = (out ++ [(fillL w line, true)], [] ++ ofF x[k].1 x[k].2) := by
        unfold putS roomS
        rw [if_pos hroom]
        rfl
      rw [e]
      refine ⟨gs ++ [xl], [x[k]], ⟨by rw [h1]; simp, by simp [cellsI], by simp only; rw [h3, List.map_append, h2]; rfl, fun g hg => ?_⟩⟩
      rcases List.mem_append.1 hg with hg | hg
      · exact h4 g hg
      · rw [List.mem_singleton] at hg
        subst hg
        rw [← h2]
        omega
    · have e : putS w (out, line) (ofF x[k].1 x[k].2) = (out, line ++ ofF x[k].1 x[k].2) := by
        unfold putS roomS
        rw [if_neg hroom]
      rw [e]
      exact ⟨gs, xl ++ [x[k]], ⟨by rw [h1, List.append_assoc], by simp only; rw [h2, cellsI_snoc], h3, h4⟩⟩
theorem mem_groups {gs : List (List ItemV)} {xl x : List ItemV} (h : x = gs.flatten ++ xl) : (∀ g ∈ gs, ∀ i ∈ g, i ∈ x) ∧ ∀ i ∈ xl, i ∈ x := by
  subst h
  exact ⟨fun g hg i hi => List.mem_append_left _ (List.mem_flatten.2 ⟨g, hg, hi⟩), fun i hi => List.mem_append_right _ hi⟩
/-- Items that are right and not blank stay. -/
theorem keep_ok (w : Nat) (hw : 2 ≤ w) (x : List ItemV) (h : ∀ i ∈ x, rightI i = true) (hb : ∀ i ∈ x, i.2.length ≠ 0) : longF (brkF w x) = [x] := by
  obtain ⟨h0, hall⟩ := brkF_ok w (by omega) x h
  rw [long_keep (brkF w x) h0 (fun k hk => (hall k hk).2.2)]
  obtain ⟨gs, xl, h1, h2, h3, h4⟩ := groups_ok w hw x h x.length (Nat.le_refl _)
  rw [List.take_of_length_le (Nat.le_refl _)] at h1 h2 h3
  have e : brkF w x = gs.map (fun g => (fillL w (cellsI g), true)) ++ [(fillL w (cellsI xl), false)] := by
    show (brkS w x).1 ++ [(fillL w (brkS w x).2, false)] = _
    rw [h2, h3]
  have hl : (brkF w x).length = (gs ++ [xl]).length := by rw [e]; simp
  obtain ⟨m1, m2⟩ := mem_groups h1
  have hf : ∀ i (hi : i < (gs ++ [xl]).length), lineI (brkF w x) i = (gs ++ [xl])[i] := by
    intro i hi
    rw [List.length_append, List.length_singleton] at hi
    unfold lineI
    rw [hl, List.length_append, List.length_singleton]
    by_cases hlt : i < gs.length
    · have e2 : (brkF w x).getD i ([], false) = (fillL w (cellsI gs[i]), true) := by
        rw [e, List.getD_eq_getElem?_getD, List.getElem?_append_left (by simpa using hlt), List.getElem?_map, List.getElem?_eq_getElem hlt]; rfl
      have hm := List.getElem_mem hlt
      rw [e2, decide_eq_true (by omega), List.getElem_append_left hlt]
      simp only [fillL]
      rw [items_fill _ (fun j hj => h j (m1 _ hm j hj))]
      exact cnt_on _ (fun j hj => hb j (m1 _ hm j hj)) _ (h4 _ hm)
    · have hie : i = gs.length := by omega
      subst hie
      have e2 : (brkF w x).getD gs.length ([], false) = (fillL w (cellsI xl), false) := by
        rw [e, List.getD_eq_getElem?_getD, List.getElem?_append_right (by simp)]; simp
      rw [e2, decide_eq_false (by omega), List.getElem_append_right (by omega)]
      simp only [fillL]
      rw [items_fill _ (fun j hj => h j (m2 j hj))]
      simpa using cnt_end xl (fun j hj => hb j (m2 j hj)) _
  rw [hl, range_flat (gs ++ [xl]) _ hf, List.flatten_append]
  simp [h1]
end Go.Proofs.YtbkenfljknpjgaaDoor

namespace Go.Proofs.YtbkenfljknpjgaaDoor
open Go.RowKit
set_option linter.unusedVariables false
set_option linter.unusedSimpArgs false

theorem bad_of_right : ∀ (x : List ItemV) (k : Nat), (∀ i ∈ x, rightI i = true) → badFrom x k = none
  | [], _, _ => rfl
  | i :: x, k, h => by
    rw [badFrom, if_pos (h i (List.mem_cons.2 (.inl rfl)))]
    exact bad_of_right x (k + 1) (fun j hj => h j (List.mem_cons.2 (.inr hj)))
theorem mod20 (a : Int) : 2 ≤ wrap64 (2 + wrap64 ((IntKind.u64.wrap a).tmod 20)) ∧ wrap64 (2 + wrap64 ((IntKind.u64.wrap a).tmod 20)) ≤ 21 := by
  have h0 : 0 ≤ IntKind.u64.wrap a := by
    have : IntKind.u64.wrap a = a % 18446744073709551616 := by simp [IntKind.wrap, IntKind.signed, IntKind.bits]
    omega
  rw [Int.tmod_eq_emod_of_nonneg h0]
  unfold wrap64
  omega

set_option maxRecDepth 100000 in
set_option maxHeartbeats 8000000 in
theorem walk_ReflowKeeps (x : Value) (y : List ItemV) (a b : Int) (w : World) (hx : Slc RCell (fun b => b < w.heap.size) (fun b => b < w.heap.size) w x y) (ha : (Lit.int .i64 a).wf = true) (hb : (Lit.int .i64 b).wf = true) :
    Calls Tryd.prog 4 #[x, .int .i64 a, .int .i64 b] w fun e w' => e = .returned (.bool true) ∧ Below w.heap.size w w' := by
  obtain ⟨A, c, rfl, _, _, _⟩ := hx.open_
  have HX := hide hx
  have HRI := hide (fun (k : Nat) (hk : k < y.length) (W : World) (hW : Below w.heap.size w W) => right_at hx hk hW)
  clear hx
  go_enter Tryd.func4, Tryd.ntmps4
  go_wp2_with fail
  refine (works51_ok _).mono ?_
  rintro e w1 ⟨rfl, hb1⟩
  have hz1 := hb1.size
  by_cases hlen : y.length ≤ 200
  case neg =>
    have hl2 : (200 : Int) < y.length := by omega
    go_wp2_with fail
    refine (works51_ok _).mono ?_
    rintro e w9 ⟨rfl, hc9⟩
    go_wp2
    go_ret
    exact ⟨rfl, hb1.trans (hc9.mono hz1)⟩
  case pos =>
    have hl2 : ¬ (200 : Int) < y.length := by omega
    go_wp2_with fail
    go_loopw [7] (fun iv wr => ∃ k : Nat, k ≤ y.length ∧ iv = .int .i64 k ∧ (∀ i ∈ y.take k, rightI i = true ∧ i.2.length ≠ 0) ∧ Below w.heap.size w wr) (fun iv _ => y.length - (intOf iv).toNat)
    case atStart => exact ⟨0, Nat.zero_le _, rfl, fun i hi => (by simp at hi), hb1⟩
    case round =>
      obtain ⟨k, hk, rfl, hall, hbr⟩ := hrel
      have HALL := hide hall
      clear hall
      by_cases hlt : k < y.length
      · obtain ⟨ab, off, A', c', hA, q0, q1, hR⟩ := HRI.out k hlt _ hbr
        subst hA
        have hki : (k : Int) < y.length := by omega
        have HTK := hide (take_snoc' y k hlt)
        obtain ⟨B, hB⟩ : ∃ B, rightI y[k] = B := ⟨_, rfl⟩
        obtain ⟨k0, hk0⟩ : ∃ k0, y[k].1 = k0 := ⟨_, rfl⟩
        obtain ⟨l0, hl0⟩ : ∃ l0, y[k].2.length = l0 := ⟨_, rfl⟩
        rw [hB] at hR
        rw [hk0, hl0] at hR
        rw [hk0] at q0
        rw [hl0] at q1
        have HR := hide hR
        have HB := hide hB
        have HL0 := hide hl0
        have hgl := World.block_lt_of_cell? _ _ q1
        simp only at hgl
        clear hR hB hk0 hl0
        have HQ1 := hide q1
        go_wp2_with fail
        refine HR.out.mono ?_
        rintro e w3 ⟨rfl, hc3⟩
        have hb3 := hbr.trans (hc3.mono hbr.size)
        have q3 := (hc3.cell (p := ⟨ab, off + k * 2 + 1, none⟩) hgl).trans HQ1.out
        clear q0 q1
        cases B with
        | false =>
          go_wp2
          go_ret
          exact ⟨rfl, hb3⟩
        | true =>
          by_cases hz : l0 = 0
          · subst hz
            go_wp2
            go_ret
            exact ⟨rfl, hb3⟩
          · have hzi : ¬ (l0 : Int) = 0 := by omega
            go_wp2
            go_roundw
            case rel => exact ⟨k + 1, by omega, by go_num, fun i hi => (by rw [HTK.out] at hi; rcases List.mem_append.1 hi with hi | hi; exact HALL.out i hi; rw [List.mem_singleton] at hi; subst hi; exact ⟨HB.out, by rw [HL0.out]; exact hz⟩), hb3⟩
            case measure => simp [intOf]; omega
      · obtain rfl : k = y.length := by omega
        have hall := HALL.out
        rw [List.take_of_length_le (Nat.le_refl _)] at hall
        have HAL := hide hall
        clear hall
        go_upto_region 8 with fail
        go_cut [1, 2] from 45 to 107 (fun s1 s2 wx => ∃ p q : Int, s1 = .int .i64 p ∧ s2 = .int .i64 q ∧ 2 ≤ p ∧ p ≤ 21 ∧ 2 ≤ q ∧ q ≤ 21 ∧ wr = wx)
        case first =>
          go_wp2
          go_meet
          exact ⟨_, _, rfl, rfl, (mod20 a).1, (mod20 a).2, (mod20 b).1, (mod20 b).2, rfl⟩
        case rest =>
          obtain ⟨p, q, rfl, rfl, hp1, hp2, hq1, hq2, rfl⟩ := hcut
          have hsp : 2 ≤ sideR p := by unfold sideR; omega
          have hsq : 2 ≤ sideR q := by unfold sideR; omega
          have hrq := sideR_range q
          have hrp := sideR_range p
          have hR : ∀ i ∈ y, rightI i = true := fun i hi => (HAL.out i hi).1
          have hN : ∀ i ∈ y, i.2.length ≠ 0 := fun i hi => (HAL.out i hi).2
          have hkp := keep_ok (sideR p) hsp y hR hN
          have hkq := keep_ok (sideR q) hsq y hR hN
          have hlp := brkF_len (sideR p) y
          have hlq := brkF_len (sideR q) y
          have hap : ∀ l ∈ brkF (sideR p) y, l.1.length ≤ 100000 ∧ soundB l.1 = true := fun l hl => by
            obtain ⟨k, hk, rfl⟩ := List.getElem_of_mem hl
            obtain ⟨h1, h2, _⟩ := (brkF_ok (sideR p) hrp.1 y hR).2 k hk
            exact ⟨by omega, h2⟩
          have haq : ∀ l ∈ brkF (sideR q) y, l.1.length ≤ 100000 ∧ soundB l.1 = true := fun l hl => by
            obtain ⟨k, hk, rfl⟩ := List.getElem_of_mem hl
            obtain ⟨h1, h2, _⟩ := (brkF_ok (sideR q) hrq.1 y hR).2 k hk
            exact ⟨by omega, h2⟩
          have hbad : badI y = none := bad_of_right y 0 hR
          have hs1 : ∀ z ∈ [y], z.length ≤ 50000 ∧ badI z = none := fun z hz => by
            rw [List.mem_singleton] at hz; subst hz; exact ⟨by omega, hbad⟩
          have hlf : linesF (sideR q) [y] = brkF (sideR q) y := by simp [linesF]
          have HBR := hide (fun (W : World) (hW : Below w.heap.size w W) => Break_ok (fun _ => ⟨0, 0, none⟩) _ (.slice A y.length c) y p W (fun h => absurd hbad h) ((HX.out.mono (Keep.below hW) (Keep.below hW)).mono (Keep.refl _ _) (Keep.weaken fun b hb => Nat.lt_of_lt_of_le hb hW.size)) (by omega))
          rw [hbad] at HBR
          have HL1 := hide (fun (W : World) v (hv : Slc RLine (fun b => b < W.heap.size) (fun b => b < W.heap.size) W v (brkF (sideR p) y)) => Lines_ok _ v (brkF (sideR p) y) q W hv (by omega) hap (by rw [hkp]; exact hs1))
          have HL2 := hide (fun (W : World) v (hv : Slc RLine (fun b => b < W.heap.size) (fun b => b < W.heap.size) W v (brkF (sideR q) y)) => Lines_ok _ v (brkF (sideR q) y) q W hv (by omega) haq (by rw [hkq]; exact hs1))
          have HLG := hide (fun (W : World) v (hv : Slc RLine (fun b => b < W.heap.size) (fun b => b < W.heap.size) W v (brkF (sideR q) y)) => Long_ok _ v (brkF (sideR q) y) W hv (by omega) haq)
          rw [hkp, hlf] at HL1
          rw [hkq, hlf] at HL2
          rw [hkq] at HLG
          obtain ⟨P, hP⟩ : ∃ P, brkF (sideR p) y = P := ⟨_, rfl⟩
          obtain ⟨Q, hQ⟩ : ∃ Q, brkF (sideR q) y = Q := ⟨_, rfl⟩
          rw [hP] at HL1 HBR
          rw [hQ] at HL1 HL2 HLG
          clear hP hQ hkp hkq hlp hlq hap haq hbad hs1 hlf hR hN hsp hsq hrp hrq
          go_wp2_with fail
          refine (HBR.out _ hbr).mono ?_
          rintro e w2 ⟨h1, _, hc2⟩
          obtain ⟨sv, ps, rfl, hln, hps⟩ := h1 rfl
          have hb2 := hbr.trans (hc2.mono hbr.size)
          have hs2 := Lns.slc ⟨ps, hps, hln⟩
          have H1 := hide (HL1.out _ _ hs2)
          clear h1 hc2 hln hps hs2
          go_wp2_with fail
          refine H1.out.mono ?_
          rintro e w3 ⟨sv3, ps3, rfl, hln3, hps3, hc3⟩
          have hb3 := hb2.trans (hc3.mono hb2.size)
          have hs3 := Lns.slc ⟨ps3, hps3, hln3⟩
          have H2 := hide (HL2.out _ _ hs3)
          have HS3 := hide hs3
          clear hc3 hln3 hps3 hs3 H1
          go_wp2_with fail
          refine H2.out.mono ?_
          rintro e w4 ⟨sv4, ps4, rfl, hln4, hps4, hc4⟩
          have hb4 := hb3.trans (hc4.mono hb3.size)
          have hs4 := Lns.slc ⟨ps4, hps4, hln4⟩
          have hs34 := HS3.out.lt_up2 hc4
          have HSA := hide (rSame32_eq _ _ _ _ _ _ Q w4 hs34 hs4)
          have HS34 := hide hs34
          obtain ⟨A3, c3, rfl, _, _, _⟩ := hs34.open_
          obtain ⟨A4, c4, rfl, _, _, _⟩ := hs4.open_
          clear hc4 hln4 hps4 hs4 hs34 H2 HS3
          go_wp2_with fail
          refine HSA.out.mono ?_
          rintro e w5 ⟨rfl, nq, rfl⟩
          have hb5 : Below w.heap.size w (w4.drewN nq) := below_drewN hb4 _
          have HG := hide (HLG.out _ _ (HS34.out.lt_up2 (below_drewN (Below.refl w4.heap.size w4) nq)))
          clear HSA HS34
          go_wp2_with fail
          refine HG.out.mono ?_
          rintro e w6 ⟨sv6, ps6, rfl, hits, hps6, hc6⟩
          have hb6 := hb5.trans (hc6.mono hb5.size)
          have hl6 : ps6.length = 1 := by rw [← List.length_map (f := Prod.snd), hps6]; rfl
          have h06 : 0 < ps6.length := by omega
          have hp0 : ps6[0].2 = y := by
            have e := congrArg (fun l => l[0]?) hps6
            simp only [List.getElem?_map, List.getElem?_eq_getElem h06, Option.map_some] at e
            simpa using e
          obtain ⟨G, capG, hve, _, _, hGc, _⟩ := hits.at_ h06
          rw [hl6] at hve
          subst hve
          have hrj := hits.cells ps6[0] (List.getElem_mem _)
          rw [hp0] at hrj
          obtain ⟨Aj, cj, hje, ju1, ju2, ju3⟩ := hrj.slc.open_
          clear ju1 ju2 ju3
          rw [hje] at hrj hGc
          have HS9 := hide (rSame29_ok _ _ _ _ _ _ y y w6 hrj.slc (HX.out.mono (Keep.below hb6) (Keep.below hb6)))
          clear hrj hje hp0 hits hps6 hc6 HG
          go_wp2_with fail
          refine HS9.out.mono ?_
          rintro e w7 ⟨rfl, nq2, rfl⟩
          go_wp2
          go_ret
          exact ⟨by simp, below_drewN hb6 _⟩
end Go.Proofs.YtbkenfljknpjgaaDoor
