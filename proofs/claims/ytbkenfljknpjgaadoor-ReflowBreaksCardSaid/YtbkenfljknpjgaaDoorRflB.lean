/-
  Several texts of this seat as one: Cell9, Rfl4, Rfl5, Itm9, Rfl6, Rfl7.
-/
import Derived.Test.YtbkenfljknpjgaaDoorCell5
import Derived.Test.YtbkenfljknpjgaaDoorFit0
import Derived.Test.YtbkenfljknpjgaaDoorRflA
import Derived.Test.YtbkenfljknpjgaaDoorItm3
namespace Go.Proofs.YtbkenfljknpjgaaDoor
open Go.RowKit
set_option linter.unusedVariables false
set_option linter.unusedSimpArgs false

set_option maxHeartbeats 2000000 in
theorem rOf2_ok (So Si : Nat → Prop) (x : Value) (l : List Int) (wide : Int) (w : World) (hwd : (Lit.int .i64 wide).wf = true) (hx : Slc (Rep.int .i32) So Si w x l) (hlen : l.length ≤ 100000) :
    Calls Tryd.prog 58 #[.int .i64 wide, x] w fun e w' => ∃ v, e = .returned v ∧ Own2 RCell 74 [21] w.heap.size 0 w' v (ofF wide l) ∧ Below w.heap.size w w' := by
  obtain ⟨A1, c1, rfl, hd1, hd2, hB1⟩ := hx.open_
  go_enter Tryd.func58, Tryd.ntmps58
  go_wp2
  go_loopw [5, 6] (fun out i wr => ∃ k : Nat, k ≤ l.length ∧ k ≤ 16 ∧ i = .int .i64 k ∧ Own (Rep.int .i32) 21 [] w.heap.size wr out ((l.take k).map replF) ∧ Below w.heap.size w wr) (fun _ i _ => l.length - (intOf i).toNat)
  case atStart => exact ⟨0, Nat.zero_le _, by omega, rfl, Own.nil_ _ _ _ _ _ (by simp), Below.refl _ _⟩
  case round =>
    obtain ⟨k, hk, hk16, rfl, hown, hbel⟩ := hrel
    have hsz := hbel.size
    by_cases hlt : k < l.length ∧ k < 16
    · obtain ⟨hlt, hlt16⟩ := hlt
      have hBk := hB1.ints_keep (Keep.below (S := So) hbel)
      obtain ⟨ab, off, rfl, _, hck, hwk⟩ := ints_at hBk hlt
      obtain ⟨hw0, hw1⟩ := i32_wf hwk
      have hsn : (l.take (k + 1)).map replF = (l.take k).map replF ++ [replF l[k]] := by rw [take_snoc' l k hlt, List.map_append]; rfl
      have hrg := replF_range l[k] hw0 hw1
      have hR := fun w => rValid_ok l[k] hw0 hw1 w
      have hlt2 : ((l.take k).map replF).length ≤ k := by simp; omega
      have hown2 := hown.alloc (.cells #[.int .i32 (replF l[k])] 21)
      have hone := own_i32 wr [replF l[k]] (by intro n hn; simp at hn; subst hn; exact wf_i32 hrg.1 hrg.2) wr.heap.size wr.heap.size 1 (Nat.le_refl _) rfl rfl (by simp [maxLen])
      have HSN := hide hsn
      have hrf : replF l[k] = if validB l[k] = true then l[k] else 65533 := rfl
      have e1 : (k : Int) < l.length := by omega
      have e2 : (k : Int) < 16 := by omega
      clear hsn hrg
      rcases Bool.eq_false_or_eq_true (validB l[k]) with hv | hv
      · rw [if_pos hv] at hrf
        rw [hv] at hR
        rw [hrf] at hown2 hone
        have HR := hide hR
        have HRF := hide hrf
        clear hR hv hrf
        go_wp2_with (first
          | (go_at_call 59; refine (HR.out _).mono ?_; rintro e w' ⟨rfl, rfl⟩)
          | (at_builtin; refine wpList_appi rfl (.tmp 23) (.tmp 28) 48 rfl .i32 21 w.heap.size 4 Tryd.underlying48 i32_info (by decide) _ _ rfl hown2 _ _ _ _ rfl hone.islc (by simp; omega) (by simp; omega) ?_; intro v3 w3 hv3 hst3))
        go_roundw
        case rel => exact ⟨k + 1, by omega, by omega, by go_num, by rw [HSN.out, HRF.out]; exact hv3, (hbel.alloc hsz _).trans (hst3.below (by simp; omega))⟩
        case measure => simp [intOf]; omega
      · rw [if_neg (by simp [hv])] at hrf
        rw [hv] at hR
        rw [hrf] at hown2 hone
        have HR := hide hR
        have HRF := hide hrf
        clear hR hv hrf
        go_wp2_with (first
          | (go_at_call 59; refine (HR.out _).mono ?_; rintro e w' ⟨rfl, rfl⟩)
          | (at_builtin; refine wpList_appi rfl (.tmp 30) (.tmp 31) 48 rfl .i32 21 w.heap.size 4 Tryd.underlying48 i32_info (by decide) _ _ rfl hown2 _ _ _ _ rfl hone.islc (by simp; omega) (by simp; omega) ?_; intro v3 w3 hv3 hst3))
        go_roundw
        case rel => exact ⟨k + 1, by omega, by omega, by go_num, by rw [HSN.out, HRF.out]; exact hv3, (hbel.alloc hsz _).trans (hst3.below (by simp; omega))⟩
        case measure => simp [intOf]; omega
    · have e16 : l.take k = l.take 16 := by
        by_cases hh : k = 16
        · rw [hh]
        · rw [List.take_of_length_le (by omega), List.take_of_length_le (by omega)]
      have hT0 : ((l.take 16).map replF).length = 0 ↔ l.length = 0 := by simp <;> omega
      rw [e16] at hown
      obtain ⟨A5, c5, rfl, he1, he2, _⟩ := hown.islc.open_
      have hty := own_typed (base' := 0) hown (Typed 0 [21] wr)
      generalize hTT : (l.take 16).map replF = T at *
      have hof : ofF wide l = if T.length = 0 then (if 1 < wide then [(0, []), (0, [])] else [(0, [])]) else (if 1 < wide then [(2, T), (3, [])] else [(1, T)]) := by
        unfold ofF; rw [hTT]
        by_cases h : l.length = 0
        · rw [if_pos h, if_pos (hT0.2 h)]
        · rw [if_neg h, if_neg (fun q => h (hT0.1 q))]
      have HOF := hide hof
      have hexit : (¬ (k : Int) < l.length) ∨ ((k : Int) < l.length ∧ ¬ (k : Int) < 16) := by omega
      clear hof hTT e16 hT0 hlt
      by_cases hwide : 1 < wide
      · by_cases hT : T.length = 0
        · have h1 := HOF.out
          rw [if_pos hT, if_pos hwide] at h1
          have H1 := hide h1
          have hTi : ((T.length : Int) == 0) = true := by simp [hT]
          have hO : Own2 RCell 74 [21] w.heap.size 0 (wr.alloc (.cells #[.int .i64 0, .slice none 0 0, .int .i64 0, .slice none 0 0] 74)) (.slice (some ⟨wr.heap.size, 0, none⟩) 2 2) [(0, []), (0, [])] :=
            Own2.lit (Nat.zero_le _) (by decide) (els_cell2 (by decide) Slc.nil_ (by decide) Slc.nil_) hsz rfl (by simp [maxLen])
          clear h1 hT
          rcases hexit with q | ⟨q1, q2⟩
          all_goals
            go_wp2
            go_ret
            rw [H1.out]
            exact ⟨_, rfl, hO, hbel.alloc hsz _⟩
        · have h1 := HOF.out
          rw [if_neg hT, if_pos hwide] at h1
          have H1 := hide h1
          have hTi : ((T.length : Int) == 0) = false := by simpa using hT
          have hO : Own2 RCell 74 [21] w.heap.size 0 (wr.alloc (.cells #[.int .i64 2, .slice A5 T.length c5, .int .i64 3, .slice none 0 0] 74)) (.slice (some ⟨wr.heap.size, 0, none⟩) 2 2) [(2, T), (3, [])] :=
            Own2.lit (Nat.zero_le _) (by decide) (els_cell2 (by decide) hty (by decide) Slc.nil_) hsz rfl (by simp [maxLen])
          clear h1 hT
          rcases hexit with q | ⟨q1, q2⟩
          all_goals
            go_wp2
            go_ret
            rw [H1.out]
            exact ⟨_, rfl, hO, hbel.alloc hsz _⟩
      · by_cases hT : T.length = 0
        · have h1 := HOF.out
          rw [if_pos hT, if_neg hwide] at h1
          have H1 := hide h1
          have hTi : ((T.length : Int) == 0) = true := by simp [hT]
          have hO : Own2 RCell 74 [21] w.heap.size 0 (wr.alloc (.cells #[.int .i64 0, .slice none 0 0] 74)) (.slice (some ⟨wr.heap.size, 0, none⟩) 1 1) [(0, [])] :=
            Own2.lit (Nat.zero_le _) (by decide) (els_cell1 (by decide) Slc.nil_) hsz rfl (by simp [maxLen])
          clear h1 hT
          rcases hexit with q | ⟨q1, q2⟩
          all_goals
            go_wp2
            go_ret
            rw [H1.out]
            exact ⟨_, rfl, hO, hbel.alloc hsz _⟩
        · have h1 := HOF.out
          rw [if_neg hT, if_neg hwide] at h1
          have H1 := hide h1
          have hTi : ((T.length : Int) == 0) = false := by simpa using hT
          have hO : Own2 RCell 74 [21] w.heap.size 0 (wr.alloc (.cells #[.int .i64 1, .slice A5 T.length c5] 74)) (.slice (some ⟨wr.heap.size, 0, none⟩) 1 1) [(1, T)] :=
            Own2.lit (Nat.zero_le _) (by decide) (els_cell1 (by decide) hty) hsz rfl (by simp [maxLen])
          clear h1 hT
          rcases hexit with q | ⟨q1, q2⟩
          all_goals
            go_wp2
            go_ret
            rw [H1.out]
            exact ⟨_, rfl, hO, hbel.alloc hsz _⟩
end Go.Proofs.YtbkenfljknpjgaaDoor

namespace Go.Proofs.YtbkenfljknpjgaaDoor
open Go.RowKit
set_option linter.unusedVariables false
set_option linter.unusedSimpArgs false

/-- One cell of a row of the call's own is laid anew. -/
theorem own2_put1 {base g n cap : Nat} {w : World} {l : List CellV} (h : Own2 RCell 74 [21] base 0 w (.slice (some ⟨g, 0, none⟩) n cap) l) (hn : l.length = n) {f : Nat} (hf : f < n) {c : CellV} {a b : Value} (hE : RCell.E (Typed 0 [21] w) w [a, b] c) :
    Own2 RCell 74 [21] base 0 ((w.setCell ⟨g, f * 2, none⟩ a).setCell ⟨g, f * 2 + 1, none⟩ b) (.slice (some ⟨g, 0, none⟩) n cap) (l.set f c) ∧ Step base [74] w ((w.setCell ⟨g, f * 2, none⟩ a).setCell ⟨g, f * 2 + 1, none⟩ b) ∧ w.grownBy ((w.setCell ⟨g, f * 2, none⟩ a).setCell ⟨g, f * 2 + 1, none⟩ b) (some g) ∧ ∃ cs, Blk w g 74 cs := by
  obtain ⟨g', cap', xs, rest, he, hb, hblk, hx, hels, hlen, hc, hm⟩ := own2_open h (by omega)
  injection he with e1 e2 e3
  injection e1 with e1
  injection e1 with e1
  subst e1; subst e3
  have esz : RCell.sz = 2 := rfl
  rw [esz] at hx
  have s1 := hblk.set_ (f * 2) a
  have s2 := s1.set_ (f * 2 + 1) b
  have hst : Step base [74] w _ := ((Step.refl base [74] w).setCell (p := ⟨g, f * 2, none⟩) hb hblk.bears a).setCell (p := ⟨g, f * 2 + 1, none⟩) hb s1.bears b
  simp only [List.setIfInBounds_toArray] at s2
  rw [list_set2 xs (f * 2) (by omega)] at s2
  have hk0 := Keep.step (T := [21]) (hst.mono (Nat.zero_le base) (fun _ h => h)) (by decide)
  have hel4 := (hels.mono hk0).set_ f c [a, b] (by omega) (RCell.mono hk0 hE)
  rw [esz, show (f + 1) * 2 = f * 2 + 2 by omega] at hel4
  refine ⟨own2_shut (Nat.zero_le _) (by decide) hb s2 hel4 (by rw [List.length_set]; exact hn) ?_ (by omega) hm, hst, gb_set (gb_set (gb_refl w g) _ _) _ _, _, hblk⟩
  rw [← hlen]
  simp only [List.length_append, List.length_take, List.length_drop, List.length_cons, List.length_nil]
  omega
/-- One cell of one line is laid anew. -/
theorem LnsP.put1 {base g n cap i f : Nat} {w : World} {v : Value} {ps : List (Value × LineV)} (h : LnsP base w v ps) (hi : i < ps.length) (he : ps[i].1 = .slice (some ⟨g, 0, none⟩) n cap) (hn : ps[i].2.1.length = n) (hf : f < n) {c : CellV} {a b : Value} (hE : RCell.E (Typed 0 [21] w) w [a, b] c) :
    LnsP base ((w.setCell ⟨g, f * 2, none⟩ a).setCell ⟨g, f * 2 + 1, none⟩ b) v (ps.set i (ps[i].1, (ps[i].2.1.set f c, ps[i].2.2))) ∧ Step base [74] w ((w.setCell ⟨g, f * 2, none⟩ a).setCell ⟨g, f * 2 + 1, none⟩ b) ∧ w.grownBy ((w.setCell ⟨g, f * 2, none⟩ a).setCell ⟨g, f * 2 + 1, none⟩ b) (some g) ∧ ∃ cs, Blk w g 74 cs := by
  have hc := h.cells ps[i] (List.getElem_mem _)
  rw [he] at hc
  obtain ⟨ho, hst, hgr, cs, hblk⟩ := own2_put1 hc hn hf hE
  refine ⟨⟨?_, fun p hp => ?_, ?_⟩, hst, hgr, cs, hblk⟩
  · have e : (ps.set i (ps[i].1, (ps[i].2.1.set f c, ps[i].2.2))).map slB = ps.map slB := by
      rw [List.map_set]
      apply List.ext_getElem?
      intro j
      by_cases hj : i = j
      · subst hj
        rw [List.getElem?_set_self (by simpa using hi), List.getElem?_map, List.getElem?_eq_getElem hi]; rfl
      · rw [List.getElem?_set_ne hj]
    rw [e]
    exact h.row.flat_step RSl.flat hst (by decide)
  · obtain ⟨j, hj, rfl⟩ := List.getElem_of_mem hp
    rw [List.length_set] at hj
    by_cases hij : i = j
    · subst hij
      rw [List.getElem_set_self]
      rw [he]; exact ho
    · rw [List.getElem_set_ne hij]
      refine (h.cells ps[j] (List.getElem_mem _)).stay hgr hblk (by decide) (apart_at h.apart hi hj hij ?_)
      rw [he]; rfl
  · rw [apart_fst, List.map_set]
    have e : (ps.map Prod.fst).set i ps[i].1 = ps.map Prod.fst := by
      apply List.ext_getElem?
      intro j
      by_cases hj : i = j
      · subst hj
        rw [List.getElem?_set_self (by simpa using hi), List.getElem?_map, List.getElem?_eq_getElem hi]; rfl
      · rw [List.getElem?_set_ne hj]
    rw [e, ← apart_fst]
    exact h.apart
theorem fill_put {wd : Nat} {l c : List CellV} {m : Nat} (hm : m < c.length) (h : l.length + m < wd) : (fillL wd (l ++ c.take m)).set (l.length + m) c[m] = fillL wd (l ++ c.take (m + 1)) := by
  unfold fillL
  have hl : (l ++ c.take m).length = l.length + m := by rw [List.length_append, List.length_take]; omega
  have hl2 : (l ++ c.take (m + 1)).length = l.length + m + 1 := by rw [List.length_append, List.length_take]; omega
  rw [hl, hl2, take_snoc' c m hm, List.set_append_right _ _ (by omega), hl, Nat.sub_self, show wd - (l.length + m) = (wd - (l.length + m + 1)) + 1 by omega, List.replicate_succ, List.set_cons_zero]
  simp only [List.append_assoc, List.cons_append, List.nil_append]
theorem fill_nil (wd : Nat) : fillL wd [] = List.replicate wd (0, []) := by unfold fillL; simp
/-- The lines that the document has while it breaks. -/
def curL (wd : Nat) (s : BrkS) : List LineV := s.1 ++ [(fillL wd s.2, false)]
theorem curL_end (wd : Nat) (s : BrkS) : curL wd (endS wd s true) = s.1 ++ [(fillL wd s.2, true), (List.replicate wd (0, []), false)] := by
  unfold curL endS
  simp [fill_nil]
theorem brkF_cur (wd : Nat) (y : List ItemV) : brkF wd y = curL wd (brkS wd y) := rfl

theorem cur_at {wd : Nat} {out : List LineV} {line : List CellV} {ps : List (Value × LineV)} (h : ps.map Prod.snd = curL wd (out, line)) (hi : out.length < ps.length) : ps[out.length].2 = (fillL wd line, false) := by
  have e : (ps.map Prod.snd)[out.length]? = some ps[out.length].2 := by rw [List.getElem?_map, List.getElem?_eq_getElem hi]; rfl
  rw [h] at e
  simp [curL] at e
  exact e.symm
theorem cur_set {wd : Nat} {out : List LineV} {line : List CellV} {ps : List (Value × LineV)} (h : ps.map Prod.snd = curL wd (out, line)) (v : Value) (l : LineV) : (ps.set out.length (v, l)).map Prod.snd = out ++ [l] := by
  rw [List.map_set, h]
  unfold curL
  simp only
  rw [List.set_append_right _ _ (Nat.le_refl _), Nat.sub_self, List.set_cons_zero]
theorem room_fit {wd : Nat} {out : List LineV} {line cl : List CellV} (h : line.length ≤ wd) (hc : cl.length ≤ wd) : (roomS wd (out, line) cl).2.length + cl.length ≤ wd := by
  unfold roomS endS
  split
  · simpa using hc
  · rename_i hh
    simp only at hh ⊢
    omega
theorem put_room (wd : Nat) (s : BrkS) (c : List CellV) : putS wd s c = ((roomS wd s c).1, (roomS wd s c).2 ++ c) := rfl
theorem set_fst {ps : List (Value × LineV)} {i : Nat} (hi : i < ps.length) (l : LineV) {P : Value → Prop} (h : ∀ p ∈ ps, P p.1) : ∀ p ∈ ps.set i (ps[i].1, l), P p.1 := by
  intro p hp
  rcases List.mem_or_eq_of_mem_set hp with hp | rfl
  · exact h p hp
  · exact h ps[i] (List.getElem_mem _)
/-- A cell of a row of the call's own. -/
theorem own2_at {base n cap : Nat} {A : Option Addr} {w : World} {l : List CellV} (h : Own2 RCell 74 [21] base 0 w (.slice A n cap) l) {m : Nat} (hm : m < l.length) :
    ∃ g v, A = some ⟨g, 0, none⟩ ∧ base ≤ g ∧ g < w.heap.size ∧ w.cell? ⟨g, m * 2, none⟩ = some (.int .i64 l[m].1) ∧ w.cell? ⟨g, m * 2 + 1, none⟩ = some v ∧ RCell.E (Typed 0 [21] w) w [.int .i64 l[m].1, v] l[m] ∧ w.frozen? ⟨g, m * 2, none⟩ = false ∧ w.frozen? ⟨g, m * 2 + 1, none⟩ = false ∧ ∃ A' n' c', v = .slice A' n' c' := by
  obtain ⟨g, cap', xs, rest, he, hb, hblk, _⟩ := own2_open h (by omega)
  injection he with e1 e2 e3
  subst e1
  obtain ⟨ab, off, v, hA, _, q0, q1, hw, hv⟩ := cell_at h.slc.slb hm
  injection hA with hA
  injection hA with hA1 hA2
  subst hA1; subst hA2
  simp only [Nat.zero_add] at q0 q1
  exact ⟨g, v, rfl, hb, World.block_lt_of_cell? _ _ q0, q0, q1, cell_E hw hv, hblk.frozen _, hblk.frozen _, (by obtain ⟨A', c', e, _⟩ := hv.open_; exact ⟨A', _, c', e⟩)⟩

set_option maxRecDepth 8000 in
set_option maxHeartbeats 8000000 in
theorem rBreak_ok (So : Nat → Prop) (x : Value) (y : List ItemV) (n : Int) (w : World) (hx : Slc RCell So (fun b => b < w.heap.size) w x y) (hlen : y.length ≤ 50000) (hall : ∀ i ∈ y, rightI i = true) :
    Calls Tryd.prog 36 #[x, .int .i64 n] w fun e w' => ∃ sv ps, e = .returned sv ∧ LnsP w.heap.size w' sv ps ∧ ps.map Prod.snd = brkF (sideR n) y ∧ Below w.heap.size w w' := by
  obtain ⟨A, c, rfl, _, _, _⟩ := hx.open_
  obtain ⟨wd, hwd⟩ : ∃ wd, sideR n = wd := ⟨_, rfl⟩
  have hr := sideR_range n
  rw [hwd] at hr
  rw [hwd]
  have HM := hide hwd
  have HALL := hide hall
  obtain ⟨ti, hi1, hi2, hi3, hi4⟩ := info_parts cell_info
  have key : ∀ (w0 w1 : World), w1.ownsRow w0.heap.size 74 RCell.sz (.slice (some ⟨w0.heap.size, 0, none⟩) wd wd) wd (madeCells (Value.agg #[.int .i64 0, .slice none 0 0]).cells (wd * RCell.sz)).toList → w0.grownBy w1 none →
      Own2 RCell 74 [21] w0.heap.size 0 w1 (.slice (some ⟨w0.heap.size, 0, none⟩) wd wd) (List.replicate wd (0, [])) ∧ Below w0.heap.size w0 w1 := by
    intro w0 w1 hown hg
    refine ⟨own2_blanks (base := w0.heap.size) ⟨by decide, _, by rw [List.length_replicate]; exact hown, ?_⟩ (Nat.le_refl _), hg.os, hg.tape, hg.output, hg.size, fun k hk => hg.block k hk (by simp)⟩
    have e : (madeCells (Value.agg #[.int .i64 0, .slice none 0 0]).cells (wd * RCell.sz)).toList = (List.replicate wd [Value.int .i64 0, .slice none 0 0]).flatten := made_two _ _ wd
    rw [e]
    exact els_blanks _ _ _
  have KEY := hide key
  clear hwd hall key
  go_enter Tryd.func36, Tryd.ntmps36
  go_upto_region 1 with fail
  go_cut [1] from 11 to 13 (fun s wx => s = .int .i64 wd ∧ w = wx)
  case first =>
    rcases (by omega : n < 1 ∨ n = 1 ∨ (1 < n ∧ n < 1024) ∨ n = 1024 ∨ 1024 < n) with h1 | h1 | ⟨h1, h2⟩ | h1 | h1
    · have E : Hid ((1 : Int) = wd) := hide (by rw [← HM.out]; unfold sideR; omega)
      have h3 : n < 1024 := by omega
      go_wp2
      go_meet
      exact ⟨int_eq E.out, rfl⟩
    · subst h1
      have E : Hid ((1 : Int) = wd) := hide (by rw [← HM.out]; unfold sideR; omega)
      go_wp2
      go_meet
      exact ⟨int_eq E.out, rfl⟩
    · have E : Hid (n = wd) := hide (by rw [← HM.out]; unfold sideR; omega)
      go_wp2
      go_meet
      exact ⟨int_eq E.out, rfl⟩
    · subst h1
      have E : Hid ((1024 : Int) = wd) := hide (by rw [← HM.out]; unfold sideR; omega)
      go_wp2
      go_meet
      exact ⟨int_eq E.out, rfl⟩
    · have E : Hid ((1024 : Int) = wd) := hide (by rw [← HM.out]; unfold sideR; omega)
      go_wp2
      go_meet
      exact ⟨int_eq E.out, rfl⟩
  case rest =>
    obtain ⟨rfl, rfl⟩ := hcut
    go_wp2_with (at_make; refine wpList_make_full _ rfl (.tmp 14) (.tmp 14) 23 rfl w.heap.size 74 ti _ RCell.sz Tryd.underlying23 hi1 hi2 hi3 .i64 .i64 _ _ wd rfl rfl rfl rfl (by rw [hi4]; omega) (by simp only [maxLen]; omega) (Nat.le_refl _) ?_; intro w1 hown1 hg1; obtain ⟨hO1, hB1⟩ := KEY.out w w1 hown1 hg1; clear hown1 hg1)
    have hb2 := hB1.alloc hB1.size (.cells #[.slice (some ⟨w.heap.size, 0, none⟩) wd wd, .bool false] 38)
    have hO2 := hO1.alloc (.cells #[.slice (some ⟨w.heap.size, 0, none⟩) wd wd, .bool false] 38)
    have hL2 : LnsP w.heap.size (w1.alloc (.cells #[.slice (some ⟨w.heap.size, 0, none⟩) wd wd, .bool false] 38)) (.slice (some ⟨w1.heap.size, 0, none⟩) 1 1) [((.slice (some ⟨w.heap.size, 0, none⟩) wd wd : Value), (List.replicate wd ((0, []) : CellV), false))] :=
      ⟨Own.lit (R := RSl) (xs := [.slice (some ⟨w.heap.size, 0, none⟩) wd wd, .bool false]) (by simp) (Els.single ⟨[_], [_], rfl, ⟨rfl, rfl⟩, rfl⟩) hB1.size rfl (by simp [maxLen]), fun p hp => (by rw [List.mem_singleton] at hp; subst hp; exact hO2), List.pairwise_singleton _ _⟩
    have hM2 : ([((.slice (some ⟨w.heap.size, 0, none⟩) wd wd : Value), (List.replicate wd ((0, []) : CellV), false))] : List (Value × LineV)).map Prod.snd = curL wd (brkS wd (y.take 0)) := by simp [curL, brkS, fill_nil]
    go_loopw [5, 6, 7, 8] (fun s5 s6 s7 s8 wr => ∃ k : Nat, k ≤ y.length ∧ s8 = .int .i64 k ∧ s5 = .int .i64 (((brkS wd (y.take k)).1.length + 1 : Nat) : Int) ∧ s6 = .int .i64 ((brkS wd (y.take k)).2.length : Nat) ∧ ∃ ps : List (Value × LineV), LnsP w.heap.size wr s7 ps ∧ ps.map Prod.snd = curL wd (brkS wd (y.take k)) ∧ Below w.heap.size w wr) (fun _ _ _ s8 _ => y.length - (intOf s8).toNat)
    case atStart => exact ⟨0, Nat.zero_le _, rfl, by simp [brkS], by simp [brkS], _, hL2, hM2, hb2⟩
    case round =>
      clear hL2 hM2 hO1 hO2 hb2 hB1
      obtain ⟨k, hk, rfl, rfl, rfl, ps, hln, hps, hbr⟩ := hrel
      have hzr := hbr.size
      by_cases hlt : k < y.length
      · obtain ⟨ab, off, v, hA1, _, q00, q01, hw0, hv⟩ := cell_at hx.slb hlt
        subst hA1
        obtain ⟨A', c', rfl, _, _, _⟩ := hv.open_
        have hab := World.block_lt_of_cell? _ _ q00
        simp only at hab
        have q0 := (hbr.cell (p := ⟨ab, off + k * 2, none⟩) hab).trans q00
        have q1 := (hbr.cell (p := ⟨ab, off + k * 2 + 1, none⟩) hab).trans q01
        have hki : (k : Int) < y.length := by omega
        have hsn := brkS_snoc wd y k hlt
        have hok := brkS_ok wd hr.1 y k hk (fun i hi => HALL.out i (List.mem_of_mem_take hi))
        have hbl := brk_len wd y k hk
        have hri := HALL.out y[k] (List.getElem_mem _)
        obtain ⟨ik, hik⟩ : ∃ ik, y[k] = ik := ⟨_, rfl⟩
        obtain ⟨kw, t⟩ := ik
        rw [hik] at q0 q1 q00 q01 hv hsn hri hw0
        simp only at q0 q1 q00 q01 hv hw0
        obtain ⟨s, hs⟩ : ∃ s, brkS wd (y.take k) = s := ⟨_, rfl⟩
        rw [hs] at hsn hok hbl hps ⊢
        obtain ⟨out, line⟩ := s
        have hpl : ps.length = out.length + 1 := by
          have := congrArg List.length hps
          rw [List.length_map] at this
          rw [this]; simp [curL]
        have hll := hok.len
        simp only at hll hbl
        have hcw := cellsW_len wd hr.1 (kw, t) hri
        have htl := rightI_short _ hri
        simp only at htl
        have HSN := hide hsn
        have HPS := hide hps
        have HCW := hide hcw
        have HQ0 := hide q00
        have HQ1 := hide q01
        have hv5 : Slc (Rep.int .i32) (fun b => b < w.heap.size) (fun b => b < w.heap.size) wr.drew (.slice A' t.length c') t := hv.mono (Keep.below (below_drw hbr)) (Keep.below (below_drw hbr))
        have HOF := hide (rOf2_ok _ _ (.slice A' t.length c') t kw wr.drew hw0 hv5 (by omega))
        clear hsn hps hcw hok hik hs q00 q01 hv hv5 hri
        go_upto_region 7 with fail
        refine wp_region_held_drew (S := fun w' => w'.cell? ⟨ab, off + k * 2, none⟩ = some (.int .i64 kw) ∧ w'.cell? ⟨ab, off + k * 2 + 1, none⟩ = some (.slice A' t.length c')) (by kernel_rfl) (by exact ⟨q0, q1⟩) (fun hHeld => ?_)
        refine wpAnyH_take (i := 0) (oi := ?_) (v := ?_) ?_ (by kernel_rfl) (by kernel_rfl) (by kernel_rfl) ?_ (Or.inl ⟨?_, ?_⟩) (by assumption) ?_
        rotate_left 2
        · (simp only [List.getElem?_toArray, List.getElem?_cons_succ, List.getElem?_cons_zero]; rfl)
        rotate_left 1
        · rfl
        · (intro w hSw; obtain ⟨q0, q1⟩ := hSw; go_simp; try with_reducible rfl)
        rotate_left 1
        · exact fun _ _ _ h => h
        try simp only [Act.put, List.setIfInBounds_toArray, List.set_cons_zero, List.set_cons_succ]
        refine wpAnyH_take (i := 1) (oi := ?_) (v := ?_) ?_ (by kernel_rfl) (by kernel_rfl) (by kernel_rfl) ?_ (Or.inl ⟨?_, ?_⟩) (by assumption) ?_
        rotate_left 2
        · (simp only [List.getElem?_toArray, List.getElem?_cons_succ, List.getElem?_cons_zero]; rfl)
        rotate_left 1
        · rfl
        · (intro w hSw; obtain ⟨q0, q1⟩ := hSw; go_simp; try with_reducible rfl)
        rotate_left 1
        · exact fun _ _ _ h => h
        try simp only [Act.put, List.setIfInBounds_toArray, List.set_cons_zero, List.set_cons_succ]
        refine wpAnyH_take (i := 2) (oi := ?_) (v := ?_) ?_ (by kernel_rfl) (by kernel_rfl) (by kernel_rfl) ?_ (Or.inl ⟨?_, ?_⟩) (by assumption) ?_
        rotate_left 2
        · (simp only [List.getElem?_toArray, List.getElem?_cons_succ, List.getElem?_cons_zero]; rfl)
        rotate_left 1
        · rfl
        · (intro w hSw; obtain ⟨q0, q1⟩ := hSw; go_simp; try with_reducible rfl)
        rotate_left 1
        · exact fun _ _ _ h => h
        try simp only [Act.put, List.setIfInBounds_toArray, List.set_cons_zero, List.set_cons_succ]
        refine wpAnyH_take (i := 3) (oi := ?_) (v := ?_) ?_ (by kernel_rfl) (by kernel_rfl) (by kernel_rfl) ?_ (Or.inl ⟨?_, ?_⟩) (by assumption) ?_
        rotate_left 2
        · (simp only [List.getElem?_toArray, List.getElem?_cons_succ, List.getElem?_cons_zero]; rfl)
        rotate_left 1
        · rfl
        · (intro w hSw; obtain ⟨q0, q1⟩ := hSw; go_simp; try with_reducible rfl)
        rotate_left 1
        · exact fun _ _ _ h => h
        try simp only [Act.put, List.setIfInBounds_toArray, List.set_cons_zero, List.set_cons_succ]
        refine wpAnyH_take (i := 4) (oi := ?_) (v := ?_) ?_ (by kernel_rfl) (by kernel_rfl) (by kernel_rfl) ?_ (Or.inl ⟨?_, ?_⟩) (by assumption) ?_
        rotate_left 2
        · (simp only [List.getElem?_toArray, List.getElem?_cons_succ, List.getElem?_cons_zero]; rfl)
        rotate_left 1
        · rfl
        · (intro w hSw; obtain ⟨q0, q1⟩ := hSw; go_simp; try with_reducible rfl)
        rotate_left 1
        · exact fun _ _ _ h => h
        try simp only [Act.put, List.setIfInBounds_toArray, List.set_cons_zero, List.set_cons_succ]
        refine wpAnyH_take (i := 5) (oi := ?_) (v := ?_) ?_ (by kernel_rfl) (by kernel_rfl) (by kernel_rfl) ?_ (Or.inl ⟨?_, ?_⟩) (by assumption) ?_
        rotate_left 2
        · (simp only [List.getElem?_toArray, List.getElem?_cons_succ, List.getElem?_cons_zero]; rfl)
        rotate_left 1
        · rfl
        · (intro w hSw; obtain ⟨q0, q1⟩ := hSw; go_simp; try with_reducible rfl)
        rotate_left 1
        · exact fun _ _ _ h => h
        try simp only [Act.put, List.setIfInBounds_toArray, List.set_cons_zero, List.set_cons_succ]
        refine wpAnyH_take (i := 6) (oi := ?_) (v := ?_) ?_ (by kernel_rfl) (by kernel_rfl) (by kernel_rfl) ?_ (Or.inl ⟨?_, ?_⟩) (by assumption) ?_
        rotate_left 2
        · (simp only [List.getElem?_toArray, List.getElem?_cons_succ, List.getElem?_cons_zero]; rfl)
        rotate_left 1
        · rfl
        · (intro w hSw; obtain ⟨q0, q1⟩ := hSw; go_simp; try with_reducible rfl)
        rotate_left 1
        · exact fun _ _ _ h => h
        try simp only [Act.put, List.setIfInBounds_toArray, List.set_cons_zero, List.set_cons_succ]
        refine wpAnyH_take (i := 7) (oi := ?_) (v := ?_) ?_ (by kernel_rfl) (by kernel_rfl) (by kernel_rfl) ?_ (Or.inl ⟨?_, ?_⟩) (by assumption) ?_
        rotate_left 2
        · (simp only [List.getElem?_toArray, List.getElem?_cons_succ, List.getElem?_cons_zero]; rfl)
        rotate_left 1
        · rfl
        · (intro w hSw; obtain ⟨q0, q1⟩ := hSw; go_simp; try with_reducible rfl)
        rotate_left 1
        · exact fun _ _ _ h => h
        try simp only [Act.put, List.setIfInBounds_toArray, List.set_cons_zero, List.set_cons_succ]
        refine wpAnyH_take (i := 8) (oi := ?_) (v := ?_) ?_ (by kernel_rfl) (by kernel_rfl) (by kernel_rfl) ?_ (Or.inl ⟨?_, ?_⟩) (by assumption) ?_
        rotate_left 2
        · (simp only [List.getElem?_toArray, List.getElem?_cons_succ, List.getElem?_cons_zero]; rfl)
        rotate_left 1
        · rfl
        · (intro w hSw; obtain ⟨q0, q1⟩ := hSw; go_simp; try with_reducible rfl)
        rotate_left 1
        · exact fun _ _ _ h => h
        try simp only [Act.put, List.setIfInBounds_toArray, List.set_cons_zero, List.set_cons_succ]
        refine wpAnyH_take (i := 9) (oi := ?_) (v := ?_) ?_ (by kernel_rfl) (by kernel_rfl) (by kernel_rfl) ?_ (Or.inl ⟨?_, ?_⟩) (by assumption) ?_
        rotate_left 2
        · (simp only [List.getElem?_toArray, List.getElem?_cons_succ, List.getElem?_cons_zero]; rfl)
        rotate_left 1
        · rfl
        · (intro w hSw; obtain ⟨q0, q1⟩ := hSw; go_simp; try with_reducible rfl)
        rotate_left 1
        · exact fun _ _ _ h => h
        try simp only [Act.put, List.setIfInBounds_toArray, List.set_cons_zero, List.set_cons_succ]
        refine wpAnyH_ready (rs := [10]) (by kernel_rfl) (by simp) ?_
        refine AllReadyH.cons (o := ?_) ?_ (fun K hK => ?_) AllReadyH.nil
        rotate_left 1
        · (simp only [List.getElem?_toArray, List.getElem?_cons_succ, List.getElem?_cons_zero]; rfl)
        go_simp
        go_at_call 58; refine HOF.out.mono ?_; rintro e w5 ⟨cv, rfl, hcv, hc5⟩; have hb5 := (below_drw hbr).trans (hc5.mono hzr); have hz5 := hb5.size; have hapc : ∀ p ∈ ps, ∀ gg, cv.ownBlock = some gg → p.1.ownBlock ≠ some gg := (fun p hp gg hgg e => (by have h1 := ((hln.cells p hp).lt_ gg e).2; have h2 := (hcv.lt_ gg hgg).1; have h3 : wr.drew.heap.size = wr.heap.size := rfl; omega)); have hln := (hln.step ((Step.refl w.heap.size [] wr).drew) (by simp) (by simp) (by simp)).step (es := []) (Step.of_below hc5) (by simp) (by simp) (by simp); have hcv := hcv.down w.heap.size (Nat.zero_le _) hzr; have q0 := (hb5.cell (p := ⟨ab, off + k * 2, none⟩) hab).trans HQ0.out; have q1 := (hb5.cell (p := ⟨ab, off + k * 2 + 1, none⟩) hab).trans HQ1.out; clear hbr hzr hc5
        refine hK.out _ _ ?_ (fun hHeld => ?_)
        · exact ⟨q0, q1⟩
        clear hK K
        try simp only [Act.put, List.setIfInBounds_toArray, List.set_cons_zero, List.set_cons_succ]
        refine wpAnyH_take (i := 11) (oi := ?_) (v := ?_) ?_ (by kernel_rfl) (by kernel_rfl) (by kernel_rfl) ?_ (Or.inl ⟨?_, ?_⟩) (by assumption) ?_
        rotate_left 2
        · (simp only [List.getElem?_toArray, List.getElem?_cons_succ, List.getElem?_cons_zero]; rfl)
        rotate_left 1
        · rfl
        · (intro w hSw; obtain ⟨q0, q1⟩ := hSw; go_simp; try with_reducible rfl)
        rotate_left 1
        · exact fun _ _ _ h => h
        try simp only [Act.put, List.setIfInBounds_toArray, List.set_cons_zero, List.set_cons_succ]
        refine wpAnyH_done (by kernel_rfl) ?_ _
        clear hHeld q0 q1 HOF
        obtain ⟨nn, hnn⟩ : ∃ nn, ofF kw t = nn := ⟨_, rfl⟩
        rw [hnn] at hcv
        have HNN := hide hnn
        obtain ⟨Ac, cc, rfl, _, _, _⟩ := hcv.slc.open_
        obtain ⟨bg, hbg⟩ : ∃ bg, decide (wd < nn.length) = bg := ⟨_, rfl⟩
        have HBG := hide hbg
        obtain ⟨cl, hcl⟩ : ∃ cl, cellsW wd (kw, t) = cl := ⟨_, rfl⟩
        have HCL := hide hcl
        have hcn : 1 ≤ cl.length ∧ cl.length ≤ wd ∧ cl.length ≤ 2 := by rw [← hcl]; exact HCW.out
        clear hnn hbg hcl HCW
        go_upto_region 8 with fail
        go_cut [38] from 18 to 84 (fun s wx => s = .bool bg ∧ w5 = wx)
        case first =>
          by_cases hb : wd < nn.length
          · have hb2 : (wd : Int) < nn.length := by omega
            have E : Hid (true = bg) := hide (by rw [← HBG.out, decide_eq_true hb])
            go_wp2
            go_meet
            exact ⟨bool_eq (E.out), rfl⟩
          · have hb2 : ¬ (wd : Int) < nn.length := by omega
            have E : Hid (false = bg) := hide (by rw [← HBG.out, decide_eq_false hb])
            go_wp2
            go_meet
            exact ⟨bool_eq (E.out), rfl⟩
        case rest =>
          obtain ⟨rfl, rfl⟩ := hcut
          go_upto_if 38 with fail
          go_cut [9] from 18 to 84 (fun s wx => Own2 RCell 74 [21] w.heap.size 0 wx s cl ∧ (∀ p ∈ ps, ∀ gg, s.ownBlock = some gg → p.1.ownBlock ≠ some gg) ∧ LnsP w.heap.size wx u7 ps ∧ Below w.heap.size w wx)
          case first =>
            cases bg with
            | true =>
              have hbig := of_decide_eq_true HBG.out
              have E : Hid ([((1, [65533]) : CellV)] = cl) := hide (by rw [← HCL.out]; exact (brk_bad (by rw [HNN.out]; exact hbig)).symm)
              have hown3 := own_i32 w5 [65533] (by intro n hn; simp at hn; subst hn; decide) w5.heap.size w5.heap.size 1 (Nat.le_refl _) rfl rfl (by simp [maxLen])
              have hb6 := hb5.alloc hz5 (.cells #[.int .i32 65533] 21)
              have hty := own_typed (base' := 0) hown3 (Typed 0 [21] (w5.alloc (.cells #[.int .i32 65533] 21)))
              have hO : Own2 RCell 74 [21] w.heap.size 0 ((w5.alloc (.cells #[.int .i32 65533] 21)).alloc (.cells #[.int .i64 1, .slice (some ⟨w5.heap.size, 0, none⟩) 1 1] 74)) (.slice (some ⟨(w5.alloc (.cells #[.int .i32 65533] 21)).heap.size, 0, none⟩) 1 1) [(1, [65533])] :=
                Own2.lit (Nat.zero_le _) (by decide) (els_cell1 (by decide) hty) hb6.size rfl (by simp [maxLen])
              have hst6 : Step w.heap.size [] w5 ((w5.alloc (.cells #[.int .i32 65533] 21)).alloc (.cells #[.int .i64 1, .slice (some ⟨w5.heap.size, 0, none⟩) 1 1] 74)) := (Step.alloc1 _ _ _ _).trans (Step.alloc1 _ _ _ _)
              have hlt5 : ∀ p ∈ ps, ∀ gg, p.1.ownBlock = some gg → gg < w5.heap.size := fun p hp gg hgg => ((hln.cells p hp).lt_ gg hgg).2
              have hln6 := hln.step hst6 (by simp) (by simp) (by simp)
              have hb7 := hb6.alloc hb6.size (.cells #[.int .i64 1, .slice (some ⟨w5.heap.size, 0, none⟩) 1 1] 74)
              simp only [World.size_alloc] at hO
              have HO := hide hO
              have HLN := hide hln6
              have HLT := hide hlt5
              clear hO hln6 hlt5 hst6 hty hown3 hbig
              go_wp2
              go_meet
              refine ⟨by rw [← E.out]; exact HO.out, fun p hp gg hgg e => ?_, HLN.out, hb7⟩
              simp only [Value.ownBlock, Option.some.injEq] at hgg
              have := HLT.out p hp gg e
              omega
            | false =>
              have hnb := of_decide_eq_false HBG.out
              have E : Hid (nn = cl) := hide (by rw [← HCL.out]; exact (brk_cells HNN.out hnb).symm)
              clear hnb
              go_wp2
              go_meet
              exact ⟨by rw [← E.out]; exact hcv, hapc, hln, hb5⟩
          case rest =>
            clear hcv hapc hln hb5 HBG HNN
            obtain ⟨hcv, hapc, hln, hb6⟩ := hcut
            have hz6 := hb6.size
            obtain ⟨Ad, cd, hce, _, _, _⟩ := hcv.slc.open_
            subst hce
            clear HQ0 HQ1
            obtain ⟨rm, hrm⟩ : ∃ rm, decide (wd < line.length + cl.length) = rm := ⟨_, rfl⟩
            have HRM := hide hrm
            clear hrm
            go_upto_region 10 with fail
            go_cut [47] from 18 to 84 (fun s wx => s = .bool rm ∧ wc = wx)
            case first =>
              by_cases hb : wd < line.length + cl.length
              · have hb2 : (wd : Int) < line.length + cl.length := by omega
                have E : Hid (true = rm) := hide (by rw [← HRM.out, decide_eq_true hb])
                go_wp2
                go_meet
                exact ⟨bool_eq (E.out), rfl⟩
              · have hb2 : ¬ (wd : Int) < line.length + cl.length := by omega
                have E : Hid (false = rm) := hide (by rw [← HRM.out, decide_eq_false hb])
                go_wp2
                go_meet
                exact ⟨bool_eq (E.out), rfl⟩
            case rest =>
              obtain ⟨rfl, rfl⟩ := hcut
              go_upto_if 47 with fail
              go_cut [5, 6, 7] from 18 to 84 (fun s5 s6 s7 wx => ∃ ps2 : List (Value × LineV), s5 = .int .i64 (((roomS wd (out, line) cl).1.length + 1 : Nat) : Int) ∧ s6 = .int .i64 ((roomS wd (out, line) cl).2.length : Nat) ∧ LnsP w.heap.size wx s7 ps2 ∧ ps2.map Prod.snd = curL wd (roomS wd (out, line) cl) ∧ (∀ p ∈ ps2, ∀ gg, (Value.slice Ad cl.length cd).ownBlock = some gg → p.1.ownBlock ≠ some gg) ∧ Own2 RCell 74 [21] w.heap.size 0 wx (.slice Ad cl.length cd) cl ∧ Below w.heap.size w wx)
              case first =>
                cases rm with
                | true =>
                  have hbig := of_decide_eq_true HRM.out
                  have HRS : Hid (roomS wd (out, line) cl = (out ++ [(fillL wd line, true)], [])) := hide (if_pos (show wd - line.length < cl.length by omega))
                  have hpi : out.length < ps.length := by omega
                  obtain ⟨G, capG, hu7, hgb, hglt, hcapG, hc0, hc1, hfr⟩ := hln.at_ hpi
                  rw [hpl] at hu7
                  subst hu7
                  obtain ⟨hlnA, hstA⟩ := hln.flip (b := true) hpi rfl
                  have hbA : Below w.heap.size w _ := hb6.setCell (p := ⟨G, out.length * 2 + 1, none⟩) hgb (.bool true)
                  have hcvA := hcv.step hstA (by decide) (by decide)
                  have HLT : Hid (∀ p ∈ ps.set out.length (ps[out.length].1, (ps[out.length].2.1, true)), ∀ gg, p.1.ownBlock = some gg → gg < wc.heap.size) := hide (set_fst hpi _ (P := fun v => ∀ gg, v.ownBlock = some gg → gg < wc.heap.size) (fun p hp gg hgg => ((hln.cells p hp).lt_ gg hgg).2))
                  have HAP : Hid (∀ p ∈ ps.set out.length (ps[out.length].1, (ps[out.length].2.1, true)), ∀ gg, (Value.slice Ad cl.length cd).ownBlock = some gg → p.1.ownBlock ≠ some gg) := hide (set_fst hpi _ (P := fun v => ∀ gg, (Value.slice Ad cl.length cd).ownBlock = some gg → v.ownBlock ≠ some gg) hapc)
                  have HCL2 : Hid (∀ gg, (Value.slice Ad cl.length cd).ownBlock = some gg → gg < wc.heap.size) := hide (fun gg hgg => (hcv.lt_ gg hgg).2)
                  have HPA : Hid ((ps.set out.length (ps[out.length].1, (ps[out.length].2.1, true))).map Prod.snd = out ++ [(fillL wd line, true)]) := hide (by rw [cur_set HPS.out, cur_at HPS.out hpi])
                  have hpal : (ps.set out.length (ps[out.length].1, (ps[out.length].2.1, true))).length = out.length + 1 := by rw [List.length_set]; exact hpl
                  generalize ps.set out.length (ps[out.length].1, (ps[out.length].2.1, true)) = psA at *
                  have HLA := hide hlnA
                  have HCA := hide hcvA
                  have HBA := hide hbA
                  have hszA : (wc.setCell ⟨G, out.length * 2 + 1, none⟩ (.bool true)).heap.size = wc.heap.size := by simp
                  clear hbig hln hcv hb6 hapc hlnA hcvA hbA hstA
                  go_wp2_with (first
                    | (at_make; refine wpList_make_full _ rfl (.tmp 54) (.tmp 54) 23 rfl wc.heap.size 74 ti _ RCell.sz Tryd.underlying23 hi1 hi2 hi3 .i64 .i64 _ _ wd rfl rfl rfl rfl (by rw [hi4]; omega) (by simp only [maxLen]; omega) (by rw [hszA]; exact Nat.le_refl _) ?_; intro w2 hown2 hg2; have hown2 := (show w2.ownsRow (wc.setCell ⟨G, out.length * 2 + 1, none⟩ (.bool true)).heap.size 74 RCell.sz (.slice (some ⟨(wc.setCell ⟨G, out.length * 2 + 1, none⟩ (.bool true)).heap.size, 0, none⟩) wd wd) wd (madeCells (Value.agg #[.int .i64 0, .slice none 0 0]).cells (wd * RCell.sz)).toList from (by rw [hszA]; first | exact hown2 | (simp only [World.size_setCell] at hown2; exact hown2))); obtain ⟨hO2, hB2⟩ := KEY.out _ w2 hown2 hg2; have hlnB := HLA.out.step (es := []) (Step.of_below hB2) (by simp) (by simp) (by simp); have hcvB := HCA.out.step (es := []) (Step.of_below hB2) (by simp) (by simp); have hbB := HBA.out.trans (hB2.mono (by rw [hszA]; exact hz6)); rw [hszA] at hO2; have hzB := hbB.size; have hlnC := hide (hlnB.step (Step.alloc1 w.heap.size [] w2 (.cells #[.slice (some ⟨wc.heap.size, 0, none⟩) wd wd, .bool false] 38)) (by simp) (by simp) (by simp)); have hcvC := hide (hcvB.alloc (.cells #[.slice (some ⟨wc.heap.size, 0, none⟩) wd wd, .bool false] 38)); have hbC := hide (hbB.alloc hzB (.cells #[.slice (some ⟨wc.heap.size, 0, none⟩) wd wd, .bool false] 38)); have hOC := hide (hO2.alloc (.cells #[.slice (some ⟨wc.heap.size, 0, none⟩) wd wd, .bool false] 38)); have hone := Slc.lit1 (R := RSl) (Si := fun _ => False) (Si' := fun _ => False) (w := w2) (x := ((.slice (some ⟨wc.heap.size, 0, none⟩) wd wd : Value), false)) (u := [.slice (some ⟨wc.heap.size, 0, none⟩) wd wd, .bool false]) 38 ⟨[.slice (some ⟨wc.heap.size, 0, none⟩) wd wd], [.bool false], rfl, ⟨rfl, rfl⟩, rfl⟩ (fun _ _ h => h.elim); clear hown2 hg2 hlnB hcvB hbB hO2 hB2)
                    | (at_builtin; refine wpList_appg rfl (.tmp 53) (.tmp 57) 22 rfl RSl 38 [] w.heap.size 32 _ Tryd.underlying22 line_info rfl (by decide) (by decide) _ _ rfl hlnC.out.row _ (fun _ => False) _ _ rfl hone (fun _ h => False.elim h) (by simp; omega) hbC.out.size ?_; intro v8 w8 hv8 hst8 hg8 ho8; have hln8 := hide (LnsP.snoc2 (l := (List.replicate wd (0, []), false)) (fun p hp => (hlnC.out.cells p hp).step hst8 (by decide) (by decide)) hlnC.out.apart (fun p hp gg hgg e => (by have h1 := HLT.out p hp gg hgg; simp only [Value.ownBlock, Option.some.injEq] at e; omega)) hv8 ((hOC.out.down w.heap.size (Nat.zero_le _) hz6).step hst8 (by decide) (by decide))); have hcv8 := hide (hcvC.out.step hst8 (by decide) (by decide)); have hb8 := hide (hbC.out.trans (hst8.below hbC.out.size)); clear hv8 hst8 hg8 ho8 hone hlnC hcvC hbC hOC))
                  go_meet
                  refine ⟨psA ++ [((.slice (some ⟨wc.heap.size, 0, none⟩) wd wd : Value), ((List.replicate wd (0, []), false) : LineV))], (by rw [HRS.out]; exact int_eq (by simp)), (by rw [HRS.out]; rfl), hln8.out, by rw [HRS.out, List.map_append, HPA.out]; simp [curL, fill_nil], fun p hp gg hgg e => ?_, hcv8.out, hb8.out⟩
                  rcases List.mem_append.1 hp with hp | hp
                  · exact HAP.out p hp gg hgg e
                  · rw [List.mem_singleton] at hp
                    subst hp
                    simp only [Value.ownBlock, Option.some.injEq] at e
                    have := HCL2.out gg hgg
                    omega
                | false =>
                  have hbig := of_decide_eq_false HRM.out
                  have HRS : Hid (roomS wd (out, line) cl = (out, line)) := hide (if_neg (show ¬ wd - line.length < cl.length by omega))
                  clear hbig
                  have HLA := hide hln
                  go_wp2
                  go_meet
                  exact ⟨ps, (by rw [HRS.out]; exact int_eq (by simp)), (by rw [HRS.out]), HLA.out, by rw [HRS.out]; exact HPS.out, hapc, hcv, hb6⟩
              case rest =>
                obtain ⟨ps2, rfl, rfl, hln2, hps2, hap2, hcv2, hb7⟩ := hcut
                clear hln hcv hb6 hapc hpl hz6 HRM
                have hfit := room_fit (out := out) (line := line) hll hcn.2.1
                have hrl := room_len wd (out, line) cl
                simp only at hrl
                replace hrl : (roomS wd (out, line) cl).1.length ≤ 60000 := by omega
                clear hbl
                have HPUT := hide (put_room wd (out, line) cl)
                generalize roomS wd (out, line) cl = sY at *
                obtain ⟨outY, lineY⟩ := sY
                simp only at hfit hrl HPUT hps2
                have hps2 : ps2.map Prod.snd = curL wd (outY, lineY ++ cl.take 0) := by rw [List.take_zero, List.append_nil]; exact hps2
                go_wp2_with fail
                go_loopw [10] (fun s10 wi => ∃ m : Nat, m ≤ cl.length ∧ s10 = .int .i64 m ∧ ∃ qs : List (Value × LineV), LnsP w.heap.size wi u7 qs ∧ qs.map Prod.snd = curL wd (outY, lineY ++ cl.take m) ∧ (∀ p ∈ qs, ∀ gg, (Value.slice Ad cl.length cd).ownBlock = some gg → p.1.ownBlock ≠ some gg) ∧ Own2 RCell 74 [21] w.heap.size 0 wi (.slice Ad cl.length cd) cl ∧ Below w.heap.size w wi) (fun s10 _ => cl.length - (intOf s10).toNat)
                case atStart => exact ⟨0, Nat.zero_le _, rfl, ps2, hln2, hps2, hap2, hcv2, hb7⟩
                case round =>
                  clear hln2 hps2 hap2 hcv2 hb7
                  obtain ⟨m, hm, rfl, qs, hlq, hqs, haq, hcq, hbq⟩ := hrel
                  by_cases hlm : m < cl.length
                  · have hql : qs.length = outY.length + 1 := by
                      have := congrArg List.length hqs
                      rw [List.length_map] at this
                      rw [this]; simp [curL]
                    have hqi : outY.length < qs.length := by omega
                    obtain ⟨G, capG, hu7, hgb, hglt, hcapG, hc0, -, -⟩ := hlq.at_ hqi
                    have hq2 := cur_at hqs hqi
                    have hfl : (fillL wd (lineY ++ cl.take m)).length = wd := fill_len (by rw [List.length_append, List.length_take]; omega)
                    have hown := hlq.cells qs[outY.length] (List.getElem_mem _)
                    rw [hq2] at hown
                    simp only at hown
                    obtain ⟨Al, cpl, hel, ju1, ju2, ju3⟩ := hown.slc.open_
                    clear ju1 ju2 ju3
                    rw [hel] at hown hc0
                    obtain ⟨gl, vl, rfl, hgl, hgll, hl0, hl1, -, hf0, hf1, -⟩ := own2_at hown (m := lineY.length + m) (by rw [hfl]; omega)
                    replace hl0 : ∃ a, World.cell? _ ⟨gl, (lineY.length + m) * 2, none⟩ = some a := ⟨_, hl0⟩
                    obtain ⟨a0, hl0⟩ := hl0
                    rw [hfl] at hel hc0
                    obtain ⟨ga, va, rfl, hgab, hgalt, hm0, hm1, hmE, -, -, Av, nv, cv, rfl⟩ := own2_at hcq hlm
                    obtain ⟨hlq9, hst9, hgr9, cs9, hblk9⟩ := hlq.put1 (i := outY.length) (f := lineY.length + m) hqi hel (by rw [hq2]; exact hfl) (by omega) hmE
                    have hcq9 := hide (hcq.stay hgr9 hblk9 (by decide) (fun e => haq _ (List.getElem_mem _) gl e (by rw [hel]; rfl)))
                    have hbq9 := hide (hbq.trans (hst9.below hbq.size))
                    have HQ9 : Hid ((qs.set outY.length (qs[outY.length].1, (qs[outY.length].2.1.set (lineY.length + m) cl[m], qs[outY.length].2.2))).map Prod.snd = curL wd (outY, lineY ++ cl.take (m + 1))) := hide (by rw [cur_set hqs, hq2]; simp only; rw [fill_put hlm (by omega)]; rfl)
                    have HAQ9 : Hid (∀ p ∈ qs.set outY.length (qs[outY.length].1, (qs[outY.length].2.1.set (lineY.length + m) cl[m], qs[outY.length].2.2)), ∀ gg, (Value.slice (some ⟨ga, 0, none⟩) cl.length cd).ownBlock = some gg → p.1.ownBlock ≠ some gg) := hide (set_fst hqi _ (P := fun v => ∀ gg, (Value.slice (some ⟨ga, 0, none⟩) cl.length cd).ownBlock = some gg → v.ownBlock ≠ some gg) haq)
                    generalize qs.set outY.length (qs[outY.length].1, (qs[outY.length].2.1.set (lineY.length + m) cl[m], qs[outY.length].2.2)) = qs9 at *
                    have hlq9raw := hlq9
                    clear hlq9
                    have hlq9 := hide hlq9raw
                    clear hlq9raw
                    obtain ⟨km, tm⟩ : ∃ km, cl[m].1 = km := ⟨_, rfl⟩
                    rw [tm] at hm0 hlq9 hcq9 hbq9
                    rw [hql] at hu7 hcapG
                    subst hu7
                    have hmi : (m : Int) < cl.length := by omega
                    clear hlq hqs haq hcq hbq hq2 hown hel hmE hst9 hgr9 hblk9 hqi hql hcapG tm hfl
                    go_upto_region 18 with fail
                    go_region
                    go_wp2_with fail
                    go_roundw
                    case rel => exact ⟨m + 1, by omega, by go_num, qs9, hlq9.out.step ((Step.refl w.heap.size [] _).drew) (by simp) (by simp) (by simp), HQ9.out, HAQ9.out, hcq9.out.dr, below_drw hbq9.out⟩
                    case measure => simp [intOf]; omega
                  · obtain rfl : m = cl.length := by omega
                    rw [List.take_of_length_le (Nat.le_refl _)] at hqs
                    have HQS := hide hqs
                    have HE : Hid (brkS wd (y.take (k + 1)) = (outY, lineY ++ cl)) := hide (by rw [HSN.out, HCL.out, HPUT.out])
                    clear hqs
                    go_wp2
                    go_roundw
                    case rel => exact ⟨k + 1, by omega, by go_num, (by rw [HE.out]), (by rw [HE.out]; exact int_eq (by simp)), qs, hlq, by rw [HE.out]; exact HQS.out, hbq⟩
                    case measure => simp [intOf]; omega
      · obtain rfl : k = y.length := by omega
        rw [List.take_of_length_le (Nat.le_refl _)] at hps
        have HPS := hide hps
        clear hps
        go_wp2
        go_ret
        exact ⟨_, ps, rfl, hln, HPS.out, hbr⟩
end Go.Proofs.YtbkenfljknpjgaaDoor

namespace Go.Proofs.YtbkenfljknpjgaaDoor
open Go.RowKit
set_option linter.unusedVariables false
set_option linter.unusedSimpArgs false

/-- How many are left, without blanks at the end. -/
def cutN (x : List ItemV) : Nat → Nat
  | 0 => 0
  | n + 1 => if (x.getD n (0, [])).2.length = 0 then cutN x n else n + 1
def cutOn (x : List ItemV) : Nat → Nat
  | 0 => 0
  | n + 1 => if (x.getD n (0, [])).2.length = 0 then n else n + 1
def cntN (on : Bool) (x : List ItemV) : Nat := if on = true then cutOn x x.length else cutN x x.length
def cntF (on : Bool) (x : List ItemV) : List ItemV := x.take (cntN on x)
theorem cutN_le (x : List ItemV) : ∀ n, cutN x n ≤ n
  | 0 => Nat.le_refl _
  | n + 1 => by
    have := cutN_le x n
    rw [cutN]
    split
    · exact Nat.le_succ_of_le this
    · exact Nat.le_refl _
theorem cutOn_le (x : List ItemV) (n : Nat) : cutOn x n ≤ n := by
  cases n with
  | zero => exact Nat.le_refl _
  | succ n =>
    rw [cutOn]
    split
    · exact Nat.le_succ n
    · exact Nat.le_refl _
theorem cntN_le (on : Bool) (x : List ItemV) : cntN on x ≤ x.length := by
  unfold cntN
  split
  · exact cutOn_le x _
  · exact cutN_le x _
theorem cut_blank {x : List ItemV} {n : Nat} (h : n < x.length) (hb : x[n].2.length = 0) : cutN x (n + 1) = cutN x n ∧ cutOn x (n + 1) = n := by
  have e : (x.getD n (0, [])) = x[n] := by rw [List.getD_eq_getElem?_getD, List.getElem?_eq_getElem h]; rfl
  exact ⟨by rw [cutN, e, if_pos hb], by rw [cutOn, e, if_pos hb]⟩
theorem cut_keep {x : List ItemV} {n : Nat} (h : n < x.length) (hb : ¬ x[n].2.length = 0) : cutN x (n + 1) = n + 1 ∧ cutOn x (n + 1) = n + 1 := by
  have e : (x.getD n (0, [])) = x[n] := by rw [List.getD_eq_getElem?_getD, List.getElem?_eq_getElem h]; rfl
  exact ⟨by rw [cutN, e, if_neg hb], by rw [cutOn, e, if_neg hb]⟩

def lnOf : Value → Nat
  | .slice _ n _ => n
  | _ => 0
theorem blank_ok (k : Int) (A : Option Addr) (n c : Nat) (w : World) :
    Calls Tryd.prog 64 #[.agg #[.int .i64 k, .slice A n c]] w fun e w' => e = .returned (.bool (decide (n = 0))) ∧ Below w.heap.size w w' := by
  have bx := Blk.new w 50 #[.int .i64 k, .slice A n c]
  have q1 := bx.cell 1
  simp only [List.getElem?_toArray, List.getElem?_cons_succ, List.getElem?_cons_zero] at q1
  have hb := (Below.refl w.heap.size w).alloc (Nat.le_refl _) (.cells #[.int .i64 k, .slice A n c] 50)
  clear bx
  go_enter Tryd.func64, Tryd.ntmps64
  by_cases h : n = 0
  · subst h
    go_wp2
    go_ret
    exact ⟨by simp, hb⟩
  · have h2 : ¬ (n : Int) = 0 := by omega
    go_wp2
    go_ret
    exact ⟨by simp [h], hb⟩

set_option maxHeartbeats 4000000 in
theorem counted_ok (So Si : Nat → Prop) (A : Option Addr) (c : Nat) (y : List ItemV) (on : Bool) (w : World) (hx : Slc RCell So Si w (.slice A y.length c) y) (hlen : y.length ≤ 1000000) :
    Calls Tryd.prog 53 #[.slice A y.length c, .bool on] w fun e w' => e = .returned (.slice A (cntN on y) c) ∧ Below w.heap.size w w' := by
  have hci : y.length ≤ c := by
    obtain ⟨A', c', e, h1, _⟩ := hx.open_
    injection e with _ _ e3
    omega
  have hat := fun (k : Nat) (hk : k < y.length) => cell_at hx.slb hk
  have HAT := hide hat
  clear hat
  go_enter Tryd.func53, Tryd.ntmps53
  cases on with
  | true =>
    rcases Nat.eq_zero_or_pos y.length with h0 | h0
    · have e : cntN true y = 0 := by unfold cntN; rw [if_pos rfl, h0]; rfl
      rw [e]
      obtain rfl := List.eq_nil_of_length_eq_zero h0
      simp only [List.length_nil] at hci hlen ⊢
      clear HAT hx e
      go_wp2_with fail
      go_loopw [0] (fun s wr => s = .slice A 0 c ∧ w = wr) (fun _ _ => 0)
      case atStart => exact ⟨rfl, rfl⟩
      case round =>
        obtain ⟨rfl, rfl⟩ := hrel
        go_wp2
        go_ret
        exact ⟨rfl, Below.refl _ _⟩
    · obtain ⟨n, hn⟩ : ∃ n, y.length = n + 1 := ⟨y.length - 1, by omega⟩
      obtain ⟨ab, off, v, hA, _, q0, q1, _, hv⟩ := HAT.out n (by omega)
      obtain ⟨A', c', rfl, _, _, _⟩ := hv.open_
      subst hA
      have hcb := cut_blank (x := y) (n := n) (by omega)
      have hck := cut_keep (x := y) (n := n) (by omega)
      have HBL := hide (fun W => blank_ok y[n].1 A' y[n].2.length c' W)
      have HCN : Hid (cntN true y = cutOn y (n + 1)) := hide (by unfold cntN; rw [if_pos rfl, hn])
      have HCB := hide hcb
      have HCK := hide hck
      clear hcb hck HAT
      rw [hn]
      go_wp2_with fail
      refine (HBL.out _).mono ?_
      rintro e w1 ⟨rfl, hb1⟩
      clear q0 q1
      by_cases hb : y[n].2.length = 0
      · have E : Hid (cntN true y = n) := hide (by rw [HCN.out, (HCB.out hb).2])
        rw [decide_eq_true hb]
        clear hb
        go_wp2
        go_ret
        exact ⟨by rw [E.out]; rfl, hb1⟩
      · have E : Hid (cntN true y = n + 1) := hide (by rw [HCN.out, (HCK.out hb).2])
        rw [decide_eq_false hb]
        clear hb
        go_wp2_with fail
        go_loopw [0] (fun s wr => s = .slice (some ⟨ab, off, none⟩) (n + 1) c ∧ w1 = wr) (fun _ _ => 0)
        case atStart => exact ⟨rfl, rfl⟩
        case round =>
          obtain ⟨rfl, rfl⟩ := hrel
          go_wp2
          go_ret
          exact ⟨by rw [E.out]; rfl, hb1⟩
  | false =>
    have HCN : Hid (cntN false y = cutN y y.length) := hide (by unfold cntN; rw [if_neg (by decide)])
    rw [HCN.out]
    have hwr : IntKind.i64.wrap ((y.length : Int) - 1) = (y.length : Int) - 1 := IntWalk.i64_in _ (by omega)
    go_wp2_with fail
    go_loopw [0] (fun s wr => ∃ n, n ≤ y.length ∧ s = .slice A n c ∧ cutN y n = cutN y y.length ∧ Below w.heap.size w wr) (fun s _ => lnOf s)
    case atStart => exact ⟨_, Nat.le_refl _, rfl, rfl, Below.refl _ _⟩
    case round =>
      obtain ⟨n, hn, rfl, hcn, hbr⟩ := hrel
      have HCU := hide hcn
      clear hcn hwr HCN
      cases n with
      | zero =>
        have E : Hid (cutN y y.length = 0) := hide HCU.out.symm
        go_wp2
        go_ret
        exact ⟨by rw [E.out]; rfl, hbr⟩
      | succ n =>
        obtain ⟨ab, off, v, hA, _, p0, p1, _, hv⟩ := HAT.out n (by omega)
        obtain ⟨A', c', rfl, _, _, _⟩ := hv.open_
        subst hA
        have hab := World.block_lt_of_cell? _ _ p0
        simp only at hab
        have q0 := (hbr.cell (p := ⟨ab, off + n * 2, none⟩) hab).trans p0
        have q1 := (hbr.cell (p := ⟨ab, off + n * 2 + 1, none⟩) hab).trans p1
        have HBL := hide (fun W => blank_ok y[n].1 A' y[n].2.length c' W)
        have HCB := hide (cut_blank (x := y) (n := n) (by omega))
        have HCK := hide (cut_keep (x := y) (n := n) (by omega))
        clear p0 p1 HAT
        go_wp2_with fail
        refine (HBL.out _).mono ?_
        rintro e w1 ⟨rfl, hb1⟩
        have hb2 := hbr.trans (hb1.mono hbr.size)
        clear q0 q1
        by_cases hb : y[n].2.length = 0
        · have E : Hid (cutN y n = cutN y y.length) := hide (by rw [← (HCB.out hb).1, HCU.out])
          rw [decide_eq_true hb]
          clear hb
          go_wp2
          go_roundw
          case rel => exact ⟨n, by omega, rfl, E.out, hb2⟩
          case measure => simp [lnOf]
        · have E : Hid (cutN y y.length = n + 1) := hide (by rw [← HCU.out, (HCK.out hb).1])
          rw [decide_eq_false hb]
          clear hb
          go_wp2
          go_ret
          exact ⟨by rw [E.out]; rfl, hb2⟩
end Go.Proofs.YtbkenfljknpjgaaDoor

namespace Go.Proofs.YtbkenfljknpjgaaDoor
open Go.RowKit
set_option linter.unusedVariables false
set_option linter.unusedSimpArgs false

/-- An element's first number turned, in a row of the call's own. -/
theorem own_wide2 {base g cap k n : Nat} {w : World} {l : List ItemV} (h : Own2 RCell 50 [21] base 0 w (.slice (some ⟨g, 0, none⟩) n cap) l) (hn : l.length = n) (hk : k < l.length) (m : Int) (hw : (Lit.int .i64 m).wf = true) :
    g < w.heap.size ∧ base ≤ g ∧ w.frozen? ⟨g, k * 2, none⟩ = false ∧ (∃ a, w.cell? ⟨g, k * 2, none⟩ = some a) ∧
      Own2 RCell 50 [21] base 0 (w.setCell ⟨g, k * 2, none⟩ (.int .i64 m)) (.slice (some ⟨g, 0, none⟩) n cap) (l.set k (m, l[k].2)) ∧
      Step base [50] w (w.setCell ⟨g, k * 2, none⟩ (.int .i64 m)) := by
  subst hn
  obtain ⟨g', cap', xs, rest, hge', hgb, hblk, hxl, hels, hsz, hcap, hcm⟩ := own2_open h (by omega)
  obtain ⟨rfl, rfl⟩ : g = g' ∧ cap = cap' := by simpa using hge'
  have esz : RCell.sz = 2 := rfl
  rw [esz] at hxl
  have hb := h.slc.slb
  obtain ⟨b', off', sv, hge, _, q0, q1, _, hv⟩ := cell_at hb (k := k) hk
  obtain ⟨rfl, rfl⟩ : g = b' ∧ 0 = off' := by simpa using hge
  simp only [Nat.zero_add] at q0 q1
  have hc1 := hblk.cell (k * 2 + 1)
  rw [q1] at hc1
  have s1 := hblk.set_ (k * 2) (.int .i64 m)
  have hst : Step base [50] w _ := (Step.refl base [50] w).setCell (p := ⟨g, k * 2, none⟩) hgb hblk.bears (.int .i64 m)
  have hkp := Keep.step (T := [21]) (hst.mono (Nat.zero_le base) (fun _ h => h)) (by decide)
  have hel4 := (hels.mono hkp).set_ k (m, l[k].2) [.int .i64 m, sv] (by omega) (cell_E hw (hv.mono hkp hkp))
  rw [esz] at hel4
  simp only [List.setIfInBounds_toArray] at s1
  have hxs : xs[k * 2 + 1]? = some sv := by
    have : (xs ++ rest).toArray[k * 2 + 1]? = some sv := hc1.symm
    rw [List.getElem?_toArray, List.getElem?_append_left (by omega)] at this
    exact this
  have hset : (xs ++ rest).set (k * 2) (.int .i64 m) = (xs.take (k * 2) ++ [.int .i64 m, sv] ++ xs.drop (k * 2 + 2)) ++ rest := by
    rw [← list_set2 xs (k * 2) (by omega)]
    apply List.ext_getElem?
    intro i
    by_cases hi : i = k * 2 + 1
    · subst hi
      rw [List.getElem?_set_ne (by omega), List.getElem?_set_self (by simp; omega), List.getElem?_append_left (by omega), hxs]
    · exact (List.getElem?_set_ne (l := (xs ++ rest).set _ _) (Ne.symm hi)).symm
  rw [hset] at s1
  rw [show (k + 1) * 2 = k * 2 + 2 by omega] at hel4
  exact ⟨hblk.lt, hgb, hblk.frozen _, ⟨_, q0⟩, own2_shut (Nat.zero_le _) (by decide) hgb s1 hel4 (by simp) (by rw [← hsz]; simp; omega) hcap hcm, hst⟩
set_option maxHeartbeats 1000000 in
theorem IOf2_ok (So : Nat → Prop) (x : Value) (l : List CellV) (w : World) (hx : Slc RCell So (fun b => b < w.heap.size) w x l) (hlen : l.length ≤ 100000) (hs : soundB l = true) :
    Calls Tryd.prog 52 #[x] w fun e w' => ∃ s, e = .returned (.tuple #[s, .nilIface]) ∧ Own2 RCell 50 [21] w.heap.size 0 w' s (itemsF l) ∧ Below w.heap.size w w' := by
  have hie := itF_eq l hs
  have htx := sound_len hs
  have hgd := good_of_sound l hs
  have HS := hide hs
  have HIE := hide hie
  have HTX := hide htx
  have HGD := hide hgd
  have hx0 := hx.mono (So' := fun _ => True) (Keep.weaken fun _ _ => trivial) (Keep.refl _ _)
  obtain ⟨A, c, rfl, _, _, _⟩ := hx.open_
  clear hs hie htx hgd
  go_enter Tryd.func52, Tryd.ntmps52
  go_wp2_with fail
  refine (Sound_ok _ _ _ l _ hx).mono ?_
  rw [HS.out]
  rintro e w1 ⟨rfl, hb1⟩
  have hz1 := hb1.size
  have hx1 := hx.mono (Keep.below (S := So) hb1) (Keep.below (S := fun b => b < w.heap.size) hb1)
  go_wp2
  go_loopw [4, 13] (fun out i wr => ∃ k : Nat, k ≤ l.length ∧ i = .int .i64 k ∧ Own2 RCell 50 [21] w.heap.size 0 wr out (itF (l.take k)) ∧ Below w.heap.size w wr) (fun _ i _ => l.length - (intOf i).toNat)
  case atStart => exact ⟨0, Nat.zero_le _, rfl, Own2.nil_ _ _ _ _ _ _ (Nat.zero_le _) (by decide), hb1⟩
  case round =>
    obtain ⟨k, hk, rfl, hout, hbel⟩ := hrel
    have hsz := hbel.size
    by_cases hlt : k < l.length
    · obtain ⟨ab, off, v2, rfl, _, p0, p1, hw, hv⟩ := cell_at hx.slb hlt
      have hab := World.block_lt_of_cell? w _ p0
      simp only at hab
      obtain ⟨A2, c2, rfl, _, _, _⟩ := hv.open_
      have q0 := (hbel.cell (p := ⟨ab, off + k * 2, none⟩) hab).trans p0
      have q1 := (hbel.cell (p := ⟨ab, off + k * 2 + 1, none⟩) hab).trans p1
      have hvr := hv.mono (Keep.below (S := fun b => b < w.heap.size) hbel) (Keep.below (S := fun b => b < w.heap.size) hbel)
      have hln := HTX.out l[k] (List.getElem_mem _)
      have hsn := itF_snoc l k hlt
      have hil := itF_len (l.take k)
      have hip := itF_pos l HGD.out k hlt
      have htl2 : (l.take k).length ≤ k := List.length_take_le _ _
      generalize itF (l.take k) = acc at *
      have hblk := Blk.new wr 74 #[.int .i64 l[k].1, .slice A2 l[k].2.length c2]
      have hout2 := hout.alloc (.cells #[.int .i64 l[k].1, .slice A2 l[k].2.length c2] 74)
      have hbl := hbel.alloc hsz (.cells #[.int .i64 l[k].1, .slice A2 l[k].2.length c2] 74)
      clear p0 p1
      by_cases h3 : l[k].1 = 3
      · have h2 : (l[k].1 == 3) = true := by simpa using h3
        have hip := hip h3
        have hsn : itF (l.take (k + 1)) = acc.set (acc.length - 1) (2, (acc.getD (acc.length - 1) (0, [])).2) := by rw [hsn]; unfold itG; rw [if_pos h3]
        obtain ⟨j, hj⟩ : ∃ j, acc.length = j + 1 := ⟨acc.length - 1, by omega⟩
        have hjl : j < acc.length := by omega
        rw [show acc.length - 1 = j by omega, List.getD_eq_getElem?_getD, List.getElem?_eq_getElem hjl, Option.getD_some] at hsn
        obtain ⟨g, cap, xs, rest, rfl, _, _, _, _, _, _, _⟩ := own2_open hout2 (by omega)
        obtain ⟨hgl, hgb, f0, ⟨a0, r0⟩, hset, hst⟩ := own_wide2 hout2 rfl hjl 2 (by decide)
        have HSN := hide hsn
        have hal := acc.length
        have e1 : ((j + 1 : Nat) : Int) - 1 = j := by omega
        have hjj : j < j + 1 := by omega
        rw [hj] at hset ⊢
        clear hsn h3 hip
        go_wp2
        go_roundw
        case rel => exact ⟨k + 1, by omega, by go_num, by rw [HSN.out]; exact hset, hbl.trans (hst.below (by simp; omega))⟩
        case measure => simp [intOf]; omega
      · have h2 : (l[k].1 == 3) = false := by simpa using h3
        have hsn : itF (l.take (k + 1)) = acc ++ [(1, l[k].2)] := by rw [hsn]; unfold itG; rw [if_neg h3]
        have HSN := hide hsn
        clear hsn h3 hip
        have hva := hvr.mono (Keep.alloc (fun b => b < w.heap.size) wr (.cells #[.int .i64 l[k].1, .slice A2 l[k].2.length c2] 74)) (Keep.alloc (fun b => b < w.heap.size) wr (.cells #[.int .i64 l[k].1, .slice A2 l[k].2.length c2] 74))
        go_wp2_with fail
        refine (Clone_ok _ _ _ l[k].2 _ hva).mono ?_
        rintro e w3 ⟨v3, rfl, hv3, hb3⟩
        have hb3' := hbl.trans (hb3.mono hbl.size)
        have hz3 := hb3'.size
        have hout3 := hout2.below hb3
        obtain ⟨A3, c3, rfl, _, _, _⟩ := hv3.slc.open_
        have hone : Own2 RCell 50 [21] w.heap.size 0 (w3.alloc (.cells #[.int .i64 1, .slice A3 l[k].2.length c3] 50)) (.slice (some ⟨w3.heap.size, 0, none⟩) 1 1) [(1, l[k].2)] :=
          Own2.lit (Nat.zero_le _) (by decide) (els_cell1 (by decide) (own_typed (base' := 0) hv3 _)) hz3 rfl (by simp [maxLen])
        have hout4 := hout3.alloc (.cells #[.int .i64 1, .slice A3 l[k].2.length c3] 50)
        go_wp2_with (at_builtin; refine wpList_app2y rfl (.tmp 26) (.tmp 31) 46 rfl RCell 50 [21] w.heap.size 0 32 _ Tryd.underlying46 item_info rfl (by decide) (by decide) _ _ rfl hout4 _ _ _ rfl hone (by simp; omega) (by simp; omega) ?_; intro v5 w5 hv5 hst5 hg5 hob5)
        go_roundw
        case rel => exact ⟨k + 1, by omega, by go_num, by rw [HSN.out]; exact hv5, (hb3'.alloc hz3 _).trans (hst5.below (by simp; omega))⟩
        case measure => simp [intOf]; omega
    · have e : l.take k = l := List.take_of_length_le (by omega)
      rw [e, HIE.out] at hout
      go_wp2
      go_ret2
      exact ⟨_, rfl, hout, hbel⟩

end Go.Proofs.YtbkenfljknpjgaaDoor

namespace Go.Proofs.YtbkenfljknpjgaaDoor
open Go.RowKit
set_option linter.unusedVariables false
set_option linter.unusedSimpArgs false

theorem RVal.flat : Flat RVal := fun _ _ _ _ _ _ h => h
theorem els_val {S : Nat → Prop} {w : World} : ∀ (l xs : List Value), Els RVal S w l xs → xs = l
  | [], xs, h => h
  | x :: l, xs, ⟨u, xs', e, ⟨e2, _⟩, h⟩ => by rw [e, e2, els_val l xs' h]; rfl
theorem els_of_val {S : Nat → Prop} {w : World} : ∀ (l : List Value), (∀ x ∈ l, x.oneCell' = true) → Els RVal S w l l
  | [], _ => rfl
  | x :: l, h => ⟨[x], l, rfl, ⟨rfl, h x (List.mem_cons.2 (.inl rfl))⟩, els_of_val l (fun y hy => h y (List.mem_cons.2 (.inr hy)))⟩
theorem els_val_one {S : Nat → Prop} {w : World} : ∀ (l xs : List Value), Els RVal S w l xs → ∀ x ∈ l, x.oneCell' = true
  | [], _, _, x, hx => by cases hx
  | y :: l, xs, ⟨u, xs', e, ⟨e2, h1⟩, h⟩, x, hx => by
    rcases List.mem_cons.1 hx with rfl | hx
    · exact h1
    · exact els_val_one l xs' h x hx
section
variable {e : TypeId} {base G n cap : Nat} {w : World} {v : Value} {l : List Value}
theorem ownv_at (h : Own RVal e [] base w v l) {i : Nat} (hi : i < l.length) : ∃ G cap, v = .slice (some ⟨G, 0, none⟩) l.length cap ∧ base ≤ G ∧ G < w.heap.size ∧ l.length ≤ cap ∧ w.cell? ⟨G, i, none⟩ = some l[i] ∧ w.frozen? ⟨G, i, none⟩ = false := by
  obtain ⟨G, cap, xs, rest, hv, hb, hblk, hx, hels, hl, hc, hm⟩ := lown_open h (by omega)
  obtain rfl := els_val _ _ hels
  refine ⟨G, cap, hv, hb, hblk.lt, hc, ?_, hblk.frozen _⟩
  rw [hblk.cell, List.getElem?_toArray, List.getElem?_append_left (by omega), List.getElem?_eq_getElem]
theorem ownv_set (h : Own RVal e [] base w (.slice (some ⟨G, 0, none⟩) n cap) l) {i : Nat} (hi : i < l.length) {x : Value} (hx : x.oneCell' = true) :
    Own RVal e [] base (w.setCell ⟨G, i, none⟩ x) (.slice (some ⟨G, 0, none⟩) n cap) (l.set i x) ∧ Step base [e] w (w.setCell ⟨G, i, none⟩ x) := by
  obtain ⟨G', cap', xs, rest, hv, hb, hblk, hxl, hels, hl, hc, hm⟩ := lown_open h (by omega)
  injection hv with e1 e2 e3
  injection e1 with e1
  injection e1 with e1
  subst e1; subst e3
  have h1 := els_val_one _ _ hels
  obtain rfl := els_val _ _ hels
  have hst : Step base [e] w _ := (Step.refl base [e] w).setCell (p := ⟨G, i, none⟩) hb hblk.bears x
  have s1 := hblk.set_ i x
  simp only [List.setIfInBounds_toArray] at s1
  rw [List.set_append_left _ _ hi] at s1
  refine ⟨?_, hst⟩
  refine lown_shut (by simp) hb s1 (els_of_val _ (fun y hy => ?_)) (by rw [List.length_set]; exact e2.symm) ?_ (by omega) hm
  · rcases List.mem_or_eq_of_mem_set hy with hy | rfl
    · exact h1 y hy
    · exact hx
  · rw [← hl]
    simp
end

theorem its_info : (Tryd.prog.info? 46).map (fun i => (i.zero, i.size, i.bytes)) = some (some (.slice none 0 0), RVal.sz, 24) := by kernel_rfl
abbrev ItP := Value × List ItemV
structure ItsP (base : Nat) (w : World) (v : Value) (ps : List ItP) : Prop where
  row : Own RVal 46 [] base w v (ps.map Prod.fst)
  cells : ∀ p ∈ ps, Own2 RCell 50 [21] base 0 w p.1 p.2
  apart : ∀ (i j : Nat) (hi : i < ps.length) (hj : j < ps.length), i ≠ j → ∀ g, ps[i].1.ownBlock = some g → ps[j].1.ownBlock ≠ some g
section
variable {base : Nat} {w w' : World} {v : Value} {ps : List ItP} {es : List TypeId}
theorem ItsP.nil_ (base : Nat) (w : World) : ItsP base w (.slice none 0 0) [] :=
  ⟨Own.nil_ _ _ _ _ _ (by simp), fun p hp => (by cases hp), fun i j hi => (by simp at hi)⟩
theorem ItsP.step (h : ItsP base w v ps) (hs : Step base es w w') (h1 : 46 ∉ es) (h2 : 50 ∉ es) (h3 : 21 ∉ es) : ItsP base w' v ps :=
  ⟨h.row.step hs h1 (by simp), fun p hp => (h.cells p hp).step hs h2 (by intro t ht; simp at ht; subst ht; exact h3), h.apart⟩
theorem ItsP.at_ (h : ItsP base w v ps) {i : Nat} (hi : i < ps.length) : ∃ G cap, v = .slice (some ⟨G, 0, none⟩) ps.length cap ∧ base ≤ G ∧ G < w.heap.size ∧ w.cell? ⟨G, i, none⟩ = some ps[i].1 ∧ w.frozen? ⟨G, i, none⟩ = false := by
  obtain ⟨G, cap, hv, hb, hl, _, hc, hf⟩ := ownv_at h.row (i := i) (by simpa using hi)
  rw [List.length_map] at hv
  rw [List.getElem_map] at hc
  exact ⟨G, cap, hv, hb, hl, hc, hf⟩
/-- One row more, empty yet. -/
theorem ItsP.more {v' : Value} (h : ItsP base w v ps) (hr : Own RVal 46 [] base w' v' (ps.map Prod.fst ++ [.slice none 0 0])) (hs : Step base [46] w w') : ItsP base w' v' (ps ++ [((.slice none 0 0 : Value), [])]) := by
  refine ⟨by rw [List.map_append]; exact hr, fun p hp => ?_, fun i j hi hj hne g hg => ?_⟩
  · rcases List.mem_append.1 hp with hp | hp
    · exact (h.cells p hp).step hs (by decide) (by decide)
    · rw [List.mem_singleton] at hp; subst hp; exact Own2.nil_ _ _ _ _ _ _ (Nat.zero_le _) (by decide)
  · rw [List.length_append, List.length_singleton] at hi hj
    by_cases hi2 : i < ps.length
    · rw [List.getElem_append_left hi2] at hg
      by_cases hj2 : j < ps.length
      · rw [List.getElem_append_left hj2]
        exact h.apart i j hi2 hj2 hne g hg
      · rw [List.getElem_append_right (by omega)]
        simp [Value.ownBlock]
    · rw [List.getElem_append_right (by omega)] at hg
      simp [Value.ownBlock] at hg
/-- A row stays where another one turns. -/
theorem its_stay {s x : Value} {l : List ItemV} (h : Own2 RCell 50 [21] base 0 w x l) (hg : w.grownBy w' s.ownBlock) (hb : ∀ g, s.ownBlock = some g → Bears [50] w g) (ha : ∀ g, s.ownBlock = some g → x.ownBlock ≠ some g) : Own2 RCell 50 [21] base 0 w' x l := by
  cases hs : s.ownBlock with
  | none =>
    rw [hs] at hg
    exact h.step (es := []) (Step.of_grown (base := base) hg (fun k hk => by cases hk)) (by simp) (by simp)
  | some g =>
    rw [hs] at hg
    obtain ⟨cs, t, fz, hh, ht⟩ := hb g hs
    obtain ⟨hbb, hT, xs, hown, hels⟩ := h
    have hst : Step 0 [50] w w' := Step.of_grown hg (fun k hk => by injection hk with hk; subst hk; exact ⟨Nat.zero_le _, cs, t, fz, hh, ht⟩)
    refine ⟨hbb, hT, xs, ⟨hown.1, ?_⟩, hels.mono (Keep.step hst (by decide))⟩
    rcases hown.2 with hn | ⟨g', cap, cur, hpe, h1, h2, rest⟩
    · exact .inl hn
    · refine .inr ⟨g', cap, cur, hpe, h1, ?_, rest⟩
      rw [hg.block g' (Array.getElem?_eq_some_iff.1 h2).1 (fun e => ha g hs (by rw [hpe]; exact e))]
      exact h2
/-- One row grown, and laid where it was. -/
theorem ItsP.grow {v' : Value} {l' : List ItemV} {i G n cap : Nat} (h : ItsP base w v ps) (hi : i < ps.length) (he : v = .slice (some ⟨G, 0, none⟩) n cap) (hv : Own2 RCell 50 [21] base 0 w' v' l') (hst : Step base [50] w w') (hg : w.grownBy w' ps[i].1.ownBlock) (ho : v'.ownBlock = ps[i].1.ownBlock ∨ v'.ownBlock = some w.heap.size) :
    ItsP base (w'.setCell ⟨G, i, none⟩ v') v (ps.set i (v', l')) ∧ Step base [50, 46] w (w'.setCell ⟨G, i, none⟩ v') := by
  subst he
  have hrow := h.row.flat_step RVal.flat hst (by decide)
  have ho1 : v'.oneCell' = true := by obtain ⟨A, c, rfl, _⟩ := hv.slc.open_; rfl
  obtain ⟨hr2, hs2⟩ := ownv_set hrow (i := i) (by simpa using hi) ho1
  have hbd : ∀ g, ps[i].1.ownBlock = some g → Bears [50] w g := fun g hgg => by
    obtain ⟨_, _, xs, hown, _⟩ := h.cells ps[i] (List.getElem_mem _)
    exact (own_bears hown g hgg).2
  refine ⟨⟨by rw [List.map_set]; exact hr2, fun p hp => ?_, fun a b ha hb hne g hgg => ?_⟩, (hst.mono (Nat.le_refl _) (by decide)).trans (hs2.mono (Nat.le_refl _) (by decide))⟩
  · obtain ⟨j, hj, rfl⟩ := List.getElem_of_mem hp
    rw [List.length_set] at hj
    by_cases hij : i = j
    · subst hij
      rw [List.getElem_set_self]
      exact hv.step hs2 (by decide) (by decide)
    · rw [List.getElem_set_ne hij]
      exact (its_stay (h.cells ps[j] (List.getElem_mem _)) hg hbd (h.apart i j hi hj hij)).step hs2 (by decide) (by decide)
  · rw [List.length_set] at ha hb
    have hlt : ∀ j (hj : j < ps.length) g, ps[j].1.ownBlock = some g → g < w.heap.size := fun j hj g hgg => ((h.cells ps[j] (List.getElem_mem _)).lt_ g hgg).2
    by_cases hia : i = a
    · subst hia
      rw [List.getElem_set_self] at hgg
      rw [List.getElem_set_ne hne]
      rcases ho with ho | ho
      · exact h.apart i b hi hb hne g (ho.symm.trans hgg)
      · intro e
        have := hlt b hb g e
        simp only at hgg
        rw [ho] at hgg
        injection hgg with hgg
        omega
    · rw [List.getElem_set_ne hia] at hgg
      by_cases hib : i = b
      · subst hib
        rw [List.getElem_set_self]
        rcases ho with ho | ho
        · simp only; rw [ho]; exact h.apart a i ha hi hne g hgg
        · simp only; rw [ho]
          intro e
          injection e with e
          have := hlt a ha g hgg
          omega
      · rw [List.getElem_set_ne hib]
        exact h.apart a b ha hb hne g hgg
end
/-- The front of a row of the call's own. -/
theorem own2_front {base cap : Nat} {w : World} {A : Option Addr} {l : List ItemV} (h : Own2 RCell 50 [21] base 0 w (.slice A l.length cap) l) {k : Nat} (hk : k ≤ l.length) : Own2 RCell 50 [21] base 0 w (.slice A k cap) (l.take k) := by
  rcases Nat.eq_zero_or_pos l.length with h0 | h0
  · obtain rfl := List.eq_nil_of_length_eq_zero h0
    obtain rfl : k = 0 := by simpa using hk
    exact h
  · obtain ⟨g, cap', xs, rest, he, hb, hblk, hx, hels, hlen, hc, hm⟩ := own2_open h h0
    injection he with e1 e2 e3
    subst e1; subst e3
    have e : xs.take (k * RCell.sz) ++ (xs.drop (k * RCell.sz) ++ rest) = xs ++ rest := by rw [← List.append_assoc, List.take_append_drop]
    exact own2_shut (xs := xs.take (k * RCell.sz)) (rest := xs.drop (k * RCell.sz) ++ rest) (Nat.zero_le _) (by decide) hb (by rw [e]; exact hblk) (hels.take k) (by rw [List.length_take]; omega) (by rw [e]; exact hlen) (by omega) hm

/-! ### What long lines are -/
def lonO (s : List (List ItemV) × Bool) : List (List ItemV) := if s.2 = true then s.1 else s.1 ++ [[]]
def lonB (l : List LineV) (k : Nat) (p : LineV) : Bool := p.2 && decide (k + 1 < l.length)
def lonP (o : List (List ItemV)) (x : List ItemV) : List (List ItemV) := o.set (o.length - 1) (o.getD (o.length - 1) [] ++ x)
def lonS (l : List LineV) : Nat → List (List ItemV) × Bool
  | 0 => ([], false)
  | k + 1 => (lonP (lonO (lonS l k)) (cntF (lonB l k (l.getD k ([], false))) (itemsF (l.getD k ([], false)).1)), lonB l k (l.getD k ([], false)))
def longF (l : List LineV) : List (List ItemV) := (lonS l l.length).1
theorem lonS_succ {l : List LineV} {k : Nat} (h : k < l.length) : lonS l (k + 1) = (lonP (lonO (lonS l k)) (cntF (lonB l k l[k]) (itemsF l[k].1)), lonB l k l[k]) := by
  have e : (l.getD k ([], false)) = l[k] := by rw [List.getD_eq_getElem?_getD, List.getElem?_eq_getElem h]; rfl
  rw [lonS, e]
theorem lonO_pos (s : List (List ItemV) × Bool) (h : s.2 = true → 0 < s.1.length) : 0 < (lonO s).length ∧ (lonO s).length ≤ s.1.length + 1 := by
  unfold lonO
  split
  · rename_i hh; have := h hh; omega
  · simp
theorem lonO_all {s : List (List ItemV) × Bool} {N : Nat} (h : ∀ q ∈ s.1, q.length ≤ N) : ∀ q ∈ lonO s, q.length ≤ N := by
  unfold lonO
  intro q hq
  split at hq
  · exact h q hq
  · rcases List.mem_append.1 hq with hq | hq
    · exact h q hq
    · rw [List.mem_singleton] at hq; subst hq; exact Nat.zero_le _
theorem lonP_set {ps : List ItP} {O : List (List ItemV)} (h : ps.map Prod.snd = O) {j : Nat} (hjl : j < ps.length) (hj : ps.length = j + 1) (v : Value) (x : List ItemV) : (ps.set j (v, ps[j].2 ++ x)).map Prod.snd = lonP O x := by
  subst h
  have e : (ps.map Prod.snd).length - 1 = j := by rw [List.length_map]; omega
  unfold lonP
  rw [List.map_set, e, List.getD_eq_getElem?_getD, List.getElem?_map, List.getElem?_eq_getElem hjl]
  rfl
theorem itemsF_le {l : List CellV} (h : soundB l = true) : (itemsF l).length ≤ l.length := by rw [← itF_eq l h]; exact itF_len l
theorem lon_ok (l : List LineV) (hall : ∀ p ∈ l, p.1.length ≤ 100000 ∧ soundB p.1 = true) : ∀ k, k ≤ l.length → (lonS l k).1.length ≤ k ∧ ((lonS l k).2 = true → 0 < (lonS l k).1.length) ∧ ∀ q ∈ (lonS l k).1, q.length ≤ k * 100000
  | 0, _ => ⟨by simp [lonS], fun h => (by simp [lonS] at h), fun q h => (by simp [lonS] at h)⟩
  | k + 1, hk => by
    obtain ⟨h1, h2, h3⟩ := lon_ok l hall k (by omega)
    obtain ⟨h4, h5⟩ := lonO_pos _ h2
    obtain ⟨h6, h7⟩ := hall l[k] (List.getElem_mem _)
    have h8 := itemsF_le h7
    have h9 : (cntF (lonB l k l[k]) (itemsF l[k].1)).length ≤ 100000 := by
      unfold cntF
      rw [List.length_take]
      omega
    have h10 : ∀ q ∈ lonO (lonS l k), q.length ≤ k * 100000 := by
      unfold lonO
      intro q hq
      split at hq
      · exact h3 q hq
      · rcases List.mem_append.1 hq with hq | hq
        · exact h3 q hq
        · rw [List.mem_singleton] at hq; subst hq; exact Nat.zero_le _
    rw [lonS_succ (by omega)]
    generalize lonO (lonS l k) = O at *
    have h11 : O.getD (O.length - 1) [] = O[O.length - 1]'(by omega) := by rw [List.getD_eq_getElem?_getD, List.getElem?_eq_getElem (by omega)]; rfl
    have h12 := h10 (O[O.length - 1]'(by omega)) (List.getElem_mem _)
    unfold lonP
    refine ⟨by simp only [List.length_set]; omega, fun _ => by simp only [List.length_set]; exact h4, fun q hq => ?_⟩
    rcases List.mem_or_eq_of_mem_set hq with hq | rfl
    · exact Nat.le_trans (h10 q hq) (Nat.mul_le_mul_right _ (Nat.le_succ k))
    · rw [h11, List.length_append, Nat.succ_mul]; exact Nat.add_le_add h12 h9

set_option maxRecDepth 8000 in
set_option maxHeartbeats 8000000 in
theorem Long_ok (So : Nat → Prop) (x : Value) (l : List LineV) (w : World) (hx : Slc RLine So (fun b => b < w.heap.size) w x l) (hll : l.length ≤ 100000) (hall : ∀ p ∈ l, p.1.length ≤ 100000 ∧ soundB p.1 = true) :
    Calls Tryd.prog 25 #[x] w fun e w' => ∃ s ps, e = .returned (.tuple #[s, .nilIface]) ∧ ItsP w.heap.size w' s ps ∧ ps.map Prod.snd = longF l ∧ Below w.heap.size w w' := by
  obtain ⟨A, c, rfl, _, _, _⟩ := hx.open_
  have HALL := hide hall
  have HLN := hide (lon_ok l hall)
  clear hall
  go_enter Tryd.func25, Tryd.ntmps25
  go_wp2_with fail
  go_loopw [4, 5, 13] (fun sv bv iv wr => ∃ k : Nat, k ≤ l.length ∧ iv = .int .i64 k ∧ bv = .bool (lonS l k).2 ∧ ∃ ps : List ItP, ItsP w.heap.size wr sv ps ∧ ps.map Prod.snd = (lonS l k).1 ∧ Below w.heap.size w wr) (fun _ _ iv _ => l.length - (intOf iv).toNat)
  case atStart => exact ⟨0, Nat.zero_le _, rfl, rfl, [], ItsP.nil_ _ _, rfl, Below.refl _ _⟩
  case round =>
    obtain ⟨k, hk, rfl, rfl, ps, hits, hps, hbr⟩ := hrel
    have hzr := hbr.size
    by_cases hlt : k < l.length
    · obtain ⟨ab, off, v, rfl, _, q00, q01, hv⟩ := line_at hx.slb hlt
      have hab := World.block_lt_of_cell? _ _ q00
      simp only at hab
      have q0 := (hbr.cell (p := ⟨ab, off + k * 2, none⟩) hab).trans q00
      have q1 := (hbr.cell (p := ⟨ab, off + k * 2 + 1, none⟩) hab).trans q01
      have hki : (k : Int) < l.length := by omega
      obtain ⟨hl1, hl2⟩ := HALL.out l[k] (List.getElem_mem _)
      have hsc := lonS_succ hlt
      obtain ⟨hl3, hl4, hl5⟩ := HLN.out k hk
      obtain ⟨hl6, hl7⟩ := lonO_pos _ hl4
      have hl8 := lonO_all hl5
      obtain ⟨pk, hpk⟩ : ∃ pk, l[k] = pk := ⟨_, rfl⟩
      obtain ⟨cl, wrp⟩ := pk
      rw [hpk] at q1 hl1 hl2 hsc hv
      simp only at q1 hl1 hl2 hsc hv
      obtain ⟨A', c', rfl, _, _, _⟩ := hv.open_
      obtain ⟨bn, hbn⟩ : ∃ bn, lonB l k (cl, wrp) = bn := ⟨_, rfl⟩
      have hbne : (wrp && decide (k + 1 < l.length)) = bn := hbn
      rw [hbn] at hsc
      obtain ⟨st, hst⟩ : ∃ st, lonS l k = st := ⟨_, rfl⟩
      rw [hst] at hsc hl3 hl4 hl5 hl6 hl7 hl8 hps ⊢
      obtain ⟨O, hO⟩ : ∃ O, lonO st = O := ⟨_, rfl⟩
      rw [hO] at hsc hl6 hl7 hl8
      obtain ⟨o, bg⟩ := st
      have him := Nat.le_trans (itemsF_le hl2) hl1
      have HSC := hide hsc
      have HPS := hide hps
      have HO := hide hO
      have HO8 := hide hl8
      have HBN := hide hbne
      simp only at hl3 hl7
      clear hsc hps hO hl8 hbne hbn hst hpk hl4 hl5 q00 q01
      go_upto_region 6 with fail
      have hb2 := hbr.alloc hzr (.cells #[.slice A' cl.length c', .bool wrp] 38)
      have hits2 := hits.step (Step.alloc1 w.heap.size [] wr (.cells #[.slice A' cl.length c', .bool wrp] 38)) (by simp) (by simp) (by simp)
      have bi := Blk.new wr 38 #[.slice A' cl.length c', .bool wrp]
      obtain ⟨gi, hgi⟩ : ∃ gi, wr.heap.size = gi := ⟨_, rfl⟩
      rw [hgi] at bi ⊢
      generalize wr.alloc (.cells #[.slice A' cl.length c', .bool wrp] 38) = w2 at *
      have hz2 := hb2.size
      have hv2 : Slc RCell (fun b => b < w.heap.size) (fun b => b < w2.heap.size) w2 (.slice A' cl.length c') cl := (hv.mono (Keep.below hb2) (Keep.below hb2)).mono (Keep.refl _ _) (Keep.weaken fun b hb => Nat.lt_of_lt_of_le hb hz2)
      have HOF := hide (IOf2_ok _ (.slice A' cl.length c') cl w2 hv2 hl1 hl2)
      have i0 := bi.cell 0
      have i1 := bi.cell 1
      simp only [List.getElem?_toArray, List.getElem?_cons_succ, List.getElem?_cons_zero] at i0 i1
      clear hgi hbr hzr hits q0 q1 hv hv2 hl1 hl2
      go_wp2_with fail
      refine HOF.out.mono ?_
      rintro e w3 ⟨sg, rfl, hsg, hc3⟩
      have hb3 := hb2.trans (hc3.mono hz2)
      have hz3 := hb3.size
      have hits3 := hits2.step (es := []) (Step.of_below hc3) (by simp) (by simp) (by simp)
      have bi3 := bi.same hc3
      have hsg3 := hsg.down w.heap.size (Nat.zero_le _) hz2
      obtain ⟨im, hime⟩ : ∃ im, itemsF cl = im := ⟨_, rfl⟩
      rw [hime] at hsg3 him HSC
      obtain ⟨Ag, cg, rfl, _, _, _⟩ := hsg3.slc.open_
      have i1 := bi3.cell 1
      simp only [List.getElem?_toArray, List.getElem?_cons_succ, List.getElem?_cons_zero] at i1
      clear hsg hc3 hits2 bi i0 HOF
      go_upto_region 9 with fail
      go_cut [30] from 14 to 57 (fun s wx => s = .bool (!bg) ∧ w3 = wx)
      case first =>
        cases bg with
        | true =>
          go_wp2
          go_meet
          exact ⟨rfl, rfl⟩
        | false =>
          go_wp2
          go_meet
          exact ⟨rfl, rfl⟩
      case rest =>
        obtain ⟨rfl, rfl⟩ := hcut
        go_upto_if 30 with fail
        go_cut [4] from 14 to 57 (fun sv wx => ∃ ps2 : List ItP, ItsP w.heap.size wx sv ps2 ∧ ps2.map Prod.snd = O ∧ Own2 RCell 50 [21] w.heap.size 0 wx (.slice Ag im.length cg) im ∧ Below w.heap.size w wx ∧ wx.cell? ⟨gi, 1, none⟩ = some (.bool wrp))
        case first =>
          have HSG := hide hsg3
          have HIT := hide hits3
          clear hsg3 hits3
          cases bg with
          | true =>
            have HOO : Hid (o = O) := hide (by rw [← HO.out]; rfl)
            go_wp2
            go_meet
            exact ⟨ps, HIT.out, by rw [HPS.out]; exact HOO.out, HSG.out, hb3, i1⟩
          | false =>
            have HOO : Hid (o ++ [[]] = O) := hide (by rw [← HO.out]; rfl)
            have hpl : ps.length = o.length := by
              have := congrArg List.length HPS.out
              rwa [List.length_map] at this
            have hits4 := HIT.out.step (Step.alloc1 w.heap.size [] w3 (.cells #[.slice none 0 0] 46)) (by simp) (by simp) (by simp)
            have hsg4 := HSG.out.alloc (.cells #[.slice none 0 0] 46)
            have hb4 := hb3.alloc hz3 (.cells #[.slice none 0 0] 46)
            have bi4 := bi3.alloc (.cells #[.slice none 0 0] 46)
            have hone := Slc.lit1 (R := RVal) (Si := fun _ => False) (Si' := fun _ => False) (w := w3) (x := (.slice none 0 0 : Value)) (u := [.slice none 0 0]) 46 ⟨rfl, rfl⟩ (fun _ _ h => h.elim)
            have HIT4 := hide hits4
            have HSG4 := hide hsg4
            clear hits4 hsg4
            go_wp2_with (at_builtin; refine wpList_appg rfl (.tmp 31) (.tmp 32) 55 rfl RVal 46 [] w.heap.size 24 _ Tryd.underlying55 its_info rfl (by decide) (by decide) _ _ rfl HIT4.out.row _ (fun _ => False) _ _ rfl hone (fun _ h => False.elim h) (by simp; omega) hb4.size ?_; intro v5 w5 hv5 hst5 hg5 ho5; have hits5 := hide (HIT4.out.more hv5 hst5); have hsg5 := hide (HSG4.out.step hst5 (by decide) (by decide)); have hb5 := hide (hb4.trans (hst5.below hb4.size)); have i5 := hide ((bi4.step hst5 (by decide)).cell 1); clear hv5 hst5 hg5 ho5)
            go_meet
            refine ⟨ps ++ [((.slice none 0 0 : Value), [])], hits5.out, by rw [List.map_append, HPS.out]; exact HOO.out, hsg5.out, hb5.out, ?_⟩
            have i5 := i5.out
            simp only [List.getElem?_toArray, List.getElem?_cons_succ, List.getElem?_cons_zero] at i5
            exact i5
        case rest =>
          clear hsg3 hits3 hb3 hz3 bi3 HPS i1
          obtain ⟨ps2, hits5, hps5, hsg5, hb5, i1⟩ := hcut
          have hz5 := hb5.size
          go_upto_region 11 with fail
          go_cut [5] from 14 to 57 (fun s wx => s = .bool bn ∧ wc = wx)
          case first =>
            cases wrp with
            | false =>
              have E : Hid (false = bn) := hide (by rw [← HBN.out]; rfl)
              go_wp2
              go_meet
              exact ⟨bool_eq E.out, rfl⟩
            | true =>
              by_cases hkl : k + 1 < l.length
              · have hkl2 : (k : Int) < l.length - 1 := by omega
                have E : Hid (true = bn) := hide (by rw [← HBN.out, decide_eq_true hkl]; rfl)
                go_wp2
                go_meet
                exact ⟨bool_eq E.out, rfl⟩
              · have hkl2 : ¬ (k : Int) < l.length - 1 := by omega
                have E : Hid (false = bn) := hide (by rw [← HBN.out, decide_eq_false hkl]; rfl)
                go_wp2
                go_meet
                exact ⟨bool_eq E.out, rfl⟩
          case rest =>
            obtain ⟨rfl, rfl⟩ := hcut
            have hp5 : ps2.length = O.length := by rw [← hps5, List.length_map]
            obtain ⟨j, hj⟩ : ∃ j, ps2.length = j + 1 := ⟨ps2.length - 1, by omega⟩
            have hjl : j < ps2.length := by omega
            have HP2 := hide (fun v => lonP_set hps5 hjl hj v (im.take (cntN bn im)))
            have hrl := HO8.out ps2[j].2 (by rw [← hps5]; exact List.mem_map.2 ⟨_, List.getElem_mem _, rfl⟩)
            have hrl2 : ps2[j].2.length ≤ 10000000000 := by
              have : k * 100000 ≤ 100000 * 100000 := Nat.mul_le_mul_right _ (by omega)
              omega
            obtain ⟨G, capG, hve, hGb, hGl, hGc, hGf⟩ := hits5.at_ hjl
            have hrj := hits5.cells ps2[j] (List.getElem_mem _)
            obtain ⟨Aj, cj, hje, ju1, ju2, ju3⟩ := hrj.slc.open_
            clear ju1 ju2 ju3
            rw [hje] at hGc
            rw [hj] at hve
            subst hve
            have HJE := hide hje
            have HIT5 := hide hits5
            have HSG5 := hide hsg5
            obtain ⟨rj, hrje⟩ : ∃ rj, ps2[j].2 = rj := ⟨_, rfl⟩
            rw [hje] at hrj
            rw [hrje] at hrj hGc hrl2 HP2 HJE
            have hjk : j ≤ 200000 := by omega
            have hji : (j : Int) < (j : Int) + 1 := by omega
            have hcn := cntN_le bn im
            have HCN := hide (counted_ok _ _ Ag cg im bn wc.drew (hsg5.dr.slc) (by omega))
            clear hits5 hsg5 hps5 hrl hje hrje hGf i1
            go_upto_region 13 with fail
            refine wp_region_late (S := fun w' => w'.cell? ⟨G, j, none⟩ = some (.slice Aj rj.length cj)) [11] (by kernel_rfl) (by exact hGc) (fun hHeld => ?_)
            refine wpAnyT_take (i := 0) (oi := ?_) (v := ?_) ?_ (by kernel_rfl) (by kernel_rfl) (by kernel_rfl) (by kernel_rfl) (by kernel_rfl) ?_ (Or.inl ⟨?_, ?_⟩) (by assumption) ?_
            rotate_left 2
            · (simp only [List.getElem?_toArray, List.getElem?_cons_succ, List.getElem?_cons_zero]; rfl)
            rotate_left 1
            · rfl
            · (intro w hSw; (try dsimp only at hSw); go_simp; try with_reducible rfl)
            rotate_left 1
            · exact fun _ _ _ h => h
            try simp only [Act.put, List.setIfInBounds_toArray, List.set_cons_zero, List.set_cons_succ]
            refine wpAnyT_take (i := 1) (oi := ?_) (v := ?_) ?_ (by kernel_rfl) (by kernel_rfl) (by kernel_rfl) (by kernel_rfl) (by kernel_rfl) ?_ (Or.inl ⟨?_, ?_⟩) (by assumption) ?_
            rotate_left 2
            · (simp only [List.getElem?_toArray, List.getElem?_cons_succ, List.getElem?_cons_zero]; rfl)
            rotate_left 1
            · rfl
            · (intro w hSw; (try dsimp only at hSw); go_simp; try with_reducible rfl)
            rotate_left 1
            · exact fun _ _ _ h => h
            try simp only [Act.put, List.setIfInBounds_toArray, List.set_cons_zero, List.set_cons_succ]
            refine wpAnyT_take (i := 2) (oi := ?_) (v := ?_) ?_ (by kernel_rfl) (by kernel_rfl) (by kernel_rfl) (by kernel_rfl) (by kernel_rfl) ?_ (Or.inl ⟨?_, ?_⟩) (by assumption) ?_
            rotate_left 2
            · (simp only [List.getElem?_toArray, List.getElem?_cons_succ, List.getElem?_cons_zero]; rfl)
            rotate_left 1
            · rfl
            · (intro w hSw; (try dsimp only at hSw); go_simp; try with_reducible rfl)
            rotate_left 1
            · exact fun _ _ _ h => h
            try simp only [Act.put, List.setIfInBounds_toArray, List.set_cons_zero, List.set_cons_succ]
            refine wpAnyT_take (i := 3) (oi := ?_) (v := ?_) ?_ (by kernel_rfl) (by kernel_rfl) (by kernel_rfl) (by kernel_rfl) (by kernel_rfl) ?_ (Or.inl ⟨?_, ?_⟩) (by assumption) ?_
            rotate_left 2
            · (simp only [List.getElem?_toArray, List.getElem?_cons_succ, List.getElem?_cons_zero]; rfl)
            rotate_left 1
            · rfl
            · (intro w hSw; (try dsimp only at hSw); go_simp; try with_reducible rfl)
            rotate_left 1
            · exact fun _ _ _ h => h
            try simp only [Act.put, List.setIfInBounds_toArray, List.set_cons_zero, List.set_cons_succ]
            refine wpAnyT_take (i := 4) (oi := ?_) (v := ?_) ?_ (by kernel_rfl) (by kernel_rfl) (by kernel_rfl) (by kernel_rfl) (by kernel_rfl) ?_ (Or.inl ⟨?_, ?_⟩) (by assumption) ?_
            rotate_left 2
            · (simp only [List.getElem?_toArray, List.getElem?_cons_succ, List.getElem?_cons_zero]; rfl)
            rotate_left 1
            · rfl
            · (intro w hSw; (try dsimp only at hSw); go_simp; try with_reducible rfl)
            rotate_left 1
            · exact fun _ _ _ h => h
            try simp only [Act.put, List.setIfInBounds_toArray, List.set_cons_zero, List.set_cons_succ]
            refine wpAnyT_take (i := 5) (oi := ?_) (v := ?_) ?_ (by kernel_rfl) (by kernel_rfl) (by kernel_rfl) (by kernel_rfl) (by kernel_rfl) ?_ (Or.inl ⟨?_, ?_⟩) (by assumption) ?_
            rotate_left 2
            · (simp only [List.getElem?_toArray, List.getElem?_cons_succ, List.getElem?_cons_zero]; rfl)
            rotate_left 1
            · rfl
            · (intro w hSw; (try dsimp only at hSw); go_simp; try with_reducible rfl)
            rotate_left 1
            · exact fun _ _ _ h => h
            try simp only [Act.put, List.setIfInBounds_toArray, List.set_cons_zero, List.set_cons_succ]
            refine wpAnyT_take (i := 6) (oi := ?_) (v := ?_) ?_ (by kernel_rfl) (by kernel_rfl) (by kernel_rfl) (by kernel_rfl) (by kernel_rfl) ?_ (Or.inl ⟨?_, ?_⟩) (by assumption) ?_
            rotate_left 2
            · (simp only [List.getElem?_toArray, List.getElem?_cons_succ, List.getElem?_cons_zero]; rfl)
            rotate_left 1
            · rfl
            · (intro w hSw; (try dsimp only at hSw); go_simp; try with_reducible rfl)
            rotate_left 1
            · exact fun _ _ _ h => h
            try simp only [Act.put, List.setIfInBounds_toArray, List.set_cons_zero, List.set_cons_succ]
            refine wpAnyT_take (i := 7) (oi := ?_) (v := ?_) ?_ (by kernel_rfl) (by kernel_rfl) (by kernel_rfl) (by kernel_rfl) (by kernel_rfl) ?_ (Or.inl ⟨?_, ?_⟩) (by assumption) ?_
            rotate_left 2
            · (simp only [List.getElem?_toArray, List.getElem?_cons_succ, List.getElem?_cons_zero]; rfl)
            rotate_left 1
            · rfl
            · (intro w hSw; (try dsimp only at hSw); go_simp; try with_reducible rfl)
            rotate_left 1
            · exact fun _ _ _ h => h
            try simp only [Act.put, List.setIfInBounds_toArray, List.set_cons_zero, List.set_cons_succ]
            refine wpAnyT_ready (rs := [8]) (by kernel_rfl) (by simp) ?_
            refine AllReadyT.cons (o := ?_) ?_ (fun K hK => ?_) AllReadyT.nil
            rotate_left 1
            · (simp only [List.getElem?_toArray, List.getElem?_cons_succ, List.getElem?_cons_zero]; rfl)
            go_simp
            go_at_call 53; refine HCN.out.mono ?_; rintro e w6 ⟨rfl, hc6⟩; have hb6 := (below_drw hb5).trans (hc6.mono hz5); have hz6 := hb6.size; have hits6 := hide ((HIT5.out.step ((Step.refl w.heap.size [] wc).drew) (by simp) (by simp) (by simp)).step (es := []) (Step.of_below hc6) (by simp) (by simp) (by simp)); have hfr6 := own2_front (HSG5.out.dr.below hc6) hcn; have hrj6 := hrj.dr.below hc6; have s0 := (hc6.cell (p := ⟨G, j, none⟩) hGl).trans hHeld; clear hc6 hrj
            refine hK.out _ _ ?_ (fun hHeld => ?_)
            · ((try dsimp only); go_keep)
            clear hK K
            try simp only [Act.put, List.setIfInBounds_toArray, List.set_cons_zero, List.set_cons_succ]
            refine wpAnyT_ready (rs := [9]) (by kernel_rfl) (by simp) ?_
            refine AllReadyT.cons (o := ?_) ?_ (fun K hK => ?_) AllReadyT.nil
            rotate_left 1
            · (simp only [List.getElem?_toArray, List.getElem?_cons_succ, List.getElem?_cons_zero]; rfl)
            refine step_app2y rfl (.tmp 51) (.tmp 54) 46 rfl RCell 50 [21] w.heap.size 0 32 _ Tryd.underlying46 item_info rfl (by decide) (by decide) _ _ rfl hrj6 _ _ _ rfl hfr6 (by rw [List.length_take]; omega) hz6 ?_; intro v7 w7 hv7 hst7 hg7 ho7; obtain ⟨A7, n7, c7, rfl⟩ : ∃ A7 n7 c7, v7 = .slice A7 n7 c7 := (by obtain ⟨A, c, e, _⟩ := hv7.slc.open_; exact ⟨A, _, c, e⟩); obtain ⟨G2, cap2, e2, _, _, _, s0, f0⟩ := ownv_at (hits6.out.row.flat_step RVal.flat hst7 (by decide)) (i := j) (by rw [List.length_map]; exact hjl); injection e2 with e2 e3 e4; clear e3 e4; injection e2 with e2; injection e2 with e2; subst e2; rw [List.getElem_map, HJE.out] at s0; obtain ⟨hits9x, hst9⟩ := hits6.out.grow hjl rfl hv7 hst7 (by rw [HJE.out]; exact hg7) (by rw [HJE.out]; exact ho7); have hits9 := hide hits9x; have hb9 := hide (hb6.trans (hst9.below hz6)); clear hv7 hst7 hg7 ho7 hrj6 hfr6 hits6 hst9 hits9x
            refine hK.out _ _ ?_ (fun hHeld => ?_)
            · ((try dsimp only); go_keep)
            clear hK K
            try simp only [Act.put, List.setIfInBounds_toArray, List.set_cons_zero, List.set_cons_succ]
            refine wpAnyT_take (i := 10) (oi := ?_) (v := ?_) ?_ (by kernel_rfl) (by kernel_rfl) (by kernel_rfl) (by kernel_rfl) (by kernel_rfl) ?_ (Or.inl ⟨?_, ?_⟩) (by assumption) ?_
            rotate_left 2
            · (simp only [List.getElem?_toArray, List.getElem?_cons_succ, List.getElem?_cons_zero]; rfl)
            rotate_left 1
            · rfl
            · (intro w hSw; (try dsimp only at hSw); go_simp; try with_reducible rfl)
            rotate_left 1
            · exact fun _ _ _ h => h
            try simp only [Act.put, List.setIfInBounds_toArray, List.set_cons_zero, List.set_cons_succ]
            refine wpAnyT_ready (rs := [11]) (by kernel_rfl) (by simp) ?_
            refine AllReadyT.consL (o := ?_) ?_ (by kernel_rfl) (fun K hK => ?_) AllReadyT.nil
            rotate_left 1
            · (simp only [List.getElem?_toArray, List.getElem?_cons_succ, List.getElem?_cons_zero]; rfl)
            go_simp
            refine hK.out _ _ ?_
            clear hK K
            try simp only [Act.put, List.setIfInBounds_toArray, List.set_cons_zero, List.set_cons_succ]
            refine wpAnyT_done (by kernel_rfl) ?_ _
            clear hHeld s0 f0
            go_wp2
            go_roundw
            case rel => exact ⟨k + 1, by omega, by go_num, by rw [HSC.out], _, hits9.out, by rw [HSC.out]; exact HP2.out _, hb9.out⟩
            case measure => simp [intOf]; omega
    · obtain rfl : k = l.length := by omega
      have HPS := hide hps
      clear hps
      go_wp2
      go_ret2
      exact ⟨_, ps, rfl, hits, HPS.out, hbr⟩
end Go.Proofs.YtbkenfljknpjgaaDoor

namespace Go.Proofs.YtbkenfljknpjgaaDoor
open Go.RowKit
set_option linter.unusedVariables false
set_option linter.unusedSimpArgs false

def linesF (wd : Nat) (x : List (List ItemV)) : List LineV := x.flatMap (brkF wd)
theorem lines_snoc (wd : Nat) (x : List (List ItemV)) (k : Nat) (h : k < x.length) : linesF wd (x.take (k + 1)) = linesF wd (x.take k) ++ brkF wd x[k] := by
  unfold linesF
  rw [take_snoc' x k h, List.flatMap_append]
  simp
theorem brkF_len (wd : Nat) (y : List ItemV) : (brkF wd y).length ≤ y.length + 1 := by
  have h := brk_len wd y y.length (Nat.le_refl _)
  rw [List.take_of_length_le (Nat.le_refl _)] at h
  have e : brkF wd y = (brkS wd y).1 ++ [(fillL wd (brkS wd y).2, false)] := rfl
  rw [e, List.length_append, List.length_singleton]
  omega
/-- Lines behind others, made later. -/
theorem LnsP.join {base b2 : Nat} {w w' : World} {v v' v2 : Value} {ps qs : List (Value × LineV)} (h : LnsP base w v ps) (hlt : ∀ p ∈ ps, ∀ g, p.1.ownBlock = some g → g < b2) (hq : LnsP b2 w v2 qs) (hb : base ≤ b2) (hr : Own RSl 38 [] base w' v' (ps.map slB ++ qs.map slB)) (hst : Step base [38] w w') : LnsP base w' v' (ps ++ qs) := by
  refine ⟨by rw [List.map_append]; exact hr, fun p hp => ?_, List.pairwise_append.2 ⟨h.apart, hq.apart, fun p hp q hq' g hg e => ?_⟩⟩
  · rcases List.mem_append.1 hp with hp | hp
    · exact (h.cells p hp).step hst (by decide) (by decide)
    · exact ((hq.cells p hp).down base (Nat.zero_le _) hb).step hst (by decide) (by decide)
  · have h1 := hlt p hp g hg
    have h2 := ((hq.cells q hq').lt_ g e).1
    omega

set_option maxRecDepth 8000 in
set_option maxHeartbeats 4000000 in
theorem Lines_ok (So : Nat → Prop) (x : Value) (l : List LineV) (n : Int) (w : World) (hx : Slc RLine So (fun b => b < w.heap.size) w x l) (hll : l.length ≤ 100000) (hall : ∀ p ∈ l, p.1.length ≤ 100000 ∧ soundB p.1 = true) (hsm : ∀ y ∈ longF l, y.length ≤ 50000 ∧ badI y = none) :
    Calls Tryd.prog 24 #[x, .int .i64 n] w fun e w' => ∃ s ps, e = .returned (.tuple #[s, .nilIface]) ∧ LnsP w.heap.size w' s ps ∧ ps.map Prod.snd = linesF (sideR n) (longF l) ∧ Below w.heap.size w w' := by
  have hlg := Long_ok So x l w hx hll hall
  have hlk := (lon_ok l hall l.length (Nat.le_refl _)).1
  have hlk2 : (longF l).length ≤ 100000 := Nat.le_trans hlk hll
  obtain ⟨X, hX⟩ : ∃ X, longF l = X := ⟨_, rfl⟩
  rw [hX] at hlg hsm hlk2 ⊢
  have HSM := hide hsm
  obtain ⟨wd, hwd⟩ : ∃ wd, sideR n = wd := ⟨_, rfl⟩
  rw [hwd]
  have HWD := hide hwd
  obtain ⟨A, c, rfl, _, _, _⟩ := hx.open_
  have HLG := hide hlg
  clear hall hsm hwd hlk hx hX hlg
  go_enter Tryd.func24, Tryd.ntmps24
  go_wp2_with fail
  refine HLG.out.mono ?_
  rintro e w1 ⟨s, ps, rfl, hits, hps, hb1⟩
  have hz1 := hb1.size
  have hpl : ps.length = X.length := by rw [← hps, List.length_map]
  have HPS := hide hps
  obtain ⟨As, cs, hse, ju1, ju2, ju3⟩ := hits.row.slc.open_
  clear ju1 ju2 ju3 hps HLG
  rw [List.length_map, hpl] at hse
  subst hse
  have hI0 := hits
  have HI := hide hits
  clear hits hI0
  go_wp2_with fail
  go_loopw [8, 23] (fun ov iv wr => ∃ k : Nat, k ≤ X.length ∧ iv = .int .i64 k ∧ ∃ qs : List (Value × LineV), LnsP w.heap.size wr ov qs ∧ qs.map Prod.snd = linesF wd (X.take k) ∧ qs.length ≤ k * 50001 ∧ ItsP w.heap.size wr (.slice As X.length cs) ps ∧ Below w.heap.size w wr) (fun _ iv _ => X.length - (intOf iv).toNat)
  case atStart => exact ⟨0, Nat.zero_le _, rfl, [], ⟨Own.nil_ _ _ _ _ _ (by simp), fun p hp => (by cases hp), List.Pairwise.nil⟩, rfl, Nat.zero_le _, HI.out, hb1⟩
  case round =>
    obtain ⟨k, hk, rfl, qs, hln, hqs, hql, hits, hbr⟩ := hrel
    have hzr := hbr.size
    by_cases hlt : k < X.length
    · have hkp : k < ps.length := by omega
      obtain ⟨G, capG, hve, hGb, hGl, hGc, hGf⟩ := hits.at_ hkp
      injection hve with e1 e2 e3
      subst e1
      clear e2 e3
      have hrj := hits.cells ps[k] (List.getElem_mem _)
      obtain ⟨Aj, cj, hje, ju1, ju2, ju3⟩ := hrj.slc.open_
      clear ju1 ju2 ju3
      have hpx : ps[k].2 = X[k] := by
        have e := congrArg (fun l => l[k]?) HPS.out
        simp only [List.getElem?_map, List.getElem?_eq_getElem hkp, List.getElem?_eq_getElem hlt, Option.map_some] at e
        injection e
      obtain ⟨hy1, hy2⟩ := HSM.out X[k] (List.getElem_mem _)
      have hls := lines_snoc wd X k hlt
      have hbf := brkF_len wd X[k]
      rw [hpx] at hje hrj
      rw [hje] at hrj hGc
      generalize X[k] = y at *
      have HBR := hide (Break_ok (fun _ => ⟨0, 0, none⟩) _ (.slice Aj y.length cj) y n wr (fun h => absurd hy2 h) (hrj.slc.mono (Keep.refl _ _) (Keep.lt _ _)) hy1)
      rw [hy2, HWD.out] at HBR
      have hki : (k : Int) < X.length := by omega
      have HLS := hide hls
      have HQS := hide hqs
      have HLT : Hid (∀ p ∈ qs, ∀ g, p.1.ownBlock = some g → g < wr.heap.size) := hide (fun p hp g hg => ((hln.cells p hp).lt_ g hg).2)
      clear hls hqs hje hrj hpx hy2
      go_wp2_with fail
      refine HBR.out.mono ?_
      rintro e w5 ⟨h1, _, hc5⟩
      obtain ⟨gv, qs2, rfl, hq2, hqe⟩ := h1 rfl
      have hql2 : qs2.length ≤ 50001 := by rw [← List.length_map (f := Prod.snd), hqe]; omega
      have HQE := hide hqe
      have hb5 := hbr.trans (hc5.mono hzr)
      have hz5 := hb5.size
      have hln5 := hide (hln.step (es := []) (Step.of_below hc5) (by simp) (by simp) (by simp))
      have hits5 := hide (hits.step (es := []) (Step.of_below hc5) (by simp) (by simp) (by simp))
      have hone := hq2.row.slc.flat_any RSl.flat (fun _ => False)
      have hq5 := hide hq2
      have hkq : qs.length + qs2.length ≤ (k + 1) * 50001 := by rw [Nat.succ_mul]; exact Nat.add_le_add hql hql2
      have hkb : (k + 1) * 50001 ≤ 100001 * 50001 := Nat.mul_le_mul_right _ (by omega)
      have hsum : qs.length + qs2.length ≤ 5000150001 := Nat.le_trans hkq (Nat.le_trans hkb (by decide))
      have HKQ := hide hkq
      clear hkb hkq hql hql2
      obtain ⟨Ag, cg, hge, ju1, ju2, ju3⟩ := hq2.row.slc.open_
      clear ju1 ju2 ju3 h1 hc5 hqe hln hits hq2 hGc hGf HBR
      rw [List.length_map] at hge
      subst hge
      go_wp2_with (at_builtin; refine wpList_appg rfl (.tmp 36) (.tmp 37) 22 rfl RSl 38 [] w.heap.size 32 _ Tryd.underlying22 line_info rfl (by decide) (by decide) _ _ rfl hln5.out.row _ (fun _ => False) _ _ rfl hone (fun _ h => False.elim h) (by simp only [List.length_map]; omega) hz5 ?_; intro v8 w8 hv8 hst8 hg8 ho8; have hln8 := hide (hln5.out.join HLT.out hq5.out hzr hv8 hst8); have hits8 := hide (hits5.out.step hst8 (by decide) (by decide) (by decide)); have hb8 := hide (hb5.trans (hst8.below hz5)); clear hv8 hst8 hg8 ho8)
      go_roundw
      case rel => exact ⟨k + 1, by omega, by go_num, qs ++ qs2, hln8.out, by rw [List.map_append, HQS.out, HQE.out, HLS.out], by rw [List.length_append]; exact HKQ.out, hits8.out, hb8.out⟩
      case measure => simp [intOf]; omega
    · obtain rfl : k = X.length := by omega
      rw [List.take_of_length_le (Nat.le_refl _)] at hqs
      have HQS := hide hqs
      clear hqs
      go_wp2
      go_ret2
      exact ⟨_, qs, rfl, hln, HQS.out, hbr⟩
end Go.Proofs.YtbkenfljknpjgaaDoor
