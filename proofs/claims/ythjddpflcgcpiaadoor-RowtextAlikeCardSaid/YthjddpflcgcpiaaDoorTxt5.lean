/-
  What the document's function that seeks a text in a row returns.
-/
import Derived.Test.YthjddpflcgcpiaaDoorTxt4
namespace Go.Proofs.YthjddpflcgcpiaaDoor
open Go.RowKit
set_option linter.unusedVariables false
set_option linter.unusedSimpArgs false

/-- All cells of a row of cells at once. -/
theorem cells_all {So Si : Nat → Prop} {w : World} {A : Option Addr} {l : List CellV} (h : SlB RCell So Si w A l) (h0 : 0 < l.length) :
    ∃ b off, A = some ⟨b, off, none⟩ ∧ So b ∧ ∀ k (hk : k < l.length), ∃ A2 c2, w.cell? ⟨b, off + k * 2, none⟩ = some (.int .i64 l[k].1) ∧ w.cell? ⟨b, off + k * 2 + 1, none⟩ = some (.slice A2 l[k].2.length c2) ∧ (Lit.int .i64 l[k].1).wf = true ∧ Slc (Rep.int .i32) Si Si w (.slice A2 l[k].2.length c2) l[k].2 := by
  obtain ⟨b, off, v, rfl, hS, _⟩ := cell_at h h0
  refine ⟨b, off, rfl, hS, fun k hk => ?_⟩
  obtain ⟨b', off', v', he, _, q0, q1, hw, hv⟩ := cell_at h hk
  cases he
  obtain ⟨A2, c2, rfl, _, _, _⟩ := hv.open_
  exact ⟨A2, c2, q0, q1, hw, hv⟩

def findJ : List ItemV → Int → List Int → Int
  | [], _, _ => -1
  | i :: x, col, t => if 0 < t.length ∧ gotF (i :: x) [] t.length = t then col else findJ x (col + i.1) t
theorem findJ_cons (i : ItemV) (x : List ItemV) (col : Int) (t : List Int) : findJ (i :: x) col t = if 0 < t.length ∧ gotF (i :: x) [] t.length = t then col else findJ x (col + i.1) t := rfl
theorem findJ_nil : ∀ (x : List ItemV) (col : Int), findJ x col [] = -1
  | [], _ => rfl
  | i :: x, col => by rw [findJ_cons, if_neg (fun h => absurd h.1 (by simp))]; exact findJ_nil x _
theorem findJ_eq : ∀ (x : List ItemV) (col : Int) (t : List Int), t ≠ [] → findJ x col t = findI x col t
  | [], _, _, _ => rfl
  | i :: x, col, t, h => by
    have h0 : 0 < t.length := List.length_pos_iff.2 h
    rw [findJ_cons, findI_cons, findJ_eq x _ t h]
    by_cases he : gotF (i :: x) [] t.length = t
    · rw [if_pos ⟨h0, he⟩, if_pos he]
    · rw [if_neg (fun e => he e.2), if_neg he]

set_option maxHeartbeats 2000000 in
theorem rFind_ok (So : Nat → Prop) (x z : Value) (l : List CellV) (t : List Int) (w : World) (hx : Slc RCell So (fun b => b < w.heap.size) w x l) (hz : Slc (Rep.int .i32) (fun b => b < w.heap.size) (fun b => b < w.heap.size) w z t) (hlen : l.length ≤ 100000) (htx : ∀ c ∈ l, c.2.length ≤ 16) :
    Calls Tryd.prog 31 #[x, z] w fun e w' => e = .returned (.int .i64 (findJ (itemsF l) 0 t)) ∧ Below w.heap.size w w' := by
  have hI := rItems_ok So x l w hx hlen
  have hil := items_len l
  have hsh := items_short htx
  have hwd : ∀ i ∈ itemsF l, 0 ≤ i.1 ∧ i.1 ≤ 2 := fun i hi => by rcases (items_of l i hi).1 with h | h <;> omega
  generalize itemsF l = y at *
  have HI := hide hI
  have HSH := hide hsh
  have HWD := hide hwd
  obtain ⟨A, c, rfl, _, _, _⟩ := hx.open_
  obtain ⟨B, d, rfl, _, _, _⟩ := hz.open_
  clear hI hsh htx hwd
  go_enter Tryd.func31, Tryd.ntmps31
  go_wp2_with fail
  refine HI.out.mono ?_
  rintro e w1 ⟨v1, rfl, hv1, hb1⟩
  have hz1 := hb1.size
  have ht1 := hz.mono (Keep.below (S := fun b => b < w.heap.size) hb1) (Keep.below (S := fun b => b < w.heap.size) hb1)
  have hy1 := hv1.slc.mono (Keep.lt _ _) (Keep.lt _ _)
  obtain ⟨A1, c1, rfl, _, _, _⟩ := hy1.open_
  go_wp2
  go_loopw [6, 7] (fun col i wr => ∃ (k : Nat) (cn : Int), k ≤ y.length ∧ i = .int .i64 k ∧ col = .int .i64 cn ∧ 0 ≤ cn ∧ cn ≤ 2 * k ∧ findJ y 0 t = findJ (y.drop k) cn t ∧ Below w1.heap.size w1 wr) (fun _ i _ => y.length - (intOf i).toNat)
  case atStart => exact ⟨0, 0, Nat.zero_le _, rfl, rfl, by omega, by omega, rfl, Below.refl _ _⟩
  case round =>
    obtain ⟨k, cn, hk, rfl, rfl, hc0, hc1, hfj, hbel⟩ := hrel
    have hsz := hbel.size
    have HFJ := hide hfj
    clear hfj
    by_cases hlt : k < y.length
    · obtain ⟨ab, off, rfl, hab, hall⟩ := cells_all hy1.slb (by omega)
      have HALL := hide hall
      obtain ⟨A2, c2, q0, q1, hw, _⟩ := hall k hlt
      have hwk := HWD.out y[k] (List.getElem_mem _)
      have hfc := HFJ.out
      rw [List.drop_eq_getElem_cons hlt, findJ_cons, ← List.drop_eq_getElem_cons hlt] at hfc
      have HFC := hide hfc
      clear hall hfc
      go_wp2
      go_loopw [8, 9] (fun got i wr => ∃ (j : Nat) (acc : List Int), k ≤ j ∧ j ≤ y.length ∧ i = .int .i64 j ∧ Own (Rep.int .i32) 21 [] w1.heap.size wr got acc ∧ acc.length ≤ 16 * j ∧ gotF (y.drop k) [] t.length = gotF (y.drop j) acc t.length ∧ Below w1.heap.size w1 wr) (fun _ i _ => y.length - (intOf i).toNat)
      case atStart => exact ⟨k, [], Nat.le_refl _, hk, rfl, Own.nil_ _ _ _ _ _ (by decide), by simp, rfl, hbel⟩
      case round =>
        obtain ⟨j, acc, hj0, hj, rfl, hacc, hal, hg, hbel2⟩ := hrel
        have hsz2 := hbel2.size
        obtain ⟨Ag, cg, rfl, _, _, _⟩ := hacc.slc.open_
        have ht2 := ht1.mono (Keep.below (S := fun b => b < w.heap.size) (hbel2)) (Keep.below (S := fun b => b < w.heap.size) hbel2)
        have q2 := (hbel2.cell (p := ⟨ab, off + k * 2, none⟩) hab).trans q0
        by_cases hgo : ∃ h : j < y.length, 0 < y[j].2.length ∧ acc.length < t.length
        · obtain ⟨hjl, hg1, hg2⟩ := hgo
          obtain ⟨A3, c3, r0, r1, _, hv3⟩ := HALL.out j hjl
          have r2 := (hbel2.cell (p := ⟨ab, off + j * 2 + 1, none⟩) hab).trans r1
          have hg3 : (0 : Int) < y[j].2.length := by omega
          have hln := HSH.out y[j] (List.getElem_mem _)
          rw [List.drop_eq_getElem_cons hjl, gotF_cons, if_neg (by omega)] at hg
          have HG := hide hg
          clear hg
          have hvi := (hv3.mono (Keep.below (S := fun b => b < w1.heap.size) hbel2) (Keep.below (S := fun b => b < w1.heap.size) hbel2)).flat_any (Flat.int .i32) (fun _ => False)
          go_wp2_with (at_builtin; refine wpList_appg rfl (.tmp 41) (.tmp 46) 44 rfl (Rep.int .i32) 21 [] w1.heap.size 4 _ Tryd.underlying44 i32_info rfl (by decide) (by decide) _ _ rfl hacc _ _ _ _ rfl hvi (fun _ h => h.elim) (by omega) (by omega) ?_; intro v5 w5 hv5 hst5 hg5 hob5)
          go_roundw
          case rel => exact ⟨j + 1, _, by omega, by omega, by go_num, hv5, by rw [List.length_append]; omega, HG.out, hbel2.trans (hst5.below hsz2)⟩
          case measure => simp [intOf]; omega
        · have hgj : gotF (y.drop k) [] t.length = acc := by
            rw [hg]
            by_cases hjl : j < y.length
            · rw [List.drop_eq_getElem_cons hjl, gotF_cons, if_pos ?_]
              by_cases h0 : y[j].2.length = 0
              · exact .inl h0
              · exact .inr (Nat.le_of_not_lt fun h1 => hgo ⟨hjl, by omega, h1⟩)
            · rw [List.drop_eq_nil_of_le (by omega)]; rfl
          have hfc := HFC.out
          rw [hgj] at hfc
          have HFD := hide hfc
          have hcase : (¬ j < y.length) ∨ (∃ h : j < y.length, y[j].2.length = 0) ∨ (∃ h : j < y.length, 0 < y[j].2.length ∧ ¬ acc.length < t.length) := by
            by_cases hjl : j < y.length
            · by_cases h0 : y[j].2.length = 0
              · exact .inr (.inl ⟨hjl, h0⟩)
              · exact .inr (.inr ⟨hjl, by omega, fun h1 => hgo ⟨hjl, by omega, h1⟩⟩)
            · exact .inl hjl
          clear hfc hg hgj hgo
          rcases hcase with h1 | ⟨h1, h2⟩ | ⟨h1, h2, h3⟩
          · have hg0 : True := trivial
            by_cases ht0 : 0 < t.length
            · have ht3 : (0 : Int) < t.length := by omega
              go_wp2_with fail
              refine (Same_ok _ _ _ _ _ _ acc t _ hacc.slc ht2).mono ?_
              rintro e w5 ⟨rfl, n5, rfl⟩
              have q5 : (wr.drewN n5).cell? ⟨ab, off + k * 2, none⟩ = some (.int .i64 y[k].1) := q2
              have hf := HFD.out
              by_cases he : acc = t
              · rw [decide_eq_true he]
                rw [if_pos ⟨ht0, he⟩] at hf
                have HF := hide hf
                clear hf he
                go_wp2
                go_ret
                rw [HF.out]
                exact ⟨rfl, below_drewN (hb1.trans (hbel2.mono hz1)) _⟩
              · rw [decide_eq_false he]
                rw [if_neg (fun e => he e.2)] at hf
                have HF := hide hf
                clear hf he
                go_wp2
                go_roundw
                case rel => exact ⟨k + 1, cn + y[k].1, by omega, by go_num, rfl, by omega, by omega, HF.out, below_drewN hbel2 n5⟩
                case measure => simp [intOf]; omega
            · have ht3 : ¬ (0 : Int) < t.length := by omega
              have hf := HFD.out
              rw [if_neg (fun e => ht0 e.1)] at hf
              have HF := hide hf
              clear hf
              go_wp2
              go_roundw
              case rel => exact ⟨k + 1, cn + y[k].1, by omega, by go_num, rfl, by omega, by omega, HF.out, hbel2⟩
              case measure => simp [intOf]; omega
          · obtain ⟨A3, c3, r0, r1, _, hv3⟩ := HALL.out j h1
            have r2 := (hbel2.cell (p := ⟨ab, off + j * 2 + 1, none⟩) hab).trans r1
            have hg3 : ¬ (0 : Int) < y[j].2.length := by omega
            by_cases ht0 : 0 < t.length
            · have ht3 : (0 : Int) < t.length := by omega
              go_wp2_with fail
              refine (Same_ok _ _ _ _ _ _ acc t _ hacc.slc ht2).mono ?_
              rintro e w5 ⟨rfl, n5, rfl⟩
              have q5 : (wr.drewN n5).cell? ⟨ab, off + k * 2, none⟩ = some (.int .i64 y[k].1) := q2
              have hf := HFD.out
              by_cases he : acc = t
              · rw [decide_eq_true he]
                rw [if_pos ⟨ht0, he⟩] at hf
                have HF := hide hf
                clear hf he
                go_wp2
                go_ret
                rw [HF.out]
                exact ⟨rfl, below_drewN (hb1.trans (hbel2.mono hz1)) _⟩
              · rw [decide_eq_false he]
                rw [if_neg (fun e => he e.2)] at hf
                have HF := hide hf
                clear hf he
                go_wp2
                go_roundw
                case rel => exact ⟨k + 1, cn + y[k].1, by omega, by go_num, rfl, by omega, by omega, HF.out, below_drewN hbel2 n5⟩
                case measure => simp [intOf]; omega
            · have ht3 : ¬ (0 : Int) < t.length := by omega
              have hf := HFD.out
              rw [if_neg (fun e => ht0 e.1)] at hf
              have HF := hide hf
              clear hf
              go_wp2
              go_roundw
              case rel => exact ⟨k + 1, cn + y[k].1, by omega, by go_num, rfl, by omega, by omega, HF.out, hbel2⟩
              case measure => simp [intOf]; omega
          · obtain ⟨A3, c3, r0, r1, _, hv3⟩ := HALL.out j h1
            have r2 := (hbel2.cell (p := ⟨ab, off + j * 2 + 1, none⟩) hab).trans r1
            have hg3 : (0 : Int) < y[j].2.length := by omega
            by_cases ht0 : 0 < t.length
            · have ht3 : (0 : Int) < t.length := by omega
              go_wp2_with fail
              refine (Same_ok _ _ _ _ _ _ acc t _ hacc.slc ht2).mono ?_
              rintro e w5 ⟨rfl, n5, rfl⟩
              have q5 : (wr.drewN n5).cell? ⟨ab, off + k * 2, none⟩ = some (.int .i64 y[k].1) := q2
              have hf := HFD.out
              by_cases he : acc = t
              · rw [decide_eq_true he]
                rw [if_pos ⟨ht0, he⟩] at hf
                have HF := hide hf
                clear hf he
                go_wp2
                go_ret
                rw [HF.out]
                exact ⟨rfl, below_drewN (hb1.trans (hbel2.mono hz1)) _⟩
              · rw [decide_eq_false he]
                rw [if_neg (fun e => he e.2)] at hf
                have HF := hide hf
                clear hf he
                go_wp2
                go_roundw
                case rel => exact ⟨k + 1, cn + y[k].1, by omega, by go_num, rfl, by omega, by omega, HF.out, below_drewN hbel2 n5⟩
                case measure => simp [intOf]; omega
            · have ht3 : ¬ (0 : Int) < t.length := by omega
              have hf := HFD.out
              rw [if_neg (fun e => ht0 e.1)] at hf
              have HF := hide hf
              clear hf
              go_wp2
              go_roundw
              case rel => exact ⟨k + 1, cn + y[k].1, by omega, by go_num, rfl, by omega, by omega, HF.out, hbel2⟩
              case measure => simp [intOf]; omega
    · have e : y.drop k = [] := List.drop_eq_nil_of_le (by omega)
      have hf := HFJ.out
      rw [e] at hf
      have HF := hide hf
      clear hf
      go_wp2
      go_ret
      rw [HF.out]
      exact ⟨rfl, hb1.trans (hbel.mono hz1)⟩
end Go.Proofs.YthjddpflcgcpiaaDoor
