/-
  What the functions that seek a text in a row return. Each function once.
-/
import Derived.Test.YthjddpflcgcpiaaDoorTxt5
import Derived.Test.YthjddpflcgcpiaaDoorCellEq
import Derived.BigQuiet
namespace Go.Proofs.YthjddpflcgcpiaaDoor
open Go.RowKit
set_option linter.unusedVariables false
set_option linter.unusedSimpArgs false

set_option maxHeartbeats 2000000 in
theorem from_ok (x z : Value) (l : List CellV) (t : List Int) (w : World) (hx : Slc RCell (fun b => b < w.heap.size) (fun b => b < w.heap.size) w x l) (hz : Slc (Rep.int .i32) (fun b => b < w.heap.size) (fun b => b < w.heap.size) w z t) :
    Calls Tryd.prog 81 #[x, z] w fun e w' => e = .returned (.bool (fromF l t)) ∧ Below w.heap.size w w' := by
  obtain ⟨A, c, rfl, _, _, _⟩ := hx.open_
  have hz0 := hz
  obtain ⟨B, d, rfl, _, _, _⟩ := hz.open_
  go_enter Tryd.func81, Tryd.ntmps81
  go_wp2
  go_loopw [1, 10] (fun tv i wr => ∃ (k : Nat) (s : List Int), k ≤ l.length ∧ i = .int .i64 k ∧ Slc (Rep.int .i32) (fun b => b < w.heap.size) (fun b => b < w.heap.size) wr tv s ∧ fromF l t = fromF (l.drop k) s ∧ Below w.heap.size w wr) (fun _ i _ => l.length - (intOf i).toNat)
  case atStart => exact ⟨0, t, Nat.zero_le _, rfl, hz0, rfl, Below.refl _ _⟩
  case round =>
    obtain ⟨k, s, hk, rfl, hs, hf, hbel⟩ := hrel
    have hsz := hbel.size
    obtain ⟨B, d, rfl, hd1, hd2, _⟩ := hs.open_
    by_cases hlt : k < l.length
    · obtain ⟨ab, off, rfl, hab, hall⟩ := cells_all hx.slb (by omega)
      obtain ⟨A2, c2, q0, q1, hw, hv⟩ := hall k hlt
      have q2 := (hbel.cell (p := ⟨ab, off + k * 2, none⟩) hab).trans q0
      have q3 := (hbel.cell (p := ⟨ab, off + k * 2 + 1, none⟩) hab).trans q1
      rw [List.drop_eq_getElem_cons hlt, fromF_cons] at hf
      clear hall q0 q1
      have hbl := hbel.alloc hsz (.cells #[.int .i64 l[k].1, .slice A2 l[k].2.length c2] 46)
      have hv' := hv.mono (Keep.below (S := fun b => b < w.heap.size) hbl) (Keep.below (S := fun b => b < w.heap.size) hbl)
      have hs' := hs.mono (Keep.alloc (fun b => b < w.heap.size) wr (.cells #[.int .i64 l[k].1, .slice A2 l[k].2.length c2] 46)) (Keep.alloc (fun b => b < w.heap.size) wr (.cells #[.int .i64 l[k].1, .slice A2 l[k].2.length c2] 46))
      by_cases h0 : s = []
      · have h1 : ((s.length : Int) == 0) = true := by simp [h0]
        rw [if_pos h0] at hf
        have HF := hide hf
        clear hf h0
        go_wp2
        go_ret
        rw [HF.out]
        exact ⟨rfl, hbl⟩
      · have h1 : ((s.length : Int) == 0) = false := by
          rw [beq_eq_false_iff_ne]; intro e; exact h0 (List.eq_nil_of_length_eq_zero (by omega))
        rw [if_neg h0] at hf
        by_cases h3 : l[k].1 = 3
        · have h2 : (l[k].1 == 3) = true := by simpa using h3
          rw [if_pos h3] at hf
          have HF := hide hf
          clear hf h0 h3
          go_wp2
          go_roundw
          case rel => exact ⟨k + 1, s, by omega, by go_num, hs', HF.out, hbl⟩
          case measure => simp [intOf]; omega
        · have h2 : (l[k].1 == 3) = false := by simpa using h3
          rw [if_neg h3] at hf
          by_cases h4 : l[k].1 = 0
          · have h5 : (l[k].1 == 0) = true := by simpa using h4
            rw [if_pos (.inl h4)] at hf
            have HF := hide hf
            clear hf h0 h3 h4
            go_wp2
            go_quiet (fail)
            go_wp2
            go_ret
            rw [HF.out]
            exact ⟨rfl, below_drewN hbl _⟩
          · have h5 : (l[k].1 == 0) = false := by simpa using h4
            by_cases hn : s.length < l[k].2.length
            · have hg : (s.length : Int) < l[k].2.length := by omega
              rw [if_pos (.inr (.inl hn))] at hf
              have HF := hide hf
              clear hf h0 h3 h4
              go_wp2
              go_quiet (fail)
              go_wp2
              go_ret
              rw [HF.out]
              exact ⟨rfl, below_drewN hbl _⟩
            · have hg : decide ((s.length : Int) < (l[k].2.length : Int)) = false := by rw [decide_eq_false_iff_not]; omega
              have hnl : l[k].2.length ≤ s.length := by omega
              have hnd : l[k].2.length ≤ d := by omega
              have hnd2 : (l[k].2.length : Int) ≤ d := by omega
              have hnd3 : ¬ (l[k].2.length : Int) < 0 := by omega
              have hnd4 : (0 : Int) ≤ l[k].2.length := by omega
              have hfr := hs'.front hnl
              by_cases he : s.take l[k].2.length = l[k].2
              · have hdec : decide (s.take l[k].2.length = l[k].2) = true := decide_eq_true he
                rw [if_neg (by simp only [not_or]; exact ⟨h4, hn, fun e => e he⟩)] at hf
                have hcu := hs'.cut hnl
                rw [show (Rep.int .i32).sz = 1 from rfl, Nat.mul_one] at hcu
                have HF := hide hf
                clear hf h0 h3 h4 he
                by_cases hdn : d = l[k].2.length
                · rw [if_pos hdn] at hcu
                  subst hdn
                  rw [show s.length - l[k].2.length = 0 by omega, Nat.sub_self] at hcu
                  go_wp2
                  go_quiet ((go_at_call 94; refine (Equal_ok _ _ _ _ _ _ _ _ _ (hfr.mono (Keep.drewN _ _ _) (Keep.drewN _ _ _)) (hv'.mono (Keep.drewN _ _ _) (Keep.drewN _ _ _))).mono ?_; rintro e w' ⟨rfl, m, rfl⟩; rw [hdec]; exact ⟨rfl, _, World.drewN_drewN ..⟩))
                  clear hdec
                  go_wp2
                  go_roundw
                  case rel => exact ⟨k + 1, _, by omega, by go_num, (hcu.mono (Keep.drewN _ _ _) (Keep.drewN _ _ _)), HF.out, below_drewN hbl _⟩
                  case measure => simp [intOf]; omega
                · rw [if_neg hdn] at hcu
                  go_wp2
                  go_quiet ((go_at_call 94; refine (Equal_ok _ _ _ _ _ _ _ _ _ (hfr.mono (Keep.drewN _ _ _) (Keep.drewN _ _ _)) (hv'.mono (Keep.drewN _ _ _) (Keep.drewN _ _ _))).mono ?_; rintro e w' ⟨rfl, m, rfl⟩; rw [hdec]; exact ⟨rfl, _, World.drewN_drewN ..⟩))
                  clear hdec
                  go_wp2
                  go_roundw
                  case rel => exact ⟨k + 1, _, by omega, by go_num, (hcu.mono (Keep.drewN _ _ _) (Keep.drewN _ _ _)), HF.out, below_drewN hbl _⟩
                  case measure => simp [intOf]; omega
              · have hdec : decide (s.take l[k].2.length = l[k].2) = false := decide_eq_false he
                rw [if_pos (.inr (.inr he))] at hf
                have HF := hide hf
                clear hf h0 h3 h4 he
                go_wp2
                go_quiet ((go_at_call 94; refine (Equal_ok _ _ _ _ _ _ _ _ _ (hfr.mono (Keep.drewN _ _ _) (Keep.drewN _ _ _)) (hv'.mono (Keep.drewN _ _ _) (Keep.drewN _ _ _))).mono ?_; rintro e w' ⟨rfl, m, rfl⟩; rw [hdec]; exact ⟨rfl, _, World.drewN_drewN ..⟩))
                clear hdec
                go_wp2
                go_ret
                rw [HF.out]
                exact ⟨rfl, below_drewN hbl _⟩
    · have e : l.drop k = [] := List.drop_eq_nil_of_le (by omega)
      rw [e] at hf
      have hf' : fromF l t = decide (s = []) := hf
      have HF := hide hf'
      clear hf hf'
      go_wp2
      go_ret
      rw [HF.out]
      exact ⟨ret_1 (bool_eq (by rw [Bool.eq_iff_iff]; simp)), hbel⟩

set_option maxHeartbeats 1000000 in
theorem Find_ok (base : Nat) (v z : Value) (l : List CellV) (t : List Int) (wrap : Bool) (w : World) (h : RowIs base w v l wrap) (hz : Slc (Rep.int .i32) (fun b => b < w.heap.size) (fun b => b < w.heap.size) w z t) (ht : t ≠ []) (hlen : l.length ≤ 100000) (htx : ∀ c ∈ l, c.2.length ≤ 16) :
    Calls Tryd.prog 30 #[v, z] w fun e w' => e = .returned (.int .i64 (findF l 0 t)) ∧ Below w.heap.size w w' := by
  have HH := hide h
  obtain ⟨g0, s0, rfl, _, _, _⟩ := h
  obtain ⟨B, d, rfl, _, _, _⟩ := hz.open_
  have HTX := hide htx
  have h1 : ((t.length : Int) == 0) = false := by
    rw [beq_eq_false_iff_ne]; intro e; exact ht (List.eq_nil_of_length_eq_zero (by omega))
  clear htx ht
  go_enter Tryd.func30, Tryd.ntmps30
  go_wp2_with fail
  refine (Cells_ok _ _ _ _ _ HH.out hlen HTX.out).mono ?_
  rintro e w1 ⟨v1, rfl, hv1, hb1⟩
  have hz1 := hb1.size
  have hs1 := hv1.slc.mono (Keep.lt _ _) (Keep.lt _ _)
  have ht1 := hz.mono (Keep.below (S := fun b => b < w.heap.size) hb1) (Keep.below (S := fun b => b < w.heap.size) hb1)
  obtain ⟨A1, c1, rfl, hc1, hc2, _⟩ := hs1.open_
  go_wp2
  go_loopw [15] (fun i wr => ∃ k : Nat, k ≤ l.length ∧ i = .int .i64 k ∧ findF l 0 t = findF (l.drop k) k t ∧ Below w1.heap.size w1 wr) (fun i _ => l.length - (intOf i).toNat)
  case atStart => exact ⟨0, Nat.zero_le _, rfl, rfl, Below.refl _ _⟩
  case round =>
    obtain ⟨k, hk, rfl, hf, hbel⟩ := hrel
    have hsz := hbel.size
    by_cases hlt : k < l.length
    · obtain ⟨ab, off, rfl, hab, hall⟩ := cells_all hs1.slb (by omega)
      obtain ⟨A2, c2, q0, q1, hw, hv⟩ := hall k hlt
      have q2 := (hbel.cell (p := ⟨ab, off + k * 2, none⟩) hab).trans q0
      have q3 := (hbel.cell (p := ⟨ab, off + k * 2 + 1, none⟩) hab).trans q1
      have hcut := hs1.cut (k := k) (by omega)
      rw [if_neg (by omega)] at hcut
      have esz : RCell.sz = 2 := rfl
      simp only [Option.map_some, Addr.add_lit, esz] at hcut
      have hne : ¬ c1 = k := by omega
      rw [List.drop_eq_getElem_cons hlt, findF_cons, ← List.drop_eq_getElem_cons hlt] at hf
      clear hall q0 q1
      have hbl := hbel.alloc hsz (.cells #[.int .i64 l[k].1, .slice A2 l[k].2.length c2] 46)
      have hzl := hbl.size
      by_cases h3 : l[k].1 = 3
      · have h2 : (l[k].1 != 3) = false := by simp [h3]
        rw [if_neg (fun e => e.1 h3)] at hf
        have HF := hide hf
        clear hf h3
        go_wp2
        go_roundw
        case rel => exact ⟨k + 1, by omega, by go_num, HF.out, hbl⟩
        case measure => simp [intOf]; omega
      · have h2 : (l[k].1 != 3) = true := by simp [h3]
        have hck := hcut.mono (Keep.below (S := fun b => b < w1.heap.size) hbl) (Keep.below (S := fun b => b < w1.heap.size) hbl)
        have htk := ht1.mono (Keep.below (S := fun b => b < w.heap.size) hbl) (Keep.below (S := fun b => b < w.heap.size) hbl)
        have hfr := from_ok _ _ (l.drop k) t _ (hck.mono (Keep.weaken fun b h => by omega) (Keep.weaken fun b h => by omega)) (htk.mono (Keep.weaken fun b h => by omega) (Keep.weaken fun b h => by omega))
        have HFR := hide hfr
        clear hfr hcut hck htk
        by_cases hfm : fromF (l.drop k) t = true
        · rw [if_pos ⟨h3, hfm⟩] at hf
          have HF := hide hf
          have HFM := hide hfm
          clear hf hfm h3
          go_wp2_with fail
          refine HFR.out.mono ?_
          rw [HFM.out]
          rintro e w5 ⟨rfl, hb5⟩
          go_wp2
          go_ret
          rw [HF.out]
          exact ⟨rfl, hb1.trans ((hbl.trans (hb5.mono hzl)).mono hz1)⟩
        · rw [if_neg (fun e => hfm e.2)] at hf
          have HF := hide hf
          have hfm : fromF (l.drop k) t = false := by simpa using hfm
          have HFM := hide hfm
          clear hf hfm h3
          go_wp2_with fail
          refine HFR.out.mono ?_
          rw [HFM.out]
          rintro e w5 ⟨rfl, hb5⟩
          go_wp2
          go_roundw
          case rel => exact ⟨k + 1, by omega, by go_num, HF.out, hbl.trans (hb5.mono hzl)⟩
          case measure => simp [intOf]; omega
    · have e : l.drop k = [] := List.drop_eq_nil_of_le (by omega)
      rw [e] at hf
      have HF := hide hf
      clear hf
      go_wp2
      go_ret
      rw [HF.out]
      exact ⟨rfl, hb1.trans (hbel.mono hz1)⟩

/-- Of no text, and of no row: nowhere. -/
theorem Find_none (v : Value) (B : Option Addr) (d : Nat) (w : World) :
    Calls Tryd.prog 30 #[v, .slice B 0 d] w fun e w' => e = .returned (.int .i64 (-1)) ∧ w = w' := by
  go_enter Tryd.func30, Tryd.ntmps30
  go_wp2
  go_ret
  exact ⟨rfl, rfl⟩
theorem Find_nil (B : Option Addr) (n d : Nat) (w : World) (hn : n ≠ 0) :
    Calls Tryd.prog 30 #[.pointer none, .slice B n d] w fun e w' => e = .returned (.int .i64 (-1)) ∧ w = w' := by
  have h1 : ((n : Int) == 0) = false := by rw [beq_eq_false_iff_ne]; omega
  go_enter Tryd.func30, Tryd.ntmps30
  go_wp2_with fail
  refine (Cells_nil _).mono ?_
  rintro e w1 ⟨rfl, rfl⟩
  go_wp2
  go_loopw [15] (fun i wr => i = .int .i64 0 ∧ w = wr) (fun _ _ => 0)
  case atStart => exact ⟨rfl, rfl⟩
  case round =>
    obtain ⟨rfl, rfl⟩ := hrel
    go_wp2
    go_ret
    exact ⟨rfl, rfl⟩
end Go.Proofs.YthjddpflcgcpiaaDoor
