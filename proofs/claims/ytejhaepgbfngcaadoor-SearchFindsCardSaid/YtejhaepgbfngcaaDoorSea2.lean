/-
  Package search: the pieces of a view; how many of them are just a text. Each function once.
-/
import Derived.Test.YtejhaepgbfngcaaDoorSea1
import Derived.BigQuiet
namespace Go.Proofs.YtejhaepgbfngcaaDoor
open Go.RowKit
set_option linter.unusedVariables false
set_option linter.unusedSimpArgs false

theorem lineP_len (i : Nat) (l : LineV) : (lineP i l).length ≤ l.1.length + 1 := by
  have hpl : ∀ k, (rowU i l k).length ≤ k := by
    intro k
    induction k with
    | zero => unfold rowU; simp
    | succ k ih =>
      rw [rowU_snoc, List.length_append]
      unfold pieceAt
      split <;> simp <;> omega
  unfold lineP sepP
  rw [List.length_append]
  have := hpl l.1.length
  split <;> simp <;> omega
theorem piecesU_len {ls : List LineV} {B : Nat} (h : ∀ l ∈ ls, l.1.length ≤ B) : ∀ k, k ≤ ls.length → (piecesU ls k).length ≤ k * (B + 1)
  | 0, _ => by simp [piecesU]
  | k + 1, hk => by
    have ih := piecesU_len h k (by omega)
    have h1 := lineP_len k (lnAt ls k)
    rw [lnAt_at ls (by omega)] at h1
    have h2 := h ls[k] (List.getElem_mem _)
    rw [piecesU_snoc, List.length_append, lnAt_at ls (by omega), Nat.succ_mul]
    omega

set_option maxHeartbeats 4000000 in
theorem pieces_ok (So : Nat → Prop) (x : Value) (wd hi r c : Int) (p au : Bool) (ls : List LineV) (w : World) (hx : Slc RLine So (fun b => b < w.heap.size) w x ls) (hlen : ∀ l ∈ ls, l.1.length ≤ 2000) (hll : ls.length ≤ 2000) :
    Calls Tryd.prog 46 #[.agg #[.int .i64 wd, .int .i64 hi, x, .int .i64 r, .int .i64 c, .bool p, .bool au]] w fun e w' => ∃ s, e = .returned s ∧ Own RPiece 87 [] w.heap.size w' s (piecesU ls ls.length) ∧ Below w.heap.size w w' := by
  obtain ⟨A, cp, rfl, hc1, hc2, _⟩ := hx.open_
  have hb0 := (Below.refl w.heap.size w).alloc (Nat.le_refl _) (.cells #[.int .i64 wd, .int .i64 hi, .slice A ls.length cp, .int .i64 r, .int .i64 c, .bool p, .bool au] 40)
  have HLEN := hide hlen
  have HPL := hide (fun k hk => piecesU_len hlen k hk)
  have HPS := hide (fun k => piecesU_snoc ls k)
  clear hlen
  go_enter Tryd.func46, Tryd.ntmps46
  go_wp2
  go_loopw [3, 9] (fun out i wr => ∃ k : Nat, k ≤ ls.length ∧ i = .int .i64 k ∧ Own RPiece 87 [] w.heap.size wr out (piecesU ls k) ∧ Below w.heap.size w wr) (fun _ i _ => ls.length - (intOf i).toNat)
  case atStart => exact ⟨0, Nat.zero_le _, rfl, Own.nil_ _ _ _ _ _ (by decide), hb0⟩
  case round =>
    obtain ⟨k, hk, rfl, hout, hb⟩ := hrel
    have hz := hb.size
    by_cases hlt : k < ls.length
    · have hki : (k : Int) < ls.length := by omega
      have hxr := hx.mono (Keep.below (S := So) hb) (Keep.below (S := fun b => b < w.heap.size) hb)
      obtain ⟨ab, off, v2, rfl, _, q0, q1, hv⟩ := line_at hxr.slb hlt
      obtain ⟨A2, c2, rfl, _, _, _⟩ := hv.open_
      have hsn := HPS.out k
      have hpk := HPL.out k hk
      have hpb : (piecesU ls k).length ≤ 4002000 := Nat.le_trans hpk (Nat.le_trans (Nat.mul_le_mul_right 2001 (show k ≤ 2000 by omega)) (by decide))
      have hln := HLEN.out ls[k] (List.getElem_mem _)
      rw [lnAt_at ls hlt] at hsn
      have hlp : lineP k ls[k] = rowU k ls[k] ls[k].1.length ++ sepP k ls[k] := rfl
      obtain ⟨l, wrap, hlw⟩ : ∃ l wrap, ls[k] = (l, wrap) := ⟨_, _, rfl⟩
      rw [hlp, hlw, ← List.append_assoc] at hsn
      rw [hlw] at q0 q1 hv hln
      simp only at q0 q1 hv hln hsn
      have hW1 := hb.alloc hz (.cells #[.slice A2 l.length c2, .bool wrap] 54)
      have ho1 := hout.alloc (.cells #[.slice A2 l.length c2, .bool wrap] 54)
      have hv1 := hv.mono (Keep.alloc (fun b => b < w.heap.size) wr (.cells #[.slice A2 l.length c2, .bool wrap] 54)) (Keep.alloc (fun b => b < w.heap.size) wr (.cells #[.slice A2 l.length c2, .bool wrap] 54))
      have hbl := Blk.new wr 54 #[.slice A2 l.length c2, .bool wrap]
      have hR := row53_ok w.heap.size _ _ _ (piecesU ls k) k l wrap _ ho1 hv1 (fun b h => h) (by simp; omega) (by omega) (by omega) (by omega)
      have hrl : (piecesU ls k ++ rowU k (l, wrap) l.length).length ≤ 4004001 := by
        have := lineP_len k (l, wrap)
        unfold lineP at this
        rw [List.length_append] at this ⊢
        simp only at this
        omega
      have HR := hide hR
      have HSN := hide hsn
      have HLL := hide hrl
      clear hsn hlp hlw hR hrl hxr
      go_wp2_with fail
      refine HR.out.mono ?_
      rintro e w6 ⟨s6, rfl, hv6, hst6⟩
      have hbl6 := hbl.step hst6 (by decide)
      have hb6 := hW1.trans (hst6.below (by simp; omega))
      have y0 := hbl6.cell 0
      have y1 := hbl6.cell 1
      simp only [List.getElem?_toArray, List.getElem?_cons_succ, List.getElem?_cons_zero] at y0 y1
      have hz6 := hb6.size
      cases wrap with
      | true =>
        have HS2 : Hid (piecesU ls (k + 1) = piecesU ls k ++ rowU k (l, true) l.length) := hide (by rw [HSN.out]; unfold sepP; rw [if_neg (by simp), List.append_nil])
        clear HSN
        go_wp2
        go_roundw
        case rel => exact ⟨k + 1, by omega, by go_num, by rw [HS2.out]; exact hv6, hb6⟩
        case measure => simp [intOf]; omega
      | false =>
        have HS2 : Hid (piecesU ls (k + 1) = (piecesU ls k ++ rowU k (l, false) l.length) ++ [((k : Int), 0, [])]) := hide (by rw [HSN.out]; unfold sepP; rw [if_pos rfl])
        clear HSN
        have hone : Slc RPiece (fun _ => True) (fun b => b < w.heap.size) (w6.alloc (.cells #[.int .i64 k, .int .i64 0, .slice none 0 0] 87)) (.slice (some ⟨w6.heap.size, 0, none⟩) 1 1) [((k : Int), 0, [])] :=
          Slc.lit1 (R := RPiece) (Si := fun b => b < w.heap.size) (Si' := fun b => b < w.heap.size) (x := (((k : Int), 0, []) : PieceV)) 87 (els_piece (wf_i64 (by omega) (by omega)) (by decide) Slc.nil_) (Keep.alloc _ _ _)
        have ho7 := hv6.alloc (.cells #[.int .i64 k, .int .i64 0, .slice none 0 0] 87)
        have hb7 := hb6.alloc hz6 (.cells #[.int .i64 k, .int .i64 0, .slice none 0 0] 87)
        go_wp2_with (at_builtin; refine wpList_appg rfl (.tmp 21) (.tmp 24) 84 rfl RPiece 87 [] w.heap.size 40 _ Tryd.underlying84 piece_info rfl (by decide) (by decide) _ _ rfl ho7 _ _ _ _ rfl hone (fun _ h => .inl h) (by rw [List.length_singleton]; have := HLL.out; omega) (by simp; omega) ?_; intro v8 w8 hv8 hst8 hg8 hob8)
        go_roundw
        case rel => exact ⟨k + 1, by omega, by go_num, by rw [HS2.out]; exact hv8, hb7.trans (hst8.below (by simp; omega))⟩
        case measure => simp [intOf]; omega
    · obtain rfl : k = ls.length := by omega
      go_wp2
      go_ret
      exact ⟨_, rfl, hout, hb⟩

set_option maxHeartbeats 1000000 in
theorem EqualS_ok (So Si To Ti : Nat → Prop) (x y : Value) (l m : List Int) (w : World) (hx : Slc (Rep.int .i32) So Si w x l) (hy : Slc (Rep.int .i32) To Ti w y m) :
    Calls Tryd.prog 75 #[x, y] w fun e w' => e = .returned (.bool (decide (l = m))) ∧ ∃ n, w' = w.drewN n := by
  obtain ⟨A, c, rfl, hl1, hl2, hx⟩ := hx.open_
  obtain ⟨B, d, rfl, hm1, hm2, hy⟩ := hy.open_
  by_cases hlen : l.length = m.length
  · have hd : ((l.length : Int) != m.length) = false := by simp [hlen]
    have Hlen := hide hlen
    clear hlen
    go_enter Tryd.func75, Tryd.ntmps75
    go_wp2
    go_loopw [13] (fun i wr => ∃ k : Nat, k ≤ l.length ∧ i = .int .i64 k ∧ (∀ j, j < k → l[j]? = m[j]?) ∧ ∃ n, wr = w.drewN n) (fun i _ => l.length - (intOf i).toNat)
    case atStart => exact ⟨0, Nat.zero_le _, rfl, by simp, 0, rfl⟩
    case round =>
      obtain ⟨k, hk, rfl, hpre, n, rfl⟩ := hrel
      have HP := hide hpre
      clear hpre
      by_cases hlt : k < l.length
      · have hltm : k < m.length := by have := Hlen.out; omega
        obtain ⟨b1, o1, rfl, _, hcx, _⟩ := ints_at hx hlt
        obtain ⟨b2, o2, rfl, _, hcy, _⟩ := ints_at hy hltm
        by_cases heq : l[k] = m[k]
        · have hb : (l[k] != m[k]) = false := by simp [heq]
          have HEQ := hide heq
          clear heq
          go_wp2
          go_quiet (fail)
          go_wp2
          go_roundw
          case rel =>
            refine ⟨k + 1, by omega, by go_num, fun j hj => ?_, ⟨_, rfl⟩⟩
            by_cases e : j = k
            · subst e; rw [List.getElem?_eq_getElem hlt, List.getElem?_eq_getElem hltm, HEQ.out]
            · exact HP.out j (by omega)
          case measure => simp [intOf]; omega
        · have hb : (l[k] != m[k]) = true := by simp [heq]
          have HNE : Hid (decide (l = m) = false) := hide (decide_eq_false (fun e => by subst e; exact heq rfl))
          clear heq
          go_wp2
          go_quiet (fail)
          go_wp2
          go_ret
          rw [HNE.out]
          exact ⟨rfl, by obtain ⟨q, hq⟩ := drew2 w n nq; exact ⟨q, hq⟩⟩
      · have HEQ : Hid (decide (l = m) = true) := hide (decide_eq_true (List.ext_getElem? fun j => by
          by_cases hj : j < k
          · exact HP.out j hj
          · rw [List.getElem?_eq_none (by omega), List.getElem?_eq_none (by have := Hlen.out; omega)]))
        obtain rfl : k = l.length := by omega
        go_wp2
        go_ret
        rw [HEQ.out]
        exact ⟨rfl, n, rfl⟩
  · have hd : ((l.length : Int) != m.length) = true := by simp; omega
    have HNE : Hid (decide (l = m) = false) := hide (decide_eq_false (fun e => hlen (by rw [e])))
    clear hlen
    go_enter Tryd.func75, Tryd.ntmps75
    go_wp2
    go_ret
    rw [HNE.out]
    exact ⟨rfl, 0, rfl⟩
theorem cntP_cons (p : PieceV) (l : List PieceV) (text : List Int) (i : Nat) : cntP (p :: l) text i = if p.2.2.length = 0 ∨ text.length < p.2.2.length ∨ text.take p.2.2.length ≠ p.2.2 then 0 else if (text.drop p.2.2.length).length = 0 then i + 1 else cntP l (text.drop p.2.2.length) (i + 1) := rfl
set_option maxHeartbeats 4000000 in
theorem count_ok (x y : Value) (ps : List PieceV) (t : List Int) (w : World) (hx : Slc RPiece (fun b => b < w.heap.size) (fun b => b < w.heap.size) w x ps) (hy : Slc (Rep.int .i32) (fun b => b < w.heap.size) (fun b => b < w.heap.size) w y t) (hps : ps.length ≤ 1000000000) :
    Calls Tryd.prog 47 #[x, y] w fun e w' => e = .returned (.int .i64 (cntP ps t 0)) ∧ Below w.heap.size w w' := by
  obtain ⟨A, c, rfl, hc1, hc2, _⟩ := hx.open_
  go_enter Tryd.func47, Tryd.ntmps47
  go_wp2
  go_loopw [1, 10] (fun tv i wr => ∃ (k : Nat) (s : List Int), k ≤ ps.length ∧ i = .int .i64 k ∧ Slc (Rep.int .i32) (fun b => b < w.heap.size) (fun b => b < w.heap.size) wr tv s ∧ cntP ps t 0 = cntP (ps.drop k) s k ∧ Below w.heap.size w wr) (fun _ i _ => ps.length - (intOf i).toNat)
  case atStart => exact ⟨0, t, Nat.zero_le _, rfl, hy, rfl, Below.refl _ _⟩
  case round =>
    obtain ⟨k, s, hk, rfl, hs, hf, hbel⟩ := hrel
    have hsz := hbel.size
    by_cases hlt : k < ps.length
    · have hki : (k : Int) < ps.length := by omega
      have hxr := hx.mono (Keep.below (S := fun b => b < w.heap.size) hbel) (Keep.below (S := fun b => b < w.heap.size) hbel)
      obtain ⟨ab, off, v2, rfl, _, q0, q1, q2, hv⟩ := piece_at hxr.slb hlt
      obtain ⟨A2, c2, rfl, _, _, _⟩ := hv.open_
      rw [List.drop_eq_getElem_cons hlt] at hf
      rw [cntP_cons] at hf
      obtain ⟨B, d, rfl, hd1, hd2, _⟩ := hs.open_
      have hbl := hbel.alloc hsz (.cells #[.int .i64 ps[k].1, .int .i64 ps[k].2.1, .slice A2 ps[k].2.2.length c2] 87)
      have hv' := hv.mono (Keep.alloc (fun b => b < w.heap.size) wr (.cells #[.int .i64 ps[k].1, .int .i64 ps[k].2.1, .slice A2 ps[k].2.2.length c2] 87)) (Keep.alloc (fun b => b < w.heap.size) wr (.cells #[.int .i64 ps[k].1, .int .i64 ps[k].2.1, .slice A2 ps[k].2.2.length c2] 87))
      have hs' := hs.mono (Keep.alloc (fun b => b < w.heap.size) wr (.cells #[.int .i64 ps[k].1, .int .i64 ps[k].2.1, .slice A2 ps[k].2.2.length c2] 87)) (Keep.alloc (fun b => b < w.heap.size) wr (.cells #[.int .i64 ps[k].1, .int .i64 ps[k].2.1, .slice A2 ps[k].2.2.length c2] 87))
      obtain ⟨tx, htx⟩ : ∃ tx, ps[k].2.2 = tx := ⟨_, rfl⟩
      rw [htx] at hf q2 hv hv' hs' hbl
      clear hxr htx
      by_cases h0 : tx.length = 0
      · have h1 : ((tx.length : Int) == 0) = true := by simp [h0]
        rw [if_pos (.inl h0)] at hf
        have HF := hide hf
        clear hf h0
        go_wp2
        go_quiet (fail)
        go_wp2
        go_ret
        rw [HF.out]
        exact ⟨rfl, below_drewN hbl _⟩
      · have h1 : ((tx.length : Int) == 0) = false := by rw [beq_eq_false_iff_ne]; omega
        by_cases hn : s.length < tx.length
        · have hg : (s.length : Int) < tx.length := by omega
          rw [if_pos (.inr (.inl hn))] at hf
          have HF := hide hf
          clear hf h0
          go_wp2
          go_quiet (fail)
          go_wp2
          go_ret
          rw [HF.out]
          exact ⟨rfl, below_drewN hbl _⟩
        · have hg : decide ((s.length : Int) < (tx.length : Int)) = false := by rw [decide_eq_false_iff_not]; omega
          have hnl : tx.length ≤ s.length := by omega
          have hnd : tx.length ≤ d := by omega
          have hnd2 : (tx.length : Int) ≤ d := by omega
          have hnd3 : ¬ (tx.length : Int) < 0 := by omega
          have hnd4 : (0 : Int) ≤ tx.length := by omega
          have hfr := hs'.front hnl
          by_cases he : s.take tx.length = tx
          · have hdec : decide (s.take tx.length = tx) = true := decide_eq_true he
            rw [if_neg (by simp only [not_or]; exact ⟨h0, hn, fun e => e he⟩)] at hf
            have hcu := hs'.cut hnl
            rw [show (Rep.int .i32).sz = 1 from rfl, Nat.mul_one] at hcu
            have hdl : (s.drop tx.length).length = s.length - tx.length := List.length_drop
            have HF := hide hf
            have HDL := hide hdl
            clear hf h0 he hdl
            by_cases hdn : d = tx.length
            · rw [if_pos hdn] at hcu
              have hz : s.length - tx.length = 0 := by omega
              rw [hz] at hcu
              have HF2 : Hid (cntP ps t 0 = k + 1) := hide (by rw [HF.out, if_pos (by rw [HDL.out]; exact hz)])
              subst hdn
              go_wp2
              go_quiet ((go_at_call 75; refine (EqualS_ok _ _ _ _ _ _ _ _ _ (hfr.mono (Keep.drewN _ _ _) (Keep.drewN _ _ _)) (hv'.mono (Keep.drewN _ _ _) (Keep.drewN _ _ _))).mono ?_; rintro e w' ⟨rfl, m, rfl⟩; rw [hdec]; exact ⟨rfl, _, World.drewN_drewN ..⟩))
              clear hdec
              go_wp2
              go_ret
              rw [HF2.out]
              exact ⟨ret_1 (int_eq (by omega)), below_drewN hbl _⟩
            · rw [if_neg hdn] at hcu
              go_wp2
              go_quiet ((go_at_call 75; refine (EqualS_ok _ _ _ _ _ _ _ _ _ (hfr.mono (Keep.drewN _ _ _) (Keep.drewN _ _ _)) (hv'.mono (Keep.drewN _ _ _) (Keep.drewN _ _ _))).mono ?_; rintro e w' ⟨rfl, m, rfl⟩; rw [hdec]; exact ⟨rfl, _, World.drewN_drewN ..⟩))
              clear hdec
              go_upto_region 8 with fail
              obtain ⟨m, hm⟩ : ∃ m, m = s.length - tx.length := ⟨_, rfl⟩
              rw [← hm] at hcu
              rw [← hm]
              have HMM := hide hm
              by_cases hz : m = 0
              · have em : ((m : Int) == 0) = true := by simp; omega
                have HF2 : Hid (cntP ps t 0 = k + 1) := hide (by rw [HF.out, if_pos (by rw [HDL.out, ← HMM.out]; exact hz)])
                clear hm hz
                go_wp2
                go_ret
                rw [HF2.out]
                exact ⟨ret_1 (int_eq (by omega)), below_drewN hbl _⟩
              · have em : ((m : Int) == 0) = false := by rw [beq_eq_false_iff_ne]; omega
                have HF2 : Hid (cntP ps t 0 = cntP (ps.drop (k + 1)) (s.drop tx.length) (k + 1)) := hide (by rw [HF.out, if_neg (by rw [HDL.out, ← HMM.out]; exact hz)])
                clear hm hz
                go_wp2
                go_roundw
                case rel => exact ⟨k + 1, _, by omega, by go_num, (hcu.mono (Keep.drewN _ _ _) (Keep.drewN _ _ _)), HF2.out, below_drewN hbl _⟩
                case measure => simp [intOf]; omega
          · have hdec : decide (s.take tx.length = tx) = false := decide_eq_false he
            rw [if_pos (.inr (.inr he))] at hf
            have HF := hide hf
            clear hf h0 he
            go_wp2
            go_quiet ((go_at_call 75; refine (EqualS_ok _ _ _ _ _ _ _ _ _ (hfr.mono (Keep.drewN _ _ _) (Keep.drewN _ _ _)) (hv'.mono (Keep.drewN _ _ _) (Keep.drewN _ _ _))).mono ?_; rintro e w' ⟨rfl, m, rfl⟩; rw [hdec]; exact ⟨rfl, _, World.drewN_drewN ..⟩))
            clear hdec
            go_wp2
            go_ret
            rw [HF.out]
            exact ⟨rfl, below_drewN hbl _⟩
    · have e : ps.drop k = [] := List.drop_eq_nil_of_le (by omega)
      rw [e] at hf
      have hf' : cntP ps t 0 = 0 := hf
      have HF := hide hf'
      clear hf hf'
      go_wp2
      go_ret
      rw [HF.out]
      exact ⟨rfl, hbel⟩
end Go.Proofs.YtejhaepgbfngcaaDoor
