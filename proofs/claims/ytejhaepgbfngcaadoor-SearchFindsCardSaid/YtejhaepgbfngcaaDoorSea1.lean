/-
  Package search: the pieces of a row and of a view. Each function once.
-/
import Derived.Test.YtejhaepgbfngcaaDoorSea0
import Derived.Test.YtejhaepgbfngcaaDoorMem4
import Derived.Test.YtejhaepgbfngcaaDoorReg5
namespace Go.Proofs.YtejhaepgbfngcaaDoor
open Go.RowKit
set_option linter.unusedVariables false
set_option linter.unusedSimpArgs false

def RPiece : Rep PieceV := Rep.pair (Rep.int .i64) (Rep.pair (Rep.int .i64) (Rep.slice (Rep.int .i32)))
theorem piece_info : (Tryd.prog.info? 87).map (fun i => (i.zero, i.size, i.bytes)) = some (some (.agg #[.int .i64 0, .int .i64 0, .slice none 0 0]), RPiece.sz, 40) := by kernel_rfl
theorem piece_at {So Si : Nat → Prop} {w : World} {A : Option Addr} {l : List PieceV} (h : SlB RPiece So Si w A l) {k : Nat} (hk : k < l.length) :
    ∃ b off v, A = some ⟨b, off, none⟩ ∧ So b ∧ w.cell? ⟨b, off + k * 3, none⟩ = some (.int .i64 l[k].1) ∧ w.cell? ⟨b, off + k * 3 + 1, none⟩ = some (.int .i64 l[k].2.1) ∧ w.cell? ⟨b, off + k * 3 + 2, none⟩ = some v ∧ Slc (Rep.int .i32) Si Si w v l[k].2.2 := by
  obtain ⟨b, off, u, rfl, hs, hu, hc⟩ := h.at_ (k := k) (x := l[k]) (List.getElem?_eq_getElem hk) (by decide)
  obtain ⟨v1, v2, rfl, ⟨rfl, _⟩, v3, v4, rfl, ⟨rfl, _⟩, v, rfl, hv⟩ := hu
  have h0 := hc 0 (by decide)
  have h1 := hc 1 (by decide)
  have h2 := hc 2 (by decide)
  have e : RPiece.sz = 3 := rfl
  rw [e] at h0 h1 h2
  simp only [← Nat.add_assoc, Nat.add_zero] at h0 h1 h2
  exact ⟨b, off, v, rfl, hs, h0, h1, h2, hv⟩
theorem els_piece {S : Nat → Prop} {w : World} {r c : Int} {v : Value} {t : List Int} (hr : (Lit.int .i64 r).wf = true) (hc : (Lit.int .i64 c).wf = true) (hv : Slc (Rep.int .i32) S S w v t) : RPiece.E S w [.int .i64 r, .int .i64 c, v] (r, c, t) :=
  ⟨[.int .i64 r], _, rfl, ⟨rfl, hr⟩, [.int .i64 c], _, rfl, ⟨rfl, hc⟩, v, rfl, hv⟩

set_option maxHeartbeats 4000000 in
theorem row53_ok (base : Nat) (So : Nat → Prop) (ov x : Value) (ps : List PieceV) (n : Nat) (l : List CellV) (wrap : Bool) (w : World) (ho : Own RPiece 87 [] base w ov ps) (hx : Slc RCell So (fun b => b < base) w x l) (hSo : ∀ b, So b → b < base) (hbase : base ≤ w.heap.size) (hn : n ≤ 100000) (hp : ps.length ≤ 1000000000) (hl : l.length ≤ 1000000) :
    Calls Tryd.prog 74 #[ov, .int .i64 n, .agg #[x, .bool wrap]] w fun e w' => ∃ s, e = .returned s ∧ Own RPiece 87 [] base w' s (ps ++ rowU n (l, wrap) l.length) ∧ Step base [87] w w' := by
  obtain ⟨A, c, rfl, hc1, hc2, _⟩ := hx.open_
  have HX := hide hx
  have hb0 : Below w.heap.size w (w.alloc (.cells #[.slice A l.length c, .bool wrap] 54)) := (Below.refl _ w).alloc (Nat.le_refl _) _
  have hst0 : Step base [87] w (w.alloc (.cells #[.slice A l.length c, .bool wrap] 54)) := Step.alloc1 _ _ _ _
  have hbl0 := Blk.new w 54 #[.slice A l.length c, .bool wrap]
  have ho0 := ho.alloc (.cells #[.slice A l.length c, .bool wrap] 54)
  have HRS := hide (fun k => rowU_snoc n (l, wrap) k)
  have hpl : ∀ k, (rowU n (l, wrap) k).length ≤ k := by
    intro k
    induction k with
    | zero => unfold rowU; simp
    | succ k ih =>
      rw [rowU_snoc, List.length_append]
      unfold pieceAt
      split <;> simp <;> omega
  have HPL := hide hpl
  clear hpl
  go_enter Tryd.func74, Tryd.ntmps74
  go_wp2
  go_loopw [0, 13] (fun out i wr => ∃ k : Nat, k ≤ l.length ∧ i = .int .i64 k ∧ Own RPiece 87 [] base wr out (ps ++ rowU n (l, wrap) k) ∧ Blk wr w.heap.size 54 #[.slice A l.length c, .bool wrap] ∧ Step base [87] w wr) (fun _ i _ => l.length - (intOf i).toNat)
  case atStart => exact ⟨0, Nat.zero_le _, rfl, by simpa [rowU] using ho0, hbl0, hst0⟩
  case round =>
    obtain ⟨k, hk, rfl, hout, hbl, hst⟩ := hrel
    have hz := hst.size
    have y0 := hbl.cell 0
    have y1 := hbl.cell 1
    simp only [List.getElem?_toArray, List.getElem?_cons_succ, List.getElem?_cons_zero] at y0 y1
    by_cases hlt : k < l.length
    · have hki : (k : Int) < l.length := by omega
      have hxr := hx.mono (Keep.old (S := So) hst (fun b h => hSo b h)) (Keep.old (S := fun b => b < base) hst (fun b h => h))
      obtain ⟨ab, off, v2, rfl, _, q0, q1, hw0, hv⟩ := cell_at hxr.slb (k := k) hlt
      obtain ⟨A2, c2, rfl, _, _, _⟩ := hv.open_
      have hsn := HRS.out k
      have hpk := HPL.out k
      have hal : (ps ++ rowU n (l, wrap) k).length ≤ 1001000000 := by rw [List.length_append]; omega
      have hbl2 := hbl.alloc (.cells #[.int .i64 l[k].1, .slice A2 l[k].2.length c2] 51)
      have z0 := hbl2.cell 0
      have z1 := hbl2.cell 1
      simp only [List.getElem?_toArray, List.getElem?_cons_succ, List.getElem?_cons_zero] at z0 z1
      have hst2 := hst.trans (Step.alloc1 base [87] wr (.cells #[.int .i64 l[k].1, .slice A2 l[k].2.length c2] 51))
      have ho2 := hout.alloc (.cells #[.int .i64 l[k].1, .slice A2 l[k].2.length c2] 51)
      obtain ⟨pd, hpd⟩ : ∃ pd, pd = padB (l, wrap) k := ⟨_, rfl⟩
      have hpa : pieceAt n (l, wrap) k = if l[k].1 ≠ 3 ∧ pd = false then [((n : Int), (k : Int), l[k].2)] else [] := by
        unfold pieceAt
        rw [← hpd, kAt_at _ hlt, tAt_at _ hlt]
      have hpd2 : pd = (wrap && decide (k = l.length - 1) && decide (l[k].1 = 0)) := by rw [hpd]; unfold padB; rw [kAt_at _ hlt]
      rw [hpa] at hsn
      have HSN := hide hsn
      have HPD := hide hpd2
      clear hsn hpa hpd hpd2
      go_upto_region 4 with fail
      go_cut [9] from 14 to 48 (fun s wx => s = .bool pd ∧ wr.alloc (.cells #[.int .i64 l[k].1, .slice A2 l[k].2.length c2] 51) = wx)
      case first =>
        cases wrap with
        | false =>
          have HG : Hid (pd = false) := hide (by rw [HPD.out]; simp)
          go_wp2
          go_meet
          exact ⟨by rw [HG.out], rfl⟩
        | true =>
          by_cases h1 : k = l.length - 1
          · have e1 : ((k : Int) == (l.length : Int) - 1) = true := by simp; omega
            by_cases h0 : l[k].1 = 0
            · have e0 : (l[k].1 == 0) = true := by simpa using h0
              have HG : Hid (pd = true) := hide (by rw [HPD.out, decide_eq_true h1, decide_eq_true h0]; rfl)
              clear h0 h1
              go_wp2
              go_meet
              exact ⟨by rw [HG.out], rfl⟩
            · have e0 : (l[k].1 == 0) = false := by simpa using h0
              have HG : Hid (pd = false) := hide (by rw [HPD.out, decide_eq_false h0]; simp)
              clear h0 h1
              go_wp2
              go_meet
              exact ⟨by rw [HG.out], rfl⟩
          · have e1 : ((k : Int) == (l.length : Int) - 1) = false := by rw [beq_eq_false_iff_ne]; omega
            have HG : Hid (pd = false) := hide (by rw [HPD.out, decide_eq_false h1]; simp)
            clear h1
            go_wp2
            go_meet
            exact ⟨by rw [HG.out], rfl⟩
      case rest =>
      obtain ⟨rfl, rfl⟩ := hcut
      by_cases h3 : l[k].1 = 3
      · have e3 : (l[k].1 != 3) = false := by simp [h3]
        have HS2 : Hid (rowU n (l, wrap) (k + 1) = rowU n (l, wrap) k) := hide (by rw [HSN.out, if_neg (fun h => h.1 h3), List.append_nil])
        clear h3 HSN HPD
        go_wp2
        go_roundw
        case rel => exact ⟨k + 1, by omega, by go_num, by rw [HS2.out]; exact ho2, hbl2, hst2⟩
        case measure => simp [intOf]; omega
      · have e3 : (l[k].1 != 3) = true := by simp [h3]
        cases pd with
        | true =>
          have HS2 : Hid (rowU n (l, wrap) (k + 1) = rowU n (l, wrap) k) := hide (by rw [HSN.out, if_neg (fun h => by cases h.2), List.append_nil])
          clear h3 HSN HPD
          go_wp2
          go_roundw
          case rel => exact ⟨k + 1, by omega, by go_num, by rw [HS2.out]; exact ho2, hbl2, hst2⟩
          case measure => simp [intOf]; omega
        | false =>
          have HS2 : Hid (ps ++ rowU n (l, wrap) (k + 1) = (ps ++ rowU n (l, wrap) k) ++ [((n : Int), (k : Int), l[k].2)]) := hide (by rw [HSN.out, if_pos ⟨h3, rfl⟩, List.append_assoc])
          clear h3 HSN HPD
          have hv3 := hv.mono (Keep.alloc (fun b => b < base) wr (.cells #[.int .i64 l[k].1, .slice A2 l[k].2.length c2] 51)) (Keep.alloc (fun b => b < base) wr (.cells #[.int .i64 l[k].1, .slice A2 l[k].2.length c2] 51))
          have hone : Slc RPiece (fun _ => True) (fun b => b < base) ((wr.alloc (.cells #[.int .i64 l[k].1, .slice A2 l[k].2.length c2] 51)).alloc (.cells #[.int .i64 n, .int .i64 k, .slice A2 l[k].2.length c2] 87)) (.slice (some ⟨wr.heap.size + 1, 0, none⟩) 1 1) [((n : Int), (k : Int), l[k].2)] := by
            have := Slc.lit1 (R := RPiece) (Si := fun b => b < base) (Si' := fun b => b < base) (x := (((n : Int), (k : Int), l[k].2) : PieceV)) 87 (els_piece (wf_i64 (by omega) (by omega)) (wf_i64 (by omega) (by omega)) hv3) (Keep.alloc _ _ _)
            simpa using this
          have ho3 := ho2.alloc (.cells #[.int .i64 n, .int .i64 k, .slice A2 l[k].2.length c2] 87)
          have hst3 := hst2.trans (Step.alloc1 base [87] _ (.cells #[.int .i64 n, .int .i64 k, .slice A2 l[k].2.length c2] 87))
          have hbl3 := hbl2.alloc (.cells #[.int .i64 n, .int .i64 k, .slice A2 l[k].2.length c2] 87)
          go_wp2_with (at_builtin; refine wpList_appg rfl (.tmp 40) (.tmp 46) 84 rfl RPiece 87 [] base 40 _ Tryd.underlying84 piece_info rfl (by decide) (by decide) _ _ rfl ho3 _ _ _ _ rfl hone (fun _ h => .inl h) (by rw [List.length_singleton]; omega) (by simp; omega) ?_; intro v8 w8 hv8 hst8 hg8 hob8)
          go_roundw
          case rel => exact ⟨k + 1, by omega, by go_num, by rw [HS2.out]; exact hv8, hbl3.step hst8 (by decide), hst3.trans hst8⟩
          case measure => simp [intOf]; omega
    · obtain rfl : k = l.length := by omega
      go_wp2
      go_ret
      exact ⟨_, rfl, hout, hst⟩
end Go.Proofs.YtejhaepgbfngcaaDoor
