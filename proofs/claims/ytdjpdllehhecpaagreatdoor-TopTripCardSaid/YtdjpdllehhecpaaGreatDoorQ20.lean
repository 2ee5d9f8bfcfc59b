import Derived.Test.YtdjpdllehhecpaaGreatDoorQ19
import Derived.Test.YtdjpdllehhecpaaGreatDoorQ16
import Derived.Deep.Cut
open List renaming getElem?_toArray → zA, getElem?_cons_succ → zB, getElem?_cons_zero → zC, setIfInBounds_toArray → zD, set_cons_zero → zE, set_cons_succ → zF
namespace Go.Proofs.YtdjpdllehhecpaaGreatDoor
open Go.RowKit
set_option linter.unusedVariables false
set_option linter.unusedSimpArgs false
def rowK (l m : List CellV) (a k : Nat) : List CellV := l.take a ++ m.take k ++ l.drop (a + k)
theorem rowK_len {l m : List CellV} {a k : Nat} (hk : k ≤ m.length) (ha : a + m.length ≤ l.length) : (rowK l m a k).length = l.length := by unfold rowK; simp; omega
theorem rowK_zero (l m : List CellV) (a : Nat) : rowK l m a 0 = l := by unfold rowK; simp
theorem rowK_step {l m : List CellV} {a k : Nat} (hk : k < m.length) (ha : a + m.length ≤ l.length) : (rowK l m a k).set (a + k) m[k] = rowK l m a (k + 1) := by
  unfold rowK
  rw [List.append_assoc, List.set_append_right _ _ (by simp; omega), List.set_append_right _ _ (by simp; omega), take_snoc' m k hk, List.append_assoc, List.append_assoc]
  congr 2
  have e1 : a + k - (l.take a).length - (m.take k).length = 0 := by simp; omega
  rw [e1]
  have e2 : l.drop (a + k) = l[a + k]'(by omega) :: l.drop (a + k + 1) := List.drop_eq_getElem_cons (by omega)
  rw [e2]
  simp [Nat.add_assoc]
set_option maxHeartbeats 1000000 in
theorem Paint_ok (b c : Nat) (l m : List CellV) (wrap : Bool) (a base : Nat) (x : Value) (w : World) (h : RowQ w b c l wrap) (hx : Own2 RCell 86 [21] base 0 w x m) (hb : b < base) (hc : c < base) (hll : l.length ≤ 100000)
    (h0 : 0 < m.length) (ha : a + m.length ≤ l.length) (hs : soundB m = true) (hk0 : kindI l (a : Int) ≠ 3) (hk1 : kindI l ((a + m.length : Nat) : Int) ≠ 3) :
    Calls Tryz.prog 168 #[ptrB b, .int .i64 a, x] w fun e w' => e = .returned .nilIface ∧ RowQ w' b c (paintL a m (l, wrap)).1 (paintL a m (l, wrap)).2 ∧ Chg (fun j => j = b ∨ j = c) w w' := by
  have hsl := hx.slc
  obtain ⟨A, n, hA, hc1, hc2, _⟩ := hsl.open_
  subst hA
  have hS := Sound_ok _ _ _ m w hsl
  rw [hs] at hS
  have HS := hide hS
  have HK0 := hide (fun W hq => kind_ok b c l wrap a W hq (by omega))
  have HK1 := hide (fun W hq => kind_ok b c l wrap (a + m.length) W hq (by omega))
  obtain ⟨cap, k1, hcp1, hcp2, -⟩ := h.at_ (i := a) (by omega)
  have x0 := k1.cell 0
  have hbl := k1.lt
  simp only [List.getElem?_toArray, List.getElem?_cons_zero] at x0
  have hne : b ≠ c := by
    rintro rfl
    obtain ⟨_, _, k2⟩ := h.blk
    exact absurd (k1.typ k2) (by decide)
  obtain ⟨q0, hq0⟩ : ∃ q, kindI l (a : Int) = q := ⟨_, rfl⟩
  obtain ⟨q1, hq1⟩ : ∃ q, kindI l ((a + m.length : Nat) : Int) = q := ⟨_, rfl⟩
  rw [hq0] at HK0 hk0
  rw [hq1] at HK1 hk1
  have m0 : (q0 == 3) = false := by simpa using hk0
  have m1 : (q1 == 3) = false := by simpa using hk1
  obtain ⟨wr2, hw2⟩ : ∃ wr2, (if a + m.length = l.length then false else wrap) = wr2 := ⟨_, rfl⟩
  have HW2 := hide hw2
  have hpt : (paintL a m (l, wrap)) = (rowK l m a m.length, wr2) := by rw [← hw2]; unfold paintL rowK; rw [List.take_length]
  rw [hpt]
  obtain ⟨L, hL⟩ : ∃ L, l.length = L := ⟨_, rfl⟩
  obtain ⟨M, hM⟩ : ∃ M, m.length = M := ⟨_, rfl⟩
  have HL := hide hL
  have HM := hide hM
  have HQ := hide h
  have HSL := hide hsl
  have HSM := hide (sound_len hs)
  rw [hL] at x0
  rw [hM] at HS HK1 h0 hc1 ⊢
  have hML : a + M ≤ L := by omega
  have hLL : L ≤ 100000 := by omega
  have d1 : a ≤ L := by omega
  have d2 : decide ((L : Int) - a < M) = false := decide_eq_false (by omega)
  have hwr : IntKind.i64.wrap ((L : Int) - a) = L - a := IntWalk.i64_in _ (by omega)
  have hwr2 : IntKind.i64.wrap ((a : Int) + M) = ((a + M : Nat) : Int) := by rw [IntWalk.i64_in _ (by omega)]; omega
  have hm0 : ((M : Int) == 0) = false := by rw [beq_eq_false_iff_ne]; omega
  dsimp only
  clear hpt hw2 hk0 hk1 hq0 hq1 hS hs h hx k1 hsl hL hM ha hc2
  unfold ptrB at HK0 HK1 ⊢
  go_enter Tryz.func168, Tryz.ntmps168
  go_upto_region 3 with fail
  go_wp2_with fail
  refine HS.out.mono ?_
  rintro e w1 ⟨rfl, hb1⟩
  have hq1 := HQ.out.below hb1
  have hk0 := HK0.out w1 hq1
  have hk1 := HK1.out w1 hq1
  go_wp2_with fail
  refine hk0.mono ?_
  rintro e w2 ⟨rfl, rfl⟩
  go_wp2_with fail
  refine hk1.mono ?_
  rintro e w2 ⟨rfl, rfl⟩
  have HQ1 := hide hq1
  have HB1 := hide hb1
  clear hk0 hk1 hq1 hb1
  go_wp2
  have HNT : Hid (∀ j, (j = b ∨ j = c) → ¬ Bears [21] w j) := hide (fun j hj => by
    obtain ⟨⟨_, kb⟩, _, kc⟩ := HQ.out.blk
    rcases hj with rfl | rfl
    · exact kb.bearsNo (by decide)
    · exact kc.bearsNo (by decide))
  have hcl := HQ.out.lt.2
  go_loopw [71] (fun i wr => ∃ k : Nat, k ≤ M ∧ i = .int .i64 k ∧ RowQ wr b c (rowK l m a k) (if a + k = L then false else wrap) ∧ Chg (fun j => j = b ∨ j = c) w wr) (fun i _ => M - (intOf i).toNat)
  case atStart =>
    refine ⟨0, Nat.zero_le _, rfl, ?_, Chg.of_below HB1.out⟩
    rw [rowK_zero, if_neg (by omega)]
    exact HQ1.out
  case round =>
    obtain ⟨k, hk, rfl, hq, hch⟩ := hrel
    by_cases hlt : k < M
    · have hlm : k < m.length := by rw [HM.out]; exact hlt
      have hsl := HSL.out.mono (hch.keep (fun j hj e => by have := hj.2.1; rcases e with rfl | rfl <;> omega)) (hch.keepT HNT.out)
      obtain ⟨ab, off, v, rfl, _, q0, q1, hw, hv⟩ := cell_at hsl.slb hlm
      obtain ⟨A', c', rfl, hd1, hd2, _⟩ := hv.open_
      have hln := HSM.out m[k] (List.getElem_mem _)
      have HST := hide (rowK_step hlm (show a + m.length ≤ l.length by rw [HM.out, HL.out]; omega))
      have HRL := hide (rowK_len (l := l) (m := m) (a := a) (k := k) (by rw [HM.out]; omega) (show a + m.length ≤ l.length by rw [HM.out, HL.out]; omega))
      obtain ⟨mk, hmk⟩ : ∃ mk, m[k] = mk := ⟨_, rfl⟩
      rw [hmk] at q0 q1 hw hv hln HST
      obtain ⟨kk, tt⟩ := mk
      simp only at q0 q1 hw hv hln
      have hkm : (k : Int) < M := by omega
      have hwr3 : IntKind.i64.wrap ((a : Int) + k) = ((a + k : Nat) : Int) := by rw [IntWalk.i64_in _ (by omega)]; omega
      obtain ⟨wk, hwk⟩ : ∃ wk, (if a + k = L then false else wrap) = wk := ⟨_, rfl⟩
      rw [hwk] at hq
      have hwk2 : wk = wrap := by rw [← hwk, if_neg (by omega)]
      subst hwk2
      have HP := hide (put_ok b c (rowK l m a k) wk (a + k) (Typed 0 [21] wr) (Typed 0 [21] wr) kk (.slice A' tt.length c') tt (wr.alloc (.cells #[.int .i64 kk, .slice A' tt.length c'] 86))
        (hq.chg (S := fun _ => False) ((Chg.refl _ wr).alloc _) id id (fun _ e => e.elim)) (by rw [HRL.out, HL.out]; omega) (by rw [HRL.out]; exact hll) hw (hv.ints_keep (Keep.alloc _ wr _)) (by omega))
      have HCH := hide hch
      clear hq hch hv hwk hsl hmk hln hw
      go_wp2_with fail
      refine HP.out.mono ?_
      rintro e w3 ⟨⟨r3, rfl⟩, hq3, hch3⟩
      rw [HST.out, HRL.out, HL.out] at hq3
      have HQ3 := hide hq3
      have HCH3 := hide (((HCH.out.alloc (.cells #[.int .i64 kk, .slice A' tt.length c'] 86))).trans hch3)
      clear hq3 hch3
      go_wp2
      go_roundw
      case rel => exact ⟨k + 1, by omega, by go_num, HQ3.out, HCH3.out⟩
      case measure => simp [intOf]; omega
    · obtain rfl : k = M := by omega
      have e1 : (if a + k = L then false else wrap) = wr2 := by rw [← HW2.out, HM.out, HL.out]
      rw [e1] at hq
      have HQF := hide hq
      have HCF := hide hch
      clear hq hch e1
      go_wp2
      go_ret
      exact ⟨rfl, HQF.out, HCF.out⟩
end Go.Proofs.YtdjpdllehhecpaaGreatDoor
namespace Go.Proofs.YtdjpdllehhecpaaGreatDoor
open Go.RowKit
set_option linter.unusedVariables false
set_option linter.unusedSimpArgs false
set_option maxHeartbeats 1000000 in
theorem RCellAt_ok (b c : Nat) (l : List CellV) (wrap : Bool) (i : Nat) (kk : Int) (tt : List Int) (w : World) (h : RowQ w b c l wrap) (hi : i < l.length) (hkt : l[i] = (kk, tt)) (hln : tt.length ≤ 16) :
    Calls Tryz.prog 204 #[ptrB b, .int .i64 i] w fun e w' => ∃ v, e = .returned (.tuple #[.agg #[.int .i64 kk, v], .bool true]) ∧ Own (Rep.int .i32) 21 [] w.heap.size w' v tt ∧ Below w.heap.size w w' := by
  have HW := hide (fun W (hq : RowQ W b c l wrap) => Wide_ok 0 (ptrB b) l wrap W hq.rowIs)
  obtain ⟨cap, k1, hcp1, hcp2, v, q0, q1, hw, hv⟩ := h.at_ hi
  rw [hkt] at q0 hw hv
  simp only at q0 hw hv
  obtain ⟨A, n, rfl, hc1, hc2, _⟩ := hv.open_
  have hh := h.chg (S := fun _ => False) ((Chg.refl _ w).alloc (.cells #[.int .i64 0, .slice none 0 0] 86)) id id (fun _ e => e.elim)
  have hO := own_ok _ _ kk _ tt _ (hv.ints_keep (Keep.alloc _ w (.cells #[.int .i64 0, .slice none 0 0] 86))) (by omega)
  have hR := Blk.new w 86 #[.int .i64 0, .slice none 0 0]
  have x0 := k1.cell 0
  simp only [zA, zB, zC] at x0
  have hbl := k1.lt
  have hcl := h.lt.2
  have d0 : decide ((i : Int) < 0) = false := decide_eq_false (by omega)
  have hli : (i : Int) < l.length := by omega
  have HO := hide hO
  have HR := hide hR
  have HH := hide (HW.out _ hh)
  obtain ⟨L, hL⟩ : ∃ L, l.length = L := ⟨_, rfl⟩
  rw [hL] at x0 hli HH
  clear hO hR hh h hkt hv k1 hw hL HW
  unfold ptrB at HH ⊢
  go_enter Tryz.func204, Tryz.ntmps204
  go_wp2_with fail
  refine HH.out.mono ?_
  rintro e w1 ⟨rfl, rfl⟩
  go_wp2_with fail
  refine HO.out.mono ?_
  rintro e w3 ⟨v3, rfl, hv3, hb3⟩
  obtain ⟨A3, c3, rfl, _, _, _⟩ := hv3.islc.open_
  have hR3 := HR.out.same hb3
  have hz3 := hb3.size
  have f0 := hR3.frozen 0
  have f1 := hR3.frozen 1
  have e0 := hR3.cell 0
  have e1 := hR3.cell 1
  simp only [zA, zB, zC] at e0 e1
  have HV3 := hide hv3
  have HR3 := hide hR3
  have HB3 := hide (((Below.refl _ w).alloc (Nat.le_refl _) _).trans (hb3.mono (by simp)))
  clear hv3 hR3 hb3
  go_wp2
  have hx := (HR3.out.set_ 0 (.int .i64 kk)).set_ 1 (.slice A3 tt.length c3)
  have x0 := hx.cell 0
  have x1 := hx.cell 1
  simp only [zD, zE, zF, zA, zB, zC] at x0 x1
  have hst : Step w.heap.size [86] w3 ((w3.setCell ⟨w.heap.size, 0, none⟩ (.int .i64 kk)).setCell ⟨w.heap.size, 1, none⟩ (.slice A3 tt.length c3)) := ((Step.refl w.heap.size [86] w3).setCell (p := ⟨w.heap.size, 0, none⟩) (Nat.le_refl _) HR3.out.bears (.int .i64 kk)).setCell (p := ⟨w.heap.size, 1, none⟩) (Nat.le_refl _) (HR3.out.set_ 0 _).bears (.slice A3 tt.length c3)
  refine bodyPost_ret (v := .tuple #[.agg #[.int .i64 kk, .slice A3 tt.length c3], .bool true]) (by simp [results, Tryz.results204, go_sem, x0, x1]) rfl ⟨_, rfl, (HV3.out.ints_step hst (by decide)).ints_base (by simp) (by simp), HB3.out.trans (hst.below (by have := HR3.out.lt; omega))⟩
set_option maxHeartbeats 1000000 in
theorem At_ok (b c : Nat) (l : List CellV) (wrap : Bool) (i : Nat) (kk : Int) (tt : List Int) (w : World) (h : RowQ w b c l wrap) (hi : i < l.length) (hkt : l[i] = (kk, tt)) (hln : tt.length ≤ 16) (hk : kk = 1 ∨ kk = 2) :
    Calls Tryz.prog 196 #[ptrB b, .int .i64 i] w fun e w' => ∃ v, e = .returned (.tuple #[.int .i64 i, .agg #[.int .i64 kk, v], .bool true]) ∧ Own (Rep.int .i32) 21 [] w.heap.size w' v tt ∧ Below w.heap.size w w' := by
  have hh := h.chg (S := fun _ => False) ((Chg.refl _ w).alloc (.cells #[.int .i64 0, .slice none 0 0] 150)) id id (fun _ e => e.elim)
  have HC := hide (RCellAt_ok b c l wrap i kk tt _ hh hi hkt hln)
  have HR := hide (Blk.new w 150 #[.int .i64 0, .slice none 0 0])
  clear h hh hkt
  unfold ptrB at HC ⊢
  rcases hk with rfl | rfl
  · go_enter Tryz.func196, Tryz.ntmps196
    go_wp2_with fail
    refine HC.out.mono ?_
    rintro e w3 ⟨v3, rfl, hv3, hb3⟩
    obtain ⟨A3, c3, rfl, _, _, _⟩ := hv3.islc.open_
    have hR3 := HR.out.same hb3
    have hz3 := hb3.size
    have hwl : w.heap.size < w3.heap.size := hR3.lt
    have f0 := hR3.frozen 0
    have f1 := hR3.frozen 1
    have e0 := hR3.cell 0
    have e1 := hR3.cell 1
    simp only [zA, zB, zC] at e0 e1
    have HV3 := hide hv3
    have HR3 := hide hR3
    have HB3 := hide (((Below.refl _ w).alloc (Nat.le_refl _) _).trans (hb3.mono (by simp)))
    clear hv3 hR3 hb3
    go_wp2
    go_region
    go_wp2
    have hx := (((HR3.out.set_ 0 (.int .i64 1)).set_ 1 (.slice A3 tt.length c3)).alloc (.cells #[.int .i64 1, .slice A3 tt.length c3] 86)).dr
    have x0 := hx.cell 0
    have x1 := hx.cell 1
    simp only [zD, zE, zF, zA, zB, zC] at x0 x1
    have hst : Step w.heap.size [150] w3 ((((w3.setCell ⟨w.heap.size, 0, none⟩ (.int .i64 1)).setCell ⟨w.heap.size, 1, none⟩ (.slice A3 tt.length c3)).alloc (.cells #[.int .i64 1, .slice A3 tt.length c3] 86)).drew) := ((((Step.refl w.heap.size [150] w3).setCell (p := ⟨w.heap.size, 0, none⟩) (Nat.le_refl _) HR3.out.bears (.int .i64 1)).setCell (p := ⟨w.heap.size, 1, none⟩) (Nat.le_refl _) (HR3.out.set_ 0 _).bears (.slice A3 tt.length c3)).alloc _).drew
    refine bodyPost_ret (v := .tuple #[.int .i64 i, .agg #[.int .i64 1, .slice A3 tt.length c3], .bool true]) (by simp [results, Tryz.results196, go_sem, x0, x1]) rfl ⟨_, rfl, (HV3.out.ints_step hst (by decide)).ints_base (by simp) (by simp), HB3.out.trans (hst.below (by omega))⟩
  · go_enter Tryz.func196, Tryz.ntmps196
    go_wp2_with fail
    refine HC.out.mono ?_
    rintro e w3 ⟨v3, rfl, hv3, hb3⟩
    obtain ⟨A3, c3, rfl, _, _, _⟩ := hv3.islc.open_
    have hR3 := HR.out.same hb3
    have hz3 := hb3.size
    have hwl : w.heap.size < w3.heap.size := hR3.lt
    have f0 := hR3.frozen 0
    have f1 := hR3.frozen 1
    have e0 := hR3.cell 0
    have e1 := hR3.cell 1
    simp only [zA, zB, zC] at e0 e1
    have HV3 := hide hv3
    have HR3 := hide hR3
    have HB3 := hide (((Below.refl _ w).alloc (Nat.le_refl _) _).trans (hb3.mono (by simp)))
    clear hv3 hR3 hb3
    go_wp2
    go_region
    go_wp2
    have hx := (((HR3.out.set_ 0 (.int .i64 2)).set_ 1 (.slice A3 tt.length c3)).alloc (.cells #[.int .i64 2, .slice A3 tt.length c3] 86)).dr
    have x0 := hx.cell 0
    have x1 := hx.cell 1
    simp only [zD, zE, zF, zA, zB, zC] at x0 x1
    have hst : Step w.heap.size [150] w3 ((((w3.setCell ⟨w.heap.size, 0, none⟩ (.int .i64 2)).setCell ⟨w.heap.size, 1, none⟩ (.slice A3 tt.length c3)).alloc (.cells #[.int .i64 2, .slice A3 tt.length c3] 86)).drew) := ((((Step.refl w.heap.size [150] w3).setCell (p := ⟨w.heap.size, 0, none⟩) (Nat.le_refl _) HR3.out.bears (.int .i64 2)).setCell (p := ⟨w.heap.size, 1, none⟩) (Nat.le_refl _) (HR3.out.set_ 0 _).bears (.slice A3 tt.length c3)).alloc _).drew
    refine bodyPost_ret (v := .tuple #[.int .i64 i, .agg #[.int .i64 2, .slice A3 tt.length c3], .bool true]) (by simp [results, Tryz.results196, go_sem, x0, x1]) rfl ⟨_, rfl, (HV3.out.ints_step hst (by decide)).ints_base (by simp) (by simp), HB3.out.trans (hst.below (by omega))⟩
theorem MPut_ok (b c : Nat) (l : List CellV) (wrap : Bool) (a n : Nat) (So Si : Nat → Prop) (x : Value) (t : List Int) (w : World) (h : RowQ w b c l wrap) (hn : n = 1 ∨ n = 2) (hx : Slc (Rep.int .i32) So Si w x t) (ht : TxOk t) (hll : l.length ≤ 100000)
    (ha : a + n ≤ l.length) (hk0 : kindI l (a : Int) ≠ 3) (hk1 : kindI l ((a + n : Nat) : Int) ≠ 3) :
    Calls Tryz.prog 194 #[ptrB b, .int .i64 a, .int .i64 n, x] w fun e w' => e = .returned .nilIface ∧ RowQ w' b c (paintL a (stripF n t) (l, wrap)).1 (paintL a (stripF n t) (l, wrap)).2 ∧ Chg (fun j => j = b ∨ j = c) w w' := by
  have hO := Of2_ok So Si x t (n : Int) w (wf_i64 (by omega) (by omega)) hx (by have := ht.2.1; omega)
  rw [of_strip hn ht] at hO
  have hsl := strip_len hn t
  have hsnd : soundB (stripF n t) = true := by
    have := sound_strips (Strips.one hn ht) 0
    simpa [blankL] using this
  have HO := hide hO
  have HP := hide (fun (v : Value) (W : World) hq (hv : Own2 RCell 86 [21] w.heap.size 0 W v (stripF n t)) => Paint_ok b c l (stripF n t) wrap a w.heap.size v W hq hv h.lt.1 h.lt.2 hll (by rw [hsl]; omega) (by rw [hsl]; exact ha) hsnd hk0 (by rw [hsl]; exact hk1))
  obtain ⟨pl, hpl⟩ : ∃ pl, paintL a (stripF n t) (l, wrap) = pl := ⟨_, rfl⟩
  rw [hpl] at HP ⊢
  obtain ⟨A, nn, rfl, _, _, _⟩ := hx.open_
  have HQ := hide h
  clear hO hsl hsnd hpl hk0 hk1 h hx ha
  unfold ptrB at HP ⊢
  go_enter Tryz.func194, Tryz.ntmps194
  go_wp2_with fail
  refine HO.out.mono ?_
  rintro e w1 ⟨v1, rfl, hv1, hb1⟩
  have hP := HP.out v1 w1 (HQ.out.below hb1) hv1
  obtain ⟨A1, c1, rfl, _, _, _⟩ := hv1.slc.open_
  have HPP := hide hP
  have HB := hide hb1
  clear hv1 hP hb1
  go_wp2_with fail
  refine HPP.out.mono ?_
  rintro e w2 ⟨rfl, hq2, hch2⟩
  have HQ2 := hide hq2
  have HC2 := hide ((Chg.of_below HB.out).trans hch2)
  clear hq2 hch2
  go_wp2
  go_ret
  exact ⟨rfl, HQ2.out, HC2.out⟩
set_option maxHeartbeats 1000000 in
theorem Add_ok (b c : Nat) (l : List CellV) (wrap : Bool) (i : Nat) (n : Nat) (t : List Int) (r : Int) (w : World) (h : RowQ w b c l wrap) (hi : i + n ≤ l.length) (hn : n = 1 ∨ n = 2) (hkt : l[i]? = some ((n : Int), t)) (ht : TxOk (t ++ [r])) (hll : l.length ≤ 100000) (hwf : (Lit.int .i32 r).wf = true)
    (hk1 : kindI l ((i + n : Nat) : Int) ≠ 3) :
    Calls Tryz.prog 167 #[ptrB b, .int .i64 i, .int .i32 r] w fun e w' => (∃ v, e = .returned v) ∧ RowQ w' b c (paintL i (stripF n (t ++ [r])) (l, wrap)).1 (paintL i (stripF n (t ++ [r])) (l, wrap)).2 ∧ Chg (fun j => j = b ∨ j = c) w w' := by
  have hil : i < l.length := by omega
  have hkt2 : l[i] = ((n : Int), t) := by
    rw [List.getElem?_eq_getElem hil] at hkt
    injection hkt
  have hlt : t.length < 16 := by
    have := ht.2.1
    rw [List.length_append, List.length_singleton] at this
    omega
  have hk0 : kindI l (i : Int) ≠ 3 := by
    rw [kindI_at l i hil, hkt2]
    show (n : Int) ≠ 3
    omega
  have HA := hide (At_ok b c l wrap i (n : Int) t w h hil hkt2 (by omega) (by omega))
  have HP := hide (fun So Si (v : Value) (W : World) hq hv => MPut_ok b c l wrap i n So Si v (t ++ [r]) W hq hn hv ht hll hi hk0 hk1)
  obtain ⟨pl, hpl⟩ : ∃ pl, paintL i (stripF n (t ++ [r])) (l, wrap) = pl := ⟨_, rfl⟩
  rw [hpl] at HP ⊢
  have HQ := hide h
  have hlt2 : t.length ≤ 15 := by omega
  have hge : decide ((16 : Int) ≤ t.length) = false := decide_eq_false (by omega)
  obtain ⟨N, hN⟩ : ∃ N : Int, (n : Int) = N := ⟨_, rfl⟩
  rw [hN] at HA HP
  clear hpl hk0 hk1 h hkt hkt2 hN ht
  unfold ptrB at HA HP ⊢
  go_enter Tryz.func167, Tryz.ntmps167
  go_wp2_with fail
  refine HA.out.mono ?_
  rintro e w1 ⟨v1, rfl, hv1, hb1⟩
  obtain ⟨A1, c1, rfl, _, _, _⟩ := hv1.islc.open_
  obtain ⟨W2, hW2⟩ : ∃ W2, w1.alloc (.cells #[.int .i64 N, .slice A1 t.length c1] 150) = W2 := ⟨_, rfl⟩
  have hI2 : Blk W2 w1.heap.size 150 #[.int .i64 N, .slice A1 t.length c1] := by rw [← hW2]; exact Blk.new w1 _ _
  have hv2 : Own (Rep.int .i32) 21 [] w.heap.size W2 (.slice A1 t.length c1) t := by rw [← hW2]; exact hv1.alloc _
  have hb2 : Below w.heap.size w W2 := by rw [← hW2]; exact hb1.alloc hb1.size _
  have e0 := hI2.cell 0
  have e1 := hI2.cell 1
  simp only [zA, zB, zC] at e0 e1
  have HW2 := hide hW2
  have HV2 := hide hv2
  have HB2 := hide hb2
  have HI2 := hide hI2
  have hz2 := hb2.size
  have hz1 := hb1.size
  have hne1 : w1.heap.size < W2.heap.size := by rw [← hW2, World.size_alloc]; omega
  clear hW2 hv1 hv2 hb1 hb2 hI2
  go_upto_region 2 with fail
  rw [HW2.out]
  go_upto_region 4 with fail
  refine wp_region_late (S := fun w' => w'.cell? ⟨w1.heap.size, 0, none⟩ = some (.int .i64 N) ∧ w'.cell? ⟨w1.heap.size, 1, none⟩ = some (.slice A1 t.length c1)) [11] (by kernel_rfl) (by exact ⟨e0, e1⟩) (fun hHeld => ?_)
  refine wpAnyT_take (i := 0) (oi := ?_) (v := ?_) ?_ (by kernel_rfl) (by kernel_rfl) (by kernel_rfl) (by kernel_rfl) (by kernel_rfl) ?_ (Or.inl ⟨?_, ?_⟩) (by assumption) ?_
  rotate_left 2
  · (simp only [zA, zB, zC]; rfl)
  rotate_left 1
  · rfl
  · (intro w hSw; (try dsimp only at hSw); go_simp; try with_reducible rfl)
  rotate_left 1
  · exact fun _ _ _ h => h
  try simp only [Act.put, zD, zE, zF]
  refine wpAnyT_take (i := 1) (oi := ?_) (v := ?_) ?_ (by kernel_rfl) (by kernel_rfl) (by kernel_rfl) (by kernel_rfl) (by kernel_rfl) ?_ (Or.inl ⟨?_, ?_⟩) (by assumption) ?_
  rotate_left 2
  · (simp only [zA, zB, zC]; rfl)
  rotate_left 1
  · rfl
  · (intro w hSw; (try dsimp only at hSw); go_simp; try with_reducible rfl)
  rotate_left 1
  · exact fun _ _ _ h => h
  try simp only [Act.put, zD, zE, zF]
  refine wpAnyT_take (i := 2) (oi := ?_) (v := ?_) ?_ (by kernel_rfl) (by kernel_rfl) (by kernel_rfl) (by kernel_rfl) (by kernel_rfl) ?_ (Or.inl ⟨?_, ?_⟩) (by assumption) ?_
  rotate_left 2
  · (simp only [zA, zB, zC]; rfl)
  rotate_left 1
  · rfl
  · (intro w hSw; (try dsimp only at hSw); go_simp; try with_reducible rfl)
  rotate_left 1
  · exact fun _ _ _ h => h
  try simp only [Act.put, zD, zE, zF]
  refine wpAnyT_take (i := 3) (oi := ?_) (v := ?_) ?_ (by kernel_rfl) (by kernel_rfl) (by kernel_rfl) (by kernel_rfl) (by kernel_rfl) ?_ (Or.inl ⟨?_, ?_⟩) (by assumption) ?_
  rotate_left 2
  · (simp only [zA, zB, zC]; rfl)
  rotate_left 1
  · rfl
  · (intro w hSw; (try dsimp only at hSw); go_simp; try with_reducible rfl)
  rotate_left 1
  · exact fun _ _ _ h => h
  try simp only [Act.put, zD, zE, zF]
  refine wpAnyT_take (i := 4) (oi := ?_) (v := ?_) ?_ (by kernel_rfl) (by kernel_rfl) (by kernel_rfl) (by kernel_rfl) (by kernel_rfl) ?_ (Or.inl ⟨?_, ?_⟩) (by assumption) ?_
  rotate_left 2
  · (simp only [zA, zB, zC]; rfl)
  rotate_left 1
  · rfl
  · (intro w hSw; (try dsimp only at hSw); go_simp; try with_reducible rfl)
  rotate_left 1
  · exact fun _ _ _ h => h
  try simp only [Act.put, zD, zE, zF]
  refine wpAnyT_take (i := 5) (oi := ?_) (v := ?_) ?_ (by kernel_rfl) (by kernel_rfl) (by kernel_rfl) (by kernel_rfl) (by kernel_rfl) ?_ (Or.inl ⟨?_, ?_⟩) (by assumption) ?_
  rotate_left 2
  · (simp only [zA, zB, zC]; rfl)
  rotate_left 1
  · rfl
  · (intro w hSw; (try dsimp only at hSw); go_simp; try with_reducible rfl)
  rotate_left 1
  · exact fun _ _ _ h => h
  try simp only [Act.put, zD, zE, zF]
  refine wpAnyT_take (i := 6) (oi := ?_) (v := ?_) ?_ (by kernel_rfl) (by kernel_rfl) (by kernel_rfl) (by kernel_rfl) (by kernel_rfl) ?_ (Or.inl ⟨?_, ?_⟩) (by assumption) ?_
  rotate_left 2
  · (simp only [zA, zB, zC]; rfl)
  rotate_left 1
  · rfl
  · (intro w hSw; (try dsimp only at hSw); go_simp; try with_reducible rfl)
  rotate_left 1
  · exact fun _ _ _ h => h
  try simp only [Act.put, zD, zE, zF]
  refine wpAnyT_ready (rs := [7]) (by kernel_rfl) (by simp) ?_
  refine AllReadyT.cons (o := ?_) ?_ (fun K hK => ?_) AllReadyT.nil
  rotate_left 1
  · (simp only [zA, zB, zC]; rfl)
  go_simp
  have HONE := hide (own_dr (own_i32 W2 [r] (by intro m hm; rw [List.mem_singleton] at hm; subst hm; exact hwf) W2.heap.size W2.heap.size 1 (Nat.le_refl _) rfl rfl (by simp [maxLen])))
  refine hK.out _ _ ?_ (fun hHeld => ?_)
  · ((try dsimp only); go_keep)
  clear hK K
  try simp only [Act.put, zD, zE, zF]
  refine wpAnyT_ready (rs := [8]) (by kernel_rfl) (by simp) ?_
  refine AllReadyT.cons (o := ?_) ?_ (fun K hK => ?_) AllReadyT.nil
  rotate_left 1
  · (simp only [zA, zB, zC]; rfl)
  refine step_appg rfl (.tmp 30) (.tmp 32) 24 rfl (Rep.int .i32) 21 [] w.heap.size 4 _ Tryz.underlying24 i32_info rfl (by decide) (by decide) _ _ rfl (own_dr (HV2.out.alloc _)) _ (fun _ => False) _ _ rfl (HONE.out.islc.flat_any (Flat.int .i32) _) (fun _ h => h.elim) (by simp; omega) (by show w.heap.size ≤ (World.alloc W2 _).heap.size; simp; omega) ?_; intro v3 w3 hv3 hst3 hg3 ho3; have hi3 := ((HI2.out.alloc (.cells #[.int .i32 r] 21)).dr).step hst3 (by decide); have q0 := hi3.cell 0; have q1 := hi3.cell 1; simp only [zA, zB, zC] at q0 q1; have hb3 : Below w.heap.size w w3 := (below_dr (HB2.out.alloc hz2 (.cells #[.int .i32 r] 21))).trans (hst3.below (by show w.heap.size ≤ (World.alloc W2 _).heap.size; simp; omega)); have HI3 := hide hi3; have HB3 := hide hb3; have HV3 := hide hv3; clear hi3 hb3 hv3 hst3 hg3 ho3
  refine hK.out _ _ ?_ (fun hHeld => ?_)
  · ((try dsimp only); go_keep)
  clear hK K
  try simp only [Act.put, zD, zE, zF]
  refine wpAnyT_ready (rs := [9]) (by kernel_rfl) (by simp) ?_
  refine AllReadyT.cons (o := ?_) ?_ (fun K hK => ?_) AllReadyT.nil
  rotate_left 1
  · (simp only [zA, zB, zC]; rfl)
  go_simp
  (go_at_call 194; refine (HP.out _ _ v3 w3 (HQ.out.chg (S := fun _ => False) (Chg.of_below HB3.out) id id (fun _ e => e.elim)) HV3.out.islc).mono ?_; rintro e w4 ⟨rfl, hq4, hch4⟩; have hbw := HQ.out.lt; have hi4 := hch4.blk HI3.out (by rintro (e | e) <;> omega); have q0 := hi4.cell 0; have q1 := hi4.cell 1; simp only [zA, zB, zC] at q0 q1; have HQ4 := hide hq4; have HC4 := hide ((Chg.of_below HB3.out).trans hch4); clear hq4 hch4 hi4)
  refine hK.out _ _ ?_ (fun hHeld => ?_)
  · ((try dsimp only); go_keep)
  clear hK K
  try simp only [Act.put, zD, zE, zF]
  refine wpAnyT_take (i := 10) (oi := ?_) (v := ?_) ?_ (by kernel_rfl) (by kernel_rfl) (by kernel_rfl) (by kernel_rfl) (by kernel_rfl) ?_ (Or.inl ⟨?_, ?_⟩) (by assumption) ?_
  rotate_left 2
  · (simp only [zA, zB, zC]; rfl)
  rotate_left 1
  · rfl
  · (intro w hSw; (try dsimp only at hSw); go_simp; try with_reducible rfl)
  rotate_left 1
  · exact fun _ _ _ h => h
  try simp only [Act.put, zD, zE, zF]
  refine wpAnyT_ready (rs := [11]) (by kernel_rfl) (by simp) ?_
  refine AllReadyT.consL (o := ?_) ?_ (by kernel_rfl) (fun K hK => ?_) AllReadyT.nil
  rotate_left 1
  · (simp only [zA, zB, zC]; rfl)
  go_simp
  refine hK.out _ _ ?_
  clear hK K
  try simp only [Act.put, zD, zE, zF]
  refine wpAnyT_done (by kernel_rfl) ?_ _
  clear hHeld q0 q1
  go_wp2
  go_ret
  exact ⟨⟨_, rfl⟩, HQ4.out, HC4.out⟩
end Go.Proofs.YtdjpdllehhecpaaGreatDoor
