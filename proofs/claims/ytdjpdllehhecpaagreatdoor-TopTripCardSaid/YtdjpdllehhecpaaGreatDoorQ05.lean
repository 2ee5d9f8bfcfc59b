import Derived.Test.YtdjpdllehhecpaaGreatDoorChecked
import Derived.Test.YtdjpdllehhecpaaGreatDoorQ03
import Derived.Test.YtdjpdllehhecpaaGreatDoorQ02
import Derived.Test.YtdjpdllehhecpaaGreatDoorQ00
import Derived.RegionTactic
open List renaming getElem?_toArray → zA, getElem?_cons_succ → zB, getElem?_cons_zero → zC, setIfInBounds_toArray → zD, set_cons_zero → zE, set_cons_succ → zF
namespace Go.Proofs.YtdjpdllehhecpaaGreatDoor
open Go.RowKit
set_option linter.unusedVariables false
theorem u8_info : (Tryz.prog.info? 5).map (fun i => (i.zero, i.size, i.bytes)) = some (some (.int .u8 0), 1, 1) := by kernel_rfl
theorem i32_info : (Tryz.prog.info? 21).map (fun i => (i.zero, i.size, i.bytes)) = some (some (.int .i32 0), 1, 4) := by kernel_rfl
theorem rBytes_ok (So Si To Ti : Nat → Prop) (x y : Value) (l m : List Int) (w : World) (hx : Slc (Rep.int .u8) So Si w x l) (hy : Slc (Rep.int .u8) To Ti w y m) :
    Calls Tryz.prog 10 #[x, y] w fun e w' => e = .returned (.bool (decide (l = m))) ∧ w = w' := by
  have h1 := run_str (P := Tryz.prog) hx 22 9 5 Tryz.underlying22 Tryz.underlying5 Tryz.underlying9
  have h2 := run_str (P := Tryz.prog) hy 22 9 5 Tryz.underlying22 Tryz.underlying5 Tryz.underlying9
  have h3 := strOfNums_inj hx.ints_wf hy.ints_wf
  have H3 := hide h3
  clear h3
  go_enter Tryz.func10, Tryz.ntmps10
  go_wp2
  go_ret
  refine ⟨ret_1 (bool_eq ?_), rfl⟩
  exact H3.out
end Go.Proofs.YtdjpdllehhecpaaGreatDoor
namespace Go.Proofs.YtdjpdllehhecpaaGreatDoor
open Go.RowKit
set_option linter.unusedVariables false
theorem own_i32 (w : World) (l : List Int) (h : ∀ n ∈ l, (Lit.int .i32 n).wf = true) (base m n : Nat) (hb : base ≤ m) (hm : m = w.heap.size) (hn : l.length = n) (hx : n ≤ maxLen) : Own (Rep.int .i32) 21 [] base (w.alloc (.cells (l.map (Value.int .i32)).toArray 21)) (.slice (some ⟨m, 0, none⟩) n n) l := by
  subst hm; exact Own.lit (by simp) (els_ints .i32 _ w l h) hb hn hx
theorem own_u8 (w : World) (l : List Int) (h : ∀ n ∈ l, (Lit.int .u8 n).wf = true) (base m n : Nat) (hb : base ≤ m) (hm : m = w.heap.size) (hn : l.length = n) (hx : n ≤ maxLen) : Own (Rep.int .u8) 5 [] base (w.alloc (.cells (l.map (Value.int .u8)).toArray 5)) (.slice (some ⟨m, 0, none⟩) n n) l := by
  subst hm; exact Own.lit (by simp) (els_ints .u8 _ w l h) hb hn hx
end Go.Proofs.YtdjpdllehhecpaaGreatDoor
namespace Go.Proofs.YtdjpdllehhecpaaGreatDoor
open Go.RowKit
set_option linter.unusedVariables false
set_option linter.unusedSimpArgs false
def runW (P : Program) : List Oper → Act → World → Option (Act × World)
  | [], a, w => some (a, w)
  | o :: rest, a, w => match o.guard with
    | some _ => none
    | none => match (execOp a.eval o).run P w with
      | .ok (.value v) w' => runW P rest (a.put o.dst v) w'
      | _ => none
theorem wpList_runW {P : Program} {ops : Array Oper} {Q : Exit → Act → World → Prop} : ∀ (l : List Oper) {a a' : Act} {w w' : World}, runW P l a w = some (a', w') → Q .normal a' w' → wpList P ops Q l a w
  | [], a, a', w, w', h, hq => by
    injection h with h
    injection h with h1 h2
    subst h1; subst h2
    exact hq
  | o :: rest, a, a', w, w', h, hq => by
    rw [runW] at h
    cases hg : o.guard with
    | some g => rw [hg] at h; cases h
    | none =>
      rw [hg] at h
      refine wpList_plain hg fun K hK => ?_
      unfold Oper.wp
      simp only at h
      cases hr : (execOp a.eval o).run P w with
      | ok x w1 =>
        rw [hr] at h
        cases x with
        | value v =>
          rw [Oper.upon_value]
          exact hK _ _ (wpList_runW rest h hq)
        | _ => cases h
      | _ => rw [hr] at h; cases h
theorem tab_wp {P : Program} {fn : Func} {R : Ending → World → Prop} {i0 i1 : Nat} {l0 l1 : List Oper} {a : Act} {w w' : World} {v : Value} (hres : fn.results = #[.tmp 0])
    (h : ((runW P l0 a w).bind fun x => runW P l1 x.1 x.2).map (fun x => (x.1.tmps.getD 0 undef, x.1.defers, x.2)) = some (v, [], w')) (hR : R (.returned v) w') :
    Code.wp P ((Code.region i0 l0.toArray false).seq ((Code.region i1 l1.toArray false).seq Code.ret)) (bodyPost P fn R) a w := by
  cases h0 : runW P l0 a w with
  | none => rw [h0] at h; cases h
  | some x0 =>
    rw [h0] at h
    simp only [Option.bind_some] at h
    cases h1 : runW P l1 x0.1 x0.2 with
    | none => rw [h1] at h; cases h
    | some x1 =>
      rw [h1] at h
      injection h with h
      injection h with hv h
      injection h with hd hw
      refine wp_seq_k fun K hK => ?_
      refine wp_region_lit (wpList_runW l0 h0 ?_)
      refine hK _ _ ?_
      refine wp_seq_k fun K2 hK2 => ?_
      refine wp_region_lit (wpList_runW l1 h1 ?_)
      refine hK2 _ _ ?_
      refine wp_ret ?_
      refine bodyPost_ret (results_tmp hres _ _ _) hd ?_
      rw [hv, hw]
      exact hR
end Go.Proofs.YtdjpdllehhecpaaGreatDoor
namespace Go.Proofs.YtdjpdllehhecpaaGreatDoor
open Go.RowKit
set_option linter.unusedVariables false
set_option linter.unusedSimpArgs false
def constI : Operand → Int
  | .const (.int _ n) => n
  | _ => 0
def rowI (o : Oper) : Option (List Int) :=
  match o.op with
  | .build _ parts => some (parts.toList.map fun x => constI x.2)
  | _ => none
def tabI (fn : Func) : List (List Int) :=
  match fn.body with
  | some (.seq _ (.seq (.region _ ops _) _)) => ops.toList.filterMap rowI
  | _ => []
def tri : List Int → Int × Int × Int
  | [a, b, c] => (a, b, c)
  | _ => (0, 0, 0)
def two : List Int → Int × Int
  | [a, b] => (a, b)
  | _ => (0, 0)
def tab3 (l : List (Int × Int × Int)) : List Value := l.flatMap fun x => [.int .i64 x.1, .int .i64 x.2.1, .int .i64 x.2.2]
def tab2 (k : IntKind) (l : List (Int × Int)) : List Value := l.flatMap fun x => [.int k x.1, .int k x.2]
theorem tab3_at : ∀ (l : List (Int × Int × Int)) (k : Nat) (h : k < l.length), (tab3 l)[k * 3]? = some (.int .i64 l[k].1) ∧ (tab3 l)[k * 3 + 1]? = some (.int .i64 l[k].2.1) ∧ (tab3 l)[k * 3 + 2]? = some (.int .i64 l[k].2.2)
  | x :: l, 0, h => ⟨rfl, rfl, rfl⟩
  | x :: l, k + 1, h => by
    have ih := tab3_at l k (by simpa using h)
    have e : tab3 (x :: l) = [.int .i64 x.1, .int .i64 x.2.1, .int .i64 x.2.2] ++ tab3 l := rfl
    rw [e]
    refine ⟨?_, ?_, ?_⟩
    · rw [List.getElem?_append_right (by simp; omega)]
      simpa [Nat.add_mul] using ih.1
    · rw [List.getElem?_append_right (by simp; omega)]
      simpa [Nat.add_mul, show k * 3 + 3 + 1 - 3 = k * 3 + 1 by omega] using ih.2.1
    · rw [List.getElem?_append_right (by simp; omega)]
      simpa [Nat.add_mul, show k * 3 + 3 + 2 - 3 = k * 3 + 2 by omega] using ih.2.2
theorem tab2_at (t : IntKind) : ∀ (l : List (Int × Int)) (k : Nat) (h : k < l.length), (tab2 t l)[k * 2]? = some (.int t l[k].1) ∧ (tab2 t l)[k * 2 + 1]? = some (.int t l[k].2)
  | x :: l, 0, h => ⟨rfl, rfl⟩
  | x :: l, k + 1, h => by
    have ih := tab2_at t l k (by simpa using h)
    have e : tab2 t (x :: l) = [.int t x.1, .int t x.2] ++ tab2 t l := rfl
    rw [e]
    refine ⟨?_, ?_⟩
    · rw [List.getElem?_append_right (by simp; omega)]
      simpa [Nat.add_mul] using ih.1
    · rw [List.getElem?_append_right (by simp; omega)]
      simpa [Nat.add_mul, show k * 2 + 2 + 1 - 2 = k * 2 + 1 by omega] using ih.2
noncomputable def gcbT : List (Int × Int × Int) := (tabI Tryz.f114).map tri
theorem gcbT_ok (w : World) : Calls Tryz.prog 114 #[] w fun e w' => e = .returned (.slice (some ⟨w.heap.size, 0, none⟩) gcbT.length gcbT.length) ∧ w' = w.alloc (.cells (tab3 gcbT).toArray 174) := by
  go_enter Tryz.func114, Tryz.ntmps114
  refine tab_wp rfl (v := .slice (some ⟨w.heap.size, 0, none⟩) gcbT.length gcbT.length) (w' := w.alloc (.cells (tab3 gcbT).toArray 174)) ?_ ⟨rfl, rfl⟩
  kernel_rfl
noncomputable def conjT : List (Int × Int × Int) := (tabI Tryz.f120).map tri
theorem conjT_ok (w : World) : Calls Tryz.prog 120 #[] w fun e w' => e = .returned (.slice (some ⟨w.heap.size, 0, none⟩) conjT.length conjT.length) ∧ w' = w.alloc (.cells (tab3 conjT).toArray 174) := by
  go_enter Tryz.func120, Tryz.ntmps120
  refine tab_wp rfl (v := .slice (some ⟨w.heap.size, 0, none⟩) conjT.length conjT.length) (w' := w.alloc (.cells (tab3 conjT).toArray 174)) ?_ ⟨rfl, rfl⟩
  kernel_rfl
noncomputable def eastT : List (Int × Int × Int) := (tabI Tryz.f122).map tri
theorem eastT_ok (w : World) : Calls Tryz.prog 122 #[] w fun e w' => e = .returned (.slice (some ⟨w.heap.size, 0, none⟩) eastT.length eastT.length) ∧ w' = w.alloc (.cells (tab3 eastT).toArray 174) := by
  go_enter Tryz.func122, Tryz.ntmps122
  refine tab_wp rfl (v := .slice (some ⟨w.heap.size, 0, none⟩) eastT.length eastT.length) (w' := w.alloc (.cells (tab3 eastT).toArray 174)) ?_ ⟨rfl, rfl⟩
  kernel_rfl
noncomputable def pictT : List (Int × Int) := (tabI Tryz.f118).map two
theorem pictT_ok (w : World) : Calls Tryz.prog 118 #[] w fun e w' => e = .returned (.slice (some ⟨w.heap.size, 0, none⟩) pictT.length pictT.length) ∧ w' = w.alloc (.cells (tab2 .i32 pictT).toArray 177) := by
  go_enter Tryz.func118, Tryz.ntmps118
  refine tab_wp rfl (v := .slice (some ⟨w.heap.size, 0, none⟩) pictT.length pictT.length) (w' := w.alloc (.cells (tab2 .i32 pictT).toArray 177)) ?_ ⟨rfl, rfl⟩
  kernel_rfl
noncomputable def l9_1 : List (Int × Int) := (tabI Tryz.f171).map two
theorem l9_1_ok (w : World) : Calls Tryz.prog 171 #[] w fun e w' => e = .returned (.slice (some ⟨w.heap.size, 0, none⟩) l9_1.length l9_1.length) ∧ w' = w.alloc (.cells (tab2 .i64 l9_1).toArray 232) := by
  go_enter Tryz.func171, Tryz.ntmps171
  refine tab_wp rfl (v := .slice (some ⟨w.heap.size, 0, none⟩) l9_1.length l9_1.length) (w' := w.alloc (.cells (tab2 .i64 l9_1).toArray 232)) ?_ ⟨rfl, rfl⟩
  kernel_rfl
noncomputable def l9_2 : List (Int × Int) := (tabI Tryz.f172).map two
theorem l9_2_ok (w : World) : Calls Tryz.prog 172 #[] w fun e w' => e = .returned (.slice (some ⟨w.heap.size, 0, none⟩) l9_2.length l9_2.length) ∧ w' = w.alloc (.cells (tab2 .i64 l9_2).toArray 232) := by
  go_enter Tryz.func172, Tryz.ntmps172
  refine tab_wp rfl (v := .slice (some ⟨w.heap.size, 0, none⟩) l9_2.length l9_2.length) (w' := w.alloc (.cells (tab2 .i64 l9_2).toArray 232)) ?_ ⟨rfl, rfl⟩
  kernel_rfl
noncomputable def l9_3 : List (Int × Int) := (tabI Tryz.f173).map two
theorem l9_3_ok (w : World) : Calls Tryz.prog 173 #[] w fun e w' => e = .returned (.slice (some ⟨w.heap.size, 0, none⟩) l9_3.length l9_3.length) ∧ w' = w.alloc (.cells (tab2 .i64 l9_3).toArray 232) := by
  go_enter Tryz.func173, Tryz.ntmps173
  refine tab_wp rfl (v := .slice (some ⟨w.heap.size, 0, none⟩) l9_3.length l9_3.length) (w' := w.alloc (.cells (tab2 .i64 l9_3).toArray 232)) ?_ ⟨rfl, rfl⟩
  kernel_rfl
noncomputable def l9_4 : List (Int × Int) := (tabI Tryz.f174).map two
theorem l9_4_ok (w : World) : Calls Tryz.prog 174 #[] w fun e w' => e = .returned (.slice (some ⟨w.heap.size, 0, none⟩) l9_4.length l9_4.length) ∧ w' = w.alloc (.cells (tab2 .i64 l9_4).toArray 232) := by
  go_enter Tryz.func174, Tryz.ntmps174
  refine tab_wp rfl (v := .slice (some ⟨w.heap.size, 0, none⟩) l9_4.length l9_4.length) (w' := w.alloc (.cells (tab2 .i64 l9_4).toArray 232)) ?_ ⟨rfl, rfl⟩
  kernel_rfl
noncomputable def l9_5 : List (Int × Int) := (tabI Tryz.f175).map two
theorem l9_5_ok (w : World) : Calls Tryz.prog 175 #[] w fun e w' => e = .returned (.slice (some ⟨w.heap.size, 0, none⟩) l9_5.length l9_5.length) ∧ w' = w.alloc (.cells (tab2 .i64 l9_5).toArray 232) := by
  go_enter Tryz.func175, Tryz.ntmps175
  refine tab_wp rfl (v := .slice (some ⟨w.heap.size, 0, none⟩) l9_5.length l9_5.length) (w' := w.alloc (.cells (tab2 .i64 l9_5).toArray 232)) ?_ ⟨rfl, rfl⟩
  kernel_rfl
noncomputable def l9_6 : List (Int × Int) := (tabI Tryz.f176).map two
theorem l9_6_ok (w : World) : Calls Tryz.prog 176 #[] w fun e w' => e = .returned (.slice (some ⟨w.heap.size, 0, none⟩) l9_6.length l9_6.length) ∧ w' = w.alloc (.cells (tab2 .i64 l9_6).toArray 232) := by
  go_enter Tryz.func176, Tryz.ntmps176
  refine tab_wp rfl (v := .slice (some ⟨w.heap.size, 0, none⟩) l9_6.length l9_6.length) (w' := w.alloc (.cells (tab2 .i64 l9_6).toArray 232)) ?_ ⟨rfl, rfl⟩
  kernel_rfl
noncomputable def l9_7 : List (Int × Int) := (tabI Tryz.f177).map two
theorem l9_7_ok (w : World) : Calls Tryz.prog 177 #[] w fun e w' => e = .returned (.slice (some ⟨w.heap.size, 0, none⟩) l9_7.length l9_7.length) ∧ w' = w.alloc (.cells (tab2 .i64 l9_7).toArray 232) := by
  go_enter Tryz.func177, Tryz.ntmps177
  refine tab_wp rfl (v := .slice (some ⟨w.heap.size, 0, none⟩) l9_7.length l9_7.length) (w' := w.alloc (.cells (tab2 .i64 l9_7).toArray 232)) ?_ ⟨rfl, rfl⟩
  kernel_rfl
noncomputable def l9_8 : List (Int × Int) := (tabI Tryz.f178).map two
theorem l9_8_ok (w : World) : Calls Tryz.prog 178 #[] w fun e w' => e = .returned (.slice (some ⟨w.heap.size, 0, none⟩) l9_8.length l9_8.length) ∧ w' = w.alloc (.cells (tab2 .i64 l9_8).toArray 232) := by
  go_enter Tryz.func178, Tryz.ntmps178
  refine tab_wp rfl (v := .slice (some ⟨w.heap.size, 0, none⟩) l9_8.length l9_8.length) (w' := w.alloc (.cells (tab2 .i64 l9_8).toArray 232)) ?_ ⟨rfl, rfl⟩
  kernel_rfl
noncomputable def l10 : List (Int × Int) := (tabI Tryz.f181).map two
theorem l10_ok (w : World) : Calls Tryz.prog 181 #[] w fun e w' => e = .returned (.slice (some ⟨w.heap.size, 0, none⟩) l10.length l10.length) ∧ w' = w.alloc (.cells (tab2 .i64 l10).toArray 232) := by
  go_enter Tryz.func181, Tryz.ntmps181
  refine tab_wp rfl (v := .slice (some ⟨w.heap.size, 0, none⟩) l10.length l10.length) (w' := w.alloc (.cells (tab2 .i64 l10).toArray 232)) ?_ ⟨rfl, rfl⟩
  kernel_rfl
noncomputable def l11_1 : List (Int × Int) := (tabI Tryz.f182).map two
theorem l11_1_ok (w : World) : Calls Tryz.prog 182 #[] w fun e w' => e = .returned (.slice (some ⟨w.heap.size, 0, none⟩) l11_1.length l11_1.length) ∧ w' = w.alloc (.cells (tab2 .i64 l11_1).toArray 232) := by
  go_enter Tryz.func182, Tryz.ntmps182
  refine tab_wp rfl (v := .slice (some ⟨w.heap.size, 0, none⟩) l11_1.length l11_1.length) (w' := w.alloc (.cells (tab2 .i64 l11_1).toArray 232)) ?_ ⟨rfl, rfl⟩
  kernel_rfl
noncomputable def l11_2 : List (Int × Int) := (tabI Tryz.f183).map two
theorem l11_2_ok (w : World) : Calls Tryz.prog 183 #[] w fun e w' => e = .returned (.slice (some ⟨w.heap.size, 0, none⟩) l11_2.length l11_2.length) ∧ w' = w.alloc (.cells (tab2 .i64 l11_2).toArray 232) := by
  go_enter Tryz.func183, Tryz.ntmps183
  refine tab_wp rfl (v := .slice (some ⟨w.heap.size, 0, none⟩) l11_2.length l11_2.length) (w' := w.alloc (.cells (tab2 .i64 l11_2).toArray 232)) ?_ ⟨rfl, rfl⟩
  kernel_rfl
noncomputable def l11_3 : List (Int × Int) := (tabI Tryz.f184).map two
theorem l11_3_ok (w : World) : Calls Tryz.prog 184 #[] w fun e w' => e = .returned (.slice (some ⟨w.heap.size, 0, none⟩) l11_3.length l11_3.length) ∧ w' = w.alloc (.cells (tab2 .i64 l11_3).toArray 232) := by
  go_enter Tryz.func184, Tryz.ntmps184
  refine tab_wp rfl (v := .slice (some ⟨w.heap.size, 0, none⟩) l11_3.length l11_3.length) (w' := w.alloc (.cells (tab2 .i64 l11_3).toArray 232)) ?_ ⟨rfl, rfl⟩
  kernel_rfl
noncomputable def l12_1 : List (Int × Int) := (tabI Tryz.f185).map two
theorem l12_1_ok (w : World) : Calls Tryz.prog 185 #[] w fun e w' => e = .returned (.slice (some ⟨w.heap.size, 0, none⟩) l12_1.length l12_1.length) ∧ w' = w.alloc (.cells (tab2 .i64 l12_1).toArray 232) := by
  go_enter Tryz.func185, Tryz.ntmps185
  refine tab_wp rfl (v := .slice (some ⟨w.heap.size, 0, none⟩) l12_1.length l12_1.length) (w' := w.alloc (.cells (tab2 .i64 l12_1).toArray 232)) ?_ ⟨rfl, rfl⟩
  kernel_rfl
noncomputable def l12_2 : List (Int × Int) := (tabI Tryz.f186).map two
theorem l12_2_ok (w : World) : Calls Tryz.prog 186 #[] w fun e w' => e = .returned (.slice (some ⟨w.heap.size, 0, none⟩) l12_2.length l12_2.length) ∧ w' = w.alloc (.cells (tab2 .i64 l12_2).toArray 232) := by
  go_enter Tryz.func186, Tryz.ntmps186
  refine tab_wp rfl (v := .slice (some ⟨w.heap.size, 0, none⟩) l12_2.length l12_2.length) (w' := w.alloc (.cells (tab2 .i64 l12_2).toArray 232)) ?_ ⟨rfl, rfl⟩
  kernel_rfl
noncomputable def l12_3 : List (Int × Int) := (tabI Tryz.f187).map two
theorem l12_3_ok (w : World) : Calls Tryz.prog 187 #[] w fun e w' => e = .returned (.slice (some ⟨w.heap.size, 0, none⟩) l12_3.length l12_3.length) ∧ w' = w.alloc (.cells (tab2 .i64 l12_3).toArray 232) := by
  go_enter Tryz.func187, Tryz.ntmps187
  refine tab_wp rfl (v := .slice (some ⟨w.heap.size, 0, none⟩) l12_3.length l12_3.length) (w' := w.alloc (.cells (tab2 .i64 l12_3).toArray 232)) ?_ ⟨rfl, rfl⟩
  kernel_rfl
end Go.Proofs.YtdjpdllehhecpaaGreatDoor
namespace Go.Proofs.YtdjpdllehhecpaaGreatDoor
set_option linter.unusedVariables false
set_option linter.unusedSimpArgs false
abbrev SpanV : Type := Int × Int × Int
def hasS (r : Int) (x : SpanV) : Bool := decide (x.1 ≤ r) && decide (r ≤ x.2.1)
def cntS (T : List SpanV) (r : Int) : Nat := T.countP fun y => !decide (r ≤ y.2.1)
def atS (T : List SpanV) (r d : Int) : Int :=
  match T[cntS T r]? with
  | some x => if x.1 ≤ r then x.2.2 else d
  | none => d
def spanF (T : List SpanV) (r d : Int) : Int :=
  match T.find? (hasS r) with
  | some x => x.2.2
  | none => d
def sortS : List SpanV → Bool
  | [] => true
  | [x] => decide (x.1 ≤ x.2.1)
  | x :: y :: l => decide (x.1 ≤ x.2.1) && decide (x.2.1 < y.1) && sortS (y :: l)
theorem sortS_cons {x : SpanV} {l : List SpanV} (h : sortS (x :: l) = true) : x.1 ≤ x.2.1 ∧ sortS l = true ∧ ∀ y ∈ l, x.2.1 < y.1 ∧ y.1 ≤ y.2.1 := by
  induction l generalizing x with
  | nil => exact ⟨by simpa [sortS] using h, rfl, fun y hy => (by cases hy)⟩
  | cons y l ih =>
    simp only [sortS, Bool.and_eq_true, decide_eq_true_eq] at h
    obtain ⟨⟨h1, h2⟩, h3⟩ := h
    obtain ⟨h4, h5, h6⟩ := ih h3
    refine ⟨h1, h3, fun z hz => ?_⟩
    rcases List.mem_cons.1 hz with rfl | hz
    · exact ⟨h2, h4⟩
    · have := h6 z hz
      exact ⟨by omega, this.2⟩
theorem at_span : ∀ (T : List SpanV) (r d : Int), sortS T = true → atS T r d = spanF T r d
  | [], r, d, _ => rfl
  | x :: l, r, d, h => by
    obtain ⟨h1, h2, h3⟩ := sortS_cons h
    have ih := at_span l r d h2
    unfold atS spanF cntS at ih ⊢
    by_cases hr : r ≤ x.2.1
    · have h0 : ∀ y ∈ l, ¬ (!decide (r ≤ y.2.1)) = true := fun y hy => by
        have := h3 y hy
        simp; omega
      have hc : l.countP (fun y => !decide (r ≤ y.2.1)) = 0 := List.countP_eq_zero.2 h0
      rw [List.countP_cons_of_neg (by simp [hr]), hc]
      simp only [List.getElem?_cons_zero]
      by_cases hl : x.1 ≤ r
      · rw [if_pos hl, List.find?_cons_of_pos (by simp [hasS, hl, hr])]
      · rw [if_neg hl, List.find?_cons_of_neg (by simp [hasS, hl])]
        have : l.find? (hasS r) = none := List.find?_eq_none.2 fun y hy => by
          have := h3 y hy
          simp [hasS]; omega
        rw [this]
    · rw [List.countP_cons_of_pos (by simp; omega), List.find?_cons_of_neg (by simp [hasS]; omega)]
      rw [List.getElem?_cons_succ]
      exact ih
theorem span_uniq {T : List SpanV} {r : Int} (hs : sortS T = true) {x : SpanV} (hx : x ∈ T) (hr : hasS r x = true) : T.find? (hasS r) = some x := by
  induction T with
  | nil => cases hx
  | cons y l ih =>
    obtain ⟨h1, h2, h3⟩ := sortS_cons hs
    simp only [hasS, Bool.and_eq_true, decide_eq_true_eq] at hr
    rcases List.mem_cons.1 hx with rfl | hx
    · rw [List.find?_cons_of_pos (by simp [hasS, hr])]
    · have := h3 x hx
      rw [List.find?_cons_of_neg (by simp [hasS]; omega)]
      exact ih h2 hx
def inF (L : List (Int × Int)) (r : Int) : Bool := L.any fun x => decide (x.1 ≤ r) && decide (r ≤ x.2)
def docF : List (List (Int × Int)) → Int → Int → Int → Int
  | [], _, _, d => d
  | L :: Ls, k, r, d => if inF L r = true then k else docF Ls (k + 1) r d
theorem docF_spec : ∀ (Ls : List (List (Int × Int))) (k r d : Int), (∃ i, ∃ h : i < Ls.length, inF Ls[i] r = true ∧ docF Ls k r d = k + i) ∨ ((∀ L ∈ Ls, inF L r = false) ∧ docF Ls k r d = d)
  | [], k, r, d => .inr ⟨fun L hL => (by cases hL), rfl⟩
  | L :: Ls, k, r, d => by
    rw [docF]
    cases h : inF L r with
    | true => exact .inl ⟨0, by simp, by simpa using h, by simp⟩
    | false =>
      rw [if_neg (by simp)]
      rcases docF_spec Ls (k + 1) r d with ⟨i, hi, h1, h2⟩ | ⟨h1, h2⟩
      · exact .inl ⟨i + 1, by simpa using hi, by simpa using h1, by rw [h2]; omega⟩
      · refine .inr ⟨fun M hM => ?_, h2⟩
        rcases List.mem_cons.1 hM with rfl | hM
        · exact h
        · exact h1 M hM
def inT (T : List SpanV) (Ls : List (List (Int × Int))) : Bool := T.all fun x => match Ls[(x.2.2 - 1).toNat]? with
  | some L => L.contains (x.1, x.2.1) && decide (1 ≤ x.2.2)
  | none => false
def inL (T : List SpanV) : List (List (Int × Int)) → Int → Bool
  | [], _ => true
  | L :: Ls, k => L.all (fun y => T.contains (y.1, y.2, k)) && inL T Ls (k + 1)
theorem inL_at : ∀ (T : List SpanV) (Ls : List (List (Int × Int))) (k : Int), inL T Ls k = true → ∀ i (h : i < Ls.length), ∀ y ∈ Ls[i], (y.1, y.2, k + (i : Int)) ∈ T
  | T, [], k, _, i, h, y, hy => by simp at h
  | T, L :: Ls, k, hk, i, h, y, hy => by
    rw [inL, Bool.and_eq_true] at hk
    cases i with
    | zero =>
      have := List.all_eq_true.1 hk.1 y (by simpa using hy)
      simpa using this
    | succ i =>
      have := inL_at T Ls (k + 1) hk.2 i (by simpa using h) y (by simpa using hy)
      rw [show k + ((i + 1 : Nat) : Int) = k + 1 + (i : Int) by omega]
      exact this
theorem doc_span {T : List SpanV} {Ls : List (List (Int × Int))} (hs : sortS T = true) (h1 : inT T Ls = true) (h2 : inL T Ls 1 = true) (r d : Int) : docF Ls 1 r d = spanF T r d := by
  rcases docF_spec Ls 1 r d with ⟨i, hi, hin, e⟩ | ⟨hno, e⟩
  · rw [e]
    unfold inF at hin
    obtain ⟨y, hy, hr⟩ := List.any_eq_true.1 hin
    have hm := inL_at T Ls 1 h2 i hi y hy
    unfold spanF
    rw [span_uniq hs hm hr]
  · rw [e]
    unfold spanF
    cases hf : T.find? (hasS r) with
    | none => rfl
    | some x =>
      exfalso
      have hx := List.mem_of_find?_eq_some hf
      have hr := List.find?_some hf
      have hc := List.all_eq_true.1 h1 x hx
      split at hc
      · rename_i L hL
        have hLm : L ∈ Ls := List.mem_of_getElem? hL
        have := hno L hLm
        rw [Bool.and_eq_true] at hc
        have hm : (x.1, x.2.1) ∈ L := by simpa using hc.1
        have : inF L r = true := List.any_eq_true.2 ⟨_, hm, hr⟩
        rw [hno L hLm] at this
        cases this
      · cases hc
def hanF (r : Int) : Int :=
  if (4352 ≤ r ∧ r ≤ 4447) ∨ (43360 ≤ r ∧ r ≤ 43388) then 9
  else if (4448 ≤ r ∧ r ≤ 4519) ∨ (55216 ≤ r ∧ r ≤ 55238) then 10
  else if (4520 ≤ r ∧ r ≤ 4607) ∨ (55243 ≤ r ∧ r ≤ 55291) then 11
  else if ¬ (44032 ≤ r ∧ r ≤ 55203) then 0
  else if (r - 44032) % 28 = 0 then 12 else 13
noncomputable def pict3 : List SpanV := pictT.map fun x => (x.1, x.2, 1)
noncomputable def brkF (r : Int) : Int := atS gcbT r (hanF r)
noncomputable def picF (r : Int) : Bool := decide (atS pict3 r 0 = 1)
noncomputable def conF (r : Int) : Int := atS conjT r 0
noncomputable def easF (r : Int) : Int := atS eastT r 0
noncomputable def propF (r : Int) : PropV := ⟨brkF r, picF r, conF r, easF r⟩
noncomputable def doc9 : List (List (Int × Int)) := [l9_1, l9_2, l9_3, l9_4, l9_5, l9_6, l9_7, l9_8]
noncomputable def doc11 : List (List (Int × Int)) := [l11_1, l11_2, l11_3]
noncomputable def doc12 : List (List (Int × Int)) := [l12_1, l12_2, l12_3]
theorem gcb_sort : sortS gcbT = true := by kernel_rfl
theorem conj_sort : sortS conjT = true := by kernel_rfl
theorem pict_sort : sortS pict3 = true := by kernel_rfl
theorem east_sort : sortS eastT = true := by kernel_rfl
theorem gcb_in : inT gcbT doc9 = true := by kernel_rfl
theorem gcb_all : inL gcbT doc9 1 = true := by kernel_rfl
theorem conj_in : inT conjT doc11 = true := by kernel_rfl
theorem conj_all : inL conjT doc11 1 = true := by kernel_rfl
theorem pict_in : inT pict3 [l10] = true := by kernel_rfl
theorem pict_all : inL pict3 [l10] 1 = true := by kernel_rfl
theorem brk_doc (r : Int) : docF doc9 1 r (hanF r) = brkF r := by unfold brkF; rw [at_span _ _ _ gcb_sort]; exact doc_span gcb_sort gcb_in gcb_all r _
theorem con_doc (r : Int) : docF doc11 1 r 0 = conF r := by unfold conF; rw [at_span _ _ _ conj_sort]; exact doc_span conj_sort conj_in conj_all r _
theorem pic_doc (r : Int) : inF l10 r = picF r := by
  have h := doc_span pict_sort pict_in pict_all r 0
  unfold picF
  rw [at_span _ _ _ pict_sort, ← h, docF, docF]
  cases inF l10 r <;> rfl
theorem han_range (r : Int) : hanF r = 0 ∨ (9 ≤ hanF r ∧ hanF r ≤ 13) := by unfold hanF; split <;> (try split) <;> (try split) <;> (try split) <;> (try split) <;> omega
def rangeT (T : List SpanV) : Bool := T.all fun x => decide (0 ≤ x.2.2) && decide (x.2.2 ≤ 13)
theorem gcb_range : rangeT gcbT = true := by kernel_rfl
def ctlT (T : List SpanV) : List SpanV := T.filter fun x => decide (1 ≤ x.2.2) && decide (x.2.2 ≤ 3)
def apartT (T U : List SpanV) : Bool := T.all fun x => U.all fun y => decide (x.2.1 < y.1) || decide (y.2.1 < x.1)
theorem ctl_pict : apartT (ctlT gcbT) pict3 = true := by kernel_rfl
theorem ctl_conj : apartT (ctlT gcbT) conjT = true := by kernel_rfl
def withinT (T U : List SpanV) : Bool := U.all fun c => decide (c.2.2 = 1) || T.any fun x => decide (x.1 ≤ c.1) && decide (c.2.1 ≤ x.2.1) && (decide (x.2.2 = 4) || decide (x.2.2 = 5))
theorem conj_ext : withinT gcbT conjT = true := by kernel_rfl
theorem span_case (T : List SpanV) (r d : Int) : (∃ x ∈ T, hasS r x = true ∧ spanF T r d = x.2.2) ∨ spanF T r d = d := by
  unfold spanF
  cases hf : T.find? (hasS r) with
  | none => exact .inr rfl
  | some x => exact .inl ⟨x, List.mem_of_find?_eq_some hf, List.find?_some hf, rfl⟩
theorem apart_no {T U : List SpanV} (h : apartT T U = true) {r d : Int} {x : SpanV} (hx : x ∈ T) (hr : hasS r x = true) : spanF U r d = d := by
  unfold spanF
  cases hf : U.find? (hasS r) with
  | none => rfl
  | some y =>
    exfalso
    have h1 := List.all_eq_true.1 (List.all_eq_true.1 h x hx) y (List.mem_of_find?_eq_some hf)
    have h2 := List.find?_some hf
    simp only [hasS, Bool.and_eq_true, Bool.or_eq_true, decide_eq_true_eq] at h1 h2 hr
    omega
theorem propF_ok (r : Int) : TblP (propF r) := by
  have eb : (propF r).brk = spanF gcbT r (hanF r) := at_span _ _ _ gcb_sort
  have ec : (propF r).conj = spanF conjT r 0 := at_span _ _ _ conj_sort
  have ep : (propF r).pict = decide (spanF pict3 r 0 = 1) := by show picF r = _; unfold picF; rw [at_span _ _ _ pict_sort]
  have hh := han_range r
  unfold TblP
  rw [eb, ec, ep]
  refine ⟨?_, fun hb => ?_, fun hc => ?_⟩
  · rcases span_case gcbT r (hanF r) with ⟨x, hx, _, e⟩ | e
    · have := List.all_eq_true.1 gcb_range x hx
      simp only [Bool.and_eq_true, decide_eq_true_eq] at this
      rw [e]; exact this
    · rw [e]; omega
  · unfold breaksF at hb
    have hb := of_decide_eq_true hb
    rcases span_case gcbT r (hanF r) with ⟨x, hx, hr, e⟩ | e
    · have hm : x ∈ ctlT gcbT := List.mem_filter.2 ⟨hx, by simp; omega⟩
      rw [apart_no ctl_pict hm hr, apart_no ctl_conj hm hr]
      exact ⟨rfl, rfl⟩
    · omega
  · rcases span_case conjT r 0 with ⟨c, hx, hr, e⟩ | e
    · have h1 := List.all_eq_true.1 conj_ext c hx
      simp only [Bool.or_eq_true, decide_eq_true_eq] at h1
      rcases h1 with h1 | h1
      · omega
      · obtain ⟨x, hxm, hx2⟩ := List.any_eq_true.1 h1
        simp only [hasS, Bool.and_eq_true, Bool.or_eq_true, decide_eq_true_eq] at hx2 hr
        have : hasS r x = true := by simp only [hasS, Bool.and_eq_true, decide_eq_true_eq]; omega
        have e2 : spanF gcbT r (hanF r) = x.2.2 := by unfold spanF; rw [span_uniq gcb_sort hxm this]
        rw [e2]
        exact hx2.2
    · omega
end Go.Proofs.YtdjpdllehhecpaaGreatDoor
namespace Go.Proofs.YtdjpdllehhecpaaGreatDoor
open Go.RowKit
set_option linter.unusedVariables false
set_option linter.unusedSimpArgs false
theorem hin_ok (r lo hi : Int) (w : World) :
    Calls Tryz.prog 157 #[.int .i32 r, .int .i32 lo, .int .i32 hi] w fun e w' => e = .returned (.bool (decide (lo ≤ r) && decide (r ≤ hi))) ∧ w = w' := by
  by_cases h : lo ≤ r
  · go_enter Tryz.func157, Tryz.ntmps157
    go_wp2
    go_ret
    exact ⟨by simp [h], rfl⟩
  · go_enter Tryz.func157, Tryz.ntmps157
    go_wp2
    go_ret
    exact ⟨by rw [decide_eq_false (by omega : ¬ lo ≤ r)]; rfl, rfl⟩
theorem hSyl_ok (r : Int) (w : World) :
    Calls Tryz.prog 158 #[.int .i32 r] w fun e w' => e = .returned (.bool (decide (44032 ≤ r) && decide (r ≤ 55203))) ∧ w = w' := by
  have HI := hide (hin_ok r)
  go_enter Tryz.func158, Tryz.ntmps158
  go_wp2_with fail
  refine (HI.out _ _ _).mono ?_
  rintro e w1 ⟨rfl, rfl⟩
  go_wp2
  go_ret
  exact ⟨rfl, rfl⟩
theorem han_case (r : Int) : r ≤ 4351 ∨ (4352 ≤ r ∧ r ≤ 4447) ∨ (4448 ≤ r ∧ r ≤ 4519) ∨ (4520 ≤ r ∧ r ≤ 4607) ∨ (4608 ≤ r ∧ r ≤ 43359) ∨ (43360 ≤ r ∧ r ≤ 43388) ∨ (43389 ≤ r ∧ r ≤ 44031) ∨ (44032 ≤ r ∧ r ≤ 55203) ∨ (55204 ≤ r ∧ r ≤ 55215) ∨ (55216 ≤ r ∧ r ≤ 55238) ∨ (55239 ≤ r ∧ r ≤ 55242) ∨ (55243 ≤ r ∧ r ≤ 55291) ∨ 55292 ≤ r := by omega
set_option maxHeartbeats 4000000 in
theorem hClass_ok (r : Int) (h0 : -2147483648 ≤ r) (h1 : r ≤ 2147483647) (w : World) :
    Calls Tryz.prog 117 #[.int .i32 r] w fun e w' => e = .returned (.int .i64 (hanF r)) ∧ w = w' := by
  have HI := hide (hin_ok r)
  have HS := hide (hSyl_ok r)
  rcases han_case r with h | h | h | h | h | h | h | h | h | h | h | h | h
  · have f0 : decide (4352 ≤ r) = false := decide_eq_false (by omega)
    have f1 : r ≤ 4447 := by omega
    have f2 : decide (43360 ≤ r) = false := decide_eq_false (by omega)
    have f3 : r ≤ 43388 := by omega
    have f4 : decide (4448 ≤ r) = false := decide_eq_false (by omega)
    have f5 : r ≤ 4519 := by omega
    have f6 : decide (55216 ≤ r) = false := decide_eq_false (by omega)
    have f7 : r ≤ 55238 := by omega
    have f8 : decide (4520 ≤ r) = false := decide_eq_false (by omega)
    have f9 : r ≤ 4607 := by omega
    have f10 : decide (55243 ≤ r) = false := decide_eq_false (by omega)
    have f11 : r ≤ 55291 := by omega
    have f12 : decide (44032 ≤ r) = false := decide_eq_false (by omega)
    have f13 : r ≤ 55203 := by omega
    have hv : hanF r = 0 := by unfold hanF; (repeat' split) <;> omega
    rw [hv]
    clear hv
    go_enter Tryz.func117, Tryz.ntmps117
    go_wp2_with (first | (refine (HI.out _ _ _).mono ?_; rintro e w1 ⟨rfl, rfl⟩) | (refine (HS.out _).mono ?_; rintro e w1 ⟨rfl, rfl⟩))
    go_ret
    exact ⟨rfl, rfl⟩
  · have f0 : 4352 ≤ r := by omega
    have f1 : r ≤ 4447 := by omega
    have f2 : decide (43360 ≤ r) = false := decide_eq_false (by omega)
    have f3 : r ≤ 43388 := by omega
    have f4 : decide (4448 ≤ r) = false := decide_eq_false (by omega)
    have f5 : r ≤ 4519 := by omega
    have f6 : decide (55216 ≤ r) = false := decide_eq_false (by omega)
    have f7 : r ≤ 55238 := by omega
    have f8 : decide (4520 ≤ r) = false := decide_eq_false (by omega)
    have f9 : r ≤ 4607 := by omega
    have f10 : decide (55243 ≤ r) = false := decide_eq_false (by omega)
    have f11 : r ≤ 55291 := by omega
    have f12 : decide (44032 ≤ r) = false := decide_eq_false (by omega)
    have f13 : r ≤ 55203 := by omega
    have hv : hanF r = 9 := by unfold hanF; (repeat' split) <;> omega
    rw [hv]
    clear hv
    go_enter Tryz.func117, Tryz.ntmps117
    go_wp2_with (first | (refine (HI.out _ _ _).mono ?_; rintro e w1 ⟨rfl, rfl⟩) | (refine (HS.out _).mono ?_; rintro e w1 ⟨rfl, rfl⟩))
    go_ret
    exact ⟨rfl, rfl⟩
  · have f0 : 4352 ≤ r := by omega
    have f1 : decide (r ≤ 4447) = false := decide_eq_false (by omega)
    have f2 : decide (43360 ≤ r) = false := decide_eq_false (by omega)
    have f3 : r ≤ 43388 := by omega
    have f4 : 4448 ≤ r := by omega
    have f5 : r ≤ 4519 := by omega
    have f6 : decide (55216 ≤ r) = false := decide_eq_false (by omega)
    have f7 : r ≤ 55238 := by omega
    have f8 : decide (4520 ≤ r) = false := decide_eq_false (by omega)
    have f9 : r ≤ 4607 := by omega
    have f10 : decide (55243 ≤ r) = false := decide_eq_false (by omega)
    have f11 : r ≤ 55291 := by omega
    have f12 : decide (44032 ≤ r) = false := decide_eq_false (by omega)
    have f13 : r ≤ 55203 := by omega
    have hv : hanF r = 10 := by unfold hanF; (repeat' split) <;> omega
    rw [hv]
    clear hv
    go_enter Tryz.func117, Tryz.ntmps117
    go_wp2_with (first | (refine (HI.out _ _ _).mono ?_; rintro e w1 ⟨rfl, rfl⟩) | (refine (HS.out _).mono ?_; rintro e w1 ⟨rfl, rfl⟩))
    go_ret
    exact ⟨rfl, rfl⟩
  · have f0 : 4352 ≤ r := by omega
    have f1 : decide (r ≤ 4447) = false := decide_eq_false (by omega)
    have f2 : decide (43360 ≤ r) = false := decide_eq_false (by omega)
    have f3 : r ≤ 43388 := by omega
    have f4 : 4448 ≤ r := by omega
    have f5 : decide (r ≤ 4519) = false := decide_eq_false (by omega)
    have f6 : decide (55216 ≤ r) = false := decide_eq_false (by omega)
    have f7 : r ≤ 55238 := by omega
    have f8 : 4520 ≤ r := by omega
    have f9 : r ≤ 4607 := by omega
    have f10 : decide (55243 ≤ r) = false := decide_eq_false (by omega)
    have f11 : r ≤ 55291 := by omega
    have f12 : decide (44032 ≤ r) = false := decide_eq_false (by omega)
    have f13 : r ≤ 55203 := by omega
    have hv : hanF r = 11 := by unfold hanF; (repeat' split) <;> omega
    rw [hv]
    clear hv
    go_enter Tryz.func117, Tryz.ntmps117
    go_wp2_with (first | (refine (HI.out _ _ _).mono ?_; rintro e w1 ⟨rfl, rfl⟩) | (refine (HS.out _).mono ?_; rintro e w1 ⟨rfl, rfl⟩))
    go_ret
    exact ⟨rfl, rfl⟩
  · have f0 : 4352 ≤ r := by omega
    have f1 : decide (r ≤ 4447) = false := decide_eq_false (by omega)
    have f2 : decide (43360 ≤ r) = false := decide_eq_false (by omega)
    have f3 : r ≤ 43388 := by omega
    have f4 : 4448 ≤ r := by omega
    have f5 : decide (r ≤ 4519) = false := decide_eq_false (by omega)
    have f6 : decide (55216 ≤ r) = false := decide_eq_false (by omega)
    have f7 : r ≤ 55238 := by omega
    have f8 : 4520 ≤ r := by omega
    have f9 : decide (r ≤ 4607) = false := decide_eq_false (by omega)
    have f10 : decide (55243 ≤ r) = false := decide_eq_false (by omega)
    have f11 : r ≤ 55291 := by omega
    have f12 : decide (44032 ≤ r) = false := decide_eq_false (by omega)
    have f13 : r ≤ 55203 := by omega
    have hv : hanF r = 0 := by unfold hanF; (repeat' split) <;> omega
    rw [hv]
    clear hv
    go_enter Tryz.func117, Tryz.ntmps117
    go_wp2_with (first | (refine (HI.out _ _ _).mono ?_; rintro e w1 ⟨rfl, rfl⟩) | (refine (HS.out _).mono ?_; rintro e w1 ⟨rfl, rfl⟩))
    go_ret
    exact ⟨rfl, rfl⟩
  · have f0 : 4352 ≤ r := by omega
    have f1 : decide (r ≤ 4447) = false := decide_eq_false (by omega)
    have f2 : 43360 ≤ r := by omega
    have f3 : r ≤ 43388 := by omega
    have f4 : 4448 ≤ r := by omega
    have f5 : decide (r ≤ 4519) = false := decide_eq_false (by omega)
    have f6 : decide (55216 ≤ r) = false := decide_eq_false (by omega)
    have f7 : r ≤ 55238 := by omega
    have f8 : 4520 ≤ r := by omega
    have f9 : decide (r ≤ 4607) = false := decide_eq_false (by omega)
    have f10 : decide (55243 ≤ r) = false := decide_eq_false (by omega)
    have f11 : r ≤ 55291 := by omega
    have f12 : decide (44032 ≤ r) = false := decide_eq_false (by omega)
    have f13 : r ≤ 55203 := by omega
    have hv : hanF r = 9 := by unfold hanF; (repeat' split) <;> omega
    rw [hv]
    clear hv
    go_enter Tryz.func117, Tryz.ntmps117
    go_wp2_with (first | (refine (HI.out _ _ _).mono ?_; rintro e w1 ⟨rfl, rfl⟩) | (refine (HS.out _).mono ?_; rintro e w1 ⟨rfl, rfl⟩))
    go_ret
    exact ⟨rfl, rfl⟩
  · have f0 : 4352 ≤ r := by omega
    have f1 : decide (r ≤ 4447) = false := decide_eq_false (by omega)
    have f2 : 43360 ≤ r := by omega
    have f3 : decide (r ≤ 43388) = false := decide_eq_false (by omega)
    have f4 : 4448 ≤ r := by omega
    have f5 : decide (r ≤ 4519) = false := decide_eq_false (by omega)
    have f6 : decide (55216 ≤ r) = false := decide_eq_false (by omega)
    have f7 : r ≤ 55238 := by omega
    have f8 : 4520 ≤ r := by omega
    have f9 : decide (r ≤ 4607) = false := decide_eq_false (by omega)
    have f10 : decide (55243 ≤ r) = false := decide_eq_false (by omega)
    have f11 : r ≤ 55291 := by omega
    have f12 : decide (44032 ≤ r) = false := decide_eq_false (by omega)
    have f13 : r ≤ 55203 := by omega
    have hv : hanF r = 0 := by unfold hanF; (repeat' split) <;> omega
    rw [hv]
    clear hv
    go_enter Tryz.func117, Tryz.ntmps117
    go_wp2_with (first | (refine (HI.out _ _ _).mono ?_; rintro e w1 ⟨rfl, rfl⟩) | (refine (HS.out _).mono ?_; rintro e w1 ⟨rfl, rfl⟩))
    go_ret
    exact ⟨rfl, rfl⟩
  · have f0 : 4352 ≤ r := by omega
    have f1 : decide (r ≤ 4447) = false := decide_eq_false (by omega)
    have f2 : 43360 ≤ r := by omega
    have f3 : decide (r ≤ 43388) = false := decide_eq_false (by omega)
    have f4 : 4448 ≤ r := by omega
    have f5 : decide (r ≤ 4519) = false := decide_eq_false (by omega)
    have f6 : decide (55216 ≤ r) = false := decide_eq_false (by omega)
    have f7 : r ≤ 55238 := by omega
    have f8 : 4520 ≤ r := by omega
    have f9 : decide (r ≤ 4607) = false := decide_eq_false (by omega)
    have f10 : decide (55243 ≤ r) = false := decide_eq_false (by omega)
    have f11 : r ≤ 55291 := by omega
    have f12 : 44032 ≤ r := by omega
    have f13 : r ≤ 55203 := by omega
    by_cases hm : (r - 44032) % 28 = 0
    · have hv : hanF r = 12 := by unfold hanF; (repeat' split) <;> omega
      rw [hv]
      clear hv
      have e1 : IntKind.i32.wrap (r - 44032) = r - 44032 := by rw [IntKind.wrap_i32]; omega
      have e2 : IntKind.i32.wrap ((r - 44032).tmod 28) = 0 := by rw [Int.tmod_eq_emod_of_nonneg (by omega), hm]; rfl
      go_enter Tryz.func117, Tryz.ntmps117
      go_wp2_with (first | (refine (HI.out _ _ _).mono ?_; rintro e w1 ⟨rfl, rfl⟩) | (refine (HS.out _).mono ?_; rintro e w1 ⟨rfl, rfl⟩))
      go_ret
      exact ⟨rfl, rfl⟩
    · have hv : hanF r = 13 := by unfold hanF; (repeat' split) <;> omega
      rw [hv]
      clear hv
      have e1 : IntKind.i32.wrap (r - 44032) = r - 44032 := by rw [IntKind.wrap_i32]; omega
      have e2 : IntKind.i32.wrap ((r - 44032).tmod 28) = (r - 44032) % 28 := by rw [Int.tmod_eq_emod_of_nonneg (by omega), IntKind.wrap_i32]; omega
      go_enter Tryz.func117, Tryz.ntmps117
      go_wp2_with (first | (refine (HI.out _ _ _).mono ?_; rintro e w1 ⟨rfl, rfl⟩) | (refine (HS.out _).mono ?_; rintro e w1 ⟨rfl, rfl⟩))
      go_ret
      exact ⟨rfl, rfl⟩
  · have f0 : 4352 ≤ r := by omega
    have f1 : decide (r ≤ 4447) = false := decide_eq_false (by omega)
    have f2 : 43360 ≤ r := by omega
    have f3 : decide (r ≤ 43388) = false := decide_eq_false (by omega)
    have f4 : 4448 ≤ r := by omega
    have f5 : decide (r ≤ 4519) = false := decide_eq_false (by omega)
    have f6 : decide (55216 ≤ r) = false := decide_eq_false (by omega)
    have f7 : r ≤ 55238 := by omega
    have f8 : 4520 ≤ r := by omega
    have f9 : decide (r ≤ 4607) = false := decide_eq_false (by omega)
    have f10 : decide (55243 ≤ r) = false := decide_eq_false (by omega)
    have f11 : r ≤ 55291 := by omega
    have f12 : 44032 ≤ r := by omega
    have f13 : decide (r ≤ 55203) = false := decide_eq_false (by omega)
    have hv : hanF r = 0 := by unfold hanF; (repeat' split) <;> omega
    rw [hv]
    clear hv
    go_enter Tryz.func117, Tryz.ntmps117
    go_wp2_with (first | (refine (HI.out _ _ _).mono ?_; rintro e w1 ⟨rfl, rfl⟩) | (refine (HS.out _).mono ?_; rintro e w1 ⟨rfl, rfl⟩))
    go_ret
    exact ⟨rfl, rfl⟩
  · have f0 : 4352 ≤ r := by omega
    have f1 : decide (r ≤ 4447) = false := decide_eq_false (by omega)
    have f2 : 43360 ≤ r := by omega
    have f3 : decide (r ≤ 43388) = false := decide_eq_false (by omega)
    have f4 : 4448 ≤ r := by omega
    have f5 : decide (r ≤ 4519) = false := decide_eq_false (by omega)
    have f6 : 55216 ≤ r := by omega
    have f7 : r ≤ 55238 := by omega
    have f8 : 4520 ≤ r := by omega
    have f9 : decide (r ≤ 4607) = false := decide_eq_false (by omega)
    have f10 : decide (55243 ≤ r) = false := decide_eq_false (by omega)
    have f11 : r ≤ 55291 := by omega
    have f12 : 44032 ≤ r := by omega
    have f13 : decide (r ≤ 55203) = false := decide_eq_false (by omega)
    have hv : hanF r = 10 := by unfold hanF; (repeat' split) <;> omega
    rw [hv]
    clear hv
    go_enter Tryz.func117, Tryz.ntmps117
    go_wp2_with (first | (refine (HI.out _ _ _).mono ?_; rintro e w1 ⟨rfl, rfl⟩) | (refine (HS.out _).mono ?_; rintro e w1 ⟨rfl, rfl⟩))
    go_ret
    exact ⟨rfl, rfl⟩
  · have f0 : 4352 ≤ r := by omega
    have f1 : decide (r ≤ 4447) = false := decide_eq_false (by omega)
    have f2 : 43360 ≤ r := by omega
    have f3 : decide (r ≤ 43388) = false := decide_eq_false (by omega)
    have f4 : 4448 ≤ r := by omega
    have f5 : decide (r ≤ 4519) = false := decide_eq_false (by omega)
    have f6 : 55216 ≤ r := by omega
    have f7 : decide (r ≤ 55238) = false := decide_eq_false (by omega)
    have f8 : 4520 ≤ r := by omega
    have f9 : decide (r ≤ 4607) = false := decide_eq_false (by omega)
    have f10 : decide (55243 ≤ r) = false := decide_eq_false (by omega)
    have f11 : r ≤ 55291 := by omega
    have f12 : 44032 ≤ r := by omega
    have f13 : decide (r ≤ 55203) = false := decide_eq_false (by omega)
    have hv : hanF r = 0 := by unfold hanF; (repeat' split) <;> omega
    rw [hv]
    clear hv
    go_enter Tryz.func117, Tryz.ntmps117
    go_wp2_with (first | (refine (HI.out _ _ _).mono ?_; rintro e w1 ⟨rfl, rfl⟩) | (refine (HS.out _).mono ?_; rintro e w1 ⟨rfl, rfl⟩))
    go_ret
    exact ⟨rfl, rfl⟩
  · have f0 : 4352 ≤ r := by omega
    have f1 : decide (r ≤ 4447) = false := decide_eq_false (by omega)
    have f2 : 43360 ≤ r := by omega
    have f3 : decide (r ≤ 43388) = false := decide_eq_false (by omega)
    have f4 : 4448 ≤ r := by omega
    have f5 : decide (r ≤ 4519) = false := decide_eq_false (by omega)
    have f6 : 55216 ≤ r := by omega
    have f7 : decide (r ≤ 55238) = false := decide_eq_false (by omega)
    have f8 : 4520 ≤ r := by omega
    have f9 : decide (r ≤ 4607) = false := decide_eq_false (by omega)
    have f10 : 55243 ≤ r := by omega
    have f11 : r ≤ 55291 := by omega
    have f12 : 44032 ≤ r := by omega
    have f13 : decide (r ≤ 55203) = false := decide_eq_false (by omega)
    have hv : hanF r = 11 := by unfold hanF; (repeat' split) <;> omega
    rw [hv]
    clear hv
    go_enter Tryz.func117, Tryz.ntmps117
    go_wp2_with (first | (refine (HI.out _ _ _).mono ?_; rintro e w1 ⟨rfl, rfl⟩) | (refine (HS.out _).mono ?_; rintro e w1 ⟨rfl, rfl⟩))
    go_ret
    exact ⟨rfl, rfl⟩
  · have f0 : 4352 ≤ r := by omega
    have f1 : decide (r ≤ 4447) = false := decide_eq_false (by omega)
    have f2 : 43360 ≤ r := by omega
    have f3 : decide (r ≤ 43388) = false := decide_eq_false (by omega)
    have f4 : 4448 ≤ r := by omega
    have f5 : decide (r ≤ 4519) = false := decide_eq_false (by omega)
    have f6 : 55216 ≤ r := by omega
    have f7 : decide (r ≤ 55238) = false := decide_eq_false (by omega)
    have f8 : 4520 ≤ r := by omega
    have f9 : decide (r ≤ 4607) = false := decide_eq_false (by omega)
    have f10 : 55243 ≤ r := by omega
    have f11 : decide (r ≤ 55291) = false := decide_eq_false (by omega)
    have f12 : 44032 ≤ r := by omega
    have f13 : decide (r ≤ 55203) = false := decide_eq_false (by omega)
    have hv : hanF r = 0 := by unfold hanF; (repeat' split) <;> omega
    rw [hv]
    clear hv
    go_enter Tryz.func117, Tryz.ntmps117
    go_wp2_with (first | (refine (HI.out _ _ _).mono ?_; rintro e w1 ⟨rfl, rfl⟩) | (refine (HS.out _).mono ?_; rintro e w1 ⟨rfl, rfl⟩))
    go_ret
    exact ⟨rfl, rfl⟩
end Go.Proofs.YtdjpdllehhecpaaGreatDoor
