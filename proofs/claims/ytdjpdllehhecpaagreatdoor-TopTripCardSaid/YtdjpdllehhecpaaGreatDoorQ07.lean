import Derived.Test.YtdjpdllehhecpaaGreatDoorQ05
import Derived.Test.YtdjpdllehhecpaaGreatDoorQ00
import Derived.Test.YtdjpdllehhecpaaGreatDoorChecked
import Derived.Test.YtdjpdllehhecpaaGreatDoorQ03
import Derived.Test.YtdjpdllehhecpaaGreatDoorQ02
open List renaming getElem?_toArray → zA, getElem?_cons_succ → zB, getElem?_cons_zero → zC, setIfInBounds_toArray → zD, set_cons_zero → zE, set_cons_succ → zF
namespace Go.Proofs.YtdjpdllehhecpaaGreatDoor
open Go.RowKit
set_option linter.unusedVariables false
set_option linter.unusedSimpArgs false
def exOps (P : Program) (ops : Array Oper) (cF : FuncId → Array Value → World → Option (Value × World)) : List Oper → Act → World → Option (Act × World)
  | [], a, w => some (a, w)
  | o :: rest, a, w =>
    match Region.wanted o (yielded ops a.tmps) with
    | true => match (execOp a.eval o).run P w with
      | .ok (.value v) w' => exOps P ops cF rest (a.put o.dst v) w'
      | .ok (.enter f args) w' => match cF f args w' with
        | some (v, w'') => exOps P ops cF rest (a.put o.dst v) w''
        | none => none
      | _ => none
    | false => exOps P ops cF rest (a.put o.dst undef) w
def exC (P : Program) (cF : FuncId → Array Value → World → Option (Value × World)) : Code → Act → World → Option (Exit × Act × World)
  | .skip, a, w => some (.normal, a, w)
  | .seq x y, a, w => match exC P cF x a w with
    | some (.normal, a', w') => exC P cF y a' w'
    | r => r
  | .region _ ops false, a, w => match exOps P ops cF ops.toList a w with
    | some (a', w') => some (.normal, a', w')
    | none => none
  | .cond c x y, a, w => match a.eval c with
    | .bool true => exC P cF x a w
    | .bool false => exC P cF y a w
    | _ => none
  | .block id c, a, w => match exC P cF c a w with
    | some (.exit id', a', w') => if id' = id then some (.normal, a', w') else some (.exit id', a', w')
    | r => r
  | .exit id, a, w => some (.exit id, a, w)
  | .ret, a, w => some (.ret, a, w)
  | _, _, _ => none
def exEnd : Option (Exit × Act × World) → Option (Act × World)
  | some (.normal, a, w) => some (a, w)
  | some (.ret, a, w) => some (a, w)
  | _ => none
def exF (P : Program) : Nat → FuncId → Array Value → World → Option (Value × World)
  | 0, _, _, _ => none
  | n + 1, f, args, w => match P.funcs[f]? with
    | none => none
    | some fn => match fn.body with
      | none => none
      | some c => match exEnd (exC P (exF P n) c { tmps := args ++ Array.replicate (fn.ntmps - args.size) undef, defers := [] } w) with
        | none => none
        | some (a, w') => match a.defers, fn.results.toList with
          | [], [.tmp t] => some (a.tmps.getD t undef, w')
          | _, _ => none
def CallsOk (P : Program) (cF : FuncId → Array Value → World → Option (Value × World)) : Prop :=
  ∀ f args w v w', cF f args w = some (v, w') → Calls P f args w fun e w'' => e = .returned v ∧ w'' = w'
theorem exOps_ok {P : Program} {ops : Array Oper} {cF : FuncId → Array Value → World → Option (Value × World)} (hc : CallsOk P cF) {Q : Exit → Act → World → Prop} :
    ∀ (l : List Oper) {a a' : Act} {w w' : World}, exOps P ops cF l a w = some (a', w') → Q .normal a' w' → wpList P ops Q l a w
  | [], a, a', w, w', h, hq => by
    injection h with h
    injection h with h1 h2
    subst h1; subst h2
    exact hq
  | o :: rest, a, a', w, w', h, hq => by
    rw [exOps] at h
    refine wpList_step fun K hK => ?_
    cases hw : Region.wanted o (yielded ops a.tmps) with
    | false =>
      rw [hw] at h
      rw [if_neg (by simp)]
      exact hK _ _ (exOps_ok hc rest h hq)
    | true =>
      rw [hw] at h
      rw [if_pos rfl]
      simp only at h
      unfold Oper.wp
      cases hr : (execOp a.eval o).run P w with
      | ok x w1 =>
        rw [hr] at h
        cases x with
        | value v =>
          rw [Oper.upon_value]
          exact hK _ _ (exOps_ok hc rest h hq)
        | enter f args =>
          rw [Oper.upon_enter]
          simp only at h
          cases hcf : cF f args w1 with
          | none => rw [hcf] at h; cases h
          | some x =>
            obtain ⟨v, w2⟩ := x
            rw [hcf] at h
            refine (hc f args w1 v w2 hcf).mono ?_
            rintro e w3 ⟨rfl, rfl⟩
            exact hK _ _ (exOps_ok hc rest h hq)
        | _ => cases h
      | _ => rw [hr] at h; cases h
theorem exC_ok {P : Program} {cF : FuncId → Array Value → World → Option (Value × World)} (hc : CallsOk P cF) :
    ∀ (c : Code) {a a' : Act} {w w' : World} {e : Exit} {Q : Exit → Act → World → Prop}, exC P cF c a w = some (e, a', w') → Q e a' w' → c.wp P Q a w
  | .skip, a, a', w, w', e, Q, h, hq => by
    injection h with h; injection h with h1 h; injection h with h2 h3
    subst h1; subst h2; subst h3
    exact wp_skip hq
  | .seq x y, a, a', w, w', e, Q, h, hq => by
    rw [exC] at h
    refine wp_seq ?_
    cases hx : exC P cF x a w with
    | none => rw [hx] at h; cases h
    | some r =>
      obtain ⟨e1, a1, w1⟩ := r
      rw [hx] at h
      refine exC_ok hc x hx ?_
      cases e1 with
      | normal => exact exC_ok hc y h hq
      | _ => (injection h with h; injection h with h1 h; injection h with h2 h3; subst h1; subst h2; subst h3; exact hq)
  | .region id ops draw, a, a', w, w', e, Q, h, hq => by
    cases draw with
    | true => cases h
    | false =>
      rw [exC] at h
      cases hx : exOps P ops cF ops.toList a w with
      | none => rw [hx] at h; cases h
      | some r =>
        obtain ⟨a1, w1⟩ := r
        rw [hx] at h
        injection h with h; injection h with h1 h; injection h with h2 h3
        subst h1; subst h2; subst h3
        exact wp_region_list (exOps_ok hc _ hx hq)
  | .cond c x y, a, a', w, w', e, Q, h, hq => by
    rw [exC] at h
    cases hv : a.eval c with
    | bool t =>
      rw [hv] at h
      cases t with
      | true => exact wp_cond_true hv (exC_ok hc x h hq)
      | false => exact wp_cond_false hv (exC_ok hc y h hq)
    | _ => rw [hv] at h; cases h
  | .block id c, a, a', w, w', e, Q, h, hq => by
    rw [exC] at h
    refine wp_block ?_
    cases hx : exC P cF c a w with
    | none => rw [hx] at h; cases h
    | some r =>
      obtain ⟨e1, a1, w1⟩ := r
      rw [hx] at h
      refine exC_ok hc c hx ?_
      cases e1 with
      | exit id' =>
        simp only at h
        by_cases hi : id' = id
        · rw [if_pos hi] at h
          injection h with h; injection h with h1 h; injection h with h2 h3
          subst h1; subst h2; subst h3
          show (if id' = id then _ else _)
          rw [if_pos hi]; exact hq
        · rw [if_neg hi] at h
          injection h with h; injection h with h1 h; injection h with h2 h3
          subst h1; subst h2; subst h3
          show (if id' = id then _ else _)
          rw [if_neg hi]; exact hq
      | _ => (injection h with h; injection h with h1 h; injection h with h2 h3; subst h1; subst h2; subst h3; exact hq)
  | .exit id, a, a', w, w', e, Q, h, hq => by
    injection h with h; injection h with h1 h; injection h with h2 h3
    subst h1; subst h2; subst h3
    exact wp_exit hq
  | .ret, a, a', w, w', e, Q, h, hq => by
    injection h with h; injection h with h1 h; injection h with h2 h3
    subst h1; subst h2; subst h3
    exact wp_ret hq
  | .loop c, a, a', w, w', e, Q, h, hq => by cases h
  | .rangeFunc f ps x y, a, a', w, w', e, Q, h, hq => by cases h
  | .scope c, a, a', w, w', e, Q, h, hq => by cases h
  | .label l, a, a', w, w', e, Q, h, hq => by cases h
  | .goto l, a, a', w, w', e, Q, h, hq => by cases h
  | .refuse s, a, a', w, w', e, Q, h, hq => by cases h
theorem exF_ok (P : Program) : ∀ n, CallsOk P (exF P n)
  | 0, f, args, w, v, w', h => by cases h
  | n + 1, f, args, w, v, w', h => by
    rw [exF] at h
    cases hf : P.funcs[f]? with
    | none => rw [hf] at h; cases h
    | some fn =>
      rw [hf] at h
      simp only at h
      cases hb : fn.body with
      | none => rw [hb] at h; cases h
      | some c =>
        rw [hb] at h
        simp only at h
        refine calls_of_wp hf hb ?_
        cases hx : exC P (exF P n) c { tmps := args ++ Array.replicate (fn.ntmps - args.size) undef, defers := [] } w with
        | none => rw [hx] at h; cases h
        | some r =>
          obtain ⟨e1, a1, w1⟩ := r
          rw [hx] at h
          refine exC_ok (exF_ok P n) c hx ?_
          have key : ∀ (h2 : (match a1.defers, fn.results.toList with
              | [], [.tmp t] => some (a1.tmps.getD t undef, w1)
              | _, _ => none) = some (v, w')), bodyPost P fn (fun e w'' => e = .returned v ∧ w'' = w') .ret a1 w1 := by
            intro h2
            split at h2
            · rename_i t hd hr
              injection h2 with h2
              injection h2 with h2 h3
              refine bodyPost_ret (results_tmp (t := t) ?_ _ _ _) hd ⟨by rw [h2], h3⟩
              exact Array.ext' hr
            · cases h2
          cases e1 with
          | normal => exact key h
          | ret => exact key h
          | _ => cases h
theorem calls_ex {P : Program} (n : Nat) {f : FuncId} {args : Array Value} {w : World} {v : Value} (h : ∀ w, exF P n f args w = some (v, w)) : Calls P f args w fun e w' => e = .returned v ∧ w = w' :=
  (exF_ok P n f args w v w (h w)).mono fun _ _ ⟨a, b⟩ => ⟨a, b.symm⟩
end Go.Proofs.YtdjpdllehhecpaaGreatDoor
namespace Go.Proofs.YtdjpdllehhecpaaGreatDoor
open Go.RowKit
set_option linter.unusedVariables false
set_option linter.unusedSimpArgs false
def strI : Operand → ByteArray
  | .const (.string s) => s
  | _ => ByteArray.empty
def strs (fn : Func) : List ByteArray :=
  match fn.body with
  | some (.seq _ (.seq (.region _ ops _) _)) => ops.toList.flatMap fun o => match o.op with
    | .buildSlice _ _ parts => parts.toList.map fun x => strI x.2
    | _ => []
  | _ => []
noncomputable def rowsT : List ByteArray := strs Tryz.f153
theorem rows14_ok (w : World) : Calls Tryz.prog 153 #[] w fun e w' => e = .returned (.slice (some ⟨w.heap.size, 0, none⟩) 14 14) ∧ w' = w.alloc (.cells (rowsT.map Value.string).toArray 9) := by
  go_enter Tryz.func153, Tryz.ntmps153
  refine tab_wp rfl (v := .slice (some ⟨w.heap.size, 0, none⟩) 14 14) (w' := w.alloc (.cells (rowsT.map Value.string).toArray 9)) ?_ ⟨rfl, rfl⟩
  kernel_rfl
def chkRows (T : List ByteArray) : Bool := decide (T.length = 14) && (List.range 14).all fun a => match T[a]? with
  | some s => decide (s.size = 14) && (List.range 14).all fun b => decide (((s.data[b]?.getD 0).toNat : Int) - 48 = pairF a b)
  | none => false
theorem rows_chk : chkRows rowsT = true := by kernel_rfl
theorem rjoin14_ok (a b : Int) (ha0 : 0 ≤ a) (ha1 : a ≤ 13) (hb0 : 0 ≤ b) (hb1 : b ≤ 13) (w : World) :
    Calls Tryz.prog 110 #[.int .i64 a, .int .i64 b] w fun e w' => e = .returned (.int .i64 (pairF a b)) ∧ Below w.heap.size w w' := by
  obtain ⟨n, rfl⟩ := Int.eq_ofNat_of_zero_le ha0
  obtain ⟨m, rfl⟩ := Int.eq_ofNat_of_zero_le hb0
  have d1 : decide (13 < (n : Int)) = false := decide_eq_false (by omega)
  have d3 : decide (13 < (m : Int)) = false := decide_eq_false (by omega)
  have hn14 : (n : Int) < 14 := by omega
  have hm14 : (m : Int) < 14 := by omega
  have hc := rows_chk
  unfold chkRows at hc
  rw [Bool.and_eq_true] at hc
  have hc2 := List.all_eq_true.1 hc.2 n (List.mem_range.2 (by omega))
  have hlen : n < rowsT.length := by rw [of_decide_eq_true hc.1]; omega
  rw [List.getElem?_eq_getElem hlen] at hc2
  obtain ⟨s, hs⟩ : ∃ s, rowsT[n] = s := ⟨_, rfl⟩
  rw [hs] at hc2
  simp only at hc2
  rw [Bool.and_eq_true] at hc2
  have hsz : s.size = 14 := of_decide_eq_true hc2.1
  have hv : ((s.data[m]?.getD 0).toNat : Int) - 48 = pairF n m := of_decide_eq_true (List.all_eq_true.1 hc2.2 m (List.mem_range.2 (by omega)))
  have HV := hide hv
  have HR := hide (fun w => (rows14_ok w).mono (R' := fun e w' => ∃ g, e = .returned (.slice (some ⟨g, 0, none⟩) 14 14) ∧ w'.cell? ⟨g, n, none⟩ = some (.string s) ∧ Below w.heap.size w w') (by
    rintro e w' ⟨rfl, rfl⟩
    refine ⟨w.heap.size, rfl, ?_, (Below.refl _ w).alloc (Nat.le_refl _) _⟩
    rw [(Blk.new w _ _).cell, List.getElem?_toArray, List.getElem?_map, List.getElem?_eq_getElem hlen, hs]; rfl))
  clear hc hc2 hv ha0 ha1 hb0 hb1 hs hlen
  go_enter Tryz.func110, Tryz.ntmps110
  go_wp2_with fail
  refine (HR.out _).mono ?_
  rintro e w1 ⟨g, rfl, x0, hb⟩
  go_wp2
  go_ret
  have hm : m < s.size := by omega
  have hx : s.data[m]?.getD 0 = s[m] := by
    have hm2 : m < s.data.size := hm
    rw [Array.getElem?_eq_getElem hm2]; rfl
  have hl : s[m].toNat < 256 := s[m].toNat_lt
  refine ⟨?_, hb⟩
  show Ending.returned (Value.int IntKind.i64 (wrap64 (wrap64 (s[m].toNat : Int) - 48))) = _
  rw [← HV.out, hx]
  have w1 : ∀ x : Int, -9223372036854775808 ≤ x → x ≤ 9223372036854775807 → wrap64 x = x := fun x h1 h2 => by unfold wrap64; omega
  rw [w1 (s[m].toNat : Int) (by omega) (by omega), w1 _ (by omega) (by omega)]
end Go.Proofs.YtdjpdllehhecpaaGreatDoor
namespace Go.Proofs.YtdjpdllehhecpaaGreatDoor
open Go.RowKit
set_option linter.unusedVariables false
theorem Lead_ok (b : Int) (h0 : 0 ≤ b) (h1 : b ≤ 255) (w : World) :
    Calls Tryz.prog 129 #[.int .u8 b] w fun e w' => e = .returned (.int .i64 (leadF b)) ∧ w = w' := by
  go_enter Tryz.func129, Tryz.ntmps129
  go_wp2
  all_goals go_ret
  all_goals exact ⟨ret_1 (int_eq (by unfold leadF; omega)), rfl⟩
theorem Second_ok (b : Int) (h0 : 0 ≤ b) (h1 : b ≤ 255) (w : World) :
    Calls Tryz.prog 131 #[.int .u8 b] w fun e w' => e = .returned (.tuple #[.int .u8 (loF b), .int .u8 (hiF b)]) ∧ w = w' := by
  have hl := leadF_range b
  go_enter Tryz.func131, Tryz.ntmps131
  go_wp2_with (refine (Lead_ok _ (by omega) (by omega) _).mono ?_; rintro e w' ⟨rfl, rfl⟩)
  all_goals go_ret2
  all_goals (refine ⟨ret_2 (int_eq ?_) (int_eq ?_), rfl⟩ <;> (go_tidy; (try simp only [beq_iff_eq, beq_eq_false_iff_ne, ne_eq] at *); simp only [loF, hiF]; omega))
theorem Bits_ok (b : Int) (h0 : 0 ≤ b) (h1 : b ≤ 255) (w : World) :
    Calls Tryz.prog 130 #[.int .u8 b] w fun e w' => e = .returned (.int .i64 (bitsF b)) ∧ w = w' := by
  have hl := leadF_range b
  have hL := Lead_ok b h0 h1 w
  have m2 := i64_mask b 5 h0 (by omega) (by omega) 31 (by simp)
  have m3 := i64_mask b 4 h0 (by omega) (by omega) 15 (by simp)
  have m4 := i64_mask b 3 h0 (by omega) (by omega) 7 (by simp)
  simp at m2 m3 m4
  have hc : leadF b = 0 ∨ leadF b = 1 ∨ leadF b = 2 ∨ leadF b = 3 ∨ leadF b = 4 := by omega
  rcases hc with h | h | h | h | h
  all_goals
    rw [h] at hL
    have H := hide h
    have HL := hide hL
    clear h hL hl
    go_enter Tryz.func130, Tryz.ntmps130
    go_wp2_with (refine HL.out.mono ?_; rintro e w' ⟨rfl, rfl⟩)
    go_ret
    refine ⟨ret_1 (int_eq ?_), rfl⟩
    go_tidy
    unfold bitsF
    rw [H.out]
    simp
end Go.Proofs.YtdjpdllehhecpaaGreatDoor
namespace Go.Proofs.YtdjpdllehhecpaaGreatDoor
open Go.RowKit
set_option linter.unusedVariables false
def DecAt (w : World) (g : Nat) (d : Dec) : Prop := Blk w g 113 #[.int .i64 d.held, .int .i64 d.needs, .int .u8 d.lo, .int .u8 d.hi, .int .i64 d.bits]
theorem DecAt.cells {w : World} {g : Nat} {d : Dec} (h : DecAt w g d) :
    g < w.heap.size ∧ w.cell? ⟨g, 0, none⟩ = some (.int .i64 d.held) ∧ w.cell? ⟨g, 1, none⟩ = some (.int .i64 d.needs) ∧ w.cell? ⟨g, 2, none⟩ = some (.int .u8 d.lo) ∧ w.cell? ⟨g, 3, none⟩ = some (.int .u8 d.hi) ∧
      w.cell? ⟨g, 4, none⟩ = some (.int .i64 d.bits) ∧ w.frozen? ⟨g, 0, none⟩ = false ∧ w.frozen? ⟨g, 1, none⟩ = false ∧ w.frozen? ⟨g, 2, none⟩ = false ∧ w.frozen? ⟨g, 3, none⟩ = false ∧ w.frozen? ⟨g, 4, none⟩ = false :=
  ⟨h.lt, h.cell 0, h.cell 1, h.cell 2, h.cell 3, h.cell 4, h.frozen 0, h.frozen 1, h.frozen 2, h.frozen 3, h.frozen 4⟩
theorem own_one (w : World) (n : Int) (h : (Lit.int .i32 n).wf = true) (base : Nat) (hb : base ≤ w.heap.size) : Own (Rep.int .i32) 21 [] base (w.alloc (.cells #[.int .i32 n] 21)) (.slice (some ⟨w.heap.size, 0, none⟩) 1 1) [n] :=
  Own.lit (xs := [.int .i32 n]) (by simp) (els_ints .i32 _ w [n] (by intro m hm; simp at hm; subst hm; exact h)) hb rfl (by simp [maxLen])
theorem own_one' (w : World) (n : Int) (h : (Lit.int .i32 n).wf = true) (base m : Nat) (hb : base ≤ m) (hm : m = w.heap.size) : Own (Rep.int .i32) 21 [] base (w.alloc (.cells #[.int .i32 n] 21)) (.slice (some ⟨m, 0, none⟩) 1 1) [n] := by
  subst hm; exact own_one w n h base hb
def Small (d : Dec) : Prop := 0 ≤ d.held ∧ d.held ≤ 10 ∧ 0 ≤ d.needs ∧ d.needs ≤ 10 ∧ 0 ≤ d.lo ∧ d.lo ≤ 255 ∧ 0 ≤ d.hi ∧ d.hi ≤ 255 ∧ 0 ≤ d.bits ∧ d.bits ≤ 524288
theorem or_low (a b : Int) (h0 : 0 ≤ a) (h1 : a ≤ 524288) (hb0 : 0 ≤ b) (hb1 : b ≤ 63) : bits .or .i64 (a * 64) b = a * 64 + b := by
  obtain ⟨m, rfl⟩ := Int.eq_ofNat_of_zero_le h0
  obtain ⟨n, rfl⟩ := Int.eq_ofNat_of_zero_le hb0
  have := i64_or_nat (m * 64) n (by omega) (by omega)
  have e : ((m * 64 : Nat) : Int) = (m : Int) * 64 := by simp
  rw [e] at this
  rw [this]
  have h2 : m * 64 ||| n = m * 64 + n := by
    have := Nat.two_pow_add_eq_or_of_lt (i := 6) (b := n) (by omega) m
    simp at this
    rw [Nat.mul_comm m 64, ← this]
  rw [h2]; simp
structure Holds (w : World) (g : Nat) (h : List Int) : Prop where
  at_ : DecAt w g (decOf h)
  pre : Pre h
  bytes : Bytes h
theorem small_of {h : List Int} (hp : Pre h) (hb : Bytes h) : Small (decOf h) := by
  cases h with
  | nil => simp [Small, decOf]
  | cons b0 r =>
    have hb0 := hb b0 (by simp)
    obtain ⟨p1, p2, p3, p4, p5, p6⟩ := pre_facts b0 r hp hb0
    have hl := leadF_range b0
    have hlo := lo_range b0
    have hhi := hi_range b0
    unfold Small
    simp only [decOf]
    refine ⟨by omega, by omega, by omega, by omega, ?_, ?_, ?_, ?_, by omega, by omega⟩ <;> split <;> omega
theorem dec_held (h : List Int) : (decOf h).held = (h.length : Int) := by
  cases h <;> simp [decOf]
end Go.Proofs.YtdjpdllehhecpaaGreatDoor
namespace Go.Proofs.YtdjpdllehhecpaaGreatDoor
open Go.RowKit
set_option linter.unusedVariables false
theorem u8_mask6 (b : Int) (hb0 : 0 ≤ b) (hb1 : b ≤ 255) : bits .and .u8 b 63 = b % 64 := by
  obtain ⟨n, rfl⟩ := Int.eq_ofNat_of_zero_le hb0
  show IntKind.u8.wrap ((BitVec.ofInt 8 (n : Int) &&& BitVec.ofInt 8 63).toNat : Int) = _
  rw [BitVec.toNat_and, BitVec.ofInt_natCast, BitVec.toNat_ofNat, Nat.mod_eq_of_lt (by omega)]
  have e : (BitVec.ofInt 8 63).toNat = 2 ^ 6 - 1 := by decide
  rw [e, Nat.and_two_pow_sub_one_eq_mod]
  simp [IntKind.wrap, IntKind.signed, IntKind.bits]
  omega
set_option maxHeartbeats 1000000 in
theorem reach_ok (So Si : Nat → Prop) (x : Value) (b0 : Int) (r : List Int) (w : World) (hx : Slc (Rep.int .u8) So Si w x (b0 :: r)) (hlen : r.length ≤ 1000000) :
    Calls Tryz.prog 105 #[x] w fun e w' => e = .returned (.tuple #[.int .i64 (reachK (b0 :: r) : Int), .int .i64 (leadF b0)]) ∧ w = w' := by
  have hb0 := u8_wf (hx.ints_wf b0 (by simp))
  obtain ⟨A, c, rfl, hc1, hc2, hB⟩ := hx.open_
  obtain ⟨ab, off, rfl, _, hc0, _⟩ := ints_at hB (j := 0) (by simp)
  simp only [Nat.add_zero, List.getElem_cons_zero] at hc0
  have hlen' : (b0 :: r).length = r.length + 1 := rfl
  rw [hlen'] at *
  have hl := leadF_range b0
  by_cases h2 : leadF b0 < 2
  · have hk : (reachK (b0 :: r) : Int) = leadF b0 := by simp only [reachK, if_pos h2]; omega
    have HK := hide hk
    clear hk
    go_enter Tryz.func105, Tryz.ntmps105
    go_wp2_with (first | (go_at_call 129; refine (Lead_ok _ (by omega) (by omega) _).mono ?_; rintro e w' ⟨rfl, rfl⟩))
    go_ret2
    exact ⟨ret_2 (int_eq HK.out.symm) rfl, rfl⟩
  · have hlor := lo_range b0
    have hhir := hi_range b0
    have hk : reachK (b0 :: r) = 1 + cntT (leadF b0 - 1).toNat (loF b0) (hiF b0) r := by simp only [reachK, if_neg h2]
    have HK := hide hk
    clear hk
    go_enter Tryz.func105, Tryz.ntmps105
    go_wp2_with (first | (go_at_call 129; refine (Lead_ok _ (by omega) (by omega) _).mono ?_; rintro e w' ⟨rfl, rfl⟩) | (go_at_call 131; refine (Second_ok _ (by omega) (by omega) _).mono ?_; rintro e w' ⟨rfl, rfl⟩))
    go_loop [5, 6, 7] (fun lo hi k => ∃ (j : Nat) (lo' hi' : Int), (j : Int) + 1 ≤ leadF b0 ∧ j ≤ r.length ∧ k = .int .i64 (j + 1 : Nat) ∧ lo = .int .u8 lo' ∧ hi = .int .u8 hi' ∧ (lo' = if j = 0 then loF b0 else 128) ∧ (hi' = if j = 0 then hiF b0 else 191) ∧
        cntT (leadF b0 - 1).toNat (loF b0) (hiF b0) r = j + cntT ((leadF b0 - 1).toNat - j) lo' hi' (r.drop j))
      (fun _ _ k => r.length + 1 - (intOf k).toNat)
    case atStart => exact ⟨0, _, _, by omega, by omega, rfl, rfl, rfl, by simp, by simp, by simp⟩
    case round =>
      obtain ⟨j, lo', hi', hj1, hj2, rfl, rfl, rfl, h0, h1, hall⟩ := hrel
      have HALL := hide hall
      have H0 := hide h0
      have H1 := hide h1
      have hlo' : 0 ≤ lo' ∧ lo' ≤ 255 ∧ 0 ≤ hi' ∧ hi' ≤ 255 := by rw [h0, h1]; split <;> omega
      clear hall h0 h1
      by_cases hjm : (j : Int) + 1 < leadF b0
      · by_cases hjr : j < r.length
        · have hjr' : (j : Int) + 1 < (r.length : Int) + 1 := by omega
          obtain ⟨ab', off', ha', _, hck, hwk⟩ := ints_at hB (j := j + 1) (by simp; omega)
          obtain ⟨rfl, rfl⟩ : ab = ab' ∧ off = off' := by simpa using ha'
          simp only [List.getElem_cons_succ] at hck hwk
          obtain ⟨hw0, hw1⟩ := u8_wf hwk
          obtain ⟨hs1, hs2⟩ := cntT_step _ _ _ r j hjr (by omega) lo' hi' H0.out H1.out HALL.out
          have HS1 := hide hs1
          have HS2 := hide hs2
          clear hs1 hs2
          have hcase : r[j] < lo' ∨ (lo' ≤ r[j] ∧ hi' < r[j]) ∨ (lo' ≤ r[j] ∧ r[j] ≤ hi') := by omega
          rcases hcase with hy | hy | hy
          · go_wp2
            go_ret2
            exact ⟨ret_2 (int_eq (by rw [HK.out, HS2.out (by omega)]; omega)) rfl, rfl⟩
          · go_wp2
            go_ret2
            exact ⟨ret_2 (int_eq (by rw [HK.out, HS2.out (by omega)]; omega)) rfl, rfl⟩
          · go_wp2
            go_round
            case rel => exact ⟨j + 1, 128, 191, by omega, by omega, by go_num, rfl, rfl, by simp, by simp, HS1.out hy⟩
            case measure => simp [intOf]; omega
        · have hjr' : (r.length : Int) + 1 ≤ (j : Int) + 1 := by omega
          have hdone : cntT (leadF b0 - 1).toNat (loF b0) (hiF b0) r = j := by
            rw [HALL.out, List.drop_eq_nil_of_le (by omega)]; simp [cntT]
          have HD := hide hdone
          clear hdone
          go_wp2
          go_ret2
          exact ⟨ret_2 (int_eq (by rw [HK.out, HD.out]; omega)) rfl, rfl⟩
      · have hdone : cntT (leadF b0 - 1).toNat (loF b0) (hiF b0) r = j := by
          have e : (leadF b0 - 1).toNat - j = 0 := by omega
          rw [HALL.out, e]
          cases r.drop j <;> simp [cntT]
        have HD := hide hdone
        clear hdone
        go_wp2
        go_ret2
        exact ⟨ret_2 (int_eq (by rw [HK.out, HD.out]; omega)) rfl, rfl⟩
set_option maxHeartbeats 1000000 in
theorem value_ok (So Si : Nat → Prop) (x : Value) (b0 : Int) (r : List Int) (w : World) (hx : Slc (Rep.int .u8) So Si w x (b0 :: r)) (hr : r.length ≤ 3) (hl : leadF b0 = (r.length : Int) + 1) (ht : ∀ b ∈ r, 128 ≤ b ∧ b ≤ 191) :
    Calls Tryz.prog 106 #[x] w fun e w' => e = .returned (.int .i32 (wholeF (b0 :: r))) ∧ w = w' := by
  have hb0 := u8_wf (hx.ints_wf b0 (by simp))
  have hbd := accF_bound b0 r hb0 hr hl ht
  have hwh : wholeF (b0 :: r) = accF (b0 :: r) r.length := by unfold wholeF; simp
  obtain ⟨A, c, rfl, hc1, hc2, hB⟩ := hx.open_
  obtain ⟨ab, off, rfl, _, hc0, _⟩ := ints_at hB (j := 0) (by simp)
  simp only [Nat.add_zero, List.getElem_cons_zero] at hc0
  have hlen' : (b0 :: r).length = r.length + 1 := rfl
  rw [hlen'] at *
  have h00 : accF (b0 :: r) 0 = bitsF b0 := rfl
  have hstep : ∀ k, accF (b0 :: r) (k + 1) = accF (b0 :: r) k * 64 + (b0 :: r).getD (k + 1) 0 - 128 := fun k => rfl
  have hget : ∀ k (hk : k < r.length), (b0 :: r).getD (k + 1) 0 = r[k] := fun k hk => by simp [List.getD, hk]
  generalize hac : accF (b0 :: r) = ac at *
  generalize hfg : (b0 :: r).getD = fg at *
  have H00 := hide h00
  have HST := hide hstep
  have HG := hide hget
  have HW := hide hwh
  clear h00 hstep hget hwh hac hfg
  by_cases hc : c = 1
  · have hr0 : r = [] := List.eq_nil_of_length_eq_zero (by simp at hc1; omega)
    have HR := hide hr0
    have hl0 : r.length = 0 := by rw [hr0]; rfl
    have hb1 := hbd 0 (by omega)
    have hb2 := bitsF_range b0 hb0
    rw [hl0] at *
    clear hr0 hl0
    subst hc
    go_enter Tryz.func106, Tryz.ntmps106
    go_wp2_with (first | (go_at_call 130; refine (Bits_ok _ (by omega) (by omega) _).mono ?_; rintro e w' ⟨rfl, rfl⟩))
    refine wp_loop_rounds 1 ?_
    rw [rounds_succ]
    go_wp2
    go_ret
    exact ⟨ret_1 (int_eq (by rw [HW.out, show r.length = 0 from by rw [HR.out]; rfl, H00.out])), rfl⟩
  · have hb6 : ∀ b : Int, 0 ≤ b → b ≤ 255 → bits .and .u8 b 63 = b % 64 := u8_mask6
    go_enter Tryz.func106, Tryz.ntmps106
    go_wp2_with (first | (go_at_call 130; refine (Bits_ok _ (by omega) (by omega) _).mono ?_; rintro e w' ⟨rfl, rfl⟩))
    go_loop [3, 13] (fun v i => ∃ k : Nat, k ≤ r.length ∧ i = .int .i64 k ∧ v = .int .i64 (ac k)) (fun _ i => r.length - (intOf i).toNat)
    case atStart => exact ⟨0, by omega, rfl, int_eq (by rw [H00.out])⟩
    case round =>
      obtain ⟨k, hk, rfl, rfl⟩ := hrel
      have hb1 := hbd k hk
      by_cases hlt : k < r.length
      · obtain ⟨ab', off', ha', _, hck, hwk⟩ := ints_at hB (j := k + 1) (by simp; omega)
        obtain ⟨rfl, rfl⟩ : ab = ab' ∧ off = off' := by simpa using ha'
        simp only [List.getElem_cons_succ] at hck hwk
        obtain ⟨hw0, hw1⟩ := u8_wf hwk
        have hm := ht r[k] (List.getElem_mem _)
        have hb2 := hbd (k + 1) (by omega)
        have hst := HST.out k
        rw [HG.out k hlt] at hst
        have HS := hide hst
        have h6 := hb6 r[k] hw0 hw1
        have hck2 : w.cell? ⟨ab, off + 1 + k, none⟩ = some (.int .u8 r[k]) := by rw [show off + 1 + k = off + (k + 1) by omega]; exact hck
        have hsm : ac k ≤ 524288 := by have := HS.out; omega
        have hor := or_low (ac k) (r[k] % 64) hb1.1 hsm (by omega) (by omega)
        clear hst hb6
        go_wp2
        go_round
        case rel => exact ⟨k + 1, by omega, by go_num, int_eq (by rw [HS.out]; omega)⟩
        case measure => simp [intOf]; omega
      · obtain rfl : k = r.length := by omega
        go_wp2
        go_ret
        exact ⟨ret_1 (int_eq (by rw [HW.out])), rfl⟩
def gotCells (g : Got) : List Value := [.int .i32 g.r, .int .i64 g.at_, .int .i64 g.len, .int .i64 g.known, .bool g.bad]
def RGot : Rep Got := Rep.flat 5 gotCells (fun _ => rfl) (fun _ => by simp [gotCells, Value.oneCell'])
theorem RGot.flat : Flat RGot := Flat.flat _ _ _ _
end Go.Proofs.YtdjpdllehhecpaaGreatDoor
namespace Go.Proofs.YtdjpdllehhecpaaGreatDoor
open Go.RowKit
set_option linter.unusedVariables false
set_option maxHeartbeats 1000000 in
theorem part_ok (So Si : Nat → Prop) (x : Value) (b0 : Int) (r : List Int) (pos : Int) (w : World) (hx : Slc (Rep.int .u8) So Si w x (b0 :: r)) (hlen : r.length ≤ 1000000) (hp0 : 0 ≤ pos) (hp1 : pos ≤ 1000000) :
    Calls Tryz.prog 70 #[x, .int .i64 pos] w fun e w' => e = .returned (.agg (gotCells (partF (b0 :: r) pos)).toArray) ∧ Below w.heap.size w w' := by
  have hrc := reach_le b0 r
  have hb0 := u8_wf (hx.ints_wf b0 (by simp))
  have hwhole := reach_whole b0 r
  obtain ⟨A, c, rfl, hc1, hc2, hB⟩ := hx.open_
  have hlen' : (b0 :: r).length = r.length + 1 := rfl
  rw [hlen'] at *
  have hxa := hx.ints_keep (Keep.alloc So w (.cells #[.int .i32 0, .int .i64 0, .int .i64 0, .int .i64 0, .bool false] 97))
  have hR := reach_ok _ _ _ b0 r _ hxa hlen
  have HR := hide hR
  have HW := hide hwhole
  clear hR hwhole hlen'
  by_cases h0 : reachK (b0 :: r) = 0
  · have hp : partF (b0 :: r) pos = ⟨65533, pos, 1, pos + 1, true⟩ := by unfold partF; rw [if_pos h0]
    have HP := hide hp
    have n0 : ((reachK (b0 :: r) : Int) == 0) = true := by simp [h0]
    clear hp h0
    go_enter Tryz.func70, Tryz.ntmps70
    go_wp2_with (go_at_call 105; refine HR.out.mono ?_; rintro e w' ⟨rfl, rfl⟩)
    refine bodyPost_ret (v := .agg #[.int .i32 65533, .int .i64 pos, .int .i64 1, .int .i64 (pos + 1), .bool true]) (by simp [results, Tryz.results70, go_sem] <;> omega) rfl ⟨?_, (Below.refl _ _).alloc (Nat.le_refl _) _⟩
    rw [HP.out]; rfl
  · have n0 : ((reachK (b0 :: r) : Int) == 0) = false := by simpa using h0
    by_cases h1 : (reachK (b0 :: r) : Int) < leadF b0
    · have hp : partF (b0 :: r) pos = ⟨65533, pos, reachK (b0 :: r), pos + min ((reachK (b0 :: r) : Int) + 1) ((r.length : Int) + 1), true⟩ := by
        unfold partF; rw [if_neg h0, if_pos (by simpa using h1)]; simp
      have HP := hide hp
      generalize hkk : reachK (b0 :: r) = k at *
      clear hp h0 hkk
      by_cases hmn : k ≤ r.length
      · have hmin : min ((k : Int) + 1) ((r.length : Int) + 1) = k + 1 := by omega
        have HM := hide hmin
        have hm2 : (k : Int) ≤ r.length := by omega
        clear hmin
        go_enter Tryz.func70, Tryz.ntmps70
        go_wp2_with (go_at_call 105; refine HR.out.mono ?_; rintro e w' ⟨rfl, rfl⟩)
        refine bodyPost_ret (v := .agg #[.int .i32 65533, .int .i64 pos, .int .i64 k, .int .i64 (pos + ((k : Int) + 1)), .bool true]) (by simp [results, Tryz.results70, go_sem] <;> omega) rfl ⟨?_, (Below.refl _ _).alloc (Nat.le_refl _) _⟩
        rw [HP.out, HM.out]; rfl
      · have hmin : min ((k : Int) + 1) ((r.length : Int) + 1) = (r.length : Int) + 1 := by omega
        have HM := hide hmin
        have hm2 : (r.length : Int) < k := by omega
        clear hmin
        go_enter Tryz.func70, Tryz.ntmps70
        go_wp2_with (go_at_call 105; refine HR.out.mono ?_; rintro e w' ⟨rfl, rfl⟩)
        refine bodyPost_ret (v := .agg #[.int .i32 65533, .int .i64 pos, .int .i64 k, .int .i64 (pos + ((r.length : Int) + 1)), .bool true]) (by simp [results, Tryz.results70, go_sem] <;> omega) rfl ⟨?_, (Below.refl _ _).alloc (Nat.le_refl _) _⟩
        rw [HP.out, HM.out]; rfl
    · have hp : partF (b0 :: r) pos = ⟨wholeF ((b0 :: r).take (reachK (b0 :: r))), pos, reachK (b0 :: r), pos + reachK (b0 :: r), false⟩ := by
        unfold partF; rw [if_neg h0, if_neg (by simpa using h1)]
      obtain ⟨t, ht1, ht2, ht3, ht4, ht5, ht6⟩ := HW.out h0 h1
      rw [ht1] at hp
      have HP := hide hp
      have hxf := hxa.front (k := reachK (b0 :: r)) (by rw [List.length_cons]; omega)
      rw [ht1] at hxf
      have hV := value_ok _ _ _ b0 t _ hxf ht3 ht2.symm ht4
      have hac := accF_bound b0 t hb0 ht3 ht2.symm ht4 t.length (Nat.le_refl _)
      have HV := hide hV
      generalize hkk : reachK (b0 :: r) = k at *
      clear hp h0 hkk hV ht1 ht2 ht3 ht4 ht5 ht6 hxf hac
      have h1' : leadF b0 ≤ (k : Int) := by omega
      have hkc : (k : Int) ≤ c := by simp at hc1; omega
      clear h1
      go_enter Tryz.func70, Tryz.ntmps70
      go_wp2_with (first | (go_at_call 105; refine HR.out.mono ?_; rintro e w' ⟨rfl, rfl⟩) | (go_at_call 106; refine HV.out.mono ?_; rintro e w' ⟨rfl, rfl⟩))
      refine bodyPost_ret (v := .agg #[.int .i32 (wholeF (b0 :: t)), .int .i64 pos, .int .i64 k, .int .i64 (pos + k), .bool false]) (by simp [results, Tryz.results70, go_sem] <;> omega) rfl ⟨?_, (Below.refl _ _).alloc (Nat.le_refl _) _⟩
      rw [HP.out]; rfl
theorem part_at (So Si : Nat → Prop) (x : Value) (b0 : Int) (r : List Int) (pos : Int) (w : World) (hx : Slc (Rep.int .u8) So Si w x (b0 :: r)) (hlen : r.length ≤ 1000000) (hp0 : 0 ≤ pos) (hp1 : pos ≤ 1000000) (g : Got) (hg : partF (b0 :: r) pos = g) :
    Calls Tryz.prog 70 #[x, .int .i64 pos] w fun e w' => e = .returned (.agg #[.int .i32 g.r, .int .i64 g.at_, .int .i64 g.len, .int .i64 g.known, .bool g.bad]) ∧ Below w.heap.size w w' := by
  subst hg
  exact part_ok So Si x b0 r pos w hx hlen hp0 hp1
theorem got_info : (Tryz.prog.info? 97).map (fun i => (i.zero, i.size, i.bytes)) = some (some (.agg #[.int .i32 0, .int .i64 0, .int .i64 0, .int .i64 0, .bool false]), RGot.sz, 40) := by kernel_rfl
theorem drop_cons {l : List Int} {k : Nat} (h : k < l.length) : ∃ b0 r, l.drop k = b0 :: r ∧ r.length + 1 = l.length - k :=
  ⟨l[k], l.drop (k + 1), List.drop_eq_getElem_cons h, by simp; omega⟩
theorem all_len : ∀ (n : Nat) (b : List Int) (pos : Int), (allN n b pos).length ≤ n
  | 0, _, _ => by simp [allN]
  | n + 1, b, pos => by
    simp only [allN]
    split
    · simp
    · simp; exact all_len n _ _
set_option maxHeartbeats 1000000 in
theorem All_ok (So Si : Nat → Prop) (x : Value) (l : List Int) (w : World) (hx : Slc (Rep.int .u8) So Si w x l) (hlen : l.length ≤ 100000) :
    Calls Tryz.prog 42 #[x] w fun e w' => ∃ v, e = .returned v ∧ Own RGot 97 [] w.heap.size w' v (allF l) ∧ Below w.heap.size w w' := by
  obtain ⟨A, c, rfl, hc1, hc2, _⟩ := hx.open_
  go_enter Tryz.func42, Tryz.ntmps42
  go_wp2
  go_loopw [3, 4] (fun out i wr => ∃ (k : Nat) (done : List Got), k ≤ l.length ∧ i = .int .i64 k ∧ done.length ≤ k ∧ allF l = done ++ allN (l.drop k).length (l.drop k) k ∧ Own RGot 97 [] w.heap.size wr out done ∧ Below w.heap.size w wr)
    (fun _ i _ => l.length - (intOf i).toNat)
  case atStart => exact ⟨0, [], Nat.zero_le _, rfl, by simp, by simp [allF], Own.nil_ _ _ _ _ _ (by simp), Below.refl _ _⟩
  case round =>
    obtain ⟨k, done, hk, rfl, hdl, hall, hown, hbel⟩ := hrel
    have hsz := hbel.size
    have HALL := hide hall
    clear hall
    by_cases hlt : k < l.length
    · obtain ⟨b0, r, hdr, hrl⟩ := drop_cons hlt
      have hxk := (hx.ints_keep (Keep.below (S := So) hbel)).cut (k := k) (by omega)
      rw [hdr] at hxk
      have hrl2 : ((l.length - k : Nat) : Int) = (r.length : Int) + 1 := by omega
      have hck : ¬ c = k := by omega
      have hpl := partLen_le b0 r
      have hpp := partLen_pos (b0 :: r)
      have hpq := part_len (b0 :: r) k
      have hac := all_cons b0 r k
      have HAC := hide hac
      have HDR := hide hdr
      have hdd : (l.drop k).drop (partLen (b0 :: r)) = l.drop (k + partLen (b0 :: r)) := by rw [List.drop_drop]
      rw [hdr] at hdd
      have HDD := hide hdd
      rw [if_neg hck, show k * (Rep.int .u8).sz = k from Nat.mul_one k] at hxk
      clear hac hdr hdd
      go_wp2_with fail
      obtain ⟨g, hpg⟩ : ∃ g, partF (b0 :: r) ↑k = g := ⟨_, rfl⟩
      rw [hpg] at hpq
      refine (part_at _ _ _ b0 r _ _ hxk (by omega) (by omega) (by omega) g hpg).mono ?_
      rintro e w1 ⟨rfl, hb1⟩
      have hown1 := hown.below hb1
      have hsz1 := hb1.size
      have hgl := hpq.1
      have hga := hpq.2
      have hown2 := (hown1.alloc (.cells #[.int .i32 g.r, .int .i64 g.at_, .int .i64 g.len, .int .i64 g.known, .bool g.bad] 97)).alloc (.cells #[.int .i32 g.r, .int .i64 g.at_, .int .i64 g.len, .int .i64 g.known, .bool g.bad] 97)
      have hone : Slc RGot (fun _ => True) (fun _ => False) ((w1.alloc (.cells #[.int .i32 g.r, .int .i64 g.at_, .int .i64 g.len, .int .i64 g.known, .bool g.bad] 97)).alloc (.cells #[.int .i32 g.r, .int .i64 g.at_, .int .i64 g.len, .int .i64 g.known, .bool g.bad] 97)) (.slice (some ⟨w1.heap.size + 1, 0, none⟩) 1 1) [g] :=
        Slc.one_flat 97 (w1.alloc (.cells #[.int .i32 g.r, .int .i64 g.at_, .int .i64 g.len, .int .i64 g.known, .bool g.bad] 97)) (w1.heap.size + 1) (by simp) g _ rfl
      have hbl : 1 ≤ g.len ∧ g.len ≤ 4 := by omega
      have HGL := hide hgl
      have HPG := hide hpg
      clear hgl hpq hga hpg
      have hb3 : Blk ((w1.alloc (.cells #[.int .i32 g.r, .int .i64 g.at_, .int .i64 g.len, .int .i64 g.known, .bool g.bad] 97)).alloc (.cells #[.int .i32 g.r, .int .i64 g.at_, .int .i64 g.len, .int .i64 g.known, .bool g.bad] 97)) w1.heap.size 97 #[.int .i32 g.r, .int .i64 g.at_, .int .i64 g.len, .int .i64 g.known, .bool g.bad] := (Blk.new w1 _ _).alloc _
      have hne : ∀ q, u3.ownBlock = some q → q < w1.heap.size := fun q hq => by have := (hown.lt_ q hq).2; omega
      have HNE := hide hne
      clear hne
      go_wp2_with (at_builtin; refine wpList_appf rfl (.tmp 15) (.tmp 17) 94 rfl RGot RGot.flat 97 w.heap.size 40 _ Tryz.underlying94 got_info rfl (by decide) (by decide) _ _ rfl hown2 _ _ _ _ rfl hone (by simp; omega) (by simp; omega) ?_; intro v3 w3 hv3 hst3 hgr3; have hc3 := (hb3.grown hgr3 (fun e => by have := HNE.out _ e.symm; omega)).cell 2; simp only [zA, zB, zC] at hc3)
      go_roundw
      case rel =>
        have hst : Step w.heap.size [97] w1 w3 := ((Step.alloc1 _ _ w1 _).alloc _).trans hst3
        refine ⟨k + partLen (b0 :: r), done ++ [g], by omega, int_eq (by rw [HGL.out]; simp), by simp; omega, ?_, hv3, (hbel.trans (hb1.mono hsz)).trans ((hst.below (by omega)))⟩
        have h1 := HALL.out
        rw [HDR.out, HAC.out, HPG.out, HDD.out] at h1
        rw [h1]
        simp
      case measure => simp [intOf]; omega
    · have e : l.drop k = [] := List.drop_eq_nil_of_le (by omega)
      have hres : allF l = done := by rw [HALL.out, e]; simp [allN]
      have HRES := hide hres
      clear e hres
      go_wp2
      go_ret
      rw [HRES.out]
      exact ⟨_, rfl, hown, hbel⟩
end Go.Proofs.YtdjpdllehhecpaaGreatDoor
namespace Go.Proofs.YtdjpdllehhecpaaGreatDoor
open Go.RowKit
set_option linter.unusedVariables false
set_option maxHeartbeats 1000000 in
theorem some_ok1 (So Si : Nat → Prop) (x : Value) (b0 : Int) (r : List Int) (w : World) (hx : Slc (Rep.int .u8) So Si w x (b0 :: r)) (hr : r.length ≤ 0) :
    Calls Tryz.prog 107 #[x, .int .i64 1] w fun e w' => e = .returned (.bool (someB b0 r 1)) ∧ Below w.heap.size w w' := by
  have hwf := hx.ints_wf
  have hb0 := u8_wf (hwf b0 (by simp))
  obtain ⟨A, c, rfl, hc1, hc2, hB⟩ := hx.open_
  obtain ⟨ab, off, rfl, _, hc0, _⟩ := ints_at hB (j := 0) (by simp)
  simp only [Nat.add_zero, List.getElem_cons_zero] at hc0
  have hcell : ∀ k, k < r.length → w.cell? ⟨ab, off + (k + 1), none⟩ = some (.int .u8 (r.getD k 0)) ∧ 0 ≤ r.getD k 0 ∧ r.getD k 0 ≤ 255 := by
    intro k hk
    omega
  have habl := World.block_lt_of_cell? w _ hc0
  simp only at habl
  have hlen : (b0 :: r).length = r.length + 1 := rfl
  rw [hlen] at *
  have hin := some_in b0 r 1 (by omega) (by omega) hr
  have hout := some_out b0 r 1 (by omega) (by omega) hb0.1
  have htl := fun k => some_tail b0 r 1 k
  have hiv := ivF_small (b0 - 0) r
  have hm : markF 1 = 0 := rfl
  have hz : sizesF 1 = 128 := rfl
  rw [hm, hz] at hin hout
  have HIN := hide hin
  have HOUT := hide hout
  have HTL := hide htl
  have HIV := hide hiv
  have HC := hide hcell
  clear hin hout htl hiv hwf hlen hcell hx hB hm hz
  have hv : (0 ≤ b0 - 0 ∧ 128 ≤ b0 - 0) ∨ (0 ≤ b0 - 0 ∧ b0 - 0 < 128) := by omega
  rcases hv with hv | hv
  · go_enter Tryz.func107, Tryz.ntmps107
    go_wp2
    go_quiet (fail)
    go_wp2
    go_ret
    exact ⟨ret_1 (bool_eq (HOUT.out (.inr hv.2)).symm), below_drewN (((Below.refl _ _).alloc (Nat.le_refl _) _).alloc (by simp) _) _⟩
  · go_enter Tryz.func107, Tryz.ntmps107
    go_wp2
    go_quiet (fail)
    go_wp2
    go_loop [8, 9, 10] (fun lo hi i => ∃ k : Nat, k ≤ 0 ∧ i = .int .i64 (k + 1 : Nat) ∧ lo = .int .i64 (ivF (b0 - 0) r k).1 ∧ hi = .int .i64 (ivF (b0 - 0) r k).2 ∧ (∀ j, j < k → j < r.length → 128 ≤ r.getD j 0 ∧ r.getD j 0 ≤ 191))
      (fun _ _ i => 1 - (intOf i).toNat)
    case atStart => exact ⟨0, by omega, rfl, (int_eq (by simp [ivF])), (int_eq (by simp [ivF])), fun j hj => absurd hj (by omega)⟩
    case round =>
      obtain ⟨k, hk, rfl, rfl, rfl, ht⟩ := hrel
      have HT := hide ht
      obtain ⟨i0, i1, i2, i3⟩ := HIV.out (by omega) (by omega) k (by omega) ht
      clear ht
      by_cases hlt : k < 0
      · omega
      · obtain rfl : k = 0 := by omega
        have hres := HIN.out (by omega) (by omega) (fun j hj => HT.out j (by omega) hj)
        have HRES := hide hres
        have hf : fromF 1 = 0 := rfl
        have ht : toF 1 = 127 := rfl
        simp only [Nat.reduceSub, hf, ht] at hres
        have HRES := hide hres
        clear hres hf ht
        generalize hlo : (ivF (b0 - 0) r 0).1 = lo at *
        generalize hhi : (ivF (b0 - 0) r 0).2 = hi at *
        clear hlo hhi
        go_wp2
        all_goals go_ret
        all_goals (refine ⟨ret_1 (bool_eq (Eq.trans ?_ HRES.out)), (by repeat (first | exact Below.refl _ _ | refine below_drewN ?_ _ | refine Below.alloc ?_ (by simp <;> omega) _))⟩; go_tidy; clear HRES HIN HOUT HTL HIV HC HT; rw [Bool.eq_iff_iff]; simp; omega)
end Go.Proofs.YtdjpdllehhecpaaGreatDoor
namespace Go.Proofs.YtdjpdllehhecpaaGreatDoor
open Go.RowKit
set_option linter.unusedVariables false
set_option maxHeartbeats 1000000 in
theorem some_ok2 (So Si : Nat → Prop) (x : Value) (b0 : Int) (r : List Int) (w : World) (hx : Slc (Rep.int .u8) So Si w x (b0 :: r)) (hr : r.length ≤ 1) :
    Calls Tryz.prog 107 #[x, .int .i64 2] w fun e w' => e = .returned (.bool (someB b0 r 2)) ∧ Below w.heap.size w w' := by
  have hwf := hx.ints_wf
  have hb0 := u8_wf (hwf b0 (by simp))
  obtain ⟨A, c, rfl, hc1, hc2, hB⟩ := hx.open_
  obtain ⟨ab, off, rfl, _, hc0, _⟩ := ints_at hB (j := 0) (by simp)
  simp only [Nat.add_zero, List.getElem_cons_zero] at hc0
  have hcell : ∀ k, k < r.length → w.cell? ⟨ab, off + (k + 1), none⟩ = some (.int .u8 (r.getD k 0)) ∧ 0 ≤ r.getD k 0 ∧ r.getD k 0 ≤ 255 := by
    intro k hk
    obtain ⟨ab', off', ha', _, hck, hwk⟩ := ints_at hB (j := k + 1) (by simp; omega)
    obtain ⟨rfl, rfl⟩ : ab = ab' ∧ off = off' := by simp at ha'; exact ha'
    have e : r.getD k 0 = r[k] := by simp [List.getD, hk]
    rw [e]
    simp only [List.getElem_cons_succ] at hck hwk
    exact ⟨hck, u8_wf hwk⟩
  have habl := World.block_lt_of_cell? w _ hc0
  simp only at habl
  have hlen : (b0 :: r).length = r.length + 1 := rfl
  rw [hlen] at *
  have hin := some_in b0 r 2 (by omega) (by omega) hr
  have hout := some_out b0 r 2 (by omega) (by omega) hb0.1
  have htl := fun k => some_tail b0 r 2 k
  have hiv := ivF_small (b0 - 192) r
  have hm : markF 2 = 192 := rfl
  have hz : sizesF 2 = 32 := rfl
  rw [hm, hz] at hin hout
  have HIN := hide hin
  have HOUT := hide hout
  have HTL := hide htl
  have HIV := hide hiv
  have HC := hide hcell
  clear hin hout htl hiv hwf hlen hcell hx hB hm hz
  have hv : b0 - 192 < 0 ∨ (0 ≤ b0 - 192 ∧ 32 ≤ b0 - 192) ∨ (0 ≤ b0 - 192 ∧ b0 - 192 < 32) := by omega
  rcases hv with hv | hv | hv
  · go_enter Tryz.func107, Tryz.ntmps107
    go_wp2
    go_quiet (fail)
    go_wp2
    go_ret
    exact ⟨ret_1 (bool_eq (HOUT.out (.inl hv)).symm), below_drewN (((Below.refl _ _).alloc (Nat.le_refl _) _).alloc (by simp) _) _⟩
  · go_enter Tryz.func107, Tryz.ntmps107
    go_wp2
    go_quiet (fail)
    go_wp2
    go_ret
    exact ⟨ret_1 (bool_eq (HOUT.out (.inr hv.2)).symm), below_drewN (((Below.refl _ _).alloc (Nat.le_refl _) _).alloc (by simp) _) _⟩
  · go_enter Tryz.func107, Tryz.ntmps107
    go_wp2
    go_quiet (fail)
    go_wp2
    go_loop [8, 9, 10] (fun lo hi i => ∃ k : Nat, k ≤ 1 ∧ i = .int .i64 (k + 1 : Nat) ∧ lo = .int .i64 (ivF (b0 - 192) r k).1 ∧ hi = .int .i64 (ivF (b0 - 192) r k).2 ∧ (∀ j, j < k → j < r.length → 128 ≤ r.getD j 0 ∧ r.getD j 0 ≤ 191))
      (fun _ _ i => 2 - (intOf i).toNat)
    case atStart => exact ⟨0, by omega, rfl, rfl, rfl, fun j hj => absurd hj (by omega)⟩
    case round =>
      obtain ⟨k, hk, rfl, rfl, rfl, ht⟩ := hrel
      have HT := hide ht
      obtain ⟨i0, i1, i2, i3⟩ := HIV.out (by omega) (by omega) k (by omega) ht
      clear ht
      by_cases hlt : k < 1
      · by_cases hlr : k < r.length
        · obtain ⟨hck, hy0, hy1⟩ := HC.out k hlr
          have hst := ivF_in (b0 - 192) r k hlr
          have HST := hide hst
          have hy : r.getD k 0 < 128 ∨ (128 ≤ r.getD k 0 ∧ 191 < r.getD k 0) ∨ (128 ≤ r.getD k 0 ∧ r.getD k 0 ≤ 191) := by omega
          have HY := hide hy
          clear hst hy
          generalize hyv : r.getD k 0 = y at *
          have HYV := hide hyv
          clear hyv
          rcases HY.out with hy | hy | hy
          · go_wp2
            go_ret
            exact ⟨ret_1 (bool_eq (HTL.out k (by omega) hlr (.inl (by rw [HYV.out]; exact hy))).symm), below_drewN (((Below.refl _ _).alloc (Nat.le_refl _) _).alloc (by simp) _) _⟩
          · go_wp2
            go_ret
            exact ⟨ret_1 (bool_eq (HTL.out k (by omega) hlr (.inr (by rw [HYV.out]; exact hy.2))).symm), below_drewN (((Below.refl _ _).alloc (Nat.le_refl _) _).alloc (by simp) _) _⟩
          · go_wp2
            go_round
            case rel =>
              refine ⟨k + 1, by omega, by go_num, int_eq (by rw [HST.out.1]), int_eq (by rw [HST.out.2]), fun j hj hjl => ?_⟩
              by_cases e : j = k
              · subst e; rw [HYV.out]; exact hy
              · exact HT.out j (by omega) hjl
            case measure => simp [intOf]; omega
        · have hst := ivF_past (b0 - 192) r k hlr
          have HST := hide hst
          clear hst
          go_wp2
          go_round
          case rel => exact ⟨k + 1, by omega, by go_num, int_eq (by rw [HST.out.1]), int_eq (by rw [HST.out.2]), fun j hj hjl => HT.out j (by omega) hjl⟩
          case measure => simp [intOf]; omega
      · obtain rfl : k = 1 := by omega
        have hres := HIN.out (by omega) (by omega) (fun j hj => HT.out j (by omega) hj)
        have HRES := hide hres
        have hf : fromF 2 = 128 := rfl
        have ht : toF 2 = 2047 := rfl
        simp only [Nat.add_one_sub_one, hf, ht] at hres
        have HRES := hide hres
        clear hres hf ht
        generalize hlo : (ivF (b0 - 192) r 1).1 = lo at *
        generalize hhi : (ivF (b0 - 192) r 1).2 = hi at *
        clear hlo hhi
        go_wp2
        all_goals go_ret
        all_goals (refine ⟨ret_1 (bool_eq (Eq.trans ?_ HRES.out)), (by repeat (first | exact Below.refl _ _ | refine below_drewN ?_ _ | refine Below.alloc ?_ (by simp <;> omega) _))⟩; go_tidy; clear HRES HIN HOUT HTL HIV HC HT; rw [Bool.eq_iff_iff]; simp; omega)
end Go.Proofs.YtdjpdllehhecpaaGreatDoor
namespace Go.Proofs.YtdjpdllehhecpaaGreatDoor
open Go.RowKit
set_option linter.unusedVariables false
set_option maxHeartbeats 1000000 in
theorem some_ok3 (So Si : Nat → Prop) (x : Value) (b0 : Int) (r : List Int) (w : World) (hx : Slc (Rep.int .u8) So Si w x (b0 :: r)) (hr : r.length ≤ 2) :
    Calls Tryz.prog 107 #[x, .int .i64 3] w fun e w' => e = .returned (.bool (someB b0 r 3)) ∧ Below w.heap.size w w' := by
  have hwf := hx.ints_wf
  have hb0 := u8_wf (hwf b0 (by simp))
  obtain ⟨A, c, rfl, hc1, hc2, hB⟩ := hx.open_
  obtain ⟨ab, off, rfl, _, hc0, _⟩ := ints_at hB (j := 0) (by simp)
  simp only [Nat.add_zero, List.getElem_cons_zero] at hc0
  have hcell : ∀ k, k < r.length → w.cell? ⟨ab, off + (k + 1), none⟩ = some (.int .u8 (r.getD k 0)) ∧ 0 ≤ r.getD k 0 ∧ r.getD k 0 ≤ 255 := by
    intro k hk
    obtain ⟨ab', off', ha', _, hck, hwk⟩ := ints_at hB (j := k + 1) (by simp; omega)
    obtain ⟨rfl, rfl⟩ : ab = ab' ∧ off = off' := by simp at ha'; exact ha'
    have e : r.getD k 0 = r[k] := by simp [List.getD, hk]
    rw [e]
    simp only [List.getElem_cons_succ] at hck hwk
    exact ⟨hck, u8_wf hwk⟩
  have habl := World.block_lt_of_cell? w _ hc0
  simp only at habl
  have hlen : (b0 :: r).length = r.length + 1 := rfl
  rw [hlen] at *
  have hin := some_in b0 r 3 (by omega) (by omega) hr
  have hout := some_out b0 r 3 (by omega) (by omega) hb0.1
  have htl := fun k => some_tail b0 r 3 k
  have hiv := ivF_small (b0 - 224) r
  have hm : markF 3 = 224 := rfl
  have hz : sizesF 3 = 16 := rfl
  rw [hm, hz] at hin hout
  have HIN := hide hin
  have HOUT := hide hout
  have HTL := hide htl
  have HIV := hide hiv
  have HC := hide hcell
  clear hin hout htl hiv hwf hlen hcell hx hB hm hz
  have hv : b0 - 224 < 0 ∨ (0 ≤ b0 - 224 ∧ 16 ≤ b0 - 224) ∨ (0 ≤ b0 - 224 ∧ b0 - 224 < 16) := by omega
  rcases hv with hv | hv | hv
  · go_enter Tryz.func107, Tryz.ntmps107
    go_wp2
    go_quiet (fail)
    go_wp2
    go_ret
    exact ⟨ret_1 (bool_eq (HOUT.out (.inl hv)).symm), below_drewN (((Below.refl _ _).alloc (Nat.le_refl _) _).alloc (by simp) _) _⟩
  · go_enter Tryz.func107, Tryz.ntmps107
    go_wp2
    go_quiet (fail)
    go_wp2
    go_ret
    exact ⟨ret_1 (bool_eq (HOUT.out (.inr hv.2)).symm), below_drewN (((Below.refl _ _).alloc (Nat.le_refl _) _).alloc (by simp) _) _⟩
  · go_enter Tryz.func107, Tryz.ntmps107
    go_wp2
    go_quiet (fail)
    go_wp2
    go_loop [8, 9, 10] (fun lo hi i => ∃ k : Nat, k ≤ 2 ∧ i = .int .i64 (k + 1 : Nat) ∧ lo = .int .i64 (ivF (b0 - 224) r k).1 ∧ hi = .int .i64 (ivF (b0 - 224) r k).2 ∧ (∀ j, j < k → j < r.length → 128 ≤ r.getD j 0 ∧ r.getD j 0 ≤ 191))
      (fun _ _ i => 3 - (intOf i).toNat)
    case atStart => exact ⟨0, by omega, rfl, rfl, rfl, fun j hj => absurd hj (by omega)⟩
    case round =>
      obtain ⟨k, hk, rfl, rfl, rfl, ht⟩ := hrel
      have HT := hide ht
      obtain ⟨i0, i1, i2, i3⟩ := HIV.out (by omega) (by omega) k (by omega) ht
      clear ht
      by_cases hlt : k < 2
      · by_cases hlr : k < r.length
        · obtain ⟨hck, hy0, hy1⟩ := HC.out k hlr
          have hst := ivF_in (b0 - 224) r k hlr
          have HST := hide hst
          have hy : r.getD k 0 < 128 ∨ (128 ≤ r.getD k 0 ∧ 191 < r.getD k 0) ∨ (128 ≤ r.getD k 0 ∧ r.getD k 0 ≤ 191) := by omega
          have HY := hide hy
          clear hst hy
          generalize hyv : r.getD k 0 = y at *
          have HYV := hide hyv
          clear hyv
          rcases HY.out with hy | hy | hy
          · go_wp2
            go_ret
            exact ⟨ret_1 (bool_eq (HTL.out k (by omega) hlr (.inl (by rw [HYV.out]; exact hy))).symm), below_drewN (((Below.refl _ _).alloc (Nat.le_refl _) _).alloc (by simp) _) _⟩
          · go_wp2
            go_ret
            exact ⟨ret_1 (bool_eq (HTL.out k (by omega) hlr (.inr (by rw [HYV.out]; exact hy.2))).symm), below_drewN (((Below.refl _ _).alloc (Nat.le_refl _) _).alloc (by simp) _) _⟩
          · go_wp2
            go_round
            case rel =>
              refine ⟨k + 1, by omega, by go_num, int_eq (by rw [HST.out.1]), int_eq (by rw [HST.out.2]), fun j hj hjl => ?_⟩
              by_cases e : j = k
              · subst e; rw [HYV.out]; exact hy
              · exact HT.out j (by omega) hjl
            case measure => simp [intOf]; omega
        · have hst := ivF_past (b0 - 224) r k hlr
          have HST := hide hst
          clear hst
          go_wp2
          go_round
          case rel => exact ⟨k + 1, by omega, by go_num, int_eq (by rw [HST.out.1]), int_eq (by rw [HST.out.2]), fun j hj hjl => HT.out j (by omega) hjl⟩
          case measure => simp [intOf]; omega
      · obtain rfl : k = 2 := by omega
        have hres := HIN.out (by omega) (by omega) (fun j hj => HT.out j (by omega) hj)
        have HRES := hide hres
        have hf : fromF 3 = 2048 := rfl
        have ht : toF 3 = 65535 := rfl
        simp only [Nat.add_one_sub_one, hf, ht] at hres
        have HRES := hide hres
        clear hres hf ht
        generalize hlo : (ivF (b0 - 224) r 2).1 = lo at *
        generalize hhi : (ivF (b0 - 224) r 2).2 = hi at *
        clear hlo hhi
        go_wp2
        all_goals go_ret
        all_goals (refine ⟨ret_1 (bool_eq (Eq.trans ?_ HRES.out)), (by repeat (first | exact Below.refl _ _ | refine below_drewN ?_ _ | refine Below.alloc ?_ (by simp <;> omega) _))⟩; go_tidy; clear HRES HIN HOUT HTL HIV HC HT; rw [Bool.eq_iff_iff]; simp; omega)
end Go.Proofs.YtdjpdllehhecpaaGreatDoor
namespace Go.Proofs.YtdjpdllehhecpaaGreatDoor
open Go.RowKit
set_option linter.unusedVariables false
set_option maxHeartbeats 1000000 in
theorem some_ok4 (So Si : Nat → Prop) (x : Value) (b0 : Int) (r : List Int) (w : World) (hx : Slc (Rep.int .u8) So Si w x (b0 :: r)) (hr : r.length ≤ 3) :
    Calls Tryz.prog 107 #[x, .int .i64 4] w fun e w' => e = .returned (.bool (someB b0 r 4)) ∧ Below w.heap.size w w' := by
  have hwf := hx.ints_wf
  have hb0 := u8_wf (hwf b0 (by simp))
  obtain ⟨A, c, rfl, hc1, hc2, hB⟩ := hx.open_
  obtain ⟨ab, off, rfl, _, hc0, _⟩ := ints_at hB (j := 0) (by simp)
  simp only [Nat.add_zero, List.getElem_cons_zero] at hc0
  have hcell : ∀ k, k < r.length → w.cell? ⟨ab, off + (k + 1), none⟩ = some (.int .u8 (r.getD k 0)) ∧ 0 ≤ r.getD k 0 ∧ r.getD k 0 ≤ 255 := by
    intro k hk
    obtain ⟨ab', off', ha', _, hck, hwk⟩ := ints_at hB (j := k + 1) (by simp; omega)
    obtain ⟨rfl, rfl⟩ : ab = ab' ∧ off = off' := by simp at ha'; exact ha'
    have e : r.getD k 0 = r[k] := by simp [List.getD, hk]
    rw [e]
    simp only [List.getElem_cons_succ] at hck hwk
    exact ⟨hck, u8_wf hwk⟩
  have habl := World.block_lt_of_cell? w _ hc0
  simp only at habl
  have hlen : (b0 :: r).length = r.length + 1 := rfl
  rw [hlen] at *
  have hin := some_in b0 r 4 (by omega) (by omega) hr
  have hout := some_out b0 r 4 (by omega) (by omega) hb0.1
  have htl := fun k => some_tail b0 r 4 k
  have hiv := ivF_small (b0 - 240) r
  have hm : markF 4 = 240 := rfl
  have hz : sizesF 4 = 8 := rfl
  rw [hm, hz] at hin hout
  have HIN := hide hin
  have HOUT := hide hout
  have HTL := hide htl
  have HIV := hide hiv
  have HC := hide hcell
  clear hin hout htl hiv hwf hlen hcell hx hB hm hz
  have hv : b0 - 240 < 0 ∨ (0 ≤ b0 - 240 ∧ 8 ≤ b0 - 240) ∨ (0 ≤ b0 - 240 ∧ b0 - 240 < 8) := by omega
  rcases hv with hv | hv | hv
  · go_enter Tryz.func107, Tryz.ntmps107
    go_wp2
    go_quiet (fail)
    go_wp2
    go_ret
    exact ⟨ret_1 (bool_eq (HOUT.out (.inl hv)).symm), below_drewN (((Below.refl _ _).alloc (Nat.le_refl _) _).alloc (by simp) _) _⟩
  · go_enter Tryz.func107, Tryz.ntmps107
    go_wp2
    go_quiet (fail)
    go_wp2
    go_ret
    exact ⟨ret_1 (bool_eq (HOUT.out (.inr hv.2)).symm), below_drewN (((Below.refl _ _).alloc (Nat.le_refl _) _).alloc (by simp) _) _⟩
  · go_enter Tryz.func107, Tryz.ntmps107
    go_wp2
    go_quiet (fail)
    go_wp2
    go_loop [8, 9, 10] (fun lo hi i => ∃ k : Nat, k ≤ 3 ∧ i = .int .i64 (k + 1 : Nat) ∧ lo = .int .i64 (ivF (b0 - 240) r k).1 ∧ hi = .int .i64 (ivF (b0 - 240) r k).2 ∧ (∀ j, j < k → j < r.length → 128 ≤ r.getD j 0 ∧ r.getD j 0 ≤ 191))
      (fun _ _ i => 4 - (intOf i).toNat)
    case atStart => exact ⟨0, by omega, rfl, rfl, rfl, fun j hj => absurd hj (by omega)⟩
    case round =>
      obtain ⟨k, hk, rfl, rfl, rfl, ht⟩ := hrel
      have HT := hide ht
      obtain ⟨i0, i1, i2, i3⟩ := HIV.out (by omega) (by omega) k (by omega) ht
      clear ht
      by_cases hlt : k < 3
      · by_cases hlr : k < r.length
        · obtain ⟨hck, hy0, hy1⟩ := HC.out k hlr
          have hst := ivF_in (b0 - 240) r k hlr
          have HST := hide hst
          have hy : r.getD k 0 < 128 ∨ (128 ≤ r.getD k 0 ∧ 191 < r.getD k 0) ∨ (128 ≤ r.getD k 0 ∧ r.getD k 0 ≤ 191) := by omega
          have HY := hide hy
          clear hst hy
          generalize hyv : r.getD k 0 = y at *
          have HYV := hide hyv
          clear hyv
          rcases HY.out with hy | hy | hy
          · go_wp2
            go_ret
            exact ⟨ret_1 (bool_eq (HTL.out k (by omega) hlr (.inl (by rw [HYV.out]; exact hy))).symm), below_drewN (((Below.refl _ _).alloc (Nat.le_refl _) _).alloc (by simp) _) _⟩
          · go_wp2
            go_ret
            exact ⟨ret_1 (bool_eq (HTL.out k (by omega) hlr (.inr (by rw [HYV.out]; exact hy.2))).symm), below_drewN (((Below.refl _ _).alloc (Nat.le_refl _) _).alloc (by simp) _) _⟩
          · go_wp2
            go_round
            case rel =>
              refine ⟨k + 1, by omega, by go_num, int_eq (by rw [HST.out.1]), int_eq (by rw [HST.out.2]), fun j hj hjl => ?_⟩
              by_cases e : j = k
              · subst e; rw [HYV.out]; exact hy
              · exact HT.out j (by omega) hjl
            case measure => simp [intOf]; omega
        · have hst := ivF_past (b0 - 240) r k hlr
          have HST := hide hst
          clear hst
          go_wp2
          go_round
          case rel => exact ⟨k + 1, by omega, by go_num, int_eq (by rw [HST.out.1]), int_eq (by rw [HST.out.2]), fun j hj hjl => HT.out j (by omega) hjl⟩
          case measure => simp [intOf]; omega
      · obtain rfl : k = 3 := by omega
        have hres := HIN.out (by omega) (by omega) (fun j hj => HT.out j (by omega) hj)
        have HRES := hide hres
        have hf : fromF 4 = 65536 := rfl
        have ht : toF 4 = 1114111 := rfl
        simp only [Nat.add_one_sub_one, hf, ht] at hres
        have HRES := hide hres
        clear hres hf ht
        generalize hlo : (ivF (b0 - 240) r 3).1 = lo at *
        generalize hhi : (ivF (b0 - 240) r 3).2 = hi at *
        clear hlo hhi
        go_wp2
        all_goals go_ret
        all_goals (refine ⟨ret_1 (bool_eq (Eq.trans ?_ HRES.out)), (by repeat (first | exact Below.refl _ _ | refine below_drewN ?_ _ | refine Below.alloc ?_ (by simp <;> omega) _))⟩; go_tidy; clear HRES HIN HOUT HTL HIV HC HT; rw [Bool.eq_iff_iff]; simp; omega)
end Go.Proofs.YtdjpdllehhecpaaGreatDoor
