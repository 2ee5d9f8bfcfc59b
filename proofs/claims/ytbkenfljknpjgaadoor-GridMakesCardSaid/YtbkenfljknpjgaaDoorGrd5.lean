/-
  Which line is wrong, as the document has it; and a grid of lines: what the functions return. Each function once.
-/
import Derived.Test.YtbkenfljknpjgaaDoorGrd4
import Derived.Test.YtbkenfljknpjgaaDoorErr2
import Derived.Test.YtbkenfljknpjgaaDoorCell2
namespace Go.Proofs.YtbkenfljknpjgaaDoor
open Go.RowKit
set_option linter.unusedVariables false
set_option linter.unusedSimpArgs false

/-- What is wrong with a line: 3 (its width), 5 (its cells); 0: nothing. -/
def wr1 (n0 : Nat) (c : List CellV) : Nat := if c.length = 0 ∨ 1024 < c.length then 3 else if soundB c = false then 5 else if c.length ≠ n0 then 3 else 0
def head0 (ls : List LineV) : Nat := (ls.headD ([], false)).1.length
def wrgFrom (n0 : Nat) : List LineV → Nat → Option (Nat × Nat)
  | [], _ => none
  | l :: ls, i => if wr1 n0 l.1 = 0 then wrgFrom n0 ls (i + 1) else some (i, wr1 n0 l.1)
def wrgF (ls : List LineV) : Option (Nat × Nat) := wrgFrom (head0 ls) ls 0
def wrgV (o : Option (Nat × Nat)) : Value := match o with
  | none => .tuple #[.int .i64 (-1), .int .i64 0]
  | some (i, c) => .tuple #[.int .i64 i, .int .i64 c]
theorem wr1_cases (n0 : Nat) (c : List CellV) : (c.length = 0 ∨ 1024 < c.length) ∧ wr1 n0 c = 3 ∨ (c.length ≠ 0 ∧ c.length ≤ 1024) ∧ soundB c = false ∧ wr1 n0 c = 5 ∨ (c.length ≠ 0 ∧ c.length ≤ 1024) ∧ soundB c = true ∧ c.length ≠ n0 ∧ wr1 n0 c = 3 ∨ (c.length ≠ 0 ∧ c.length ≤ 1024) ∧ soundB c = true ∧ c.length = n0 ∧ wr1 n0 c = 0 := by
  unfold wr1
  by_cases h1 : c.length = 0 ∨ 1024 < c.length
  · exact .inl ⟨h1, if_pos h1⟩
  · rw [if_neg h1]
    have h1' : c.length ≠ 0 ∧ c.length ≤ 1024 := by omega
    cases h2 : soundB c with
    | false => exact .inr (.inl ⟨h1', rfl, rfl⟩)
    | true =>
      by_cases h3 : c.length = n0
      · exact .inr (.inr (.inr ⟨h1', rfl, h3, by simp [h3]⟩))
      · exact .inr (.inr (.inl ⟨h1', rfl, h3, by simp [h3]⟩))
theorem wrg_step {n0 : Nat} {ls : List LineV} {k : Nat} (hk : k < ls.length) : wrgFrom n0 (ls.drop k) k = if wr1 n0 ls[k].1 = 0 then wrgFrom n0 (ls.drop (k + 1)) (k + 1) else some (k, wr1 n0 ls[k].1) := by
  rw [List.drop_eq_getElem_cons hk]
  rfl
theorem wrg_none {n0 : Nat} : ∀ (ls : List LineV) (i : Nat), wrgFrom n0 ls i = none → ∀ l ∈ ls, wr1 n0 l.1 = 0
  | [], _, _, l, hl => by cases hl
  | m :: ls, i, h, l, hl => by
    unfold wrgFrom at h
    split at h
    · rename_i h1
      rcases List.mem_cons.1 hl with rfl | hl
      · exact h1
      · exact wrg_none ls (i + 1) h l hl
    · cases h
theorem wrg_some {n0 : Nat} : ∀ (ls : List LineV) (i : Nat) {j c : Nat}, wrgFrom n0 ls i = some (j, c) → i ≤ j ∧ j < i + ls.length ∧ (c = 3 ∨ c = 5)
  | [], _, _, _, h => by cases h
  | m :: ls, i, j, c, h => by
    unfold wrgFrom at h
    split at h
    · have := wrg_some ls (i + 1) h
      rw [List.length_cons]
      omega
    · rename_i h1
      injection h with h
      injection h with h2 h3
      rw [List.length_cons]
      have := wr1_cases n0 m.1
      omega
theorem head0_at {ls : List LineV} (h : 0 < ls.length) : head0 ls = ls[0].1.length := by
  cases ls with
  | nil => simp at h
  | cons l ls => rfl

set_option maxHeartbeats 2000000 in
theorem rWrong32_ok (So : Nat → Prop) (x : Value) (ls : List LineV) (w : World) (hx : Slc RLine So (fun b => b < w.heap.size) w x ls) :
    Calls Tryd.prog 8 #[x] w fun e w' => e = .returned (wrgV (wrgF ls)) ∧ Below w.heap.size w w' := by
  obtain ⟨A, c, rfl, hl1, hl2, hA⟩ := hx.open_
  obtain ⟨res, hres⟩ : ∃ res, wrgF ls = res := ⟨_, rfl⟩
  rw [hres]
  have HR := hide hres
  clear hres
  go_enter Tryd.func8, Tryd.ntmps8
  go_wp2
  go_loopw [4] (fun i wr => ∃ k : Nat, k ≤ ls.length ∧ i = .int .i64 k ∧ wrgF ls = wrgFrom (head0 ls) (ls.drop k) k ∧ Below w.heap.size w wr) (fun i _ => ls.length - (intOf i).toNat)
  case atStart => exact ⟨0, Nat.zero_le _, rfl, rfl, Below.refl _ _⟩
  case round =>
    obtain ⟨k, hk, rfl, hwk, hbr⟩ := hrel
    have hzr := hbr.size
    by_cases hlt : k < ls.length
    · obtain ⟨ab, off, v, rfl, _, q00, q01, hv⟩ := line_at hA hlt
      obtain ⟨A', c', rfl, _, _, _⟩ := hv.open_
      have h0 : 0 < ls.length := by omega
      obtain ⟨ab0, off0, v0, hA0, _, q02, q03, hv0⟩ := line_at hA h0
      injection hA0 with hA0
      injection hA0 with e1 e2
      subst e1; subst e2
      obtain ⟨A0, c0, rfl, _, _, _⟩ := hv0.open_
      have hab := World.block_lt_of_cell? _ _ q00
      simp only at hab
      have q0 := (hbr.cell (p := ⟨ab, off + k * 2, none⟩) hab).trans q00
      have q2 := (hbr.cell (p := ⟨ab, off + 0 * 2, none⟩) hab).trans q02
      simp only [Nat.zero_mul, Nat.add_zero] at q2
      have hki : (k : Int) < ls.length := by omega
      have hki0 : (0 : Int) < ls.length := by omega
      rw [wrg_step hlt] at hwk
      have hh0 := head0_at h0
      obtain ⟨n0, hn0⟩ : ∃ n0, ls[0].1.length = n0 := ⟨_, rfl⟩
      rw [hn0] at q2 hh0
      rw [hh0] at hwk
      have hcs := wr1_cases n0 ls[k].1
      obtain ⟨cl, hcl⟩ : ∃ cl, ls[k].1 = cl := ⟨_, rfl⟩
      rw [hcl] at q0 hv hwk hcs
      have HWK := hide hwk
      have hS := fun (h : cl.length ≤ 1000000) => rSound_ok _ _ (.slice A' cl.length c') cl wr (hv.mono (Keep.below hbr) (Keep.below hbr)) h
      have HS := hide hS
      clear q00 q01 q02 q03 hwk hcl hn0 hv0 hS
      rcases hcs with ⟨h1, h2⟩ | ⟨h1, h2, h3⟩ | ⟨h1, h2, h3, h4⟩ | ⟨h1, h2, h3, h4⟩
      · have E : Hid (res = some (k, 3)) := hide (by rw [← HR.out, HWK.out, h2]; rfl)
        rcases h1 with h1 | h1
        · rw [h1] at q0
          clear h2
          go_wp2
          go_ret2
          exact ⟨by rw [E.out]; rfl, hbr⟩
        · have t1 : ((cl.length : Int) == 0) = false := by rw [beq_eq_false_iff_ne]; omega
          have t2 : (1024 : Int) < cl.length := by omega
          clear h2
          go_wp2
          go_ret2
          exact ⟨by rw [E.out]; rfl, hbr⟩
      · have E : Hid (res = some (k, 5)) := hide (by rw [← HR.out, HWK.out, h3]; rfl)
        have t1 : ((cl.length : Int) == 0) = false := by rw [beq_eq_false_iff_ne]; omega
        have t2 : ¬ (1024 : Int) < cl.length := by omega
        have hS := HS.out (by omega)
        rw [h2] at hS
        have HS2 := hide hS
        clear h1 h2 h3 hS HS
        go_wp2_with fail
        refine HS2.out.mono ?_
        rintro e w1 ⟨rfl, hc1⟩
        go_wp2
        go_ret2
        exact ⟨by rw [E.out]; rfl, hbr.trans (hc1.mono hzr)⟩
      · have E : Hid (res = some (k, 3)) := hide (by rw [← HR.out, HWK.out, h4]; rfl)
        have t1 : ((cl.length : Int) == 0) = false := by rw [beq_eq_false_iff_ne]; omega
        have t2 : ¬ (1024 : Int) < cl.length := by omega
        have t3 : ((cl.length : Int) != n0) = true := by simp; omega
        have hS := HS.out (by omega)
        rw [h2] at hS
        have HS2 := hide hS
        clear h1 h2 h3 h4 hS HS
        go_wp2_with fail
        refine HS2.out.mono ?_
        rintro e w1 ⟨rfl, hc1⟩
        have hb1 := hbr.trans (hc1.mono hzr)
        have q0 := (hc1.cell (p := ⟨ab, off + k * 2, none⟩) (by simp only; omega)).trans q0
        have q2 := (hc1.cell (p := ⟨ab, off, none⟩) (by simp only; omega)).trans q2
        clear hc1
        go_wp2
        go_ret2
        exact ⟨by rw [E.out]; rfl, hb1⟩
      · have E : Hid (wrgF ls = wrgFrom (head0 ls) (ls.drop (k + 1)) (k + 1)) := hide (by rw [HWK.out, h4, hh0]; rfl)
        have t1 : ((cl.length : Int) == 0) = false := by rw [beq_eq_false_iff_ne]; omega
        have t2 : ¬ (1024 : Int) < cl.length := by omega
        have t3 : ((cl.length : Int) != n0) = false := by simp; omega
        have hS := HS.out (by omega)
        rw [h2] at hS
        have HS2 := hide hS
        clear h1 h2 h3 h4 hS HS hh0
        go_wp2_with fail
        refine HS2.out.mono ?_
        rintro e w1 ⟨rfl, hc1⟩
        have hb1 := hbr.trans (hc1.mono hzr)
        have q0 := (hc1.cell (p := ⟨ab, off + k * 2, none⟩) (by simp only; omega)).trans q0
        have q2 := (hc1.cell (p := ⟨ab, off, none⟩) (by simp only; omega)).trans q2
        clear hc1
        go_wp2
        go_roundw
        case rel => exact ⟨k + 1, by omega, by go_num, E.out, hb1⟩
        case measure => simp [intOf]; omega
    · obtain rfl : k = ls.length := by omega
      rw [List.drop_length] at hwk
      have E : Hid (res = none) := hide (by rw [← HR.out, hwk]; rfl)
      clear hwk
      go_wp2
      go_ret2
      exact ⟨by rw [E.out]; rfl, hbr⟩

/-- Of cells that are no sound strip row.Of makes no row. -/
theorem ROf_kind (So Si : Nat → Prop) (x : Value) (l : List CellV) (t : TypeId) (u : Value) (w : World) (hx : Slc RCell So Si w x l) (h1 : l.length ≠ 0 ∧ l.length ≤ 1024) (hs : soundB l = false) (hE : w.cell? ⟨1, 0, none⟩ = some (.iface t u)) :
    Calls Tryd.prog 12 #[x] w fun e w' => e = .returned (.tuple #[.pointer none, .iface t u]) ∧ Below w.heap.size w w' := by
  have hEl := World.block_lt_of_cell? w _ hE
  simp only at hEl
  have HS := hide hs
  obtain ⟨A, c, rfl, _, _, _⟩ := hx.open_
  have t1 : ((l.length : Int) == 0) = false := by rw [beq_eq_false_iff_ne]; omega
  have t2 : ¬ (1024 : Int) < l.length := by omega
  clear hs h1
  go_enter Tryd.func12, Tryd.ntmps12
  go_wp2_with fail
  refine (Sound_ok _ _ _ l _ hx).mono ?_
  rw [HS.out]
  rintro e w1 ⟨rfl, hb1⟩
  have hE1 := (hb1.cell (p := ⟨1, 0, none⟩) hEl).trans hE
  go_wp2
  go_quiet (fail)
  go_wp2
  go_ret2
  exact ⟨rfl, below_drewN hb1 _⟩

theorem GOf_range (A : Option Addr) (n c : Nat) (t : TypeId) (u : Value) (w : World) (hn : n = 0 ∨ 1024 < n) (hE : w.cell? ⟨0, 0, none⟩ = some (.iface t u)) :
    Calls Tryd.prog 11 #[.slice A n c] w fun e w' => e = .returned (.tuple #[.pointer none, .iface t u]) ∧ Below w.heap.size w w' := by
  rcases hn with hn | hn
  · subst hn
    go_enter Tryd.func11, Tryd.ntmps11
    go_wp2
    go_quiet (fail)
    go_wp2
    go_ret2
    exact ⟨rfl, below_drewN (Below.refl _ _) _⟩
  · have h1 : ((n : Int) == 0) = false := by rw [beq_eq_false_iff_ne]; omega
    have h2 : (1024 : Int) < n := by omega
    clear hn
    go_enter Tryd.func11, Tryd.ntmps11
    go_wp2
    go_quiet (fail)
    go_wp2
    go_ret2
    exact ⟨rfl, below_drewN (Below.refl _ _) _⟩

/-- A row's mark turns: the world behind. -/
theorem GoOn2_ok (base : Nat) (v : Value) (l : List CellV) (wrap on : Bool) (w : World) (h : RowIs base w v l wrap) :
    Calls Tryd.prog 16 #[v, .bool on] w fun e w' => (∃ r, e = .returned r) ∧ ∀ g, v = .pointer (some ⟨g, 0, none⟩) → w' = w.setCell ⟨g, 1, none⟩ (.bool on) := by
  obtain ⟨g, s, rfl, h1, h2, h3⟩ := h
  have x0 := h2.cell 1
  have x1 := h2.lt
  have x2 := h2.frozen 1
  simp only [List.getElem?_toArray, List.getElem?_cons_succ, List.getElem?_cons_zero] at x0
  go_enter Tryd.func16, Tryd.ntmps16
  go_wp2
  go_end0
  refine ⟨⟨_, rfl⟩, fun g' e => ?_⟩
  injection e with e
  injection e with e
  injection e with e
  subst e
  rfl

/-- What grid.Of returns, of lines neither too few nor too many. -/
def GOfR (b : Nat → Addr) (o : Option (Nat × Nat)) (ls : List LineV) (w : World) (e : Ending) (w' : World) : Prop :=
  (o = none → ∃ v qs, e = .returned (.tuple #[v, .nilIface]) ∧ GridP w.heap.size w' v qs ∧ qs.map Prod.snd = ls) ∧
  (∀ i c, o = some (i, c) → ∃ ev, e = .returned (.tuple #[.pointer none, ev]) ∧ ErrIs b w' ev (c - 1) (some (i : Int))) ∧ Below w.heap.size w w'
set_option maxHeartbeats 4000000 in
theorem GOf_ok (b : Nat → Addr) (So : Nat → Prop) (x : Value) (ls : List LineV) (w : World) (hS : Sents b w) (hx : Slc RLine So (fun b => b < w.heap.size) w x ls) (h0 : 0 < ls.length) (h1 : ls.length ≤ 1024) :
    Calls Tryd.prog 11 #[x] w (GOfR b (wrgF ls) ls w) := by
  obtain ⟨A, c, rfl, hl1, hl2, hA⟩ := hx.open_
  obtain ⟨res, hres⟩ : ∃ res, wrgF ls = res := ⟨_, rfl⟩
  rw [hres]
  have HR := hide hres
  obtain ⟨ab0, off0, v0, hA0, _, q02, q03, hv0⟩ := line_at hA h0
  subst hA0
  obtain ⟨A0, c0, rfl, _, _, _⟩ := hv0.open_
  have hh0 := head0_at h0
  obtain ⟨n0, hn0⟩ : ∃ n0, ls[0].1.length = n0 := ⟨_, rfl⟩
  rw [hn0] at q02 hh0
  have HH0 := hide hh0
  simp only [Nat.zero_mul, Nat.add_zero] at q02
  have hab0 := World.block_lt_of_cell? _ _ q02
  simp only at hab0
  have HQ2 := hide q02
  have HS := hide hS
  have t1 : ((ls.length : Int) == 0) = false := by rw [beq_eq_false_iff_ne]; omega
  have t2 : ¬ (1024 : Int) < ls.length := by omega
  have hki0 : (0 : Int) < ls.length := by omega
  have bn := Blk.new w 78 #[.slice none 0 0]
  have hb1 := (Below.refl w.heap.size w).alloc (Nat.le_refl _) (.cells #[.slice none 0 0] 78)
  clear hres hh0 hn0 q02 q03 hv0 hS
  go_enter Tryd.func11, Tryd.ntmps11
  go_wp2
  go_loopw [22] (fun iv wr => ∃ k : Nat, k ≤ ls.length ∧ iv = .int .i64 k ∧ wrgF ls = wrgFrom n0 (ls.drop k) k ∧ ∃ (sv : Value) (qs : List RowP), qs.map Prod.snd = ls.take k ∧ Blk wr w.heap.size 78 #[sv] ∧ Own RVal 33 [] w.heap.size wr sv (qs.map Prod.fst) ∧ RowsP w.heap.size wr qs ∧ Below w.heap.size w wr) (fun iv _ => ls.length - (intOf iv).toNat)
  case atStart => exact ⟨0, Nat.zero_le _, rfl, by rw [← HH0.out]; rfl, _, [], rfl, bn, Own.nil_ _ _ _ _ _ (by simp), RowsP.nil_ _ _, hb1⟩
  case round =>
    clear bn hb1
    obtain ⟨k, hk, rfl, hwk, sv, qs, hqs, bn, hov, hrs, hbr⟩ := hrel
    have hzr := hbr.size
    by_cases hlt : k < ls.length
    · obtain ⟨ab, off, v, hA1, _, q00, q01, hv⟩ := line_at hA hlt
      injection hA1 with hA1
      injection hA1 with e1 e2
      subst e1; subst e2
      obtain ⟨A', c', rfl, _, _, _⟩ := hv.open_
      have q0 := (hbr.cell (p := ⟨ab0, off0 + k * 2, none⟩) hab0).trans q00
      have q1 := (hbr.cell (p := ⟨ab0, off0 + k * 2 + 1, none⟩) hab0).trans q01
      have q2 := (hbr.cell (p := ⟨ab0, off0, none⟩) hab0).trans HQ2.out
      have hki : (k : Int) < ls.length := by omega
      rw [wrg_step hlt] at hwk
      have htk := take_snoc' ls k hlt
      obtain ⟨lk, hlk⟩ : ∃ lk, ls[k] = lk := ⟨_, rfl⟩
      obtain ⟨cl, wrp⟩ := lk
      rw [hlk] at q0 q1 hv hwk htk
      simp only at q0 q1 hv hwk
      have hcs := wr1_cases n0 cl
      have HWK := hide hwk
      have HTK := hide htk
      have HQS := hide hqs
      have hql : qs.length = k := by
        have := congrArg List.length hqs
        rw [List.length_map, List.length_take] at this
        omega
      have HOLT := hide (fun q (hq : q ∈ qs) => by
        obtain ⟨g, e, _, h⟩ := hrs.lt q hq
        exact (⟨g, e, h⟩ : ∃ g, q.1 = .pointer (some ⟨g, 0, none⟩) ∧ g < wr.heap.size))
      clear hwk htk hqs hlk q00 q01
      go_upto_region 7 with fail
      have hb2 := hbr.alloc hzr (.cells #[.slice A' cl.length c', .bool wrp] 38)
      have hc2 := (Below.refl wr.heap.size wr).alloc (Nat.le_refl _) (.cells #[.slice A' cl.length c', .bool wrp] 38)
      have bn2 := bn.alloc (.cells #[.slice A' cl.length c', .bool wrp] 38)
      have bl := Blk.new wr 38 #[.slice A' cl.length c', .bool wrp]
      have hov2 := hov.alloc (.cells #[.slice A' cl.length c', .bool wrp] 38)
      have hrs2 := hrs.below hc2
      have q2 := (hc2.cell (p := ⟨ab0, off0, none⟩) (by simp only; omega)).trans q2
      have holt2 : ∀ q ∈ qs, ∃ g, q.1 = .pointer (some ⟨g, 0, none⟩) ∧ g < wr.heap.size + 1 := fun q hq => by
        obtain ⟨g, e, h⟩ := HOLT.out q hq
        exact ⟨g, e, by omega⟩
      have hsz2 : (wr.alloc (.cells #[.slice A' cl.length c', .bool wrp] 38)).heap.size = wr.heap.size + 1 := by simp
      obtain ⟨gl, hgl⟩ : ∃ gl, wr.heap.size = gl := ⟨_, rfl⟩
      rw [hgl] at bl hsz2 holt2 ⊢
      generalize wr.alloc (.cells #[.slice A' cl.length c', .bool wrp] 38) = w2 at *
      have hz2 := hb2.size
      have HOLT2 := hide holt2
      clear hgl hbr hzr bn hov hrs hc2 q0 q1 holt2 HOLT
      have hS2 := HS.out.below (hb2.mono (Nat.le_refl _))
      have l0 := bl.cell 0
      have l1 := bl.cell 1
      simp only [List.getElem?_toArray, List.getElem?_cons_succ, List.getElem?_cons_zero] at l0 l1
      have hv2 : Slc RCell (fun b => b < w.heap.size) (fun b => b < w.heap.size) w2 (.slice A' cl.length c') cl := hv.mono (Keep.below hb2) (Keep.below hb2)
      rcases hcs with ⟨h1, h2⟩ | ⟨h1, h2, h3⟩ | ⟨h1, h2, h3, h4⟩ | ⟨h1, h2, h3, h4⟩
      · have E : Hid (res = some (k, 3)) := hide (by rw [← HR.out, HWK.out, h2]; rfl)
        clear h2 hov2 hrs2 bn2
        have hc := ROf_range A' cl.length c' _ _ w2 h1 (hS2.var 2 (by decide))
        have HC := hide hc
        clear hc h1
        go_wp2_with fail
        refine HC.out.mono ?_
        rintro e w3 ⟨rfl, q, rfl⟩
        have hbq := below_drewN hb2 q
        have HSQ := hide (HS.out.below (hbq.mono (Nat.le_refl _)))
        have bnq := bl.drewN q
        clear l0 l1 q2
        generalize w2.drewN q = w3 at *
        have hb3 := hbq
        have hz3 := hb3.size
        have HS3 := HSQ
        clear hbq
        go_wp2
        go_quiet (fail)
        obtain ⟨dq, hdq⟩ : ∃ dq, dq = 1 := ⟨_, rfl⟩
        go_wp2_with fail
        refine (Wrong_ok b k 2 _ (HS3.out.below (below_drewN (Below.refl _ _) _))).mono ?_
        rintro e w4 ⟨ev, rfl, hev, hc4⟩
        have hbw := (below_drewN hb3 _).trans (hc4.mono hz3)
        obtain ⟨te, ue, rfl⟩ := hev.form
        have HEV := hide hev
        clear hev
        go_wp2
        go_ret2
        refine ⟨fun h => (by rw [E.out] at h; cases h), fun i c h => ?_, hbw⟩
        rw [E.out] at h
        injection h with h
        injection h with h5 h6
        subst h5
        subst h6
        exact ⟨_, rfl, HEV.out⟩
      · have E : Hid (res = some (k, 5)) := hide (by rw [← HR.out, HWK.out, h3]; rfl)
        clear h3 hov2 hrs2 bn2
        have HC := hide (ROf_kind _ _ (.slice A' cl.length c') cl _ _ w2 hv2 h1 h2 (hS2.var 4 (by decide)))
        clear h1 h2
        go_wp2_with fail
        refine HC.out.mono ?_
        rintro e w3 ⟨rfl, hc3⟩
        have hb3 := hb2.trans (hc3.mono hz2)
        have hz3 := hb3.size
        have HS3 := hide (HS.out.below (hb3.mono (Nat.le_refl _)))
        clear hc3 l0 l1 q2
        go_wp2
        go_quiet (fail)
        obtain ⟨dq, hdq⟩ : ∃ dq, dq = 1 := ⟨_, rfl⟩
        go_wp2_with fail
        refine (Wrong_ok b k 4 _ (HS3.out.below (below_drewN (Below.refl _ _) _))).mono ?_
        rintro e w4 ⟨ev, rfl, hev, hc4⟩
        have hbw := (below_drewN hb3 _).trans (hc4.mono hz3)
        obtain ⟨te, ue, rfl⟩ := hev.form
        have HEV := hide hev
        clear hev
        go_wp2
        go_ret2
        refine ⟨fun h => (by rw [E.out] at h; cases h), fun i c h => ?_, hbw⟩
        rw [E.out] at h
        injection h with h
        injection h with h5 h6
        subst h5
        subst h6
        exact ⟨_, rfl, HEV.out⟩
      · have E : Hid (res = some (k, 3)) := hide (by rw [← HR.out, HWK.out, h4]; rfl)
        have t3 : ((cl.length : Int) != n0) = true := by simp; omega
        have HC := hide (ROf_ok _ _ (.slice A' cl.length c') cl w2 hv2 (by omega) h1.2 h2)
        clear h1 h2 h3 h4 hov2 hrs2 bn2
        go_wp2_with fail
        refine HC.out.mono ?_
        rintro e w3 ⟨v3, rfl, hv3, hc3⟩
        have hb3 := hb2.trans (hc3.mono hz2)
        have hz3 := hb3.size
        have HS3 := hide (HS.out.below (hb3.mono (Nat.le_refl _)))
        have hER := HS3.out.var 2 (by decide)
        simp only [gOf] at hER
        have q2 := (hc3.cell (p := ⟨ab0, off0, none⟩) (by simp only; omega)).trans q2
        have HWD := hide (fun n => (Wide_ok w2.heap.size v3 cl false (w3.drewN n) (hv3.drewN n)).mono (fun _ _ h => (⟨h.1, h.2.symm⟩ : _ ∧ _)))
        obtain ⟨g3, hg3, _, _⟩ := hv3.lt
        subst hg3
        clear hc3 l0 l1 hv3
        go_wp2
        go_quiet ((go_at_call 37; exact Calls.quiet_of_same (HWD.out _)))
        go_wp2_with fail
        refine (Wrong_ok b k 2 _ (HS3.out.below (below_drewN (Below.refl _ _) _))).mono ?_
        rintro e w4 ⟨ev, rfl, hev, hc4⟩
        have hbw := (below_drewN hb3 _).trans (hc4.mono hz3)
        obtain ⟨te, ue, rfl⟩ := hev.form
        have HEV := hide hev
        clear hev
        go_wp2
        go_ret2
        refine ⟨fun h => (by rw [E.out] at h; cases h), fun i c h => ?_, hbw⟩
        rw [E.out] at h
        injection h with h
        injection h with h5 h6
        subst h5
        subst h6
        exact ⟨_, rfl, HEV.out⟩
      · have E : Hid (wrgF ls = wrgFrom n0 (ls.drop (k + 1)) (k + 1)) := hide (by rw [HWK.out, h4]; rfl)
        have t3 : ((cl.length : Int) != n0) = false := by simp; omega
        have HC := hide (ROf_ok _ _ (.slice A' cl.length c') cl w2 hv2 (by omega) h1.2 h2)
        clear h1 h2 h3 h4
        go_wp2_with fail
        refine HC.out.mono ?_
        rintro e w3 ⟨v3, rfl, hv3, hc3⟩
        have hb3 := hb2.trans (hc3.mono hz2)
        have hz3 := hb3.size
        have q2 := (hc3.cell (p := ⟨ab0, off0, none⟩) (by simp only; omega)).trans q2
        have bn3 := bn2.same hc3
        have bl3 := bl.same hc3
        have hov3 := hov2.below hc3
        have hrs3 := hrs2.below hc3
        have HWD := hide (fun n => (Wide_ok w2.heap.size v3 cl false (w3.drewN n) (hv3.drewN n)).mono (fun _ _ h => (⟨h.1, h.2.symm⟩ : _ ∧ _)))
        obtain ⟨g3, hg3, hg3b, _⟩ := hv3.lt
        subst hg3
        clear hc3 l0 l1 hov2 hrs2 bn2 bl
        go_wp2
        go_quiet ((go_at_call 37; exact Calls.quiet_of_same (HWD.out _)))
        go_upto_region 12 with fail
        have hb4 := below_drewN hb3 nq
        have bn4 := bn3.drewN nq
        have bl4 := bl3.drewN nq
        have hov4 := hov3.drewN nq
        have hrs4 := hrs3.step (b2 := 0) ((Step.refl 0 [] w3).drewN nq) (by simp) (by simp) (by simp)
        have hr4 := hv3.drewN nq
        have hsz4 : w3.heap.size = (w3.drewN nq).heap.size := rfl
        clear bn3 bl3 hov3 hrs3 hv3 hb3 q2 HWD
        generalize w3.drewN nq = w4 at *
        have hz4 := hb4.size
        have l1 := bl4.cell 1
        simp only [List.getElem?_toArray, List.getElem?_cons_succ, List.getElem?_cons_zero] at l1
        go_wp2_with fail
        refine (GoOn2_ok w2.heap.size _ cl false wrp w4 hr4).mono ?_
        rintro e w5 ⟨⟨re, rfl⟩, hw5⟩
        obtain ⟨gx, sx, hgx, hbx, hmk⟩ := hr4.mark (on := wrp)
        injection hgx with hgx
        injection hgx with hgx
        injection hgx with hgx
        subst hgx
        have hst5 : Step w.heap.size [83] w4 (w4.setCell ⟨g3, 1, none⟩ (.bool wrp)) := (Step.refl w.heap.size [83] w4).setCell (p := ⟨g3, 1, none⟩) (Nat.le_trans hz2 hg3b) hbx.bears _
        have hrs5 := hrs4.far (on := .bool wrp) hbx (fun p hp e => by
          obtain ⟨g', e2, h⟩ := HOLT2.out p hp
          rw [e2] at e
          injection e with e
          injection e with e
          injection e with e
          omega)
        rw [← hw5 g3 rfl] at hmk hst5 hrs5
        clear hw5 hbx
        have hb5 := hb4.trans (hst5.below hz4)
        have hz5 := hb5.size
        have bn5 := bn4.step hst5 (by decide)
        have hov5 := hov4.flat_step RVal.flat hst5 (by decide)
        have hrs6 := hrs5.snoc hmk hz2 (fun p hp => by
          obtain ⟨g', e2, h⟩ := HOLT2.out p hp
          exact ⟨g', e2, by omega⟩)
        obtain ⟨A6, n6, c6, rfl⟩ : ∃ A6 n6 c6, sv = .slice A6 n6 c6 := by
          obtain ⟨A, c, e, _⟩ := hov5.slc.open_
          exact ⟨A, _, c, e⟩
        clear hst5 hrs5 hmk hr4 hrs4 hov4 bn4 bl4 l1 hb4 hz4
        go_upto_region 13 with fail
        have bn6 := bn5.alloc (.cells #[.pointer (some ⟨g3, 0, none⟩)] 33)
        have hov6 := hov5.alloc (.cells #[.pointer (some ⟨g3, 0, none⟩)] 33)
        have hrs7 := hide (hrs6.below ((Below.refl _ w5).alloc (Nat.le_refl _) (.cells #[.pointer (some ⟨g3, 0, none⟩)] 33)))
        have hb6 := hb5.alloc hz5 (.cells #[.pointer (some ⟨g3, 0, none⟩)] 33)
        have hone := Slc.lit1 (R := RVal) (Si := fun _ => False) (Si' := fun _ => False) (w := w5) (x := (.pointer (some ⟨g3, 0, none⟩) : Value)) (u := [.pointer (some ⟨g3, 0, none⟩)]) 33 ⟨rfl, rfl⟩ (fun _ _ h => h.elim)
        have s0 := bn5.cell 0
        simp only [List.getElem?_toArray, List.getElem?_cons_succ, List.getElem?_cons_zero] at s0
        clear hrs6
        go_wp2_with (at_builtin; refine wpList_appg rfl (.tmp 59) (.tmp 61) 76 rfl RVal 33 [] w.heap.size 8 _ Tryd.underlying76 rowp_info rfl (by decide) (by decide) _ _ rfl hov6 _ (fun _ => False) _ _ rfl hone (fun _ h => False.elim h) (by simp; omega) hb6.size ?_; intro v7 w7 hv7 hst7 hg7 ho7; obtain ⟨A7, n7, c7, rfl⟩ : ∃ A7 n7 c7, v7 = .slice A7 n7 c7 := (by obtain ⟨A, c, e, _⟩ := hv7.slc.open_; exact ⟨A, _, c, e⟩); have hb7 := hb6.trans (hst7.below hb6.size); have bn7 := bn6.step hst7 (by decide); have hrs8 := hrs7.out.step hst7 (by decide) (by decide) (by decide); have f0 := bn7.frozen 0; have s0 := bn7.cell 0; simp only [List.getElem?_toArray, List.getElem?_cons_succ, List.getElem?_cons_zero] at s0; have hst9 : Step w.heap.size [78] w7 (w7.setCell ⟨w.heap.size, 0, none⟩ (.slice A7 n7 c7)) := (Step.refl w.heap.size [78] w7).setCell (p := ⟨w.heap.size, 0, none⟩) (Nat.le_refl _) bn7.bears (.slice A7 n7 c7); have hb9 := hide (hb7.trans (hst9.below hb7.size)); have bn9 := hide (show Blk (w7.setCell ⟨w.heap.size, 0, none⟩ (.slice A7 n7 c7)) w.heap.size 78 #[.slice A7 n7 c7] from bn7.set_ 0 (.slice A7 n7 c7)); have hov9 := hide (show Own RVal 33 [] w.heap.size (w7.setCell ⟨w.heap.size, 0, none⟩ (.slice A7 n7 c7)) (.slice A7 n7 c7) ((qs ++ [((.pointer (some ⟨g3, 0, none⟩) : Value), (cl, wrp))]).map Prod.fst) from (by rw [List.map_append]; exact hv7.flat_step RVal.flat hst9 (by decide))); have hrs9 := hide (hrs8.step hst9 (by decide) (by decide) (by decide)); clear hv7 hst7 hg7 ho7 hrs7 hrs8 bn6 hov6 hst9 hone hb6)
        go_roundw
        case rel => exact ⟨k + 1, by omega, by go_num, E.out, _, qs ++ [((.pointer (some ⟨g3, 0, none⟩) : Value), (cl, wrp))], by rw [List.map_append, HQS.out, HTK.out]; rfl, bn9.out, hov9.out, hrs9.out, hb9.out⟩
        case measure => simp [intOf]; omega
    · obtain rfl : k = ls.length := by omega
      rw [List.drop_length] at hwk
      rw [List.take_of_length_le (Nat.le_refl _)] at hqs
      have E : Hid (res = none) := hide (by rw [← HR.out, hwk]; rfl)
      have HQS := hide hqs
      clear hwk hqs
      go_wp2
      go_ret2
      refine ⟨fun _ => ⟨_, qs, rfl, ⟨w.heap.size, _, rfl, Nat.le_refl _, bn, hov, hrs⟩, HQS.out⟩, fun i c h => ?_, hbr⟩
      rw [E.out] at h
      cases h
set_option maxHeartbeats 4000000 in
theorem GOf_none (So : Nat → Prop) (x : Value) (ls : List LineV) (w : World) (hw : wrgF ls = none) (hx : Slc RLine So (fun b => b < w.heap.size) w x ls) (h0 : 0 < ls.length) (h1 : ls.length ≤ 1024) :
    Calls Tryd.prog 11 #[x] w fun e w' => ∃ v qs, e = .returned (.tuple #[v, .nilIface]) ∧ GridP w.heap.size w' v qs ∧ qs.map Prod.snd = ls ∧ Below w.heap.size w w' := by
  obtain ⟨A, c, rfl, hl1, hl2, hA⟩ := hx.open_
  have HR := hide (wrg_none ls 0 hw)
  clear hw
  obtain ⟨ab0, off0, v0, hA0, _, q02, q03, hv0⟩ := line_at hA h0
  subst hA0
  obtain ⟨A0, c0, rfl, _, _, _⟩ := hv0.open_
  have hh0 := head0_at h0
  obtain ⟨n0, hn0⟩ : ∃ n0, ls[0].1.length = n0 := ⟨_, rfl⟩
  rw [hn0] at q02 hh0
  have HH0 := hide hh0
  simp only [Nat.zero_mul, Nat.add_zero] at q02
  have hab0 := World.block_lt_of_cell? _ _ q02
  simp only at hab0
  have HQ2 := hide q02
  have t1 : ((ls.length : Int) == 0) = false := by rw [beq_eq_false_iff_ne]; omega
  have t2 : ¬ (1024 : Int) < ls.length := by omega
  have hki0 : (0 : Int) < ls.length := by omega
  have bn := Blk.new w 78 #[.slice none 0 0]
  have hb1 := (Below.refl w.heap.size w).alloc (Nat.le_refl _) (.cells #[.slice none 0 0] 78)
  clear hh0 hn0 q02 q03 hv0
  go_enter Tryd.func11, Tryd.ntmps11
  go_wp2
  go_loopw [22] (fun iv wr => ∃ k : Nat, k ≤ ls.length ∧ iv = .int .i64 k ∧ wrgF ls = wrgFrom n0 (ls.drop k) k ∧ ∃ (sv : Value) (qs : List RowP), qs.map Prod.snd = ls.take k ∧ Blk wr w.heap.size 78 #[sv] ∧ Own RVal 33 [] w.heap.size wr sv (qs.map Prod.fst) ∧ RowsP w.heap.size wr qs ∧ Below w.heap.size w wr) (fun iv _ => ls.length - (intOf iv).toNat)
  case atStart => exact ⟨0, Nat.zero_le _, rfl, by rw [← HH0.out]; rfl, _, [], rfl, bn, Own.nil_ _ _ _ _ _ (by simp), RowsP.nil_ _ _, hb1⟩
  case round =>
    clear bn hb1
    obtain ⟨k, hk, rfl, hwk, sv, qs, hqs, bn, hov, hrs, hbr⟩ := hrel
    have hzr := hbr.size
    by_cases hlt : k < ls.length
    · obtain ⟨ab, off, v, hA1, _, q00, q01, hv⟩ := line_at hA hlt
      injection hA1 with hA1
      injection hA1 with e1 e2
      subst e1; subst e2
      obtain ⟨A', c', rfl, _, _, _⟩ := hv.open_
      have q0 := (hbr.cell (p := ⟨ab0, off0 + k * 2, none⟩) hab0).trans q00
      have q1 := (hbr.cell (p := ⟨ab0, off0 + k * 2 + 1, none⟩) hab0).trans q01
      have q2 := (hbr.cell (p := ⟨ab0, off0, none⟩) hab0).trans HQ2.out
      have hki : (k : Int) < ls.length := by omega
      rw [wrg_step hlt] at hwk
      have htk := take_snoc' ls k hlt
      obtain ⟨lk, hlk⟩ : ∃ lk, ls[k] = lk := ⟨_, rfl⟩
      obtain ⟨cl, wrp⟩ := lk
      have HLK0 := hide hlk
      rw [hlk] at q0 q1 hv hwk htk
      simp only at q0 q1 hv hwk
      have hcs := wr1_cases n0 cl
      have HW0 : Hid (wr1 n0 cl = 0) := hide (by have := HR.out ls[k] (List.getElem_mem _); rw [HLK0.out] at this; rw [← HH0.out]; exact this)
      have HWK := hide hwk
      have HTK := hide htk
      have HQS := hide hqs
      have hql : qs.length = k := by
        have := congrArg List.length hqs
        rw [List.length_map, List.length_take] at this
        omega
      have HOLT := hide (fun q (hq : q ∈ qs) => by
        obtain ⟨g, e, _, h⟩ := hrs.lt q hq
        exact (⟨g, e, h⟩ : ∃ g, q.1 = .pointer (some ⟨g, 0, none⟩) ∧ g < wr.heap.size))
      clear hwk htk hqs hlk q00 q01
      go_upto_region 7 with fail
      have hb2 := hbr.alloc hzr (.cells #[.slice A' cl.length c', .bool wrp] 38)
      have hc2 := (Below.refl wr.heap.size wr).alloc (Nat.le_refl _) (.cells #[.slice A' cl.length c', .bool wrp] 38)
      have bn2 := bn.alloc (.cells #[.slice A' cl.length c', .bool wrp] 38)
      have bl := Blk.new wr 38 #[.slice A' cl.length c', .bool wrp]
      have hov2 := hov.alloc (.cells #[.slice A' cl.length c', .bool wrp] 38)
      have hrs2 := hrs.below hc2
      have q2 := (hc2.cell (p := ⟨ab0, off0, none⟩) (by simp only; omega)).trans q2
      have holt2 : ∀ q ∈ qs, ∃ g, q.1 = .pointer (some ⟨g, 0, none⟩) ∧ g < wr.heap.size + 1 := fun q hq => by
        obtain ⟨g, e, h⟩ := HOLT.out q hq
        exact ⟨g, e, by omega⟩
      have hsz2 : (wr.alloc (.cells #[.slice A' cl.length c', .bool wrp] 38)).heap.size = wr.heap.size + 1 := by simp
      obtain ⟨gl, hgl⟩ : ∃ gl, wr.heap.size = gl := ⟨_, rfl⟩
      rw [hgl] at bl hsz2 holt2 ⊢
      generalize wr.alloc (.cells #[.slice A' cl.length c', .bool wrp] 38) = w2 at *
      have hz2 := hb2.size
      have HOLT2 := hide holt2
      clear hgl hbr hzr bn hov hrs hc2 q0 q1 holt2 HOLT
      have l0 := bl.cell 0
      have l1 := bl.cell 1
      simp only [List.getElem?_toArray, List.getElem?_cons_succ, List.getElem?_cons_zero] at l0 l1
      have hv2 : Slc RCell (fun b => b < w.heap.size) (fun b => b < w.heap.size) w2 (.slice A' cl.length c') cl := hv.mono (Keep.below hb2) (Keep.below hb2)
      rcases hcs with ⟨h1, h2⟩ | ⟨h1, h2, h3⟩ | ⟨h1, h2, h3, h4⟩ | ⟨h1, h2, h3, h4⟩
      · exact absurd HW0.out (by rw [h2]; decide)
      · exact absurd HW0.out (by rw [h3]; decide)
      · exact absurd HW0.out (by rw [h4]; decide)
      · have E : Hid (wrgF ls = wrgFrom n0 (ls.drop (k + 1)) (k + 1)) := hide (by rw [HWK.out, h4]; rfl)
        have t3 : ((cl.length : Int) != n0) = false := by simp; omega
        have HC := hide (ROf_ok _ _ (.slice A' cl.length c') cl w2 hv2 (by omega) h1.2 h2)
        clear h1 h2 h3 h4
        go_wp2_with fail
        refine HC.out.mono ?_
        rintro e w3 ⟨v3, rfl, hv3, hc3⟩
        have hb3 := hb2.trans (hc3.mono hz2)
        have hz3 := hb3.size
        have q2 := (hc3.cell (p := ⟨ab0, off0, none⟩) (by simp only; omega)).trans q2
        have bn3 := bn2.same hc3
        have bl3 := bl.same hc3
        have hov3 := hov2.below hc3
        have hrs3 := hrs2.below hc3
        have HWD := hide (fun n => (Wide_ok w2.heap.size v3 cl false (w3.drewN n) (hv3.drewN n)).mono (fun _ _ h => (⟨h.1, h.2.symm⟩ : _ ∧ _)))
        obtain ⟨g3, hg3, hg3b, _⟩ := hv3.lt
        subst hg3
        clear hc3 l0 l1 hov2 hrs2 bn2 bl
        go_wp2
        go_quiet ((go_at_call 37; exact Calls.quiet_of_same (HWD.out _)))
        go_upto_region 12 with fail
        have hb4 := below_drewN hb3 nq
        have bn4 := bn3.drewN nq
        have bl4 := bl3.drewN nq
        have hov4 := hov3.drewN nq
        have hrs4 := hrs3.step (b2 := 0) ((Step.refl 0 [] w3).drewN nq) (by simp) (by simp) (by simp)
        have hr4 := hv3.drewN nq
        have hsz4 : w3.heap.size = (w3.drewN nq).heap.size := rfl
        clear bn3 bl3 hov3 hrs3 hv3 hb3 q2 HWD
        generalize w3.drewN nq = w4 at *
        have hz4 := hb4.size
        have l1 := bl4.cell 1
        simp only [List.getElem?_toArray, List.getElem?_cons_succ, List.getElem?_cons_zero] at l1
        go_wp2_with fail
        refine (GoOn2_ok w2.heap.size _ cl false wrp w4 hr4).mono ?_
        rintro e w5 ⟨⟨re, rfl⟩, hw5⟩
        obtain ⟨gx, sx, hgx, hbx, hmk⟩ := hr4.mark (on := wrp)
        injection hgx with hgx
        injection hgx with hgx
        injection hgx with hgx
        subst hgx
        have hst5 : Step w.heap.size [83] w4 (w4.setCell ⟨g3, 1, none⟩ (.bool wrp)) := (Step.refl w.heap.size [83] w4).setCell (p := ⟨g3, 1, none⟩) (Nat.le_trans hz2 hg3b) hbx.bears _
        have hrs5 := hrs4.far (on := .bool wrp) hbx (fun p hp e => by
          obtain ⟨g', e2, h⟩ := HOLT2.out p hp
          rw [e2] at e
          injection e with e
          injection e with e
          injection e with e
          omega)
        rw [← hw5 g3 rfl] at hmk hst5 hrs5
        clear hw5 hbx
        have hb5 := hb4.trans (hst5.below hz4)
        have hz5 := hb5.size
        have bn5 := bn4.step hst5 (by decide)
        have hov5 := hov4.flat_step RVal.flat hst5 (by decide)
        have hrs6 := hrs5.snoc hmk hz2 (fun p hp => by
          obtain ⟨g', e2, h⟩ := HOLT2.out p hp
          exact ⟨g', e2, by omega⟩)
        obtain ⟨A6, n6, c6, rfl⟩ : ∃ A6 n6 c6, sv = .slice A6 n6 c6 := by
          obtain ⟨A, c, e, _⟩ := hov5.slc.open_
          exact ⟨A, _, c, e⟩
        clear hst5 hrs5 hmk hr4 hrs4 hov4 bn4 bl4 l1 hb4 hz4
        go_upto_region 13 with fail
        have bn6 := bn5.alloc (.cells #[.pointer (some ⟨g3, 0, none⟩)] 33)
        have hov6 := hov5.alloc (.cells #[.pointer (some ⟨g3, 0, none⟩)] 33)
        have hrs7 := hide (hrs6.below ((Below.refl _ w5).alloc (Nat.le_refl _) (.cells #[.pointer (some ⟨g3, 0, none⟩)] 33)))
        have hb6 := hb5.alloc hz5 (.cells #[.pointer (some ⟨g3, 0, none⟩)] 33)
        have hone := Slc.lit1 (R := RVal) (Si := fun _ => False) (Si' := fun _ => False) (w := w5) (x := (.pointer (some ⟨g3, 0, none⟩) : Value)) (u := [.pointer (some ⟨g3, 0, none⟩)]) 33 ⟨rfl, rfl⟩ (fun _ _ h => h.elim)
        have s0 := bn5.cell 0
        simp only [List.getElem?_toArray, List.getElem?_cons_succ, List.getElem?_cons_zero] at s0
        clear hrs6
        go_wp2_with (at_builtin; refine wpList_appg rfl (.tmp 59) (.tmp 61) 76 rfl RVal 33 [] w.heap.size 8 _ Tryd.underlying76 rowp_info rfl (by decide) (by decide) _ _ rfl hov6 _ (fun _ => False) _ _ rfl hone (fun _ h => False.elim h) (by simp; omega) hb6.size ?_; intro v7 w7 hv7 hst7 hg7 ho7; obtain ⟨A7, n7, c7, rfl⟩ : ∃ A7 n7 c7, v7 = .slice A7 n7 c7 := (by obtain ⟨A, c, e, _⟩ := hv7.slc.open_; exact ⟨A, _, c, e⟩); have hb7 := hb6.trans (hst7.below hb6.size); have bn7 := bn6.step hst7 (by decide); have hrs8 := hrs7.out.step hst7 (by decide) (by decide) (by decide); have f0 := bn7.frozen 0; have s0 := bn7.cell 0; simp only [List.getElem?_toArray, List.getElem?_cons_succ, List.getElem?_cons_zero] at s0; have hst9 : Step w.heap.size [78] w7 (w7.setCell ⟨w.heap.size, 0, none⟩ (.slice A7 n7 c7)) := (Step.refl w.heap.size [78] w7).setCell (p := ⟨w.heap.size, 0, none⟩) (Nat.le_refl _) bn7.bears (.slice A7 n7 c7); have hb9 := hide (hb7.trans (hst9.below hb7.size)); have bn9 := hide (show Blk (w7.setCell ⟨w.heap.size, 0, none⟩ (.slice A7 n7 c7)) w.heap.size 78 #[.slice A7 n7 c7] from bn7.set_ 0 (.slice A7 n7 c7)); have hov9 := hide (show Own RVal 33 [] w.heap.size (w7.setCell ⟨w.heap.size, 0, none⟩ (.slice A7 n7 c7)) (.slice A7 n7 c7) ((qs ++ [((.pointer (some ⟨g3, 0, none⟩) : Value), (cl, wrp))]).map Prod.fst) from (by rw [List.map_append]; exact hv7.flat_step RVal.flat hst9 (by decide))); have hrs9 := hide (hrs8.step hst9 (by decide) (by decide) (by decide)); clear hv7 hst7 hg7 ho7 hrs7 hrs8 bn6 hov6 hst9 hone hb6)
        go_roundw
        case rel => exact ⟨k + 1, by omega, by go_num, E.out, _, qs ++ [((.pointer (some ⟨g3, 0, none⟩) : Value), (cl, wrp))], by rw [List.map_append, HQS.out, HTK.out]; rfl, bn9.out, hov9.out, hrs9.out, hb9.out⟩
        case measure => simp [intOf]; omega
    · obtain rfl : k = ls.length := by omega
      rw [List.drop_length] at hwk
      rw [List.take_of_length_le (Nat.le_refl _)] at hqs
      have HQS := hide hqs
      clear hwk hqs
      go_wp2
      go_ret2
      exact ⟨_, qs, rfl, ⟨w.heap.size, _, rfl, Nat.le_refl _, bn, hov, hrs⟩, HQS.out, hbr⟩
end Go.Proofs.YtbkenfljknpjgaaDoor
