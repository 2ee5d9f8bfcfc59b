/-
  Several texts of this seat as one: Wrk51, Law51i, Laid51i.
-/
import Derived.Test.YtbkenfljknpjgaaDoorRflB
import Derived.Test.YtbkenfljknpjgaaDoorLitn2
import Derived.Test.YtbkenfljknpjgaaDoorErr5
import Derived.Test.YtbkenfljknpjgaaDoorErr6
namespace Go.Proofs.YtbkenfljknpjgaaDoor
open Go.RowKit
set_option linter.unusedVariables false
set_option linter.unusedSimpArgs false

theorem Slc.lt_up2 {α : Type} {R : Rep α} {So : Nat → Prop} {w w' : World} {v : Value} {l : List α} (h : Slc R So So w v l) (hb : Below w.heap.size w w') : Slc R (fun b => b < w'.heap.size) (fun b => b < w'.heap.size) w' v l :=
  (h.mono (Keep.below (S := So) hb) (Keep.below (S := So) hb)).mono (Keep.lt _ _) (Keep.lt _ _)
/-- What is known of a right view's lines. -/
structure Rgt46 (wd hi : Int) (ls : List LineV) : Prop where
  w1 : 1 ≤ wd
  w2 : wd ≤ 1024
  h1 : 1 ≤ hi
  h2 : hi ≤ 1024
  hl : hi = ls.length
  line : ∀ l ∈ ls, (l.1.length : Int) = wd ∧ soundB l.1 = true
set_option maxHeartbeats 1000000 in
theorem one51_ok (r : Int) (hr : (Lit.int .i32 r).wf = true) (w : World) :
    Calls Tryd.prog 48 #[.int .i32 r] w fun e w' => ∃ v, e = .returned (.agg #[.int .i64 1, v]) ∧ Slc (Rep.int .i32) (fun b => b < w'.heap.size) (fun b => b < w'.heap.size) w' v [r] ∧ Below w.heap.size w w' := by
  have hin := own_i32 (w.alloc (.cells #[.int .i64 1, .slice (some ⟨w.heap.size + 1, 0, none⟩) 1 1] 74)) [r] (by simpa using hr) 0 (w.heap.size + 1) 1 (Nat.zero_le _) (by simp) rfl (by simp [maxLen])
  simp only [List.map_cons, List.map_nil] at hin
  have hin2 := hin.slc
  have hbl := (Blk.new w 74 #[.int .i64 1, .slice (some ⟨w.heap.size + 1, 0, none⟩) 1 1]).alloc (.cells #[.int .i32 r] 21)
  have hb0 : Below w.heap.size w ((w.alloc (.cells #[.int .i64 1, .slice (some ⟨w.heap.size + 1, 0, none⟩) 1 1] 74)).alloc (.cells #[.int .i32 r] 21)) := ((Below.refl _ w).alloc (Nat.le_refl _) _).alloc (by simp) _
  have x0 := hbl.cell 0
  have x1 := hbl.cell 1
  simp only [List.getElem?_toArray, List.getElem?_cons_succ, List.getElem?_cons_zero] at x0 x1
  have HX := hide (⟨x0, x1⟩ : _ ∧ _)
  have HI := hide hin2
  have HB := hide hb0
  clear hin hbl hin2 x0 x1 hb0
  go_enter Tryd.func48, Tryd.ntmps48
  go_wp2
  obtain ⟨x0, x1⟩ := HX.out
  refine bodyPost_ret (v := .agg #[.int .i64 1, .slice (some ⟨w.heap.size + 1, 0, none⟩) 1 1]) (by simp [results, Tryd.results48, go_sem, x0, x1]) rfl ⟨_, rfl, HI.out.mono (Keep.weaken fun b h => h.1) (Keep.lt _ _), HB.out⟩

set_option maxHeartbeats 2000000 in
theorem rSame32_eq (So Si To Ti : Nat → Prop) (x y : Value) (ls : List LineV) (w : World) (hx : Slc RLine So Si w x ls) (hy : Slc RLine To Ti w y ls) :
    Calls Tryd.prog 17 #[x, y] w fun e w' => e = .returned (.bool true) ∧ ∃ n, w' = w.drewN n := by
  obtain ⟨A, c, rfl, hl1, hl2, hA⟩ := hx.open_
  obtain ⟨B, d, rfl, hm1, hm2, hB⟩ := hy.open_
  go_enter Tryd.func17, Tryd.ntmps17
  go_wp2
  go_loopw [5] (fun i wr => ∃ k : Nat, k ≤ ls.length ∧ i = .int .i64 k ∧ ∃ n, wr = w.drewN n) (fun i _ => ls.length - (intOf i).toNat)
  case atStart => exact ⟨0, Nat.zero_le _, rfl, 0, rfl⟩
  case round =>
    obtain ⟨k, hk, rfl, n, rfl⟩ := hrel
    by_cases hlt : k < ls.length
    · obtain ⟨ab, off, v, rfl, _, q0, q1, hv⟩ := line_at hA hlt
      obtain ⟨A', c', rfl, _, _, _⟩ := hv.open_
      obtain ⟨bb, off2, v2, rfl, _, p0, p1, hu⟩ := line_at hB hlt
      obtain ⟨B', d', rfl, _, _, _⟩ := hu.open_
      have hki : (k : Int) < ls.length := by omega
      have hS := hide (fun m => rSame23_ok _ _ _ _ _ _ ls[k].1 ls[k].1 (w.drewN m) (hv.mono (Keep.drewN _ w m) (Keep.drewN _ w m)) (hu.mono (Keep.drewN _ w m) (Keep.drewN _ w m)))
      rw [decide_eq_true rfl] at hS
      go_wp2
      go_quiet ((go_at_call 45; refine (hS.out _).mono ?_; rintro e w' ⟨rfl, m, rfl⟩; exact ⟨rfl, _, by rw [World.drewN_drewN, Nat.add_assoc]⟩))
      go_wp2
      go_roundw
      case rel => exact ⟨k + 1, by omega, by go_num, _, rfl⟩
      case measure => simp [intOf]; omega
    · go_wp2
      go_ret
      exact ⟨rfl, _, rfl⟩

/-- Cells that are written out. -/
theorem lit_cells {w : World} {l : List CellV} {xs : List Value} (h : Els RCell (fun b => b < w.heap.size) w l xs) (n : Nat) (hn : l.length = n) (hm : n ≤ maxLen) :
    Slc RCell (fun b => b < w.heap.size + 1) (fun b => b < w.heap.size + 1) (w.alloc (.cells xs.toArray 74)) (.slice (some ⟨w.heap.size, 0, none⟩) n n) l := by
  have h1 : Slc RCell (fun b => b = w.heap.size) (fun b => b < w.heap.size) (w.alloc (.cells xs.toArray 74)) (.slice (some ⟨w.heap.size, 0, none⟩) n n) l := Slc.litn 74 h (Keep.alloc _ _ _) n hn hm _ rfl
  exact h1.mono (Keep.weaken fun b h => by omega) (Keep.weaken fun b h => by omega)
theorem lit_lines {w : World} {ls : List LineV} {xs : List Value} (h : Els RLine (fun b => b < w.heap.size) w ls xs) (n : Nat) (hn : ls.length = n) (hm : n ≤ maxLen) :
    Slc RLine (fun b => b < w.heap.size + 1) (fun b => b < w.heap.size + 1) (w.alloc (.cells xs.toArray 38)) (.slice (some ⟨w.heap.size, 0, none⟩) n n) ls := by
  have h1 : Slc RLine (fun b => b = w.heap.size) (fun b => b < w.heap.size) (w.alloc (.cells xs.toArray 38)) (.slice (some ⟨w.heap.size, 0, none⟩) n n) ls := Slc.litn 38 h (Keep.alloc _ _ _) n hn hm _ rfl
  exact h1.mono (Keep.weaken fun b h => by omega) (Keep.weaken fun b h => by omega)

set_option maxRecDepth 8000 in
set_option maxHeartbeats 4000000 in
theorem works51_ok (w : World) :
    Calls Tryd.prog 21 #[] w fun e w' => e = .returned (.bool true) ∧ Below w.heap.size w w' := by
  have hF : linesF (sideR 2) (longF [([(1, [1]), (1, [2]), (1, [3])], false)]) = [([(1, [1]), (1, [2])], true), ([(1, [3]), (0, [])], false)] := by decide
  have HF := hide hF
  have hS : ∀ y ∈ longF [([((1, [1]) : CellV), (1, [2]), (1, [3])], false)], y.length ≤ 50000 ∧ badI y = none := by decide
  have HSM := hide hS
  clear hF hS
  go_enter Tryd.func21, Tryd.ntmps21
  go_wp2_with fail
  refine (one51_ok 1 (by decide) _).mono ?_
  rintro e w1 ⟨v1, rfl, hv1, hb1⟩
  obtain ⟨A1, c1, rfl, _, _, _⟩ := hv1.open_
  simp only [List.length_singleton] at hv1
  go_wp2_with fail
  refine (one51_ok 2 (by decide) _).mono ?_
  rintro e w2 ⟨v2, rfl, hv2, hb2⟩
  obtain ⟨A2, c2, rfl, _, _, _⟩ := hv2.open_
  simp only [List.length_singleton] at hv2
  go_wp2_with fail
  refine (one51_ok 3 (by decide) _).mono ?_
  rintro e w3 ⟨v3, rfl, hv3, hb3⟩
  obtain ⟨A3, c3, rfl, _, _, _⟩ := hv3.open_
  simp only [List.length_singleton] at hv3
  have hb3' := (hb1.trans (hb2.mono hb1.size)).trans (hb3.mono (Nat.le_trans hb1.size hb2.size))
  have hz3 := hb3'.size
  have hc := lit_cells (els_3 (k := 1) (m := 1) (n := 1) (by decide) (by decide) (by decide) ((hv1.lt_up2 hb2).lt_up2 hb3) (hv2.lt_up2 hb3) hv3) 3 rfl (by simp [maxLen])
  have hb4 := hb3'.alloc hz3 (.cells [.int .i64 1, .slice A1 1 c1, .int .i64 1, .slice A2 1 c2, .int .i64 1, .slice A3 1 c3].toArray 74)
  have hs4 : (w3.alloc (.cells [.int .i64 1, .slice A1 1 c1, .int .i64 1, .slice A2 1 c2, .int .i64 1, .slice A3 1 c3].toArray 74)).heap.size = w3.heap.size + 1 := by simp
  have hl := lit_lines (w := w3.alloc (.cells [.int .i64 1, .slice A1 1 c1, .int .i64 1, .slice A2 1 c2, .int .i64 1, .slice A3 1 c3].toArray 74)) (els_l1 (p := false) (by rw [hs4]; exact hc)) 1 rfl (by simp [maxLen])
  have hb5 := hb4.alloc hb4.size (.cells [.slice (some ⟨w3.heap.size, 0, none⟩) 3 3, .bool false].toArray 38)
  simp only [hs4] at hl
  have HL := hide (fun h => Lines_ok _ _ _ 2 _ (hl.mono (Keep.refl _ _) (Keep.weaken h)) (by simp) (by decide) HSM.out)
  have HB5 := hide hb5
  clear hl hc hb5 hv1 hv2 hv3 hb1 hb2 hb3 hb4 hs4
  go_wp2_with fail
  refine (HL.out (fun b hb => by simpa using hb)).mono ?_
  rintro e w6 ⟨sv, ps, rfl, hln, hps, hc6⟩
  rw [HF.out] at hps
  have hb6 := HB5.out.trans (hc6.mono HB5.out.size)
  have hz6 := hb6.size
  have hl6 := Lns.slc ⟨ps, hps, hln⟩
  obtain ⟨As, cs, rfl, _, _, _⟩ := hl6.open_
  simp only [List.length_cons, List.length_nil, Nat.zero_add, Nat.reduceAdd] at hl6
  have HL6 := hide hl6
  clear hl6 hln hps hc6 HL HB5 HSM HF
  go_wp2_with fail
  refine (one51_ok 1 (by decide) _).mono ?_
  rintro e w7 ⟨v7, rfl, hv7, hb7⟩
  obtain ⟨A7, c7, rfl, _, _, _⟩ := hv7.open_
  simp only [List.length_singleton] at hv7
  go_wp2_with fail
  refine (one51_ok 2 (by decide) _).mono ?_
  rintro e w8 ⟨v8, rfl, hv8, hb8⟩
  obtain ⟨A8, c8, rfl, _, _, _⟩ := hv8.open_
  simp only [List.length_singleton] at hv8
  have hb78 := (hb7.trans (hb8.mono hb7.size))
  have hcA := lit_cells (els_2 (k := 1) (m := 1) (by decide) (by decide) (hv7.lt_up2 hb8) hv8) 2 rfl (by simp [maxLen])
  have hb9 := (hb78.alloc hb78.size (.cells [.int .i64 1, .slice A7 1 c7, .int .i64 1, .slice A8 1 c8].toArray 74))
  have hs9 : (w8.alloc (.cells [.int .i64 1, .slice A7 1 c7, .int .i64 1, .slice A8 1 c8].toArray 74)).heap.size = w8.heap.size + 1 := by simp
  rw [← hs9] at hcA
  have HCA := hide hcA
  have HB9 := hide hb9
  clear hcA hb9 hv7 hv8 hb7 hb8 hb78 hs9
  go_wp2_with fail
  refine (one51_ok 3 (by decide) _).mono ?_
  rintro e w10 ⟨v10, rfl, hv10, hb10⟩
  obtain ⟨A10, c10, rfl, _, _, _⟩ := hv10.open_
  simp only [List.length_singleton] at hv10
  have hb10' := HB9.out.trans (hb10.mono HB9.out.size)
  have hcB := lit_cells (els_2 (k := 1) (m := 0) (by decide) (by decide) hv10 Slc.nil_) 2 rfl (by simp [maxLen])
  have hsB : (w10.alloc (.cells [.int .i64 1, .slice A10 1 c10, .int .i64 0, .slice none 0 0].toArray 74)).heap.size = w10.heap.size + 1 := by simp
  rw [← hsB] at hcB
  have hcA2 := (HCA.out.lt_up2 hb10).lt_up2 ((Below.refl w10.heap.size w10).alloc (Nat.le_refl _) (.cells [.int .i64 1, .slice A10 1 c10, .int .i64 0, .slice none 0 0].toArray 74))
  have hlB := lit_lines (els_l2 (p := true) (q := false) hcA2 hcB) 2 rfl (by simp [maxLen])
  have hb11 := hb10'.alloc hb10'.size (.cells [.int .i64 1, .slice A10 1 c10, .int .i64 0, .slice none 0 0].toArray 74)
  have hb12 := hb11.alloc hb11.size (.cells [.slice (some ⟨w8.heap.size, 0, none⟩) 2 2, .bool true, .slice (some ⟨w10.heap.size, 0, none⟩) 2 2, .bool false].toArray 38)
  have hlA := HL6.out.lt_up2 hb12
  rw [hsB] at hlB
  have HSA := hide (rSame32_eq _ _ _ _ _ _ _ _ hlA hlB)
  have HB12 := hide (hb6.trans (hb12.mono hz6))
  clear hlA hlB hcA2 hcB hb11 hb12 hb10' hsB hv10 HCA HB9 hb10
  go_wp2_with fail
  refine HSA.out.mono ?_
  rintro e w13 ⟨rfl, nq, rfl⟩
  go_wp2
  go_ret
  exact ⟨rfl, below_drewN HB12.out _⟩
end Go.Proofs.YtbkenfljknpjgaaDoor

namespace Go.Proofs.YtbkenfljknpjgaaDoor
open Go.RowKit
set_option linter.unusedVariables false
set_option linter.unusedSimpArgs false

theorem right_at {A : Option Addr} {c : Nat} {y : List ItemV} {w W : World} (hx : Slc RCell (fun b => b < w.heap.size) (fun b => b < w.heap.size) w (.slice A y.length c) y) {k : Nat} (hk : k < y.length) (hW : Below w.heap.size w W) :
    ∃ ab off A' c', A = some ⟨ab, off, none⟩ ∧ W.cell? ⟨ab, off + k * 2, none⟩ = some (.int .i64 y[k].1) ∧ W.cell? ⟨ab, off + k * 2 + 1, none⟩ = some (.slice A' y[k].2.length c') ∧ Calls Tryd.prog 22 #[.agg #[.int .i64 y[k].1, .slice A' y[k].2.length c']] W (fun e w' => e = .returned (.bool (rightI y[k])) ∧ Below W.heap.size W w') := by
  obtain ⟨ab, off, v, hA, _, p0, p1, hw0, hv⟩ := cell_at hx.slb hk
  obtain ⟨A', c', rfl, _, _, _⟩ := hv.open_
  have hab := World.block_lt_of_cell? _ _ p0
  exact ⟨ab, off, A', c', hA, (hW.cell (p := ⟨ab, off + k * 2, none⟩) hab).trans p0, (hW.cell (p := ⟨ab, off + k * 2 + 1, none⟩) hab).trans p1, rIRight_ok _ _ y[k].1 (.slice A' y[k].2.length c') y[k].2 W hw0 (hv.mono (Keep.below hW) (Keep.below hW))⟩

set_option maxRecDepth 100000 in
set_option maxHeartbeats 8000000 in
theorem walkS_ReflowItems (b : Nat → Addr) (x : Value) (y : List ItemV) (n : Int) (w : World) (hS : Sents b w) (hT : TypeVar w) (hx : Slc RCell (fun b => b < w.heap.size) (fun b => b < w.heap.size) w x y) (hn : (Lit.int .i64 n).wf = true) :
    Calls Tryd.prog 7 #[x, .int .i64 n] w fun e w' => e = .returned (.bool true) ∧ Below w.heap.size w w' := by
  obtain ⟨A, c, rfl, _, _, _⟩ := hx.open_
  have HSE := hide hS
  have HTV := hide hT
  have HX := hide hx
  clear hS hT
  have HRI := hide (fun (k : Nat) (hk : k < y.length) (W : World) (hW : Below w.heap.size w W) => right_at hx hk hW)
  clear hx
  go_enter Tryd.func7, Tryd.ntmps7
  go_wp2_with fail
  refine (works51_ok _).mono ?_
  rintro e w1 ⟨rfl, hb1⟩
  have hz1 := hb1.size
  by_cases hlen : y.length ≤ 300
  case neg =>
    have hl2 : (300 : Int) < y.length := by omega
    go_wp2_with fail
    refine (works51_ok _).mono ?_
    rintro e w9 ⟨rfl, hc9⟩
    go_wp2
    go_ret
    exact ⟨rfl, hb1.trans (hc9.mono hz1)⟩
  case pos =>
    have hl2 : ¬ (300 : Int) < y.length := by omega
    have hx1 : Slc RCell (fun b => b < w.heap.size) (fun b => b < w1.heap.size) w1 (.slice A y.length c) y := (HX.out.mono (Keep.below hb1) (Keep.below hb1)).mono (Keep.refl _ _) (Keep.weaken fun b hb => Nat.lt_of_lt_of_le hb hz1)
    have HBR := hide (Break_ok b _ (.slice A y.length c) y n w1 (fun _ => HSE.out.below hb1) hx1 (by omega))
    clear hx1
    go_wp2_with fail
    refine HBR.out.mono ?_
    rintro e w2 ⟨h1, h2, hc2⟩
    have hb2 := hb1.trans (hc2.mono hz1)
    have hz2 := hb2.size
    cases hbd : badI y with
    | none =>
      obtain ⟨sv, ps, rfl, hln, hps⟩ := h1 hbd
      have HALL := hide (bad_none y 0 hbd)
      have HLN := hide hln
      have HPS := hide hps
      clear h1 h2 HBR hc2 hbd hln hps
      obtain ⟨wd, hwd⟩ : ∃ wd, sideR n = wd := ⟨_, rfl⟩
      have hr := sideR_range n
      rw [hwd] at hr HPS
      have HWD := hide hwd
      clear hwd
      obtain ⟨hL0, hLall⟩ := brkF_ok wd hr.1 y HALL.out
      have hpl : ps.length = (brkF wd y).length := by rw [← HPS.out, List.length_map]
      have hbl := brkF_len wd y
      have HLA := hide hLall
      obtain ⟨N, hN⟩ : ∃ N, (brkF wd y).length = N := ⟨_, rfl⟩
      rw [hN] at hpl hbl hL0
      have HN := hide hN
      clear hLall hN
      obtain ⟨G, capG, hve, _⟩ := HLN.out.at_ (i := 0) (by omega)
      rw [hpl] at hve
      subst hve
      go_wp2_with fail
      go_loopw [7] (fun iv wr => ∃ k : Nat, k ≤ y.length ∧ iv = .int .i64 k ∧ Below w2.heap.size w2 wr) (fun iv _ => y.length - (intOf iv).toNat)
      case atStart => exact ⟨0, Nat.zero_le _, rfl, Below.refl _ _⟩
      case round =>
        obtain ⟨k, hk, rfl, hbr⟩ := hrel
        by_cases hlt : k < y.length
        · have hbw := hb2.trans (hbr.mono hz2)
          obtain ⟨ab, off, A', c', hA, q0, q1, hR⟩ := HRI.out k hlt _ hbw
          subst hA
          have hki : (k : Int) < y.length := by omega
          rw [HALL.out y[k] (List.getElem_mem _)] at hR
          obtain ⟨k0, hk0⟩ : ∃ k0, y[k].1 = k0 := ⟨_, rfl⟩
          obtain ⟨l0, hl0⟩ : ∃ l0, y[k].2.length = l0 := ⟨_, rfl⟩
          rw [hk0, hl0] at hR
          rw [hk0] at q0
          rw [hl0] at q1
          have HR := hide hR
          clear hR hk0 hl0
          go_wp2_with fail
          refine HR.out.mono ?_
          rintro e w3 ⟨rfl, hc3⟩
          have hb3 := hbr.trans (hc3.mono hbr.size)
          clear q0 q1
          go_wp2
          go_roundw
          case rel => exact ⟨k + 1, by omega, by go_num, hb3⟩
          case measure => simp [intOf]; omega
        · obtain rfl : k = y.length := by omega
          have hbw := hb2.trans (hbr.mono hz2)
          have hzw := hbw.size
          have hxr : Slc RCell (fun b => b < w.heap.size) (fun b => b < wr.heap.size) wr (.slice A y.length c) y := (HX.out.mono (Keep.below hbw) (Keep.below hbw)).mono (Keep.refl _ _) (Keep.weaken fun b hb => Nat.lt_of_lt_of_le hb hzw)
          have HB := hide (rBreak_ok _ (.slice A y.length c) y n wr hxr (by omega) HALL.out)
          have hlnr := HLN.out.step (es := []) (Step.of_below hbr) (by simp) (by simp) (by simp)
          have HLR := hide hlnr
          clear hxr hlnr
          go_wp2_with fail
          refine HB.out.mono ?_
          rintro e w5 ⟨sv2, ps2, rfl, hln2, hps2, hc5⟩
          have hb5 := hbw.trans (hc5.mono hzw)
          have hz5 := hb5.size
          have hln5 := HLR.out.step (es := []) (Step.of_below hc5) (by simp) (by simp) (by simp)
          rw [HWD.out] at hps2
          have hlA := Lns.slc ⟨ps, HPS.out, hln5⟩
          have hlB := Lns.slc ⟨ps2, hps2, hln2⟩
          obtain ⟨A2, c2, hse, _, _, _⟩ := hlB.open_
          rw [HN.out] at hse
          subst hse
          have HSA := hide (rSame32_eq _ _ _ _ _ _ (brkF wd y) w5 hlA hlB)
          have HL5 := hide hln5
          clear hln5 hlA hlB hln2 hps2 hc5 HB HLR
          go_wp2_with fail
          refine HSA.out.mono ?_
          rintro e w6 ⟨rfl, nq, rfl⟩
          have hb6 : Below w.heap.size w (w5.drewN nq) := below_drewN hb5 _
          have HL6 := hide (HL5.out.step ((Step.refl w1.heap.size [] w5).drewN nq) (by simp) (by simp) (by simp))
          generalize w5.drewN nq = w6 at *
          rcases (by omega : n < 1 ∨ n = 1 ∨ (1 < n ∧ n < 1024) ∨ n = 1024 ∨ 1024 < n) with h1 | h1 | ⟨h1, h2⟩ | h1 | h1
          · have E : Hid ((1 : Int) = wd) := hide (by rw [← HWD.out]; unfold sideR; omega)
            have h3 : n < 1024 := by omega
            go_wp2_with fail
            go_loopw [8] (fun iv wr => ∃ k : Nat, k ≤ N ∧ iv = .int .i64 k ∧ Below w6.heap.size w6 wr) (fun iv _ => N - (intOf iv).toNat)
            case atStart => exact ⟨0, Nat.zero_le _, rfl, Below.refl _ _⟩
            case round =>
              obtain ⟨k, hk, rfl, hbr⟩ := hrel
              have hbz := hb6.trans (hbr.mono hb6.size)
              by_cases hlt : k < N
              · have hki : (k : Int) < N := by omega
                obtain ⟨hk1, hk2, hk3⟩ := HLA.out k (by rw [HN.out]; exact hlt)
                have hkp : k < ps.length := by omega
                have hpx : ps[k].2 = (brkF wd y)[k]'(by rw [HN.out]; exact hlt) := by
                  have e : (ps.map Prod.snd)[k]? = some ps[k].2 := by rw [List.getElem?_map, List.getElem?_eq_getElem hkp]; rfl
                  rw [HPS.out, List.getElem?_eq_getElem (by rw [HN.out]; exact hlt)] at e
                  injection e with e
                  exact e.symm
                rw [← hpx, HN.out] at hk3
                rw [← hpx] at hk1 hk2
                have hlr := HL6.out.step (es := []) (Step.of_below hbr) (by simp) (by simp) (by simp)
                obtain ⟨G2, cap2, hve, _, hGl, _, q0, q1, _⟩ := hlr.at_ hkp
                injection hve with e1 e2 e3
                injection e1 with e1
                injection e1 with e1
                subst e1
                have hcl := hlr.cells ps[k] (List.getElem_mem _)
                generalize ps[k] = pk at *
                obtain ⟨pv, cl, fl⟩ := pk
                simp only at q0 q1 hk1 hk2 hk3 hcl
                obtain ⟨Ac, cc, rfl, ju1, ju2, ju3⟩ := hcl.slc.open_
                clear ju1 ju2 ju3 e2 e3 hpx
                have HSO := hide (rSound_ok _ _ (.slice Ac cl.length cc) cl wr hcl.slc (by omega))
                rw [hk2] at HSO
                have hw1 : (cl.length : Int) = 1 := by rw [hk1]; exact E.out.symm
                have HK3 := hide hk3
                have Hq1 := hide q1
                obtain ⟨cn, hcn⟩ : ∃ cn, cl.length = cn := ⟨_, rfl⟩
                rw [hcn] at q0 hw1 HSO
                clear hk1 hk2 hk3 hcl hlr hcn
                go_wp2_with fail
                refine HSO.out.mono ?_
                rintro e w7 ⟨rfl, hc7⟩
                have hb7 := hbr.trans (hc7.mono hbr.size)
                have q1 := (hc7.cell (p := ⟨G, k * 2 + 1, none⟩) hGl).trans Hq1.out
                clear q0 hc7
                by_cases hkn : k + 1 < N
                · have hkn2 : (k : Int) + 1 < N := by omega
                  obtain rfl : fl = true := HK3.out.2 hkn
                  go_wp2
                  go_roundw
                  case rel => exact ⟨k + 1, by omega, by go_num, hb7⟩
                  case measure => simp [intOf]; omega
                · have hkn2 : ¬ (k : Int) + 1 < N := by omega
                  have hfl : fl = false := by
                    cases fl with
                    | false => rfl
                    | true => exact absurd (HK3.out.1 rfl) hkn
                  subst hfl
                  go_wp2
                  go_roundw
                  case rel => exact ⟨k + 1, by omega, by go_num, hb7⟩
                  case measure => simp [intOf]; omega
              · obtain rfl : k = N := by omega
                go_wp2
                go_ret
                exact ⟨rfl, hbz⟩
          · have E : Hid ((1 : Int) = wd) := hide (by rw [← HWD.out, h1]; decide)
            subst h1
            go_wp2_with fail
            go_loopw [8] (fun iv wr => ∃ k : Nat, k ≤ N ∧ iv = .int .i64 k ∧ Below w6.heap.size w6 wr) (fun iv _ => N - (intOf iv).toNat)
            case atStart => exact ⟨0, Nat.zero_le _, rfl, Below.refl _ _⟩
            case round =>
              obtain ⟨k, hk, rfl, hbr⟩ := hrel
              have hbz := hb6.trans (hbr.mono hb6.size)
              by_cases hlt : k < N
              · have hki : (k : Int) < N := by omega
                obtain ⟨hk1, hk2, hk3⟩ := HLA.out k (by rw [HN.out]; exact hlt)
                have hkp : k < ps.length := by omega
                have hpx : ps[k].2 = (brkF wd y)[k]'(by rw [HN.out]; exact hlt) := by
                  have e : (ps.map Prod.snd)[k]? = some ps[k].2 := by rw [List.getElem?_map, List.getElem?_eq_getElem hkp]; rfl
                  rw [HPS.out, List.getElem?_eq_getElem (by rw [HN.out]; exact hlt)] at e
                  injection e with e
                  exact e.symm
                rw [← hpx, HN.out] at hk3
                rw [← hpx] at hk1 hk2
                have hlr := HL6.out.step (es := []) (Step.of_below hbr) (by simp) (by simp) (by simp)
                obtain ⟨G2, cap2, hve, _, hGl, _, q0, q1, _⟩ := hlr.at_ hkp
                injection hve with e1 e2 e3
                injection e1 with e1
                injection e1 with e1
                subst e1
                have hcl := hlr.cells ps[k] (List.getElem_mem _)
                generalize ps[k] = pk at *
                obtain ⟨pv, cl, fl⟩ := pk
                simp only at q0 q1 hk1 hk2 hk3 hcl
                obtain ⟨Ac, cc, rfl, ju1, ju2, ju3⟩ := hcl.slc.open_
                clear ju1 ju2 ju3 e2 e3 hpx
                have HSO := hide (rSound_ok _ _ (.slice Ac cl.length cc) cl wr hcl.slc (by omega))
                rw [hk2] at HSO
                have hw1 : (cl.length : Int) = 1 := by rw [hk1]; exact E.out.symm
                have HK3 := hide hk3
                have Hq1 := hide q1
                obtain ⟨cn, hcn⟩ : ∃ cn, cl.length = cn := ⟨_, rfl⟩
                rw [hcn] at q0 hw1 HSO
                clear hk1 hk2 hk3 hcl hlr hcn
                go_wp2_with fail
                refine HSO.out.mono ?_
                rintro e w7 ⟨rfl, hc7⟩
                have hb7 := hbr.trans (hc7.mono hbr.size)
                have q1 := (hc7.cell (p := ⟨G, k * 2 + 1, none⟩) hGl).trans Hq1.out
                clear q0 hc7
                by_cases hkn : k + 1 < N
                · have hkn2 : (k : Int) + 1 < N := by omega
                  obtain rfl : fl = true := HK3.out.2 hkn
                  go_wp2
                  go_roundw
                  case rel => exact ⟨k + 1, by omega, by go_num, hb7⟩
                  case measure => simp [intOf]; omega
                · have hkn2 : ¬ (k : Int) + 1 < N := by omega
                  have hfl : fl = false := by
                    cases fl with
                    | false => rfl
                    | true => exact absurd (HK3.out.1 rfl) hkn
                  subst hfl
                  go_wp2
                  go_roundw
                  case rel => exact ⟨k + 1, by omega, by go_num, hb7⟩
                  case measure => simp [intOf]; omega
              · obtain rfl : k = N := by omega
                go_wp2
                go_ret
                exact ⟨rfl, hbz⟩
          · have E : Hid (n = wd) := hide (by rw [← HWD.out]; unfold sideR; omega)
            go_wp2_with fail
            go_loopw [8] (fun iv wr => ∃ k : Nat, k ≤ N ∧ iv = .int .i64 k ∧ Below w6.heap.size w6 wr) (fun iv _ => N - (intOf iv).toNat)
            case atStart => exact ⟨0, Nat.zero_le _, rfl, Below.refl _ _⟩
            case round =>
              obtain ⟨k, hk, rfl, hbr⟩ := hrel
              have hbz := hb6.trans (hbr.mono hb6.size)
              by_cases hlt : k < N
              · have hki : (k : Int) < N := by omega
                obtain ⟨hk1, hk2, hk3⟩ := HLA.out k (by rw [HN.out]; exact hlt)
                have hkp : k < ps.length := by omega
                have hpx : ps[k].2 = (brkF wd y)[k]'(by rw [HN.out]; exact hlt) := by
                  have e : (ps.map Prod.snd)[k]? = some ps[k].2 := by rw [List.getElem?_map, List.getElem?_eq_getElem hkp]; rfl
                  rw [HPS.out, List.getElem?_eq_getElem (by rw [HN.out]; exact hlt)] at e
                  injection e with e
                  exact e.symm
                rw [← hpx, HN.out] at hk3
                rw [← hpx] at hk1 hk2
                have hlr := HL6.out.step (es := []) (Step.of_below hbr) (by simp) (by simp) (by simp)
                obtain ⟨G2, cap2, hve, _, hGl, _, q0, q1, _⟩ := hlr.at_ hkp
                injection hve with e1 e2 e3
                injection e1 with e1
                injection e1 with e1
                subst e1
                have hcl := hlr.cells ps[k] (List.getElem_mem _)
                generalize ps[k] = pk at *
                obtain ⟨pv, cl, fl⟩ := pk
                simp only at q0 q1 hk1 hk2 hk3 hcl
                obtain ⟨Ac, cc, rfl, ju1, ju2, ju3⟩ := hcl.slc.open_
                clear ju1 ju2 ju3 e2 e3 hpx
                have HSO := hide (rSound_ok _ _ (.slice Ac cl.length cc) cl wr hcl.slc (by omega))
                rw [hk2] at HSO
                have hw1 : (cl.length : Int) = n := by rw [hk1]; exact E.out.symm
                have HK3 := hide hk3
                have Hq1 := hide q1
                obtain ⟨cn, hcn⟩ : ∃ cn, cl.length = cn := ⟨_, rfl⟩
                rw [hcn] at q0 hw1 HSO
                clear hk1 hk2 hk3 hcl hlr hcn
                go_wp2_with fail
                refine HSO.out.mono ?_
                rintro e w7 ⟨rfl, hc7⟩
                have hb7 := hbr.trans (hc7.mono hbr.size)
                have q1 := (hc7.cell (p := ⟨G, k * 2 + 1, none⟩) hGl).trans Hq1.out
                clear q0 hc7
                by_cases hkn : k + 1 < N
                · have hkn2 : (k : Int) + 1 < N := by omega
                  obtain rfl : fl = true := HK3.out.2 hkn
                  go_wp2
                  go_roundw
                  case rel => exact ⟨k + 1, by omega, by go_num, hb7⟩
                  case measure => simp [intOf]; omega
                · have hkn2 : ¬ (k : Int) + 1 < N := by omega
                  have hfl : fl = false := by
                    cases fl with
                    | false => rfl
                    | true => exact absurd (HK3.out.1 rfl) hkn
                  subst hfl
                  go_wp2
                  go_roundw
                  case rel => exact ⟨k + 1, by omega, by go_num, hb7⟩
                  case measure => simp [intOf]; omega
              · obtain rfl : k = N := by omega
                go_wp2
                go_ret
                exact ⟨rfl, hbz⟩
          · have E : Hid ((1024 : Int) = wd) := hide (by rw [← HWD.out, h1]; decide)
            subst h1
            go_wp2_with fail
            go_loopw [8] (fun iv wr => ∃ k : Nat, k ≤ N ∧ iv = .int .i64 k ∧ Below w6.heap.size w6 wr) (fun iv _ => N - (intOf iv).toNat)
            case atStart => exact ⟨0, Nat.zero_le _, rfl, Below.refl _ _⟩
            case round =>
              obtain ⟨k, hk, rfl, hbr⟩ := hrel
              have hbz := hb6.trans (hbr.mono hb6.size)
              by_cases hlt : k < N
              · have hki : (k : Int) < N := by omega
                obtain ⟨hk1, hk2, hk3⟩ := HLA.out k (by rw [HN.out]; exact hlt)
                have hkp : k < ps.length := by omega
                have hpx : ps[k].2 = (brkF wd y)[k]'(by rw [HN.out]; exact hlt) := by
                  have e : (ps.map Prod.snd)[k]? = some ps[k].2 := by rw [List.getElem?_map, List.getElem?_eq_getElem hkp]; rfl
                  rw [HPS.out, List.getElem?_eq_getElem (by rw [HN.out]; exact hlt)] at e
                  injection e with e
                  exact e.symm
                rw [← hpx, HN.out] at hk3
                rw [← hpx] at hk1 hk2
                have hlr := HL6.out.step (es := []) (Step.of_below hbr) (by simp) (by simp) (by simp)
                obtain ⟨G2, cap2, hve, _, hGl, _, q0, q1, _⟩ := hlr.at_ hkp
                injection hve with e1 e2 e3
                injection e1 with e1
                injection e1 with e1
                subst e1
                have hcl := hlr.cells ps[k] (List.getElem_mem _)
                generalize ps[k] = pk at *
                obtain ⟨pv, cl, fl⟩ := pk
                simp only at q0 q1 hk1 hk2 hk3 hcl
                obtain ⟨Ac, cc, rfl, ju1, ju2, ju3⟩ := hcl.slc.open_
                clear ju1 ju2 ju3 e2 e3 hpx
                have HSO := hide (rSound_ok _ _ (.slice Ac cl.length cc) cl wr hcl.slc (by omega))
                rw [hk2] at HSO
                have hw1 : (cl.length : Int) = 1024 := by rw [hk1]; exact E.out.symm
                have HK3 := hide hk3
                have Hq1 := hide q1
                obtain ⟨cn, hcn⟩ : ∃ cn, cl.length = cn := ⟨_, rfl⟩
                rw [hcn] at q0 hw1 HSO
                clear hk1 hk2 hk3 hcl hlr hcn
                go_wp2_with fail
                refine HSO.out.mono ?_
                rintro e w7 ⟨rfl, hc7⟩
                have hb7 := hbr.trans (hc7.mono hbr.size)
                have q1 := (hc7.cell (p := ⟨G, k * 2 + 1, none⟩) hGl).trans Hq1.out
                clear q0 hc7
                by_cases hkn : k + 1 < N
                · have hkn2 : (k : Int) + 1 < N := by omega
                  obtain rfl : fl = true := HK3.out.2 hkn
                  go_wp2
                  go_roundw
                  case rel => exact ⟨k + 1, by omega, by go_num, hb7⟩
                  case measure => simp [intOf]; omega
                · have hkn2 : ¬ (k : Int) + 1 < N := by omega
                  have hfl : fl = false := by
                    cases fl with
                    | false => rfl
                    | true => exact absurd (HK3.out.1 rfl) hkn
                  subst hfl
                  go_wp2
                  go_roundw
                  case rel => exact ⟨k + 1, by omega, by go_num, hb7⟩
                  case measure => simp [intOf]; omega
              · obtain rfl : k = N := by omega
                go_wp2
                go_ret
                exact ⟨rfl, hbz⟩
          · have E : Hid ((1024 : Int) = wd) := hide (by rw [← HWD.out]; unfold sideR; omega)
            go_wp2_with fail
            go_loopw [8] (fun iv wr => ∃ k : Nat, k ≤ N ∧ iv = .int .i64 k ∧ Below w6.heap.size w6 wr) (fun iv _ => N - (intOf iv).toNat)
            case atStart => exact ⟨0, Nat.zero_le _, rfl, Below.refl _ _⟩
            case round =>
              obtain ⟨k, hk, rfl, hbr⟩ := hrel
              have hbz := hb6.trans (hbr.mono hb6.size)
              by_cases hlt : k < N
              · have hki : (k : Int) < N := by omega
                obtain ⟨hk1, hk2, hk3⟩ := HLA.out k (by rw [HN.out]; exact hlt)
                have hkp : k < ps.length := by omega
                have hpx : ps[k].2 = (brkF wd y)[k]'(by rw [HN.out]; exact hlt) := by
                  have e : (ps.map Prod.snd)[k]? = some ps[k].2 := by rw [List.getElem?_map, List.getElem?_eq_getElem hkp]; rfl
                  rw [HPS.out, List.getElem?_eq_getElem (by rw [HN.out]; exact hlt)] at e
                  injection e with e
                  exact e.symm
                rw [← hpx, HN.out] at hk3
                rw [← hpx] at hk1 hk2
                have hlr := HL6.out.step (es := []) (Step.of_below hbr) (by simp) (by simp) (by simp)
                obtain ⟨G2, cap2, hve, _, hGl, _, q0, q1, _⟩ := hlr.at_ hkp
                injection hve with e1 e2 e3
                injection e1 with e1
                injection e1 with e1
                subst e1
                have hcl := hlr.cells ps[k] (List.getElem_mem _)
                generalize ps[k] = pk at *
                obtain ⟨pv, cl, fl⟩ := pk
                simp only at q0 q1 hk1 hk2 hk3 hcl
                obtain ⟨Ac, cc, rfl, ju1, ju2, ju3⟩ := hcl.slc.open_
                clear ju1 ju2 ju3 e2 e3 hpx
                have HSO := hide (rSound_ok _ _ (.slice Ac cl.length cc) cl wr hcl.slc (by omega))
                rw [hk2] at HSO
                have hw1 : (cl.length : Int) = 1024 := by rw [hk1]; exact E.out.symm
                have HK3 := hide hk3
                have Hq1 := hide q1
                obtain ⟨cn, hcn⟩ : ∃ cn, cl.length = cn := ⟨_, rfl⟩
                rw [hcn] at q0 hw1 HSO
                clear hk1 hk2 hk3 hcl hlr hcn
                go_wp2_with fail
                refine HSO.out.mono ?_
                rintro e w7 ⟨rfl, hc7⟩
                have hb7 := hbr.trans (hc7.mono hbr.size)
                have q1 := (hc7.cell (p := ⟨G, k * 2 + 1, none⟩) hGl).trans Hq1.out
                clear q0 hc7
                by_cases hkn : k + 1 < N
                · have hkn2 : (k : Int) + 1 < N := by omega
                  obtain rfl : fl = true := HK3.out.2 hkn
                  go_wp2
                  go_roundw
                  case rel => exact ⟨k + 1, by omega, by go_num, hb7⟩
                  case measure => simp [intOf]; omega
                · have hkn2 : ¬ (k : Int) + 1 < N := by omega
                  have hfl : fl = false := by
                    cases fl with
                    | false => rfl
                    | true => exact absurd (HK3.out.1 rfl) hkn
                  subst hfl
                  go_wp2
                  go_roundw
                  case rel => exact ⟨k + 1, by omega, by go_num, hb7⟩
                  case measure => simp [intOf]; omega
              · obtain rfl : k = N := by omega
                go_wp2
                go_ret
                exact ⟨rfl, hbz⟩
    | some i =>
      obtain ⟨ev, rfl, hev⟩ := h2 i hbd
      obtain ⟨te, ue, rfl⟩ := hev.form
      have hbd2 : badFrom (y.drop 0) 0 = some i := hbd
      have HEV := hide hev
      clear h1 h2 HBR hc2 hbd hev
      go_wp2_with fail
      go_loopw [7] (fun iv wr => ∃ k : Nat, k ≤ y.length ∧ iv = .int .i64 k ∧ badFrom (y.drop k) k = some i ∧ Below w2.heap.size w2 wr) (fun iv _ => y.length - (intOf iv).toNat)
      case atStart => exact ⟨0, Nat.zero_le _, rfl, hbd2, Below.refl _ _⟩
      case round =>
        clear hbd2
        obtain ⟨k, hk, rfl, hbd, hbr⟩ := hrel
        by_cases hlt : k < y.length
        · have hbw := hb2.trans (hbr.mono hz2)
          obtain ⟨ab, off, A', c', hA, q0, q1, hR⟩ := HRI.out k hlt _ hbw
          subst hA
          rw [bad_step hlt] at hbd
          have hki : (k : Int) < y.length := by omega
          obtain ⟨B, hB⟩ : ∃ B, rightI y[k] = B := ⟨_, rfl⟩
          rw [hB] at hR hbd
          have HR := hide hR
          have HBD := hide hbd
          obtain ⟨k0, hk0⟩ : ∃ k0, y[k].1 = k0 := ⟨_, rfl⟩
          obtain ⟨l0, hl0⟩ : ∃ l0, y[k].2.length = l0 := ⟨_, rfl⟩
          rw [hk0, hl0] at HR
          rw [hk0] at q0
          rw [hl0] at q1
          clear hR hbd hB hk0 hl0
          go_wp2_with fail
          refine HR.out.mono ?_
          rintro e w3 ⟨rfl, hc3⟩
          have hb3 := hbr.trans (hc3.mono hbr.size)
          have hb3w := hb2.trans (hb3.mono hz2)
          clear q0 q1
          cases B with
          | true =>
            have HB2 : Hid (badFrom (y.drop (k + 1)) (k + 1) = some i) := hide (by have := HBD.out; rwa [if_pos rfl] at this)
            go_wp2
            go_roundw
            case rel => exact ⟨k + 1, by omega, by go_num, HB2.out, hb3⟩
            case measure => simp [intOf]; omega
          | false =>
            have HK : Hid (k = i) := hide (by have := HBD.out; rw [if_neg (by decide)] at this; injection this)
            have he3 := HEV.out.below hb3
            have HE3 := hide he3
            clear he3
            go_wp2_with fail
            refine (Code_ok b _ 4 _ _ (HSE.out.below hb3w) HE3.out (by decide)).mono ?_
            rintro e w7 ⟨rfl, rfl⟩
            go_wp2_with fail
            refine (At_ok b _ 4 _ _ (HTV.out.below hb3w) HE3.out).mono ?_
            rintro e w8 ⟨rfl, hb8⟩
            have hki2 : (i : Int) = k := by have := HK.out; omega
            go_wp2
            go_ret
            exact ⟨rfl, hb3w.trans (hb8.mono hb3w.size)⟩
        · obtain rfl : k = y.length := by omega
          rw [List.drop_length] at hbd
          cases hbd
end Go.Proofs.YtbkenfljknpjgaaDoor

namespace Go.Proofs.YtbkenfljknpjgaaDoor
open Go.RowKit
set_option linter.unusedVariables false

theorem walk_ReflowItems (x : Value) (y : List ItemV) (n : Int) (w : World) (hL : laidMetH Tryd.prog Rows.reflowItemsRow.laid w) (hx : Slc RCell (fun b => b < w.heap.size) (fun b => b < w.heap.size) w x y) (hn : (Lit.int .i64 n).wf = true) :
    Calls Tryd.prog 7 #[x, .int .i64 n] w fun e w' => e = .returned (.bool true) ∧ Below w.heap.size w w' := by
  have h' : laidMet Tryd.prog [("linotype/api.ErrScalar", Rows.laid_linotype_api_ErrScalar), ("linotype/api.ErrForm", Rows.laid_linotype_api_ErrForm), ("linotype/api.ErrRange", Rows.laid_linotype_api_ErrRange), ("linotype/api.ErrLong", Rows.laid_linotype_api_ErrLong), ("linotype/api.ErrKind", Rows.laid_linotype_api_ErrKind), ("linotype/api.ErrWord", Rows.laid_linotype_api_ErrWord), ("linotype/api.ErrFull", Rows.laid_linotype_api_ErrFull), ("linotype/api.ErrNone", Rows.laid_linotype_api_ErrNone)] w ∧ handlesMet Tryd.prog [("errors.errorType", Rows.laid_errors_errorType)] w := hL
  obtain ⟨b, hS⟩ := sents_of_laid _ _ h'.1 (fun k hk => by
    match k, hk with
    | 0, _ => exact List.mem_of_getElem? (i := 0) rfl
    | 1, _ => exact List.mem_of_getElem? (i := 1) rfl
    | 2, _ => exact List.mem_of_getElem? (i := 2) rfl
    | 3, _ => exact List.mem_of_getElem? (i := 3) rfl
    | 4, _ => exact List.mem_of_getElem? (i := 4) rfl
    | 5, _ => exact List.mem_of_getElem? (i := 5) rfl
    | 6, _ => exact List.mem_of_getElem? (i := 6) rfl
    | 7, _ => exact List.mem_of_getElem? (i := 7) rfl
    | k + 8, h => exact absurd h (by omega))
  exact walkS_ReflowItems b x y n w hS (tv_of_handles h'.2) hx hn
end Go.Proofs.YtbkenfljknpjgaaDoor
