/-
  How many cells of two views differ, as the document counts them; the patch of a view and itself; what the patch of two views makes of the one.
-/
import Derived.Test.YtcidioomhdkbnaaDif8
namespace Go.Proofs.Ytcidioomhdkbnaa
open Go.RowKit
set_option linter.unusedVariables false
set_option linter.unusedSimpArgs false

def cntU (A B : List LineV) (k : Nat) : Nat := ((List.range k).map fun i => cntA (lnD A i).1 (lnD B i).1 (lnD A i).1.length).sum
theorem cntU_snoc (A B : List LineV) (k : Nat) : cntU A B (k + 1) = cntU A B k + cntA (lnD A k).1 (lnD B k).1 (lnD A k).1.length := by
  unfold cntU; rw [List.range_succ, List.map_append, List.sum_append]; simp
theorem cntA_le (a b : List CellV) (n : Nat) : cntA a b n ≤ n := by
  unfold cntA
  have := List.length_filter_le (apB a b) (List.range n)
  rw [List.length_range] at this
  exact this
theorem cntU_le (A B : List LineV) {m : Nat} (h : ∀ i, (lnD A i).1.length ≤ m) : ∀ k, cntU A B k ≤ k * m
  | 0 => by simp [cntU]
  | k + 1 => by
    rw [cntU_snoc, Nat.add_mul, Nat.one_mul]
    have h1 := cntU_le A B h k
    have h2 := cntA_le (lnD A k).1 (lnD B k).1 (lnD A k).1.length
    have h3 := h k
    omega

set_option maxRecDepth 4096 in
set_option maxHeartbeats 4000000 in
theorem Cnt46_ok (So To : Nat → Prop) (x y : Value) (wd hi r c r' c' : Int) (p au p' au' : Bool) (ls ls' : List LineV) (w : World) (hx : Slc RLine So (fun b => b < w.heap.size) w x ls) (hy : Slc RLine To (fun b => b < w.heap.size) w y ls') (hra : Rgt46 wd hi ls) (hrb : Rgt46 wd hi ls') :
    Calls Try.prog 16 #[.agg #[.int .i64 wd, .int .i64 hi, x, .int .i64 r, .int .i64 c, .bool p, .bool au], .agg #[.int .i64 wd, .int .i64 hi, y, .int .i64 r', .int .i64 c', .bool p', .bool au']] w fun e w' => e = .returned (.int .i64 (cntU ls ls' ls.length)) ∧ Below w.heap.size w w' := by
  obtain ⟨A, cp, rfl, _, _, _⟩ := hx.open_
  obtain ⟨B, cq, rfl, _, _, _⟩ := hy.open_
  have hb0 : Below w.heap.size w ((w.alloc (.cells #[.int .i64 wd, .int .i64 hi, .slice A ls.length cp, .int .i64 r, .int .i64 c, .bool p, .bool au] 26)).alloc (.cells #[.int .i64 wd, .int .i64 hi, .slice B ls'.length cq, .int .i64 r', .int .i64 c', .bool p', .bool au'] 26)) := ((Below.refl _ w).alloc (Nat.le_refl _) _).alloc (by simp) _
  have bv : Blk ((w.alloc (.cells #[.int .i64 wd, .int .i64 hi, .slice A ls.length cp, .int .i64 r, .int .i64 c, .bool p, .bool au] 26)).alloc (.cells #[.int .i64 wd, .int .i64 hi, .slice B ls'.length cq, .int .i64 r', .int .i64 c', .bool p', .bool au'] 26)) w.heap.size 26 #[.int .i64 wd, .int .i64 hi, .slice A ls.length cp, .int .i64 r, .int .i64 c, .bool p, .bool au] := (Blk.new w 26 #[.int .i64 wd, .int .i64 hi, .slice A ls.length cp, .int .i64 r, .int .i64 c, .bool p, .bool au]).alloc _
  have bw : Blk ((w.alloc (.cells #[.int .i64 wd, .int .i64 hi, .slice A ls.length cp, .int .i64 r, .int .i64 c, .bool p, .bool au] 26)).alloc (.cells #[.int .i64 wd, .int .i64 hi, .slice B ls'.length cq, .int .i64 r', .int .i64 c', .bool p', .bool au'] 26)) (w.heap.size + 1) 26 #[.int .i64 wd, .int .i64 hi, .slice B ls'.length cq, .int .i64 r', .int .i64 c', .bool p', .bool au'] := by
    have := Blk.new (w.alloc (.cells #[.int .i64 wd, .int .i64 hi, .slice A ls.length cp, .int .i64 r, .int .i64 c, .bool p, .bool au] 26)) 26 #[.int .i64 wd, .int .i64 hi, .slice B ls'.length cq, .int .i64 r', .int .i64 c', .bool p', .bool au']
    simpa using this
  have HRA := hide hra
  have HRB := hide hrb
  clear hra hrb
  generalize hW0 : (w.alloc (.cells #[.int .i64 wd, .int .i64 hi, .slice A ls.length cp, .int .i64 r, .int .i64 c, .bool p, .bool au] 26)).alloc (.cells #[.int .i64 wd, .int .i64 hi, .slice B ls'.length cq, .int .i64 r', .int .i64 c', .bool p', .bool au'] 26) = w0 at *
  have hz0 := hb0.size
  go_enter Try.func16, Try.ntmps16
  have y0 := bv.cell 0; have y1 := bv.cell 1; have y2 := bv.cell 2; have y3 := bv.cell 3; have y4 := bv.cell 4; have y5 := bv.cell 5; have y6 := bv.cell 6; simp only [List.getElem?_toArray, List.getElem?_cons_succ, List.getElem?_cons_zero] at y0 y1 y2 y3 y4 y5 y6; have z0 := bw.cell 0; have z1 := bw.cell 1; have z2 := bw.cell 2; have z3 := bw.cell 3; have z4 := bw.cell 4; have z5 := bw.cell 5; have z6 := bw.cell 6; simp only [List.getElem?_toArray, List.getElem?_cons_succ, List.getElem?_cons_zero] at z0 z1 z2 z3 z4 z5 z6
  go_wp2
  go_loopw [5, 6] (fun nv iv wr => ∃ k : Nat, k ≤ ls.length ∧ iv = .int .i64 k ∧ nv = .int .i64 (cntU ls ls' k : Nat) ∧ ∃ q, wr = w0.drewN q) (fun _ iv _ => ls.length - (intOf iv).toNat)
  case atStart => exact ⟨0, Nat.zero_le _, rfl, rfl, 0, rfl⟩
  case round =>
    obtain ⟨k, hk, rfl, rfl, q, rfl⟩ := hrel
    by_cases hlt : k < ls.length
    · have hlt' : k < ls'.length := by have := HRA.out.hl; have := HRB.out.hl; omega
      have hki : (k : Int) < ls.length := by omega
      have hki' : (k : Int) < ls'.length := by omega
      obtain ⟨ab, off, v2, rfl, _, p00, p01, hv⟩ := line_at hx.slb hlt
      obtain ⟨A2, c2, rfl, _, _, _⟩ := hv.open_
      obtain ⟨bb, bo, v3, rfl, _, q00, q01, hu⟩ := line_at hy.slb hlt'
      obtain ⟨B2, d2, rfl, _, _, _⟩ := hu.open_
      have hla := HRA.out.line ls[k] (List.getElem_mem _)
      have hlb := HRB.out.line ls'[k] (List.getElem_mem _)
      have hw2 := HRA.out.w2
      have hws := cntU_snoc ls ls' k
      rw [lnD_at ls hlt, lnD_at ls' hlt'] at hws
      have hle := cntU_le ls ls' (m := 1024) (lnD_short HRA.out) k
      have hkl : k * 1024 ≤ 1024 * 1024 := Nat.mul_le_mul (by have := HRA.out.hl; have := HRA.out.h2; omega) (Nat.le_refl _)
      have hA := fun (j : Nat) (hj : j < ls[k].1.length) W (hW : Below w.heap.size w W) => Apart_ok _ _ _ _ (.slice A2 ls[k].1.length c2) (.slice B2 ls'[k].1.length d2) j ls[k].1 ls'[k].1 W (hv.lt_up2 hW) (hu.lt_up2 hW) hj (by omega) (by omega)
      have HAP := hide hA
      have hab := World.block_lt_of_cell? _ _ p00
      have hbb := World.block_lt_of_cell? _ _ q00
      simp only at hab hbb
      have p0 := (hb0.cell (p := ⟨ab, off + k * 2, none⟩) hab).trans p00
      have q0 := (hb0.cell (p := ⟨bb, bo + k * 2, none⟩) hbb).trans q00
      have hlw := hla.1
      have HWS := hide hws
      obtain ⟨a, hae⟩ : ∃ a, ls[k].1 = a := ⟨_, rfl⟩
      obtain ⟨b, hbe⟩ : ∃ b, ls'[k].1 = b := ⟨_, rfl⟩
      obtain ⟨cu, hcu⟩ : ∃ cu, cntU ls ls' k = cu := ⟨_, rfl⟩
      rw [hae] at hlw p0 HAP HWS
      rw [hbe] at q0 HAP HWS
      rw [hcu] at hle HWS ⊢
      have hcb : cu ≤ 2000000 := by omega
      have HAE := hide hae
      clear hla hlb hws hA p00 q00 p01 q01 hle hkl hae hbe hcu hv hu
      go_wp2
      go_loopw [5, 7] (fun nv jv wr => ∃ j : Nat, j ≤ a.length ∧ jv = .int .i64 j ∧ nv = .int .i64 (cu + cntA a b j : Nat) ∧ ∃ q, wr = w0.drewN q) (fun _ jv _ => a.length - (intOf jv).toNat)
      case atStart => exact ⟨0, Nat.zero_le _, rfl, rfl, _, rfl⟩
      case round =>
        obtain ⟨j, hj, rfl, rfl, q2, rfl⟩ := hrel
        by_cases hjt : j < a.length
        · have hjw : (j : Int) < wd := by omega
          have hcs := cnt_succ a b j
          have hcl := cntA_le a b j
          have hS := fun m => HAP.out j hjt (w0.drewN m) (below_drewN hb0 m)
          cases hap : apB a b j with
          | true =>
            rw [hap] at hS hcs
            rw [if_pos rfl] at hcs
            have HS := hide hS
            have HCS := hide hcs
            clear hS hap hcs
            go_wp2
            go_quiet ((go_at_call 11; refine (HS.out _).mono ?_; rintro e w' ⟨rfl, m, rfl⟩; exact ⟨rfl, _, by rw [World.drewN_drewN, Nat.add_assoc]⟩))
            go_wp2
            go_roundw
            case rel => exact ⟨j + 1, by omega, by go_num, by have := HCS.out; rw [this]; apply int_eq; omega, _, rfl⟩
            case measure => simp [intOf]; omega
          | false =>
            rw [hap] at hS hcs
            rw [if_neg (by decide)] at hcs
            have HS := hide hS
            have HCS := hide hcs
            clear hS hap hcs
            go_wp2
            go_quiet ((go_at_call 11; refine (HS.out _).mono ?_; rintro e w' ⟨rfl, m, rfl⟩; exact ⟨rfl, _, by rw [World.drewN_drewN, Nat.add_assoc]⟩))
            go_wp2
            go_roundw
            case rel => exact ⟨j + 1, by omega, by go_num, by have := HCS.out; rw [this]; apply int_eq; omega, _, rfl⟩
            case measure => simp [intOf]; omega
        · have hjw : ¬ (j : Int) < wd := by omega
          obtain rfl : j = a.length := by omega
          go_wp2
          go_roundw
          case rel => exact ⟨k + 1, by omega, by go_num, by have := HWS.out; rw [this], _, rfl⟩
          case measure => simp [intOf]; omega
    · obtain rfl : k = ls.length := by omega
      go_wp2
      go_ret
      exact ⟨rfl, below_drewN hb0 _⟩

theorem apB_self (a : List CellV) (k : Nat) : apB a a k = false := by unfold apB; simp
theorem stD_self (n : Nat) (a : List CellV) : ∀ i, stD n a a i = ([], -1)
  | 0 => rfl
  | i + 1 => by
    unfold stD
    rw [stD_self n a i]
    unfold stepD
    rw [if_neg (by rw [apB_self]; simp), if_neg (by simp)]
theorem chgU_self (A : List LineV) : ∀ k, chgU A A k = []
  | 0 => rfl
  | k + 1 => by
    rw [chgU_snoc, chgU_self A k]
    unfold rowD
    rw [stD_self]
    rfl
theorem wrapU_self (A : List LineV) : ∀ k, wrapU A A k = []
  | 0 => rfl
  | k + 1 => by
    rw [wrapU_snoc, wrapU_self A k]
    simp

/-- The changes of two right views of the same sides all lie in them. -/
theorem chgF_all {wd hi : Int} : ∀ (cs : List ChangeV) (ls : List LineV), (∀ c ∈ cs, liesB c.1 c.2.1 c.2.2.length wd hi = true) → chgF wd hi cs ls = some (cs.foldl putL ls)
  | [], ls, _ => rfl
  | c :: cs, ls, h => by
    unfold chgF
    rw [if_pos (h c (List.mem_cons.2 (.inl rfl))), chgF_all cs _ (fun d hd => h d (List.mem_cons.2 (.inr hd)))]
    rfl
theorem wrpF_all {hi : Int} : ∀ (is : List Int) (ls : List LineV), (∀ i ∈ is, 0 ≤ i ∧ i < hi) → wrpF hi is ls = some (is.foldl flipL ls)
  | [], ls, _ => rfl
  | i :: is, ls, h => by
    unfold wrpF
    rw [if_pos (h i (List.mem_cons.2 (.inl rfl))), wrpF_all is _ (fun d hd => h d (List.mem_cons.2 (.inr hd)))]
    rfl
theorem wrapU_mem (A B : List LineV) : ∀ k i, i ∈ wrapU A B k → 0 ≤ i ∧ i < (k : Int)
  | 0, i, h => by simp [wrapU] at h
  | k + 1, i, h => by
    rw [wrapU_snoc] at h
    rcases List.mem_append.1 h with h | h
    · have := wrapU_mem A B k i h; omega
    · split at h
      · rw [List.mem_singleton] at h; omega
      · cases h
theorem lns_same {wd hi : Int} {ls ls' : List LineV} (hra : Rgt46 wd hi ls) (hrb : Rgt46 wd hi ls') : ls.length = ls'.length ∧ ∀ i, i < ls.length → (lnD ls i).1.length = (lnD ls' i).1.length := by
  have h1 := hra.hl
  have h2 := hrb.hl
  refine ⟨by omega, fun i hi => ?_⟩
  have hi' : i < ls'.length := by omega
  rw [lnD_at ls hi, lnD_at ls' hi']
  have h3 := (hra.line ls[i] (List.getElem_mem _)).1
  have h4 := (hrb.line ls'[i] (List.getElem_mem _)).1
  omega
theorem lnD_line {wd hi : Int} {ls : List LineV} (hra : Rgt46 wd hi ls) {i : Nat} (h : i < ls.length) : ((lnD ls i).1.length : Int) = wd := by
  rw [lnD_at ls h]; exact (hra.line ls[i] (List.getElem_mem _)).1
/-- The patch from one right view to another of the same sides, applied, is that one. -/
theorem apply_eq {wd hi r c r' c' : Int} {p au p' au' : Bool} {ls ls' : List LineV} (view : ViewV) (ha : rightV ⟨wd, hi, ls, r, c, p, au⟩ = true) (hb : rightV ⟨wd, hi, ls', r', c', p', au'⟩ = true) :
    applyF ⟨wd, hi, ls, r, c, p, au⟩ ⟨chgU ls ls' ls.length, wrapU ls ls' ls.length, r', c', p', au', false, view⟩ = some ⟨wd, hi, ls', r', c', p', au'⟩ := by
  have hra := Rgt46.of ha
  have hrb := Rgt46.of hb
  obtain ⟨hn, hab⟩ := lns_same hra hrb
  have hgood := (chg_good ls ls' ls.length hab).1
  rw [applyF_part ha rfl]
  have hlies : ∀ d ∈ chgU ls ls' ls.length, liesB d.1 d.2.1 d.2.2.length wd hi = true := by
    intro d hd
    obtain ⟨i, hi', e, hg⟩ := hgood d hd
    have h1 := hg.col
    have h2 := hg.fits
    have h3 := hg.some_
    have h4 := lnD_line hra hi'
    have h5 := hra.hl
    refine decide_eq_true ⟨by omega, by omega, h1, by omega, by omega⟩
  have hwr : ∀ i ∈ wrapU ls ls' ls.length, 0 ≤ i ∧ i < hi := by
    intro i h
    have := wrapU_mem ls ls' ls.length i h
    have := hra.hl
    omega
  simp only
  rw [chgF_all _ _ hlies]
  simp only
  rw [wrpF_all _ _ hwr]
  simp only
  rw [apply_all ls ls' hn hab, if_pos hb]
theorem apply_whole {v u : ViewV} {cs : List ChangeV} {is : List Int} {r c : Int} {p au : Bool} (ha : rightV v = true) (hb : rightV u = true) : applyF v ⟨cs, is, r, c, p, au, true, u⟩ = some u := applyF_whole ha rfl hb
theorem lenD_cnt {wd hi : Int} {ls ls' : List LineV} (hra : Rgt46 wd hi ls) (hrb : Rgt46 wd hi ls') : lenD (chgU ls ls' ls.length) = cntU ls ls' ls.length :=
  chg_count ls ls' ls.length (lns_same hra hrb).2
/-- A change's cells are cells of the other view. -/
theorem chg_cells {wd hi : Int} {ls ls' : List LineV} (hra : Rgt46 wd hi ls) (hrb : Rgt46 wd hi ls') : ∀ d ∈ chgU ls ls' ls.length, d.2.2.length ≤ 1000000 ∧ ∀ x ∈ d.2.2, x.2.length ≤ 16 := by
  intro d hd
  obtain ⟨hn, hab⟩ := lns_same hra hrb
  obtain ⟨i, hi', e, hg⟩ := (chg_good ls ls' ls.length hab).1 d hd
  have h2 := hg.fits
  have h4 := lnD_line hra hi'
  have h5 := hra.w2
  refine ⟨by omega, fun x hx => ?_⟩
  have hc := hg.cells
  rw [hc] at hx
  have hx2 := List.mem_of_mem_take (List.mem_of_mem_drop hx)
  have hi2 : i < ls'.length := by omega
  rw [lnD_at ls' hi2] at hx2
  exact sound_short (hrb.line ls'[i] (List.getElem_mem _)).2 x hx2
end Go.Proofs.Ytcidioomhdkbnaa
