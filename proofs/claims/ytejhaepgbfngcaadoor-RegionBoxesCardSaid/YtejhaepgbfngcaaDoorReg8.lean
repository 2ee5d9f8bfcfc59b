/-
  The law's own view and its works: what the small functions return. Each function once.
-/
import Derived.Test.YtejhaepgbfngcaaDoorReg7
import Derived.Test.YtejhaepgbfngcaaDoorReg6
import Derived.Test.YtejhaepgbfngcaaDoorWgt
namespace Go.Proofs.YtejhaepgbfngcaaDoor
open Go.RowKit
set_option linter.unusedVariables false
set_option linter.unusedSimpArgs false

set_option maxHeartbeats 1000000 in
theorem one52_ok (r : Int) (hr : (Lit.int .i32 r).wf = true) (w : World) :
    Calls Tryd.prog 51 #[.int .i32 r] w fun e w' => ∃ v, e = .returned (.agg #[.int .i64 1, v]) ∧ Slc (Rep.int .i32) (fun b => b < w'.heap.size) (fun b => b < w'.heap.size) w' v [r] ∧ Below w.heap.size w w' := by
  have hin := own_i32 (w.alloc (.cells #[.int .i64 1, .slice (some ⟨w.heap.size + 1, 0, none⟩) 1 1] 51)) [r] (by simpa using hr) 0 (w.heap.size + 1) 1 (Nat.zero_le _) (by simp) rfl (by simp [maxLen])
  simp only [List.map_cons, List.map_nil] at hin
  have hin2 := hin.slc
  have hbl := (Blk.new w 51 #[.int .i64 1, .slice (some ⟨w.heap.size + 1, 0, none⟩) 1 1]).alloc (.cells #[.int .i32 r] 21)
  have hb0 : Below w.heap.size w ((w.alloc (.cells #[.int .i64 1, .slice (some ⟨w.heap.size + 1, 0, none⟩) 1 1] 51)).alloc (.cells #[.int .i32 r] 21)) := ((Below.refl _ w).alloc (Nat.le_refl _) _).alloc (by simp) _
  have x0 := hbl.cell 0
  have x1 := hbl.cell 1
  simp only [List.getElem?_toArray, List.getElem?_cons_succ, List.getElem?_cons_zero] at x0 x1
  have HX := hide (⟨x0, x1⟩ : _ ∧ _)
  have HI := hide hin2
  have HB := hide hb0
  clear hin hbl hin2 x0 x1 hb0
  go_enter Tryd.func51, Tryd.ntmps51
  go_wp2
  obtain ⟨x0, x1⟩ := HX.out
  refine bodyPost_ret (v := .agg #[.int .i64 1, .slice (some ⟨w.heap.size + 1, 0, none⟩) 1 1]) (by simp [results, Tryd.results51, go_sem, x0, x1]) rfl ⟨_, rfl, HI.out.mono (Keep.weaken fun b h => h.1) (Keep.lt _ _), HB.out⟩

def gapB (c : CellV) : Bool := decide (c.1 = 0 ∨ c.2 = [32])
set_option maxHeartbeats 1000000 in
theorem gap_ok (So Si : Nat → Prop) (k : Int) (v : Value) (t : List Int) (w : World) (hv : Slc (Rep.int .i32) So Si w v t) (hSo : ∀ b, So b → b < w.heap.size) :
    Calls Tryd.prog 78 #[.agg #[.int .i64 k, v]] w fun e w' => e = .returned (.bool (gapB (k, t))) ∧ Below w.heap.size w w' := by
  obtain ⟨A, c, rfl, hc1, _, _⟩ := hv.open_
  have hbl := Blk.new w 51 #[.int .i64 k, .slice A t.length c]
  have hb : Below w.heap.size w (w.alloc (.cells #[.int .i64 k, .slice A t.length c] 51)) := (Below.refl _ w).alloc (Nat.le_refl _) _
  obtain ⟨gd, hgd⟩ : ∃ gd, gd = gapB (k, t) := ⟨_, rfl⟩
  rw [← hgd]
  unfold gapB at hgd
  simp only at hgd
  have HB := hide hb
  by_cases h0 : k = 0
  · have e0 : (k == 0) = true := by simpa using h0
    have HG : Hid (gd = true) := hide (by rw [hgd]; exact decide_eq_true (.inl h0))
    clear hgd h0
    go_enter Tryd.func78, Tryd.ntmps78
    go_wp2
    go_ret
    exact ⟨by first | (rw [HG.out]; done) | (rw [HG.out]; rfl), HB.out⟩
  · have e0 : (k == 0) = false := by simpa using h0
    by_cases h1 : t.length = 1
    · obtain ⟨a, rfl⟩ : ∃ a, t = [a] := List.length_eq_one_iff.1 h1
      obtain ⟨g, off, rfl, hg, hq, _⟩ := ints_at hv.slb (j := 0) (by simp)
      simp only [List.getElem_cons_zero, Nat.add_zero] at hq
      have hq2 : (w.alloc (.cells #[.int .i64 k, .slice (some ⟨g, off, none⟩) 1 c] 51)).cell? ⟨g, off, none⟩ = some (.int .i32 a) := (World.cell?_alloc_lt _ _ _ (hSo _ hg)).trans hq
      by_cases h2 : a = 32
      · have e2 : (a == 32) = true := by simpa using h2
        have HG : Hid (gd = true) := hide (by rw [hgd]; exact decide_eq_true (.inr (by rw [h2])))
        clear hgd h0 h1 h2
        go_enter Tryd.func78, Tryd.ntmps78
        go_wp2
        go_ret
        exact ⟨by first | (rw [HG.out]; done) | (rw [HG.out]; rfl), HB.out⟩
      · have e2 : (a == 32) = false := by simpa using h2
        have HG : Hid (gd = false) := hide (by rw [hgd]; exact decide_eq_false (by rintro (h | h); exact h0 h; injection h with h _; exact h2 h))
        clear hgd h0 h1 h2
        go_enter Tryd.func78, Tryd.ntmps78
        go_wp2
        go_ret
        exact ⟨by first | (rw [HG.out]; done) | (rw [HG.out]; rfl), HB.out⟩
    · have e1 : ((t.length : Int) == 1) = false := by rw [beq_eq_false_iff_ne]; omega
      have HG : Hid (gd = false) := hide (by rw [hgd]; exact decide_eq_false (by rintro (h | h); exact h0 h; rw [h] at h1; exact h1 rfl))
      clear hgd h0 h1
      go_enter Tryd.func78, Tryd.ntmps78
      go_wp2
      go_ret
      exact ⟨by first | (rw [HG.out]; done) | (rw [HG.out]; rfl), HB.out⟩

def GreatV (v : Value) (ls : List LineV) : Prop := ∃ g, v = .bool g ∧ (g = false → ls.length ≤ 200 ∧ ∀ l ∈ ls, l.1.length ≤ 2000)
set_option maxHeartbeats 2000000 in
theorem great52_ok (So : Nat → Prop) (x : Value) (wd hi r c : Int) (p au : Bool) (ls : List LineV) (w : World) (hx : Slc RLine So (fun b => b < w.heap.size) w x ls) (hok : LinesOk ls) :
    Calls Tryd.prog 24 #[.agg #[.int .i64 wd, .int .i64 hi, x, .int .i64 r, .int .i64 c, .bool p, .bool au]] w fun e w' => ∃ v, e = .returned v ∧ GreatV v ls ∧ Below w.heap.size w w' := by
  obtain ⟨A, cp, rfl, hc1, hc2, _⟩ := hx.open_
  have HOK := hide hok
  have hb0 := (Below.refl w.heap.size w).alloc (Nat.le_refl _) (.cells #[.int .i64 wd, .int .i64 hi, .slice A ls.length cp, .int .i64 r, .int .i64 c, .bool p, .bool au] 40)
  have hz0 := hb0.size
  have hx0 := hx.mono (Keep.below (S := So) hb0) (Keep.below (S := fun b => b < w.heap.size) hb0)
  clear hok
  go_enter Tryd.func24, Tryd.ntmps24
  go_wp2
  go_loopw [3, 4] (fun n i wr => ∃ (k : Nat) (s : Int), k ≤ ls.length ∧ i = .int .i64 k ∧ n = .int .i64 s ∧ 0 ≤ s ∧ s ≤ 2000 + 140737488355328 ∧ (s < 2000 → ∀ j (h : j < ls.length), j < k → ls[j].1.length ≤ 2000) ∧ (w.alloc (.cells #[.int .i64 wd, .int .i64 hi, .slice A ls.length cp, .int .i64 r, .int .i64 c, .bool p, .bool au] 40)) = wr) (fun _ i _ => ls.length - (intOf i).toNat)
  case atStart => exact ⟨0, 0, Nat.zero_le _, rfl, rfl, by omega, by omega, fun _ j _ h => absurd h (Nat.not_lt_zero j), rfl⟩
  case round =>
    obtain ⟨k, s, hk, rfl, rfl, hs0, hs1, hpre, rfl⟩ := hrel
    have HP := hide hpre
    clear hpre
    by_cases hs2 : s < 2000
    · have hs4 : decide ((2000 : Int) ≤ s) = false := decide_eq_false (by omega)
      have HS4 := hide hs4
      clear hs4
      by_cases hlt : k < ls.length
      · obtain ⟨ab, off, v2, rfl, _, p0, p1, hv⟩ := line_at hx0.slb hlt
        obtain ⟨A2, c2, rfl, _, _, _⟩ := hv.open_
        have hll := HOK.out.2 ls[k] (List.getElem_mem _)
        have hki : (k : Int) < ls.length := by omega
        go_wp2
        go_roundw
        case rel =>
          refine ⟨k + 1, _, by omega, by go_num, rfl, by omega, by omega, fun h j hj hjk => ?_, trivial⟩
          by_cases e : j = k
          · subst e; omega
          · exact HP.out (by omega) j hj (by omega)
        case measure => simp [intOf]; omega
      · have hki : ¬ (k : Int) < ls.length := by omega
        by_cases hl : ls.length ≤ 200
        · have hl2 : ¬ (200 : Int) < ls.length := by omega
          go_wp2
          go_ret
          refine ⟨_, rfl, ⟨false, bool_eq HS4.out, fun _ => ⟨hl, fun l hlm => ?_⟩⟩, hb0⟩
          obtain ⟨j, hj, rfl⟩ := List.getElem_of_mem hlm
          exact HP.out hs2 j hj (by omega)
        · have hl2 : (200 : Int) < ls.length := by omega
          go_wp2
          go_ret
          exact ⟨_, rfl, ⟨true, rfl, fun h => (by cases h)⟩, hb0⟩
    · have hs3 : (2000 : Int) ≤ s := by omega
      have hs4 : decide ((2000 : Int) ≤ s) = true := decide_eq_true hs3
      by_cases hlt : k < ls.length
      · have hki : (k : Int) < ls.length := by omega
        go_wp2
        go_ret
        exact ⟨_, rfl, ⟨true, rfl, fun h => (by cases h)⟩, hb0⟩
      · have hki : ¬ (k : Int) < ls.length := by omega
        go_wp2
        go_ret
        exact ⟨_, rfl, ⟨true, rfl, fun h => (by cases h)⟩, hb0⟩
end Go.Proofs.YtejhaepgbfngcaaDoor
