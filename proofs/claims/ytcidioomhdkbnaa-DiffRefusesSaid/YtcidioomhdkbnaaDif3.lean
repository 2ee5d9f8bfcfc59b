/-
  The document's Apart and Both, package diff's Count, the law's small functions: what they return.
-/
import Derived.Test.YtcidioomhdkbnaaDif2
import Derived.Test.YtcidioomhdkbnaaCell3
import Derived.Test.YtcidioomhdkbnaaLitn2
import Derived.Test.YtcidioomhdkbnaaWgt
namespace Go.Proofs.Ytcidioomhdkbnaa
open Go.RowKit
set_option linter.unusedVariables false
set_option linter.unusedSimpArgs false

set_option maxHeartbeats 1000000 in
theorem Apart_ok (So Si To Ti : Nat → Prop) (x y : Value) (i : Nat) (a b : List CellV) (w : World) (hx : Slc RCell So Si w x a) (hy : Slc RCell To Ti w y b) (hi : i < a.length) (hj : i < b.length) (hn : i ≤ 1000000) :
    Calls Try.prog 11 #[x, y, .int .i64 i] w fun e w' => e = .returned (.bool (apB a b i)) ∧ ∃ n, w' = w.drewN n := by
  obtain ⟨A, c, rfl, hc1, hc2, hBx⟩ := hx.open_
  obtain ⟨B, d, rfl, hd1, hd2, hBy⟩ := hy.open_
  obtain ⟨ab, off, v2, rfl, _, _, _, _, _⟩ := cell_at hBx hi
  obtain ⟨bb, bo, v3, rfl, _, _, _, _, _⟩ := cell_at hBy hj
  have hsum : IntKind.i64.wrap ((i : Int) + 1) = (i : Int) + 1 := IntWalk.i64_in _ (by omega)
  have hs0 : (0 : Int) ≤ (i : Int) + 1 := by omega
  have hs1 : ((i : Int) + 1).toNat = i + 1 := by omega
  have hs2 : (i : Int) + 1 ≤ c := by omega
  have hs3 : (i : Int) + 1 ≤ d := by omega
  have hs4 : i + 1 - i = 1 := by omega
  have hs5 : c ≠ i := by omega
  have hs6 : d ≠ i := by omega
  have hsx : Slc RCell So Si w.drew (.slice (some ⟨ab, off + i * 2, none⟩) 1 (c - i)) [a[i]] := slc_one (hx.mono (Keep.drewN So w 1) (Keep.drewN Si w 1)) rfl hi hc1 _ rfl _ rfl
  have hsy : Slc RCell To Ti w.drew (.slice (some ⟨bb, bo + i * 2, none⟩) 1 (d - i)) [b[i]] := slc_one (hy.mono (Keep.drewN To w 1) (Keep.drewN Ti w 1)) rfl hj hd1 _ rfl _ rfl
  have hap : apB a b i = !(decide (a[i] = b[i])) := by unfold apB; rw [cAt_at a hi, cAt_at b hj]; exact decide_not
  have HAP := hide hap
  clear hap
  go_enter Try.func11, Try.ntmps11
  go_upto_region 1 with fail
  refine wp_region_held_drew (S := fun w' => True) (by kernel_rfl) trivial (fun hHeld => ?_)
  refine wpAnyH_take (i := 0) (oi := ?_) (v := ?_) ?_ (by kernel_rfl) (by kernel_rfl) (by kernel_rfl) ?_ (Or.inl ⟨?_, ?_⟩) (by assumption) ?_
  rotate_left 2
  · (simp only [List.getElem?_toArray, List.getElem?_cons_succ, List.getElem?_cons_zero]; rfl)
  rotate_left 1
  · rfl
  · (intro w hSw; (try dsimp only at hSw); go_simp; try with_reducible rfl)
  rotate_left 1
  · exact fun _ _ _ h => h
  try simp only [Act.put, List.setIfInBounds_toArray, List.set_cons_zero, List.set_cons_succ]
  refine wpAnyH_take (i := 1) (oi := ?_) (v := ?_) ?_ (by kernel_rfl) (by kernel_rfl) (by kernel_rfl) ?_ (Or.inl ⟨?_, ?_⟩) (by assumption) ?_
  rotate_left 2
  · (simp only [List.getElem?_toArray, List.getElem?_cons_succ, List.getElem?_cons_zero]; rfl)
  rotate_left 1
  · rfl
  · (intro w hSw; (try dsimp only at hSw); go_simp; try with_reducible rfl)
  rotate_left 1
  · exact fun _ _ _ h => h
  try simp only [Act.put, List.setIfInBounds_toArray, List.set_cons_zero, List.set_cons_succ]
  refine wpAnyH_take (i := 2) (oi := ?_) (v := ?_) ?_ (by kernel_rfl) (by kernel_rfl) (by kernel_rfl) ?_ (Or.inl ⟨?_, ?_⟩) (by assumption) ?_
  rotate_left 2
  · (simp only [List.getElem?_toArray, List.getElem?_cons_succ, List.getElem?_cons_zero]; rfl)
  rotate_left 1
  · rfl
  · (intro w hSw; (try dsimp only at hSw); go_simp; try with_reducible rfl)
  rotate_left 1
  · exact fun _ _ _ h => h
  try simp only [Act.put, List.setIfInBounds_toArray, List.set_cons_zero, List.set_cons_succ]
  refine wpAnyH_take (i := 3) (oi := ?_) (v := ?_) ?_ (by kernel_rfl) (by kernel_rfl) (by kernel_rfl) ?_ (Or.inl ⟨?_, ?_⟩) (by assumption) ?_
  rotate_left 2
  · (simp only [List.getElem?_toArray, List.getElem?_cons_succ, List.getElem?_cons_zero]; rfl)
  rotate_left 1
  · rfl
  · (intro w hSw; (try dsimp only at hSw); go_simp; try with_reducible rfl)
  rotate_left 1
  · exact fun _ _ _ h => h
  try simp only [Act.put, List.setIfInBounds_toArray, List.set_cons_zero, List.set_cons_succ]
  refine wpAnyH_take (i := 4) (oi := ?_) (v := ?_) ?_ (by kernel_rfl) (by kernel_rfl) (by kernel_rfl) ?_ (Or.inl ⟨?_, ?_⟩) (by assumption) ?_
  rotate_left 2
  · (simp only [List.getElem?_toArray, List.getElem?_cons_succ, List.getElem?_cons_zero]; rfl)
  rotate_left 1
  · rfl
  · (intro w hSw; (try dsimp only at hSw); go_simp; try with_reducible rfl)
  rotate_left 1
  · exact fun _ _ _ h => h
  try simp only [Act.put, List.setIfInBounds_toArray, List.set_cons_zero, List.set_cons_succ]
  refine wpAnyH_take (i := 5) (oi := ?_) (v := ?_) ?_ (by kernel_rfl) (by kernel_rfl) (by kernel_rfl) ?_ (Or.inl ⟨?_, ?_⟩) (by assumption) ?_
  rotate_left 2
  · (simp only [List.getElem?_toArray, List.getElem?_cons_succ, List.getElem?_cons_zero]; rfl)
  rotate_left 1
  · rfl
  · (intro w hSw; (try dsimp only at hSw); go_simp; try with_reducible rfl)
  rotate_left 1
  · exact fun _ _ _ h => h
  try simp only [Act.put, List.setIfInBounds_toArray, List.set_cons_zero, List.set_cons_succ]
  refine wpAnyH_take (i := 6) (oi := ?_) (v := ?_) ?_ (by kernel_rfl) (by kernel_rfl) (by kernel_rfl) ?_ (Or.inl ⟨?_, ?_⟩) (by assumption) ?_
  rotate_left 2
  · (simp only [List.getElem?_toArray, List.getElem?_cons_succ, List.getElem?_cons_zero]; rfl)
  rotate_left 1
  · rfl
  · (intro w hSw; (try dsimp only at hSw); go_simp; try with_reducible rfl)
  rotate_left 1
  · exact fun _ _ _ h => h
  try simp only [Act.put, List.setIfInBounds_toArray, List.set_cons_zero, List.set_cons_succ]
  refine wpAnyH_take (i := 7) (oi := ?_) (v := ?_) ?_ (by kernel_rfl) (by kernel_rfl) (by kernel_rfl) ?_ (Or.inl ⟨?_, ?_⟩) (by assumption) ?_
  rotate_left 2
  · (simp only [List.getElem?_toArray, List.getElem?_cons_succ, List.getElem?_cons_zero]; rfl)
  rotate_left 1
  · rfl
  · (intro w hSw; (try dsimp only at hSw); go_simp; try with_reducible rfl)
  rotate_left 1
  · exact fun _ _ _ h => h
  try simp only [Act.put, List.setIfInBounds_toArray, List.set_cons_zero, List.set_cons_succ]
  refine wpAnyH_take (i := 8) (oi := ?_) (v := ?_) ?_ (by kernel_rfl) (by kernel_rfl) (by kernel_rfl) ?_ (Or.inl ⟨?_, ?_⟩) (by assumption) ?_
  rotate_left 2
  · (simp only [List.getElem?_toArray, List.getElem?_cons_succ, List.getElem?_cons_zero]; rfl)
  rotate_left 1
  · rfl
  · (intro w hSw; (try dsimp only at hSw); go_simp; try with_reducible rfl)
  rotate_left 1
  · exact fun _ _ _ h => h
  try simp only [Act.put, List.setIfInBounds_toArray, List.set_cons_zero, List.set_cons_succ]
  refine wpAnyH_take (i := 9) (oi := ?_) (v := ?_) ?_ (by kernel_rfl) (by kernel_rfl) (by kernel_rfl) ?_ (Or.inl ⟨?_, ?_⟩) (by assumption) ?_
  rotate_left 2
  · (simp only [List.getElem?_toArray, List.getElem?_cons_succ, List.getElem?_cons_zero]; rfl)
  rotate_left 1
  · rfl
  · (intro w hSw; (try dsimp only at hSw); go_simp; try with_reducible rfl)
  rotate_left 1
  · exact fun _ _ _ h => h
  try simp only [Act.put, List.setIfInBounds_toArray, List.set_cons_zero, List.set_cons_succ]
  refine wpAnyH_ready (rs := [10]) (by kernel_rfl) (by simp) ?_
  refine AllReadyH.cons (o := ?_) ?_ (fun K hK => ?_) AllReadyH.nil
  rotate_left 1
  · (simp only [List.getElem?_toArray, List.getElem?_cons_succ, List.getElem?_cons_zero]; rfl)
  go_simp
  go_at_call 10; refine (rSame23_ok _ _ _ _ _ _ [a[i]] [b[i]] _ hsx hsy).mono ?_; rintro e w7 ⟨rfl, q, rfl⟩
  refine hK.out _ _ ?_ (fun hHeld => ?_)
  · trivial
  clear hK K
  try simp only [Act.put, List.setIfInBounds_toArray, List.set_cons_zero, List.set_cons_succ]
  refine wpAnyH_take (i := 11) (oi := ?_) (v := ?_) ?_ (by kernel_rfl) (by kernel_rfl) (by kernel_rfl) ?_ (Or.inl ⟨?_, ?_⟩) (by assumption) ?_
  rotate_left 2
  · (simp only [List.getElem?_toArray, List.getElem?_cons_succ, List.getElem?_cons_zero]; rfl)
  rotate_left 1
  · rfl
  · (intro w hSw; (try dsimp only at hSw); go_simp; try with_reducible rfl)
  rotate_left 1
  · exact fun _ _ _ h => h
  try simp only [Act.put, List.setIfInBounds_toArray, List.set_cons_zero, List.set_cons_succ]
  refine wpAnyH_take (i := 12) (oi := ?_) (v := ?_) ?_ (by kernel_rfl) (by kernel_rfl) (by kernel_rfl) ?_ (Or.inl ⟨?_, ?_⟩) (by assumption) ?_
  rotate_left 2
  · (simp only [List.getElem?_toArray, List.getElem?_cons_succ, List.getElem?_cons_zero]; rfl)
  rotate_left 1
  · rfl
  · (intro w hSw; (try dsimp only at hSw); go_simp; try with_reducible rfl)
  rotate_left 1
  · exact fun _ _ _ h => h
  try simp only [Act.put, List.setIfInBounds_toArray, List.set_cons_zero, List.set_cons_succ]
  refine wpAnyH_done (by kernel_rfl) ?_ _
  go_wp2
  go_ret
  exact ⟨ret_1 (bool_eq HAP.out.symm), drew2 w 1 q⟩

theorem lenD_take (l : List ChangeV) (k : Nat) (h : k < l.length) : lenD (l.take (k + 1)) = lenD (l.take k) + l[k].2.2.length := by
  unfold lenD
  rw [take_snoc' l k h, List.map_append, List.sum_append]; simp
theorem lenD_le {l : List ChangeV} {m : Nat} (h : ∀ c ∈ l, c.2.2.length ≤ m) : ∀ k, lenD (l.take k) ≤ k * m
  | 0 => by simp [lenD]
  | k + 1 => by
    have ih := lenD_le h k
    by_cases hk : k < l.length
    · rw [lenD_take l k hk, Nat.add_mul, Nat.one_mul]
      have := h l[k] (List.getElem_mem _)
      omega
    · rw [List.take_of_length_le (by omega), ← List.take_of_length_le (show l.length ≤ k by omega), Nat.add_mul]
      omega

set_option maxHeartbeats 1000000 in
theorem DCount_ok (So : Nat → Prop) (x y z : Value) (r c a1 a2 a3 a4 : Int) (p au a5 a6 : Bool) (os : List ChangeV) (w : World) (hx : Slc RChange So (fun b => b < w.heap.size) w x os) (hy : y.cells = #[y]) (hz : z.cells = #[z]) (hl : os.length ≤ 1000000) (hc : ∀ c ∈ os, c.2.2.length ≤ 1000000) :
    Calls Try.prog 15 #[.agg #[x, y, .int .i64 r, .int .i64 c, .bool p, .bool au, .bool false, .int .i64 a1, .int .i64 a2, z, .int .i64 a3, .int .i64 a4, .bool a5, .bool a6]] w fun e w' => e = .returned (.int .i64 (lenD os)) ∧ Below w.heap.size w w' := by
  obtain ⟨A, cp, rfl, _, _, _⟩ := hx.open_
  have HC := hide hc
  clear hc
  have hb0 := (Below.refl w.heap.size w).alloc (Nat.le_refl _) (.cells #[.slice A os.length cp, y, .int .i64 r, .int .i64 c, .bool p, .bool au, .bool false, .int .i64 a1, .int .i64 a2, z, .int .i64 a3, .int .i64 a4, .bool a5, .bool a6] 33)
  have bp := Blk.new w 33 #[.slice A os.length cp, y, .int .i64 r, .int .i64 c, .bool p, .bool au, .bool false, .int .i64 a1, .int .i64 a2, z, .int .i64 a3, .int .i64 a4, .bool a5, .bool a6]
  have bl := bp.lt
  have s0 := bp.cell 0
  have s6 := bp.cell 6
  simp only [List.getElem?_toArray, List.getElem?_cons_succ, List.getElem?_cons_zero] at s0 s6
  generalize hW0 : w.alloc (.cells #[.slice A os.length cp, y, .int .i64 r, .int .i64 c, .bool p, .bool au, .bool false, .int .i64 a1, .int .i64 a2, z, .int .i64 a3, .int .i64 a4, .bool a5, .bool a6] 33) = w0 at *
  go_enter Try.func15, Try.ntmps15
  go_wp2
  go_loopw [3, 28] (fun nv iv wr => ∃ k : Nat, k ≤ os.length ∧ iv = .int .i64 k ∧ nv = .int .i64 (lenD (os.take k)) ∧ Below w.heap.size w wr) (fun _ iv _ => os.length - (intOf iv).toNat)
  case atStart => exact ⟨0, Nat.zero_le _, rfl, rfl, hb0⟩
  case round =>
    obtain ⟨k, hk, rfl, rfl, hbr⟩ := hrel
    have hle := lenD_le HC.out k
    have hkm : k * 1000000 ≤ 1000000 * 1000000 := Nat.mul_le_mul (by omega) (Nat.le_refl _)
    by_cases hlt : k < os.length
    · obtain ⟨ab, off, v2, rfl, _, p0, p1, p2, _, _, hv⟩ := change_at hx.slb hlt
      obtain ⟨A2, c2, rfl, _, _, _⟩ := hv.open_
      have hab := World.block_lt_of_cell? _ _ p0
      simp only at hab
      have q0 := (hbr.cell (p := ⟨ab, off + k * 3, none⟩) hab).trans p0
      have q1 := (hbr.cell (p := ⟨ab, off + k * 3 + 1, none⟩) hab).trans p1
      have q2 := (hbr.cell (p := ⟨ab, off + k * 3 + 2, none⟩) hab).trans p2
      have hsn := lenD_take os k hlt
      have hln := HC.out os[k] (List.getElem_mem _)
      have HSN := hide hsn
      clear hsn p0 p1 p2
      go_wp2
      go_roundw
      case rel => exact ⟨k + 1, by omega, by go_num, by rw [HSN.out]; go_num, hbr.alloc hbr.size _⟩
      case measure => simp [intOf]; omega
    · have e : os.take k = os := List.take_of_length_le (by omega)
      rw [e] at hle ⊢
      go_wp2
      go_ret
      exact ⟨rfl, hbr⟩

set_option maxHeartbeats 1000000 in
theorem one46_ok (r : Int) (hr : (Lit.int .i32 r).wf = true) (w : World) :
    Calls Try.prog 17 #[.int .i32 r] w fun e w' => ∃ v, e = .returned (.agg #[.int .i64 1, v]) ∧ Slc (Rep.int .i32) (fun b => b < w'.heap.size) (fun b => b < w'.heap.size) w' v [r] ∧ Below w.heap.size w w' := by
  have hin := own_i32 (w.alloc (.cells #[.int .i64 1, .slice (some ⟨w.heap.size + 1, 0, none⟩) 1 1] 50)) [r] (by simpa using hr) 0 (w.heap.size + 1) 1 (Nat.zero_le _) (by simp) rfl (by simp [maxLen])
  simp only [List.map_cons, List.map_nil] at hin
  have hin2 := hin.slc
  have hbl := (Blk.new w 50 #[.int .i64 1, .slice (some ⟨w.heap.size + 1, 0, none⟩) 1 1]).alloc (.cells #[.int .i32 r] 21)
  have hb0 : Below w.heap.size w ((w.alloc (.cells #[.int .i64 1, .slice (some ⟨w.heap.size + 1, 0, none⟩) 1 1] 50)).alloc (.cells #[.int .i32 r] 21)) := ((Below.refl _ w).alloc (Nat.le_refl _) _).alloc (by simp) _
  have x0 := hbl.cell 0
  have x1 := hbl.cell 1
  simp only [List.getElem?_toArray, List.getElem?_cons_succ, List.getElem?_cons_zero] at x0 x1
  have HX := hide (⟨x0, x1⟩ : _ ∧ _)
  have HI := hide hin2
  have HB := hide hb0
  clear hin hbl hin2 x0 x1 hb0
  go_enter Try.func17, Try.ntmps17
  go_wp2
  obtain ⟨x0, x1⟩ := HX.out
  refine bodyPost_ret (v := .agg #[.int .i64 1, .slice (some ⟨w.heap.size + 1, 0, none⟩) 1 1]) (by simp [results, Try.results17, go_sem, x0, x1]) rfl ⟨_, rfl, HI.out.mono (Keep.weaken fun b h => h.1) (Keep.lt _ _), HB.out⟩

def Great46 (v : Value) (ls : List LineV) : Prop := ∃ g, v = .bool g ∧ (g = false → ls.length ≤ 200 ∧ ∀ l ∈ ls, l.1.length ≤ 2000)
set_option maxHeartbeats 2000000 in
theorem great46_ok (So : Nat → Prop) (x : Value) (wd hi r c : Int) (p au : Bool) (ls : List LineV) (w : World) (hx : Slc RLine So (fun b => b < w.heap.size) w x ls) (hok : LinesOk ls) :
    Calls Try.prog 7 #[.agg #[.int .i64 wd, .int .i64 hi, x, .int .i64 r, .int .i64 c, .bool p, .bool au]] w fun e w' => ∃ v, e = .returned v ∧ Great46 v ls ∧ Below w.heap.size w w' := by
  obtain ⟨A, cp, rfl, hc1, hc2, _⟩ := hx.open_
  have HOK := hide hok
  have hb0 := (Below.refl w.heap.size w).alloc (Nat.le_refl _) (.cells #[.int .i64 wd, .int .i64 hi, .slice A ls.length cp, .int .i64 r, .int .i64 c, .bool p, .bool au] 26)
  have hz0 := hb0.size
  have hx0 := hx.mono (Keep.below (S := So) hb0) (Keep.below (S := fun b => b < w.heap.size) hb0)
  clear hok
  go_enter Try.func7, Try.ntmps7
  go_wp2
  go_loopw [3, 4] (fun n i wr => ∃ (k : Nat) (s : Int), k ≤ ls.length ∧ i = .int .i64 k ∧ n = .int .i64 s ∧ 0 ≤ s ∧ s ≤ 2000 + 140737488355328 ∧ (s < 2000 → ∀ j (h : j < ls.length), j < k → ls[j].1.length ≤ 2000) ∧ (w.alloc (.cells #[.int .i64 wd, .int .i64 hi, .slice A ls.length cp, .int .i64 r, .int .i64 c, .bool p, .bool au] 26)) = wr) (fun _ i _ => ls.length - (intOf i).toNat)
  case atStart => exact ⟨0, 0, Nat.zero_le _, rfl, rfl, by omega, by omega, fun _ j _ h => absurd h (Nat.not_lt_zero j), rfl⟩
  case round =>
    obtain ⟨k, s, hk, rfl, rfl, hs0, hs1, hpre, rfl⟩ := hrel
    have HP := hide hpre
    clear hpre
    by_cases hs2 : s < 2000
    · have hs4 : decide ((2000 : Int) ≤ s) = false := decide_eq_false (by omega)
      have HS4 := hide hs4
      clear hs4
      by_cases hlt : k < ls.length
      · obtain ⟨ab, off, v2, rfl, _, p0, p1, hv⟩ := line_at hx0.slb hlt
        obtain ⟨A2, c2, rfl, _, _, _⟩ := hv.open_
        have hll := HOK.out.2 ls[k] (List.getElem_mem _)
        have hki : (k : Int) < ls.length := by omega
        go_wp2
        go_roundw
        case rel =>
          refine ⟨k + 1, _, by omega, by go_num, rfl, by omega, by omega, fun h j hj hjk => ?_, trivial⟩
          by_cases e : j = k
          · subst e; omega
          · exact HP.out (by omega) j hj (by omega)
        case measure => simp [intOf]; omega
      · have hki : ¬ (k : Int) < ls.length := by omega
        by_cases hl : ls.length ≤ 200
        · have hl2 : ¬ (200 : Int) < ls.length := by omega
          go_wp2
          go_ret
          refine ⟨_, rfl, ⟨false, bool_eq HS4.out, fun _ => ⟨hl, fun l hlm => ?_⟩⟩, hb0⟩
          obtain ⟨j, hj, rfl⟩ := List.getElem_of_mem hlm
          exact HP.out hs2 j hj (by omega)
        · have hl2 : (200 : Int) < ls.length := by omega
          go_wp2
          go_ret
          exact ⟨_, rfl, ⟨true, rfl, fun h => (by cases h)⟩, hb0⟩
    · have hs3 : (2000 : Int) ≤ s := by omega
      have hs4 : decide ((2000 : Int) ≤ s) = true := decide_eq_true hs3
      by_cases hlt : k < ls.length
      · have hki : (k : Int) < ls.length := by omega
        go_wp2
        go_ret
        exact ⟨_, rfl, ⟨true, rfl, fun h => (by cases h)⟩, hb0⟩
      · have hki : ¬ (k : Int) < ls.length := by omega
        go_wp2
        go_ret
        exact ⟨_, rfl, ⟨true, rfl, fun h => (by cases h)⟩, hb0⟩
set_option maxHeartbeats 2000000 in
theorem Both_ok (So To : Nat → Prop) (x y : Value) (wd hi r c wd' hi' r' c' : Int) (p au p' au' : Bool) (ls ls' : List LineV) (w : World) (hx : Slc RLine So (fun b => b < w.heap.size) w x ls) (hy : Slc RLine To (fun b => b < w.heap.size) w y ls') (hla : ∀ l ∈ ls, l.1.length ≤ 1000000) (hla2 : ls.length ≤ 1000000) (hlb : ∀ l ∈ ls', l.1.length ≤ 1000000) (hlb2 : ls'.length ≤ 1000000) :
    Calls Try.prog 8 #[.agg #[.int .i64 wd, .int .i64 hi, x, .int .i64 r, .int .i64 c, .bool p, .bool au], .agg #[.int .i64 wd', .int .i64 hi', y, .int .i64 r', .int .i64 c', .bool p', .bool au']] w fun e w' => e = .returned (.bool (rightV ⟨wd, hi, ls, r, c, p, au⟩ && rightV ⟨wd', hi', ls', r', c', p', au'⟩ && decide (wd = wd') && decide (hi = hi'))) ∧ Below w.heap.size w w' := by
  obtain ⟨A, cp, rfl, _, _, _⟩ := hx.open_
  obtain ⟨B, cq, rfl, _, _, _⟩ := hy.open_
  have hb0 : Below w.heap.size w ((w.alloc (.cells #[.int .i64 wd, .int .i64 hi, .slice A ls.length cp, .int .i64 r, .int .i64 c, .bool p, .bool au] 26)).alloc (.cells #[.int .i64 wd', .int .i64 hi', .slice B ls'.length cq, .int .i64 r', .int .i64 c', .bool p', .bool au'] 26)) := ((Below.refl _ w).alloc (Nat.le_refl _) _).alloc (by simp) _
  have bv : Blk ((w.alloc (.cells #[.int .i64 wd, .int .i64 hi, .slice A ls.length cp, .int .i64 r, .int .i64 c, .bool p, .bool au] 26)).alloc (.cells #[.int .i64 wd', .int .i64 hi', .slice B ls'.length cq, .int .i64 r', .int .i64 c', .bool p', .bool au'] 26)) w.heap.size 26 #[.int .i64 wd, .int .i64 hi, .slice A ls.length cp, .int .i64 r, .int .i64 c, .bool p, .bool au] := (Blk.new w 26 #[.int .i64 wd, .int .i64 hi, .slice A ls.length cp, .int .i64 r, .int .i64 c, .bool p, .bool au]).alloc _
  have bw : Blk ((w.alloc (.cells #[.int .i64 wd, .int .i64 hi, .slice A ls.length cp, .int .i64 r, .int .i64 c, .bool p, .bool au] 26)).alloc (.cells #[.int .i64 wd', .int .i64 hi', .slice B ls'.length cq, .int .i64 r', .int .i64 c', .bool p', .bool au'] 26)) (w.heap.size + 1) 26 #[.int .i64 wd', .int .i64 hi', .slice B ls'.length cq, .int .i64 r', .int .i64 c', .bool p', .bool au'] := by
    have := Blk.new (w.alloc (.cells #[.int .i64 wd, .int .i64 hi, .slice A ls.length cp, .int .i64 r, .int .i64 c, .bool p, .bool au] 26)) 26 #[.int .i64 wd', .int .i64 hi', .slice B ls'.length cq, .int .i64 r', .int .i64 c', .bool p', .bool au']
    simpa using this
  have HX := hide (fun W (h : Below w.heap.size w W) => (hx.mono (Keep.below (S := So) h) (Keep.below (S := fun b => b < w.heap.size) h)).mono (Keep.refl _ _) (Keep.weaken (S' := fun b => b < W.heap.size) fun b hb => by have := h.size; omega))
  have HY := hide (fun W (h : Below w.heap.size w W) => (hy.mono (Keep.below (S := To) h) (Keep.below (S := fun b => b < w.heap.size) h)).mono (Keep.refl _ _) (Keep.weaken (S' := fun b => b < W.heap.size) fun b hb => by have := h.size; omega))
  have HSA := hide (fun W (h : Below w.heap.size w W) => rRight43_ok _ _ wd hi r c p au ls W (HX.out W h) hla hla2)
  have HSB := hide (fun W (h : Below w.heap.size w W) => rRight43_ok _ _ wd' hi' r' c' p' au' ls' W (HY.out W h) hlb hlb2)
  clear hla hlb
  generalize hW0 : (w.alloc (.cells #[.int .i64 wd, .int .i64 hi, .slice A ls.length cp, .int .i64 r, .int .i64 c, .bool p, .bool au] 26)).alloc (.cells #[.int .i64 wd', .int .i64 hi', .slice B ls'.length cq, .int .i64 r', .int .i64 c', .bool p', .bool au'] 26) = w0 at *
  have hz0 := hb0.size
  cases ha : rightV ⟨wd, hi, ls, r, c, p, au⟩ with
  | false =>
    rw [ha] at HSA
    clear ha
    simp only [Bool.false_and]
    go_enter Try.func8, Try.ntmps8
    have y0 := bv.cell 0; have y1 := bv.cell 1; have y2 := bv.cell 2; have y3 := bv.cell 3; have y4 := bv.cell 4; have y5 := bv.cell 5; have y6 := bv.cell 6; simp only [List.getElem?_toArray, List.getElem?_cons_succ, List.getElem?_cons_zero] at y0 y1 y2 y3 y4 y5 y6; have z0 := bw.cell 0; have z1 := bw.cell 1; have z2 := bw.cell 2; have z3 := bw.cell 3; have z4 := bw.cell 4; have z5 := bw.cell 5; have z6 := bw.cell 6; simp only [List.getElem?_toArray, List.getElem?_cons_succ, List.getElem?_cons_zero] at z0 z1 z2 z3 z4 z5 z6
    go_wp2_with fail
    refine (HSA.out _ hb0).mono ?_
    rintro e w1 ⟨rfl, hc1⟩
    go_wp2
    go_ret
    exact ⟨rfl, hb0.trans (hc1.mono hz0)⟩
  | true =>
    rw [ha] at HSA
    clear ha
    simp only [Bool.true_and]
    cases hb : rightV ⟨wd', hi', ls', r', c', p', au'⟩ with
    | false =>
      rw [hb] at HSB
      clear hb
      simp only [Bool.false_and]
      go_enter Try.func8, Try.ntmps8
      have y0 := bv.cell 0; have y1 := bv.cell 1; have y2 := bv.cell 2; have y3 := bv.cell 3; have y4 := bv.cell 4; have y5 := bv.cell 5; have y6 := bv.cell 6; simp only [List.getElem?_toArray, List.getElem?_cons_succ, List.getElem?_cons_zero] at y0 y1 y2 y3 y4 y5 y6; have z0 := bw.cell 0; have z1 := bw.cell 1; have z2 := bw.cell 2; have z3 := bw.cell 3; have z4 := bw.cell 4; have z5 := bw.cell 5; have z6 := bw.cell 6; simp only [List.getElem?_toArray, List.getElem?_cons_succ, List.getElem?_cons_zero] at z0 z1 z2 z3 z4 z5 z6
      go_wp2_with fail
      refine (HSA.out _ hb0).mono ?_
      rintro e w1 ⟨rfl, hc1⟩
      have hb1 := hb0.trans (hc1.mono hz0)
      have hz1 := hb1.size
      have bv := bv.same hc1
      have bw := bw.same hc1
      have y0 := bv.cell 0; have y1 := bv.cell 1; have y2 := bv.cell 2; have y3 := bv.cell 3; have y4 := bv.cell 4; have y5 := bv.cell 5; have y6 := bv.cell 6; simp only [List.getElem?_toArray, List.getElem?_cons_succ, List.getElem?_cons_zero] at y0 y1 y2 y3 y4 y5 y6; have z0 := bw.cell 0; have z1 := bw.cell 1; have z2 := bw.cell 2; have z3 := bw.cell 3; have z4 := bw.cell 4; have z5 := bw.cell 5; have z6 := bw.cell 6; simp only [List.getElem?_toArray, List.getElem?_cons_succ, List.getElem?_cons_zero] at z0 z1 z2 z3 z4 z5 z6
      go_wp2_with fail
      refine (HSB.out _ hb1).mono ?_
      rintro e w2 ⟨rfl, hc2⟩
      have bv := bv.same hc2
      have bw := bw.same hc2
      go_wp2
      go_ret
      exact ⟨rfl, hb1.trans (hc2.mono hz1)⟩
    | true =>
      rw [hb] at HSB
      clear hb
      simp only [Bool.true_and]
      by_cases hw : wd = wd'
      · subst hw
        simp only [decide_true, Bool.true_and]
        by_cases hh : hi = hi'
        · subst hh
          simp only [decide_true]
          go_enter Try.func8, Try.ntmps8
          have y0 := bv.cell 0; have y1 := bv.cell 1; have y2 := bv.cell 2; have y3 := bv.cell 3; have y4 := bv.cell 4; have y5 := bv.cell 5; have y6 := bv.cell 6; simp only [List.getElem?_toArray, List.getElem?_cons_succ, List.getElem?_cons_zero] at y0 y1 y2 y3 y4 y5 y6; have z0 := bw.cell 0; have z1 := bw.cell 1; have z2 := bw.cell 2; have z3 := bw.cell 3; have z4 := bw.cell 4; have z5 := bw.cell 5; have z6 := bw.cell 6; simp only [List.getElem?_toArray, List.getElem?_cons_succ, List.getElem?_cons_zero] at z0 z1 z2 z3 z4 z5 z6
          go_wp2_with fail
          refine (HSA.out _ hb0).mono ?_
          rintro e w1 ⟨rfl, hc1⟩
          have hb1 := hb0.trans (hc1.mono hz0)
          have hz1 := hb1.size
          have bv := bv.same hc1
          have bw := bw.same hc1
          have y0 := bv.cell 0; have y1 := bv.cell 1; have y2 := bv.cell 2; have y3 := bv.cell 3; have y4 := bv.cell 4; have y5 := bv.cell 5; have y6 := bv.cell 6; simp only [List.getElem?_toArray, List.getElem?_cons_succ, List.getElem?_cons_zero] at y0 y1 y2 y3 y4 y5 y6; have z0 := bw.cell 0; have z1 := bw.cell 1; have z2 := bw.cell 2; have z3 := bw.cell 3; have z4 := bw.cell 4; have z5 := bw.cell 5; have z6 := bw.cell 6; simp only [List.getElem?_toArray, List.getElem?_cons_succ, List.getElem?_cons_zero] at z0 z1 z2 z3 z4 z5 z6
          go_wp2_with fail
          refine (HSB.out _ hb1).mono ?_
          rintro e w2 ⟨rfl, hc2⟩
          have bv := bv.same hc2
          have bw := bw.same hc2
          have y0 := bv.cell 0; have y1 := bv.cell 1; have y2 := bv.cell 2; have y3 := bv.cell 3; have y4 := bv.cell 4; have y5 := bv.cell 5; have y6 := bv.cell 6; simp only [List.getElem?_toArray, List.getElem?_cons_succ, List.getElem?_cons_zero] at y0 y1 y2 y3 y4 y5 y6; have z0 := bw.cell 0; have z1 := bw.cell 1; have z2 := bw.cell 2; have z3 := bw.cell 3; have z4 := bw.cell 4; have z5 := bw.cell 5; have z6 := bw.cell 6; simp only [List.getElem?_toArray, List.getElem?_cons_succ, List.getElem?_cons_zero] at z0 z1 z2 z3 z4 z5 z6
          go_wp2
          go_ret
          exact ⟨rfl, hb1.trans (hc2.mono hz1)⟩
        · rw [decide_eq_false hh]
          have hh2 : (hi == hi') = false := by simpa using hh
          clear hh
          go_enter Try.func8, Try.ntmps8
          have y0 := bv.cell 0; have y1 := bv.cell 1; have y2 := bv.cell 2; have y3 := bv.cell 3; have y4 := bv.cell 4; have y5 := bv.cell 5; have y6 := bv.cell 6; simp only [List.getElem?_toArray, List.getElem?_cons_succ, List.getElem?_cons_zero] at y0 y1 y2 y3 y4 y5 y6; have z0 := bw.cell 0; have z1 := bw.cell 1; have z2 := bw.cell 2; have z3 := bw.cell 3; have z4 := bw.cell 4; have z5 := bw.cell 5; have z6 := bw.cell 6; simp only [List.getElem?_toArray, List.getElem?_cons_succ, List.getElem?_cons_zero] at z0 z1 z2 z3 z4 z5 z6
          go_wp2_with fail
          refine (HSA.out _ hb0).mono ?_
          rintro e w1 ⟨rfl, hc1⟩
          have hb1 := hb0.trans (hc1.mono hz0)
          have hz1 := hb1.size
          have bv := bv.same hc1
          have bw := bw.same hc1
          have y0 := bv.cell 0; have y1 := bv.cell 1; have y2 := bv.cell 2; have y3 := bv.cell 3; have y4 := bv.cell 4; have y5 := bv.cell 5; have y6 := bv.cell 6; simp only [List.getElem?_toArray, List.getElem?_cons_succ, List.getElem?_cons_zero] at y0 y1 y2 y3 y4 y5 y6; have z0 := bw.cell 0; have z1 := bw.cell 1; have z2 := bw.cell 2; have z3 := bw.cell 3; have z4 := bw.cell 4; have z5 := bw.cell 5; have z6 := bw.cell 6; simp only [List.getElem?_toArray, List.getElem?_cons_succ, List.getElem?_cons_zero] at z0 z1 z2 z3 z4 z5 z6
          go_wp2_with fail
          refine (HSB.out _ hb1).mono ?_
          rintro e w2 ⟨rfl, hc2⟩
          have bv := bv.same hc2
          have bw := bw.same hc2
          have y0 := bv.cell 0; have y1 := bv.cell 1; have y2 := bv.cell 2; have y3 := bv.cell 3; have y4 := bv.cell 4; have y5 := bv.cell 5; have y6 := bv.cell 6; simp only [List.getElem?_toArray, List.getElem?_cons_succ, List.getElem?_cons_zero] at y0 y1 y2 y3 y4 y5 y6; have z0 := bw.cell 0; have z1 := bw.cell 1; have z2 := bw.cell 2; have z3 := bw.cell 3; have z4 := bw.cell 4; have z5 := bw.cell 5; have z6 := bw.cell 6; simp only [List.getElem?_toArray, List.getElem?_cons_succ, List.getElem?_cons_zero] at z0 z1 z2 z3 z4 z5 z6
          go_wp2
          go_ret
          exact ⟨rfl, hb1.trans (hc2.mono hz1)⟩
      · rw [decide_eq_false hw]
        simp only [Bool.false_and]
        have hw2 : (wd == wd') = false := by simpa using hw
        clear hw
        go_enter Try.func8, Try.ntmps8
        have y0 := bv.cell 0; have y1 := bv.cell 1; have y2 := bv.cell 2; have y3 := bv.cell 3; have y4 := bv.cell 4; have y5 := bv.cell 5; have y6 := bv.cell 6; simp only [List.getElem?_toArray, List.getElem?_cons_succ, List.getElem?_cons_zero] at y0 y1 y2 y3 y4 y5 y6; have z0 := bw.cell 0; have z1 := bw.cell 1; have z2 := bw.cell 2; have z3 := bw.cell 3; have z4 := bw.cell 4; have z5 := bw.cell 5; have z6 := bw.cell 6; simp only [List.getElem?_toArray, List.getElem?_cons_succ, List.getElem?_cons_zero] at z0 z1 z2 z3 z4 z5 z6
        go_wp2_with fail
        refine (HSA.out _ hb0).mono ?_
        rintro e w1 ⟨rfl, hc1⟩
        have hb1 := hb0.trans (hc1.mono hz0)
        have hz1 := hb1.size
        have bv := bv.same hc1
        have bw := bw.same hc1
        have y0 := bv.cell 0; have y1 := bv.cell 1; have y2 := bv.cell 2; have y3 := bv.cell 3; have y4 := bv.cell 4; have y5 := bv.cell 5; have y6 := bv.cell 6; simp only [List.getElem?_toArray, List.getElem?_cons_succ, List.getElem?_cons_zero] at y0 y1 y2 y3 y4 y5 y6; have z0 := bw.cell 0; have z1 := bw.cell 1; have z2 := bw.cell 2; have z3 := bw.cell 3; have z4 := bw.cell 4; have z5 := bw.cell 5; have z6 := bw.cell 6; simp only [List.getElem?_toArray, List.getElem?_cons_succ, List.getElem?_cons_zero] at z0 z1 z2 z3 z4 z5 z6
        go_wp2_with fail
        refine (HSB.out _ hb1).mono ?_
        rintro e w2 ⟨rfl, hc2⟩
        have bv := bv.same hc2
        have bw := bw.same hc2
        have y0 := bv.cell 0; have y1 := bv.cell 1; have y2 := bv.cell 2; have y3 := bv.cell 3; have y4 := bv.cell 4; have y5 := bv.cell 5; have y6 := bv.cell 6; simp only [List.getElem?_toArray, List.getElem?_cons_succ, List.getElem?_cons_zero] at y0 y1 y2 y3 y4 y5 y6; have z0 := bw.cell 0; have z1 := bw.cell 1; have z2 := bw.cell 2; have z3 := bw.cell 3; have z4 := bw.cell 4; have z5 := bw.cell 5; have z6 := bw.cell 6; simp only [List.getElem?_toArray, List.getElem?_cons_succ, List.getElem?_cons_zero] at z0 z1 z2 z3 z4 z5 z6
        go_wp2
        go_ret
        exact ⟨rfl, hb1.trans (hc2.mono hz1)⟩
end Go.Proofs.Ytcidioomhdkbnaa
