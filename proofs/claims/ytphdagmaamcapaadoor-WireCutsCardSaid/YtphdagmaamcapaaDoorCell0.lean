/-
  Scalar values, lists of them, cells of rows in memory: the words and the small functions that all layers on cells share. Each function once.
-/
import Derived.Test.YtphdagmaamcapaaDoorChecked
import Derived.Test.YtphdagmaamcapaaDoorMem2
import Derived.Test.YtphdagmaamcapaaDoorUtf0
import Derived.Test.YtphdagmaamcapaaDoorLit
import Derived.Test.YtphdagmaamcapaaDoorScal
import Derived.Test.YtphdagmaamcapaaDoorUtf1
namespace Go.Proofs.YtphdagmaamcapaaDoor
open Go.RowKit
set_option linter.unusedVariables false
set_option linter.unusedSimpArgs false

theorem drew2 (w : World) (n m : Nat) : ∃ k, (w.drewN n).drewN m = w.drewN k := ⟨n + m, World.drewN_drewN ..⟩

set_option maxHeartbeats 1000000 in
theorem Same_ok (So Si To Ti : Nat → Prop) (x y : Value) (l m : List Int) (w : World) (hx : Slc (Rep.int .i32) So Si w x l) (hy : Slc (Rep.int .i32) To Ti w y m) :
    Calls Tryd.prog 48 #[x, y] w fun e w' => e = .returned (.bool (decide (l = m))) ∧ ∃ n, w' = w.drewN n := by
  obtain ⟨A, c, rfl, hl1, hl2, hx⟩ := hx.open_
  obtain ⟨B, d, rfl, hm1, hm2, hy⟩ := hy.open_
  by_cases hlen : l.length = m.length
  · have hd : ((l.length : Int) != m.length) = false := by simp [hlen]
    have Hlen := hide hlen
    clear hlen
    go_enter Tryd.func48, Tryd.ntmps48
    go_wp2
    go_loopw [5] (fun i wr => ∃ k : Nat, k ≤ l.length ∧ i = .int .i64 k ∧ (∀ j, j < k → l[j]? = m[j]?) ∧ ∃ n, wr = w.drewN n) (fun i _ => l.length - (intOf i).toNat)
    case atStart => exact ⟨0, Nat.zero_le _, rfl, by simp, 0, rfl⟩
    case round =>
      obtain ⟨k, hk, rfl, hpre, n, rfl⟩ := hrel
      have HP := hide hpre
      clear hpre
      by_cases hlt : k < l.length
      · have hltm : k < m.length := by have := Hlen.out; omega
        obtain ⟨b1, o1, rfl, _, hcx, _⟩ := ints_at hx hlt
        obtain ⟨b2, o2, rfl, _, hcy, _⟩ := ints_at hy hltm
        by_cases heq : l[k] = m[k]
        · have hb : (l[k] != m[k]) = false := by simp [heq]
          have HEQ := hide heq
          clear heq
          go_wp2
          go_quiet (fail)
          go_wp2
          go_roundw
          case rel =>
            refine ⟨k + 1, by omega, by go_num, fun j hj => ?_, _, rfl⟩
            by_cases e : j = k
            · subst e; rw [List.getElem?_eq_getElem hlt, List.getElem?_eq_getElem hltm, HEQ.out]
            · exact HP.out j (by omega)
          case measure => simp [intOf]; omega
        · have hb : (l[k] != m[k]) = true := by simp [heq]
          have HEQ := hide heq
          clear heq
          go_wp2
          go_quiet (fail)
          go_wp2
          go_ret
          exact ⟨ret_1 (bool_eq (by rw [decide_eq_false]; intro e; subst e; exact HEQ.out rfl)), drew2 _ _ _⟩
      · go_wp2
        go_ret
        refine ⟨ret_1 (bool_eq ?_), _, rfl⟩
        symm
        rw [decide_eq_true_eq]
        apply List.ext_getElem?
        intro j
        by_cases hj : j < l.length
        · exact HP.out j (by omega)
        · rw [List.getElem?_eq_none (by omega), List.getElem?_eq_none (by have := Hlen.out; omega)]
  · have hd : ((l.length : Int) != m.length) = true := by simp; omega
    have Hlen := hide hlen
    clear hlen
    go_enter Tryd.func48, Tryd.ntmps48
    go_wp2
    go_ret
    exact ⟨ret_1 (bool_eq (by rw [decide_eq_false]; intro e; exact Hlen.out (by rw [e]))), 0, rfl⟩

/-- A cell: its kind, and the scalar values of its cluster. -/
abbrev CellV : Type := Int × List Int
def RCell : Rep CellV := Rep.pair (Rep.int .i64) (Rep.slice (Rep.int .i32))
theorem cell_info : (Tryd.prog.info? 62).map (fun i => (i.zero, i.size, i.bytes)) = some (some (.agg #[.int .i64 0, .slice none 0 0]), RCell.sz, 32) := by kernel_rfl

/-- A cell in a row of cells. -/
theorem cell_at {So Si : Nat → Prop} {w : World} {A : Option Addr} {l : List CellV} (h : SlB RCell So Si w A l) {k : Nat} (hk : k < l.length) :
    ∃ b off v, A = some ⟨b, off, none⟩ ∧ So b ∧ w.cell? ⟨b, off + k * 2, none⟩ = some (.int .i64 l[k].1) ∧ w.cell? ⟨b, off + k * 2 + 1, none⟩ = some v ∧ (Lit.int .i64 l[k].1).wf = true ∧ Slc (Rep.int .i32) Si Si w v l[k].2 := by
  obtain ⟨b, off, u, rfl, hs, hu, hc⟩ := h.at_ (k := k) (x := l[k]) (List.getElem?_eq_getElem hk) (by decide)
  obtain ⟨v1, v2, rfl, ⟨rfl, hw⟩, v, rfl, hv⟩ := hu
  have h0 := hc 0 (by decide)
  have h1 := hc 1 (by decide)
  have e : RCell.sz = 2 := rfl
  rw [e] at h0 h1
  simp only [← Nat.add_assoc, Nat.add_zero] at h0 h1
  exact ⟨b, off, v, rfl, hs, h0, h1, hw, hv⟩

def rightB (c : CellV) : Bool :=
  if c.1 = 0 ∨ c.1 = 3 then decide (c.2.length = 0) else if c.1 = 1 ∨ c.1 = 2 then decide (0 < c.2.length ∧ c.2.length ≤ 16) && c.2.all validB else false
def soundG : Bool → List CellV → Bool
  | lead, [] => !lead
  | lead, c :: l => rightB c && (lead == decide (c.1 = 3)) && soundG (decide (c.1 = 2)) l
def soundB (l : List CellV) : Bool := soundG false l

theorem notValid_ok (r : Int) (h0 : -2147483648 ≤ r) (h1 : r ≤ 2147483647) (w : World) :
    Calls Tryd.prog 63 #[.int .i32 r] w fun e w' => e = .returned (.bool (!validB r)) ∧ w = w' := by
  go_enter Tryd.func63, Tryd.ntmps63
  go_wp2_with (refine (sValid_ok _ h0 h1 _).mono ?_; rintro e w' ⟨rfl, rfl⟩)
  go_ret
  exact ⟨rfl, rfl⟩

set_option maxHeartbeats 1000000 in
theorem IndexFunc_ok (So Si : Nat → Prop) (x : Value) (l : List Int) (w : World) (hx : Slc (Rep.int .i32) So Si w x l) :
    Calls Tryd.prog 67 #[x, .func (.func 63) #[] #[]] w fun e w' => ∃ n : Int, e = .returned (.int .i64 n) ∧ w = w' ∧ decide (0 ≤ n) = !(l.all validB) := by
  obtain ⟨A1, c1, rfl, hd1, hd2, hB1⟩ := hx.open_
  go_enter Tryd.func67, Tryd.ntmps67
  go_wp2
  go_loopw [8] (fun i wr => ∃ k : Nat, k ≤ l.length ∧ i = .int .i64 k ∧ (∀ r ∈ l.take k, validB r = true) ∧ wr = w) (fun i _ => l.length - (intOf i).toNat)
  case atStart => exact ⟨0, Nat.zero_le _, rfl, by simp, rfl⟩
  case round =>
    obtain ⟨k, hk, rfl, hall, rfl⟩ := hrel
    have HALL := hide hall
    clear hall
    by_cases hlt : k < l.length
    · obtain ⟨ab, off, rfl, _, hck, hwk⟩ := ints_at hB1 hlt
      obtain ⟨hw0, hw1⟩ := i32_wf hwk
      have hR := fun w => notValid_ok l[k] hw0 hw1 w
      have hvs : validB l[k] = true → ∀ r ∈ l.take (k + 1), validB r = true := by
        intro h r hr
        rw [take_snoc' l k hlt] at hr
        rcases List.mem_append.1 hr with hr | hr
        · exact HALL.out r hr
        · simp at hr; subst hr; exact h
      have hin : validB l[k] = false → l.all validB = false := fun h => by
        rw [List.all_eq_false]; exact ⟨_, List.getElem_mem hlt, by simp [h]⟩
      rcases Bool.eq_false_or_eq_true (validB l[k]) with hv | hv
      · have hvv := hvs hv
        have HVV := hide hvv
        rw [hv] at hR
        have HR := hide hR
        clear hvs hin hvv hR hv
        go_wp2_with (refine (HR.out _).mono ?_; rintro e w' ⟨rfl, rfl⟩)
        go_roundw
        case rel => exact ⟨k + 1, by omega, by go_num, HVV.out, trivial⟩
        case measure => simp [intOf]; omega
      · have hvv := hin hv
        have HVV := hide hvv
        rw [hv] at hR
        have HR := hide hR
        clear hvs hin hvv hR hv
        go_wp2_with (refine (HR.out _).mono ?_; rintro e w' ⟨rfl, rfl⟩)
        go_ret
        exact ⟨_, rfl, rfl, by rw [HVV.out]; simp⟩
    · have e : l.take k = l := List.take_of_length_le (by omega)
      have hall := HALL.out
      rw [e] at hall
      have hv : l.all validB = true := by rw [List.all_eq_true]; exact hall
      have HV := hide hv
      clear e hall hv
      go_wp2
      go_ret
      exact ⟨_, rfl, rfl, by rw [HV.out]; simp⟩

theorem ContainsFunc_ok (So Si : Nat → Prop) (x : Value) (l : List Int) (w : World) (hx : Slc (Rep.int .i32) So Si w x l) :
    Calls Tryd.prog 62 #[x, .func (.func 63) #[] #[]] w fun e w' => e = .returned (.bool (!(l.all validB))) ∧ w = w' := by
  go_enter Tryd.func62, Tryd.ntmps62
  go_wp2_with (refine (IndexFunc_ok _ _ _ l _ hx).mono ?_; rintro e w' ⟨n, rfl, rfl, hn⟩)
  go_ret
  exact ⟨rfl, rfl⟩

/-- A cell as a value: its kind, and its scalar values' slice. -/
theorem right_cases (c : CellV) : (c.1 = 0 ∨ c.1 = 3) ∨ (c.1 = 1 ∨ c.1 = 2) ∨ (c.1 ≠ 0 ∧ c.1 ≠ 3 ∧ c.1 ≠ 1 ∧ c.1 ≠ 2) := by omega

set_option maxHeartbeats 1000000 in
theorem Right_ok (So Si : Nat → Prop) (k : Int) (v : Value) (t : List Int) (w : World) (hk : (Lit.int .i64 k).wf = true) (hv : Slc (Rep.int .i32) So Si w v t) :
    Calls Tryd.prog 56 #[.agg #[.int .i64 k, v]] w fun e w' => e = .returned (.bool (rightB (k, t))) ∧ Below w.heap.size w w' := by
  obtain ⟨A, c, rfl, hc1, hc2, hB⟩ := hv.open_
  have hva := hv.ints_keep (Keep.alloc So w (.cells #[.int .i64 k, .slice A t.length c] 62))
  have hC := ContainsFunc_ok _ _ _ t _ hva
  rcases right_cases (k, t) with h | h | ⟨h1, h2, h3, h4⟩
  · have hr : rightB (k, t) = decide (t.length = 0) := by unfold rightB; rw [if_pos h]
    have HR := hide hr
    simp only at h
    rcases h with rfl | rfl
    all_goals
      clear hr hC hva hv hB
      go_enter Tryd.func56, Tryd.ntmps56
      go_wp2
      go_ret
      exact ⟨ret_1 (bool_eq (by rw [HR.out, Bool.eq_iff_iff]; simp)), (Below.refl _ _).alloc (Nat.le_refl _) _⟩
  · have hr : rightB (k, t) = (decide (0 < t.length ∧ t.length ≤ 16) && t.all validB) := by unfold rightB; rw [if_neg (by simp only at h ⊢; omega), if_pos h]
    simp only at h
    by_cases ht : 0 < t.length ∧ t.length ≤ 16
    · rw [decide_eq_true ht, Bool.true_and] at hr
      have HR := hide hr
      have HC := hide hC
      have t1 : (0 : Int) < t.length := by omega
      have t2 : (t.length : Int) ≤ 16 := by omega
      clear hr hC hva hv hB ht
      rcases h with rfl | rfl
      all_goals
        go_enter Tryd.func56, Tryd.ntmps56
        go_wp2_with (go_at_call 62; refine HC.out.mono ?_; rintro e w' ⟨rfl, rfl⟩)
        go_ret
        exact ⟨ret_1 (bool_eq (by rw [HR.out])), (Below.refl _ _).alloc (Nat.le_refl _) _⟩
    · rw [decide_eq_false ht, Bool.false_and] at hr
      have HR := hide hr
      clear hr hC hva hv hB
      have ht' : t.length = 0 ∨ 16 < t.length := by omega
      rcases ht' with h0 | h0
      · have t1 : ¬ (0 : Int) < t.length := by omega
        clear h0 ht
        rcases h with rfl | rfl
        all_goals
          go_enter Tryd.func56, Tryd.ntmps56
          go_wp2
          go_ret
          exact ⟨ret_1 (bool_eq (by rw [HR.out])), (Below.refl _ _).alloc (Nat.le_refl _) _⟩
      · have t1 : (0 : Int) < t.length := by omega
        have t2 : ¬ (t.length : Int) ≤ 16 := by omega
        clear h0 ht
        rcases h with rfl | rfl
        all_goals
          go_enter Tryd.func56, Tryd.ntmps56
          go_wp2
          go_ret
          exact ⟨ret_1 (bool_eq (by rw [HR.out])), (Below.refl _ _).alloc (Nat.le_refl _) _⟩
  · have hr : rightB (k, t) = false := by unfold rightB; rw [if_neg (by simp only at *; omega), if_neg (by simp only at *; omega)]
    simp only at h1 h2 h3 h4
    have HR := hide hr
    clear hr hC hva hv hB
    have b1 : (k == 0) = false := by simpa using h1
    have b2 : (k == 3) = false := by simpa using h2
    have b3 : (k == 1) = false := by simpa using h3
    have b4 : (k == 2) = false := by simpa using h4
    go_enter Tryd.func56, Tryd.ntmps56
    go_wp2
    go_ret
    exact ⟨ret_1 (bool_eq (by rw [HR.out])), (Below.refl _ _).alloc (Nat.le_refl _) _⟩
end Go.Proofs.YtphdagmaamcapaaDoor
