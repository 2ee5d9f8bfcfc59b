/-
  What the functions of package scalar on rows of numbers return, and the document's Put; the checks at the head of the laws on scalar values.
-/
import Derived.Test.YtphdagmaamcapaaDoorMem2
import Derived.Test.YtphdagmaamcapaaDoorScal
import Derived.Test.YtphdagmaamcapaaDoorLit
import Derived.Test.YtphdagmaamcapaaDoorUtf5
import Derived.Test.YtphdagmaamcapaaDoorUtf6
import Derived.Test.YtphdagmaamcapaaDoorErr5
namespace Go.Proofs.YtphdagmaamcapaaDoor
open Go.RowKit
set_option linter.unusedVariables false
set_option linter.unusedSimpArgs false

def replF (r : Int) : Int := if validB r = true then r else 65533
theorem replF_range (r : Int) (h0 : -2147483648 ≤ r) (h1 : r ≤ 2147483647) : -2147483648 ≤ replF r ∧ replF r ≤ 2147483647 := by
  unfold replF; split <;> omega
theorem replF_valid (r : Int) : validB (replF r) = true := by
  unfold replF; split
  · assumption
  · decide

/-- What the document's Put returns. -/
def PutSays (base : Nat) (w' : World) (l : List Int) (v : Value) (at_ : Int) : Prop :=
  (at_ = -1 ∧ (∀ r ∈ l, validB r = true) ∧ Own (Rep.int .u8) 5 [] base w' v (putF l)) ∨
  (∃ k : Nat, ∃ h : k < l.length, at_ = k ∧ validB l[k] = false ∧ (∀ r ∈ l.take k, validB r = true) ∧ v = .slice none 0 0)

set_option maxHeartbeats 1000000 in
theorem rPut_ok (So Si : Nat → Prop) (x : Value) (l : List Int) (w : World) (hx : Slc (Rep.int .i32) So Si w x l) (hlen : l.length ≤ 100000) :
    Calls Tryd.prog 36 #[x] w fun e w' => ∃ v a, e = .returned (.tuple #[v, .int .i64 a]) ∧ PutSays w.heap.size w' l v a ∧ Below w.heap.size w w' := by
  obtain ⟨A1, c1, rfl, hd1, hd2, hB1⟩ := hx.open_
  go_enter Tryd.func36, Tryd.ntmps36
  go_wp2
  go_loopw [4, 5] (fun out i wr => ∃ k : Nat, k ≤ l.length ∧ i = .int .i64 k ∧ (∀ r ∈ l.take k, validB r = true) ∧ Own (Rep.int .u8) 5 [] w.heap.size wr out (putF (l.take k)) ∧ Below w.heap.size w wr) (fun _ i _ => l.length - (intOf i).toNat)
  case atStart => exact ⟨0, Nat.zero_le _, rfl, by simp, Own.nil_ _ _ _ _ _ (by simp), Below.refl _ _⟩
  case round =>
    obtain ⟨k, hk, rfl, hval, hown, hbel⟩ := hrel
    have hsz := hbel.size
    have HV := hide hval
    clear hval
    by_cases hlt : k < l.length
    · have hBk := hB1.ints_keep (Keep.below hbel)
      obtain ⟨ab, off, rfl, _, hck, hwk⟩ := ints_at hBk hlt
      obtain ⟨hw0, hw1⟩ := i32_wf hwk
      have hsn := put_snoc (l.take k) l[k]
      rw [← take_snoc' l k hlt] at hsn
      have hvs : validB l[k] = true → ∀ r ∈ l.take (k + 1), validB r = true := by
        intro h r hr
        rw [take_snoc' l k hlt] at hr
        rcases List.mem_append.1 hr with hr | hr
        · exact HV.out r hr
        · simp at hr; subst hr; exact h
      have hpl := put_len (l.take k)
      have htk : (l.take k).length ≤ k := List.length_take_le _ _
      have hf4 := form_len4 l[k]
      have HSN := hide hsn
      have HVS := hide hvs
      clear hsn hvs
      rcases Bool.eq_false_or_eq_true (validB l[k]) with hv | hv
      · have hvv := HVS.out hv
        have HVV := hide hvv
        have hR := fun w => rValid_ok l[k] hw0 hw1 w
        rw [hv] at hR
        have HR := hide hR
        clear hvv hR hv
        go_wp2_with (go_at_call 42; refine (HR.out _).mono ?_; rintro e w' ⟨rfl, rfl⟩)
        refine (rForm_ok _ hw0 hw1 _).mono ?_
        rintro e w1 ⟨v1, rfl, hv1, hb1⟩
        have hown1 := hown.below hb1
        have hsz1 := hb1.size
        go_wp2_with (at_builtin; refine wpList_appi rfl (.tmp 19) (.tmp 24) 29 rfl .u8 5 w.heap.size 1 Tryd.underlying29 u8_info (by decide) _ _ rfl hown1 _ _ _ _ rfl hv1.islc (by omega) (by omega) ?_; intro v3 w3 hv3 hst3)
        go_roundw
        case rel => exact ⟨k + 1, by omega, by go_num, HVV.out, by rw [HSN.out]; exact hv3, (hbel.trans (hb1.mono hsz)).trans (hst3.below (by omega))⟩
        case measure => simp [intOf]; omega
      · have hR := fun w => rValid_ok l[k] hw0 hw1 w
        rw [hv] at hR
        have HR := hide hR
        have HVF := hide hv
        clear hR hv
        go_wp2_with (go_at_call 42; refine (HR.out _).mono ?_; rintro e w' ⟨rfl, rfl⟩)
        go_ret2
        exact ⟨_, _, rfl, .inr ⟨k, hlt, rfl, HVF.out, HV.out, rfl⟩, hbel⟩
    · have e : l.take k = l := List.take_of_length_le (by omega)
      rw [e] at hown
      have hval := HV.out
      rw [e] at hval
      have HV2 := hide hval
      clear hval
      go_wp2
      go_ret2
      exact ⟨_, _, rfl, .inl ⟨rfl, HV2.out, hown⟩, hbel⟩

set_option maxHeartbeats 1000000 in
/-- Put, of scalar values alone. -/
theorem sPut_ok (So Si : Nat → Prop) (x : Value) (l : List Int) (w : World) (hx : Slc (Rep.int .i32) So Si w x l) (hlen : l.length ≤ 100000) (hv : ∀ r ∈ l, validB r = true) :
    Calls Tryd.prog 28 #[x] w fun e w' => ∃ v, e = .returned (.tuple #[v, .nilIface]) ∧ Own (Rep.int .u8) 5 [] w.heap.size w' v (putF l) ∧ Below w.heap.size w w' := by
  have HV := hide hv
  clear hv
  obtain ⟨A1, c1, rfl, hd1, hd2, hB1⟩ := hx.open_
  go_enter Tryd.func28, Tryd.ntmps28
  go_wp2
  go_loopw [4, 9] (fun out i wr => ∃ k : Nat, k ≤ l.length ∧ i = .int .i64 k ∧ Own (Rep.int .u8) 5 [] w.heap.size wr out (putF (l.take k)) ∧ Below w.heap.size w wr) (fun _ i _ => l.length - (intOf i).toNat)
  case atStart => exact ⟨0, Nat.zero_le _, rfl, Own.nil_ _ _ _ _ _ (by simp), Below.refl _ _⟩
  case round =>
    obtain ⟨k, hk, rfl, hown, hbel⟩ := hrel
    have hsz := hbel.size
    by_cases hlt : k < l.length
    · have hBk := hB1.ints_keep (Keep.below hbel)
      obtain ⟨ab, off, rfl, _, hck, hwk⟩ := ints_at hBk hlt
      obtain ⟨hw0, hw1⟩ := i32_wf hwk
      have hsn := put_snoc (l.take k) l[k]
      rw [← take_snoc' l k hlt] at hsn
      have hpl := put_len (l.take k)
      have htk : (l.take k).length ≤ k := List.length_take_le _ _
      have hf4 := form_len4 l[k]
      have hR := fun w => sValid_ok l[k] hw0 hw1 w
      rw [HV.out l[k] (List.getElem_mem _)] at hR
      have HR := hide hR
      have HSN := hide hsn
      clear hR hsn
      go_wp2_with (go_at_call 39; refine (HR.out _).mono ?_; rintro e w' ⟨rfl, rfl⟩)
      refine (sForm_ok _ hw0 hw1 _).mono ?_
      rintro e w1 ⟨v1, rfl, hv1, hb1⟩
      have hown1 := hown.below hb1
      have hsz1 := hb1.size
      go_wp2_with (at_builtin; refine wpList_appi rfl (.tmp 20) (.tmp 22) 29 rfl .u8 5 w.heap.size 1 Tryd.underlying29 u8_info (by decide) _ _ rfl hown1 _ _ _ _ rfl hv1.islc (by omega) (by omega) ?_; intro v3 w3 hv3 hst3)
      go_roundw
      case rel => exact ⟨k + 1, by omega, by go_num, by rw [HSN.out]; exact hv3, (hbel.trans (hb1.mono hsz)).trans (hst3.below (by omega))⟩
      case measure => simp [intOf]; omega
    · have e : l.take k = l := List.take_of_length_le (by omega)
      rw [e] at hown
      go_wp2
      go_ret2
      exact ⟨_, rfl, hown, hbel⟩

set_option maxHeartbeats 1000000 in
/-- Put, of any numbers. -/
theorem sPutAll_ok (b : Nat → Addr) (x : Value) (l : List Int) (w : World) (hS : Sents b w) (hx : Slc (Rep.int .i32) (fun b => b < w.heap.size) (fun b => b < w.heap.size) w x l) (hlen : l.length ≤ 100000) :
    Calls Tryd.prog 28 #[x] w fun e w' => (((∀ r ∈ l, validB r = true) ∧ ∃ v, e = .returned (.tuple #[v, .nilIface]) ∧ Own (Rep.int .u8) 5 [] w.heap.size w' v (putF l)) ∨
      (∃ k : Nat, ∃ h : k < l.length, validB l[k] = false ∧ (∀ r ∈ l.take k, validB r = true) ∧ ∃ v, e = .returned (.tuple #[.slice none 0 0, v]) ∧ ErrIs b w' v 0 (some k))) ∧ Below w.heap.size w w' := by
  obtain ⟨A1, c1, rfl, hd1, hd2, hB1⟩ := hx.open_
  have HSE := hide hS
  have hE := hS.var 0 (by decide)
  simp only [gOf] at hE
  have hEl := World.block_lt_of_cell? w _ hE
  simp only at hEl
  have HE := hide hE
  clear hS hE
  go_enter Tryd.func28, Tryd.ntmps28
  go_wp2
  go_loopw [4, 9] (fun out i wr => ∃ k : Nat, k ≤ l.length ∧ i = .int .i64 k ∧ (∀ r ∈ l.take k, validB r = true) ∧ Own (Rep.int .u8) 5 [] w.heap.size wr out (putF (l.take k)) ∧ Below w.heap.size w wr) (fun _ i _ => l.length - (intOf i).toNat)
  case atStart => exact ⟨0, Nat.zero_le _, rfl, by simp, Own.nil_ _ _ _ _ _ (by simp), Below.refl _ _⟩
  case round =>
    obtain ⟨k, hk, rfl, hval, hown, hbel⟩ := hrel
    have hsz := hbel.size
    have HVA := hide hval
    clear hval
    by_cases hlt : k < l.length
    · have hBk := hB1.ints_keep (Keep.below hbel)
      obtain ⟨ab, off, rfl, _, hck, hwk⟩ := ints_at hBk hlt
      obtain ⟨hw0, hw1⟩ := i32_wf hwk
      have hsn := put_snoc (l.take k) l[k]
      rw [← take_snoc' l k hlt] at hsn
      have hvs : validB l[k] = true → ∀ r ∈ l.take (k + 1), validB r = true := by
        intro h r hr
        rw [take_snoc' l k hlt] at hr
        rcases List.mem_append.1 hr with hr | hr
        · exact HVA.out r hr
        · rw [List.mem_singleton.1 hr]; exact h
      have hpl := put_len (l.take k)
      have htk : (l.take k).length ≤ k := List.length_take_le _ _
      have hf4 := form_len4 l[k]
      have hR := fun w => sValid_ok l[k] hw0 hw1 w
      have HSN := hide hsn
      have HVS := hide hvs
      clear hsn hvs
      rcases Bool.eq_false_or_eq_true (validB l[k]) with hv | hv
      · rw [hv] at hR
        have HR := hide hR
        have HV := hide hv
        clear hR hv
        go_wp2_with (go_at_call 39; refine (HR.out _).mono ?_; rintro e w' ⟨rfl, rfl⟩)
        refine (sForm_ok _ hw0 hw1 _).mono ?_
        rintro e w1 ⟨v1, rfl, hv1, hb1⟩
        have hown1 := hown.below hb1
        have hsz1 := hb1.size
        go_wp2_with (at_builtin; refine wpList_appi rfl (.tmp 20) (.tmp 22) 29 rfl .u8 5 w.heap.size 1 Tryd.underlying29 u8_info (by decide) _ _ rfl hown1 _ _ _ _ rfl hv1.islc (by omega) (by omega) ?_; intro v3 w3 hv3 hst3)
        go_roundw
        case rel => exact ⟨k + 1, by omega, by go_num, HVS.out HV.out, by rw [HSN.out]; exact hv3, (hbel.trans (hb1.mono hsz)).trans (hst3.below (by omega))⟩
        case measure => simp [intOf]; omega
      · rw [hv] at hR
        have HR := hide hR
        have HV := hide hv
        have hEk := (hbel.cell (p := ⟨1, 0, none⟩) hEl).trans HE.out
        clear hR hv
        go_wp2_with (go_at_call 39; refine (HR.out _).mono ?_; rintro e w' ⟨rfl, rfl⟩)
        refine (Wrong_ok b k 0 _ (HSE.out.below hbel)).mono ?_
        rintro e w4 ⟨v4, rfl, hv4, hb4⟩
        go_wp2
        go_ret2
        exact ⟨.inr ⟨k, hlt, HV.out, HVA.out, _, rfl, hv4⟩, hbel.trans (hb4.mono hsz)⟩
    · have e : l.take k = l := List.take_of_length_le (by omega)
      have hva := HVA.out
      rw [e] at hown hva
      have HVB := hide hva
      clear hva
      go_wp2
      go_ret2
      exact ⟨.inl ⟨HVB.out, _, rfl, hown⟩, hbel⟩
end Go.Proofs.YtphdagmaamcapaaDoor
