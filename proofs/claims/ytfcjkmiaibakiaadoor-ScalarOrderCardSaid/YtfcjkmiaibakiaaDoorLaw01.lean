/-
  Two laws on scalar values: each walk returns true and leaves the memory that was there as it was.
-/
import Derived.Test.YtfcjkmiaibakiaaDoorScal
import Derived.Test.YtfcjkmiaibakiaaDoorLit
import Derived.Test.YtfcjkmiaibakiaaDoorUtf5
import Derived.Test.YtfcjkmiaibakiaaDoorUtf6
namespace Go.Proofs.YtfcjkmiaibakiaaDoor
open Go.RowKit
set_option linter.unusedVariables false
set_option linter.unusedSimpArgs false

set_option maxHeartbeats 1000000 in
/-- Put, of scalar values alone. -/
theorem sPut_ok (So Si : Nat → Prop) (x : Value) (l : List Int) (w : World) (hx : Slc (Rep.int .i32) So Si w x l) (hlen : l.length ≤ 100000) (hv : ∀ r ∈ l, validB r = true) :
    Calls Tryd.prog 14 #[x] w fun e w' => ∃ v, e = .returned (.tuple #[v, .nilIface]) ∧ Own (Rep.int .u8) 5 [] w.heap.size w' v (putF l) ∧ Below w.heap.size w w' := by
  have HV := hide hv
  clear hv
  obtain ⟨A1, c1, rfl, hd1, hd2, hB1⟩ := hx.open_
  go_enter Tryd.func14, Tryd.ntmps14
  go_wp2
  go_loopw [4, 9] (fun out i wr => ∃ k : Nat, k ≤ l.length ∧ i = .int .i64 k ∧ Own (Rep.int .u8) 5 [] w.heap.size wr out (putF (l.take k)) ∧ Below w.heap.size w wr) (fun _ i _ => l.length - (intOf i).toNat)
  case atStart => exact ⟨0, Nat.zero_le _, rfl, Own.nil_ _ _ _ _ _ (by simp), Below.refl _ _⟩
  case round =>
    obtain ⟨k, hk, rfl, hown, hbel⟩ := hrel
    have hsz := hbel.size
    by_cases hlt : k < l.length
    · have hBk := hB1.ints_keep (Keep.below hbel)
      obtain ⟨ab, off, rfl, _, hck, hwk⟩ := ints_at hBk hlt
      obtain ⟨hw0, hw1⟩ := i32_wf hwk
      have hsn := put_snoc (l.take k) l[k]
      rw [← take_snoc' l k hlt] at hsn
      have hpl := put_len (l.take k)
      have htk : (l.take k).length ≤ k := List.length_take_le _ _
      have hf4 := form_len4 l[k]
      have hR := fun w => sValid_ok l[k] hw0 hw1 w
      rw [HV.out l[k] (List.getElem_mem _)] at hR
      have HR := hide hR
      have HSN := hide hsn
      clear hR hsn
      go_wp2_with (go_at_call 6; refine (HR.out _).mono ?_; rintro e w' ⟨rfl, rfl⟩)
      refine (sForm_ok _ hw0 hw1 _).mono ?_
      rintro e w1 ⟨v1, rfl, hv1, hb1⟩
      have hown1 := hown.below hb1
      have hsz1 := hb1.size
      go_wp2_with (at_builtin; refine wpList_appi rfl (.tmp 20) (.tmp 22) 25 rfl .u8 5 w.heap.size 1 Tryd.underlying25 u8_info (by decide) _ _ rfl hown1 _ _ _ _ rfl hv1.islc (by omega) (by omega) ?_; intro v3 w3 hv3 hst3)
      go_roundw
      case rel => exact ⟨k + 1, by omega, by go_num, by rw [HSN.out]; exact hv3, (hbel.trans (hb1.mono hsz)).trans (hst3.below (by omega))⟩
      case measure => simp [intOf]; omega
    · have e : l.take k = l := List.take_of_length_le (by omega)
      rw [e] at hown
      go_wp2
      go_ret2
      exact ⟨_, rfl, hown, hbel⟩

set_option maxHeartbeats 1000000 in
theorem works01_ok (w : World) :
    Calls Tryd.prog 13 #[] w fun e w' => e = .returned (.bool true) ∧ Below w.heap.size w w' := by
  have hp : putF [97, 8364] = [97, 226, 130, 172] := by decide
  have hs : sizeF 128512 = 4 := by decide
  have hv : validB 55296 = false := by decide
  have hS := fun w => sSize_ok 128512 (by omega) (by omega) w
  have hV := fun w => sValid_ok 55296 (by omega) (by omega) w
  rw [hs] at hS
  rw [hv] at hV
  have HS := hide hS
  have HV := hide hV
  have HP := hide hp
  clear hS hV hp hs hv
  go_enter Tryd.func13, Tryd.ntmps13
  go_wp2_with fail
  have ho := own_i32 w [97, 8364] (by decide) w.heap.size w.heap.size 2 (Nat.le_refl _) rfl rfl (by simp [maxLen])
  refine (sPut_ok _ _ _ [97, 8364] _ ho.islc (by simp) (by decide)).mono ?_
  rw [HP.out]
  rintro e w1 ⟨v1, rfl, hv1, hb1⟩
  have hb1' : Below w.heap.size w w1 := ((Below.refl _ w).alloc (Nat.le_refl _) _).trans (hb1.mono (by simp))
  obtain ⟨A, c, rfl, hc1, hc2, _⟩ := hv1.islc.open_
  have h1 : (convert 25 9 (.slice A 4 c)).run Tryd.prog w1 = .ok (.string (strOfNums [97, 226, 130, 172])) w1 := run_str (P := Tryd.prog) hv1.islc 25 9 5 Tryd.underlying25 Tryd.underlying5 Tryd.underlying9
  have h2 : ((strOfNums [97, 226, 130, 172]).toList == ([97, 226, 130, 172] : List UInt8)) = true := by kernel_rfl
  go_wp2_with (first
    | (go_at_call 8; refine (HS.out _).mono ?_; rintro e w' ⟨rfl, rfl⟩)
    | (go_at_call 6; refine (HV.out _).mono ?_; rintro e w' ⟨rfl, rfl⟩))
  go_ret
  exact ⟨rfl, hb1'⟩

theorem walk_ScalarTells (r : Int) (w : World) (hr : (Lit.int .i32 r).wf = true) :
    Calls Tryd.prog 3 #[.int .i32 r] w fun e w' => e = .returned (.bool true) ∧ Below w.heap.size w w' := by
  obtain ⟨h0, h1⟩ := i32_wf hr
  have hV := fun w => sValid_ok r h0 h1 w
  have hrV := fun w => rValid_ok r h0 h1 w
  have hS := fun w => sSize_ok r h0 h1 w
  have hrS := fun w => rSize_ok r h0 h1 w
  have hv : (validB r == validB r) = true := by simp
  have hs : (sizeF r == sizeF r) = true := by simp
  have HV := hide hV
  have HrV := hide hrV
  have HS := hide hS
  have HrS := hide hrS
  clear hV hrV hS hrS
  go_enter Tryd.func3, Tryd.ntmps3
  go_wp2_with (first
    | (go_at_call 6; refine (HV.out _).mono ?_; rintro e w' ⟨rfl, rfl⟩)
    | (go_at_call 7; refine (HrV.out _).mono ?_; rintro e w' ⟨rfl, rfl⟩)
    | (go_at_call 8; refine (HS.out _).mono ?_; rintro e w' ⟨rfl, rfl⟩)
    | (go_at_call 9; refine (HrS.out _).mono ?_; rintro e w' ⟨rfl, rfl⟩))
  refine (sForm_ok r h0 h1 _).mono ?_
  rintro e w1 ⟨v1, rfl, hv1, hb1⟩
  obtain ⟨A1, c1, rfl, _, _, _⟩ := hv1.islc.open_
  go_wp2_with fail
  refine (rForm_ok r h0 h1 _).mono ?_
  rintro e w2 ⟨v2, rfl, hv2, hb2⟩
  have hv1 := hv1.below hb2
  have hb2' := hb1.trans (hb2.mono hb1.size)
  obtain ⟨A2, c2, rfl, _, _, _⟩ := hv2.islc.open_
  go_wp2_with fail
  refine (rBytes_ok _ _ _ _ _ _ _ _ _ hv1.islc hv2.islc).mono ?_
  rintro e w3 ⟨rfl, rfl⟩
  rw [decide_eq_true rfl]
  go_wp2_with fail
  refine (works01_ok _).mono ?_
  rintro e w4 ⟨rfl, hb4⟩
  go_wp2
  go_ret
  exact ⟨rfl, hb2'.trans (hb4.mono hb2'.size)⟩
end Go.Proofs.YtfcjkmiaibakiaaDoor
