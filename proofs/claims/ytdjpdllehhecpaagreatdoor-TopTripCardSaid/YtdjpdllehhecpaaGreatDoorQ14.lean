import Derived.Test.YtdjpdllehhecpaaGreatDoorQ03
import Derived.Test.YtdjpdllehhecpaaGreatDoorQ11
import Derived.Test.YtdjpdllehhecpaaGreatDoorQ10
import Derived.Test.YtdjpdllehhecpaaGreatDoorQ05
import Derived.Test.YtdjpdllehhecpaaGreatDoorQ02
import Derived.Test.YtdjpdllehhecpaaGreatDoorQ04
import Derived.Test.YtdjpdllehhecpaaGreatDoorQ12
open List renaming getElem?_toArray → zA, getElem?_cons_succ → zB, getElem?_cons_zero → zC, setIfInBounds_toArray → zD, set_cons_zero → zE, set_cons_succ → zF
namespace Go.Proofs.YtdjpdllehhecpaaGreatDoor
open Go.RowKit
set_option linter.unusedVariables false
set_option linter.unusedSimpArgs false
set_option maxHeartbeats 1000000 in
theorem sPut_ok (So Si : Nat → Prop) (x : Value) (l : List Int) (w : World) (hx : Slc (Rep.int .i32) So Si w x l) (hlen : l.length ≤ 100000) (hv : ∀ r ∈ l, validB r = true) :
    Calls Tryz.prog 29 #[x] w fun e w' => ∃ v, e = .returned (.tuple #[v, .nilIface]) ∧ Own (Rep.int .u8) 5 [] w.heap.size w' v (putF l) ∧ Below w.heap.size w w' := by
  have HV := hide hv
  clear hv
  obtain ⟨A1, c1, rfl, hd1, hd2, hB1⟩ := hx.open_
  go_enter Tryz.func29, Tryz.ntmps29
  go_wp2
  go_loopw [4, 9] (fun out i wr => ∃ k : Nat, k ≤ l.length ∧ i = .int .i64 k ∧ Own (Rep.int .u8) 5 [] w.heap.size wr out (putF (l.take k)) ∧ Below w.heap.size w wr) (fun _ i _ => l.length - (intOf i).toNat)
  case atStart => exact ⟨0, Nat.zero_le _, rfl, Own.nil_ _ _ _ _ _ (by simp), Below.refl _ _⟩
  case round =>
    obtain ⟨k, hk, rfl, hown, hbel⟩ := hrel
    have hsz := hbel.size
    by_cases hlt : k < l.length
    · have hBk := hB1.ints_keep (Keep.below hbel)
      obtain ⟨ab, off, rfl, _, hck, hwk⟩ := ints_at hBk hlt
      obtain ⟨hw0, hw1⟩ := i32_wf hwk
      have hsn := put_snoc (l.take k) l[k]
      rw [← take_snoc' l k hlt] at hsn
      have hpl := put_len (l.take k)
      have htk : (l.take k).length ≤ k := List.length_take_le _ _
      have hf4 := form_len4 l[k]
      have hR := fun w => sValid_ok l[k] hw0 hw1 w
      rw [HV.out l[k] (List.getElem_mem _)] at hR
      have HR := hide hR
      have HSN := hide hsn
      clear hR hsn
      go_wp2_with (go_at_call 53; refine (HR.out _).mono ?_; rintro e w' ⟨rfl, rfl⟩)
      refine (sForm_ok _ hw0 hw1 _).mono ?_
      rintro e w1 ⟨v1, rfl, hv1, hb1⟩
      have hown1 := hown.below hb1
      have hsz1 := hb1.size
      go_wp2_with (at_builtin; refine wpList_appi rfl (.tmp 20) (.tmp 22) 22 rfl .u8 5 w.heap.size 1 Tryz.underlying22 u8_info (by decide) _ _ rfl hown1 _ _ _ _ rfl hv1.islc (by omega) (by omega) ?_; intro v3 w3 hv3 hst3)
      go_roundw
      case rel => exact ⟨k + 1, by omega, by go_num, by rw [HSN.out]; exact hv3, (hbel.trans (hb1.mono hsz)).trans (hst3.below (by omega))⟩
      case measure => simp [intOf]; omega
    · have e : l.take k = l := List.take_of_length_le (by omega)
      rw [e] at hown
      go_wp2
      go_ret2
      exact ⟨_, rfl, hown, hbel⟩
end Go.Proofs.YtdjpdllehhecpaaGreatDoor
