/-
  What two of the document's functions return: the scalar values of all parts; the bytes of a row of numbers, or the place of the first that is no scalar value. Each function once.
-/
import Derived.Test.YtfcjkmiaibakiaaRefAll
namespace Go.Proofs.Ytfcjkmiaibakiaa
open Go.RowKit
set_option linter.unusedVariables false

set_option maxHeartbeats 1000000 in
theorem rRunes_ok (So Si : Nat → Prop) (x : Value) (l : List Int) (w : World) (hx : Slc (Rep.int .u8) So Si w x l) (hlen : l.length ≤ 100000) :
    Calls Try.prog 37 #[x] w fun e w' => ∃ v, e = .returned v ∧ Own (Rep.int .i32) 21 [] w.heap.size w' v ((allF l).map Got.r) ∧ Below w.heap.size w w' := by
  have hall := rAll_ok So Si x l w hx hlen
  have hlr2 : (allF l).length ≤ l.length := all_len l.length l 0
  have hrr : ∀ g ∈ allF l, 0 ≤ g.r ∧ g.r ≤ 2097151 := all_r _ _ _ (fun n hn => u8_wf (hx.ints_wf n hn))
  generalize hg : allF l = gs at *
  have HALL := hide hall
  clear hg hall
  go_enter Try.func37, Try.ntmps37
  go_wp2_with fail
  refine HALL.out.mono ?_
  rintro e w1 ⟨v1, rfl, hv1, hb1⟩
  have hsz1 := hb1.size
  obtain ⟨A1, c1, rfl, hd1, hd2, hB1⟩ := (hv1.fslc RGot.flat).open_
  go_wp2
  go_loopw [3, 5] (fun out i wr => ∃ k : Nat, k ≤ gs.length ∧ i = .int .i64 k ∧ Own (Rep.int .i32) 21 [] w.heap.size wr out ((gs.take k).map Got.r) ∧ Step w.heap.size [21] w1 wr) (fun _ i _ => gs.length - (intOf i).toNat)
  case atStart => exact ⟨0, Nat.zero_le _, rfl, Own.nil_ _ _ _ _ _ (by simp), Step.refl _ _ _⟩
  case round =>
    obtain ⟨k, hk, rfl, hown, hst⟩ := hrel
    have hsz := hst.size
    by_cases hlt : k < gs.length
    · have hBk := hB1.flat_keep RGot.flat (So' := fun _ => True) (Si' := fun _ => False) (w' := wr) (by
        intro p u hs hc
        have h2 := Keep.fresh hst (T := [54]) (b0 := w.heap.size) (by decide) p u hs.2 hc
        exact ⟨trivial, h2.2⟩)
      obtain ⟨gb, go, rfl, _, q0, q1, q2, q3, q4⟩ := got_at hBk hlt
      have hgr := hrr gs[k] (List.getElem_mem _)
      have hsn : (gs.take (k + 1)).map Got.r = (gs.take k).map Got.r ++ [gs[k].r] := by rw [take_snoc' gs k hlt, List.map_append]; rfl
      generalize hgk : gs[k] = g at *
      have HSN := hide hsn
      clear hsn hgk
      have hown2 := hown.alloc (.cells #[.int .i32 g.r] 21)
      have hone := own_i32 wr [g.r] (by intro n hn; simp at hn; subst hn; exact wf_i32 (by omega) (by omega)) wr.heap.size wr.heap.size 1 (Nat.le_refl _) rfl rfl (by simp [maxLen])
      have hlt2 : ((gs.take k).map Got.r).length ≤ k := by simp; omega
      go_wp2_with (at_builtin; refine wpList_appi rfl (.tmp 14) (.tmp 20) 40 rfl .i32 21 w.heap.size 4 Try.underlying40 i32_info (by decide) _ _ rfl hown2 _ _ _ _ rfl hone.islc (by simp; omega) (by simp; omega) ?_; intro v3 w3 hv3 hst3)
      go_roundw
      case rel => exact ⟨k + 1, by omega, by go_num, by rw [HSN.out]; exact hv3, (hst.alloc _).trans hst3⟩
      case measure => simp [intOf]; omega
    · have e : gs.take k = gs := List.take_of_length_le (by omega)
      rw [e] at hown
      go_wp2
      go_ret
      exact ⟨_, rfl, hown, hb1.trans (hst.below hsz1)⟩

/-- What the document's Put returns. -/
def PutSays (base : Nat) (w' : World) (l : List Int) (v : Value) (at_ : Int) : Prop :=
  (at_ = -1 ∧ (∀ r ∈ l, validB r = true) ∧ Own (Rep.int .u8) 5 [] base w' v (putF l)) ∨
  (∃ k : Nat, ∃ h : k < l.length, at_ = k ∧ validB l[k] = false ∧ (∀ r ∈ l.take k, validB r = true) ∧ v = .slice none 0 0)

set_option maxHeartbeats 1000000 in
theorem rPut_ok (So Si : Nat → Prop) (x : Value) (l : List Int) (w : World) (hx : Slc (Rep.int .i32) So Si w x l) (hlen : l.length ≤ 100000) :
    Calls Try.prog 41 #[x] w fun e w' => ∃ v a, e = .returned (.tuple #[v, .int .i64 a]) ∧ PutSays w.heap.size w' l v a ∧ Below w.heap.size w w' := by
  obtain ⟨A1, c1, rfl, hd1, hd2, hB1⟩ := hx.open_
  go_enter Try.func41, Try.ntmps41
  go_wp2
  go_loopw [4, 5] (fun out i wr => ∃ k : Nat, k ≤ l.length ∧ i = .int .i64 k ∧ (∀ r ∈ l.take k, validB r = true) ∧ Own (Rep.int .u8) 5 [] w.heap.size wr out (putF (l.take k)) ∧ Below w.heap.size w wr) (fun _ i _ => l.length - (intOf i).toNat)
  case atStart => exact ⟨0, Nat.zero_le _, rfl, by simp, Own.nil_ _ _ _ _ _ (by simp), Below.refl _ _⟩
  case round =>
    obtain ⟨k, hk, rfl, hval, hown, hbel⟩ := hrel
    have hsz := hbel.size
    have HV := hide hval
    clear hval
    by_cases hlt : k < l.length
    · have hBk := hB1.ints_keep (Keep.below hbel)
      obtain ⟨ab, off, rfl, _, hck, hwk⟩ := ints_at hBk hlt
      obtain ⟨hw0, hw1⟩ := i32_wf hwk
      have hsn := put_snoc (l.take k) l[k]
      rw [← take_snoc' l k hlt] at hsn
      have hvs : validB l[k] = true → ∀ r ∈ l.take (k + 1), validB r = true := by
        intro h r hr
        rw [take_snoc' l k hlt] at hr
        rcases List.mem_append.1 hr with hr | hr
        · exact HV.out r hr
        · simp at hr; subst hr; exact h
      have hpl := put_len (l.take k)
      have htk : (l.take k).length ≤ k := List.length_take_le _ _
      have hf4 := form_len4 l[k]
      have HSN := hide hsn
      have HVS := hide hvs
      clear hsn hvs
      rcases Bool.eq_false_or_eq_true (validB l[k]) with hv | hv
      · have hvv := HVS.out hv
        have HVV := hide hvv
        have hR := fun w => rValid_ok l[k] hw0 hw1 w
        rw [hv] at hR
        have HR := hide hR
        clear hvv hR hv
        go_wp2_with (go_at_call 22; refine (HR.out _).mono ?_; rintro e w' ⟨rfl, rfl⟩)
        refine (rForm_ok _ hw0 hw1 _).mono ?_
        rintro e w1 ⟨v1, rfl, hv1, hb1⟩
        have hown1 := hown.below hb1
        have hsz1 := hb1.size
        go_wp2_with (at_builtin; refine wpList_appi rfl (.tmp 19) (.tmp 24) 28 rfl .u8 5 w.heap.size 1 Try.underlying28 u8_info (by decide) _ _ rfl hown1 _ _ _ _ rfl hv1.islc (by omega) (by omega) ?_; intro v3 w3 hv3 hst3)
        go_roundw
        case rel => exact ⟨k + 1, by omega, by go_num, HVV.out, by rw [HSN.out]; exact hv3, (hbel.trans (hb1.mono hsz)).trans (hst3.below (by omega))⟩
        case measure => simp [intOf]; omega
      · have hR := fun w => rValid_ok l[k] hw0 hw1 w
        rw [hv] at hR
        have HR := hide hR
        have HVF := hide hv
        clear hR hv
        go_wp2_with (go_at_call 22; refine (HR.out _).mono ?_; rintro e w' ⟨rfl, rfl⟩)
        go_ret2
        exact ⟨_, _, rfl, .inr ⟨k, hlt, rfl, HVF.out, HV.out, rfl⟩, hbel⟩
    · have e : l.take k = l := List.take_of_length_le (by omega)
      rw [e] at hown
      have hval := HV.out
      rw [e] at hval
      have HV2 := hide hval
      clear hval
      go_wp2
      go_ret2
      exact ⟨_, _, rfl, .inl ⟨rfl, HV2.out, hown⟩, hbel⟩
end Go.Proofs.Ytfcjkmiaibakiaa
