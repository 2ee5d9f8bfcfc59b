/-
  What the functions of layer 4 return: scalar values of all parts, whether none is bad, the beginning of a form at the end. Each function once.
-/
import Derived.Test.YtfcjkmiaibakiaaAll2
import Derived.Test.YtfcjkmiaibakiaaRef3s
namespace Go.Proofs.Ytfcjkmiaibakiaa
open Go.RowKit
set_option linter.unusedVariables false

/-- A part in a row of parts, cell by cell. -/
theorem got_at {So Si : Nat → Prop} {w : World} {A : Option Addr} {l : List Got} (h : SlB RGot So Si w A l) {k : Nat} (hk : k < l.length) :
    ∃ b off, A = some ⟨b, off, none⟩ ∧ So b ∧ w.cell? ⟨b, off + k * 5, none⟩ = some (.int .i32 l[k].r) ∧ w.cell? ⟨b, off + k * 5 + 1, none⟩ = some (.int .i64 l[k].at_) ∧ w.cell? ⟨b, off + k * 5 + 2, none⟩ = some (.int .i64 l[k].len) ∧
      w.cell? ⟨b, off + k * 5 + 3, none⟩ = some (.int .i64 l[k].known) ∧ w.cell? ⟨b, off + k * 5 + 4, none⟩ = some (.bool l[k].bad) := by
  obtain ⟨b, off, u, rfl, hs, hu, hc⟩ := h.at_ (k := k) (x := l[k]) (List.getElem?_eq_getElem hk) (by decide)
  have hu' : u = gotCells l[k] := hu
  subst hu'
  have h0 := hc 0 (by decide)
  have h1 := hc 1 (by decide)
  have h2 := hc 2 (by decide)
  have h3 := hc 3 (by decide)
  have h4 := hc 4 (by decide)
  have e : RGot.sz = 5 := rfl
  rw [e] at h0 h1 h2 h3 h4
  simp only [← Nat.add_assoc, Nat.add_zero] at h0 h1 h2 h3 h4
  exact ⟨b, off, rfl, hs, h0, h1, h2, h3, h4⟩

theorem part_r (b0 : Int) (r : List Int) (pos : Int) (hb : 0 ≤ b0 ∧ b0 ≤ 255) : 0 ≤ (partF (b0 :: r) pos).r ∧ (partF (b0 :: r) pos).r ≤ 2097151 := by
  unfold partF
  by_cases h0 : reachK (b0 :: r) = 0
  · rw [if_pos h0]; simp
  · rw [if_neg h0]
    by_cases h1 : (reachK (b0 :: r) : Int) < leadF b0
    · rw [if_pos (by simpa using h1)]; simp
    · rw [if_neg (by simpa using h1)]
      obtain ⟨t, ht1, ht2, ht3, ht4, ht5, ht6⟩ := reach_whole b0 r h0 h1
      simp only [ht1]
      have := accF_bound b0 t hb ht3 ht2.symm ht4 t.length (Nat.le_refl _)
      have hwh : wholeF (b0 :: t) = accF (b0 :: t) t.length := by unfold wholeF; simp
      rw [hwh]; exact this
theorem all_r : ∀ (n : Nat) (b : List Int) (pos : Int), Bytes b → ∀ g ∈ allN n b pos, 0 ≤ g.r ∧ g.r ≤ 2097151
  | 0, _, _, _, g, hg => by simp [allN] at hg
  | n + 1, b, pos, hb, g, hg => by
    simp only [allN] at hg
    cases b with
    | nil => simp at hg
    | cons b0 r =>
      rw [if_neg (by simp)] at hg
      rcases List.mem_cons.1 hg with rfl | hg
      · exact part_r b0 r pos (hb b0 (by simp))
      · exact all_r n _ _ (fun m hm => hb m (List.mem_of_mem_drop hm)) g hg

set_option maxHeartbeats 1000000 in
theorem Runes_ok (So Si : Nat → Prop) (x : Value) (l : List Int) (w : World) (hx : Slc (Rep.int .u8) So Si w x l) (hlen : l.length ≤ 100000) :
    Calls Try.prog 36 #[x] w fun e w' => ∃ v, e = .returned v ∧ Own (Rep.int .i32) 21 [] w.heap.size w' v ((allF l).map Got.r) ∧ Below w.heap.size w w' := by
  have hall := All_ok So Si x l w hx hlen
  have hlr := all_len l.length l 0
  have hlr2 : (allF l).length ≤ l.length := hlr
  have hrr : ∀ g ∈ allF l, 0 ≤ g.r ∧ g.r ≤ 2097151 := all_r _ _ _ (fun n hn => u8_wf (hx.ints_wf n hn))
  generalize hg : allF l = gs at *
  have HALL := hide hall
  clear hg hall hlr
  go_enter Try.func36, Try.ntmps36
  go_wp2_with fail
  refine HALL.out.mono ?_
  rintro e w1 ⟨v1, rfl, hv1, hb1⟩
  have hsz1 := hb1.size
  obtain ⟨A1, c1, rfl, hd1, hd2, hB1⟩ := (hv1.fslc RGot.flat).open_
  go_wp2
  go_loopw [3, 9] (fun out i wr => ∃ k : Nat, k ≤ gs.length ∧ i = .int .i64 k ∧ Own (Rep.int .i32) 21 [] w.heap.size wr out ((gs.take k).map Got.r) ∧ Step w.heap.size [21] w1 wr) (fun _ i _ => gs.length - (intOf i).toNat)
  case atStart => exact ⟨0, Nat.zero_le _, rfl, Own.nil_ _ _ _ _ _ (by simp), Step.refl _ _ _⟩
  case round =>
    obtain ⟨k, hk, rfl, hown, hst⟩ := hrel
    have hsz := hst.size
    by_cases hlt : k < gs.length
    · have hBk := hB1.flat_keep RGot.flat (So' := fun _ => True) (Si' := fun _ => False) (w' := wr) (by
        intro p u hs hc
        have h2 := Keep.fresh hst (T := [35]) (b0 := w.heap.size) (by decide) p u hs.2 hc
        exact ⟨trivial, h2.2⟩)
      obtain ⟨gb, go, rfl, _, q0, q1, q2, q3, q4⟩ := got_at hBk hlt
      have hgr := hrr gs[k] (List.getElem_mem _)
      have hsn : (gs.take (k + 1)).map Got.r = (gs.take k).map Got.r ++ [gs[k].r] := by rw [take_snoc' gs k hlt, List.map_append]; rfl
      generalize hgk : gs[k] = g at *
      have HSN := hide hsn
      clear hsn hgk
      have hown2 := (hown.alloc (.cells #[.int .i32 g.r, .int .i64 g.at_, .int .i64 g.len, .int .i64 g.known, .bool g.bad] 35)).alloc (.cells #[.int .i32 g.r] 21)
      have hone := own_i32 (wr.alloc (.cells #[.int .i32 g.r, .int .i64 g.at_, .int .i64 g.len, .int .i64 g.known, .bool g.bad] 35)) [g.r] (by intro n hn; simp at hn; subst hn; exact wf_i32 (by omega) (by omega)) (wr.heap.size + 1) (wr.heap.size + 1) 1 (Nat.le_refl _) (by simp) rfl (by simp [maxLen])
      have hlt2 : ((gs.take k).map Got.r).length ≤ k := by simp; omega
      go_wp2_with (at_builtin; refine wpList_appi rfl (.tmp 13) (.tmp 16) 40 rfl .i32 21 w.heap.size 4 Try.underlying40 i32_info (by decide) _ _ rfl hown2 _ _ _ _ rfl hone.islc (by simp; omega) (by simp; omega) ?_; intro v3 w3 hv3 hst3)
      go_roundw
      case rel => exact ⟨k + 1, by omega, by go_num, by rw [HSN.out]; exact hv3, ((hst.alloc _).alloc _).trans hst3⟩
      case measure => simp [intOf]; omega
    · have e : gs.take k = gs := List.take_of_length_le (by omega)
      rw [e] at hown
      go_wp2
      go_ret
      exact ⟨_, rfl, hown, hb1.trans (hst.below hsz1)⟩

set_option maxHeartbeats 1000000 in
theorem Valid_ok (So Si : Nat → Prop) (x : Value) (l : List Int) (w : World) (hx : Slc (Rep.int .u8) So Si w x l) (hlen : l.length ≤ 100000) :
    Calls Try.prog 39 #[x] w fun e w' => e = .returned (.bool (!(allF l).any Got.bad)) ∧ Below w.heap.size w w' := by
  have hall := All_ok So Si x l w hx hlen
  have hlr2 : (allF l).length ≤ l.length := all_len l.length l 0
  generalize hg : allF l = gs at *
  have HALL := hide hall
  clear hg hall
  go_enter Try.func39, Try.ntmps39
  go_wp2_with fail
  refine HALL.out.mono ?_
  rintro e w1 ⟨v1, rfl, hv1, hb1⟩
  have hsz1 := hb1.size
  obtain ⟨A1, c1, rfl, hd1, hd2, hB1⟩ := (hv1.fslc RGot.flat).open_
  go_wp2
  go_loopw [8] (fun i wr => ∃ k : Nat, k ≤ gs.length ∧ i = .int .i64 k ∧ (gs.take k).any Got.bad = false ∧ Below w1.heap.size w1 wr) (fun i _ => gs.length - (intOf i).toNat)
  case atStart => exact ⟨0, Nat.zero_le _, rfl, rfl, Below.refl _ _⟩
  case round =>
    obtain ⟨k, hk, rfl, hno, hst⟩ := hrel
    have hsz := hst.size
    have HNO := hide hno
    clear hno
    by_cases hlt : k < gs.length
    · have hBk := hB1.flat_keep RGot.flat (Si' := fun _ => False) (Keep.below hst)
      obtain ⟨gb, go, rfl, _, q0, q1, q2, q3, q4⟩ := got_at hBk hlt
      have hsn : (gs.take (k + 1)).any Got.bad = ((gs.take k).any Got.bad || gs[k].bad) := by rw [take_snoc' gs k hlt, List.any_append]; simp
      have hin : gs[k].bad = true → gs.any Got.bad = true := fun h => List.any_eq_true.2 ⟨gs[k], List.getElem_mem _, h⟩
      generalize hgk : gs[k] = g at *
      have HSN := hide hsn
      have HIN := hide hin
      clear hsn hgk hin
      by_cases hbd : g.bad = true
      · have hany := HIN.out hbd
        have HANY := hide hany
        clear hany
        go_wp2
        go_ret
        exact ⟨ret_1 (by rw [HANY.out]; rfl), hb1.trans ((hst.mono hsz1).alloc (by omega) _)⟩
      · have hbd' : g.bad = false := by simpa using hbd
        go_wp2
        go_roundw
        case rel => exact ⟨k + 1, by omega, by go_num, by rw [HSN.out, HNO.out, hbd']; rfl, hst.alloc (by omega) _⟩
        case measure => simp [intOf]; omega
    · have e : gs.any Got.bad = false := by have := HNO.out; rwa [List.take_of_length_le (by omega)] at this
      have HE := hide e
      clear e
      go_wp2
      go_ret
      exact ⟨ret_1 (by rw [HE.out]; rfl), hb1.trans (hst.mono hsz1)⟩

theorem getLast_at {l : List Got} (h : 0 < l.length) : l.getLast? = some (l[l.length - 1]'(by omega)) := by
  rw [List.getLast?_eq_getElem?, List.getElem?_eq_getElem (by omega)]

set_option maxHeartbeats 1000000 in
theorem UTail_ok (So Si : Nat → Prop) (x : Value) (l : List Int) (w : World) (hx : Slc (Rep.int .u8) So Si w x l) (hlen : l.length ≤ 100000) (hat : ∀ g ∈ allF l, 0 ≤ g.at_ ∧ g.at_ < l.length) :
    Calls Try.prog 40 #[x] w fun e w' => e = .returned (.int .i64 (tailF l)) ∧ Below w.heap.size w w' := by
  have hall := All_ok So Si x l w hx hlen
  have hlr2 : (allF l).length ≤ l.length := all_len l.length l 0
  have htl : tailF l = match (allF l).getLast? with
    | none => 0
    | some g => if g.bad = true ∧ reachK (l.drop g.at_.toNat) ≠ 0 ∧ (reachK (l.drop g.at_.toNat) : Int) < leadF ((l.drop g.at_.toNat).getD 0 0) then g.len else 0 := rfl
  generalize hg : allF l = gs at *
  have HALL := hide hall
  have HTL := hide htl
  clear hg hall htl
  obtain ⟨A, c, rfl, hc1, hc2, _⟩ := hx.open_
  go_enter Try.func40, Try.ntmps40
  go_wp2_with fail
  refine HALL.out.mono ?_
  rintro e w1 ⟨v1, rfl, hv1, hb1⟩
  have hsz1 := hb1.size
  obtain ⟨A1, c1, rfl, hd1, hd2, hB1⟩ := (hv1.fslc RGot.flat).open_
  by_cases hz : gs.length = 0
  · have hgs : gs = [] := List.eq_nil_of_length_eq_zero hz
    have h0 : tailF l = 0 := by rw [HTL.out, hgs]; rfl
    have H0 := hide h0
    have hb : (((gs.length : Nat) : Int) == 0) = true := by simp [hz]
    clear hgs h0
    go_wp2
    go_ret
    exact ⟨ret_1 (int_eq H0.out.symm), hb1⟩
  · have hlt : gs.length - 1 < gs.length := by omega
    have hb : (((gs.length : Nat) : Int) == 0) = false := by simpa using hz
    have hcast : ((gs.length - 1 : Nat) : Int) = (gs.length : Int) - 1 := by omega
    obtain ⟨gb, go, rfl, hso, q0, q1, q2, q3, q4⟩ := got_at hB1 hlt
    have hlast := getLast_at (l := gs) (by omega)
    have hga := hat _ (List.getElem_mem hlt)
    generalize hgk : gs[gs.length - 1] = g at *
    have HL := hide hlast
    clear hgk hlast
    obtain ⟨k, hk⟩ := Int.eq_ofNat_of_zero_le hga.1
    obtain ⟨gr, ga, gl, gkn, gbad⟩ := g
    simp only at q0 q1 q2 q3 q4 hga hk
    subst hk
    have hkl : k < l.length := by omega
    obtain ⟨b0, r, hdr, hrl⟩ := drop_cons hkl
    have hta : tailF l = if gbad = true ∧ reachK (b0 :: r) ≠ 0 ∧ (reachK (b0 :: r) : Int) < leadF b0 then gl else 0 := by
      rw [HTL.out, HL.out]
      simp only [Int.toNat_natCast, hdr, List.getD_cons_zero]
    have HTA := hide hta
    clear hta
    have hxk := (hx.ints_keep ((Keep.below (S := So) hb1).trans (Keep.alloc So w1 (.cells #[.int .i32 gr, .int .i64 k, .int .i64 gl, .int .i64 gkn, .bool gbad] 35)))).cut (k := k) (by omega)
    rw [hdr] at hxk
    have hck : ¬ c = k := by omega
    have hrl2 : ((l.length - k : Nat) : Int) = (r.length : Int) + 1 := by omega
    rw [if_neg hck, show k * (Rep.int .u8).sz = k from Nat.mul_one k] at hxk
    have hR := reach_ok _ _ _ b0 r _ hxk (by omega)
    have HR := hide hR
    have hrc := reach_le b0 r
    have hlr := leadF_range b0
    clear hR hdr
    rcases Bool.eq_false_or_eq_true gbad with h1 | h1 <;> subst h1
    · by_cases h2 : reachK (b0 :: r) = 0
      · have n0 : ((reachK (b0 :: r) : Int) == 0) = true := by simp [h2]
        have h0 : tailF l = 0 := by rw [HTA.out, if_neg (by simp [h2])]
        have H0 := hide h0
        clear h0 h2
        go_wp2_with (go_at_call 47; refine HR.out.mono ?_; rintro e w' ⟨rfl, rfl⟩)
        go_ret
        exact ⟨ret_1 (int_eq H0.out.symm), hb1.alloc hsz1 _⟩
      · have n0 : ((reachK (b0 :: r) : Int) == 0) = false := by simpa using h2
        by_cases h3 : (reachK (b0 :: r) : Int) < leadF b0
        · have h0 : tailF l = gl := by rw [HTA.out, if_pos ⟨rfl, h2, h3⟩]
          have H0 := hide h0
          clear h0 h2
          go_wp2_with (go_at_call 47; refine HR.out.mono ?_; rintro e w' ⟨rfl, rfl⟩)
          go_ret
          exact ⟨ret_1 (int_eq H0.out.symm), hb1.alloc hsz1 _⟩
        · have h0 : tailF l = 0 := by rw [HTA.out, if_neg (fun h => h3 h.2.2)]
          have H0 := hide h0
          have h4 : leadF b0 ≤ (reachK (b0 :: r) : Int) := by omega
          clear h0 h2 h3
          go_wp2_with (go_at_call 47; refine HR.out.mono ?_; rintro e w' ⟨rfl, rfl⟩)
          go_ret
          exact ⟨ret_1 (int_eq H0.out.symm), hb1.alloc hsz1 _⟩
    · have h0 : tailF l = 0 := by rw [HTA.out, if_neg (fun h => by simp at h)]
      have H0 := hide h0
      clear h0
      go_wp2_with (go_at_call 47; refine HR.out.mono ?_; rintro e w' ⟨rfl, rfl⟩)
      go_ret
      exact ⟨ret_1 (int_eq H0.out.symm), hb1.alloc hsz1 _⟩
end Go.Proofs.Ytfcjkmiaibakiaa
