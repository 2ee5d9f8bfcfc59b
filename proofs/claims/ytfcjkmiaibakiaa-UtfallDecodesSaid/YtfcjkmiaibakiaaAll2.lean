/-
  What the functions of layer 4 return: the part in front, all parts, their scalar values, whether none is bad, the beginning of a form at the end. Each function once.
-/
import Derived.Test.YtfcjkmiaibakiaaAll1
import Derived.Test.YtfcjkmiaibakiaaUtf4
namespace Go.Proofs.Ytfcjkmiaibakiaa
open Go.RowKit
set_option linter.unusedVariables false

set_option maxHeartbeats 1000000 in
theorem part_ok (So Si : Nat → Prop) (x : Value) (b0 : Int) (r : List Int) (pos : Int) (w : World) (hx : Slc (Rep.int .u8) So Si w x (b0 :: r)) (hlen : r.length ≤ 1000000) (hp0 : 0 ≤ pos) (hp1 : pos ≤ 1000000) :
    Calls Try.prog 43 #[x, .int .i64 pos] w fun e w' => e = .returned (.agg (gotCells (partF (b0 :: r) pos)).toArray) ∧ Below w.heap.size w w' := by
  have hrc := reach_le b0 r
  have hb0 := u8_wf (hx.ints_wf b0 (by simp))
  have hwhole := reach_whole b0 r
  obtain ⟨A, c, rfl, hc1, hc2, hB⟩ := hx.open_
  have hlen' : (b0 :: r).length = r.length + 1 := rfl
  rw [hlen'] at *
  have hxa := hx.ints_keep (Keep.alloc So w (.cells #[.int .i32 0, .int .i64 0, .int .i64 0, .int .i64 0, .bool false] 35))
  have hR := reach_ok _ _ _ b0 r _ hxa hlen
  have HR := hide hR
  have HW := hide hwhole
  clear hR hwhole hlen'
  by_cases h0 : reachK (b0 :: r) = 0
  · have hp : partF (b0 :: r) pos = ⟨65533, pos, 1, pos + 1, true⟩ := by unfold partF; rw [if_pos h0]
    have HP := hide hp
    have n0 : ((reachK (b0 :: r) : Int) == 0) = true := by simp [h0]
    clear hp h0
    go_enter Try.func43, Try.ntmps43
    go_wp2_with (go_at_call 47; refine HR.out.mono ?_; rintro e w' ⟨rfl, rfl⟩)
    refine bodyPost_ret (v := .agg #[.int .i32 65533, .int .i64 pos, .int .i64 1, .int .i64 (pos + 1), .bool true]) (by simp [results, Try.results43, go_sem]) rfl ⟨?_, (Below.refl _ _).alloc (Nat.le_refl _) _⟩
    rw [HP.out]; rfl
  · have n0 : ((reachK (b0 :: r) : Int) == 0) = false := by simpa using h0
    by_cases h1 : (reachK (b0 :: r) : Int) < leadF b0
    · have hp : partF (b0 :: r) pos = ⟨65533, pos, reachK (b0 :: r), pos + min ((reachK (b0 :: r) : Int) + 1) ((r.length : Int) + 1), true⟩ := by
        unfold partF; rw [if_neg h0, if_pos (by simpa using h1)]; simp
      have HP := hide hp
      generalize hkk : reachK (b0 :: r) = k at *
      clear hp h0 hkk
      by_cases hmn : k ≤ r.length
      · have hmin : min ((k : Int) + 1) ((r.length : Int) + 1) = k + 1 := by omega
        have HM := hide hmin
        have hm2 : (k : Int) ≤ r.length := by omega
        clear hmin
        go_enter Try.func43, Try.ntmps43
        go_wp2_with (go_at_call 47; refine HR.out.mono ?_; rintro e w' ⟨rfl, rfl⟩)
        refine bodyPost_ret (v := .agg #[.int .i32 65533, .int .i64 pos, .int .i64 k, .int .i64 (pos + ((k : Int) + 1)), .bool true]) (by simp [results, Try.results43, go_sem]) rfl ⟨?_, (Below.refl _ _).alloc (Nat.le_refl _) _⟩
        rw [HP.out, HM.out]; rfl
      · have hmin : min ((k : Int) + 1) ((r.length : Int) + 1) = (r.length : Int) + 1 := by omega
        have HM := hide hmin
        have hm2 : (r.length : Int) < k := by omega
        clear hmin
        go_enter Try.func43, Try.ntmps43
        go_wp2_with (go_at_call 47; refine HR.out.mono ?_; rintro e w' ⟨rfl, rfl⟩)
        refine bodyPost_ret (v := .agg #[.int .i32 65533, .int .i64 pos, .int .i64 k, .int .i64 (pos + ((r.length : Int) + 1)), .bool true]) (by simp [results, Try.results43, go_sem]) rfl ⟨?_, (Below.refl _ _).alloc (Nat.le_refl _) _⟩
        rw [HP.out, HM.out]; rfl
    · have hp : partF (b0 :: r) pos = ⟨wholeF ((b0 :: r).take (reachK (b0 :: r))), pos, reachK (b0 :: r), pos + reachK (b0 :: r), false⟩ := by
        unfold partF; rw [if_neg h0, if_neg (by simpa using h1)]
      obtain ⟨t, ht1, ht2, ht3, ht4, ht5, ht6⟩ := HW.out h0 h1
      rw [ht1] at hp
      have HP := hide hp
      have hxf := hxa.front (k := reachK (b0 :: r)) (by rw [List.length_cons]; omega)
      rw [ht1] at hxf
      have hV := value_ok _ _ _ b0 t _ hxf ht3 ht2.symm ht4
      have hac := accF_bound b0 t hb0 ht3 ht2.symm ht4 t.length (Nat.le_refl _)
      have HV := hide hV
      generalize hkk : reachK (b0 :: r) = k at *
      clear hp h0 hkk hV ht1 ht2 ht3 ht4 ht5 ht6 hxf hac
      have h1' : leadF b0 ≤ (k : Int) := by omega
      have hkc : (k : Int) ≤ c := by simp at hc1; omega
      clear h1
      go_enter Try.func43, Try.ntmps43
      go_wp2_with (first | (go_at_call 47; refine HR.out.mono ?_; rintro e w' ⟨rfl, rfl⟩) | (go_at_call 48; refine HV.out.mono ?_; rintro e w' ⟨rfl, rfl⟩))
      refine bodyPost_ret (v := .agg #[.int .i32 (wholeF (b0 :: t)), .int .i64 pos, .int .i64 k, .int .i64 (pos + k), .bool false]) (by simp [results, Try.results43, go_sem]) rfl ⟨?_, (Below.refl _ _).alloc (Nat.le_refl _) _⟩
      rw [HP.out]; rfl

/-- The same, cell by cell. -/
theorem part_at (So Si : Nat → Prop) (x : Value) (b0 : Int) (r : List Int) (pos : Int) (w : World) (hx : Slc (Rep.int .u8) So Si w x (b0 :: r)) (hlen : r.length ≤ 1000000) (hp0 : 0 ≤ pos) (hp1 : pos ≤ 1000000) (g : Got) (hg : partF (b0 :: r) pos = g) :
    Calls Try.prog 43 #[x, .int .i64 pos] w fun e w' => e = .returned (.agg #[.int .i32 g.r, .int .i64 g.at_, .int .i64 g.len, .int .i64 g.known, .bool g.bad]) ∧ Below w.heap.size w w' := by
  subst hg
  exact part_ok So Si x b0 r pos w hx hlen hp0 hp1

theorem got_info : (Try.prog.info? 35).map (fun i => (i.zero, i.size, i.bytes)) = some (some (.agg #[.int .i32 0, .int .i64 0, .int .i64 0, .int .i64 0, .bool false]), RGot.sz, 40) := by kernel_rfl

theorem drop_cons {l : List Int} {k : Nat} (h : k < l.length) : ∃ b0 r, l.drop k = b0 :: r ∧ r.length + 1 = l.length - k :=
  ⟨l[k], l.drop (k + 1), List.drop_eq_getElem_cons h, by simp; omega⟩

theorem all_len : ∀ (n : Nat) (b : List Int) (pos : Int), (allN n b pos).length ≤ n
  | 0, _, _ => by simp [allN]
  | n + 1, b, pos => by
    simp only [allN]
    split
    · simp
    · simp; exact all_len n _ _

set_option maxHeartbeats 1000000 in
theorem All_ok (So Si : Nat → Prop) (x : Value) (l : List Int) (w : World) (hx : Slc (Rep.int .u8) So Si w x l) (hlen : l.length ≤ 100000) :
    Calls Try.prog 26 #[x] w fun e w' => ∃ v, e = .returned v ∧ Own RGot 35 [] w.heap.size w' v (allF l) ∧ Below w.heap.size w w' := by
  obtain ⟨A, c, rfl, hc1, hc2, _⟩ := hx.open_
  go_enter Try.func26, Try.ntmps26
  go_wp2
  go_loopw [3, 4] (fun out i wr => ∃ (k : Nat) (done : List Got), k ≤ l.length ∧ i = .int .i64 k ∧ done.length ≤ k ∧ allF l = done ++ allN (l.drop k).length (l.drop k) k ∧ Own RGot 35 [] w.heap.size wr out done ∧ Below w.heap.size w wr)
    (fun _ i _ => l.length - (intOf i).toNat)
  case atStart => exact ⟨0, [], Nat.zero_le _, rfl, by simp, by simp [allF], Own.nil_ _ _ _ _ _ (by simp), Below.refl _ _⟩
  case round =>
    obtain ⟨k, done, hk, rfl, hdl, hall, hown, hbel⟩ := hrel
    have hsz := hbel.size
    have HALL := hide hall
    clear hall
    by_cases hlt : k < l.length
    · obtain ⟨b0, r, hdr, hrl⟩ := drop_cons hlt
      have hxk := (hx.ints_keep (Keep.below (S := So) hbel)).cut (k := k) (by omega)
      rw [hdr] at hxk
      have hrl2 : ((l.length - k : Nat) : Int) = (r.length : Int) + 1 := by omega
      have hck : ¬ c = k := by omega
      have hpl := partLen_le b0 r
      have hpp := partLen_pos (b0 :: r)
      have hpq := part_len (b0 :: r) k
      have hac := all_cons b0 r k
      have HAC := hide hac
      have HDR := hide hdr
      have hdd : (l.drop k).drop (partLen (b0 :: r)) = l.drop (k + partLen (b0 :: r)) := by rw [List.drop_drop]
      rw [hdr] at hdd
      have HDD := hide hdd
      rw [if_neg hck, show k * (Rep.int .u8).sz = k from Nat.mul_one k] at hxk
      clear hac hdr hdd
      go_wp2_with fail
      obtain ⟨g, hpg⟩ : ∃ g, partF (b0 :: r) ↑k = g := ⟨_, rfl⟩
      rw [hpg] at hpq
      refine (part_at _ _ _ b0 r _ _ hxk (by omega) (by omega) (by omega) g hpg).mono ?_
      rintro e w1 ⟨rfl, hb1⟩
      have hown1 := hown.below hb1
      have hsz1 := hb1.size
      have hgl := hpq.1
      have hga := hpq.2
      have hown2 := (hown1.alloc (.cells #[.int .i32 g.r, .int .i64 g.at_, .int .i64 g.len, .int .i64 g.known, .bool g.bad] 35)).alloc (.cells #[.int .i32 g.r, .int .i64 g.at_, .int .i64 g.len, .int .i64 g.known, .bool g.bad] 35)
      have hone : Slc RGot (fun _ => True) (fun _ => False) ((w1.alloc (.cells #[.int .i32 g.r, .int .i64 g.at_, .int .i64 g.len, .int .i64 g.known, .bool g.bad] 35)).alloc (.cells #[.int .i32 g.r, .int .i64 g.at_, .int .i64 g.len, .int .i64 g.known, .bool g.bad] 35)) (.slice (some ⟨w1.heap.size + 1, 0, none⟩) 1 1) [g] :=
        Slc.one_flat 35 (w1.alloc (.cells #[.int .i32 g.r, .int .i64 g.at_, .int .i64 g.len, .int .i64 g.known, .bool g.bad] 35)) (w1.heap.size + 1) (by simp) g _ rfl
      have hbl : 1 ≤ g.len ∧ g.len ≤ 4 := by omega
      have HGL := hide hgl
      have HPG := hide hpg
      clear hgl hpq hga hpg
      have hb3 : Blk ((w1.alloc (.cells #[.int .i32 g.r, .int .i64 g.at_, .int .i64 g.len, .int .i64 g.known, .bool g.bad] 35)).alloc (.cells #[.int .i32 g.r, .int .i64 g.at_, .int .i64 g.len, .int .i64 g.known, .bool g.bad] 35)) w1.heap.size 35 #[.int .i32 g.r, .int .i64 g.at_, .int .i64 g.len, .int .i64 g.known, .bool g.bad] := (Blk.new w1 _ _).alloc _
      have hne : ∀ q, u3.ownBlock = some q → q < w1.heap.size := fun q hq => by have := (hown.lt_ q hq).2; omega
      have HNE := hide hne
      clear hne
      go_wp2_with (at_builtin; refine wpList_appf rfl (.tmp 15) (.tmp 17) 32 rfl RGot RGot.flat 35 w.heap.size 40 _ Try.underlying32 got_info rfl (by decide) (by decide) _ _ rfl hown2 _ _ _ _ rfl hone (by simp; omega) (by simp; omega) ?_; intro v3 w3 hv3 hst3 hgr3; have hc3 := (hb3.grown hgr3 (fun e => by have := HNE.out _ e.symm; omega)).cell 2; simp only [List.getElem?_toArray, List.getElem?_cons_succ, List.getElem?_cons_zero] at hc3)
      go_roundw
      case rel =>
        have hst : Step w.heap.size [35] w1 w3 := ((Step.alloc1 _ _ w1 _).alloc _).trans hst3
        refine ⟨k + partLen (b0 :: r), done ++ [g], by omega, int_eq (by rw [HGL.out]; simp), by simp; omega, ?_, hv3, (hbel.trans (hb1.mono hsz)).trans ((hst.below (by omega)))⟩
        have h1 := HALL.out
        rw [HDR.out, HAC.out, HPG.out, HDD.out] at h1
        rw [h1]
        simp
      case measure => simp [intOf]; omega
    · have e : l.drop k = [] := List.drop_eq_nil_of_le (by omega)
      have hres : allF l = done := by rw [HALL.out, e]; simp [allN]
      have HRES := hide hres
      clear e hres
      go_wp2
      go_ret
      rw [HRES.out]
      exact ⟨_, rfl, hown, hbel⟩
end Go.Proofs.Ytfcjkmiaibakiaa
