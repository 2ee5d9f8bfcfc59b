import Derived.Test.YtdjpdllehhecpaaGreatDoorQ28
import Derived.Test.YtdjpdllehhecpaaGreatDoorQ19
import Derived.Test.YtdjpdllehhecpaaGreatDoorQ03
import Derived.Test.YtdjpdllehhecpaaGreatDoorQ13
import Derived.Test.YtdjpdllehhecpaaGreatDoorQ02
open List renaming getElem?_toArray → zA, getElem?_cons_succ → zB, getElem?_cons_zero → zC, setIfInBounds_toArray → zD, set_cons_zero → zE, set_cons_succ → zF
namespace Go.Proofs.YtdjpdllehhecpaaGreatDoor
open Go.RowKit
set_option linter.unusedVariables false
set_option linter.unusedSimpArgs false
def silF (r : Int) : Bool := (decide (0 ≤ r) && decide (r ≤ 31)) || (decide (127 ≤ r) && decide (r ≤ 159))
theorem sil_case (r : Int) : r < 0 ∨ (0 ≤ r ∧ r ≤ 31) ∨ (32 ≤ r ∧ r ≤ 126) ∨ (127 ≤ r ∧ r ≤ 159) ∨ 160 ≤ r := by omega
set_option maxHeartbeats 1000000 in
theorem rsil_ok (r : Int) (w : World) :
    Calls Tryz.prog 18 #[.int .i32 r] w fun e w' => e = .returned (.bool (silF r)) ∧ w = w' := by
  rcases sil_case r with h | ⟨h, h2⟩ | ⟨h, h2⟩ | ⟨h, h2⟩ | h
  · have d0 : decide (0 ≤ r) = false := decide_eq_false (by omega)
    have d2 : decide (127 ≤ r) = false := decide_eq_false (by omega)
    have hv : silF r = false := by unfold silF; rw [d0, d2]; rfl
    rw [hv]
    clear hv
    go_enter Tryz.func18, Tryz.ntmps18
    go_wp2
    go_ret
    exact ⟨by first | rfl | (simp <;> omega), rfl⟩
  · have hv : silF r = true := by unfold silF; rw [decide_eq_true h, decide_eq_true h2]; rfl
    rw [hv]
    clear hv
    go_enter Tryz.func18, Tryz.ntmps18
    go_wp2
    go_ret
    exact ⟨by first | rfl | (simp <;> omega), rfl⟩
  · have d0 : (0 : Int) ≤ r := by omega
    have d1 : decide (r ≤ 31) = false := decide_eq_false (by omega)
    have d2 : decide (127 ≤ r) = false := decide_eq_false (by omega)
    have hv : silF r = false := by unfold silF; rw [d1, d2]; simp
    rw [hv]
    clear hv
    go_enter Tryz.func18, Tryz.ntmps18
    go_wp2
    go_ret
    exact ⟨by first | rfl | (simp <;> omega), rfl⟩
  · have d0 : (0 : Int) ≤ r := by omega
    have d1 : decide (r ≤ 31) = false := decide_eq_false (by omega)
    have hv : silF r = true := by unfold silF; rw [decide_eq_true h, decide_eq_true h2]; simp
    rw [hv]
    clear hv
    go_enter Tryz.func18, Tryz.ntmps18
    go_wp2
    go_ret
    exact ⟨by first | rfl | (simp <;> omega), rfl⟩
  · have d0 : (0 : Int) ≤ r := by omega
    have d1 : decide (r ≤ 31) = false := decide_eq_false (by omega)
    have d2 : (127 : Int) ≤ r := by omega
    have d3 : decide (r ≤ 159) = false := decide_eq_false (by omega)
    have hv : silF r = false := by unfold silF; rw [d1, d3]; simp
    rw [hv]
    clear hv
    go_enter Tryz.func18, Tryz.ntmps18
    go_wp2
    go_ret
    exact ⟨by first | rfl | (simp <;> omega), rfl⟩
set_option maxHeartbeats 2000000 in
theorem rProps_ok (So Si : Nat → Prop) (x : Value) (l : List Int) (w : World) (hx : Slc (Rep.int .i32) So Si w x l) (hlen : l.length ≤ 100000) :
    Calls Tryz.prog 73 #[x] w fun e w' => ∃ v, e = .returned v ∧ Own RProp 108 [] w.heap.size w' v (l.map propF) ∧ Below w.heap.size w w' := by
  have hwf := hx.ints_wf
  obtain ⟨A, c, rfl, hc1, hc2, _⟩ := hx.open_
  go_enter Tryz.func73, Tryz.ntmps73
  go_wp2
  go_loopw [3, 4] (fun out i wr => ∃ (k : Nat), k ≤ l.length ∧ i = .int .i64 k ∧ Own RProp 108 [] w.heap.size wr out ((l.take k).map propF) ∧ Below w.heap.size w wr)
    (fun _ i _ => l.length - (intOf i).toNat)
  case atStart => exact ⟨0, Nat.zero_le _, rfl, Own.nil_ _ _ _ _ _ (by simp), Below.refl _ _⟩
  case round =>
    obtain ⟨k, hk, rfl, hown, hbel⟩ := hrel
    have hsz := hbel.size
    by_cases hlt : k < l.length
    · have hxk := hx.ints_keep (Keep.below (S := So) hbel)
      obtain ⟨b, off, hA, _, q0, _⟩ := ints_at hxk.slb hlt
      subst hA
      have hr := i32_wf (hwf _ (List.getElem_mem hlt))
      have HT := hide (show (l.take (k + 1)).map propF = (l.take k).map propF ++ [propF l[k]] by rw [List.take_succ_eq_append_getElem hlt]; simp only [List.map_append, List.map_cons, List.map_nil])
      obtain ⟨r, hrr⟩ : ∃ r, l[k] = r := ⟨_, rfl⟩
      rw [hrr] at q0 hr HT
      have HO := hide (fun w => (rOf13_ok r hr.1 hr.2 w).mono (R' := fun e w' => e = .returned (.agg #[.int .i64 (propF r).brk, .bool (propF r).pict, .int .i64 (propF r).conj, .int .i64 (propF r).east]) ∧ Below w.heap.size w w') (fun _ _ h => h))
      have hkl : (k : Int) < l.length := by omega
      clear hrr
      go_wp2_with fail
      refine (HO.out _).mono ?_
      rintro e w1 ⟨rfl, hb1⟩
      have hown1 := hown.below hb1
      have hsz1 := hb1.size
      have hown2 := hown1.alloc (.cells #[.int .i64 (propF r).brk, .bool (propF r).pict, .int .i64 (propF r).conj, .int .i64 (propF r).east] 108)
      have hone : Slc RProp (fun _ => True) (fun _ => False) (w1.alloc (.cells #[.int .i64 (propF r).brk, .bool (propF r).pict, .int .i64 (propF r).conj, .int .i64 (propF r).east] 108)) (.slice (some ⟨w1.heap.size, 0, none⟩) 1 1) [propF r] :=
        Slc.one_flat 108 w1 w1.heap.size rfl (propF r) _ rfl
      have htk : ((l.take k).map propF).length ≤ 100000 := by simp; omega
      go_wp2_with (at_builtin; refine wpList_appf rfl (.tmp 11) (.tmp 17) 141 rfl RProp RProp.flat 108 w.heap.size 32 _ Tryz.underlying141 prop_info rfl (by decide) (by decide) _ _ rfl hown2 _ _ _ _ rfl hone (by simp at htk ⊢; omega) (by simp; omega) ?_; intro v3 w3 hv3 hst3 hgr3)
      go_roundw
      case rel =>
        refine ⟨k + 1, by omega, by go_num, by rw [HT.out]; exact hv3, (hbel.trans (hb1.mono hsz)).trans (((Step.alloc1 _ _ w1 _).trans hst3).below (by omega))⟩
      case measure => simp [intOf]; omega
    · obtain rfl : k = l.length := by omega
      rw [List.take_length] at hown
      go_wp2
      go_ret
      exact ⟨_, rfl, hown, hbel⟩
def jnF (ps : List PropV) (i : Nat) : Bool :=
  match ps[i]? with
  | some p => rJoins p (ahead ps i)
  | none => false
def stN (ps : List PropV) (k : Nat) : List Nat := (List.range k).filter fun i => !jnF ps i
theorem stN_succ (ps : List PropV) (k : Nat) : stN ps (k + 1) = if jnF ps k = true then stN ps k else stN ps k ++ [k] := by
  unfold stN
  rw [List.range_succ, List.filter_append]
  cases h : jnF ps k <;> simp [h]
theorem stN_lt (ps : List PropV) (k : Nat) : ∀ s ∈ stN ps k, s < k := fun s hs => List.mem_range.1 (List.mem_filter.1 hs).1
theorem stN_pw (ps : List PropV) : ∀ k : Nat, (stN ps k).Pairwise (· < ·)
  | 0 => List.Pairwise.nil
  | k + 1 => by
    rw [stN_succ]
    split
    · exact stN_pw ps k
    · exact List.pairwise_append.2 ⟨stN_pw ps k, List.pairwise_singleton _ _, fun a ha b hb => by rw [List.mem_singleton] at hb; rw [hb]; exact stN_lt ps k a ha⟩
theorem stN_le (ps : List PropV) (k : Nat) : (stN ps k).length ≤ k := by
  unfold stN
  exact Nat.le_trans (List.length_filter_le _ _) (by simp)
def difN : List Nat → List Nat
  | a :: b :: t => (b - a) :: difN (b :: t)
  | _ => []
theorem difN_snoc : ∀ (S : List Nat) (a b : Nat), difN (S ++ [a, b]) = difN (S ++ [a]) ++ [b - a]
  | [], a, b => rfl
  | [x], a, b => rfl
  | x :: y :: S, a, b => by
    show (y - x) :: difN ((y :: S) ++ [a, b]) = ((y - x) :: difN ((y :: S) ++ [a])) ++ [b - a]
    rw [difN_snoc (y :: S) a b]; rfl
theorem seg_ahead {P : Int → PropV} {l : List Int} {j : Nat} (h : j < l.length) : segR (ahead (l.map P) (j + 1)) = segN (segR (ahead (l.map P) j)) (P l[j]) := by
  rw [ahead_succ (by simpa using h)]
  simp [segR]
theorem jn_is {P : Int → PropV} {l : List Int} {j : Nat} (h : j < l.length) : jnF (l.map P) j = joinsF (segR (ahead (l.map P) j)) (P l[j]) := by
  unfold jnF
  rw [List.getElem?_map, List.getElem?_eq_getElem h]
  exact joins_is _ _
theorem st_clus (P : Int → PropV) (l : List Int) : ∀ j : Nat, j < l.length → ∃ S s, stN (l.map P) (j + 1) = S ++ [s] ∧ s ≤ j ∧ (clL P cl0 (l.take (j + 1))).cur.length = j + 1 - s ∧ (clL P cl0 (l.take (j + 1))).done.map List.length = difN (S ++ [s]) ∧ (clL P cl0 (l.take (j + 1))).seg = segR (ahead (l.map P) (j + 1))
  | 0, h => by
    refine ⟨[], 0, ?_, Nat.le_refl _, ?_⟩
    · rw [stN_succ, jn_is h]
      rw [if_neg (by simp [ahead, segR, seg0, joinsF])]
      rfl
    · rw [List.take_succ_eq_append_getElem h, seg_ahead h]
      simp [clL, clN, cl0, difN, ahead, segR]
  | j + 1, h => by
    obtain ⟨S, s, h1, h2, h3, h4, h5⟩ := st_clus P l j (by omega)
    have hne : (clL P cl0 (l.take (j + 1))).cur ≠ [] := by intro e; rw [e] at h3; simp at h3; omega
    rw [stN_succ, jn_is h, ← h5, List.take_succ_eq_append_getElem h, clL_snoc, seg_ahead h, ← h5]
    obtain ⟨st, hst⟩ : ∃ st, clL P cl0 (l.take (j + 1)) = st := ⟨_, rfl⟩
    rw [hst] at h3 h4 h5 hne ⊢
    cases hj : joinsF st.seg (P l[j + 1]) with
    | true =>
      refine ⟨S, s, by rw [if_pos rfl]; exact h1, by omega, ?_, ?_, ?_⟩
      · unfold clN; rw [if_pos (.inl hj)]; simp; omega
      · unfold clN; rw [if_pos (.inl hj)]; exact h4
      · unfold clN; rw [if_pos (.inl hj)]
    | false =>
      have hn : ¬ (joinsF st.seg (P l[j + 1]) = true ∨ st.cur = []) := by rintro (h | h); rw [hj] at h; cases h; exact hne h
      refine ⟨S ++ [s], j + 1, by rw [if_neg (by simp), h1], Nat.le_refl _, ?_, ?_, ?_⟩
      · unfold clN; rw [if_neg hn]; simp
      · unfold clN; rw [if_neg hn]
        simp only [List.map_append, List.map_cons, List.map_nil]
        rw [h4, h3, List.append_assoc]
        exact (difN_snoc S s (j + 1)).symm
      · unfold clN; rw [if_neg hn]
theorem dif_clus (P : Int → PropV) (l : List Int) : difN (stN (l.map P) l.length ++ [l.length]) = (clusF' P l).map List.length := by
  rw [← cl_clus]
  cases hl : l.length with
  | zero =>
    have : l = [] := List.eq_nil_of_length_eq_zero hl
    subst this; rfl
  | succ j =>
    obtain ⟨S, s, h1, h2, h3, h4, h5⟩ := st_clus P l j (by omega)
    rw [show l.take (j + 1) = l from List.take_of_length_le (by omega)] at h3 h4
    have hne : (clL P cl0 l).cur ≠ [] := by intro e; rw [e] at h3; simp at h3; omega
    unfold clusOf
    rw [if_neg hne, h1, List.map_append, h4, List.append_assoc]
    simp only [List.map_cons, List.map_nil, h3]
    exact difN_snoc S s (j + 1)
theorem i64_info : (Tryz.prog.info? 3).map (fun i => (i.zero, i.size, i.bytes)) = some (some (.int .i64 0), 1, 8) := by kernel_rfl
theorem own_i64 (w : World) (l : List Int) (h : ∀ n ∈ l, (Lit.int .i64 n).wf = true) (base m n : Nat) (hb : base ≤ m) (hm : m = w.heap.size) (hn : l.length = n) (hx : n ≤ maxLen) : Own (Rep.int .i64) 3 [] base (w.alloc (.cells (l.map (Value.int .i64)).toArray 3)) (.slice (some ⟨m, 0, none⟩) n n) l := by
  subst hm
  exact Own.lit (by simp) (els_ints _ _ _ _ h) hb hn hx
theorem rProps_brk (l : List Int) : ∀ p ∈ l.map propF, 0 ≤ p.brk ∧ p.brk ≤ 13 := by
  intro p hp
  obtain ⟨r, _, rfl⟩ := List.mem_map.1 hp
  exact (propF_ok r).1
set_option maxHeartbeats 2000000 in
theorem rStarts_ok (So Si : Nat → Prop) (x : Value) (l : List Int) (w : World) (hx : Slc (Rep.int .i32) So Si w x l) (hlen : l.length ≤ 100000) :
    Calls Tryz.prog 44 #[x] w fun e w' => ∃ v, e = .returned v ∧ Own (Rep.int .i64) 3 [] w.heap.size w' v ((stN (l.map propF) l.length).map Int.ofNat) ∧ Below w.heap.size w w' := by
  have HP := hide (rProps_ok So Si x l w hx hlen)
  obtain ⟨A, c, rfl, hc1, hc2, _⟩ := hx.open_
  obtain ⟨ps, hps⟩ : ∃ ps, l.map propF = ps := ⟨_, rfl⟩
  have hpl : ps.length = l.length := by rw [← hps]; simp
  have hbk := rProps_brk l
  rw [hps] at HP hbk ⊢
  rw [show stN ps l.length = stN ps ps.length from by rw [hpl]]
  have hlen2 : ps.length ≤ 100000 := by omega
  have HBK := hide hbk
  clear hps hbk hpl
  go_enter Tryz.func44, Tryz.ntmps44
  go_wp2_with fail
  refine HP.out.mono ?_
  rintro e w1 ⟨v1, rfl, hv1, hb1⟩
  obtain ⟨A1, c1, rfl, hd1, hd2, _⟩ := hv1.slc.open_
  have hsz1 := hb1.size
  have HV := hide hv1
  clear hv1
  go_wp2
  go_loopw [3, 5] (fun out i wr => ∃ (k : Nat), k ≤ ps.length ∧ i = .int .i64 k ∧ Own (Rep.int .i64) 3 [] w1.heap.size wr out ((stN ps k).map Int.ofNat) ∧ Below w1.heap.size w1 wr)
    (fun _ i _ => ps.length - (intOf i).toNat)
  case atStart => exact ⟨0, Nat.zero_le _, rfl, Own.nil_ _ _ _ _ _ (by simp), Below.refl _ _⟩
  case round =>
    obtain ⟨k, hk, rfl, hown, hbel⟩ := hrel
    have hsz := hbel.size
    by_cases hlt : k < ps.length
    · have HJ := hide (rJoins_ok _ _ _ ps k wr (HV.out.below hbel).slc hlt hlen2 HBK.out)
      have HS := hide (stN_succ ps k)
      have HJN : Hid (jnF ps k = rJoins ps[k] (ahead ps k)) := hide (by unfold jnF; rw [List.getElem?_eq_getElem hlt])
      obtain ⟨jb, hjb⟩ : ∃ jb, rJoins ps[k] (ahead ps k) = jb := ⟨_, rfl⟩
      rw [hjb] at HJ HJN
      have hkl : (k : Int) < ps.length := by omega
      clear hjb
      cases jb with
      | true =>
        have HT : Hid (stN ps (k + 1) = stN ps k) := hide (by rw [HS.out, HJN.out, if_pos rfl])
        go_wp2_with fail
        refine HJ.out.mono ?_
        rintro e w2 ⟨rfl, hb2⟩
        have hown2 := hown.below hb2
        go_wp2
        go_roundw
        case rel => exact ⟨k + 1, by omega, by go_num, by rw [HT.out]; exact hown2, hbel.trans (hb2.mono hsz)⟩
        case measure => simp [intOf]; omega
      | false =>
        have HT : Hid (stN ps (k + 1) = stN ps k ++ [k]) := hide (by rw [HS.out, HJN.out, if_neg (by simp)])
        have hsl := stN_le ps k
        go_wp2_with fail
        refine HJ.out.mono ?_
        rintro e w2 ⟨rfl, hb2⟩
        have hsz2 := hb2.size
        have hown2 := (hown.below hb2).alloc (.cells #[.int .i64 k] 3)
        have hone := (own_i64 w2 [(k : Int)] (by intro n hn; rw [List.mem_singleton] at hn; subst hn; exact wf_i64 (by omega) (by omega)) 0 w2.heap.size 1 (Nat.zero_le _) rfl rfl (by simp [maxLen])).islc
        go_wp2_with (at_builtin; refine wpList_appi rfl (.tmp 18) (.tmp 20) 101 rfl .i64 3 w1.heap.size 8 Tryz.underlying101 i64_info (by decide) _ _ rfl hown2 _ _ _ _ rfl hone (by simp; omega) (by simp; omega) ?_; intro v3 w3 hv3 hst3)
        go_roundw
        case rel => exact ⟨k + 1, by omega, by go_num, by rw [HT.out, List.map_append]; exact hv3, hbel.trans ((hb2.mono hsz).trans (((Step.alloc1 _ [3] w2 _).trans hst3).below (by omega)))⟩
        case measure => simp [intOf]; omega
    · obtain rfl : k = ps.length := by omega
      go_wp2
      go_ret
      exact ⟨_, rfl, hown.ints_base hsz1 (by simp), hb1.trans (hbel.mono hsz1)⟩
def RHead : Rep Nat where
  sz := 1
  E := fun _ _ vs n => ∃ A c, vs = [.slice A n c] ∧ n ≤ 100000
  len := by rintro _ _ _ _ ⟨A, c, rfl, _⟩; rfl
  one := by rintro _ _ _ _ ⟨A, c, rfl, _⟩ u hu; simp at hu; subst hu; rfl
  mono := fun _ h => h
theorem RHead.flat : Flat RHead := fun _ _ _ _ _ _ h => h
theorem head_info : (Tryz.prog.info? 24).map (fun i => (i.zero, i.size, i.bytes)) = some (some (.slice none 0 0), RHead.sz, 24) := by kernel_rfl
theorem difN_take (A : List Nat) : ∀ (k : Nat) (h : k + 1 < A.length), difN (A.take (k + 2)) = difN (A.take (k + 1)) ++ [A[k + 1] - A[k]] := fun k h => by
  rw [show k + 2 = (k + 1) + 1 from rfl, List.take_succ_eq_append_getElem h, List.take_succ_eq_append_getElem (by omega : k < A.length), List.append_assoc]
  exact difN_snoc _ _ _
theorem slc_mid0 {So Si : Nat → Prop} {w : World} {A : Option Addr} {c : Nat} {l : List Int} (h : Slc (Rep.int .i32) So Si w (.slice A l.length c) l) {a b : Nat} (hab : a < b) (hb : b ≤ l.length) : Slc (Rep.int .i32) So Si w (.slice (A.map fun x => x.add a) (b - a) (c - a)) ((l.drop a).take (b - a)) := by
  obtain ⟨_, _, he, hlc, _, _⟩ := h.open_
  injection he with e1 e2 e3
  subst e3
  have h1 := h.cut (k := a) (by omega)
  have hca : ¬ c = a := by omega
  rw [if_neg hca, show a * (Rep.int .i32).sz = a from Nat.mul_one a] at h1
  have h2 := (show Slc (Rep.int .i32) So Si w (.slice (A.map fun x => x.add a) (l.drop a).length (c - a)) (l.drop a) from by rw [List.length_drop]; exact h1).front (k := b - a) (by rw [List.length_drop]; omega)
  exact h2
theorem difN_len (S : List Nat) (k : Nat) : (difN (S.take k)).length ≤ k := by
  have : ∀ T : List Nat, (difN T).length ≤ T.length := by
    intro T
    induction T with
    | nil => exact Nat.le_refl _
    | cons a t ih =>
      cases t with
      | nil => simp [difN]
      | cons b t => simp only [difN, List.length_cons] at ih ⊢; omega
  refine Nat.le_trans (this _) ?_
  rw [List.length_take]; omega
set_option maxHeartbeats 4000000 in
theorem rClus_ok (So Si : Nat → Prop) (x : Value) (l : List Int) (w : World) (hx : Slc (Rep.int .i32) So Si w x l) (hlen : l.length ≤ 10000) :
    Calls Tryz.prog 19 #[x] w fun e w' => ∃ v, e = .returned v ∧ Own RHead 24 [] w.heap.size w' v (difN (stN (l.map propF) l.length ++ [l.length])) ∧ Below w.heap.size w w' := by
  have HS := hide (rStarts_ok So Si x l w hx (by omega))
  obtain ⟨A, c, rfl, hc1, hc2, _⟩ := hx.open_
  obtain ⟨S, hS⟩ : ∃ S, stN (l.map propF) l.length ++ [l.length] = S := ⟨_, rfl⟩
  have hSl : S.length ≤ l.length + 1 := by rw [← hS]; have := stN_le (l.map propF) l.length; simp; omega
  have hSm : S.map Int.ofNat = (stN (l.map propF) l.length).map Int.ofNat ++ [(l.length : Int)] := by rw [← hS]; simp
  have hSp : S.Pairwise (· < ·) := by
    rw [← hS]
    exact List.pairwise_append.2 ⟨stN_pw _ _, List.pairwise_singleton _ _, fun a ha b hb => by rw [List.mem_singleton] at hb; rw [hb]; exact stN_lt _ _ a ha⟩
  have hSb : ∀ s ∈ S, s ≤ l.length := by
    rw [← hS]
    intro s hs
    rcases List.mem_append.1 hs with hs | hs
    · exact Nat.le_of_lt (stN_lt _ _ s hs)
    · rw [List.mem_singleton] at hs; omega
  have hsl := stN_le (l.map propF) l.length
  obtain ⟨T, hT⟩ : ∃ T, stN (l.map propF) l.length = T := ⟨_, rfl⟩
  rw [hT] at HS hSm hsl
  rw [hS]
  have HSM := hide hSm
  have HSP := hide hSp
  have HSB := hide hSb
  clear hS hT hSm hSp hSb
  go_enter Tryz.func19, Tryz.ntmps19
  go_wp2_with fail
  refine HS.out.mono ?_
  rintro e w0 ⟨v0, rfl, hv0, hb0⟩
  have hsz0 := hb0.size
  have hv00 := hv0.alloc (.cells #[.int .i64 l.length] 3)
  have hone := (own_i64 w0 [(l.length : Int)] (by intro n hn; rw [List.mem_singleton] at hn; subst hn; exact wf_i64 (by omega) (by omega)) 0 w0.heap.size 1 (Nat.zero_le _) rfl rfl (by simp [maxLen])).islc
  go_wp2_with (at_builtin; refine wpList_appi rfl (.tmp 7) (.tmp 10) 101 rfl .i64 3 w.heap.size 8 Tryz.underlying101 i64_info (by decide) _ _ rfl hv00 _ _ _ _ rfl hone (by simp; omega) (by simp; omega) ?_; intro v1 w1 hv1 hst1; rw [← HSM.out] at hv1; have hbw : Below w.heap.size w w1 := hb0.trans (((Step.alloc1 _ [3] w0 _).trans hst1).below hsz0); obtain ⟨A1, c1, rfl, hd1, hd2, hB1⟩ := hv1.islc.open_)
  rw [List.length_map] at hd1
  have HAT := hide (fun k (hk : k < S.length) => ints_at hB1 (j := k) (by simpa using hk))
  have hszw1 := hbw.size
  have HX1 := hide ((hx.ints_keep (So' := So) (Keep.below (S := So) hbw)))
  clear hB1 hv1 hst1 hone hv00 hv0 hx
  go_loopw [3, 5] (fun out i wr => ∃ (k : Nat), k < S.length ∧ i = .int .i64 k ∧ Own RHead 24 [] w1.heap.size wr out (difN (S.take (k + 1))) ∧ Below w1.heap.size w1 wr)
    (fun _ i _ => S.length - (intOf i).toNat)
  case atStart =>
    have h0 : 0 < S.length := by
      have := congrArg List.length HSM.out
      simp at this
      omega
    refine ⟨0, h0, rfl, ?_, Below.refl _ _⟩
    have : difN (S.take 1) = [] := by
      cases S with
      | nil => rfl
      | cons a t => rfl
    rw [this]
    exact Own.nil_ _ _ _ _ _ (by simp)
  case round =>
    obtain ⟨k, hk, rfl, hov, hbel⟩ := hrel
    have hsz := hbel.size
    have hszw : w.heap.size ≤ wr.heap.size := by omega
    by_cases hlt : k + 1 < S.length
    · obtain ⟨g, off, hA, _, x0, _⟩ := HAT.out k hk
      obtain ⟨g2, off2, hA2, _, x1, _⟩ := HAT.out (k + 1) hlt
      subst hA
      injection hA2 with hA2
      injection hA2 with e1 e2 e3
      subst e1; subst e2
      have y0 := (hbel.cell (p := ⟨g, off + k, none⟩) (World.block_lt_of_cell? w1 _ x0)).trans x0
      have y1 := (hbel.cell (p := ⟨g, off + (k + 1), none⟩) (World.block_lt_of_cell? w1 _ x1)).trans x1
      have hab := (List.pairwise_iff_getElem.1 HSP.out) k (k + 1) hk hlt (by omega)
      have hbl := HSB.out S[k + 1] (List.getElem_mem _)
      have HD := hide (difN_take S k hlt)
      simp only [List.getElem_map] at y0 y1 x0 x1
      obtain ⟨a, ha⟩ : ∃ a, S[k] = a := ⟨_, rfl⟩
      obtain ⟨b, hb⟩ : ∃ b, S[k + 1] = b := ⟨_, rfl⟩
      rw [ha, hb] at hab HD
      rw [ha] at y0 x0
      rw [hb] at y1 x1 hbl
      have hl1 := difN_len S (k + 1)
      clear ha hb
      change w1.cell? _ = some (.int .i64 (a : Int)) at x0
      change w1.cell? _ = some (.int .i64 (b : Int)) at x1
      change wr.cell? _ = some (.int .i64 (a : Int)) at y0
      change wr.cell? _ = some (.int .i64 (b : Int)) at y1
      have hkl : (k : Int) + 1 < S.length := by omega
      have hkl2 : (k : Int) < S.length := by omega
      have hk0 : (0 : Int) ≤ (k : Int) + 1 := by omega
      have w1k : IntKind.i64.wrap (k : Int) = k := by rw [IntKind.wrap_i64]; omega
      have w2k : IntKind.i64.wrap ((k : Int) + 1) = (k : Int) + 1 := by rw [IntKind.wrap_i64]; omega
      have w4 : ((k : Int) + 1).toNat = k + 1 := by omega
      have wa : IntKind.i64.wrap (a : Int) = a := by rw [IntKind.wrap_i64]; omega
      have wb : IntKind.i64.wrap (b : Int) = b := by rw [IntKind.wrap_i64]; omega
      have hab2 : (a : Int) ≤ b := by omega
      have hbl2 : (b : Int) ≤ c := by omega
      have hca : ¬ c = a := by omega
      have HQ0 := hide y0
      have HQ1 := hide y1
      have hg0 : g < wr.heap.size := World.block_lt_of_cell? wr _ y0
      have HXC := hide (slc_mid0 (HX1.out.ints_keep (So' := So) (Keep.below (S := So) hbel)) hab hbl)
      have HX0 := hide x0
      have HX1' := hide x1
      have HG : Hid (g < w1.heap.size) := hide (World.block_lt_of_cell? w1 _ x0)
      clear x0 x1
      go_upto_region 6 with fail
      refine wp_region_held_drew (S := fun w' => w'.cell? ⟨g, off + k, none⟩ = some (.int .i64 (a : Int)) ∧ w'.cell? ⟨g, off + (k + 1), none⟩ = some (.int .i64 (b : Int))) (by kernel_rfl) (by exact ⟨y0, y1⟩) (fun hHeld => ?_)
      refine wpAnyH_take (i := 0) (oi := ?_) (v := ?_) ?_ (by kernel_rfl) (by kernel_rfl) (by kernel_rfl) ?_ (Or.inl ⟨?_, ?_⟩) (by assumption) ?_
      rotate_left 2
      · (simp only [zA, zB, zC]; rfl)
      rotate_left 1
      · rfl
      · (intro w hSw; obtain ⟨q0, q1⟩ := hSw; go_simp; try with_reducible rfl)
      rotate_left 1
      · exact fun _ _ _ h => h
      try simp only [Act.put, zD, zE, zF]
      refine wpAnyH_take (i := 2) (oi := ?_) (v := ?_) ?_ (by kernel_rfl) (by kernel_rfl) (by kernel_rfl) ?_ (Or.inl ⟨?_, ?_⟩) (by assumption) ?_
      rotate_left 2
      · (simp only [zA, zB, zC]; rfl)
      rotate_left 1
      · rfl
      · (intro w hSw; obtain ⟨q0, q1⟩ := hSw; go_simp; try with_reducible rfl)
      rotate_left 1
      · exact fun _ _ _ h => h
      try simp only [Act.put, zD, zE, zF]
      refine wpAnyH_take (i := 3) (oi := ?_) (v := ?_) ?_ (by kernel_rfl) (by kernel_rfl) (by kernel_rfl) ?_ (Or.inl ⟨?_, ?_⟩) (by assumption) ?_
      rotate_left 2
      · (simp only [zA, zB, zC]; rfl)
      rotate_left 1
      · rfl
      · (intro w hSw; obtain ⟨q0, q1⟩ := hSw; go_simp; try with_reducible rfl)
      rotate_left 1
      · exact fun _ _ _ h => h
      try simp only [Act.put, zD, zE, zF]
      refine wpAnyH_take (i := 4) (oi := ?_) (v := ?_) ?_ (by kernel_rfl) (by kernel_rfl) (by kernel_rfl) ?_ (Or.inl ⟨?_, ?_⟩) (by assumption) ?_
      rotate_left 2
      · (simp only [zA, zB, zC]; rfl)
      rotate_left 1
      · rfl
      · (intro w hSw; obtain ⟨q0, q1⟩ := hSw; go_simp; try with_reducible rfl)
      rotate_left 1
      · exact fun _ _ _ h => h
      try simp only [Act.put, zD, zE, zF]
      refine wpAnyH_take (i := 5) (oi := ?_) (v := ?_) ?_ (by kernel_rfl) (by kernel_rfl) (by kernel_rfl) ?_ (Or.inl ⟨?_, ?_⟩) (by assumption) ?_
      rotate_left 2
      · (simp only [zA, zB, zC]; rfl)
      rotate_left 1
      · rfl
      · (intro w hSw; obtain ⟨q0, q1⟩ := hSw; go_simp; try with_reducible rfl)
      rotate_left 1
      · exact fun _ _ _ h => h
      try simp only [Act.put, zD, zE, zF]
      refine wpAnyH_take (i := 6) (oi := ?_) (v := ?_) ?_ (by kernel_rfl) (by kernel_rfl) (by kernel_rfl) ?_ (Or.inl ⟨?_, ?_⟩) (by assumption) ?_
      rotate_left 2
      · (simp only [zA, zB, zC]; rfl)
      rotate_left 1
      · rfl
      · (intro w hSw; obtain ⟨q0, q1⟩ := hSw; go_simp; try with_reducible rfl)
      rotate_left 1
      · exact fun _ _ _ h => h
      try simp only [Act.put, zD, zE, zF]
      refine wpAnyH_take (i := 7) (oi := ?_) (v := ?_) ?_ (by kernel_rfl) (by kernel_rfl) (by kernel_rfl) ?_ (Or.inl ⟨?_, ?_⟩) (by assumption) ?_
      rotate_left 2
      · (simp only [zA, zB, zC]; rfl)
      rotate_left 1
      · rfl
      · (intro w hSw; obtain ⟨q0, q1⟩ := hSw; go_simp; try with_reducible rfl)
      rotate_left 1
      · exact fun _ _ _ h => h
      try simp only [Act.put, zD, zE, zF]
      refine wpAnyH_take (i := 8) (oi := ?_) (v := ?_) ?_ (by kernel_rfl) (by kernel_rfl) (by kernel_rfl) ?_ (Or.inl ⟨?_, ?_⟩) (by assumption) ?_
      rotate_left 2
      · (simp only [zA, zB, zC]; rfl)
      rotate_left 1
      · rfl
      · (intro w hSw; obtain ⟨q0, q1⟩ := hSw; go_simp; try with_reducible rfl)
      rotate_left 1
      · exact fun _ _ _ h => h
      try simp only [Act.put, zD, zE, zF]
      refine wpAnyH_take (i := 9) (oi := ?_) (v := ?_) ?_ (by kernel_rfl) (by kernel_rfl) (by kernel_rfl) ?_ (Or.inl ⟨?_, ?_⟩) (by assumption) ?_
      rotate_left 2
      · (simp only [zA, zB, zC]; rfl)
      rotate_left 1
      · rfl
      · (intro w hSw; obtain ⟨q0, q1⟩ := hSw; go_simp; try with_reducible rfl)
      rotate_left 1
      · exact fun _ _ _ h => h
      try simp only [Act.put, zD, zE, zF]
      refine wpAnyH_take (i := 10) (oi := ?_) (v := ?_) ?_ (by kernel_rfl) (by kernel_rfl) (by kernel_rfl) ?_ (Or.inl ⟨?_, ?_⟩) (by assumption) ?_
      rotate_left 2
      · (simp only [zA, zB, zC]; rfl)
      rotate_left 1
      · rfl
      · (intro w hSw; obtain ⟨q0, q1⟩ := hSw; go_simp; try with_reducible rfl)
      rotate_left 1
      · exact fun _ _ _ h => h
      try simp only [Act.put, zD, zE, zF]
      refine wpAnyH_take (i := 11) (oi := ?_) (v := ?_) ?_ (by kernel_rfl) (by kernel_rfl) (by kernel_rfl) ?_ (Or.inl ⟨?_, ?_⟩) (by assumption) ?_
      rotate_left 2
      · (simp only [zA, zB, zC]; rfl)
      rotate_left 1
      · rfl
      · (intro w hSw; obtain ⟨q0, q1⟩ := hSw; go_simp; try with_reducible rfl)
      rotate_left 1
      · exact fun _ _ _ h => h
      try simp only [Act.put, zD, zE, zF]
      refine wpAnyH_take (i := 12) (oi := ?_) (v := ?_) ?_ (by kernel_rfl) (by kernel_rfl) (by kernel_rfl) ?_ (Or.inl ⟨?_, ?_⟩) (by assumption) ?_
      rotate_left 2
      · (simp only [zA, zB, zC]; rfl)
      rotate_left 1
      · rfl
      · (intro w hSw; obtain ⟨q0, q1⟩ := hSw; go_simp; try with_reducible rfl)
      rotate_left 1
      · exact fun _ _ _ h => h
      try simp only [Act.put, zD, zE, zF]
      refine wpAnyH_ready (rs := [1]) (by kernel_rfl) (by simp) ?_
      refine AllReadyH.cons (o := ?_) ?_ (fun K hK => ?_) AllReadyH.nil
      rotate_left 1
      · (simp only [zA, zB, zC]; rfl)
      go_simp
      have hown0 : Own (Rep.int .i32) 21 [] wr.heap.size (wr.drew.alloc (.cells #[] 21)) (.slice (some ⟨wr.heap.size, 0, none⟩) 0 0) [] := own_i32 wr.drew [] (by simp) wr.heap.size wr.heap.size 0 (Nat.le_refl _) rfl rfl (by simp [maxLen]); have hb1 := (below_dr (Below.refl wr.heap.size wr)).alloc (show wr.heap.size ≤ wr.drew.heap.size from Nat.le_refl _) (.cells #[] 21); have hov1 := (own_dr hov).alloc (.cells #[] 21); have hxc1 := (HXC.out.ints_keep (So' := So) (Keep.below (S := So) (below_dr (Below.refl wr.heap.size wr)))).ints_keep (So' := So) (Keep.alloc So wr.drew (.cells #[] 21)); have q0 := (hb1.cell (p := ⟨g, off + k, none⟩) hg0).trans HQ0.out; have q1 := (hb1.cell (p := ⟨g, off + (k + 1), none⟩) hg0).trans HQ1.out
      refine hK.out _ _ ?_ (fun hHeld => ?_)
      · exact ⟨q0, q1⟩
      clear hK K
      try simp only [Act.put, zD, zE, zF]
      refine wpAnyH_ready (rs := [13]) (by kernel_rfl) (by simp) ?_
      refine AllReadyH.cons (o := ?_) ?_ (fun K hK => ?_) AllReadyH.nil
      rotate_left 1
      · (simp only [zA, zB, zC]; rfl)
      refine step_appg rfl (.tmp 20) (.tmp 31) 24 rfl (Rep.int .i32) 21 [] wr.heap.size 4 _ Tryz.underlying24 i32_info (by decide) (by decide) (by decide) _ _ rfl hown0 _ (fun _ => False) _ _ rfl (hxc1.ints_any _) (fun _ h => h.elim) (by simp <;> omega) (by simp <;> omega) ?_; intro v2 w2 hv2 hst2 hg2 ho2; rw [List.nil_append] at hv2; obtain ⟨A2, c2, rfl, hc21, hc22, _⟩ := hv2.islc.open_; have hvl : ((l.drop a).take (b - a)).length = b - a := (by simp <;> omega); rw [hvl] at hc21; have hov2 := hov1.flat_step RHead.flat hst2 (by decide); have hbn : Below wr.heap.size wr w2 := hb1.trans (hst2.below (by simp)); have q0 := (hbn.cell (p := ⟨g, off + k, none⟩) hg0).trans HQ0.out; have q1 := (hbn.cell (p := ⟨g, off + (k + 1), none⟩) hg0).trans HQ1.out; clear hov1 hv2 hst2 hg2 ho2 hb1 hown0 hxc1
      refine hK.out _ _ ?_ (fun hHeld => ?_)
      · exact ⟨q0, q1⟩
      clear hK K
      try simp only [Act.put, zD, zE, zF]
      refine wpAnyH_ready (rs := [14]) (by kernel_rfl) (by simp) ?_
      refine AllReadyH.cons (o := ?_) ?_ (fun K hK => ?_) AllReadyH.nil
      rotate_left 1
      · (simp only [zA, zB, zC]; rfl)
      go_simp
      have hov3 := hov2.alloc (.cells #[.slice A2 (b - a) c2] 24); have hone := (Own.lit (R := RHead) (e := 24) (T := []) (base := 0) (w := w2) (l := [b - a]) (xs := [.slice A2 (b - a) c2]) (n := 1) (by simp) ⟨[.slice A2 (b - a) c2], [], rfl, ⟨A2, c2, rfl, by omega⟩, rfl⟩ (Nat.zero_le _) rfl (by simp [maxLen])).slc.flat_any RHead.flat (fun _ => False); have hb3 := hbn.alloc (by have := hbn.size; omega) (.cells #[.slice A2 (b - a) c2] 24); have q0 := (hb3.cell (p := ⟨g, off + k, none⟩) hg0).trans HQ0.out; have q1 := (hb3.cell (p := ⟨g, off + (k + 1), none⟩) hg0).trans HQ1.out
      refine hK.out _ _ ?_ (fun hHeld => ?_)
      · exact ⟨q0, q1⟩
      clear hK K
      try simp only [Act.put, zD, zE, zF]
      refine wpAnyH_ready (rs := [15]) (by kernel_rfl) (by simp) ?_
      refine AllReadyH.cons (o := ?_) ?_ (fun K hK => ?_) AllReadyH.nil
      rotate_left 1
      · (simp only [zA, zB, zC]; rfl)
      refine step_appg rfl (.tmp 19) (.tmp 33) 28 rfl RHead 24 [] w1.heap.size 24 _ Tryz.underlying28 head_info rfl (by decide) (by decide) _ _ rfl hov3 _ (fun _ => False) _ _ rfl hone (fun _ h => h.elim) (by simp <;> omega) (by have := hbn.size; simp; omega) ?_; intro v7 w7 hv7 hst7 hg7 ho7; rw [← HD.out] at hv7; have hb7 := hide ((hbel.trans (hb3.mono hsz)).trans (hst7.below (by have := hbn.size; simp; omega))); have q0 := (hb7.out.cell (p := ⟨g, off + k, none⟩) HG.out).trans HX0.out; have q1 := (hb7.out.cell (p := ⟨g, off + (k + 1), none⟩) HG.out).trans HX1'.out; clear hov3 hov2 hone hst7 hg7 ho7 hb3 hbn
      refine hK.out _ _ ?_ (fun hHeld => ?_)
      · exact ⟨q0, q1⟩
      clear hK K
      try simp only [Act.put, zD, zE, zF]
      refine wpAnyH_take (i := 16) (oi := ?_) (v := ?_) ?_ (by kernel_rfl) (by kernel_rfl) (by kernel_rfl) ?_ (Or.inl ⟨?_, ?_⟩) (by assumption) ?_
      rotate_left 2
      · (simp only [zA, zB, zC]; rfl)
      rotate_left 1
      · rfl
      · (intro w hSw; obtain ⟨q0, q1⟩ := hSw; go_simp; try with_reducible rfl)
      rotate_left 1
      · exact fun _ _ _ h => h
      try simp only [Act.put, zD, zE, zF]
      refine wpAnyH_done (by kernel_rfl) ?_ _
      go_wp2
      go_roundw
      case rel => exact ⟨k + 1, hlt, by go_num, hv7, hb7.out⟩
      case measure => simp [intOf]; omega
    · have hlk : S.length = k + 1 := by omega
      have e : S.take (k + 1) = S := List.take_of_length_le (by omega)
      rw [e] at hov
      have hge : decide ((k : Int) + 1 < S.length) = false := decide_eq_false (by omega)
      have E := hide e
      clear e hlk
      go_wp2
      go_ret
      exact ⟨_, rfl, hov.flat_base RHead.flat hszw1 (by simp), hbw.trans (hbel.mono hszw1)⟩
end Go.Proofs.YtdjpdllehhecpaaGreatDoor
namespace Go.Proofs.YtdjpdllehhecpaaGreatDoor
open Go.RowKit
set_option linter.unusedVariables false
set_option linter.unusedSimpArgs false
def runesF (b : List Int) : List Int := (allF b).map Got.r
noncomputable def plainOk (b : List Int) : Bool := !(allF b).any Got.bad && !(runesF b).any silF && ((clusF' propF (runesF b)).map List.length).all fun n => decide (n ≤ 16)
theorem any_take {α : Type} (p : α → Bool) {l : List α} {k : Nat} (h : k < l.length) : (l.take (k + 1)).any p = ((l.take k).any p || p l[k]) := by
  rw [List.take_succ_eq_append_getElem h]
  simp only [List.any_append, List.any_cons, List.any_nil, Bool.or_false]
theorem any_hit {α : Type} (p : α → Bool) {l : List α} {k : Nat} (h : k < l.length) (hp : p l[k] = true) : l.any p = true := List.any_eq_true.2 ⟨_, List.getElem_mem _, hp⟩
theorem head_at {So Si : Nat → Prop} {w : World} {A : Option Addr} {l : List Nat} (h : SlB RHead So Si w A l) {k : Nat} (hk : k < l.length) :
    ∃ b off B c, A = some ⟨b, off, none⟩ ∧ w.cell? ⟨b, off + k, none⟩ = some (.slice B l[k] c) ∧ l[k] ≤ 100000 := by
  obtain ⟨b, off, u, rfl, hs, hu, hc⟩ := h.at_ (k := k) (x := l[k]) (List.getElem?_eq_getElem hk) (by decide)
  obtain ⟨B, c, rfl, hle⟩ := hu
  have h0 := hc 0 (by decide)
  have e : RHead.sz = 1 := rfl
  rw [e] at h0
  simp only [Nat.mul_one, Nat.add_zero] at h0
  exact ⟨b, off, B, c, rfl, h0, hle⟩
theorem runesF_len (b : List Int) : (runesF b).length ≤ b.length := by unfold runesF; rw [List.length_map]; exact all_len _ _ _
set_option maxHeartbeats 4000000 in
theorem plain_ok (So Si : Nat → Prop) (x : Value) (b : List Int) (w : World) (hx : Slc (Rep.int .u8) So Si w x b) (hlen : b.length ≤ 10000) :
    Calls Tryz.prog 5 #[x] w fun e w' => ∃ v, e = .returned (.tuple #[v, .bool (plainOk b)]) ∧ (plainOk b = true → Own (Rep.int .i32) 21 [] w.heap.size w' v (runesF b)) ∧ Below w.heap.size w w' := by
  have HV := hide (Valid_ok So Si x b w hx (by omega))
  have HR := hide (fun W (hW : Below w.heap.size w W) => rRunes_ok So Si x b W (hx.ints_keep (Keep.below hW)) (by omega))
  obtain ⟨A, c, rfl, hc1, hc2, _⟩ := hx.open_
  have hrl := runesF_len b
  have hok : plainOk b = (!(allF b).any Got.bad && !(runesF b).any silF && (difN (stN ((runesF b).map propF) (runesF b).length ++ [(runesF b).length])).all fun n => decide (n ≤ 16)) := by rw [dif_clus]; rfl
  rw [hok]
  obtain ⟨bad, hbad⟩ : ∃ bad, (allF b).any Got.bad = bad := ⟨_, rfl⟩
  rw [hbad] at HV
  rw [hbad]
  clear hbad hok hx
  cases bad with
  | true =>
    go_enter Tryz.func5, Tryz.ntmps5
    go_wp2_with fail
    refine HV.out.mono ?_
    rintro e w1 ⟨rfl, hb1⟩
    go_wp2
    go_ret2
    exact ⟨_, rfl, fun h => (by cases h), hb1⟩
  | false =>
    obtain ⟨l, hl⟩ : ∃ l, runesF b = l := ⟨_, rfl⟩
    have hRe : Hid ((allF b).map Got.r = l) := hide hl
    rw [hl] at hrl ⊢
    have HC := hide (fun W v (hv : Own (Rep.int .i32) 21 [] w.heap.size W v l) => rClus_ok _ _ v l W hv.islc (by omega))
    obtain ⟨ln, hln⟩ : ∃ ln, difN (stN (l.map propF) l.length ++ [l.length]) = ln := ⟨_, rfl⟩
    rw [hln] at HC ⊢
    have hlnl : ln.length ≤ l.length + 1 := by
      rw [← hln]
      have h1 := difN_len (stN (l.map propF) l.length ++ [l.length]) (stN (l.map propF) l.length ++ [l.length]).length
      rw [List.take_length] at h1
      have h2 := stN_le (l.map propF) l.length
      simp at h1 ⊢
      omega
    obtain ⟨sil, hsil⟩ : ∃ sil, l.any silF = sil := ⟨_, rfl⟩
    obtain ⟨lng, hlng⟩ : ∃ lng, (ln.all fun n => decide (n ≤ 16)) = lng := ⟨_, rfl⟩
    rw [hsil, hlng]
    have HSI := hide hsil
    have HLN := hide hlng
    clear hl hln hsil hlng
    go_enter Tryz.func5, Tryz.ntmps5
    go_wp2_with fail
    refine HV.out.mono ?_
    rintro e w1 ⟨rfl, hb1⟩
    go_wp2_with fail
    refine (HR.out _ hb1).mono ?_
    rintro e w2 ⟨v2, rfl, hv2, hb2⟩
    rw [hRe.out] at hv2
    have hsz1 := hb1.size
    have hv2w := hv2.ints_base hsz1 (T' := []) (by simp)
    have hbw2 := hb1.trans (hb2.mono hsz1)
    obtain ⟨A2, c2, rfl, hd1, hd2, hB2⟩ := hv2.islc.open_
    have HV2 := hide hv2w
    have hwf := hv2.islc.ints_wf
    have HAT := hide (fun k (hk : k < l.length) => ints_at hB2 hk)
    clear hv2 hv2w hB2
    go_wp2
    go_loopw [5] (fun i wr => ∃ k : Nat, k ≤ l.length ∧ i = .int .i64 k ∧ (l.take k).any silF = false ∧ w2 = wr) (fun i _ => l.length - (intOf i).toNat)
    case atStart => exact ⟨0, Nat.zero_le _, rfl, rfl, rfl⟩
    case round =>
      obtain ⟨k, hk, rfl, hto, rfl⟩ := hrel
      have HTO := hide hto
      clear hto
      by_cases hlt : k < l.length
      · obtain ⟨g, off, rfl, _, x0, _⟩ := HAT.out k hlt
        have HTK := hide (any_take silF hlt)
        have HHIT := hide (fun h => any_hit silF hlt h)
        obtain ⟨r, hr⟩ : ∃ r, l[k] = r := ⟨_, rfl⟩
        rw [hr] at x0 HTK HHIT
        have HS := hide (rsil_ok r)
        have hkl : (k : Int) < l.length := by omega
        obtain ⟨sr, hsr⟩ : ∃ sr, silF r = sr := ⟨_, rfl⟩
        rw [hsr] at HS HTK HHIT
        clear hr hsr
        cases sr with
        | true =>
          have HE : Hid (sil = true) := hide (by rw [← HSI.out]; exact HHIT.out rfl)
          go_wp2_with fail
          refine (HS.out _).mono ?_
          rintro e w3 ⟨rfl, rfl⟩
          go_wp2
          go_ret2
          exact ⟨_, by rw [HE.out]; rfl, fun h => by rw [HE.out] at h; simp at h, hbw2⟩
        | false =>
          have HE : Hid ((l.take (k + 1)).any silF = false) := hide (by rw [HTK.out, HTO.out]; rfl)
          go_wp2_with fail
          refine (HS.out _).mono ?_
          rintro e w3 ⟨rfl, rfl⟩
          go_wp2
          go_roundw
          case rel => exact ⟨k + 1, by omega, by go_num, HE.out, trivial⟩
          case measure => simp [intOf]; omega
      · have hkl : k = l.length := by omega
        have HE : Hid (sil = false) := hide (by rw [← HSI.out, ← HTO.out, hkl, List.take_length])
        have hge : decide ((k : Int) < l.length) = false := decide_eq_false (by omega)
        clear hkl
        go_wp2_with fail
        refine (HC.out _ _ HV2.out).mono ?_
        rintro e w3 ⟨v3, rfl, hv3, hb3⟩
        obtain ⟨A3, c3, rfl, he1, he2, hB3⟩ := hv3.slc.open_
        have HAT3 := hide (fun k (hk : k < ln.length) => head_at hB3 hk)
        have HV3 := hide (HV2.out.below hb3)
        have hsz2 := hbw2.size
        have HBW := hide (hbw2.trans (hb3.mono hsz2))
        clear hv3 hB3 hb3 hge
        go_wp2
        go_loopw [7] (fun i wr => ∃ k : Nat, k ≤ ln.length ∧ i = .int .i64 k ∧ ((ln.take k).all fun n => decide (n ≤ 16)) = true ∧ w3 = wr) (fun i _ => ln.length - (intOf i).toNat)
        case atStart => exact ⟨0, Nat.zero_le _, rfl, rfl, rfl⟩
        case round =>
          obtain ⟨j, hj, rfl, hto, rfl⟩ := hrel
          have HTO2 := hide hto
          clear hto
          by_cases hjt : j < ln.length
          · obtain ⟨g, off, B, c4, rfl, x0, hle⟩ := HAT3.out j hjt
            have HTK : Hid (((ln.take (j + 1)).all fun n => decide (n ≤ 16)) = (((ln.take j).all fun n => decide (n ≤ 16)) && decide (ln[j] ≤ 16))) := hide (by
              rw [List.take_succ_eq_append_getElem hjt]; simp only [List.all_append, List.all_cons, List.all_nil, Bool.and_true])
            have HIN := hide (List.getElem_mem hjt)
            obtain ⟨n, hn⟩ : ∃ n, ln[j] = n := ⟨_, rfl⟩
            rw [hn] at x0 hle HTK HIN
            have hkj : (j : Int) < ln.length := by omega
            clear hn
            by_cases h16 : n ≤ 16
            · have HE : Hid (((ln.take (j + 1)).all fun n => decide (n ≤ 16)) = true) := hide (by rw [HTK.out, HTO2.out, decide_eq_true h16]; rfl)
              have hn16 : decide ((16 : Int) < n) = false := decide_eq_false (by omega)
              go_wp2
              go_roundw
              case rel => exact ⟨j + 1, by omega, by go_num, HE.out, trivial⟩
              case measure => simp [intOf]; omega
            · have HF : Hid (lng = false) := hide (by
                rw [← HLN.out, List.all_eq_false]
                exact ⟨n, HIN.out, by simpa using h16⟩)
              have hn16 : (16 : Int) < n := by omega
              go_wp2
              go_ret2
              exact ⟨.slice none 0 0, by rw [HF.out]; simp, fun h => by rw [HF.out] at h; simp at h, HBW.out⟩
          · have hkl : j = ln.length := by omega
            have HF : Hid (lng = true) := hide (by rw [← HLN.out, ← HTO2.out, hkl, List.take_length])
            have hge : decide ((j : Int) < ln.length) = false := decide_eq_false (by omega)
            clear hkl
            go_wp2
            go_ret2
            exact ⟨_, by rw [HF.out, HE.out]; rfl, fun _ => HV3.out, HBW.out⟩
end Go.Proofs.YtdjpdllehhecpaaGreatDoor
namespace Go.Proofs.YtdjpdllehhecpaaGreatDoor
open Go.RowKit
set_option linter.unusedVariables false
set_option linter.unusedSimpArgs false
theorem forms_of : ∀ (n : Nat) (b : List Int) (pos : Int), b.length ≤ n → Bytes b → (∀ g ∈ allN b.length b pos, g.bad = false) →
    (∀ r ∈ (allN b.length b pos).map Got.r, validB r = true) ∧ putF ((allN b.length b pos).map Got.r) = b
  | _, [], pos, _, _, _ => ⟨fun r hr => by simp [allN] at hr, rfl⟩
  | 0, b0 :: r, pos, h, _, _ => by simp at h
  | n + 1, b0 :: r, pos, h, hb, hg => by
    have hpl : 1 ≤ partLen (b0 :: r) := by unfold partLen; omega
    have e := all_cons b0 r pos
    rw [e] at hg ⊢
    obtain ⟨h1, h2⟩ := forms_of n ((b0 :: r).drop (partLen (b0 :: r))) (pos + partLen (b0 :: r)) (by rw [List.length_drop]; omega) (fun x hx => hb x (List.mem_of_mem_drop hx)) (fun g hg' => hg g (List.mem_cons.2 (.inr hg')))
    have hf := (part_facts b0 r pos (hb b0 (by simp)).1).2.2.2.2.2 (hg _ (by simp))
    rw [List.map_cons]
    refine ⟨fun x hx => ?_, ?_⟩
    · rcases List.mem_cons.1 hx with rfl | hx
      · apply Classical.byContradiction
        intro hv
        have hv : validB (partF (b0 :: r) pos).r = false := by simpa using hv
        unfold formF at hf
        rw [if_neg (by rw [hv]; decide)] at hf
        have := congrArg List.length hf
        rw [List.length_take] at this
        simp only [List.length_nil, List.length_cons] at this
        omega
      · exact h1 x hx
    · rw [put_cons, h2, hf, List.take_append_drop]
theorem valid_text {b : List Int} (hb : Bytes b) (h : (allF b).any Got.bad = false) : (∀ r ∈ runesF b, validB r = true) ∧ putF (runesF b) = b :=
  forms_of b.length b 0 (Nat.le_refl _) hb (fun g hg => by
    have := List.any_eq_false.1 h g hg
    simpa using this)
theorem valid_feed {b : List Int} (hb : Bytes b) (h : (allF b).any Got.bad = false) : feedF [] b = (runesF b, []) := by
  obtain ⟨h1, h2⟩ := valid_text hb h
  have := feed_forms (runesF b) h1
  rw [h2] at this
  exact this
theorem feed_two {b : List Int} (hb : Bytes b) (h : (allF b).any Got.bad = false) (k : Nat) :
    (feedF [] (b.take k)).1 ++ (feedF (feedF [] (b.take k)).2 (b.drop k)).1 = runesF b ∧ (feedF (feedF [] (b.take k)).2 (b.drop k)).2 = [] := by
  have e := valid_feed hb h
  have e2 := feedF_append (b.take k) (b.drop k) []
  rw [List.take_append_drop, e] at e2
  injection e2 with e3 e4
  exact ⟨e3.symm, e4.symm⟩
theorem plain_parts {b : List Int} (h : plainOk b = true) : (allF b).any Got.bad = false ∧ (∀ r ∈ runesF b, silF r = false) ∧ Short (clL propF cl0 (runesF b)) := by
  unfold plainOk at h
  simp only [Bool.and_eq_true, Bool.not_eq_true'] at h
  obtain ⟨⟨h1, h2⟩, h3⟩ := h
  refine ⟨h1, fun r hr => ?_, fun c hc => ?_⟩
  · have := List.any_eq_false.1 h2 r hr
    simpa using this
  · rw [cl_clus] at hc
    have := List.all_eq_true.1 h3 c.length (List.mem_map.2 ⟨c, hc, rfl⟩)
    simpa using this
theorem back_text {W h : Nat} (hW : 2 ≤ W) {l : List Int} (hv : ∀ r ∈ l, validB r = true) (hs : Short (clL propF cl0 l)) : textR (rowsL W h (layF W propF (clusOf (clL propF cl0 l)))) = l := by
  have hP : ∀ r, TblP (propF r) := propF_ok
  have hx := cl_txok hP hv hs
  rw [text_rows hW (LayOk.all hW propF _ hx), lay_text, cl_flat]
theorem repl_id {l : List Int} (hv : ∀ r ∈ l, validB r = true) : l.map replF = l := by
  have : ∀ r ∈ l, replF r = r := fun r hr => by unfold replF; rw [if_pos (hv r hr)]
  have h2 := List.map_congr_left this
  rw [h2]; simp
end Go.Proofs.YtdjpdllehhecpaaGreatDoor
namespace Go.Proofs.YtdjpdllehhecpaaGreatDoor
open Go.RowKit
set_option linter.unusedVariables false
set_option linter.unusedSimpArgs false
noncomputable def clS (l : List Int) : ClusV := clL propF cl0 l
noncomputable def layS (W : Nat) (l : List Int) : LayV := layF W propF (clusOf (clS l))
noncomputable def penS (W h : Nat) (l : List Int) : PenV := penOf (rowsL W h (layS W l)) (curL W (layS W l))
theorem clS_snoc (l : List Int) (r : Int) : clS (l ++ [r]) = clN propF (clS l) r := clL_snoc propF cl0 l r
theorem clS_seg (l : List Int) (r : Int) : (clS (l ++ [r])).seg = segN (clS l).seg (propF r) := by rw [clS_snoc]; exact clN_seg _ _ _
theorem clS_last (l : List Int) : 0 ≤ (clS l).seg.last ∧ (clS l).seg.last ≤ 13 := by
  refine snocInd (p := fun l => 0 ≤ (clS l).seg.last ∧ (clS l).seg.last ≤ 13) ?_ ?_ l
  · exact ⟨Int.le_refl _, by decide⟩
  · intro l r _
    rw [clS_seg]
    exact (propF_ok r).1
theorem clS_cur0 {l : List Int} (h : (clS l).cur = []) : l = [] := by
  rcases List.eq_nil_or_concat l with rfl | ⟨l', r, rfl⟩
  · rfl
  · rw [List.concat_eq_append, clS_snoc] at h
    exact (clN_cur _ _ _ h).elim
theorem clS_join_cur {l : List Int} {r : Int} (h : joinsF (clS l).seg (propF r) = true) : (clS l).cur ≠ [] := fun e => by
  have := clS_cur0 e
  subst this
  cases h
structure TextOk (l : List Int) : Prop where
  val : ∀ r ∈ l, validB r = true
  short : Short (clS l)
theorem TextOk.back {l : List Int} {r : Int} (h : TextOk (l ++ [r])) : TextOk l :=
  ⟨fun x hx => h.val x (List.mem_append.2 (.inl hx)), by have := h.short; rw [clS_snoc] at this; exact short_step this⟩
theorem TextOk.take {l m : List Int} (h : TextOk (l ++ m)) : TextOk l :=
  ⟨fun x hx => h.val x (List.mem_append.2 (.inl hx)), by have := h.short; unfold clS at this; rw [clL_app] at this; exact short_back m this⟩
theorem TextOk.tx {l : List Int} (h : TextOk l) : ∀ c ∈ clusOf (clS l), TxOk c := cl_txok propF_ok h.val h.short
theorem TextOk.lay {W : Nat} (hW : 2 ≤ W) {l : List Int} (h : TextOk l) : LayOk W (layS W l) := LayOk.all hW propF _ h.tx
theorem TextOk.layD {W : Nat} (hW : 2 ≤ W) {l : List Int} (h : TextOk l) : (layF W propF (clS l).done).cur.length ≤ W := by
  refine (LayOk.all hW propF _ (fun c hc => h.tx c ?_)).len
  unfold clusOf
  split
  · exact hc
  · exact List.mem_append.2 (.inl hc)
theorem TextOk.cur {l : List Int} (h : TextOk l) (hc : (clS l).cur ≠ []) : TxOk (clS l).cur := h.tx _ (by unfold clusOf; rw [if_neg hc]; simp)
theorem step_begin {W h : Nat} (hW : 2 ≤ W) {l : List Int} {r : Int} (ht : TextOk (l ++ [r])) (hj : joinsF (clS l).seg (propF r) = false) (hh : (layS W (l ++ [r])).out.length < h) :
    PutOk W h (widthF propF [r]) (penS W h l) ∧ putP W (widthF propF [r]) [r] (penS W h l) = penS W h (l ++ [r]) ∧
      (roomP W (widthF propF [r]) (penS W h l)).r = (layS W (l ++ [r])).out.length ∧ (roomP W (widthF propF [r]) (penS W h l)).c = (layS W (l ++ [r])).cur.length - widthF propF [r] ∧ (clS (l ++ [r])).cur = [r] := by
  have hn := widthF_or propF [r]
  have hs := (ht.back.lay hW).len
  obtain ⟨e1, e2⟩ := lay_begin W propF (clS l) r (.inl hj)
  have e3 : layS W (l ++ [r]) = putL W (layS W l) (widthF propF [r]) [r] := by unfold layS; rw [clS_snoc]; exact e1
  rw [e3] at hh ⊢
  have hr := room_at hs hW hn [r] hh
  refine ⟨begin_putok hs hW hn [r] hh, ?_, ?_, ?_, by rw [clS_snoc]; exact e2⟩
  · have := put_begin hs hW hn [r] hh
    unfold penS
    rw [this, e3]
  · unfold penS; rw [hr]; rfl
  · unfold penS; rw [hr]; rfl
theorem layS_join {W : Nat} {l : List Int} {r : Int} (hj : joinsF (clS l).seg (propF r) = true) :
    layS W (l ++ [r]) = putL W (layF W propF (clS l).done) (widthF propF ((clS l).cur ++ [r])) ((clS l).cur ++ [r]) ∧ layS W l = putL W (layF W propF (clS l).done) (widthF propF (clS l).cur) (clS l).cur ∧ (clS (l ++ [r])).cur = (clS l).cur ++ [r] := by
  obtain ⟨e1, e2, e3⟩ := lay_join W propF (clS l) r hj (clS_join_cur hj)
  unfold layS
  rw [clS_snoc]
  exact ⟨e1, e2, e3⟩
theorem step_widen {W h : Nat} (hW : 2 ≤ W) {l : List Int} {r : Int} (ht : TextOk (l ++ [r])) (hj : joinsF (clS l).seg (propF r) = true) (hne : widthF propF (clS l).cur ≠ widthF propF ((clS l).cur ++ [r])) (hh : (layS W (l ++ [r])).out.length < h) :
    let v : PenV := ⟨(penS W h l).rows, (layS W l).out.length, (layS W l).cur.length - widthF propF (clS l).cur, false⟩
    let n := widthF propF ((clS l).cur ++ [r])
    PutOk W h n v ∧ putP W n ((clS l).cur ++ [r]) v = penS W h (l ++ [r]) ∧ (roomP W n v).r = (layS W (l ++ [r])).out.length ∧ (roomP W n v).c = (layS W (l ++ [r])).cur.length - n ∧ v.r < h ∧ v.c < W := by
  have h1 := widthF_or propF (clS l).cur
  have h2 := widthF_or propF ((clS l).cur ++ [r])
  have h3 := width_mono propF (clS l).cur [r]
  have n1 : widthF propF (clS l).cur = 1 := by omega
  have n2 : widthF propF ((clS l).cur ++ [r]) = 2 := by omega
  obtain ⟨e1, e2, _⟩ := layS_join (W := W) hj
  have hs := ht.back.layD hW
  rw [n1] at e2
  rw [n2] at e1
  rw [e1] at hh
  intro v n
  have hv : v = penOf (rowsL W h (putL W (layF W propF (clS l).done) 1 (clS l).cur)) ((putL W (layF W propF (clS l).done) 1 (clS l).cur).out.length, (putL W (layF W propF (clS l).done) 1 (clS l).cur).cur.length - 1, false) := by
    show (⟨(penS W h l).rows, _, _, false⟩ : PenV) = _
    unfold penS
    rw [e2, n1]
    rfl
  have hn : n = 2 := n2
  have hP := widen_putok hs hW (clS l).cur ((clS l).cur ++ [r]) hh
  have hw := put_widen hs hW (clS l).cur ((clS l).cur ++ [r]) hh
  obtain ⟨k1, k2, _, _⟩ := room_widen hs hW (clS l).cur ((clS l).cur ++ [r]) hh
  have hmono := put_mono W (layF W propF (clS l).done) (show 1 ≤ 2 by omega) (clS l).cur ((clS l).cur ++ [r])
  have hlen : (putL W (layF W propF (clS l).done) 1 (clS l).cur).cur.length ≤ W := by rw [← e2]; exact (ht.back.lay hW).len
  rw [hn, hv, e1]
  refine ⟨hP, ?_, k1, by omega, by show _ < h; exact Nat.lt_of_le_of_lt hmono hh, by show _ - 1 < W; omega⟩
  rw [hw]
  unfold penS
  rw [e1]
theorem step_same {W h : Nat} (hW : 2 ≤ W) {l : List Int} {r : Int} (ht : TextOk (l ++ [r])) (hj : joinsF (clS l).seg (propF r) = true) (he : widthF propF (clS l).cur = widthF propF ((clS l).cur ++ [r])) (hh : (layS W (l ++ [r])).out.length < h) :
    let n := widthF propF (clS l).cur
    let r0 := (layS W l).out.length
    let c0 := (layS W l).cur.length - n
    (r0 < h ∧ c0 + n ≤ W ∧ (rowAt (penS W h l).rows r0)[c0]? = some ((n : Int), (clS l).cur) ∧ kindI (rowAt (penS W h l).rows r0) ((c0 + n : Nat) : Int) ≠ 3) ∧
      (⟨updR (penS W h l).rows r0 (paintL c0 (stripF n ((clS l).cur ++ [r]))), (penS W h l).r, (penS W h l).c, (penS W h l).pd⟩ : PenV) = penS W h (l ++ [r]) ∧
      r0 = (layS W (l ++ [r])).out.length ∧ c0 = (layS W (l ++ [r])).cur.length - n := by
  have h1 := widthF_or propF (clS l).cur
  obtain ⟨e1, e2, _⟩ := layS_join (W := W) hj
  have hs := ht.back.layD hW
  rw [← he] at e1
  intro n r0 c0
  obtain ⟨a, b, k1, k2, k3, k4, k5⟩ := put_cells (h := h) hs hW h1 (clS l).cur
  obtain ⟨m1, m2⟩ := put_more (h := h) hs hW h1 (clS l).cur ((clS l).cur ++ [r])
  have ho : (putL W (layF W propF (clS l).done) n (clS l).cur).out.length = (putL W (layF W propF (clS l).done) n ((clS l).cur ++ [r])).out.length := by rw [put_room, put_room]
  have hc : (putL W (layF W propF (clS l).done) n (clS l).cur).cur.length = (putL W (layF W propF (clS l).done) n ((clS l).cur ++ [r])).cur.length := by
    rw [put_room, put_room]
    show ((roomL W _ n).cur ++ _).length = ((roomL W _ n).cur ++ _).length
    rw [List.length_append, List.length_append, strip_len h1, strip_len h1]
  have k3' : (putL W (layF W propF (clS l).done) n (clS l).cur).cur.length ≤ W := k3
  have k4' : n ≤ (putL W (layF W propF (clS l).done) n (clS l).cur).cur.length := k4
  have hrow : rowAt (penS W h l).rows r0 = a ++ stripF n (clS l).cur ++ b := by
    show rowAt (rowsL W h (layS W l)) (layS W l).out.length = _
    rw [e2]; exact k1
  have hcl : c0 = a.length := by
    show (layS W l).cur.length - n = a.length
    rw [e2, k2]
  have hcn : c0 + n = (putL W (layF W propF (clS l).done) n (clS l).cur).cur.length := by
    have e2' : (layS W l).cur.length = (putL W (layF W propF (clS l).done) n (clS l).cur).cur.length := congrArg (fun x => x.cur.length) e2
    show (layS W l).cur.length - n + n = _
    rw [e2']
    exact Nat.sub_add_cancel k4'
  refine ⟨⟨?_, by rw [hcn]; exact k3', ?_, ?_⟩, ?_, ?_, ?_⟩
  · show (layS W l).out.length < h
    rw [e2, ho, ← e1]; exact hh
  · rw [hrow, hcl, List.append_assoc, List.getElem?_append_right (Nat.le_refl _)]
    rcases h1 with h1 | h1
    · have : n = 1 := h1
      rw [this]; simp [stripF]
    · have : n = 2 := h1
      rw [this]; simp [stripF]
  · rw [hcn]
    show kindI (rowAt (rowsL W h (layS W l)) (layS W l).out.length) _ ≠ 3
    rw [e2, k5]; decide
  · unfold penS
    show (⟨updR (rowsL W h (layS W l)) (layS W l).out.length (paintL ((layS W l).cur.length - n) _), (curL W (layS W l)).1, (curL W (layS W l)).2.1, (curL W (layS W l)).2.2⟩ : PenV) = penOf (rowsL W h (layS W (l ++ [r]))) (curL W (layS W (l ++ [r])))
    rw [e1, e2, m1, m2]
    rfl
  · show (layS W l).out.length = _
    rw [e2, e1, ho]
  · show (layS W l).cur.length - n = _
    rw [e2, e1, hc]
theorem layS_back (W : Nat) (l m : List Int) : (layS W l).out.length ≤ (layS W (l ++ m)).out.length := by
  have := out_back W propF m (clS l)
  unfold outN at this
  unfold layS
  have e : clS (l ++ m) = clL propF (clS l) m := by unfold clS; rw [clL_app]
  rw [e]
  exact this
end Go.Proofs.YtdjpdllehhecpaaGreatDoor
namespace Go.Proofs.YtdjpdllehhecpaaGreatDoor
open Go.RowKit
set_option linter.unusedVariables false
set_option linter.unusedSimpArgs false
theorem t_clus : clusOf (clS [97, 19968]) = [[97], [19968]] := by kernel_rfl
theorem t_out : (layS 2 [97, 19968]).out.length = 1 := by kernel_rfl
theorem t_wrap : ((rowsL 2 2 (layS 2 [97, 19968])).getD 0 ([], false)).2 = true := by kernel_rfl
theorem t_feed : feedF [] [97, 228, 184, 128] = ([97, 19968], []) := by kernel_rfl
theorem t_put : putF [97, 19968] = [97, 228, 184, 128] := by kernel_rfl
theorem t_ok : TextOk [97, 19968] := ⟨by decide, fun c hc => by rw [t_clus] at hc; simp at hc; rcases hc with rfl | rfl <;> decide⟩
theorem t_sil : ∀ r ∈ ([97, 19968] : List Int), silF r = false := by decide
theorem t_back : textR (rowsL 2 2 (layS 2 [97, 19968])) = [97, 19968] := back_text (by decide) t_ok.val t_ok.short
end Go.Proofs.YtdjpdllehhecpaaGreatDoor
