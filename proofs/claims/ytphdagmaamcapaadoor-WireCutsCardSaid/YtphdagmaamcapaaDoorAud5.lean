/-
  All that is wrong with a view, in memory: what audit.Look, First and Sound return. Each function once.
-/
import Derived.Test.YtphdagmaamcapaaDoorAud4
namespace Go.Proofs.YtphdagmaamcapaaDoor
open Go.RowKit
set_option linter.unusedVariables false
set_option linter.unusedSimpArgs false

/-- An error told: where (a line, a column of it), and which sentinel. -/
abbrev ErrD : Type := Option (Int × Option Int) × Nat
def errIs (b : Nat → Addr) (S : Nat → Prop) (w : World) (v : Value) : ErrD → Prop
  | (none, k) => v = .iface 123 (.pointer (some (b k)))
  | (some (n, none), k) => ∃ pb, v = .iface 101 (.pointer (some ⟨pb, 0, none⟩)) ∧ S pb ∧ w.cell? ⟨pb, 0, none⟩ = some (.int .i64 n) ∧ w.cell? ⟨pb, 1, none⟩ = some (.iface 123 (.pointer (some (b k))))
  | (some (n, some c), k) => ∃ pb pc, v = .iface 101 (.pointer (some ⟨pb, 0, none⟩)) ∧ S pb ∧ S pc ∧ w.cell? ⟨pb, 0, none⟩ = some (.int .i64 n) ∧ w.cell? ⟨pb, 1, none⟩ = some (.iface 101 (.pointer (some ⟨pc, 0, none⟩))) ∧
      w.cell? ⟨pc, 0, none⟩ = some (.int .i64 c) ∧ w.cell? ⟨pc, 1, none⟩ = some (.iface 123 (.pointer (some (b k))))
theorem errIs.mono {b : Nat → Addr} {S S' : Nat → Prop} {w w' : World} {v : Value} {x : ErrD} (hk : Keep S w S' w') (h : errIs b S w v x) : errIs b S' w' v x := by
  match x, h with
  | (none, k), h => exact h
  | (some (n, none), k), ⟨pb, hv, hs, h0, h1⟩ =>
    exact ⟨pb, hv, (hk _ _ hs h0).1, (hk ⟨pb, 0, none⟩ _ hs h0).2, (hk ⟨pb, 1, none⟩ _ hs h1).2⟩
  | (some (n, some c), k), ⟨pb, pc, hv, hs, hs2, h0, h1, h2, h3⟩ =>
    exact ⟨pb, pc, hv, (hk ⟨pb, 0, none⟩ _ hs h0).1, (hk ⟨pc, 0, none⟩ _ hs2 h2).1, (hk ⟨pb, 0, none⟩ _ hs h0).2, (hk ⟨pb, 1, none⟩ _ hs h1).2, (hk ⟨pc, 0, none⟩ _ hs2 h2).2, (hk ⟨pc, 1, none⟩ _ hs2 h3).2⟩
theorem errIs.form {b : Nat → Addr} {S : Nat → Prop} {w : World} {v : Value} {x : ErrD} (h : errIs b S w v x) : ∃ t u, v = .iface t u := by
  match x, h with
  | (none, k), h => exact ⟨_, _, h⟩
  | (some (n, none), k), ⟨pb, hv, _⟩ => exact ⟨_, _, hv⟩
  | (some (n, some c), k), ⟨pb, pc, hv, _⟩ => exact ⟨_, _, hv⟩
def RErr (b : Nat → Addr) : Rep ErrD where
  sz := 1
  E := fun S w vs x => ∃ v, vs = [v] ∧ errIs b S w v x
  len := by rintro _ _ _ _ ⟨v, rfl, _⟩; rfl
  one := by
    rintro _ _ _ _ ⟨v, rfl, h⟩ u hu
    obtain ⟨t, x, rfl⟩ := h.form
    simp at hu; subst hu; rfl
  mono := by rintro _ _ _ _ _ _ hk ⟨v, rfl, h⟩; exact ⟨v, rfl, h.mono hk⟩
theorem err_info : (Tryd.prog.info? 31).map (fun i => (i.zero, i.size, i.bytes)) = some (some .nilIface, 1, 16) := by kernel_rfl
theorem err_at {b : Nat → Addr} {So Si : Nat → Prop} {w : World} {A : Option Addr} {l : List ErrD} (h : SlB (RErr b) So Si w A l) {k : Nat} (hk : k < l.length) :
    ∃ g off v, A = some ⟨g, off, none⟩ ∧ So g ∧ w.cell? ⟨g, off + k, none⟩ = some v ∧ errIs b Si w v l[k] := by
  obtain ⟨g, off, u, rfl, hs, ⟨v, rfl, hv⟩, hc⟩ := h.at_ (k := k) (x := l[k]) (List.getElem?_eq_getElem hk) Nat.one_pos
  have h0 := hc 0 Nat.one_pos
  have e : (RErr b).sz = 1 := rfl
  rw [e] at h0
  simp only [Nat.mul_one, Nat.add_zero, List.getElem?_cons_zero] at h0
  exact ⟨g, off, v, rfl, hs, h0, hv⟩

def kOf (n : Int) : Nat := if n = 3 then 2 else if n = 4 then 3 else if n = 5 then 4 else if n = 2 then 1 else 7
def dOf (x : FoundV) : ErrD := (if x.1 = -1 then none else some (x.1, if x.2.1 = -1 then none else some x.2.1), kOf x.2.2)
theorem wrong_is (l : List CellV) (k : Nat) : wrongAt l k = 0 ∨ wrongAt l k = 5 ∨ wrongAt l k = 2 := by
  unfold wrongAt
  split
  · split
    · exact .inr (.inl rfl)
    · split
      · exact .inr (.inr rfl)
      · exact .inl rfl
  · exact .inl rfl
theorem lookC_len (i : Nat) (l : List CellV) : ∀ n, (lookC i l n).length ≤ n
  | 0 => by simp [lookC]
  | n + 1 => by
    rw [lookC_snoc, List.length_append]
    have := lookC_len i l n
    split <;> simp <;> omega
theorem lookN_len (wd : Int) (ls : List LineV) (h : ∀ l ∈ ls, l.1.length ≤ 1000000) : ∀ n, n ≤ ls.length → (lookN wd ls n).length ≤ n * 1000001
  | 0, _ => by simp [lookN]
  | n + 1, hn => by
    rw [lookN_snoc wd ls n (by omega), List.length_append]
    have h1 := lookN_len wd ls h n (by omega)
    have h2 := h ls[n] (List.getElem_mem _)
    have h3 := lookC_len n ls[n].1 ls[n].1.length
    unfold lookL
    rw [List.length_append]
    split <;> simp <;> omega

/-- A fault, and where it lies. -/
theorem WrongB_ok (n : Int) (t : TypeId) (u : Value) (w : World) :
    Calls Tryd.prog 40 #[.int .i64 n, .iface t u] w fun e w' => e = .returned (.iface 101 (.pointer (some ⟨w.heap.size, 0, none⟩))) ∧ w' = w.alloc (.cells #[.int .i64 n, .iface t u] 103) := by
  go_enter Tryd.func40, Tryd.ntmps40
  go_wp2
  go_ret
  exact ⟨rfl, rfl⟩

set_option maxHeartbeats 4000000 in
theorem ALook_ok (b : Nat → Addr) (So : Nat → Prop) (x : Value) (wd hi r c : Int) (p au : Bool) (ls : List LineV) (w : World) (hV : VarsA b w) (hx : Slc RLine So (fun b => b < w.heap.size) w x ls) (hlen : ∀ l ∈ ls, l.1.length ≤ 1000000) (hll : ls.length ≤ 1000000) :
    Calls Tryd.prog 38 #[.agg #[.int .i64 wd, .int .i64 hi, x, .int .i64 r, .int .i64 c, .bool p, .bool au]] w fun e w' => ∃ s, e = .returned s ∧ Own (RErr b) 31 [103] w.heap.size w' s ((lookF ⟨wd, hi, ls, r, c, p, au⟩).map dOf) ∧ Below w.heap.size w w' := by
  obtain ⟨A, cp, rfl, _, _, _⟩ := hx.open_
  have hlf : lookF ⟨wd, hi, ls, r, c, p, au⟩ = (if decide (hi = ls.length ∧ 1 ≤ hi ∧ hi ≤ 1024 ∧ 1 ≤ wd ∧ wd ≤ 1024) = true then [] else [(-1, -1, 3)]) ++ lookN wd ls ls.length ++ (if curRight r c p wd hi = true then [] else [(-1, -1, 8)]) := rfl
  generalize lookF ⟨wd, hi, ls, r, c, p, au⟩ = res at *
  have hb0 := (Below.refl w.heap.size w).alloc (Nat.le_refl _) (.cells #[.int .i64 wd, .int .i64 hi, .slice A ls.length cp, .int .i64 r, .int .i64 c, .bool p, .bool au] 26)
  have hblk0 := Blk.new w 26 #[.int .i64 wd, .int .i64 hi, .slice A ls.length cp, .int .i64 r, .int .i64 c, .bool p, .bool au]
  have HVA := hide hV
  have HNL := hide (lookN_len wd ls hlen)
  have HLEN := hide hlen
  have HCR := hide (fun w => cRight_ok r c p wd hi w)
  have hE2 := hV 2 (by decide)
  have hl2 := World.block_lt_of_cell? w _ hE2
  simp only [gOf] at hE2 hl2
  have hE3 := hV 3 (by decide)
  have hl3 := World.block_lt_of_cell? w _ hE3
  simp only [gOf] at hE3 hl3
  have hE7 := hV 7 (by decide)
  have hl7 := World.block_lt_of_cell? w _ hE7
  simp only [gOf] at hE7 hl7
  have hz0 := hb0.size
  clear hV hlen
  by_cases k0 : 1 ≤ wd ∧ wd ≤ 1024
  · by_cases k1 : 1 ≤ hi ∧ hi ≤ 1024
    · by_cases k2 : hi = ls.length
      · have q2 : (hi != ls.length) = false := by simp [k2]
        rw [if_pos (decide_eq_true ⟨k2, k1.1, k1.2, k0.1, k0.2⟩), List.nil_append] at hlf
        clear k2
        obtain ⟨acc0, hac⟩ : ∃ acc0 : List FoundV, acc0 = [] := ⟨_, rfl⟩
        have HLF : Hid (res = acc0 ++ lookN wd ls ls.length ++ (if curRight r c p wd hi = true then [] else [(-1, -1, 8)])) := hide (by rw [hlf, hac]; rfl)
        clear hlf
        have HACC : Hid (acc0.length ≤ 1) := hide (by rw [hac]; simp)
        go_enter Tryd.func38, Tryd.ntmps38
        go_wp2_with fail
        refine (Aside_ok wd _).mono ?_
        rw [decide_eq_true k0]
        rintro e w1 ⟨rfl, rfl⟩
        go_wp2_with fail
        refine (Aside_ok hi _).mono ?_
        rw [decide_eq_true k1]
        rintro e w1 ⟨rfl, rfl⟩
        go_wp2
        have HV0 : Own (RErr b) 31 [103] w.heap.size (w.alloc (.cells #[.int .i64 wd, .int .i64 hi, .slice A ls.length cp, .int .i64 r, .int .i64 c, .bool p, .bool au] 26)) (.slice none 0 0) (acc0.map dOf) := by rw [hac]; exact Own.nil_ _ _ _ _ _ (by decide)
        have HBLK := hblk0
        have HB0 := hb0
        clear hac
        go_loopw [3, 33] (fun out i wr => ∃ k : Nat, k ≤ ls.length ∧ i = .int .i64 k ∧ Own (RErr b) 31 [103] w.heap.size wr out ((acc0 ++ lookN wd ls k).map dOf) ∧ Blk wr w.heap.size 26 #[.int .i64 wd, .int .i64 hi, .slice A ls.length cp, .int .i64 r, .int .i64 c, .bool p, .bool au] ∧ Below w.heap.size w wr) (fun _ i _ => ls.length - (intOf i).toNat)
        case atStart => exact ⟨0, Nat.zero_le _, rfl, by simpa [lookN] using HV0, HBLK, HB0⟩
        case round =>
          obtain ⟨k, hk, rfl, hout, hblkr, hbel⟩ := hrel
          have hsz := hbel.size
          have hlt0 := hblkr.lt
          have y0 := hblkr.cell 0
          have y1 := hblkr.cell 1
          have y3 := hblkr.cell 3
          have y4 := hblkr.cell 4
          have y5 := hblkr.cell 5
          simp only [List.getElem?_toArray, List.getElem?_cons_succ, List.getElem?_cons_zero] at y0 y1 y3 y4 y5
          have hnl := HNL.out k hk
          have hk6 : k * 1000001 ≤ 1000000 * 1000001 := Nat.mul_le_mul_right _ (by omega)
          by_cases hlt : k < ls.length
          · obtain ⟨ab, off, v2, rfl, _, p0, p1, hv⟩ := line_at hx.slb hlt
            obtain ⟨A2, c2, rfl, _, _, _⟩ := hv.open_
            have hab := World.block_lt_of_cell? w _ p0
            simp only at hab
            have q8 := (hbel.cell (p := ⟨ab, off + k * 2, none⟩) hab).trans p0
            have q9 := (hbel.cell (p := ⟨ab, off + k * 2 + 1, none⟩) hab).trans p1
            have hln := HLEN.out ls[k] (List.getElem_mem _)
            have hsn := lookN_snoc wd ls k hlt
            have hll2 : lookL wd k ls[k] = (if (ls[k].1.length : Int) = wd then [] else [((k : Int), -1, 4)]) ++ lookC k ls[k].1 ls[k].1.length := rfl
            rw [hll2] at hsn
            have hblk2 := hblkr.alloc (.cells #[.slice A2 ls[k].1.length c2, .bool ls[k].2] 45)
            have hblkl := Blk.new wr 45 #[.slice A2 ls[k].1.length c2, .bool ls[k].2]
            have hout2 := hout.alloc (.cells #[.slice A2 ls[k].1.length c2, .bool ls[k].2] 45)
            have hbl := hbel.alloc hsz (.cells #[.slice A2 ls[k].1.length c2, .bool ls[k].2] 45)
            have hzl := hbl.size
            have ha0 : acc0.length ≤ 1 := HACC.out
            clear p0 p1 hll2
            by_cases hw1 : (ls[k].1.length : Int) = wd
            · have e1 : ((ls[k].1.length : Int) != wd) = false := by simp [hw1]
              rw [if_pos hw1, List.nil_append] at hsn
              have HSN := hide hsn
              clear hsn hw1
              obtain ⟨acc1, hacc1⟩ : ∃ acc1, acc1 = acc0 ++ lookN wd ls k := ⟨_, rfl⟩
              rw [← hacc1] at hout2
              have ha1 : acc1.length ≤ 1 + 1000000 * 1000001 + 1 := by rw [hacc1, List.length_append]; omega
              have HA1 : Hid (acc0 ++ lookN wd ls (k + 1) = acc1 ++ lookC k ls[k].1 ls[k].1.length) := hide (by rw [HSN.out, hacc1, List.append_assoc])
              clear hacc1 hout
              go_wp2
              go_loopw [3, 53] (fun out j wq => ∃ m : Nat, m ≤ ls[k].1.length ∧ j = .int .i64 m ∧ Own (RErr b) 31 [103] w.heap.size wq out ((acc1 ++ lookC k ls[k].1 m).map dOf) ∧ Blk wq w.heap.size 26 #[.int .i64 wd, .int .i64 hi, .slice (some ⟨ab, off, none⟩) ls.length cp, .int .i64 r, .int .i64 c, .bool p, .bool au] ∧ Blk wq wr.heap.size 45 #[.slice A2 ls[k].1.length c2, .bool ls[k].2] ∧ Below w.heap.size w wq) (fun _ j _ => ls[k].1.length - (intOf j).toNat)
              case atStart => exact ⟨0, Nat.zero_le _, rfl, by simpa [lookC] using hout2, hblk2, hblkl, hbl⟩
              case round =>
                obtain ⟨m, hm, rfl, hom, hbv, hbli, hbm⟩ := hrel
                have hzm := hbm.size
                have hcm := lookC_len k ls[k].1 m
                have hltl := hbli.lt
                have z0 := hbli.cell 0
                have z1 := hbli.cell 1
                simp only [List.getElem?_toArray, List.getElem?_cons_succ, List.getElem?_cons_zero] at z0 z1
                by_cases hml : m < ls[k].1.length
                · have hvm := hv.mono (Keep.below (S := fun b => b < w.heap.size) hbm) (Keep.below (S := fun b => b < w.heap.size) hbm)
                  have hcs := lookC_snoc k ls[k].1 m
                  rcases wrong_is ls[k].1 m with h0 | h5 | h2
                  · rw [if_pos h0, List.append_nil] at hcs
                    have HCS := hide hcs
                    have hev : errV b (wrongAt ls[k].1 m) = .nilIface := by rw [h0]; rfl
                    have HEV := hide hev
                    clear hcs hev h0
                    go_wp2_with fail
                    refine (Awrong_ok b _ _ _ ls[k].1 m _ (HVA.out.below hbm) hvm hml (by omega)).mono ?_
                    rw [HEV.out]
                    rintro e w7 ⟨rfl, hb7⟩
                    have hb7' := hbm.trans (hb7.mono hzm)
                    go_wp2
                    go_roundw
                    case rel => exact ⟨m + 1, by omega, by go_num, by rw [HCS.out]; exact hom.below hb7, hbv.same hb7, hbli.same hb7, hb7'⟩
                    case measure => simp [intOf]; omega
                  · rw [if_neg (by rw [h5]; decide), h5] at hcs
                    have HCS := hide hcs
                    have hev : errV b (wrongAt ls[k].1 m) = .iface 123 (.pointer (some (b 4))) := by rw [h5]; rfl
                    have HEV := hide hev
                    clear hcs hev h5
                    go_wp2_with fail
                    refine (Awrong_ok b _ _ _ ls[k].1 m _ (HVA.out.below hbm) hvm hml (by omega)).mono ?_
                    rw [HEV.out]
                    rintro e w7 ⟨rfl, hb7⟩
                    have hb7' := hbm.trans (hb7.mono hzm)
                    have hz7 := hb7'.size
                    go_wp2_with fail
                    refine (WrongB_ok m _ _ _).mono ?_
                    rintro e w8 ⟨rfl, hw8⟩
                    have hF1 := Blk.new w7 103 #[.int .i64 m, .iface 123 (.pointer (some (b 4)))]
                    have hb8 := hb7'.alloc hz7 (.cells #[.int .i64 m, .iface 123 (.pointer (some (b 4)))] 103)
                    have ho8 := (hom.below hb7).alloc (.cells #[.int .i64 m, .iface 123 (.pointer (some (b 4)))] 103)
                    have hbv8 := (hbv.same hb7).alloc (.cells #[.int .i64 m, .iface 123 (.pointer (some (b 4)))] 103)
                    have hbl8 := (hbli.same hb7).alloc (.cells #[.int .i64 m, .iface 123 (.pointer (some (b 4)))] 103)
                    rw [← hw8] at hF1 hb8 ho8 hbv8 hbl8
                    clear hw8
                    have hz8 := hb8.size
                    go_wp2_with fail
                    refine (WrongB_ok k _ _ _).mono ?_
                    rintro e w9 ⟨rfl, hw9⟩
                    have hF2 := Blk.new w8 103 #[.int .i64 k, .iface 101 (.pointer (some ⟨w7.heap.size, 0, none⟩))]
                    have hF1 := hF1.alloc (.cells #[.int .i64 k, .iface 101 (.pointer (some ⟨w7.heap.size, 0, none⟩))] 103)
                    have hb9 := hb8.alloc hz8 (.cells #[.int .i64 k, .iface 101 (.pointer (some ⟨w7.heap.size, 0, none⟩))] 103)
                    have ho9 := ho8.alloc (.cells #[.int .i64 k, .iface 101 (.pointer (some ⟨w7.heap.size, 0, none⟩))] 103)
                    have hbv9 := hbv8.alloc (.cells #[.int .i64 k, .iface 101 (.pointer (some ⟨w7.heap.size, 0, none⟩))] 103)
                    have hbl9 := hbl8.alloc (.cells #[.int .i64 k, .iface 101 (.pointer (some ⟨w7.heap.size, 0, none⟩))] 103)
                    rw [← hw9] at hF1 hF2 hb9 ho9 hbv9 hbl9
                    clear hw9
                    have hz9 := hb9.size
                    have hone : Own (RErr b) 31 [103] w.heap.size (w9.alloc (.cells #[.iface 101 (.pointer (some ⟨w8.heap.size, 0, none⟩))] 31)) (.slice (some ⟨w9.heap.size, 0, none⟩) 1 1) [(some ((k : Int), some (m : Int)), 4)] :=
                      Own.lit (xs := [.iface 101 (.pointer (some ⟨w8.heap.size, 0, none⟩))]) (by decide) (Els.single ⟨_, rfl, w8.heap.size, w7.heap.size, rfl, .inr ⟨_, _, _, hF2, by simp⟩, .inr ⟨_, _, _, hF1, by simp⟩, hF2.cell 0, hF2.cell 1, hF1.cell 0, hF1.cell 1⟩) hz9 rfl (by simp [maxLen])
                    have hout4 := ho9.alloc (.cells #[.iface 101 (.pointer (some ⟨w8.heap.size, 0, none⟩))] 31)
                    have hl4 : ((acc1 ++ lookC k ls[k].1 m).map dOf).length ≤ 2 + 1000000 * 1000001 + 1000000 := by rw [List.length_map, List.length_append]; omega
                    have hd : dOf ((k : Int), (m : Int), 5) = (some ((k : Int), some (m : Int)), 4) := by unfold dOf kOf; rw [if_neg (by simp only; omega)]; simp <;> omega
                    have hfin : (acc1 ++ lookC k ls[k].1 m).map dOf ++ [(some ((k : Int), some (m : Int)), 4)] = (acc1 ++ lookC k ls[k].1 (m + 1)).map dOf := by rw [HCS.out, ← List.append_assoc, List.map_append (l₂ := [_]), List.map_singleton, hd]
                    have HFIN := hide hfin
                    clear hd hfin
                    go_wp2_with (at_builtin; refine wpList_appg rfl (.tmp 62) (.tmp 68) 53 rfl (RErr b) 31 [103] w.heap.size 16 _ Tryd.underlying53 err_info rfl Nat.one_pos (by decide) _ _ rfl hout4 _ _ _ _ rfl hone.slc (fun _ h => h) (by simp only [List.length_singleton]; omega) (by simp; omega) ?_; intro v6 w6 hv6 hst6 hg6 hob6)
                    have hst5 := ((Step.alloc1 w.heap.size [31] w9 _).trans hst6)
                    go_roundw
                    case rel => exact ⟨m + 1, by omega, by go_num, by rw [← HFIN.out]; exact hv6, hbv9.step hst5 (by decide), hbl9.step hst5 (by decide), hb9.trans (hst5.below hz9)⟩
                    case measure => simp [intOf]; omega
                  · rw [if_neg (by rw [h2]; decide), h2] at hcs
                    have HCS := hide hcs
                    have hev : errV b (wrongAt ls[k].1 m) = .iface 123 (.pointer (some (b 1))) := by rw [h2]; rfl
                    have HEV := hide hev
                    clear hcs hev h2
                    go_wp2_with fail
                    refine (Awrong_ok b _ _ _ ls[k].1 m _ (HVA.out.below hbm) hvm hml (by omega)).mono ?_
                    rw [HEV.out]
                    rintro e w7 ⟨rfl, hb7⟩
                    have hb7' := hbm.trans (hb7.mono hzm)
                    have hz7 := hb7'.size
                    go_wp2_with fail
                    refine (WrongB_ok m _ _ _).mono ?_
                    rintro e w8 ⟨rfl, hw8⟩
                    have hF1 := Blk.new w7 103 #[.int .i64 m, .iface 123 (.pointer (some (b 1)))]
                    have hb8 := hb7'.alloc hz7 (.cells #[.int .i64 m, .iface 123 (.pointer (some (b 1)))] 103)
                    have ho8 := (hom.below hb7).alloc (.cells #[.int .i64 m, .iface 123 (.pointer (some (b 1)))] 103)
                    have hbv8 := (hbv.same hb7).alloc (.cells #[.int .i64 m, .iface 123 (.pointer (some (b 1)))] 103)
                    have hbl8 := (hbli.same hb7).alloc (.cells #[.int .i64 m, .iface 123 (.pointer (some (b 1)))] 103)
                    rw [← hw8] at hF1 hb8 ho8 hbv8 hbl8
                    clear hw8
                    have hz8 := hb8.size
                    go_wp2_with fail
                    refine (WrongB_ok k _ _ _).mono ?_
                    rintro e w9 ⟨rfl, hw9⟩
                    have hF2 := Blk.new w8 103 #[.int .i64 k, .iface 101 (.pointer (some ⟨w7.heap.size, 0, none⟩))]
                    have hF1 := hF1.alloc (.cells #[.int .i64 k, .iface 101 (.pointer (some ⟨w7.heap.size, 0, none⟩))] 103)
                    have hb9 := hb8.alloc hz8 (.cells #[.int .i64 k, .iface 101 (.pointer (some ⟨w7.heap.size, 0, none⟩))] 103)
                    have ho9 := ho8.alloc (.cells #[.int .i64 k, .iface 101 (.pointer (some ⟨w7.heap.size, 0, none⟩))] 103)
                    have hbv9 := hbv8.alloc (.cells #[.int .i64 k, .iface 101 (.pointer (some ⟨w7.heap.size, 0, none⟩))] 103)
                    have hbl9 := hbl8.alloc (.cells #[.int .i64 k, .iface 101 (.pointer (some ⟨w7.heap.size, 0, none⟩))] 103)
                    rw [← hw9] at hF1 hF2 hb9 ho9 hbv9 hbl9
                    clear hw9
                    have hz9 := hb9.size
                    have hone : Own (RErr b) 31 [103] w.heap.size (w9.alloc (.cells #[.iface 101 (.pointer (some ⟨w8.heap.size, 0, none⟩))] 31)) (.slice (some ⟨w9.heap.size, 0, none⟩) 1 1) [(some ((k : Int), some (m : Int)), 1)] :=
                      Own.lit (xs := [.iface 101 (.pointer (some ⟨w8.heap.size, 0, none⟩))]) (by decide) (Els.single ⟨_, rfl, w8.heap.size, w7.heap.size, rfl, .inr ⟨_, _, _, hF2, by simp⟩, .inr ⟨_, _, _, hF1, by simp⟩, hF2.cell 0, hF2.cell 1, hF1.cell 0, hF1.cell 1⟩) hz9 rfl (by simp [maxLen])
                    have hout4 := ho9.alloc (.cells #[.iface 101 (.pointer (some ⟨w8.heap.size, 0, none⟩))] 31)
                    have hl4 : ((acc1 ++ lookC k ls[k].1 m).map dOf).length ≤ 2 + 1000000 * 1000001 + 1000000 := by rw [List.length_map, List.length_append]; omega
                    have hd : dOf ((k : Int), (m : Int), 2) = (some ((k : Int), some (m : Int)), 1) := by unfold dOf kOf; rw [if_neg (by simp only; omega)]; simp <;> omega
                    have hfin : (acc1 ++ lookC k ls[k].1 m).map dOf ++ [(some ((k : Int), some (m : Int)), 1)] = (acc1 ++ lookC k ls[k].1 (m + 1)).map dOf := by rw [HCS.out, ← List.append_assoc, List.map_append (l₂ := [_]), List.map_singleton, hd]
                    have HFIN := hide hfin
                    clear hd hfin
                    go_wp2_with (at_builtin; refine wpList_appg rfl (.tmp 62) (.tmp 68) 53 rfl (RErr b) 31 [103] w.heap.size 16 _ Tryd.underlying53 err_info rfl Nat.one_pos (by decide) _ _ rfl hout4 _ _ _ _ rfl hone.slc (fun _ h => h) (by simp only [List.length_singleton]; omega) (by simp; omega) ?_; intro v6 w6 hv6 hst6 hg6 hob6)
                    have hst5 := ((Step.alloc1 w.heap.size [31] w9 _).trans hst6)
                    go_roundw
                    case rel => exact ⟨m + 1, by omega, by go_num, by rw [← HFIN.out]; exact hv6, hbv9.step hst5 (by decide), hbl9.step hst5 (by decide), hb9.trans (hst5.below hz9)⟩
                    case measure => simp [intOf]; omega
                · obtain rfl : m = ls[k].1.length := by omega
                  have hfin := hom
                  rw [← HA1.out] at hfin
                  go_wp2
                  go_roundw
                  case rel => exact ⟨k + 1, by omega, by go_num, hfin, hbv, hbm⟩
                  case measure => simp [intOf]; omega
            · have e1 : ((ls[k].1.length : Int) != wd) = true := by simp [hw1]
              rw [if_neg hw1] at hsn
              have HSN := hide hsn
              clear hsn hw1
              have hE := (hbl.cell (p := ⟨4, 0, none⟩) hl3).trans hE3
              go_wp2_with fail
              refine (WrongB_ok k _ _ _).mono ?_
              rintro e w5 ⟨rfl, hw5⟩
              have hbF := Blk.new (wr.alloc (.cells #[.slice A2 ls[k].1.length c2, .bool ls[k].2] 45)) 103 #[.int .i64 k, .iface 123 (.pointer (some (b 3)))]
              have hout3 := hout2.alloc (.cells #[.int .i64 k, .iface 123 (.pointer (some (b 3)))] 103)
              have hblk3 := hblk2.alloc (.cells #[.int .i64 k, .iface 123 (.pointer (some (b 3)))] 103)
              have hblkl3 := hblkl.alloc (.cells #[.int .i64 k, .iface 123 (.pointer (some (b 3)))] 103)
              have hbl3 := hbl.alloc hzl (.cells #[.int .i64 k, .iface 123 (.pointer (some (b 3)))] 103)
              rw [← hw5] at hbF hout3 hblk3 hblkl3 hbl3
              have hs5 : (wr.alloc (.cells #[.slice A2 ls[k].1.length c2, .bool ls[k].2] 45)).heap.size = wr.heap.size + 1 := by simp
              rw [hs5] at hbF ⊢
              clear hw5
              have hz5 := hbl3.size
              have hone : Own (RErr b) 31 [103] w.heap.size (w5.alloc (.cells #[.iface 101 (.pointer (some ⟨wr.heap.size + 1, 0, none⟩))] 31)) (.slice (some ⟨w5.heap.size, 0, none⟩) 1 1) [(some ((k : Int), none), 3)] :=
                Own.lit (xs := [.iface 101 (.pointer (some ⟨wr.heap.size + 1, 0, none⟩))]) (by decide) (Els.single ⟨_, rfl, wr.heap.size + 1, rfl, .inr ⟨_, _, _, hbF, by simp⟩, hbF.cell 0, hbF.cell 1⟩) hz5 rfl (by simp [maxLen])
              have hout4 := hout3.alloc (.cells #[.iface 101 (.pointer (some ⟨wr.heap.size + 1, 0, none⟩))] 31)
              have hl4 : ((acc0 ++ lookN wd ls k).map dOf).length ≤ 1 + 1000000 * 1000001 := by rw [List.length_map, List.length_append]; omega
              go_wp2_with (at_builtin; refine wpList_appg rfl (.tmp 44) (.tmp 48) 53 rfl (RErr b) 31 [103] w.heap.size 16 _ Tryd.underlying53 err_info rfl Nat.one_pos (by decide) _ _ rfl hout4 _ _ _ _ rfl hone.slc (fun _ h => h) (by simp only [List.length_singleton]; omega) (by simp; omega) ?_; intro v6 w6 hv6 hst6 hg6 hob6; have hst5 := ((Step.alloc1 w.heap.size [31] w5 _).trans hst6); have hblkl6 := hblkl3.step hst5 (by decide); have z0 := hblkl6.cell 0; simp only [List.getElem?_toArray, List.getElem?_cons_succ, List.getElem?_cons_zero] at z0)
              have hout2 := hv6
              have hb6 := hbl3.trans (hst5.below hz5)
              have hz6 := hb6.size
              have hblk2 := hblk3.step hst5 (by decide)
              have hblkl := hblkl6
              clear z0
              have hd : dOf ((k : Int), -1, 4) = (some ((k : Int), none), 3) := by unfold dOf kOf; rw [if_neg (by simp only; omega)]; simp
              have hm6 : (acc0 ++ lookN wd ls k).map dOf ++ [(some ((k : Int), none), 3)] = ((acc0 ++ lookN wd ls k) ++ [((k : Int), -1, 4)]).map dOf := by rw [List.map_append (l₂ := [_]), List.map_singleton, hd]
              rw [hm6] at hout2
              obtain ⟨acc1, hacc1⟩ : ∃ acc1, acc1 = (acc0 ++ lookN wd ls k) ++ [((k : Int), -1, 4)] := ⟨_, rfl⟩
              rw [← hacc1] at hout2
              have ha1 : acc1.length ≤ 1 + 1000000 * 1000001 + 1 := by rw [hacc1, List.length_append, List.length_append, List.length_singleton]; omega
              have HA1 : Hid (acc0 ++ lookN wd ls (k + 1) = acc1 ++ lookC k ls[k].1 ls[k].1.length) := hide (by rw [HSN.out, hacc1]; simp only [List.append_assoc])
              clear hacc1 hout hm6 hv6
              have hbl := hb6
              go_loopw [3, 53] (fun out j wq => ∃ m : Nat, m ≤ ls[k].1.length ∧ j = .int .i64 m ∧ Own (RErr b) 31 [103] w.heap.size wq out ((acc1 ++ lookC k ls[k].1 m).map dOf) ∧ Blk wq w.heap.size 26 #[.int .i64 wd, .int .i64 hi, .slice (some ⟨ab, off, none⟩) ls.length cp, .int .i64 r, .int .i64 c, .bool p, .bool au] ∧ Blk wq wr.heap.size 45 #[.slice A2 ls[k].1.length c2, .bool ls[k].2] ∧ Below w.heap.size w wq) (fun _ j _ => ls[k].1.length - (intOf j).toNat)
              case atStart => exact ⟨0, Nat.zero_le _, rfl, by simpa [lookC] using hout2, hblk2, hblkl, hbl⟩
              case round =>
                obtain ⟨m, hm, rfl, hom, hbv, hbli, hbm⟩ := hrel
                have hzm := hbm.size
                have hcm := lookC_len k ls[k].1 m
                have hltl := hbli.lt
                have z0 := hbli.cell 0
                have z1 := hbli.cell 1
                simp only [List.getElem?_toArray, List.getElem?_cons_succ, List.getElem?_cons_zero] at z0 z1
                by_cases hml : m < ls[k].1.length
                · have hvm := hv.mono (Keep.below (S := fun b => b < w.heap.size) hbm) (Keep.below (S := fun b => b < w.heap.size) hbm)
                  have hcs := lookC_snoc k ls[k].1 m
                  rcases wrong_is ls[k].1 m with h0 | h5 | h2
                  · rw [if_pos h0, List.append_nil] at hcs
                    have HCS := hide hcs
                    have hev : errV b (wrongAt ls[k].1 m) = .nilIface := by rw [h0]; rfl
                    have HEV := hide hev
                    clear hcs hev h0
                    go_wp2_with fail
                    refine (Awrong_ok b _ _ _ ls[k].1 m _ (HVA.out.below hbm) hvm hml (by omega)).mono ?_
                    rw [HEV.out]
                    rintro e w7 ⟨rfl, hb7⟩
                    have hb7' := hbm.trans (hb7.mono hzm)
                    go_wp2
                    go_roundw
                    case rel => exact ⟨m + 1, by omega, by go_num, by rw [HCS.out]; exact hom.below hb7, hbv.same hb7, hbli.same hb7, hb7'⟩
                    case measure => simp [intOf]; omega
                  · rw [if_neg (by rw [h5]; decide), h5] at hcs
                    have HCS := hide hcs
                    have hev : errV b (wrongAt ls[k].1 m) = .iface 123 (.pointer (some (b 4))) := by rw [h5]; rfl
                    have HEV := hide hev
                    clear hcs hev h5
                    go_wp2_with fail
                    refine (Awrong_ok b _ _ _ ls[k].1 m _ (HVA.out.below hbm) hvm hml (by omega)).mono ?_
                    rw [HEV.out]
                    rintro e w7 ⟨rfl, hb7⟩
                    have hb7' := hbm.trans (hb7.mono hzm)
                    have hz7 := hb7'.size
                    go_wp2_with fail
                    refine (WrongB_ok m _ _ _).mono ?_
                    rintro e w8 ⟨rfl, hw8⟩
                    have hF1 := Blk.new w7 103 #[.int .i64 m, .iface 123 (.pointer (some (b 4)))]
                    have hb8 := hb7'.alloc hz7 (.cells #[.int .i64 m, .iface 123 (.pointer (some (b 4)))] 103)
                    have ho8 := (hom.below hb7).alloc (.cells #[.int .i64 m, .iface 123 (.pointer (some (b 4)))] 103)
                    have hbv8 := (hbv.same hb7).alloc (.cells #[.int .i64 m, .iface 123 (.pointer (some (b 4)))] 103)
                    have hbl8 := (hbli.same hb7).alloc (.cells #[.int .i64 m, .iface 123 (.pointer (some (b 4)))] 103)
                    rw [← hw8] at hF1 hb8 ho8 hbv8 hbl8
                    clear hw8
                    have hz8 := hb8.size
                    go_wp2_with fail
                    refine (WrongB_ok k _ _ _).mono ?_
                    rintro e w9 ⟨rfl, hw9⟩
                    have hF2 := Blk.new w8 103 #[.int .i64 k, .iface 101 (.pointer (some ⟨w7.heap.size, 0, none⟩))]
                    have hF1 := hF1.alloc (.cells #[.int .i64 k, .iface 101 (.pointer (some ⟨w7.heap.size, 0, none⟩))] 103)
                    have hb9 := hb8.alloc hz8 (.cells #[.int .i64 k, .iface 101 (.pointer (some ⟨w7.heap.size, 0, none⟩))] 103)
                    have ho9 := ho8.alloc (.cells #[.int .i64 k, .iface 101 (.pointer (some ⟨w7.heap.size, 0, none⟩))] 103)
                    have hbv9 := hbv8.alloc (.cells #[.int .i64 k, .iface 101 (.pointer (some ⟨w7.heap.size, 0, none⟩))] 103)
                    have hbl9 := hbl8.alloc (.cells #[.int .i64 k, .iface 101 (.pointer (some ⟨w7.heap.size, 0, none⟩))] 103)
                    rw [← hw9] at hF1 hF2 hb9 ho9 hbv9 hbl9
                    clear hw9
                    have hz9 := hb9.size
                    have hone : Own (RErr b) 31 [103] w.heap.size (w9.alloc (.cells #[.iface 101 (.pointer (some ⟨w8.heap.size, 0, none⟩))] 31)) (.slice (some ⟨w9.heap.size, 0, none⟩) 1 1) [(some ((k : Int), some (m : Int)), 4)] :=
                      Own.lit (xs := [.iface 101 (.pointer (some ⟨w8.heap.size, 0, none⟩))]) (by decide) (Els.single ⟨_, rfl, w8.heap.size, w7.heap.size, rfl, .inr ⟨_, _, _, hF2, by simp⟩, .inr ⟨_, _, _, hF1, by simp⟩, hF2.cell 0, hF2.cell 1, hF1.cell 0, hF1.cell 1⟩) hz9 rfl (by simp [maxLen])
                    have hout4 := ho9.alloc (.cells #[.iface 101 (.pointer (some ⟨w8.heap.size, 0, none⟩))] 31)
                    have hl4 : ((acc1 ++ lookC k ls[k].1 m).map dOf).length ≤ 2 + 1000000 * 1000001 + 1000000 := by rw [List.length_map, List.length_append]; omega
                    have hd : dOf ((k : Int), (m : Int), 5) = (some ((k : Int), some (m : Int)), 4) := by unfold dOf kOf; rw [if_neg (by simp only; omega)]; simp <;> omega
                    have hfin : (acc1 ++ lookC k ls[k].1 m).map dOf ++ [(some ((k : Int), some (m : Int)), 4)] = (acc1 ++ lookC k ls[k].1 (m + 1)).map dOf := by rw [HCS.out, ← List.append_assoc, List.map_append (l₂ := [_]), List.map_singleton, hd]
                    have HFIN := hide hfin
                    clear hd hfin
                    go_wp2_with (at_builtin; refine wpList_appg rfl (.tmp 62) (.tmp 68) 53 rfl (RErr b) 31 [103] w.heap.size 16 _ Tryd.underlying53 err_info rfl Nat.one_pos (by decide) _ _ rfl hout4 _ _ _ _ rfl hone.slc (fun _ h => h) (by simp only [List.length_singleton]; omega) (by simp; omega) ?_; intro v6 w6 hv6 hst6 hg6 hob6)
                    have hst5 := ((Step.alloc1 w.heap.size [31] w9 _).trans hst6)
                    go_roundw
                    case rel => exact ⟨m + 1, by omega, by go_num, by rw [← HFIN.out]; exact hv6, hbv9.step hst5 (by decide), hbl9.step hst5 (by decide), hb9.trans (hst5.below hz9)⟩
                    case measure => simp [intOf]; omega
                  · rw [if_neg (by rw [h2]; decide), h2] at hcs
                    have HCS := hide hcs
                    have hev : errV b (wrongAt ls[k].1 m) = .iface 123 (.pointer (some (b 1))) := by rw [h2]; rfl
                    have HEV := hide hev
                    clear hcs hev h2
                    go_wp2_with fail
                    refine (Awrong_ok b _ _ _ ls[k].1 m _ (HVA.out.below hbm) hvm hml (by omega)).mono ?_
                    rw [HEV.out]
                    rintro e w7 ⟨rfl, hb7⟩
                    have hb7' := hbm.trans (hb7.mono hzm)
                    have hz7 := hb7'.size
                    go_wp2_with fail
                    refine (WrongB_ok m _ _ _).mono ?_
                    rintro e w8 ⟨rfl, hw8⟩
                    have hF1 := Blk.new w7 103 #[.int .i64 m, .iface 123 (.pointer (some (b 1)))]
                    have hb8 := hb7'.alloc hz7 (.cells #[.int .i64 m, .iface 123 (.pointer (some (b 1)))] 103)
                    have ho8 := (hom.below hb7).alloc (.cells #[.int .i64 m, .iface 123 (.pointer (some (b 1)))] 103)
                    have hbv8 := (hbv.same hb7).alloc (.cells #[.int .i64 m, .iface 123 (.pointer (some (b 1)))] 103)
                    have hbl8 := (hbli.same hb7).alloc (.cells #[.int .i64 m, .iface 123 (.pointer (some (b 1)))] 103)
                    rw [← hw8] at hF1 hb8 ho8 hbv8 hbl8
                    clear hw8
                    have hz8 := hb8.size
                    go_wp2_with fail
                    refine (WrongB_ok k _ _ _).mono ?_
                    rintro e w9 ⟨rfl, hw9⟩
                    have hF2 := Blk.new w8 103 #[.int .i64 k, .iface 101 (.pointer (some ⟨w7.heap.size, 0, none⟩))]
                    have hF1 := hF1.alloc (.cells #[.int .i64 k, .iface 101 (.pointer (some ⟨w7.heap.size, 0, none⟩))] 103)
                    have hb9 := hb8.alloc hz8 (.cells #[.int .i64 k, .iface 101 (.pointer (some ⟨w7.heap.size, 0, none⟩))] 103)
                    have ho9 := ho8.alloc (.cells #[.int .i64 k, .iface 101 (.pointer (some ⟨w7.heap.size, 0, none⟩))] 103)
                    have hbv9 := hbv8.alloc (.cells #[.int .i64 k, .iface 101 (.pointer (some ⟨w7.heap.size, 0, none⟩))] 103)
                    have hbl9 := hbl8.alloc (.cells #[.int .i64 k, .iface 101 (.pointer (some ⟨w7.heap.size, 0, none⟩))] 103)
                    rw [← hw9] at hF1 hF2 hb9 ho9 hbv9 hbl9
                    clear hw9
                    have hz9 := hb9.size
                    have hone : Own (RErr b) 31 [103] w.heap.size (w9.alloc (.cells #[.iface 101 (.pointer (some ⟨w8.heap.size, 0, none⟩))] 31)) (.slice (some ⟨w9.heap.size, 0, none⟩) 1 1) [(some ((k : Int), some (m : Int)), 1)] :=
                      Own.lit (xs := [.iface 101 (.pointer (some ⟨w8.heap.size, 0, none⟩))]) (by decide) (Els.single ⟨_, rfl, w8.heap.size, w7.heap.size, rfl, .inr ⟨_, _, _, hF2, by simp⟩, .inr ⟨_, _, _, hF1, by simp⟩, hF2.cell 0, hF2.cell 1, hF1.cell 0, hF1.cell 1⟩) hz9 rfl (by simp [maxLen])
                    have hout4 := ho9.alloc (.cells #[.iface 101 (.pointer (some ⟨w8.heap.size, 0, none⟩))] 31)
                    have hl4 : ((acc1 ++ lookC k ls[k].1 m).map dOf).length ≤ 2 + 1000000 * 1000001 + 1000000 := by rw [List.length_map, List.length_append]; omega
                    have hd : dOf ((k : Int), (m : Int), 2) = (some ((k : Int), some (m : Int)), 1) := by unfold dOf kOf; rw [if_neg (by simp only; omega)]; simp <;> omega
                    have hfin : (acc1 ++ lookC k ls[k].1 m).map dOf ++ [(some ((k : Int), some (m : Int)), 1)] = (acc1 ++ lookC k ls[k].1 (m + 1)).map dOf := by rw [HCS.out, ← List.append_assoc, List.map_append (l₂ := [_]), List.map_singleton, hd]
                    have HFIN := hide hfin
                    clear hd hfin
                    go_wp2_with (at_builtin; refine wpList_appg rfl (.tmp 62) (.tmp 68) 53 rfl (RErr b) 31 [103] w.heap.size 16 _ Tryd.underlying53 err_info rfl Nat.one_pos (by decide) _ _ rfl hout4 _ _ _ _ rfl hone.slc (fun _ h => h) (by simp only [List.length_singleton]; omega) (by simp; omega) ?_; intro v6 w6 hv6 hst6 hg6 hob6)
                    have hst5 := ((Step.alloc1 w.heap.size [31] w9 _).trans hst6)
                    go_roundw
                    case rel => exact ⟨m + 1, by omega, by go_num, by rw [← HFIN.out]; exact hv6, hbv9.step hst5 (by decide), hbl9.step hst5 (by decide), hb9.trans (hst5.below hz9)⟩
                    case measure => simp [intOf]; omega
                · obtain rfl : m = ls[k].1.length := by omega
                  have hfin := hom
                  rw [← HA1.out] at hfin
                  go_wp2
                  go_roundw
                  case rel => exact ⟨k + 1, by omega, by go_num, hfin, hbv, hbm⟩
                  case measure => simp [intOf]; omega
          · obtain rfl : k = ls.length := by omega
            go_wp2_with fail
            refine (HCR.out _).mono ?_
            rintro e w5 ⟨rfl, hb5⟩
            have hb5' := hbel.trans (hb5.mono hsz)
            have hz5 := hb5'.size
            have hv5 := hout.below hb5
            rcases Bool.eq_false_or_eq_true (curRight r c p wd hi) with hcu | hcu
            · have hres := HLF.out
              rw [if_pos hcu, List.append_nil] at hres
              have HR := hide hres
              clear hres
              go_wp2
              go_ret
              rw [HR.out]
              exact ⟨_, rfl, hv5, hb5'⟩
            · have hres := HLF.out
              rw [if_neg (by rw [hcu]; simp)] at hres
              have HR := hide hres
              have hE := (hb5'.cell (p := ⟨7, 0, none⟩) hl7).trans hE7
              have hone : Own (RErr b) 31 [103] w.heap.size (w5.alloc (.cells #[.iface 123 (.pointer (some (b 7)))] 31)) (.slice (some ⟨w5.heap.size, 0, none⟩) 1 1) [(none, 7)] :=
                Own.lit (xs := [.iface 123 (.pointer (some (b 7)))]) (by decide) (Els.single ⟨_, rfl, rfl⟩) hz5 rfl (by simp [maxLen])
              have hout4 := hv5.alloc (.cells #[.iface 123 (.pointer (some (b 7)))] 31)
              have ha0 : acc0.length ≤ 1 := HACC.out
              have hl4 : ((acc0 ++ lookN wd ls ls.length).map dOf).length ≤ 1 + 1000000 * 1000001 := by rw [List.length_map, List.length_append]; omega
              have hd : dOf (-1, -1, 8) = (none, 7) := by decide
              clear hres
              go_wp2_with (at_builtin; refine wpList_appg rfl (.tmp 80) (.tmp 82) 53 rfl (RErr b) 31 [103] w.heap.size 16 _ Tryd.underlying53 err_info rfl Nat.one_pos (by decide) _ _ rfl hout4 _ _ _ _ rfl hone.slc (fun _ h => h) (by simp only [List.length_singleton]; omega) (by simp; omega) ?_; intro v6 w6 hv6 hst6 hg6 hob6)
              have hst5 := ((Step.alloc1 w.heap.size [31] w5 _).trans hst6)
              go_ret
              rw [HR.out, List.map_append (l₂ := [_]), List.map_singleton, hd]
              exact ⟨_, rfl, hv6, hb5'.trans (hst5.below hz5)⟩
      · have q2 : (hi != ls.length) = true := by simp [k2]
        rw [decide_eq_false (fun h => k2 h.1)] at hlf
        obtain ⟨acc0, hac⟩ : ∃ acc0 : List FoundV, acc0 = [(-1, -1, 3)] := ⟨_, rfl⟩
        have HLF : Hid (res = acc0 ++ lookN wd ls ls.length ++ (if curRight r c p wd hi = true then [] else [(-1, -1, 8)])) := hide (by rw [hlf, hac]; rfl)
        clear hlf
        have HACC : Hid (acc0.length ≤ 1) := hide (by rw [hac]; simp)
        have HBLKS := hide hblk0
        have hE := (hb0.cell (p := ⟨3, 0, none⟩) hl2).trans hE2
        go_enter Tryd.func38, Tryd.ntmps38
        go_wp2_with fail
        refine (Aside_ok wd _).mono ?_
        rw [decide_eq_true k0]
        rintro e w1 ⟨rfl, rfl⟩
        go_wp2_with fail
        refine (Aside_ok hi _).mono ?_
        rw [decide_eq_true k1]
        rintro e w1 ⟨rfl, rfl⟩
        have hblkB := HBLKS.out
        have hone : Own (RErr b) 31 [103] w.heap.size ((w.alloc (.cells #[.int .i64 wd, .int .i64 hi, .slice A ls.length cp, .int .i64 r, .int .i64 c, .bool p, .bool au] 26)).alloc (.cells #[.iface 123 (.pointer (some (b 2)))] 31)) (.slice (some ⟨(w.alloc (.cells #[.int .i64 wd, .int .i64 hi, .slice A ls.length cp, .int .i64 r, .int .i64 c, .bool p, .bool au] 26)).heap.size, 0, none⟩) 1 1) [(none, 2)] :=
          Own.lit (xs := [.iface 123 (.pointer (some (b 2)))]) (by decide) (Els.single ⟨_, rfl, rfl⟩) hz0 rfl (by simp [maxLen])
        simp only [World.size_alloc] at hone
        have hout0 := Own.nil_ (RErr b) 31 [103] w.heap.size ((w.alloc (.cells #[.int .i64 wd, .int .i64 hi, .slice A ls.length cp, .int .i64 r, .int .i64 c, .bool p, .bool au] 26)).alloc (.cells #[.iface 123 (.pointer (some (b 2)))] 31)) (by decide)
        go_wp2_with (at_builtin; refine wpList_appg rfl (.tmp 26) (.tmp 28) 53 rfl (RErr b) 31 [103] w.heap.size 16 _ Tryd.underlying53 err_info rfl Nat.one_pos (by decide) _ _ rfl hout0 _ _ _ _ rfl hone.slc (fun _ h => h) (by simp) (by simp; omega) ?_; intro v1 w1 hv1 hst1 hg1 hob1; have hst0 := ((Step.alloc1 w.heap.size [31] (w.alloc (.cells #[.int .i64 wd, .int .i64 hi, .slice A ls.length cp, .int .i64 r, .int .i64 c, .bool p, .bool au] 26)) _).trans hst1); have hbk1 := hblk0.step hst0 (by decide); have z2 := hbk1.cell 2; simp only [List.getElem?_toArray, List.getElem?_cons_succ, List.getElem?_cons_zero] at z2)
        have HV0 : Own (RErr b) 31 [103] w.heap.size w1 v1 (acc0.map dOf) := by rw [hac]; exact hv1
        have HBLK := hblk0.step hst0 (by decide)
        have HB0 := hb0.trans (hst0.below hz0)
        clear hac
        go_loopw [3, 33] (fun out i wr => ∃ k : Nat, k ≤ ls.length ∧ i = .int .i64 k ∧ Own (RErr b) 31 [103] w.heap.size wr out ((acc0 ++ lookN wd ls k).map dOf) ∧ Blk wr w.heap.size 26 #[.int .i64 wd, .int .i64 hi, .slice A ls.length cp, .int .i64 r, .int .i64 c, .bool p, .bool au] ∧ Below w.heap.size w wr) (fun _ i _ => ls.length - (intOf i).toNat)
        case atStart => exact ⟨0, Nat.zero_le _, rfl, by simpa [lookN] using HV0, HBLK, HB0⟩
        case round =>
          obtain ⟨k, hk, rfl, hout, hblkr, hbel⟩ := hrel
          have hsz := hbel.size
          have hlt0 := hblkr.lt
          have y0 := hblkr.cell 0
          have y1 := hblkr.cell 1
          have y3 := hblkr.cell 3
          have y4 := hblkr.cell 4
          have y5 := hblkr.cell 5
          simp only [List.getElem?_toArray, List.getElem?_cons_succ, List.getElem?_cons_zero] at y0 y1 y3 y4 y5
          have hnl := HNL.out k hk
          have hk6 : k * 1000001 ≤ 1000000 * 1000001 := Nat.mul_le_mul_right _ (by omega)
          by_cases hlt : k < ls.length
          · obtain ⟨ab, off, v2, rfl, _, p0, p1, hv⟩ := line_at hx.slb hlt
            obtain ⟨A2, c2, rfl, _, _, _⟩ := hv.open_
            have hab := World.block_lt_of_cell? w _ p0
            simp only at hab
            have q8 := (hbel.cell (p := ⟨ab, off + k * 2, none⟩) hab).trans p0
            have q9 := (hbel.cell (p := ⟨ab, off + k * 2 + 1, none⟩) hab).trans p1
            have hln := HLEN.out ls[k] (List.getElem_mem _)
            have hsn := lookN_snoc wd ls k hlt
            have hll2 : lookL wd k ls[k] = (if (ls[k].1.length : Int) = wd then [] else [((k : Int), -1, 4)]) ++ lookC k ls[k].1 ls[k].1.length := rfl
            rw [hll2] at hsn
            have hblk2 := hblkr.alloc (.cells #[.slice A2 ls[k].1.length c2, .bool ls[k].2] 45)
            have hblkl := Blk.new wr 45 #[.slice A2 ls[k].1.length c2, .bool ls[k].2]
            have hout2 := hout.alloc (.cells #[.slice A2 ls[k].1.length c2, .bool ls[k].2] 45)
            have hbl := hbel.alloc hsz (.cells #[.slice A2 ls[k].1.length c2, .bool ls[k].2] 45)
            have hzl := hbl.size
            have ha0 : acc0.length ≤ 1 := HACC.out
            clear p0 p1 hll2
            by_cases hw1 : (ls[k].1.length : Int) = wd
            · have e1 : ((ls[k].1.length : Int) != wd) = false := by simp [hw1]
              rw [if_pos hw1, List.nil_append] at hsn
              have HSN := hide hsn
              clear hsn hw1
              obtain ⟨acc1, hacc1⟩ : ∃ acc1, acc1 = acc0 ++ lookN wd ls k := ⟨_, rfl⟩
              rw [← hacc1] at hout2
              have ha1 : acc1.length ≤ 1 + 1000000 * 1000001 + 1 := by rw [hacc1, List.length_append]; omega
              have HA1 : Hid (acc0 ++ lookN wd ls (k + 1) = acc1 ++ lookC k ls[k].1 ls[k].1.length) := hide (by rw [HSN.out, hacc1, List.append_assoc])
              clear hacc1 hout
              go_wp2
              go_loopw [3, 53] (fun out j wq => ∃ m : Nat, m ≤ ls[k].1.length ∧ j = .int .i64 m ∧ Own (RErr b) 31 [103] w.heap.size wq out ((acc1 ++ lookC k ls[k].1 m).map dOf) ∧ Blk wq w.heap.size 26 #[.int .i64 wd, .int .i64 hi, .slice (some ⟨ab, off, none⟩) ls.length cp, .int .i64 r, .int .i64 c, .bool p, .bool au] ∧ Blk wq wr.heap.size 45 #[.slice A2 ls[k].1.length c2, .bool ls[k].2] ∧ Below w.heap.size w wq) (fun _ j _ => ls[k].1.length - (intOf j).toNat)
              case atStart => exact ⟨0, Nat.zero_le _, rfl, by simpa [lookC] using hout2, hblk2, hblkl, hbl⟩
              case round =>
                obtain ⟨m, hm, rfl, hom, hbv, hbli, hbm⟩ := hrel
                have hzm := hbm.size
                have hcm := lookC_len k ls[k].1 m
                have hltl := hbli.lt
                have z0 := hbli.cell 0
                have z1 := hbli.cell 1
                simp only [List.getElem?_toArray, List.getElem?_cons_succ, List.getElem?_cons_zero] at z0 z1
                by_cases hml : m < ls[k].1.length
                · have hvm := hv.mono (Keep.below (S := fun b => b < w.heap.size) hbm) (Keep.below (S := fun b => b < w.heap.size) hbm)
                  have hcs := lookC_snoc k ls[k].1 m
                  rcases wrong_is ls[k].1 m with h0 | h5 | h2
                  · rw [if_pos h0, List.append_nil] at hcs
                    have HCS := hide hcs
                    have hev : errV b (wrongAt ls[k].1 m) = .nilIface := by rw [h0]; rfl
                    have HEV := hide hev
                    clear hcs hev h0
                    go_wp2_with fail
                    refine (Awrong_ok b _ _ _ ls[k].1 m _ (HVA.out.below hbm) hvm hml (by omega)).mono ?_
                    rw [HEV.out]
                    rintro e w7 ⟨rfl, hb7⟩
                    have hb7' := hbm.trans (hb7.mono hzm)
                    go_wp2
                    go_roundw
                    case rel => exact ⟨m + 1, by omega, by go_num, by rw [HCS.out]; exact hom.below hb7, hbv.same hb7, hbli.same hb7, hb7'⟩
                    case measure => simp [intOf]; omega
                  · rw [if_neg (by rw [h5]; decide), h5] at hcs
                    have HCS := hide hcs
                    have hev : errV b (wrongAt ls[k].1 m) = .iface 123 (.pointer (some (b 4))) := by rw [h5]; rfl
                    have HEV := hide hev
                    clear hcs hev h5
                    go_wp2_with fail
                    refine (Awrong_ok b _ _ _ ls[k].1 m _ (HVA.out.below hbm) hvm hml (by omega)).mono ?_
                    rw [HEV.out]
                    rintro e w7 ⟨rfl, hb7⟩
                    have hb7' := hbm.trans (hb7.mono hzm)
                    have hz7 := hb7'.size
                    go_wp2_with fail
                    refine (WrongB_ok m _ _ _).mono ?_
                    rintro e w8 ⟨rfl, hw8⟩
                    have hF1 := Blk.new w7 103 #[.int .i64 m, .iface 123 (.pointer (some (b 4)))]
                    have hb8 := hb7'.alloc hz7 (.cells #[.int .i64 m, .iface 123 (.pointer (some (b 4)))] 103)
                    have ho8 := (hom.below hb7).alloc (.cells #[.int .i64 m, .iface 123 (.pointer (some (b 4)))] 103)
                    have hbv8 := (hbv.same hb7).alloc (.cells #[.int .i64 m, .iface 123 (.pointer (some (b 4)))] 103)
                    have hbl8 := (hbli.same hb7).alloc (.cells #[.int .i64 m, .iface 123 (.pointer (some (b 4)))] 103)
                    rw [← hw8] at hF1 hb8 ho8 hbv8 hbl8
                    clear hw8
                    have hz8 := hb8.size
                    go_wp2_with fail
                    refine (WrongB_ok k _ _ _).mono ?_
                    rintro e w9 ⟨rfl, hw9⟩
                    have hF2 := Blk.new w8 103 #[.int .i64 k, .iface 101 (.pointer (some ⟨w7.heap.size, 0, none⟩))]
                    have hF1 := hF1.alloc (.cells #[.int .i64 k, .iface 101 (.pointer (some ⟨w7.heap.size, 0, none⟩))] 103)
                    have hb9 := hb8.alloc hz8 (.cells #[.int .i64 k, .iface 101 (.pointer (some ⟨w7.heap.size, 0, none⟩))] 103)
                    have ho9 := ho8.alloc (.cells #[.int .i64 k, .iface 101 (.pointer (some ⟨w7.heap.size, 0, none⟩))] 103)
                    have hbv9 := hbv8.alloc (.cells #[.int .i64 k, .iface 101 (.pointer (some ⟨w7.heap.size, 0, none⟩))] 103)
                    have hbl9 := hbl8.alloc (.cells #[.int .i64 k, .iface 101 (.pointer (some ⟨w7.heap.size, 0, none⟩))] 103)
                    rw [← hw9] at hF1 hF2 hb9 ho9 hbv9 hbl9
                    clear hw9
                    have hz9 := hb9.size
                    have hone : Own (RErr b) 31 [103] w.heap.size (w9.alloc (.cells #[.iface 101 (.pointer (some ⟨w8.heap.size, 0, none⟩))] 31)) (.slice (some ⟨w9.heap.size, 0, none⟩) 1 1) [(some ((k : Int), some (m : Int)), 4)] :=
                      Own.lit (xs := [.iface 101 (.pointer (some ⟨w8.heap.size, 0, none⟩))]) (by decide) (Els.single ⟨_, rfl, w8.heap.size, w7.heap.size, rfl, .inr ⟨_, _, _, hF2, by simp⟩, .inr ⟨_, _, _, hF1, by simp⟩, hF2.cell 0, hF2.cell 1, hF1.cell 0, hF1.cell 1⟩) hz9 rfl (by simp [maxLen])
                    have hout4 := ho9.alloc (.cells #[.iface 101 (.pointer (some ⟨w8.heap.size, 0, none⟩))] 31)
                    have hl4 : ((acc1 ++ lookC k ls[k].1 m).map dOf).length ≤ 2 + 1000000 * 1000001 + 1000000 := by rw [List.length_map, List.length_append]; omega
                    have hd : dOf ((k : Int), (m : Int), 5) = (some ((k : Int), some (m : Int)), 4) := by unfold dOf kOf; rw [if_neg (by simp only; omega)]; simp <;> omega
                    have hfin : (acc1 ++ lookC k ls[k].1 m).map dOf ++ [(some ((k : Int), some (m : Int)), 4)] = (acc1 ++ lookC k ls[k].1 (m + 1)).map dOf := by rw [HCS.out, ← List.append_assoc, List.map_append (l₂ := [_]), List.map_singleton, hd]
                    have HFIN := hide hfin
                    clear hd hfin
                    go_wp2_with (at_builtin; refine wpList_appg rfl (.tmp 62) (.tmp 68) 53 rfl (RErr b) 31 [103] w.heap.size 16 _ Tryd.underlying53 err_info rfl Nat.one_pos (by decide) _ _ rfl hout4 _ _ _ _ rfl hone.slc (fun _ h => h) (by simp only [List.length_singleton]; omega) (by simp; omega) ?_; intro v6 w6 hv6 hst6 hg6 hob6)
                    have hst5 := ((Step.alloc1 w.heap.size [31] w9 _).trans hst6)
                    go_roundw
                    case rel => exact ⟨m + 1, by omega, by go_num, by rw [← HFIN.out]; exact hv6, hbv9.step hst5 (by decide), hbl9.step hst5 (by decide), hb9.trans (hst5.below hz9)⟩
                    case measure => simp [intOf]; omega
                  · rw [if_neg (by rw [h2]; decide), h2] at hcs
                    have HCS := hide hcs
                    have hev : errV b (wrongAt ls[k].1 m) = .iface 123 (.pointer (some (b 1))) := by rw [h2]; rfl
                    have HEV := hide hev
                    clear hcs hev h2
                    go_wp2_with fail
                    refine (Awrong_ok b _ _ _ ls[k].1 m _ (HVA.out.below hbm) hvm hml (by omega)).mono ?_
                    rw [HEV.out]
                    rintro e w7 ⟨rfl, hb7⟩
                    have hb7' := hbm.trans (hb7.mono hzm)
                    have hz7 := hb7'.size
                    go_wp2_with fail
                    refine (WrongB_ok m _ _ _).mono ?_
                    rintro e w8 ⟨rfl, hw8⟩
                    have hF1 := Blk.new w7 103 #[.int .i64 m, .iface 123 (.pointer (some (b 1)))]
                    have hb8 := hb7'.alloc hz7 (.cells #[.int .i64 m, .iface 123 (.pointer (some (b 1)))] 103)
                    have ho8 := (hom.below hb7).alloc (.cells #[.int .i64 m, .iface 123 (.pointer (some (b 1)))] 103)
                    have hbv8 := (hbv.same hb7).alloc (.cells #[.int .i64 m, .iface 123 (.pointer (some (b 1)))] 103)
                    have hbl8 := (hbli.same hb7).alloc (.cells #[.int .i64 m, .iface 123 (.pointer (some (b 1)))] 103)
                    rw [← hw8] at hF1 hb8 ho8 hbv8 hbl8
                    clear hw8
                    have hz8 := hb8.size
                    go_wp2_with fail
                    refine (WrongB_ok k _ _ _).mono ?_
                    rintro e w9 ⟨rfl, hw9⟩
                    have hF2 := Blk.new w8 103 #[.int .i64 k, .iface 101 (.pointer (some ⟨w7.heap.size, 0, none⟩))]
                    have hF1 := hF1.alloc (.cells #[.int .i64 k, .iface 101 (.pointer (some ⟨w7.heap.size, 0, none⟩))] 103)
                    have hb9 := hb8.alloc hz8 (.cells #[.int .i64 k, .iface 101 (.pointer (some ⟨w7.heap.size, 0, none⟩))] 103)
                    have ho9 := ho8.alloc (.cells #[.int .i64 k, .iface 101 (.pointer (some ⟨w7.heap.size, 0, none⟩))] 103)
                    have hbv9 := hbv8.alloc (.cells #[.int .i64 k, .iface 101 (.pointer (some ⟨w7.heap.size, 0, none⟩))] 103)
                    have hbl9 := hbl8.alloc (.cells #[.int .i64 k, .iface 101 (.pointer (some ⟨w7.heap.size, 0, none⟩))] 103)
                    rw [← hw9] at hF1 hF2 hb9 ho9 hbv9 hbl9
                    clear hw9
                    have hz9 := hb9.size
                    have hone : Own (RErr b) 31 [103] w.heap.size (w9.alloc (.cells #[.iface 101 (.pointer (some ⟨w8.heap.size, 0, none⟩))] 31)) (.slice (some ⟨w9.heap.size, 0, none⟩) 1 1) [(some ((k : Int), some (m : Int)), 1)] :=
                      Own.lit (xs := [.iface 101 (.pointer (some ⟨w8.heap.size, 0, none⟩))]) (by decide) (Els.single ⟨_, rfl, w8.heap.size, w7.heap.size, rfl, .inr ⟨_, _, _, hF2, by simp⟩, .inr ⟨_, _, _, hF1, by simp⟩, hF2.cell 0, hF2.cell 1, hF1.cell 0, hF1.cell 1⟩) hz9 rfl (by simp [maxLen])
                    have hout4 := ho9.alloc (.cells #[.iface 101 (.pointer (some ⟨w8.heap.size, 0, none⟩))] 31)
                    have hl4 : ((acc1 ++ lookC k ls[k].1 m).map dOf).length ≤ 2 + 1000000 * 1000001 + 1000000 := by rw [List.length_map, List.length_append]; omega
                    have hd : dOf ((k : Int), (m : Int), 2) = (some ((k : Int), some (m : Int)), 1) := by unfold dOf kOf; rw [if_neg (by simp only; omega)]; simp <;> omega
                    have hfin : (acc1 ++ lookC k ls[k].1 m).map dOf ++ [(some ((k : Int), some (m : Int)), 1)] = (acc1 ++ lookC k ls[k].1 (m + 1)).map dOf := by rw [HCS.out, ← List.append_assoc, List.map_append (l₂ := [_]), List.map_singleton, hd]
                    have HFIN := hide hfin
                    clear hd hfin
                    go_wp2_with (at_builtin; refine wpList_appg rfl (.tmp 62) (.tmp 68) 53 rfl (RErr b) 31 [103] w.heap.size 16 _ Tryd.underlying53 err_info rfl Nat.one_pos (by decide) _ _ rfl hout4 _ _ _ _ rfl hone.slc (fun _ h => h) (by simp only [List.length_singleton]; omega) (by simp; omega) ?_; intro v6 w6 hv6 hst6 hg6 hob6)
                    have hst5 := ((Step.alloc1 w.heap.size [31] w9 _).trans hst6)
                    go_roundw
                    case rel => exact ⟨m + 1, by omega, by go_num, by rw [← HFIN.out]; exact hv6, hbv9.step hst5 (by decide), hbl9.step hst5 (by decide), hb9.trans (hst5.below hz9)⟩
                    case measure => simp [intOf]; omega
                · obtain rfl : m = ls[k].1.length := by omega
                  have hfin := hom
                  rw [← HA1.out] at hfin
                  go_wp2
                  go_roundw
                  case rel => exact ⟨k + 1, by omega, by go_num, hfin, hbv, hbm⟩
                  case measure => simp [intOf]; omega
            · have e1 : ((ls[k].1.length : Int) != wd) = true := by simp [hw1]
              rw [if_neg hw1] at hsn
              have HSN := hide hsn
              clear hsn hw1
              have hE := (hbl.cell (p := ⟨4, 0, none⟩) hl3).trans hE3
              go_wp2_with fail
              refine (WrongB_ok k _ _ _).mono ?_
              rintro e w5 ⟨rfl, hw5⟩
              have hbF := Blk.new (wr.alloc (.cells #[.slice A2 ls[k].1.length c2, .bool ls[k].2] 45)) 103 #[.int .i64 k, .iface 123 (.pointer (some (b 3)))]
              have hout3 := hout2.alloc (.cells #[.int .i64 k, .iface 123 (.pointer (some (b 3)))] 103)
              have hblk3 := hblk2.alloc (.cells #[.int .i64 k, .iface 123 (.pointer (some (b 3)))] 103)
              have hblkl3 := hblkl.alloc (.cells #[.int .i64 k, .iface 123 (.pointer (some (b 3)))] 103)
              have hbl3 := hbl.alloc hzl (.cells #[.int .i64 k, .iface 123 (.pointer (some (b 3)))] 103)
              rw [← hw5] at hbF hout3 hblk3 hblkl3 hbl3
              have hs5 : (wr.alloc (.cells #[.slice A2 ls[k].1.length c2, .bool ls[k].2] 45)).heap.size = wr.heap.size + 1 := by simp
              rw [hs5] at hbF ⊢
              clear hw5
              have hz5 := hbl3.size
              have hone : Own (RErr b) 31 [103] w.heap.size (w5.alloc (.cells #[.iface 101 (.pointer (some ⟨wr.heap.size + 1, 0, none⟩))] 31)) (.slice (some ⟨w5.heap.size, 0, none⟩) 1 1) [(some ((k : Int), none), 3)] :=
                Own.lit (xs := [.iface 101 (.pointer (some ⟨wr.heap.size + 1, 0, none⟩))]) (by decide) (Els.single ⟨_, rfl, wr.heap.size + 1, rfl, .inr ⟨_, _, _, hbF, by simp⟩, hbF.cell 0, hbF.cell 1⟩) hz5 rfl (by simp [maxLen])
              have hout4 := hout3.alloc (.cells #[.iface 101 (.pointer (some ⟨wr.heap.size + 1, 0, none⟩))] 31)
              have hl4 : ((acc0 ++ lookN wd ls k).map dOf).length ≤ 1 + 1000000 * 1000001 := by rw [List.length_map, List.length_append]; omega
              go_wp2_with (at_builtin; refine wpList_appg rfl (.tmp 44) (.tmp 48) 53 rfl (RErr b) 31 [103] w.heap.size 16 _ Tryd.underlying53 err_info rfl Nat.one_pos (by decide) _ _ rfl hout4 _ _ _ _ rfl hone.slc (fun _ h => h) (by simp only [List.length_singleton]; omega) (by simp; omega) ?_; intro v6 w6 hv6 hst6 hg6 hob6; have hst5 := ((Step.alloc1 w.heap.size [31] w5 _).trans hst6); have hblkl6 := hblkl3.step hst5 (by decide); have z0 := hblkl6.cell 0; simp only [List.getElem?_toArray, List.getElem?_cons_succ, List.getElem?_cons_zero] at z0)
              have hout2 := hv6
              have hb6 := hbl3.trans (hst5.below hz5)
              have hz6 := hb6.size
              have hblk2 := hblk3.step hst5 (by decide)
              have hblkl := hblkl6
              clear z0
              have hd : dOf ((k : Int), -1, 4) = (some ((k : Int), none), 3) := by unfold dOf kOf; rw [if_neg (by simp only; omega)]; simp
              have hm6 : (acc0 ++ lookN wd ls k).map dOf ++ [(some ((k : Int), none), 3)] = ((acc0 ++ lookN wd ls k) ++ [((k : Int), -1, 4)]).map dOf := by rw [List.map_append (l₂ := [_]), List.map_singleton, hd]
              rw [hm6] at hout2
              obtain ⟨acc1, hacc1⟩ : ∃ acc1, acc1 = (acc0 ++ lookN wd ls k) ++ [((k : Int), -1, 4)] := ⟨_, rfl⟩
              rw [← hacc1] at hout2
              have ha1 : acc1.length ≤ 1 + 1000000 * 1000001 + 1 := by rw [hacc1, List.length_append, List.length_append, List.length_singleton]; omega
              have HA1 : Hid (acc0 ++ lookN wd ls (k + 1) = acc1 ++ lookC k ls[k].1 ls[k].1.length) := hide (by rw [HSN.out, hacc1]; simp only [List.append_assoc])
              clear hacc1 hout hm6 hv6
              have hbl := hb6
              go_loopw [3, 53] (fun out j wq => ∃ m : Nat, m ≤ ls[k].1.length ∧ j = .int .i64 m ∧ Own (RErr b) 31 [103] w.heap.size wq out ((acc1 ++ lookC k ls[k].1 m).map dOf) ∧ Blk wq w.heap.size 26 #[.int .i64 wd, .int .i64 hi, .slice (some ⟨ab, off, none⟩) ls.length cp, .int .i64 r, .int .i64 c, .bool p, .bool au] ∧ Blk wq wr.heap.size 45 #[.slice A2 ls[k].1.length c2, .bool ls[k].2] ∧ Below w.heap.size w wq) (fun _ j _ => ls[k].1.length - (intOf j).toNat)
              case atStart => exact ⟨0, Nat.zero_le _, rfl, by simpa [lookC] using hout2, hblk2, hblkl, hbl⟩
              case round =>
                obtain ⟨m, hm, rfl, hom, hbv, hbli, hbm⟩ := hrel
                have hzm := hbm.size
                have hcm := lookC_len k ls[k].1 m
                have hltl := hbli.lt
                have z0 := hbli.cell 0
                have z1 := hbli.cell 1
                simp only [List.getElem?_toArray, List.getElem?_cons_succ, List.getElem?_cons_zero] at z0 z1
                by_cases hml : m < ls[k].1.length
                · have hvm := hv.mono (Keep.below (S := fun b => b < w.heap.size) hbm) (Keep.below (S := fun b => b < w.heap.size) hbm)
                  have hcs := lookC_snoc k ls[k].1 m
                  rcases wrong_is ls[k].1 m with h0 | h5 | h2
                  · rw [if_pos h0, List.append_nil] at hcs
                    have HCS := hide hcs
                    have hev : errV b (wrongAt ls[k].1 m) = .nilIface := by rw [h0]; rfl
                    have HEV := hide hev
                    clear hcs hev h0
                    go_wp2_with fail
                    refine (Awrong_ok b _ _ _ ls[k].1 m _ (HVA.out.below hbm) hvm hml (by omega)).mono ?_
                    rw [HEV.out]
                    rintro e w7 ⟨rfl, hb7⟩
                    have hb7' := hbm.trans (hb7.mono hzm)
                    go_wp2
                    go_roundw
                    case rel => exact ⟨m + 1, by omega, by go_num, by rw [HCS.out]; exact hom.below hb7, hbv.same hb7, hbli.same hb7, hb7'⟩
                    case measure => simp [intOf]; omega
                  · rw [if_neg (by rw [h5]; decide), h5] at hcs
                    have HCS := hide hcs
                    have hev : errV b (wrongAt ls[k].1 m) = .iface 123 (.pointer (some (b 4))) := by rw [h5]; rfl
                    have HEV := hide hev
                    clear hcs hev h5
                    go_wp2_with fail
                    refine (Awrong_ok b _ _ _ ls[k].1 m _ (HVA.out.below hbm) hvm hml (by omega)).mono ?_
                    rw [HEV.out]
                    rintro e w7 ⟨rfl, hb7⟩
                    have hb7' := hbm.trans (hb7.mono hzm)
                    have hz7 := hb7'.size
                    go_wp2_with fail
                    refine (WrongB_ok m _ _ _).mono ?_
                    rintro e w8 ⟨rfl, hw8⟩
                    have hF1 := Blk.new w7 103 #[.int .i64 m, .iface 123 (.pointer (some (b 4)))]
                    have hb8 := hb7'.alloc hz7 (.cells #[.int .i64 m, .iface 123 (.pointer (some (b 4)))] 103)
                    have ho8 := (hom.below hb7).alloc (.cells #[.int .i64 m, .iface 123 (.pointer (some (b 4)))] 103)
                    have hbv8 := (hbv.same hb7).alloc (.cells #[.int .i64 m, .iface 123 (.pointer (some (b 4)))] 103)
                    have hbl8 := (hbli.same hb7).alloc (.cells #[.int .i64 m, .iface 123 (.pointer (some (b 4)))] 103)
                    rw [← hw8] at hF1 hb8 ho8 hbv8 hbl8
                    clear hw8
                    have hz8 := hb8.size
                    go_wp2_with fail
                    refine (WrongB_ok k _ _ _).mono ?_
                    rintro e w9 ⟨rfl, hw9⟩
                    have hF2 := Blk.new w8 103 #[.int .i64 k, .iface 101 (.pointer (some ⟨w7.heap.size, 0, none⟩))]
                    have hF1 := hF1.alloc (.cells #[.int .i64 k, .iface 101 (.pointer (some ⟨w7.heap.size, 0, none⟩))] 103)
                    have hb9 := hb8.alloc hz8 (.cells #[.int .i64 k, .iface 101 (.pointer (some ⟨w7.heap.size, 0, none⟩))] 103)
                    have ho9 := ho8.alloc (.cells #[.int .i64 k, .iface 101 (.pointer (some ⟨w7.heap.size, 0, none⟩))] 103)
                    have hbv9 := hbv8.alloc (.cells #[.int .i64 k, .iface 101 (.pointer (some ⟨w7.heap.size, 0, none⟩))] 103)
                    have hbl9 := hbl8.alloc (.cells #[.int .i64 k, .iface 101 (.pointer (some ⟨w7.heap.size, 0, none⟩))] 103)
                    rw [← hw9] at hF1 hF2 hb9 ho9 hbv9 hbl9
                    clear hw9
                    have hz9 := hb9.size
                    have hone : Own (RErr b) 31 [103] w.heap.size (w9.alloc (.cells #[.iface 101 (.pointer (some ⟨w8.heap.size, 0, none⟩))] 31)) (.slice (some ⟨w9.heap.size, 0, none⟩) 1 1) [(some ((k : Int), some (m : Int)), 4)] :=
                      Own.lit (xs := [.iface 101 (.pointer (some ⟨w8.heap.size, 0, none⟩))]) (by decide) (Els.single ⟨_, rfl, w8.heap.size, w7.heap.size, rfl, .inr ⟨_, _, _, hF2, by simp⟩, .inr ⟨_, _, _, hF1, by simp⟩, hF2.cell 0, hF2.cell 1, hF1.cell 0, hF1.cell 1⟩) hz9 rfl (by simp [maxLen])
                    have hout4 := ho9.alloc (.cells #[.iface 101 (.pointer (some ⟨w8.heap.size, 0, none⟩))] 31)
                    have hl4 : ((acc1 ++ lookC k ls[k].1 m).map dOf).length ≤ 2 + 1000000 * 1000001 + 1000000 := by rw [List.length_map, List.length_append]; omega
                    have hd : dOf ((k : Int), (m : Int), 5) = (some ((k : Int), some (m : Int)), 4) := by unfold dOf kOf; rw [if_neg (by simp only; omega)]; simp <;> omega
                    have hfin : (acc1 ++ lookC k ls[k].1 m).map dOf ++ [(some ((k : Int), some (m : Int)), 4)] = (acc1 ++ lookC k ls[k].1 (m + 1)).map dOf := by rw [HCS.out, ← List.append_assoc, List.map_append (l₂ := [_]), List.map_singleton, hd]
                    have HFIN := hide hfin
                    clear hd hfin
                    go_wp2_with (at_builtin; refine wpList_appg rfl (.tmp 62) (.tmp 68) 53 rfl (RErr b) 31 [103] w.heap.size 16 _ Tryd.underlying53 err_info rfl Nat.one_pos (by decide) _ _ rfl hout4 _ _ _ _ rfl hone.slc (fun _ h => h) (by simp only [List.length_singleton]; omega) (by simp; omega) ?_; intro v6 w6 hv6 hst6 hg6 hob6)
                    have hst5 := ((Step.alloc1 w.heap.size [31] w9 _).trans hst6)
                    go_roundw
                    case rel => exact ⟨m + 1, by omega, by go_num, by rw [← HFIN.out]; exact hv6, hbv9.step hst5 (by decide), hbl9.step hst5 (by decide), hb9.trans (hst5.below hz9)⟩
                    case measure => simp [intOf]; omega
                  · rw [if_neg (by rw [h2]; decide), h2] at hcs
                    have HCS := hide hcs
                    have hev : errV b (wrongAt ls[k].1 m) = .iface 123 (.pointer (some (b 1))) := by rw [h2]; rfl
                    have HEV := hide hev
                    clear hcs hev h2
                    go_wp2_with fail
                    refine (Awrong_ok b _ _ _ ls[k].1 m _ (HVA.out.below hbm) hvm hml (by omega)).mono ?_
                    rw [HEV.out]
                    rintro e w7 ⟨rfl, hb7⟩
                    have hb7' := hbm.trans (hb7.mono hzm)
                    have hz7 := hb7'.size
                    go_wp2_with fail
                    refine (WrongB_ok m _ _ _).mono ?_
                    rintro e w8 ⟨rfl, hw8⟩
                    have hF1 := Blk.new w7 103 #[.int .i64 m, .iface 123 (.pointer (some (b 1)))]
                    have hb8 := hb7'.alloc hz7 (.cells #[.int .i64 m, .iface 123 (.pointer (some (b 1)))] 103)
                    have ho8 := (hom.below hb7).alloc (.cells #[.int .i64 m, .iface 123 (.pointer (some (b 1)))] 103)
                    have hbv8 := (hbv.same hb7).alloc (.cells #[.int .i64 m, .iface 123 (.pointer (some (b 1)))] 103)
                    have hbl8 := (hbli.same hb7).alloc (.cells #[.int .i64 m, .iface 123 (.pointer (some (b 1)))] 103)
                    rw [← hw8] at hF1 hb8 ho8 hbv8 hbl8
                    clear hw8
                    have hz8 := hb8.size
                    go_wp2_with fail
                    refine (WrongB_ok k _ _ _).mono ?_
                    rintro e w9 ⟨rfl, hw9⟩
                    have hF2 := Blk.new w8 103 #[.int .i64 k, .iface 101 (.pointer (some ⟨w7.heap.size, 0, none⟩))]
                    have hF1 := hF1.alloc (.cells #[.int .i64 k, .iface 101 (.pointer (some ⟨w7.heap.size, 0, none⟩))] 103)
                    have hb9 := hb8.alloc hz8 (.cells #[.int .i64 k, .iface 101 (.pointer (some ⟨w7.heap.size, 0, none⟩))] 103)
                    have ho9 := ho8.alloc (.cells #[.int .i64 k, .iface 101 (.pointer (some ⟨w7.heap.size, 0, none⟩))] 103)
                    have hbv9 := hbv8.alloc (.cells #[.int .i64 k, .iface 101 (.pointer (some ⟨w7.heap.size, 0, none⟩))] 103)
                    have hbl9 := hbl8.alloc (.cells #[.int .i64 k, .iface 101 (.pointer (some ⟨w7.heap.size, 0, none⟩))] 103)
                    rw [← hw9] at hF1 hF2 hb9 ho9 hbv9 hbl9
                    clear hw9
                    have hz9 := hb9.size
                    have hone : Own (RErr b) 31 [103] w.heap.size (w9.alloc (.cells #[.iface 101 (.pointer (some ⟨w8.heap.size, 0, none⟩))] 31)) (.slice (some ⟨w9.heap.size, 0, none⟩) 1 1) [(some ((k : Int), some (m : Int)), 1)] :=
                      Own.lit (xs := [.iface 101 (.pointer (some ⟨w8.heap.size, 0, none⟩))]) (by decide) (Els.single ⟨_, rfl, w8.heap.size, w7.heap.size, rfl, .inr ⟨_, _, _, hF2, by simp⟩, .inr ⟨_, _, _, hF1, by simp⟩, hF2.cell 0, hF2.cell 1, hF1.cell 0, hF1.cell 1⟩) hz9 rfl (by simp [maxLen])
                    have hout4 := ho9.alloc (.cells #[.iface 101 (.pointer (some ⟨w8.heap.size, 0, none⟩))] 31)
                    have hl4 : ((acc1 ++ lookC k ls[k].1 m).map dOf).length ≤ 2 + 1000000 * 1000001 + 1000000 := by rw [List.length_map, List.length_append]; omega
                    have hd : dOf ((k : Int), (m : Int), 2) = (some ((k : Int), some (m : Int)), 1) := by unfold dOf kOf; rw [if_neg (by simp only; omega)]; simp <;> omega
                    have hfin : (acc1 ++ lookC k ls[k].1 m).map dOf ++ [(some ((k : Int), some (m : Int)), 1)] = (acc1 ++ lookC k ls[k].1 (m + 1)).map dOf := by rw [HCS.out, ← List.append_assoc, List.map_append (l₂ := [_]), List.map_singleton, hd]
                    have HFIN := hide hfin
                    clear hd hfin
                    go_wp2_with (at_builtin; refine wpList_appg rfl (.tmp 62) (.tmp 68) 53 rfl (RErr b) 31 [103] w.heap.size 16 _ Tryd.underlying53 err_info rfl Nat.one_pos (by decide) _ _ rfl hout4 _ _ _ _ rfl hone.slc (fun _ h => h) (by simp only [List.length_singleton]; omega) (by simp; omega) ?_; intro v6 w6 hv6 hst6 hg6 hob6)
                    have hst5 := ((Step.alloc1 w.heap.size [31] w9 _).trans hst6)
                    go_roundw
                    case rel => exact ⟨m + 1, by omega, by go_num, by rw [← HFIN.out]; exact hv6, hbv9.step hst5 (by decide), hbl9.step hst5 (by decide), hb9.trans (hst5.below hz9)⟩
                    case measure => simp [intOf]; omega
                · obtain rfl : m = ls[k].1.length := by omega
                  have hfin := hom
                  rw [← HA1.out] at hfin
                  go_wp2
                  go_roundw
                  case rel => exact ⟨k + 1, by omega, by go_num, hfin, hbv, hbm⟩
                  case measure => simp [intOf]; omega
          · obtain rfl : k = ls.length := by omega
            go_wp2_with fail
            refine (HCR.out _).mono ?_
            rintro e w5 ⟨rfl, hb5⟩
            have hb5' := hbel.trans (hb5.mono hsz)
            have hz5 := hb5'.size
            have hv5 := hout.below hb5
            rcases Bool.eq_false_or_eq_true (curRight r c p wd hi) with hcu | hcu
            · have hres := HLF.out
              rw [if_pos hcu, List.append_nil] at hres
              have HR := hide hres
              clear hres
              go_wp2
              go_ret
              rw [HR.out]
              exact ⟨_, rfl, hv5, hb5'⟩
            · have hres := HLF.out
              rw [if_neg (by rw [hcu]; simp)] at hres
              have HR := hide hres
              have hE := (hb5'.cell (p := ⟨7, 0, none⟩) hl7).trans hE7
              have hone : Own (RErr b) 31 [103] w.heap.size (w5.alloc (.cells #[.iface 123 (.pointer (some (b 7)))] 31)) (.slice (some ⟨w5.heap.size, 0, none⟩) 1 1) [(none, 7)] :=
                Own.lit (xs := [.iface 123 (.pointer (some (b 7)))]) (by decide) (Els.single ⟨_, rfl, rfl⟩) hz5 rfl (by simp [maxLen])
              have hout4 := hv5.alloc (.cells #[.iface 123 (.pointer (some (b 7)))] 31)
              have ha0 : acc0.length ≤ 1 := HACC.out
              have hl4 : ((acc0 ++ lookN wd ls ls.length).map dOf).length ≤ 1 + 1000000 * 1000001 := by rw [List.length_map, List.length_append]; omega
              have hd : dOf (-1, -1, 8) = (none, 7) := by decide
              clear hres
              go_wp2_with (at_builtin; refine wpList_appg rfl (.tmp 80) (.tmp 82) 53 rfl (RErr b) 31 [103] w.heap.size 16 _ Tryd.underlying53 err_info rfl Nat.one_pos (by decide) _ _ rfl hout4 _ _ _ _ rfl hone.slc (fun _ h => h) (by simp only [List.length_singleton]; omega) (by simp; omega) ?_; intro v6 w6 hv6 hst6 hg6 hob6)
              have hst5 := ((Step.alloc1 w.heap.size [31] w5 _).trans hst6)
              go_ret
              rw [HR.out, List.map_append (l₂ := [_]), List.map_singleton, hd]
              exact ⟨_, rfl, hv6, hb5'.trans (hst5.below hz5)⟩
    · rw [decide_eq_false (fun h => k1 ⟨h.2.1, h.2.2.1⟩)] at hlf
      obtain ⟨acc0, hac⟩ : ∃ acc0 : List FoundV, acc0 = [(-1, -1, 3)] := ⟨_, rfl⟩
      have HLF : Hid (res = acc0 ++ lookN wd ls ls.length ++ (if curRight r c p wd hi = true then [] else [(-1, -1, 8)])) := hide (by rw [hlf, hac]; rfl)
      clear hlf
      have HACC : Hid (acc0.length ≤ 1) := hide (by rw [hac]; simp)
      have HBLKS := hide hblk0
      have hE := (hb0.cell (p := ⟨3, 0, none⟩) hl2).trans hE2
      go_enter Tryd.func38, Tryd.ntmps38
      go_wp2_with fail
      refine (Aside_ok wd _).mono ?_
      rw [decide_eq_true k0]
      rintro e w1 ⟨rfl, rfl⟩
      go_wp2_with fail
      refine (Aside_ok hi _).mono ?_
      rw [decide_eq_false k1]
      rintro e w1 ⟨rfl, rfl⟩
      have hblkB := HBLKS.out
      have hone : Own (RErr b) 31 [103] w.heap.size ((w.alloc (.cells #[.int .i64 wd, .int .i64 hi, .slice A ls.length cp, .int .i64 r, .int .i64 c, .bool p, .bool au] 26)).alloc (.cells #[.iface 123 (.pointer (some (b 2)))] 31)) (.slice (some ⟨(w.alloc (.cells #[.int .i64 wd, .int .i64 hi, .slice A ls.length cp, .int .i64 r, .int .i64 c, .bool p, .bool au] 26)).heap.size, 0, none⟩) 1 1) [(none, 2)] :=
        Own.lit (xs := [.iface 123 (.pointer (some (b 2)))]) (by decide) (Els.single ⟨_, rfl, rfl⟩) hz0 rfl (by simp [maxLen])
      simp only [World.size_alloc] at hone
      have hout0 := Own.nil_ (RErr b) 31 [103] w.heap.size ((w.alloc (.cells #[.int .i64 wd, .int .i64 hi, .slice A ls.length cp, .int .i64 r, .int .i64 c, .bool p, .bool au] 26)).alloc (.cells #[.iface 123 (.pointer (some (b 2)))] 31)) (by decide)
      go_wp2_with (at_builtin; refine wpList_appg rfl (.tmp 26) (.tmp 28) 53 rfl (RErr b) 31 [103] w.heap.size 16 _ Tryd.underlying53 err_info rfl Nat.one_pos (by decide) _ _ rfl hout0 _ _ _ _ rfl hone.slc (fun _ h => h) (by simp) (by simp; omega) ?_; intro v1 w1 hv1 hst1 hg1 hob1; have hst0 := ((Step.alloc1 w.heap.size [31] (w.alloc (.cells #[.int .i64 wd, .int .i64 hi, .slice A ls.length cp, .int .i64 r, .int .i64 c, .bool p, .bool au] 26)) _).trans hst1); have hbk1 := hblk0.step hst0 (by decide); have z2 := hbk1.cell 2; simp only [List.getElem?_toArray, List.getElem?_cons_succ, List.getElem?_cons_zero] at z2)
      have HV0 : Own (RErr b) 31 [103] w.heap.size w1 v1 (acc0.map dOf) := by rw [hac]; exact hv1
      have HBLK := hblk0.step hst0 (by decide)
      have HB0 := hb0.trans (hst0.below hz0)
      clear hac
      go_loopw [3, 33] (fun out i wr => ∃ k : Nat, k ≤ ls.length ∧ i = .int .i64 k ∧ Own (RErr b) 31 [103] w.heap.size wr out ((acc0 ++ lookN wd ls k).map dOf) ∧ Blk wr w.heap.size 26 #[.int .i64 wd, .int .i64 hi, .slice A ls.length cp, .int .i64 r, .int .i64 c, .bool p, .bool au] ∧ Below w.heap.size w wr) (fun _ i _ => ls.length - (intOf i).toNat)
      case atStart => exact ⟨0, Nat.zero_le _, rfl, by simpa [lookN] using HV0, HBLK, HB0⟩
      case round =>
        obtain ⟨k, hk, rfl, hout, hblkr, hbel⟩ := hrel
        have hsz := hbel.size
        have hlt0 := hblkr.lt
        have y0 := hblkr.cell 0
        have y1 := hblkr.cell 1
        have y3 := hblkr.cell 3
        have y4 := hblkr.cell 4
        have y5 := hblkr.cell 5
        simp only [List.getElem?_toArray, List.getElem?_cons_succ, List.getElem?_cons_zero] at y0 y1 y3 y4 y5
        have hnl := HNL.out k hk
        have hk6 : k * 1000001 ≤ 1000000 * 1000001 := Nat.mul_le_mul_right _ (by omega)
        by_cases hlt : k < ls.length
        · obtain ⟨ab, off, v2, rfl, _, p0, p1, hv⟩ := line_at hx.slb hlt
          obtain ⟨A2, c2, rfl, _, _, _⟩ := hv.open_
          have hab := World.block_lt_of_cell? w _ p0
          simp only at hab
          have q8 := (hbel.cell (p := ⟨ab, off + k * 2, none⟩) hab).trans p0
          have q9 := (hbel.cell (p := ⟨ab, off + k * 2 + 1, none⟩) hab).trans p1
          have hln := HLEN.out ls[k] (List.getElem_mem _)
          have hsn := lookN_snoc wd ls k hlt
          have hll2 : lookL wd k ls[k] = (if (ls[k].1.length : Int) = wd then [] else [((k : Int), -1, 4)]) ++ lookC k ls[k].1 ls[k].1.length := rfl
          rw [hll2] at hsn
          have hblk2 := hblkr.alloc (.cells #[.slice A2 ls[k].1.length c2, .bool ls[k].2] 45)
          have hblkl := Blk.new wr 45 #[.slice A2 ls[k].1.length c2, .bool ls[k].2]
          have hout2 := hout.alloc (.cells #[.slice A2 ls[k].1.length c2, .bool ls[k].2] 45)
          have hbl := hbel.alloc hsz (.cells #[.slice A2 ls[k].1.length c2, .bool ls[k].2] 45)
          have hzl := hbl.size
          have ha0 : acc0.length ≤ 1 := HACC.out
          clear p0 p1 hll2
          by_cases hw1 : (ls[k].1.length : Int) = wd
          · have e1 : ((ls[k].1.length : Int) != wd) = false := by simp [hw1]
            rw [if_pos hw1, List.nil_append] at hsn
            have HSN := hide hsn
            clear hsn hw1
            obtain ⟨acc1, hacc1⟩ : ∃ acc1, acc1 = acc0 ++ lookN wd ls k := ⟨_, rfl⟩
            rw [← hacc1] at hout2
            have ha1 : acc1.length ≤ 1 + 1000000 * 1000001 + 1 := by rw [hacc1, List.length_append]; omega
            have HA1 : Hid (acc0 ++ lookN wd ls (k + 1) = acc1 ++ lookC k ls[k].1 ls[k].1.length) := hide (by rw [HSN.out, hacc1, List.append_assoc])
            clear hacc1 hout
            go_wp2
            go_loopw [3, 53] (fun out j wq => ∃ m : Nat, m ≤ ls[k].1.length ∧ j = .int .i64 m ∧ Own (RErr b) 31 [103] w.heap.size wq out ((acc1 ++ lookC k ls[k].1 m).map dOf) ∧ Blk wq w.heap.size 26 #[.int .i64 wd, .int .i64 hi, .slice (some ⟨ab, off, none⟩) ls.length cp, .int .i64 r, .int .i64 c, .bool p, .bool au] ∧ Blk wq wr.heap.size 45 #[.slice A2 ls[k].1.length c2, .bool ls[k].2] ∧ Below w.heap.size w wq) (fun _ j _ => ls[k].1.length - (intOf j).toNat)
            case atStart => exact ⟨0, Nat.zero_le _, rfl, by simpa [lookC] using hout2, hblk2, hblkl, hbl⟩
            case round =>
              obtain ⟨m, hm, rfl, hom, hbv, hbli, hbm⟩ := hrel
              have hzm := hbm.size
              have hcm := lookC_len k ls[k].1 m
              have hltl := hbli.lt
              have z0 := hbli.cell 0
              have z1 := hbli.cell 1
              simp only [List.getElem?_toArray, List.getElem?_cons_succ, List.getElem?_cons_zero] at z0 z1
              by_cases hml : m < ls[k].1.length
              · have hvm := hv.mono (Keep.below (S := fun b => b < w.heap.size) hbm) (Keep.below (S := fun b => b < w.heap.size) hbm)
                have hcs := lookC_snoc k ls[k].1 m
                rcases wrong_is ls[k].1 m with h0 | h5 | h2
                · rw [if_pos h0, List.append_nil] at hcs
                  have HCS := hide hcs
                  have hev : errV b (wrongAt ls[k].1 m) = .nilIface := by rw [h0]; rfl
                  have HEV := hide hev
                  clear hcs hev h0
                  go_wp2_with fail
                  refine (Awrong_ok b _ _ _ ls[k].1 m _ (HVA.out.below hbm) hvm hml (by omega)).mono ?_
                  rw [HEV.out]
                  rintro e w7 ⟨rfl, hb7⟩
                  have hb7' := hbm.trans (hb7.mono hzm)
                  go_wp2
                  go_roundw
                  case rel => exact ⟨m + 1, by omega, by go_num, by rw [HCS.out]; exact hom.below hb7, hbv.same hb7, hbli.same hb7, hb7'⟩
                  case measure => simp [intOf]; omega
                · rw [if_neg (by rw [h5]; decide), h5] at hcs
                  have HCS := hide hcs
                  have hev : errV b (wrongAt ls[k].1 m) = .iface 123 (.pointer (some (b 4))) := by rw [h5]; rfl
                  have HEV := hide hev
                  clear hcs hev h5
                  go_wp2_with fail
                  refine (Awrong_ok b _ _ _ ls[k].1 m _ (HVA.out.below hbm) hvm hml (by omega)).mono ?_
                  rw [HEV.out]
                  rintro e w7 ⟨rfl, hb7⟩
                  have hb7' := hbm.trans (hb7.mono hzm)
                  have hz7 := hb7'.size
                  go_wp2_with fail
                  refine (WrongB_ok m _ _ _).mono ?_
                  rintro e w8 ⟨rfl, hw8⟩
                  have hF1 := Blk.new w7 103 #[.int .i64 m, .iface 123 (.pointer (some (b 4)))]
                  have hb8 := hb7'.alloc hz7 (.cells #[.int .i64 m, .iface 123 (.pointer (some (b 4)))] 103)
                  have ho8 := (hom.below hb7).alloc (.cells #[.int .i64 m, .iface 123 (.pointer (some (b 4)))] 103)
                  have hbv8 := (hbv.same hb7).alloc (.cells #[.int .i64 m, .iface 123 (.pointer (some (b 4)))] 103)
                  have hbl8 := (hbli.same hb7).alloc (.cells #[.int .i64 m, .iface 123 (.pointer (some (b 4)))] 103)
                  rw [← hw8] at hF1 hb8 ho8 hbv8 hbl8
                  clear hw8
                  have hz8 := hb8.size
                  go_wp2_with fail
                  refine (WrongB_ok k _ _ _).mono ?_
                  rintro e w9 ⟨rfl, hw9⟩
                  have hF2 := Blk.new w8 103 #[.int .i64 k, .iface 101 (.pointer (some ⟨w7.heap.size, 0, none⟩))]
                  have hF1 := hF1.alloc (.cells #[.int .i64 k, .iface 101 (.pointer (some ⟨w7.heap.size, 0, none⟩))] 103)
                  have hb9 := hb8.alloc hz8 (.cells #[.int .i64 k, .iface 101 (.pointer (some ⟨w7.heap.size, 0, none⟩))] 103)
                  have ho9 := ho8.alloc (.cells #[.int .i64 k, .iface 101 (.pointer (some ⟨w7.heap.size, 0, none⟩))] 103)
                  have hbv9 := hbv8.alloc (.cells #[.int .i64 k, .iface 101 (.pointer (some ⟨w7.heap.size, 0, none⟩))] 103)
                  have hbl9 := hbl8.alloc (.cells #[.int .i64 k, .iface 101 (.pointer (some ⟨w7.heap.size, 0, none⟩))] 103)
                  rw [← hw9] at hF1 hF2 hb9 ho9 hbv9 hbl9
                  clear hw9
                  have hz9 := hb9.size
                  have hone : Own (RErr b) 31 [103] w.heap.size (w9.alloc (.cells #[.iface 101 (.pointer (some ⟨w8.heap.size, 0, none⟩))] 31)) (.slice (some ⟨w9.heap.size, 0, none⟩) 1 1) [(some ((k : Int), some (m : Int)), 4)] :=
                    Own.lit (xs := [.iface 101 (.pointer (some ⟨w8.heap.size, 0, none⟩))]) (by decide) (Els.single ⟨_, rfl, w8.heap.size, w7.heap.size, rfl, .inr ⟨_, _, _, hF2, by simp⟩, .inr ⟨_, _, _, hF1, by simp⟩, hF2.cell 0, hF2.cell 1, hF1.cell 0, hF1.cell 1⟩) hz9 rfl (by simp [maxLen])
                  have hout4 := ho9.alloc (.cells #[.iface 101 (.pointer (some ⟨w8.heap.size, 0, none⟩))] 31)
                  have hl4 : ((acc1 ++ lookC k ls[k].1 m).map dOf).length ≤ 2 + 1000000 * 1000001 + 1000000 := by rw [List.length_map, List.length_append]; omega
                  have hd : dOf ((k : Int), (m : Int), 5) = (some ((k : Int), some (m : Int)), 4) := by unfold dOf kOf; rw [if_neg (by simp only; omega)]; simp <;> omega
                  have hfin : (acc1 ++ lookC k ls[k].1 m).map dOf ++ [(some ((k : Int), some (m : Int)), 4)] = (acc1 ++ lookC k ls[k].1 (m + 1)).map dOf := by rw [HCS.out, ← List.append_assoc, List.map_append (l₂ := [_]), List.map_singleton, hd]
                  have HFIN := hide hfin
                  clear hd hfin
                  go_wp2_with (at_builtin; refine wpList_appg rfl (.tmp 62) (.tmp 68) 53 rfl (RErr b) 31 [103] w.heap.size 16 _ Tryd.underlying53 err_info rfl Nat.one_pos (by decide) _ _ rfl hout4 _ _ _ _ rfl hone.slc (fun _ h => h) (by simp only [List.length_singleton]; omega) (by simp; omega) ?_; intro v6 w6 hv6 hst6 hg6 hob6)
                  have hst5 := ((Step.alloc1 w.heap.size [31] w9 _).trans hst6)
                  go_roundw
                  case rel => exact ⟨m + 1, by omega, by go_num, by rw [← HFIN.out]; exact hv6, hbv9.step hst5 (by decide), hbl9.step hst5 (by decide), hb9.trans (hst5.below hz9)⟩
                  case measure => simp [intOf]; omega
                · rw [if_neg (by rw [h2]; decide), h2] at hcs
                  have HCS := hide hcs
                  have hev : errV b (wrongAt ls[k].1 m) = .iface 123 (.pointer (some (b 1))) := by rw [h2]; rfl
                  have HEV := hide hev
                  clear hcs hev h2
                  go_wp2_with fail
                  refine (Awrong_ok b _ _ _ ls[k].1 m _ (HVA.out.below hbm) hvm hml (by omega)).mono ?_
                  rw [HEV.out]
                  rintro e w7 ⟨rfl, hb7⟩
                  have hb7' := hbm.trans (hb7.mono hzm)
                  have hz7 := hb7'.size
                  go_wp2_with fail
                  refine (WrongB_ok m _ _ _).mono ?_
                  rintro e w8 ⟨rfl, hw8⟩
                  have hF1 := Blk.new w7 103 #[.int .i64 m, .iface 123 (.pointer (some (b 1)))]
                  have hb8 := hb7'.alloc hz7 (.cells #[.int .i64 m, .iface 123 (.pointer (some (b 1)))] 103)
                  have ho8 := (hom.below hb7).alloc (.cells #[.int .i64 m, .iface 123 (.pointer (some (b 1)))] 103)
                  have hbv8 := (hbv.same hb7).alloc (.cells #[.int .i64 m, .iface 123 (.pointer (some (b 1)))] 103)
                  have hbl8 := (hbli.same hb7).alloc (.cells #[.int .i64 m, .iface 123 (.pointer (some (b 1)))] 103)
                  rw [← hw8] at hF1 hb8 ho8 hbv8 hbl8
                  clear hw8
                  have hz8 := hb8.size
                  go_wp2_with fail
                  refine (WrongB_ok k _ _ _).mono ?_
                  rintro e w9 ⟨rfl, hw9⟩
                  have hF2 := Blk.new w8 103 #[.int .i64 k, .iface 101 (.pointer (some ⟨w7.heap.size, 0, none⟩))]
                  have hF1 := hF1.alloc (.cells #[.int .i64 k, .iface 101 (.pointer (some ⟨w7.heap.size, 0, none⟩))] 103)
                  have hb9 := hb8.alloc hz8 (.cells #[.int .i64 k, .iface 101 (.pointer (some ⟨w7.heap.size, 0, none⟩))] 103)
                  have ho9 := ho8.alloc (.cells #[.int .i64 k, .iface 101 (.pointer (some ⟨w7.heap.size, 0, none⟩))] 103)
                  have hbv9 := hbv8.alloc (.cells #[.int .i64 k, .iface 101 (.pointer (some ⟨w7.heap.size, 0, none⟩))] 103)
                  have hbl9 := hbl8.alloc (.cells #[.int .i64 k, .iface 101 (.pointer (some ⟨w7.heap.size, 0, none⟩))] 103)
                  rw [← hw9] at hF1 hF2 hb9 ho9 hbv9 hbl9
                  clear hw9
                  have hz9 := hb9.size
                  have hone : Own (RErr b) 31 [103] w.heap.size (w9.alloc (.cells #[.iface 101 (.pointer (some ⟨w8.heap.size, 0, none⟩))] 31)) (.slice (some ⟨w9.heap.size, 0, none⟩) 1 1) [(some ((k : Int), some (m : Int)), 1)] :=
                    Own.lit (xs := [.iface 101 (.pointer (some ⟨w8.heap.size, 0, none⟩))]) (by decide) (Els.single ⟨_, rfl, w8.heap.size, w7.heap.size, rfl, .inr ⟨_, _, _, hF2, by simp⟩, .inr ⟨_, _, _, hF1, by simp⟩, hF2.cell 0, hF2.cell 1, hF1.cell 0, hF1.cell 1⟩) hz9 rfl (by simp [maxLen])
                  have hout4 := ho9.alloc (.cells #[.iface 101 (.pointer (some ⟨w8.heap.size, 0, none⟩))] 31)
                  have hl4 : ((acc1 ++ lookC k ls[k].1 m).map dOf).length ≤ 2 + 1000000 * 1000001 + 1000000 := by rw [List.length_map, List.length_append]; omega
                  have hd : dOf ((k : Int), (m : Int), 2) = (some ((k : Int), some (m : Int)), 1) := by unfold dOf kOf; rw [if_neg (by simp only; omega)]; simp <;> omega
                  have hfin : (acc1 ++ lookC k ls[k].1 m).map dOf ++ [(some ((k : Int), some (m : Int)), 1)] = (acc1 ++ lookC k ls[k].1 (m + 1)).map dOf := by rw [HCS.out, ← List.append_assoc, List.map_append (l₂ := [_]), List.map_singleton, hd]
                  have HFIN := hide hfin
                  clear hd hfin
                  go_wp2_with (at_builtin; refine wpList_appg rfl (.tmp 62) (.tmp 68) 53 rfl (RErr b) 31 [103] w.heap.size 16 _ Tryd.underlying53 err_info rfl Nat.one_pos (by decide) _ _ rfl hout4 _ _ _ _ rfl hone.slc (fun _ h => h) (by simp only [List.length_singleton]; omega) (by simp; omega) ?_; intro v6 w6 hv6 hst6 hg6 hob6)
                  have hst5 := ((Step.alloc1 w.heap.size [31] w9 _).trans hst6)
                  go_roundw
                  case rel => exact ⟨m + 1, by omega, by go_num, by rw [← HFIN.out]; exact hv6, hbv9.step hst5 (by decide), hbl9.step hst5 (by decide), hb9.trans (hst5.below hz9)⟩
                  case measure => simp [intOf]; omega
              · obtain rfl : m = ls[k].1.length := by omega
                have hfin := hom
                rw [← HA1.out] at hfin
                go_wp2
                go_roundw
                case rel => exact ⟨k + 1, by omega, by go_num, hfin, hbv, hbm⟩
                case measure => simp [intOf]; omega
          · have e1 : ((ls[k].1.length : Int) != wd) = true := by simp [hw1]
            rw [if_neg hw1] at hsn
            have HSN := hide hsn
            clear hsn hw1
            have hE := (hbl.cell (p := ⟨4, 0, none⟩) hl3).trans hE3
            go_wp2_with fail
            refine (WrongB_ok k _ _ _).mono ?_
            rintro e w5 ⟨rfl, hw5⟩
            have hbF := Blk.new (wr.alloc (.cells #[.slice A2 ls[k].1.length c2, .bool ls[k].2] 45)) 103 #[.int .i64 k, .iface 123 (.pointer (some (b 3)))]
            have hout3 := hout2.alloc (.cells #[.int .i64 k, .iface 123 (.pointer (some (b 3)))] 103)
            have hblk3 := hblk2.alloc (.cells #[.int .i64 k, .iface 123 (.pointer (some (b 3)))] 103)
            have hblkl3 := hblkl.alloc (.cells #[.int .i64 k, .iface 123 (.pointer (some (b 3)))] 103)
            have hbl3 := hbl.alloc hzl (.cells #[.int .i64 k, .iface 123 (.pointer (some (b 3)))] 103)
            rw [← hw5] at hbF hout3 hblk3 hblkl3 hbl3
            have hs5 : (wr.alloc (.cells #[.slice A2 ls[k].1.length c2, .bool ls[k].2] 45)).heap.size = wr.heap.size + 1 := by simp
            rw [hs5] at hbF ⊢
            clear hw5
            have hz5 := hbl3.size
            have hone : Own (RErr b) 31 [103] w.heap.size (w5.alloc (.cells #[.iface 101 (.pointer (some ⟨wr.heap.size + 1, 0, none⟩))] 31)) (.slice (some ⟨w5.heap.size, 0, none⟩) 1 1) [(some ((k : Int), none), 3)] :=
              Own.lit (xs := [.iface 101 (.pointer (some ⟨wr.heap.size + 1, 0, none⟩))]) (by decide) (Els.single ⟨_, rfl, wr.heap.size + 1, rfl, .inr ⟨_, _, _, hbF, by simp⟩, hbF.cell 0, hbF.cell 1⟩) hz5 rfl (by simp [maxLen])
            have hout4 := hout3.alloc (.cells #[.iface 101 (.pointer (some ⟨wr.heap.size + 1, 0, none⟩))] 31)
            have hl4 : ((acc0 ++ lookN wd ls k).map dOf).length ≤ 1 + 1000000 * 1000001 := by rw [List.length_map, List.length_append]; omega
            go_wp2_with (at_builtin; refine wpList_appg rfl (.tmp 44) (.tmp 48) 53 rfl (RErr b) 31 [103] w.heap.size 16 _ Tryd.underlying53 err_info rfl Nat.one_pos (by decide) _ _ rfl hout4 _ _ _ _ rfl hone.slc (fun _ h => h) (by simp only [List.length_singleton]; omega) (by simp; omega) ?_; intro v6 w6 hv6 hst6 hg6 hob6; have hst5 := ((Step.alloc1 w.heap.size [31] w5 _).trans hst6); have hblkl6 := hblkl3.step hst5 (by decide); have z0 := hblkl6.cell 0; simp only [List.getElem?_toArray, List.getElem?_cons_succ, List.getElem?_cons_zero] at z0)
            have hout2 := hv6
            have hb6 := hbl3.trans (hst5.below hz5)
            have hz6 := hb6.size
            have hblk2 := hblk3.step hst5 (by decide)
            have hblkl := hblkl6
            clear z0
            have hd : dOf ((k : Int), -1, 4) = (some ((k : Int), none), 3) := by unfold dOf kOf; rw [if_neg (by simp only; omega)]; simp
            have hm6 : (acc0 ++ lookN wd ls k).map dOf ++ [(some ((k : Int), none), 3)] = ((acc0 ++ lookN wd ls k) ++ [((k : Int), -1, 4)]).map dOf := by rw [List.map_append (l₂ := [_]), List.map_singleton, hd]
            rw [hm6] at hout2
            obtain ⟨acc1, hacc1⟩ : ∃ acc1, acc1 = (acc0 ++ lookN wd ls k) ++ [((k : Int), -1, 4)] := ⟨_, rfl⟩
            rw [← hacc1] at hout2
            have ha1 : acc1.length ≤ 1 + 1000000 * 1000001 + 1 := by rw [hacc1, List.length_append, List.length_append, List.length_singleton]; omega
            have HA1 : Hid (acc0 ++ lookN wd ls (k + 1) = acc1 ++ lookC k ls[k].1 ls[k].1.length) := hide (by rw [HSN.out, hacc1]; simp only [List.append_assoc])
            clear hacc1 hout hm6 hv6
            have hbl := hb6
            go_loopw [3, 53] (fun out j wq => ∃ m : Nat, m ≤ ls[k].1.length ∧ j = .int .i64 m ∧ Own (RErr b) 31 [103] w.heap.size wq out ((acc1 ++ lookC k ls[k].1 m).map dOf) ∧ Blk wq w.heap.size 26 #[.int .i64 wd, .int .i64 hi, .slice (some ⟨ab, off, none⟩) ls.length cp, .int .i64 r, .int .i64 c, .bool p, .bool au] ∧ Blk wq wr.heap.size 45 #[.slice A2 ls[k].1.length c2, .bool ls[k].2] ∧ Below w.heap.size w wq) (fun _ j _ => ls[k].1.length - (intOf j).toNat)
            case atStart => exact ⟨0, Nat.zero_le _, rfl, by simpa [lookC] using hout2, hblk2, hblkl, hbl⟩
            case round =>
              obtain ⟨m, hm, rfl, hom, hbv, hbli, hbm⟩ := hrel
              have hzm := hbm.size
              have hcm := lookC_len k ls[k].1 m
              have hltl := hbli.lt
              have z0 := hbli.cell 0
              have z1 := hbli.cell 1
              simp only [List.getElem?_toArray, List.getElem?_cons_succ, List.getElem?_cons_zero] at z0 z1
              by_cases hml : m < ls[k].1.length
              · have hvm := hv.mono (Keep.below (S := fun b => b < w.heap.size) hbm) (Keep.below (S := fun b => b < w.heap.size) hbm)
                have hcs := lookC_snoc k ls[k].1 m
                rcases wrong_is ls[k].1 m with h0 | h5 | h2
                · rw [if_pos h0, List.append_nil] at hcs
                  have HCS := hide hcs
                  have hev : errV b (wrongAt ls[k].1 m) = .nilIface := by rw [h0]; rfl
                  have HEV := hide hev
                  clear hcs hev h0
                  go_wp2_with fail
                  refine (Awrong_ok b _ _ _ ls[k].1 m _ (HVA.out.below hbm) hvm hml (by omega)).mono ?_
                  rw [HEV.out]
                  rintro e w7 ⟨rfl, hb7⟩
                  have hb7' := hbm.trans (hb7.mono hzm)
                  go_wp2
                  go_roundw
                  case rel => exact ⟨m + 1, by omega, by go_num, by rw [HCS.out]; exact hom.below hb7, hbv.same hb7, hbli.same hb7, hb7'⟩
                  case measure => simp [intOf]; omega
                · rw [if_neg (by rw [h5]; decide), h5] at hcs
                  have HCS := hide hcs
                  have hev : errV b (wrongAt ls[k].1 m) = .iface 123 (.pointer (some (b 4))) := by rw [h5]; rfl
                  have HEV := hide hev
                  clear hcs hev h5
                  go_wp2_with fail
                  refine (Awrong_ok b _ _ _ ls[k].1 m _ (HVA.out.below hbm) hvm hml (by omega)).mono ?_
                  rw [HEV.out]
                  rintro e w7 ⟨rfl, hb7⟩
                  have hb7' := hbm.trans (hb7.mono hzm)
                  have hz7 := hb7'.size
                  go_wp2_with fail
                  refine (WrongB_ok m _ _ _).mono ?_
                  rintro e w8 ⟨rfl, hw8⟩
                  have hF1 := Blk.new w7 103 #[.int .i64 m, .iface 123 (.pointer (some (b 4)))]
                  have hb8 := hb7'.alloc hz7 (.cells #[.int .i64 m, .iface 123 (.pointer (some (b 4)))] 103)
                  have ho8 := (hom.below hb7).alloc (.cells #[.int .i64 m, .iface 123 (.pointer (some (b 4)))] 103)
                  have hbv8 := (hbv.same hb7).alloc (.cells #[.int .i64 m, .iface 123 (.pointer (some (b 4)))] 103)
                  have hbl8 := (hbli.same hb7).alloc (.cells #[.int .i64 m, .iface 123 (.pointer (some (b 4)))] 103)
                  rw [← hw8] at hF1 hb8 ho8 hbv8 hbl8
                  clear hw8
                  have hz8 := hb8.size
                  go_wp2_with fail
                  refine (WrongB_ok k _ _ _).mono ?_
                  rintro e w9 ⟨rfl, hw9⟩
                  have hF2 := Blk.new w8 103 #[.int .i64 k, .iface 101 (.pointer (some ⟨w7.heap.size, 0, none⟩))]
                  have hF1 := hF1.alloc (.cells #[.int .i64 k, .iface 101 (.pointer (some ⟨w7.heap.size, 0, none⟩))] 103)
                  have hb9 := hb8.alloc hz8 (.cells #[.int .i64 k, .iface 101 (.pointer (some ⟨w7.heap.size, 0, none⟩))] 103)
                  have ho9 := ho8.alloc (.cells #[.int .i64 k, .iface 101 (.pointer (some ⟨w7.heap.size, 0, none⟩))] 103)
                  have hbv9 := hbv8.alloc (.cells #[.int .i64 k, .iface 101 (.pointer (some ⟨w7.heap.size, 0, none⟩))] 103)
                  have hbl9 := hbl8.alloc (.cells #[.int .i64 k, .iface 101 (.pointer (some ⟨w7.heap.size, 0, none⟩))] 103)
                  rw [← hw9] at hF1 hF2 hb9 ho9 hbv9 hbl9
                  clear hw9
                  have hz9 := hb9.size
                  have hone : Own (RErr b) 31 [103] w.heap.size (w9.alloc (.cells #[.iface 101 (.pointer (some ⟨w8.heap.size, 0, none⟩))] 31)) (.slice (some ⟨w9.heap.size, 0, none⟩) 1 1) [(some ((k : Int), some (m : Int)), 4)] :=
                    Own.lit (xs := [.iface 101 (.pointer (some ⟨w8.heap.size, 0, none⟩))]) (by decide) (Els.single ⟨_, rfl, w8.heap.size, w7.heap.size, rfl, .inr ⟨_, _, _, hF2, by simp⟩, .inr ⟨_, _, _, hF1, by simp⟩, hF2.cell 0, hF2.cell 1, hF1.cell 0, hF1.cell 1⟩) hz9 rfl (by simp [maxLen])
                  have hout4 := ho9.alloc (.cells #[.iface 101 (.pointer (some ⟨w8.heap.size, 0, none⟩))] 31)
                  have hl4 : ((acc1 ++ lookC k ls[k].1 m).map dOf).length ≤ 2 + 1000000 * 1000001 + 1000000 := by rw [List.length_map, List.length_append]; omega
                  have hd : dOf ((k : Int), (m : Int), 5) = (some ((k : Int), some (m : Int)), 4) := by unfold dOf kOf; rw [if_neg (by simp only; omega)]; simp <;> omega
                  have hfin : (acc1 ++ lookC k ls[k].1 m).map dOf ++ [(some ((k : Int), some (m : Int)), 4)] = (acc1 ++ lookC k ls[k].1 (m + 1)).map dOf := by rw [HCS.out, ← List.append_assoc, List.map_append (l₂ := [_]), List.map_singleton, hd]
                  have HFIN := hide hfin
                  clear hd hfin
                  go_wp2_with (at_builtin; refine wpList_appg rfl (.tmp 62) (.tmp 68) 53 rfl (RErr b) 31 [103] w.heap.size 16 _ Tryd.underlying53 err_info rfl Nat.one_pos (by decide) _ _ rfl hout4 _ _ _ _ rfl hone.slc (fun _ h => h) (by simp only [List.length_singleton]; omega) (by simp; omega) ?_; intro v6 w6 hv6 hst6 hg6 hob6)
                  have hst5 := ((Step.alloc1 w.heap.size [31] w9 _).trans hst6)
                  go_roundw
                  case rel => exact ⟨m + 1, by omega, by go_num, by rw [← HFIN.out]; exact hv6, hbv9.step hst5 (by decide), hbl9.step hst5 (by decide), hb9.trans (hst5.below hz9)⟩
                  case measure => simp [intOf]; omega
                · rw [if_neg (by rw [h2]; decide), h2] at hcs
                  have HCS := hide hcs
                  have hev : errV b (wrongAt ls[k].1 m) = .iface 123 (.pointer (some (b 1))) := by rw [h2]; rfl
                  have HEV := hide hev
                  clear hcs hev h2
                  go_wp2_with fail
                  refine (Awrong_ok b _ _ _ ls[k].1 m _ (HVA.out.below hbm) hvm hml (by omega)).mono ?_
                  rw [HEV.out]
                  rintro e w7 ⟨rfl, hb7⟩
                  have hb7' := hbm.trans (hb7.mono hzm)
                  have hz7 := hb7'.size
                  go_wp2_with fail
                  refine (WrongB_ok m _ _ _).mono ?_
                  rintro e w8 ⟨rfl, hw8⟩
                  have hF1 := Blk.new w7 103 #[.int .i64 m, .iface 123 (.pointer (some (b 1)))]
                  have hb8 := hb7'.alloc hz7 (.cells #[.int .i64 m, .iface 123 (.pointer (some (b 1)))] 103)
                  have ho8 := (hom.below hb7).alloc (.cells #[.int .i64 m, .iface 123 (.pointer (some (b 1)))] 103)
                  have hbv8 := (hbv.same hb7).alloc (.cells #[.int .i64 m, .iface 123 (.pointer (some (b 1)))] 103)
                  have hbl8 := (hbli.same hb7).alloc (.cells #[.int .i64 m, .iface 123 (.pointer (some (b 1)))] 103)
                  rw [← hw8] at hF1 hb8 ho8 hbv8 hbl8
                  clear hw8
                  have hz8 := hb8.size
                  go_wp2_with fail
                  refine (WrongB_ok k _ _ _).mono ?_
                  rintro e w9 ⟨rfl, hw9⟩
                  have hF2 := Blk.new w8 103 #[.int .i64 k, .iface 101 (.pointer (some ⟨w7.heap.size, 0, none⟩))]
                  have hF1 := hF1.alloc (.cells #[.int .i64 k, .iface 101 (.pointer (some ⟨w7.heap.size, 0, none⟩))] 103)
                  have hb9 := hb8.alloc hz8 (.cells #[.int .i64 k, .iface 101 (.pointer (some ⟨w7.heap.size, 0, none⟩))] 103)
                  have ho9 := ho8.alloc (.cells #[.int .i64 k, .iface 101 (.pointer (some ⟨w7.heap.size, 0, none⟩))] 103)
                  have hbv9 := hbv8.alloc (.cells #[.int .i64 k, .iface 101 (.pointer (some ⟨w7.heap.size, 0, none⟩))] 103)
                  have hbl9 := hbl8.alloc (.cells #[.int .i64 k, .iface 101 (.pointer (some ⟨w7.heap.size, 0, none⟩))] 103)
                  rw [← hw9] at hF1 hF2 hb9 ho9 hbv9 hbl9
                  clear hw9
                  have hz9 := hb9.size
                  have hone : Own (RErr b) 31 [103] w.heap.size (w9.alloc (.cells #[.iface 101 (.pointer (some ⟨w8.heap.size, 0, none⟩))] 31)) (.slice (some ⟨w9.heap.size, 0, none⟩) 1 1) [(some ((k : Int), some (m : Int)), 1)] :=
                    Own.lit (xs := [.iface 101 (.pointer (some ⟨w8.heap.size, 0, none⟩))]) (by decide) (Els.single ⟨_, rfl, w8.heap.size, w7.heap.size, rfl, .inr ⟨_, _, _, hF2, by simp⟩, .inr ⟨_, _, _, hF1, by simp⟩, hF2.cell 0, hF2.cell 1, hF1.cell 0, hF1.cell 1⟩) hz9 rfl (by simp [maxLen])
                  have hout4 := ho9.alloc (.cells #[.iface 101 (.pointer (some ⟨w8.heap.size, 0, none⟩))] 31)
                  have hl4 : ((acc1 ++ lookC k ls[k].1 m).map dOf).length ≤ 2 + 1000000 * 1000001 + 1000000 := by rw [List.length_map, List.length_append]; omega
                  have hd : dOf ((k : Int), (m : Int), 2) = (some ((k : Int), some (m : Int)), 1) := by unfold dOf kOf; rw [if_neg (by simp only; omega)]; simp <;> omega
                  have hfin : (acc1 ++ lookC k ls[k].1 m).map dOf ++ [(some ((k : Int), some (m : Int)), 1)] = (acc1 ++ lookC k ls[k].1 (m + 1)).map dOf := by rw [HCS.out, ← List.append_assoc, List.map_append (l₂ := [_]), List.map_singleton, hd]
                  have HFIN := hide hfin
                  clear hd hfin
                  go_wp2_with (at_builtin; refine wpList_appg rfl (.tmp 62) (.tmp 68) 53 rfl (RErr b) 31 [103] w.heap.size 16 _ Tryd.underlying53 err_info rfl Nat.one_pos (by decide) _ _ rfl hout4 _ _ _ _ rfl hone.slc (fun _ h => h) (by simp only [List.length_singleton]; omega) (by simp; omega) ?_; intro v6 w6 hv6 hst6 hg6 hob6)
                  have hst5 := ((Step.alloc1 w.heap.size [31] w9 _).trans hst6)
                  go_roundw
                  case rel => exact ⟨m + 1, by omega, by go_num, by rw [← HFIN.out]; exact hv6, hbv9.step hst5 (by decide), hbl9.step hst5 (by decide), hb9.trans (hst5.below hz9)⟩
                  case measure => simp [intOf]; omega
              · obtain rfl : m = ls[k].1.length := by omega
                have hfin := hom
                rw [← HA1.out] at hfin
                go_wp2
                go_roundw
                case rel => exact ⟨k + 1, by omega, by go_num, hfin, hbv, hbm⟩
                case measure => simp [intOf]; omega
        · obtain rfl : k = ls.length := by omega
          go_wp2_with fail
          refine (HCR.out _).mono ?_
          rintro e w5 ⟨rfl, hb5⟩
          have hb5' := hbel.trans (hb5.mono hsz)
          have hz5 := hb5'.size
          have hv5 := hout.below hb5
          rcases Bool.eq_false_or_eq_true (curRight r c p wd hi) with hcu | hcu
          · have hres := HLF.out
            rw [if_pos hcu, List.append_nil] at hres
            have HR := hide hres
            clear hres
            go_wp2
            go_ret
            rw [HR.out]
            exact ⟨_, rfl, hv5, hb5'⟩
          · have hres := HLF.out
            rw [if_neg (by rw [hcu]; simp)] at hres
            have HR := hide hres
            have hE := (hb5'.cell (p := ⟨7, 0, none⟩) hl7).trans hE7
            have hone : Own (RErr b) 31 [103] w.heap.size (w5.alloc (.cells #[.iface 123 (.pointer (some (b 7)))] 31)) (.slice (some ⟨w5.heap.size, 0, none⟩) 1 1) [(none, 7)] :=
              Own.lit (xs := [.iface 123 (.pointer (some (b 7)))]) (by decide) (Els.single ⟨_, rfl, rfl⟩) hz5 rfl (by simp [maxLen])
            have hout4 := hv5.alloc (.cells #[.iface 123 (.pointer (some (b 7)))] 31)
            have ha0 : acc0.length ≤ 1 := HACC.out
            have hl4 : ((acc0 ++ lookN wd ls ls.length).map dOf).length ≤ 1 + 1000000 * 1000001 := by rw [List.length_map, List.length_append]; omega
            have hd : dOf (-1, -1, 8) = (none, 7) := by decide
            clear hres
            go_wp2_with (at_builtin; refine wpList_appg rfl (.tmp 80) (.tmp 82) 53 rfl (RErr b) 31 [103] w.heap.size 16 _ Tryd.underlying53 err_info rfl Nat.one_pos (by decide) _ _ rfl hout4 _ _ _ _ rfl hone.slc (fun _ h => h) (by simp only [List.length_singleton]; omega) (by simp; omega) ?_; intro v6 w6 hv6 hst6 hg6 hob6)
            have hst5 := ((Step.alloc1 w.heap.size [31] w5 _).trans hst6)
            go_ret
            rw [HR.out, List.map_append (l₂ := [_]), List.map_singleton, hd]
            exact ⟨_, rfl, hv6, hb5'.trans (hst5.below hz5)⟩
  · rw [decide_eq_false (fun h => k0 ⟨h.2.2.2.1, h.2.2.2.2⟩)] at hlf
    obtain ⟨acc0, hac⟩ : ∃ acc0 : List FoundV, acc0 = [(-1, -1, 3)] := ⟨_, rfl⟩
    have HLF : Hid (res = acc0 ++ lookN wd ls ls.length ++ (if curRight r c p wd hi = true then [] else [(-1, -1, 8)])) := hide (by rw [hlf, hac]; rfl)
    clear hlf
    have HACC : Hid (acc0.length ≤ 1) := hide (by rw [hac]; simp)
    have HBLKS := hide hblk0
    have hE := (hb0.cell (p := ⟨3, 0, none⟩) hl2).trans hE2
    go_enter Tryd.func38, Tryd.ntmps38
    go_wp2_with fail
    refine (Aside_ok wd _).mono ?_
    rw [decide_eq_false k0]
    rintro e w1 ⟨rfl, rfl⟩
    have hblkB := HBLKS.out
    have hone : Own (RErr b) 31 [103] w.heap.size ((w.alloc (.cells #[.int .i64 wd, .int .i64 hi, .slice A ls.length cp, .int .i64 r, .int .i64 c, .bool p, .bool au] 26)).alloc (.cells #[.iface 123 (.pointer (some (b 2)))] 31)) (.slice (some ⟨(w.alloc (.cells #[.int .i64 wd, .int .i64 hi, .slice A ls.length cp, .int .i64 r, .int .i64 c, .bool p, .bool au] 26)).heap.size, 0, none⟩) 1 1) [(none, 2)] :=
      Own.lit (xs := [.iface 123 (.pointer (some (b 2)))]) (by decide) (Els.single ⟨_, rfl, rfl⟩) hz0 rfl (by simp [maxLen])
    simp only [World.size_alloc] at hone
    have hout0 := Own.nil_ (RErr b) 31 [103] w.heap.size ((w.alloc (.cells #[.int .i64 wd, .int .i64 hi, .slice A ls.length cp, .int .i64 r, .int .i64 c, .bool p, .bool au] 26)).alloc (.cells #[.iface 123 (.pointer (some (b 2)))] 31)) (by decide)
    go_wp2_with (at_builtin; refine wpList_appg rfl (.tmp 26) (.tmp 28) 53 rfl (RErr b) 31 [103] w.heap.size 16 _ Tryd.underlying53 err_info rfl Nat.one_pos (by decide) _ _ rfl hout0 _ _ _ _ rfl hone.slc (fun _ h => h) (by simp) (by simp; omega) ?_; intro v1 w1 hv1 hst1 hg1 hob1; have hst0 := ((Step.alloc1 w.heap.size [31] (w.alloc (.cells #[.int .i64 wd, .int .i64 hi, .slice A ls.length cp, .int .i64 r, .int .i64 c, .bool p, .bool au] 26)) _).trans hst1); have hbk1 := hblk0.step hst0 (by decide); have z2 := hbk1.cell 2; simp only [List.getElem?_toArray, List.getElem?_cons_succ, List.getElem?_cons_zero] at z2)
    have HV0 : Own (RErr b) 31 [103] w.heap.size w1 v1 (acc0.map dOf) := by rw [hac]; exact hv1
    have HBLK := hblk0.step hst0 (by decide)
    have HB0 := hb0.trans (hst0.below hz0)
    clear hac
    go_loopw [3, 33] (fun out i wr => ∃ k : Nat, k ≤ ls.length ∧ i = .int .i64 k ∧ Own (RErr b) 31 [103] w.heap.size wr out ((acc0 ++ lookN wd ls k).map dOf) ∧ Blk wr w.heap.size 26 #[.int .i64 wd, .int .i64 hi, .slice A ls.length cp, .int .i64 r, .int .i64 c, .bool p, .bool au] ∧ Below w.heap.size w wr) (fun _ i _ => ls.length - (intOf i).toNat)
    case atStart => exact ⟨0, Nat.zero_le _, rfl, by simpa [lookN] using HV0, HBLK, HB0⟩
    case round =>
      obtain ⟨k, hk, rfl, hout, hblkr, hbel⟩ := hrel
      have hsz := hbel.size
      have hlt0 := hblkr.lt
      have y0 := hblkr.cell 0
      have y1 := hblkr.cell 1
      have y3 := hblkr.cell 3
      have y4 := hblkr.cell 4
      have y5 := hblkr.cell 5
      simp only [List.getElem?_toArray, List.getElem?_cons_succ, List.getElem?_cons_zero] at y0 y1 y3 y4 y5
      have hnl := HNL.out k hk
      have hk6 : k * 1000001 ≤ 1000000 * 1000001 := Nat.mul_le_mul_right _ (by omega)
      by_cases hlt : k < ls.length
      · obtain ⟨ab, off, v2, rfl, _, p0, p1, hv⟩ := line_at hx.slb hlt
        obtain ⟨A2, c2, rfl, _, _, _⟩ := hv.open_
        have hab := World.block_lt_of_cell? w _ p0
        simp only at hab
        have q8 := (hbel.cell (p := ⟨ab, off + k * 2, none⟩) hab).trans p0
        have q9 := (hbel.cell (p := ⟨ab, off + k * 2 + 1, none⟩) hab).trans p1
        have hln := HLEN.out ls[k] (List.getElem_mem _)
        have hsn := lookN_snoc wd ls k hlt
        have hll2 : lookL wd k ls[k] = (if (ls[k].1.length : Int) = wd then [] else [((k : Int), -1, 4)]) ++ lookC k ls[k].1 ls[k].1.length := rfl
        rw [hll2] at hsn
        have hblk2 := hblkr.alloc (.cells #[.slice A2 ls[k].1.length c2, .bool ls[k].2] 45)
        have hblkl := Blk.new wr 45 #[.slice A2 ls[k].1.length c2, .bool ls[k].2]
        have hout2 := hout.alloc (.cells #[.slice A2 ls[k].1.length c2, .bool ls[k].2] 45)
        have hbl := hbel.alloc hsz (.cells #[.slice A2 ls[k].1.length c2, .bool ls[k].2] 45)
        have hzl := hbl.size
        have ha0 : acc0.length ≤ 1 := HACC.out
        clear p0 p1 hll2
        by_cases hw1 : (ls[k].1.length : Int) = wd
        · have e1 : ((ls[k].1.length : Int) != wd) = false := by simp [hw1]
          rw [if_pos hw1, List.nil_append] at hsn
          have HSN := hide hsn
          clear hsn hw1
          obtain ⟨acc1, hacc1⟩ : ∃ acc1, acc1 = acc0 ++ lookN wd ls k := ⟨_, rfl⟩
          rw [← hacc1] at hout2
          have ha1 : acc1.length ≤ 1 + 1000000 * 1000001 + 1 := by rw [hacc1, List.length_append]; omega
          have HA1 : Hid (acc0 ++ lookN wd ls (k + 1) = acc1 ++ lookC k ls[k].1 ls[k].1.length) := hide (by rw [HSN.out, hacc1, List.append_assoc])
          clear hacc1 hout
          go_wp2
          go_loopw [3, 53] (fun out j wq => ∃ m : Nat, m ≤ ls[k].1.length ∧ j = .int .i64 m ∧ Own (RErr b) 31 [103] w.heap.size wq out ((acc1 ++ lookC k ls[k].1 m).map dOf) ∧ Blk wq w.heap.size 26 #[.int .i64 wd, .int .i64 hi, .slice (some ⟨ab, off, none⟩) ls.length cp, .int .i64 r, .int .i64 c, .bool p, .bool au] ∧ Blk wq wr.heap.size 45 #[.slice A2 ls[k].1.length c2, .bool ls[k].2] ∧ Below w.heap.size w wq) (fun _ j _ => ls[k].1.length - (intOf j).toNat)
          case atStart => exact ⟨0, Nat.zero_le _, rfl, by simpa [lookC] using hout2, hblk2, hblkl, hbl⟩
          case round =>
            obtain ⟨m, hm, rfl, hom, hbv, hbli, hbm⟩ := hrel
            have hzm := hbm.size
            have hcm := lookC_len k ls[k].1 m
            have hltl := hbli.lt
            have z0 := hbli.cell 0
            have z1 := hbli.cell 1
            simp only [List.getElem?_toArray, List.getElem?_cons_succ, List.getElem?_cons_zero] at z0 z1
            by_cases hml : m < ls[k].1.length
            · have hvm := hv.mono (Keep.below (S := fun b => b < w.heap.size) hbm) (Keep.below (S := fun b => b < w.heap.size) hbm)
              have hcs := lookC_snoc k ls[k].1 m
              rcases wrong_is ls[k].1 m with h0 | h5 | h2
              · rw [if_pos h0, List.append_nil] at hcs
                have HCS := hide hcs
                have hev : errV b (wrongAt ls[k].1 m) = .nilIface := by rw [h0]; rfl
                have HEV := hide hev
                clear hcs hev h0
                go_wp2_with fail
                refine (Awrong_ok b _ _ _ ls[k].1 m _ (HVA.out.below hbm) hvm hml (by omega)).mono ?_
                rw [HEV.out]
                rintro e w7 ⟨rfl, hb7⟩
                have hb7' := hbm.trans (hb7.mono hzm)
                go_wp2
                go_roundw
                case rel => exact ⟨m + 1, by omega, by go_num, by rw [HCS.out]; exact hom.below hb7, hbv.same hb7, hbli.same hb7, hb7'⟩
                case measure => simp [intOf]; omega
              · rw [if_neg (by rw [h5]; decide), h5] at hcs
                have HCS := hide hcs
                have hev : errV b (wrongAt ls[k].1 m) = .iface 123 (.pointer (some (b 4))) := by rw [h5]; rfl
                have HEV := hide hev
                clear hcs hev h5
                go_wp2_with fail
                refine (Awrong_ok b _ _ _ ls[k].1 m _ (HVA.out.below hbm) hvm hml (by omega)).mono ?_
                rw [HEV.out]
                rintro e w7 ⟨rfl, hb7⟩
                have hb7' := hbm.trans (hb7.mono hzm)
                have hz7 := hb7'.size
                go_wp2_with fail
                refine (WrongB_ok m _ _ _).mono ?_
                rintro e w8 ⟨rfl, hw8⟩
                have hF1 := Blk.new w7 103 #[.int .i64 m, .iface 123 (.pointer (some (b 4)))]
                have hb8 := hb7'.alloc hz7 (.cells #[.int .i64 m, .iface 123 (.pointer (some (b 4)))] 103)
                have ho8 := (hom.below hb7).alloc (.cells #[.int .i64 m, .iface 123 (.pointer (some (b 4)))] 103)
                have hbv8 := (hbv.same hb7).alloc (.cells #[.int .i64 m, .iface 123 (.pointer (some (b 4)))] 103)
                have hbl8 := (hbli.same hb7).alloc (.cells #[.int .i64 m, .iface 123 (.pointer (some (b 4)))] 103)
                rw [← hw8] at hF1 hb8 ho8 hbv8 hbl8
                clear hw8
                have hz8 := hb8.size
                go_wp2_with fail
                refine (WrongB_ok k _ _ _).mono ?_
                rintro e w9 ⟨rfl, hw9⟩
                have hF2 := Blk.new w8 103 #[.int .i64 k, .iface 101 (.pointer (some ⟨w7.heap.size, 0, none⟩))]
                have hF1 := hF1.alloc (.cells #[.int .i64 k, .iface 101 (.pointer (some ⟨w7.heap.size, 0, none⟩))] 103)
                have hb9 := hb8.alloc hz8 (.cells #[.int .i64 k, .iface 101 (.pointer (some ⟨w7.heap.size, 0, none⟩))] 103)
                have ho9 := ho8.alloc (.cells #[.int .i64 k, .iface 101 (.pointer (some ⟨w7.heap.size, 0, none⟩))] 103)
                have hbv9 := hbv8.alloc (.cells #[.int .i64 k, .iface 101 (.pointer (some ⟨w7.heap.size, 0, none⟩))] 103)
                have hbl9 := hbl8.alloc (.cells #[.int .i64 k, .iface 101 (.pointer (some ⟨w7.heap.size, 0, none⟩))] 103)
                rw [← hw9] at hF1 hF2 hb9 ho9 hbv9 hbl9
                clear hw9
                have hz9 := hb9.size
                have hone : Own (RErr b) 31 [103] w.heap.size (w9.alloc (.cells #[.iface 101 (.pointer (some ⟨w8.heap.size, 0, none⟩))] 31)) (.slice (some ⟨w9.heap.size, 0, none⟩) 1 1) [(some ((k : Int), some (m : Int)), 4)] :=
                  Own.lit (xs := [.iface 101 (.pointer (some ⟨w8.heap.size, 0, none⟩))]) (by decide) (Els.single ⟨_, rfl, w8.heap.size, w7.heap.size, rfl, .inr ⟨_, _, _, hF2, by simp⟩, .inr ⟨_, _, _, hF1, by simp⟩, hF2.cell 0, hF2.cell 1, hF1.cell 0, hF1.cell 1⟩) hz9 rfl (by simp [maxLen])
                have hout4 := ho9.alloc (.cells #[.iface 101 (.pointer (some ⟨w8.heap.size, 0, none⟩))] 31)
                have hl4 : ((acc1 ++ lookC k ls[k].1 m).map dOf).length ≤ 2 + 1000000 * 1000001 + 1000000 := by rw [List.length_map, List.length_append]; omega
                have hd : dOf ((k : Int), (m : Int), 5) = (some ((k : Int), some (m : Int)), 4) := by unfold dOf kOf; rw [if_neg (by simp only; omega)]; simp <;> omega
                have hfin : (acc1 ++ lookC k ls[k].1 m).map dOf ++ [(some ((k : Int), some (m : Int)), 4)] = (acc1 ++ lookC k ls[k].1 (m + 1)).map dOf := by rw [HCS.out, ← List.append_assoc, List.map_append (l₂ := [_]), List.map_singleton, hd]
                have HFIN := hide hfin
                clear hd hfin
                go_wp2_with (at_builtin; refine wpList_appg rfl (.tmp 62) (.tmp 68) 53 rfl (RErr b) 31 [103] w.heap.size 16 _ Tryd.underlying53 err_info rfl Nat.one_pos (by decide) _ _ rfl hout4 _ _ _ _ rfl hone.slc (fun _ h => h) (by simp only [List.length_singleton]; omega) (by simp; omega) ?_; intro v6 w6 hv6 hst6 hg6 hob6)
                have hst5 := ((Step.alloc1 w.heap.size [31] w9 _).trans hst6)
                go_roundw
                case rel => exact ⟨m + 1, by omega, by go_num, by rw [← HFIN.out]; exact hv6, hbv9.step hst5 (by decide), hbl9.step hst5 (by decide), hb9.trans (hst5.below hz9)⟩
                case measure => simp [intOf]; omega
              · rw [if_neg (by rw [h2]; decide), h2] at hcs
                have HCS := hide hcs
                have hev : errV b (wrongAt ls[k].1 m) = .iface 123 (.pointer (some (b 1))) := by rw [h2]; rfl
                have HEV := hide hev
                clear hcs hev h2
                go_wp2_with fail
                refine (Awrong_ok b _ _ _ ls[k].1 m _ (HVA.out.below hbm) hvm hml (by omega)).mono ?_
                rw [HEV.out]
                rintro e w7 ⟨rfl, hb7⟩
                have hb7' := hbm.trans (hb7.mono hzm)
                have hz7 := hb7'.size
                go_wp2_with fail
                refine (WrongB_ok m _ _ _).mono ?_
                rintro e w8 ⟨rfl, hw8⟩
                have hF1 := Blk.new w7 103 #[.int .i64 m, .iface 123 (.pointer (some (b 1)))]
                have hb8 := hb7'.alloc hz7 (.cells #[.int .i64 m, .iface 123 (.pointer (some (b 1)))] 103)
                have ho8 := (hom.below hb7).alloc (.cells #[.int .i64 m, .iface 123 (.pointer (some (b 1)))] 103)
                have hbv8 := (hbv.same hb7).alloc (.cells #[.int .i64 m, .iface 123 (.pointer (some (b 1)))] 103)
                have hbl8 := (hbli.same hb7).alloc (.cells #[.int .i64 m, .iface 123 (.pointer (some (b 1)))] 103)
                rw [← hw8] at hF1 hb8 ho8 hbv8 hbl8
                clear hw8
                have hz8 := hb8.size
                go_wp2_with fail
                refine (WrongB_ok k _ _ _).mono ?_
                rintro e w9 ⟨rfl, hw9⟩
                have hF2 := Blk.new w8 103 #[.int .i64 k, .iface 101 (.pointer (some ⟨w7.heap.size, 0, none⟩))]
                have hF1 := hF1.alloc (.cells #[.int .i64 k, .iface 101 (.pointer (some ⟨w7.heap.size, 0, none⟩))] 103)
                have hb9 := hb8.alloc hz8 (.cells #[.int .i64 k, .iface 101 (.pointer (some ⟨w7.heap.size, 0, none⟩))] 103)
                have ho9 := ho8.alloc (.cells #[.int .i64 k, .iface 101 (.pointer (some ⟨w7.heap.size, 0, none⟩))] 103)
                have hbv9 := hbv8.alloc (.cells #[.int .i64 k, .iface 101 (.pointer (some ⟨w7.heap.size, 0, none⟩))] 103)
                have hbl9 := hbl8.alloc (.cells #[.int .i64 k, .iface 101 (.pointer (some ⟨w7.heap.size, 0, none⟩))] 103)
                rw [← hw9] at hF1 hF2 hb9 ho9 hbv9 hbl9
                clear hw9
                have hz9 := hb9.size
                have hone : Own (RErr b) 31 [103] w.heap.size (w9.alloc (.cells #[.iface 101 (.pointer (some ⟨w8.heap.size, 0, none⟩))] 31)) (.slice (some ⟨w9.heap.size, 0, none⟩) 1 1) [(some ((k : Int), some (m : Int)), 1)] :=
                  Own.lit (xs := [.iface 101 (.pointer (some ⟨w8.heap.size, 0, none⟩))]) (by decide) (Els.single ⟨_, rfl, w8.heap.size, w7.heap.size, rfl, .inr ⟨_, _, _, hF2, by simp⟩, .inr ⟨_, _, _, hF1, by simp⟩, hF2.cell 0, hF2.cell 1, hF1.cell 0, hF1.cell 1⟩) hz9 rfl (by simp [maxLen])
                have hout4 := ho9.alloc (.cells #[.iface 101 (.pointer (some ⟨w8.heap.size, 0, none⟩))] 31)
                have hl4 : ((acc1 ++ lookC k ls[k].1 m).map dOf).length ≤ 2 + 1000000 * 1000001 + 1000000 := by rw [List.length_map, List.length_append]; omega
                have hd : dOf ((k : Int), (m : Int), 2) = (some ((k : Int), some (m : Int)), 1) := by unfold dOf kOf; rw [if_neg (by simp only; omega)]; simp <;> omega
                have hfin : (acc1 ++ lookC k ls[k].1 m).map dOf ++ [(some ((k : Int), some (m : Int)), 1)] = (acc1 ++ lookC k ls[k].1 (m + 1)).map dOf := by rw [HCS.out, ← List.append_assoc, List.map_append (l₂ := [_]), List.map_singleton, hd]
                have HFIN := hide hfin
                clear hd hfin
                go_wp2_with (at_builtin; refine wpList_appg rfl (.tmp 62) (.tmp 68) 53 rfl (RErr b) 31 [103] w.heap.size 16 _ Tryd.underlying53 err_info rfl Nat.one_pos (by decide) _ _ rfl hout4 _ _ _ _ rfl hone.slc (fun _ h => h) (by simp only [List.length_singleton]; omega) (by simp; omega) ?_; intro v6 w6 hv6 hst6 hg6 hob6)
                have hst5 := ((Step.alloc1 w.heap.size [31] w9 _).trans hst6)
                go_roundw
                case rel => exact ⟨m + 1, by omega, by go_num, by rw [← HFIN.out]; exact hv6, hbv9.step hst5 (by decide), hbl9.step hst5 (by decide), hb9.trans (hst5.below hz9)⟩
                case measure => simp [intOf]; omega
            · obtain rfl : m = ls[k].1.length := by omega
              have hfin := hom
              rw [← HA1.out] at hfin
              go_wp2
              go_roundw
              case rel => exact ⟨k + 1, by omega, by go_num, hfin, hbv, hbm⟩
              case measure => simp [intOf]; omega
        · have e1 : ((ls[k].1.length : Int) != wd) = true := by simp [hw1]
          rw [if_neg hw1] at hsn
          have HSN := hide hsn
          clear hsn hw1
          have hE := (hbl.cell (p := ⟨4, 0, none⟩) hl3).trans hE3
          go_wp2_with fail
          refine (WrongB_ok k _ _ _).mono ?_
          rintro e w5 ⟨rfl, hw5⟩
          have hbF := Blk.new (wr.alloc (.cells #[.slice A2 ls[k].1.length c2, .bool ls[k].2] 45)) 103 #[.int .i64 k, .iface 123 (.pointer (some (b 3)))]
          have hout3 := hout2.alloc (.cells #[.int .i64 k, .iface 123 (.pointer (some (b 3)))] 103)
          have hblk3 := hblk2.alloc (.cells #[.int .i64 k, .iface 123 (.pointer (some (b 3)))] 103)
          have hblkl3 := hblkl.alloc (.cells #[.int .i64 k, .iface 123 (.pointer (some (b 3)))] 103)
          have hbl3 := hbl.alloc hzl (.cells #[.int .i64 k, .iface 123 (.pointer (some (b 3)))] 103)
          rw [← hw5] at hbF hout3 hblk3 hblkl3 hbl3
          have hs5 : (wr.alloc (.cells #[.slice A2 ls[k].1.length c2, .bool ls[k].2] 45)).heap.size = wr.heap.size + 1 := by simp
          rw [hs5] at hbF ⊢
          clear hw5
          have hz5 := hbl3.size
          have hone : Own (RErr b) 31 [103] w.heap.size (w5.alloc (.cells #[.iface 101 (.pointer (some ⟨wr.heap.size + 1, 0, none⟩))] 31)) (.slice (some ⟨w5.heap.size, 0, none⟩) 1 1) [(some ((k : Int), none), 3)] :=
            Own.lit (xs := [.iface 101 (.pointer (some ⟨wr.heap.size + 1, 0, none⟩))]) (by decide) (Els.single ⟨_, rfl, wr.heap.size + 1, rfl, .inr ⟨_, _, _, hbF, by simp⟩, hbF.cell 0, hbF.cell 1⟩) hz5 rfl (by simp [maxLen])
          have hout4 := hout3.alloc (.cells #[.iface 101 (.pointer (some ⟨wr.heap.size + 1, 0, none⟩))] 31)
          have hl4 : ((acc0 ++ lookN wd ls k).map dOf).length ≤ 1 + 1000000 * 1000001 := by rw [List.length_map, List.length_append]; omega
          go_wp2_with (at_builtin; refine wpList_appg rfl (.tmp 44) (.tmp 48) 53 rfl (RErr b) 31 [103] w.heap.size 16 _ Tryd.underlying53 err_info rfl Nat.one_pos (by decide) _ _ rfl hout4 _ _ _ _ rfl hone.slc (fun _ h => h) (by simp only [List.length_singleton]; omega) (by simp; omega) ?_; intro v6 w6 hv6 hst6 hg6 hob6; have hst5 := ((Step.alloc1 w.heap.size [31] w5 _).trans hst6); have hblkl6 := hblkl3.step hst5 (by decide); have z0 := hblkl6.cell 0; simp only [List.getElem?_toArray, List.getElem?_cons_succ, List.getElem?_cons_zero] at z0)
          have hout2 := hv6
          have hb6 := hbl3.trans (hst5.below hz5)
          have hz6 := hb6.size
          have hblk2 := hblk3.step hst5 (by decide)
          have hblkl := hblkl6
          clear z0
          have hd : dOf ((k : Int), -1, 4) = (some ((k : Int), none), 3) := by unfold dOf kOf; rw [if_neg (by simp only; omega)]; simp
          have hm6 : (acc0 ++ lookN wd ls k).map dOf ++ [(some ((k : Int), none), 3)] = ((acc0 ++ lookN wd ls k) ++ [((k : Int), -1, 4)]).map dOf := by rw [List.map_append (l₂ := [_]), List.map_singleton, hd]
          rw [hm6] at hout2
          obtain ⟨acc1, hacc1⟩ : ∃ acc1, acc1 = (acc0 ++ lookN wd ls k) ++ [((k : Int), -1, 4)] := ⟨_, rfl⟩
          rw [← hacc1] at hout2
          have ha1 : acc1.length ≤ 1 + 1000000 * 1000001 + 1 := by rw [hacc1, List.length_append, List.length_append, List.length_singleton]; omega
          have HA1 : Hid (acc0 ++ lookN wd ls (k + 1) = acc1 ++ lookC k ls[k].1 ls[k].1.length) := hide (by rw [HSN.out, hacc1]; simp only [List.append_assoc])
          clear hacc1 hout hm6 hv6
          have hbl := hb6
          go_loopw [3, 53] (fun out j wq => ∃ m : Nat, m ≤ ls[k].1.length ∧ j = .int .i64 m ∧ Own (RErr b) 31 [103] w.heap.size wq out ((acc1 ++ lookC k ls[k].1 m).map dOf) ∧ Blk wq w.heap.size 26 #[.int .i64 wd, .int .i64 hi, .slice (some ⟨ab, off, none⟩) ls.length cp, .int .i64 r, .int .i64 c, .bool p, .bool au] ∧ Blk wq wr.heap.size 45 #[.slice A2 ls[k].1.length c2, .bool ls[k].2] ∧ Below w.heap.size w wq) (fun _ j _ => ls[k].1.length - (intOf j).toNat)
          case atStart => exact ⟨0, Nat.zero_le _, rfl, by simpa [lookC] using hout2, hblk2, hblkl, hbl⟩
          case round =>
            obtain ⟨m, hm, rfl, hom, hbv, hbli, hbm⟩ := hrel
            have hzm := hbm.size
            have hcm := lookC_len k ls[k].1 m
            have hltl := hbli.lt
            have z0 := hbli.cell 0
            have z1 := hbli.cell 1
            simp only [List.getElem?_toArray, List.getElem?_cons_succ, List.getElem?_cons_zero] at z0 z1
            by_cases hml : m < ls[k].1.length
            · have hvm := hv.mono (Keep.below (S := fun b => b < w.heap.size) hbm) (Keep.below (S := fun b => b < w.heap.size) hbm)
              have hcs := lookC_snoc k ls[k].1 m
              rcases wrong_is ls[k].1 m with h0 | h5 | h2
              · rw [if_pos h0, List.append_nil] at hcs
                have HCS := hide hcs
                have hev : errV b (wrongAt ls[k].1 m) = .nilIface := by rw [h0]; rfl
                have HEV := hide hev
                clear hcs hev h0
                go_wp2_with fail
                refine (Awrong_ok b _ _ _ ls[k].1 m _ (HVA.out.below hbm) hvm hml (by omega)).mono ?_
                rw [HEV.out]
                rintro e w7 ⟨rfl, hb7⟩
                have hb7' := hbm.trans (hb7.mono hzm)
                go_wp2
                go_roundw
                case rel => exact ⟨m + 1, by omega, by go_num, by rw [HCS.out]; exact hom.below hb7, hbv.same hb7, hbli.same hb7, hb7'⟩
                case measure => simp [intOf]; omega
              · rw [if_neg (by rw [h5]; decide), h5] at hcs
                have HCS := hide hcs
                have hev : errV b (wrongAt ls[k].1 m) = .iface 123 (.pointer (some (b 4))) := by rw [h5]; rfl
                have HEV := hide hev
                clear hcs hev h5
                go_wp2_with fail
                refine (Awrong_ok b _ _ _ ls[k].1 m _ (HVA.out.below hbm) hvm hml (by omega)).mono ?_
                rw [HEV.out]
                rintro e w7 ⟨rfl, hb7⟩
                have hb7' := hbm.trans (hb7.mono hzm)
                have hz7 := hb7'.size
                go_wp2_with fail
                refine (WrongB_ok m _ _ _).mono ?_
                rintro e w8 ⟨rfl, hw8⟩
                have hF1 := Blk.new w7 103 #[.int .i64 m, .iface 123 (.pointer (some (b 4)))]
                have hb8 := hb7'.alloc hz7 (.cells #[.int .i64 m, .iface 123 (.pointer (some (b 4)))] 103)
                have ho8 := (hom.below hb7).alloc (.cells #[.int .i64 m, .iface 123 (.pointer (some (b 4)))] 103)
                have hbv8 := (hbv.same hb7).alloc (.cells #[.int .i64 m, .iface 123 (.pointer (some (b 4)))] 103)
                have hbl8 := (hbli.same hb7).alloc (.cells #[.int .i64 m, .iface 123 (.pointer (some (b 4)))] 103)
                rw [← hw8] at hF1 hb8 ho8 hbv8 hbl8
                clear hw8
                have hz8 := hb8.size
                go_wp2_with fail
                refine (WrongB_ok k _ _ _).mono ?_
                rintro e w9 ⟨rfl, hw9⟩
                have hF2 := Blk.new w8 103 #[.int .i64 k, .iface 101 (.pointer (some ⟨w7.heap.size, 0, none⟩))]
                have hF1 := hF1.alloc (.cells #[.int .i64 k, .iface 101 (.pointer (some ⟨w7.heap.size, 0, none⟩))] 103)
                have hb9 := hb8.alloc hz8 (.cells #[.int .i64 k, .iface 101 (.pointer (some ⟨w7.heap.size, 0, none⟩))] 103)
                have ho9 := ho8.alloc (.cells #[.int .i64 k, .iface 101 (.pointer (some ⟨w7.heap.size, 0, none⟩))] 103)
                have hbv9 := hbv8.alloc (.cells #[.int .i64 k, .iface 101 (.pointer (some ⟨w7.heap.size, 0, none⟩))] 103)
                have hbl9 := hbl8.alloc (.cells #[.int .i64 k, .iface 101 (.pointer (some ⟨w7.heap.size, 0, none⟩))] 103)
                rw [← hw9] at hF1 hF2 hb9 ho9 hbv9 hbl9
                clear hw9
                have hz9 := hb9.size
                have hone : Own (RErr b) 31 [103] w.heap.size (w9.alloc (.cells #[.iface 101 (.pointer (some ⟨w8.heap.size, 0, none⟩))] 31)) (.slice (some ⟨w9.heap.size, 0, none⟩) 1 1) [(some ((k : Int), some (m : Int)), 4)] :=
                  Own.lit (xs := [.iface 101 (.pointer (some ⟨w8.heap.size, 0, none⟩))]) (by decide) (Els.single ⟨_, rfl, w8.heap.size, w7.heap.size, rfl, .inr ⟨_, _, _, hF2, by simp⟩, .inr ⟨_, _, _, hF1, by simp⟩, hF2.cell 0, hF2.cell 1, hF1.cell 0, hF1.cell 1⟩) hz9 rfl (by simp [maxLen])
                have hout4 := ho9.alloc (.cells #[.iface 101 (.pointer (some ⟨w8.heap.size, 0, none⟩))] 31)
                have hl4 : ((acc1 ++ lookC k ls[k].1 m).map dOf).length ≤ 2 + 1000000 * 1000001 + 1000000 := by rw [List.length_map, List.length_append]; omega
                have hd : dOf ((k : Int), (m : Int), 5) = (some ((k : Int), some (m : Int)), 4) := by unfold dOf kOf; rw [if_neg (by simp only; omega)]; simp <;> omega
                have hfin : (acc1 ++ lookC k ls[k].1 m).map dOf ++ [(some ((k : Int), some (m : Int)), 4)] = (acc1 ++ lookC k ls[k].1 (m + 1)).map dOf := by rw [HCS.out, ← List.append_assoc, List.map_append (l₂ := [_]), List.map_singleton, hd]
                have HFIN := hide hfin
                clear hd hfin
                go_wp2_with (at_builtin; refine wpList_appg rfl (.tmp 62) (.tmp 68) 53 rfl (RErr b) 31 [103] w.heap.size 16 _ Tryd.underlying53 err_info rfl Nat.one_pos (by decide) _ _ rfl hout4 _ _ _ _ rfl hone.slc (fun _ h => h) (by simp only [List.length_singleton]; omega) (by simp; omega) ?_; intro v6 w6 hv6 hst6 hg6 hob6)
                have hst5 := ((Step.alloc1 w.heap.size [31] w9 _).trans hst6)
                go_roundw
                case rel => exact ⟨m + 1, by omega, by go_num, by rw [← HFIN.out]; exact hv6, hbv9.step hst5 (by decide), hbl9.step hst5 (by decide), hb9.trans (hst5.below hz9)⟩
                case measure => simp [intOf]; omega
              · rw [if_neg (by rw [h2]; decide), h2] at hcs
                have HCS := hide hcs
                have hev : errV b (wrongAt ls[k].1 m) = .iface 123 (.pointer (some (b 1))) := by rw [h2]; rfl
                have HEV := hide hev
                clear hcs hev h2
                go_wp2_with fail
                refine (Awrong_ok b _ _ _ ls[k].1 m _ (HVA.out.below hbm) hvm hml (by omega)).mono ?_
                rw [HEV.out]
                rintro e w7 ⟨rfl, hb7⟩
                have hb7' := hbm.trans (hb7.mono hzm)
                have hz7 := hb7'.size
                go_wp2_with fail
                refine (WrongB_ok m _ _ _).mono ?_
                rintro e w8 ⟨rfl, hw8⟩
                have hF1 := Blk.new w7 103 #[.int .i64 m, .iface 123 (.pointer (some (b 1)))]
                have hb8 := hb7'.alloc hz7 (.cells #[.int .i64 m, .iface 123 (.pointer (some (b 1)))] 103)
                have ho8 := (hom.below hb7).alloc (.cells #[.int .i64 m, .iface 123 (.pointer (some (b 1)))] 103)
                have hbv8 := (hbv.same hb7).alloc (.cells #[.int .i64 m, .iface 123 (.pointer (some (b 1)))] 103)
                have hbl8 := (hbli.same hb7).alloc (.cells #[.int .i64 m, .iface 123 (.pointer (some (b 1)))] 103)
                rw [← hw8] at hF1 hb8 ho8 hbv8 hbl8
                clear hw8
                have hz8 := hb8.size
                go_wp2_with fail
                refine (WrongB_ok k _ _ _).mono ?_
                rintro e w9 ⟨rfl, hw9⟩
                have hF2 := Blk.new w8 103 #[.int .i64 k, .iface 101 (.pointer (some ⟨w7.heap.size, 0, none⟩))]
                have hF1 := hF1.alloc (.cells #[.int .i64 k, .iface 101 (.pointer (some ⟨w7.heap.size, 0, none⟩))] 103)
                have hb9 := hb8.alloc hz8 (.cells #[.int .i64 k, .iface 101 (.pointer (some ⟨w7.heap.size, 0, none⟩))] 103)
                have ho9 := ho8.alloc (.cells #[.int .i64 k, .iface 101 (.pointer (some ⟨w7.heap.size, 0, none⟩))] 103)
                have hbv9 := hbv8.alloc (.cells #[.int .i64 k, .iface 101 (.pointer (some ⟨w7.heap.size, 0, none⟩))] 103)
                have hbl9 := hbl8.alloc (.cells #[.int .i64 k, .iface 101 (.pointer (some ⟨w7.heap.size, 0, none⟩))] 103)
                rw [← hw9] at hF1 hF2 hb9 ho9 hbv9 hbl9
                clear hw9
                have hz9 := hb9.size
                have hone : Own (RErr b) 31 [103] w.heap.size (w9.alloc (.cells #[.iface 101 (.pointer (some ⟨w8.heap.size, 0, none⟩))] 31)) (.slice (some ⟨w9.heap.size, 0, none⟩) 1 1) [(some ((k : Int), some (m : Int)), 1)] :=
                  Own.lit (xs := [.iface 101 (.pointer (some ⟨w8.heap.size, 0, none⟩))]) (by decide) (Els.single ⟨_, rfl, w8.heap.size, w7.heap.size, rfl, .inr ⟨_, _, _, hF2, by simp⟩, .inr ⟨_, _, _, hF1, by simp⟩, hF2.cell 0, hF2.cell 1, hF1.cell 0, hF1.cell 1⟩) hz9 rfl (by simp [maxLen])
                have hout4 := ho9.alloc (.cells #[.iface 101 (.pointer (some ⟨w8.heap.size, 0, none⟩))] 31)
                have hl4 : ((acc1 ++ lookC k ls[k].1 m).map dOf).length ≤ 2 + 1000000 * 1000001 + 1000000 := by rw [List.length_map, List.length_append]; omega
                have hd : dOf ((k : Int), (m : Int), 2) = (some ((k : Int), some (m : Int)), 1) := by unfold dOf kOf; rw [if_neg (by simp only; omega)]; simp <;> omega
                have hfin : (acc1 ++ lookC k ls[k].1 m).map dOf ++ [(some ((k : Int), some (m : Int)), 1)] = (acc1 ++ lookC k ls[k].1 (m + 1)).map dOf := by rw [HCS.out, ← List.append_assoc, List.map_append (l₂ := [_]), List.map_singleton, hd]
                have HFIN := hide hfin
                clear hd hfin
                go_wp2_with (at_builtin; refine wpList_appg rfl (.tmp 62) (.tmp 68) 53 rfl (RErr b) 31 [103] w.heap.size 16 _ Tryd.underlying53 err_info rfl Nat.one_pos (by decide) _ _ rfl hout4 _ _ _ _ rfl hone.slc (fun _ h => h) (by simp only [List.length_singleton]; omega) (by simp; omega) ?_; intro v6 w6 hv6 hst6 hg6 hob6)
                have hst5 := ((Step.alloc1 w.heap.size [31] w9 _).trans hst6)
                go_roundw
                case rel => exact ⟨m + 1, by omega, by go_num, by rw [← HFIN.out]; exact hv6, hbv9.step hst5 (by decide), hbl9.step hst5 (by decide), hb9.trans (hst5.below hz9)⟩
                case measure => simp [intOf]; omega
            · obtain rfl : m = ls[k].1.length := by omega
              have hfin := hom
              rw [← HA1.out] at hfin
              go_wp2
              go_roundw
              case rel => exact ⟨k + 1, by omega, by go_num, hfin, hbv, hbm⟩
              case measure => simp [intOf]; omega
      · obtain rfl : k = ls.length := by omega
        go_wp2_with fail
        refine (HCR.out _).mono ?_
        rintro e w5 ⟨rfl, hb5⟩
        have hb5' := hbel.trans (hb5.mono hsz)
        have hz5 := hb5'.size
        have hv5 := hout.below hb5
        rcases Bool.eq_false_or_eq_true (curRight r c p wd hi) with hcu | hcu
        · have hres := HLF.out
          rw [if_pos hcu, List.append_nil] at hres
          have HR := hide hres
          clear hres
          go_wp2
          go_ret
          rw [HR.out]
          exact ⟨_, rfl, hv5, hb5'⟩
        · have hres := HLF.out
          rw [if_neg (by rw [hcu]; simp)] at hres
          have HR := hide hres
          have hE := (hb5'.cell (p := ⟨7, 0, none⟩) hl7).trans hE7
          have hone : Own (RErr b) 31 [103] w.heap.size (w5.alloc (.cells #[.iface 123 (.pointer (some (b 7)))] 31)) (.slice (some ⟨w5.heap.size, 0, none⟩) 1 1) [(none, 7)] :=
            Own.lit (xs := [.iface 123 (.pointer (some (b 7)))]) (by decide) (Els.single ⟨_, rfl, rfl⟩) hz5 rfl (by simp [maxLen])
          have hout4 := hv5.alloc (.cells #[.iface 123 (.pointer (some (b 7)))] 31)
          have ha0 : acc0.length ≤ 1 := HACC.out
          have hl4 : ((acc0 ++ lookN wd ls ls.length).map dOf).length ≤ 1 + 1000000 * 1000001 := by rw [List.length_map, List.length_append]; omega
          have hd : dOf (-1, -1, 8) = (none, 7) := by decide
          clear hres
          go_wp2_with (at_builtin; refine wpList_appg rfl (.tmp 80) (.tmp 82) 53 rfl (RErr b) 31 [103] w.heap.size 16 _ Tryd.underlying53 err_info rfl Nat.one_pos (by decide) _ _ rfl hout4 _ _ _ _ rfl hone.slc (fun _ h => h) (by simp only [List.length_singleton]; omega) (by simp; omega) ?_; intro v6 w6 hv6 hst6 hg6 hob6)
          have hst5 := ((Step.alloc1 w.heap.size [31] w5 _).trans hst6)
          go_ret
          rw [HR.out, List.map_append (l₂ := [_]), List.map_singleton, hd]
          exact ⟨_, rfl, hv6, hb5'.trans (hst5.below hz5)⟩
end Go.Proofs.YtphdagmaamcapaaDoor
