/-
  The law on the bytes of any numbers: the walk returns true and leaves the memory that was there as it was.
-/
import Derived.Test.YtejhaepgbfngcaaDoorPuts0
namespace Go.Proofs.YtejhaepgbfngcaaDoor
open Go.RowKit
set_option linter.unusedVariables false
set_option linter.unusedSimpArgs false

set_option maxHeartbeats 2000000 in
theorem walkS_ScalarPuts (b : Nat → Addr) (p : Value) (l : List Int) (w : World) (hS : Sents b w) (hT : TypeVar w) (hp : Slc (Rep.int .i32) (fun b => b < w.heap.size) (fun b => b < w.heap.size) w p l) :
    Calls Tryd.prog 3 #[p] w fun e w' => e = .returned (.bool true) ∧ Below w.heap.size w w' := by
  obtain ⟨A, c, rfl, hc1, hc2, hB⟩ := hp.open_
  have HSE := hide hS
  have HTV := hide hT
  clear hS hT
  by_cases hl : l.length ≤ 5000
  · have hl2 : decide ((5000 : Int) < (l.length : Int)) = false := by simp; omega
    go_enter Tryd.func3, Tryd.ntmps3
    go_wp2_with fail
    refine (works01_ok _).mono ?_
    rintro e w1 ⟨rfl, hb1⟩
    have hz1 := hb1.size
    have hp1 := (hp.mono (Keep.below (S := fun b => b < w.heap.size) hb1) (Keep.below (S := fun b => b < w.heap.size) hb1)).mono (So' := fun b => b < w1.heap.size) (Si' := fun b => b < w1.heap.size) (Keep.weaken fun b h => by omega) (Keep.weaken fun b h => by omega)
    go_wp2_with fail
    refine (sPutAll_ok b _ l _ (HSE.out.below (hb1.mono (Nat.le_refl _))) hp1 (by omega)).mono ?_
    rintro e w2 ⟨hh, hb2⟩
    have hb2' := hb1.trans (hb2.mono hz1)
    have hz2 := hb2'.size
    have hp2 := hp.mono (Keep.below (S := fun b => b < w.heap.size) hb2') (Keep.below (S := fun b => b < w.heap.size) hb2')
    rcases hh with ⟨hall, v2, rfl, hv2⟩ | ⟨k, hk, hkv, hpre, v2, rfl, he2⟩
    · have HALL := hide hall
      obtain ⟨A2, c2, rfl, _, _, _⟩ := hv2.slc.open_
      clear hall
      go_wp2_with fail
      refine (rPut_ok _ _ _ l _ hp2 (by omega)).mono ?_
      rintro e w3 ⟨v3, a3, rfl, hs3, hb3⟩
      have hb3' := hb2'.trans (hb3.mono hz2)
      have hz3 := hb3'.size
      have hv2' := hv2.below hb3
      rcases hs3 with ⟨rfl, _, hv3⟩ | ⟨j, hj, _, hjv, _⟩
      · obtain ⟨A3, c3, rfl, _, _, _⟩ := hv3.slc.open_
        go_wp2_with fail
        refine (rBytes_ok _ _ _ _ _ _ _ _ _ hv2'.slc hv3.slc).mono ?_
        rintro e w4 ⟨rfl, rfl⟩
        rw [decide_eq_true rfl]
        have hbE := hb3'
        have hzE := hz3
        have hx5 := (hp.mono (Keep.below (S := fun b => b < w.heap.size) hbE) (Keep.below (S := fun b => b < w.heap.size) hbE))
        go_wp2_with fail
        refine (Replace_ok _ _ _ l _ hx5 (by omega)).mono ?_
        rintro e wR ⟨vR, rfl, hvR, hbR⟩
        have hbR' := hbE.trans (hbR.mono hzE)
        have hzR := hbR'.size
        have hml : (l.map replF).length = l.length := by simp
        have hma : ∀ k (h : k < l.length) (h' : k < (l.map replF).length), (l.map replF)[k] = if validB l[k] = true then l[k] else 65533 := fun k h h' => by simp [replF]
        have hmv : ∀ r ∈ l.map replF, validB r = true := by
          intro r hr
          obtain ⟨a, _, rfl⟩ := List.mem_map.1 hr
          exact replF_valid a
        generalize l.map replF = m at *
        have HMA := hide hma
        have HMV := hide hmv
        have hsR := hvR.slc.mono (So' := fun b => b < wR.heap.size) (Si' := fun b => b < wR.heap.size) (Keep.weaken fun b h => h.1) (Keep.lt _ _)
        obtain ⟨AR, cR, hRe, _, _, hBR⟩ := hsR.open_
        rw [hml] at hRe
        subst hRe
        clear hma hmv
        go_wp2
        go_loopw [8, 9] (fun i wt wr => ∃ k : Nat, k ≤ l.length ∧ i = .int .i64 k ∧ wR = wr) (fun i _ _ => l.length - (intOf i).toNat)
        case atStart => exact ⟨0, Nat.zero_le _, rfl, rfl⟩
        case round =>
          obtain ⟨k, hk, rfl, rfl⟩ := hrel
          by_cases hlt : k < l.length
          · have hBk := hB.ints_keep (Keep.below (S := fun b => b < w.heap.size) hbR')
            obtain ⟨ab, off, rfl, _, hck, hwk⟩ := ints_at hBk hlt
            obtain ⟨hw0, hw1⟩ := i32_wf hwk
            obtain ⟨mb, mo, rfl, _, hcm, hwm⟩ := ints_at hBR (j := k) (by omega)
            have hmk := HMA.out k hlt (by omega)
            rw [hmk] at hcm
            have hkm : k < m.length := by omega
            have hR := fun w => rValid_ok l[k] hw0 hw1 w
            rcases Bool.eq_false_or_eq_true (validB l[k]) with hv | hv
            · rw [if_pos hv] at hcm
              rw [hv] at hR
              have HR := hide hR
              clear hR hv hmk
              go_wp2_with fail
              refine (HR.out _).mono ?_
              rintro e w9 ⟨rfl, rfl⟩
              go_wp2
              go_roundw
              case rel => exact ⟨k + 1, by omega, by go_num, trivial⟩
              case measure => simp [intOf]; omega
            · rw [if_neg (by rw [hv]; simp)] at hcm
              rw [hv] at hR
              have HR := hide hR
              clear hR hv hmk
              go_wp2_with fail
              refine (HR.out _).mono ?_
              rintro e w9 ⟨rfl, rfl⟩
              go_wp2
              go_roundw
              case rel => exact ⟨k + 1, by omega, by go_num, trivial⟩
              case measure => simp [intOf]; omega
          · go_wp2_with fail
            refine (sPutAll_ok b _ m _ (HSE.out.below (hbR'.mono (Nat.le_refl _))) hsR (by omega)).mono ?_
            rintro e w9 ⟨hh, hb9⟩
            rcases hh with ⟨_, v9, rfl, _⟩ | ⟨j, hj, hjv, _⟩
            · go_wp2
              go_ret
              exact ⟨rfl, hbR'.trans (hb9.mono hzR)⟩
            · have := HMV.out m[j] (List.getElem_mem _)
              rw [this] at hjv
              cases hjv
      · have := HALL.out l[j] (List.getElem_mem _)
        rw [this] at hjv
        cases hjv
    · have HPRE := hide hpre
      have HKV := hide hkv
      have HE2 := hide he2
      obtain ⟨te, ve, rfl⟩ := he2.form
      clear hpre hkv he2
      go_wp2_with fail
      refine (rPut_ok _ _ _ l _ hp2 (by omega)).mono ?_
      rintro e w3 ⟨v3, a3, rfl, hs3, hb3⟩
      have hb3' := hb2'.trans (hb3.mono hz2)
      have hz3 := hb3'.size
      have he3 := HE2.out.below hb3
      rcases hs3 with ⟨rfl, hall, _⟩ | ⟨j, hj, rfl, hjv, hjp, rfl⟩
      · have := hall l[k] (List.getElem_mem _)
        rw [HKV.out] at this
        cases this
      · obtain rfl : j = k := by
          rcases Nat.lt_trichotomy j k with h | h | h
          · have := HPRE.out l[j] (List.mem_take_iff_getElem.2 ⟨j, by omega, rfl⟩)
            rw [hjv] at this; cases this
          · exact h
          · have := hjp l[k] (List.mem_take_iff_getElem.2 ⟨k, by omega, rfl⟩)
            rw [HKV.out] at this; cases this
        have hj0 : (0 : Int) ≤ j := by omega
        have hj1 : ¬ (j : Int) < 0 := by omega
        have hj2 : ((j : Int) != j) = false := by simp
        clear hjv hjp
        go_wp2_with fail
        refine (rBytes_ok (fun _ => False) (fun _ => False) (fun _ => False) (fun _ => False) _ _ [] [] _ Slc.nil_ Slc.nil_).mono ?_
        rintro e w4 ⟨rfl, rfl⟩
        rw [decide_eq_true rfl]
        go_wp2_with fail
        refine (Code_ok b _ 0 _ _ (HSE.out.below (hb3'.mono (Nat.le_refl _))) he3 (by decide)).mono ?_
        rintro e w5 ⟨rfl, rfl⟩
        go_wp2_with fail
        refine (At_ok b _ 0 _ _ (HTV.out.below (hb3'.mono (Nat.le_refl _))) he3).mono ?_
        rintro e w6 ⟨rfl, hb6⟩
        have hbE := hb3'.trans (hb6.mono hz3)
        have hzE := hbE.size
        have hx5 := (hp.mono (Keep.below (S := fun b => b < w.heap.size) hbE) (Keep.below (S := fun b => b < w.heap.size) hbE))
        go_wp2_with fail
        refine (Replace_ok _ _ _ l _ hx5 (by omega)).mono ?_
        rintro e wR ⟨vR, rfl, hvR, hbR⟩
        have hbR' := hbE.trans (hbR.mono hzE)
        have hzR := hbR'.size
        have hml : (l.map replF).length = l.length := by simp
        have hma : ∀ k (h : k < l.length) (h' : k < (l.map replF).length), (l.map replF)[k] = if validB l[k] = true then l[k] else 65533 := fun k h h' => by simp [replF]
        have hmv : ∀ r ∈ l.map replF, validB r = true := by
          intro r hr
          obtain ⟨a, _, rfl⟩ := List.mem_map.1 hr
          exact replF_valid a
        generalize l.map replF = m at *
        have HMA := hide hma
        have HMV := hide hmv
        have hsR := hvR.slc.mono (So' := fun b => b < wR.heap.size) (Si' := fun b => b < wR.heap.size) (Keep.weaken fun b h => h.1) (Keep.lt _ _)
        obtain ⟨AR, cR, hRe, _, _, hBR⟩ := hsR.open_
        rw [hml] at hRe
        subst hRe
        clear hma hmv
        go_wp2
        go_loopw [8, 9] (fun i wt wr => ∃ k : Nat, k ≤ l.length ∧ i = .int .i64 k ∧ wR = wr) (fun i _ _ => l.length - (intOf i).toNat)
        case atStart => exact ⟨0, Nat.zero_le _, rfl, rfl⟩
        case round =>
          obtain ⟨k, hk, rfl, rfl⟩ := hrel
          by_cases hlt : k < l.length
          · have hBk := hB.ints_keep (Keep.below (S := fun b => b < w.heap.size) hbR')
            obtain ⟨ab, off, rfl, _, hck, hwk⟩ := ints_at hBk hlt
            obtain ⟨hw0, hw1⟩ := i32_wf hwk
            obtain ⟨mb, mo, rfl, _, hcm, hwm⟩ := ints_at hBR (j := k) (by omega)
            have hmk := HMA.out k hlt (by omega)
            rw [hmk] at hcm
            have hkm : k < m.length := by omega
            have hR := fun w => rValid_ok l[k] hw0 hw1 w
            rcases Bool.eq_false_or_eq_true (validB l[k]) with hv | hv
            · rw [if_pos hv] at hcm
              rw [hv] at hR
              have HR := hide hR
              clear hR hv hmk
              go_wp2_with fail
              refine (HR.out _).mono ?_
              rintro e w9 ⟨rfl, rfl⟩
              go_wp2
              go_roundw
              case rel => exact ⟨k + 1, by omega, by go_num, trivial⟩
              case measure => simp [intOf]; omega
            · rw [if_neg (by rw [hv]; simp)] at hcm
              rw [hv] at hR
              have HR := hide hR
              clear hR hv hmk
              go_wp2_with fail
              refine (HR.out _).mono ?_
              rintro e w9 ⟨rfl, rfl⟩
              go_wp2
              go_roundw
              case rel => exact ⟨k + 1, by omega, by go_num, trivial⟩
              case measure => simp [intOf]; omega
          · go_wp2_with fail
            refine (sPutAll_ok b _ m _ (HSE.out.below (hbR'.mono (Nat.le_refl _))) hsR (by omega)).mono ?_
            rintro e w9 ⟨hh, hb9⟩
            rcases hh with ⟨_, v9, rfl, _⟩ | ⟨j, hj, hjv, _⟩
            · go_wp2
              go_ret
              exact ⟨rfl, hbR'.trans (hb9.mono hzR)⟩
            · have := HMV.out m[j] (List.getElem_mem _)
              rw [this] at hjv
              cases hjv
  · have hl2 : decide ((5000 : Int) < (l.length : Int)) = true := by simp; omega
    go_enter Tryd.func3, Tryd.ntmps3
    go_wp2_with fail
    refine (works01_ok _).mono ?_
    rintro e w1 ⟨rfl, hb1⟩
    go_wp2_with fail
    refine (works01_ok _).mono ?_
    rintro e w2 ⟨rfl, hb2⟩
    go_wp2
    go_ret
    exact ⟨rfl, hb1.trans (hb2.mono hb1.size)⟩
end Go.Proofs.YtejhaepgbfngcaaDoor
