import Derived.Test.YtdjpdllehhecpaaGreatDoorQ27
import Derived.Test.YtdjpdllehhecpaaGreatDoorQ07
import Derived.Test.YtdjpdllehhecpaaGreatDoorQ05
import Derived.Test.YtdjpdllehhecpaaGreatDoorQ03
import Derived.RegionTactic
import Derived.BigQuiet
import Derived.Deep.RegionHeld3
import Derived.Deep.CutRange
import Derived.Deep.Cut
open List renaming getElem?_toArray → zA, getElem?_cons_succ → zB, getElem?_cons_zero → zC, setIfInBounds_toArray → zD, set_cons_zero → zE, set_cons_succ → zF
namespace Go.Proofs.YtdjpdllehhecpaaGreatDoor
open Go.RowKit
set_option linter.unusedVariables false
set_option linter.unusedSimpArgs false
def RProp : Rep PropV := Rep.flat 4 propL (fun _ => rfl) (fun _ => by simp [propL, Value.oneCell'])
theorem RProp.flat : Flat RProp := Flat.flat _ _ _ _
theorem prop_info : (Tryz.prog.info? 108).map (fun i => (i.zero, i.size, i.bytes)) = some (some (.agg #[.int .i64 0, .bool false, .int .i64 0, .int .i64 0]), RProp.sz, 32) := by kernel_rfl
theorem prop_at {So Si : Nat → Prop} {w : World} {A : Option Addr} {l : List PropV} (h : SlB RProp So Si w A l) {k : Nat} (hk : k < l.length) :
    ∃ b off, A = some ⟨b, off, none⟩ ∧ w.cell? ⟨b, off + k * 4, none⟩ = some (.int .i64 l[k].brk) ∧ w.cell? ⟨b, off + k * 4 + 1, none⟩ = some (.bool l[k].pict) ∧ w.cell? ⟨b, off + k * 4 + 2, none⟩ = some (.int .i64 l[k].conj) := by
  obtain ⟨b, off, u, rfl, hs, hu, hc⟩ := h.at_ (k := k) (x := l[k]) (List.getElem?_eq_getElem hk) (by decide)
  have hu' : u = propL l[k] := hu
  subst hu'
  have h0 := hc 0 (by decide)
  have h1 := hc 1 (by decide)
  have h2 := hc 2 (by decide)
  have e : RProp.sz = 4 := rfl
  rw [e] at h0 h1 h2
  simp only [← Nat.add_assoc, Nat.add_zero] at h0 h1 h2
  exact ⟨b, off, rfl, h0, h1, h2⟩
theorem below_drw1 {B : Nat} {w w' : World} (h : Below B w.drew w') : Below B w w' := ⟨h.os, h.tape, h.output, h.size, h.block⟩
def ahead (l : List PropV) (j : Nat) : List PropV := (l.take j).reverse
theorem ahead_succ {l : List PropV} {j : Nat} (h : j < l.length) : ahead l (j + 1) = l[j] :: ahead l j := by
  unfold ahead
  rw [List.take_succ_eq_append_getElem h, List.reverse_append]; rfl
set_option maxHeartbeats 2000000 in
theorem rconj_ok (So Si : Nat → Prop) (x : Value) (l : List PropV) (i : Nat) (w : World) (hx : Slc RProp So Si w x l) (hi : i < l.length) (hlen : l.length ≤ 100000) :
    Calls Tryz.prog 111 #[x, .int .i64 i] w fun e w' => e = .returned (.bool (decide (l[i].conj = 1) && linkS false (ahead l i))) ∧ w = w' := by
  obtain ⟨A, c, rfl, hc1, hc2, hB⟩ := hx.open_
  have HAT := hide (fun k (hk : k < l.length) => prop_at hB hk)
  have HSU := hide (fun j (h : j < l.length) => ahead_succ h)
  obtain ⟨b0, off0, rfl, _, _, y2⟩ := prop_at hB hi
  obtain ⟨ci, hci⟩ : ∃ ci, l[i].conj = ci := ⟨_, rfl⟩
  rw [hci] at y2 ⊢
  obtain ⟨n, hn⟩ : ∃ n, l.length = n := ⟨_, rfl⟩
  have HN := hide hn
  rw [hn] at hi hlen hc1
  clear hci hB hx hn
  have hin : (i : Int) < n := by omega
  by_cases h1 : ci = 1
  · subst h1
    obtain ⟨ans, hans⟩ : ∃ ans, linkS false (ahead l i) = ans := ⟨_, rfl⟩
    rw [hans]
    have HANS := hide hans
    clear hans
    go_enter Tryz.func111, Tryz.ntmps111
    go_wp2
    go_loopw [5, 6] (fun s k wr => ∃ (m j : Nat), m + j ≤ i ∧ s = .int .i64 m ∧ k = .int .i64 ((j : Int) - 1) ∧ linkS (decide (0 < m)) (ahead l j) = ans ∧ w = wr) (fun _ k _ => (intOf k + 1).toNat)
    case atStart => exact ⟨0, i, by omega, rfl, rfl, HANS.out, rfl⟩
    case round =>
      obtain ⟨m, j, hm, rfl, rfl, hto, rfl⟩ := hrel
      have HTO := hide hto
      clear hto
      cases j with
      | zero =>
        go_wp2
        go_ret
        exact ⟨by rw [← HTO.out]; rfl, rfl⟩
      | succ j =>
        have hjl : j < l.length := by rw [HN.out]; omega
        obtain ⟨b, off, hA, z0, z1, z2⟩ := HAT.out j hjl
        injection hA with hA
        injection hA with e1 e2 e3
        subst e1; subst e2
        have hsu := HSU.out j hjl
        obtain ⟨q, hq⟩ : ∃ q, l[j] = q := ⟨_, rfl⟩
        rw [hq] at z0 z1 z2 hsu
        have HS := hide hsu
        have hjn : (j : Int) < n := by omega
        have e4 : ((j + 1 : Nat) : Int) - 1 = j := by omega
        rw [e4]
        clear hsu hq z0 z1
        obtain ⟨qc, hqc⟩ : ∃ qc, q.conj = qc := ⟨_, rfl⟩
        rw [hqc] at z2
        have HQ := hide hqc
        clear hqc
        rcases (by omega : qc = 1 ∨ qc = 2 ∨ qc = 3 ∨ (¬ qc = 1 ∧ ¬ qc = 2 ∧ ¬ qc = 3)) with rfl | rfl | rfl | ⟨n1, n2, n3⟩
        · have HA2 : Hid (decide (0 < m) = ans) := hide (by rw [← HTO.out, HS.out]; simp [linkS, HQ.out])
          go_wp2
          go_ret
          exact ⟨by rw [← HA2.out]; first | rfl | simp, rfl⟩
        · have HA2 : Hid (linkS (decide (0 < m + 1)) (ahead l j) = ans) := hide (by rw [← HTO.out, HS.out]; simp [linkS, HQ.out])
          go_wp2
          go_roundw
          case rel => exact ⟨m + 1, j, by omega, by go_num, by go_num, HA2.out, trivial⟩
          case measure => simp [intOf]
        · have HA2 : Hid (linkS (decide (0 < m)) (ahead l j) = ans) := hide (by rw [← HTO.out, HS.out]; simp [linkS, HQ.out])
          go_wp2
          go_roundw
          case rel => exact ⟨m, j, by omega, rfl, by go_num, HA2.out, trivial⟩
          case measure => simp [intOf]
        · have HA2 : Hid (false = ans) := hide (by rw [← HTO.out, HS.out]; simp [linkS, HQ.out, n1, n2, n3])
          have m1 : (qc == 1) = false := by simpa using n1
          have m2 : (qc == 2) = false := by simpa using n2
          have m3 : (qc == 3) = false := by simpa using n3
          have p2 : (qc != 2) = true := by simpa using n2
          have p3 : (qc != 3) = true := by simpa using n3
          clear n1 n2 n3
          go_wp2
          go_ret
          exact ⟨by rw [← HA2.out]; rfl, rfl⟩
  · go_enter Tryz.func111, Tryz.ntmps111
    go_wp2
    go_ret
    exact ⟨by first | rfl | simp [h1], rfl⟩
set_option maxHeartbeats 2000000 in
theorem rpict_ok (So Si : Nat → Prop) (x : Value) (l : List PropV) (i : Nat) (w : World) (hx : Slc RProp So Si w x l) (hi : i < l.length) (hlen : l.length ≤ 100000) :
    Calls Tryz.prog 112 #[x, .int .i64 i] w fun e w' => e = .returned (.bool (l[i].pict && pictZ (ahead l i))) ∧ w = w' := by
  obtain ⟨A, c, rfl, hc1, hc2, hB⟩ := hx.open_
  have HAT := hide (fun k (hk : k < l.length) => prop_at hB hk)
  have HSU := hide (fun j (h : j < l.length) => ahead_succ h)
  obtain ⟨b0, off0, rfl, _, y1, _⟩ := prop_at hB hi
  obtain ⟨ci, hci⟩ : ∃ ci, l[i].pict = ci := ⟨_, rfl⟩
  rw [hci] at y1 ⊢
  obtain ⟨n, hn⟩ : ∃ n, l.length = n := ⟨_, rfl⟩
  have HN := hide hn
  rw [hn] at hi hlen hc1
  clear hci hB hx hn
  have hin : (i : Int) < n := by omega
  cases ci with
  | false =>
    go_enter Tryz.func112, Tryz.ntmps112
    go_wp2
    go_ret
    exact ⟨rfl, rfl⟩
  | true =>
    rcases (by omega : i = 0 ∨ i = 1 ∨ 2 ≤ i) with rfl | rfl | h2
    · go_enter Tryz.func112, Tryz.ntmps112
      go_wp2
      go_ret
      exact ⟨rfl, rfl⟩
    · have hz : Hid (pictZ (ahead l 1) = false) := hide (by rw [HSU.out 0 (by rw [HN.out]; omega)]; simp [pictZ, ahead, pictS])
      go_enter Tryz.func112, Tryz.ntmps112
      go_wp2
      go_ret
      exact ⟨by rw [hz.out]; rfl, rfl⟩
    · obtain ⟨j, rfl⟩ : ∃ j, i = j + 1 := ⟨i - 1, by omega⟩
      have hjl : j < l.length := by rw [HN.out]; omega
      obtain ⟨b, off, hA, z0, z1, z2⟩ := HAT.out j hjl
      injection hA with hA
      injection hA with e1 e2 e3
      subst e1; subst e2
      have hsu := HSU.out j hjl
      obtain ⟨q, hq⟩ : ∃ q, l[j] = q := ⟨_, rfl⟩
      rw [hq] at z0 z1 hsu
      obtain ⟨ans, hans⟩ : ∃ ans, pictZ (ahead l (j + 1)) = ans := ⟨_, rfl⟩
      rw [hans]
      rw [hsu] at hans
      have HANS := hide hans
      have hjn : (j : Int) < n := by omega
      have e4 : ((j + 1 : Nat) : Int) - 1 = j := by omega
      have d2 : decide (((j + 1 : Nat) : Int) < 2) = false := decide_eq_false (by omega)
      have d3 : decide ((j : Int) + 1 < 2) = false := decide_eq_false (by omega)
      have e5 : (j : Int) + 1 - 1 = j := by omega
      clear hsu hq z2 hans
      obtain ⟨qb, hqb⟩ : ∃ qb, q.brk = qb := ⟨_, rfl⟩
      obtain ⟨qp, hqp⟩ : ∃ qp, q.pict = qp := ⟨_, rfl⟩
      rw [hqb] at z0
      rw [hqp] at z1
      have HQ := hide hqb
      have HP := hide hqp
      clear hqb hqp
      by_cases h5 : qb = 5
      · subst h5
        cases qp with
        | true =>
          have HA2 : Hid (false = ans) := hide (by rw [← HANS.out]; simp [pictZ, HP.out])
          go_enter Tryz.func112, Tryz.ntmps112
          go_wp2
          go_ret
          exact ⟨by rw [← HA2.out]; rfl, rfl⟩
        | false =>
          have HA2 : Hid (pictS (ahead l j) = ans) := hide (by rw [← HANS.out]; simp [pictZ, HP.out, HQ.out])
          go_enter Tryz.func112, Tryz.ntmps112
          go_wp2
          go_loopw [5] (fun k wr => ∃ m : Nat, m ≤ j ∧ k = .int .i64 ((m : Int) - 1) ∧ pictS (ahead l m) = ans ∧ w = wr) (fun k _ => (intOf k + 1).toNat)
          case atStart => exact ⟨j, Nat.le_refl _, int_eq (by omega), HA2.out, rfl⟩
          case round =>
            obtain ⟨m, hm, rfl, hto, rfl⟩ := hrel
            have HTO := hide hto
            clear hto
            cases m with
            | zero =>
              go_wp2
              go_ret
              exact ⟨by rw [← HTO.out]; rfl, rfl⟩
            | succ m =>
              have hml : m < l.length := by rw [HN.out]; omega
              obtain ⟨b, off, hA, v0, v1, v2⟩ := HAT.out m hml
              injection hA with hA
              injection hA with e1 e2 e3
              subst e1; subst e2
              have hsu := HSU.out m hml
              obtain ⟨p, hp⟩ : ∃ p, l[m] = p := ⟨_, rfl⟩
              rw [hp] at v0 v1 hsu
              have HS := hide hsu
              have hmn : (m : Int) < n := by omega
              have e4 : ((m + 1 : Nat) : Int) - 1 = m := by omega
              rw [e4]
              clear hsu hp v2 z0 z1
              obtain ⟨pb, hpb⟩ : ∃ pb, p.brk = pb := ⟨_, rfl⟩
              obtain ⟨pp, hpp⟩ : ∃ pp, p.pict = pp := ⟨_, rfl⟩
              rw [hpb] at v0
              rw [hpp] at v1
              have HPB := hide hpb
              have HPP := hide hpp
              clear hpb hpp
              cases pp with
              | true =>
                have HA3 : Hid (true = ans) := hide (by rw [← HTO.out, HS.out]; simp [pictS, HPP.out])
                go_wp2
                go_ret
                exact ⟨by rw [← HA3.out]; rfl, rfl⟩
              | false =>
                by_cases h4 : pb = 4
                · subst h4
                  have HA3 : Hid (pictS (ahead l m) = ans) := hide (by rw [← HTO.out, HS.out]; simp [pictS, HPP.out, HPB.out])
                  go_wp2
                  go_roundw
                  case rel => exact ⟨m, by omega, by go_num, HA3.out, trivial⟩
                  case measure => simp [intOf]
                · have HA3 : Hid (false = ans) := hide (by rw [← HTO.out, HS.out]; simp [pictS, HPP.out, HPB.out, h4])
                  go_wp2
                  go_ret
                  exact ⟨by rw [← HA3.out]; rfl, rfl⟩
      · have HA2 : Hid (false = ans) := hide (by rw [← HANS.out]; simp [pictZ, HQ.out, h5])
        go_enter Tryz.func112, Tryz.ntmps112
        go_wp2
        go_ret
        exact ⟨by rw [← HA2.out]; rfl, rfl⟩
set_option maxHeartbeats 4000000 in
theorem rJoins_ok (So Si : Nat → Prop) (x : Value) (l : List PropV) (i : Nat) (w : World) (hx : Slc RProp So Si w x l) (hi : i < l.length) (hlen : l.length ≤ 100000) (hwf : ∀ p ∈ l, 0 ≤ p.brk ∧ p.brk ≤ 13) :
    Calls Tryz.prog 74 #[x, .int .i64 i] w fun e w' => e = .returned (.bool (rJoins l[i] (ahead l i))) ∧ Below w.heap.size w w' := by
  obtain ⟨A, c, rfl, hc1, hc2, hB⟩ := hx.open_
  have HC := hide (fun W (hW : Below w.heap.size w W) => rconj_ok So Si _ l i W (hx.flat_keep RProp.flat (Keep.below hW)) hi hlen)
  have HP := hide (fun W (hW : Below w.heap.size w W) => rpict_ok So Si _ l i W (hx.flat_keep RProp.flat (Keep.below hW)) hi hlen)
  have HAT := hide (fun W (hW : Below w.heap.size w W) k (hk : k < l.length) => prop_at (hx.flat_keep (Si' := Si) RProp.flat (Keep.below hW)).slb hk)
  have HSU := hide (fun j (h : j < l.length) => ahead_succ h)
  cases i with
  | zero =>
    clear hB hx HAT HSU HC HP
    go_enter Tryz.func74, Tryz.ntmps74
    go_wp2
    go_ret
    exact ⟨rfl, Below.refl _ _⟩
  | succ j =>
    have hjl : j < l.length := by omega
    have HJ := hide (rjoin14_ok l[j].brk l[j + 1].brk (hwf _ (List.getElem_mem _)).1 (hwf _ (List.getElem_mem _)).2 (hwf _ (List.getElem_mem _)).1 (hwf _ (List.getElem_mem _)).2)
    obtain ⟨b0, off0, rfl, y0, _, _⟩ := prop_at hB hjl
    obtain ⟨b1, off1, hA, y1, _, _⟩ := prop_at hB hi
    injection hA with hA
    injection hA with e1 e2 e3
    subst e1; subst e2
    have hb0 : b0 < w.heap.size := World.block_lt_of_cell? w _ y0
    obtain ⟨q, hq⟩ : ∃ q, l[j] = q := ⟨_, rfl⟩
    obtain ⟨p, hp⟩ : ∃ p, l[j + 1] = p := ⟨_, rfl⟩
    have hsu := HSU.out j hjl
    rw [hq] at y0 HJ hsu
    rw [hp] at y1 HJ HC HP ⊢
    obtain ⟨ans, hans⟩ : ∃ ans, rJoins p (ahead l (j + 1)) = ans := ⟨_, rfl⟩
    rw [hans]
    have ej : rJoins p (q :: ahead l j) = if pairF q.brk p.brk = 1 ∨ (p.conj = 1 ∧ linkS false (q :: ahead l j) = true) ∨ (p.pict = true ∧ pictZ (q :: ahead l j) = true) then true
      else if pairF q.brk p.brk ≠ 2 ∨ p.brk ≠ 6 then false else decide (riN (q :: ahead l j) % 2 = 1) := rfl
    rw [hsu, ej, ← hsu] at hans
    obtain ⟨cj, hcj⟩ : ∃ cj, (decide (p.conj = 1) && linkS false (ahead l (j + 1))) = cj := ⟨_, rfl⟩
    obtain ⟨pz, hpz⟩ : ∃ pz, (p.pict && pictZ (ahead l (j + 1))) = pz := ⟨_, rfl⟩
    obtain ⟨jv, hjv⟩ : ∃ jv, pairF q.brk p.brk = jv := ⟨_, rfl⟩
    obtain ⟨pb, hpb⟩ : ∃ pb, p.brk = pb := ⟨_, rfl⟩
    obtain ⟨qb, hqb⟩ : ∃ qb, q.brk = qb := ⟨_, rfl⟩
    have hcj2 : (p.conj = 1 ∧ linkS false (ahead l (j + 1)) = true) ↔ cj = true := by rw [← hcj]; simp
    have hpz2 : (p.pict = true ∧ pictZ (ahead l (j + 1)) = true) ↔ pz = true := by rw [← hpz]; simp
    rw [hcj] at HC
    rw [hpz] at HP
    rw [hjv, hpb] at hans
    simp only [hcj2, hpz2] at hans
    rw [hjv, hqb, hpb] at HJ
    rw [hqb] at y0
    rw [hpb] at y1
    have HANS := hide hans
    have HPB : Hid (l[j + 1].brk = pb) := hide (by rw [hp, hpb])
    clear hans hcj hpz hjv hcj2 hpz2 hsu ej hq hp hx hB hwf hpb hqb
    have w1 : IntKind.i64.wrap (j : Int) = j := by rw [IntKind.wrap_i64]; omega
    have w2 : IntKind.i64.wrap ((j : Int) + 1) = (j : Int) + 1 := by rw [IntKind.wrap_i64]; omega
    have w3 : IntKind.i64.wrap (((j + 1 : Nat) : Int)) = (j : Int) + 1 := by rw [IntKind.wrap_i64]; omega
    have w4 : ((j : Int) + 1).toNat = j + 1 := by omega
    have w5 : (0 : Int) ≤ (j : Int) + 1 := by omega
    have hjn : (j : Int) < l.length := by omega
    have hjn2 : (j : Int) + 1 < l.length := by omega
    have hjn3 : ((j + 1 : Nat) : Int) < l.length := by omega
    have e4 : ((j + 1 : Nat) : Int) - 1 = j := by omega
    have e5 : (j : Int) + 1 - 1 = j := by omega
    have d1 : decide (((j + 1 : Nat) : Int) < 1) = false := decide_eq_false (by omega)
    have d2 : decide ((j : Int) + 1 < 1) = false := decide_eq_false (by omega)
    have d3 : decide ((l.length : Int) ≤ (j : Int) + 1) = false := decide_eq_false (by omega)
    go_enter Tryz.func74, Tryz.ntmps74
    go_upto_region 3 with fail
    refine wp_region_held_drew (S := fun w' => w'.cell? ⟨b0, off0 + j * 4, none⟩ = some (.int .i64 qb) ∧ w'.cell? ⟨b0, off0 + (j + 1) * 4, none⟩ = some (.int .i64 pb)) (by kernel_rfl) (by exact ⟨y0, y1⟩) (fun hHeld => ?_)
    refine wpAnyH_take (i := 0) (oi := ?_) (v := ?_) ?_ (by kernel_rfl) (by kernel_rfl) (by kernel_rfl) ?_ (Or.inl ⟨?_, ?_⟩) (by assumption) ?_
    rotate_left 2
    · (simp only [zA, zB, zC]; rfl)
    rotate_left 1
    · rfl
    · (intro w hSw; obtain ⟨q0, q1⟩ := hSw; go_simp; try with_reducible rfl)
    rotate_left 1
    · exact fun _ _ _ h => h
    try simp only [Act.put, zD, zE, zF]
    refine wpAnyH_take (i := 1) (oi := ?_) (v := ?_) ?_ (by kernel_rfl) (by kernel_rfl) (by kernel_rfl) ?_ (Or.inl ⟨?_, ?_⟩) (by assumption) ?_
    rotate_left 2
    · (simp only [zA, zB, zC]; rfl)
    rotate_left 1
    · rfl
    · (intro w hSw; obtain ⟨q0, q1⟩ := hSw; go_simp; try with_reducible rfl)
    rotate_left 1
    · exact fun _ _ _ h => h
    try simp only [Act.put, zD, zE, zF]
    refine wpAnyH_take (i := 2) (oi := ?_) (v := ?_) ?_ (by kernel_rfl) (by kernel_rfl) (by kernel_rfl) ?_ (Or.inl ⟨?_, ?_⟩) (by assumption) ?_
    rotate_left 2
    · (simp only [zA, zB, zC]; rfl)
    rotate_left 1
    · rfl
    · (intro w hSw; obtain ⟨q0, q1⟩ := hSw; go_simp; try with_reducible rfl)
    rotate_left 1
    · exact fun _ _ _ h => h
    try simp only [Act.put, zD, zE, zF]
    refine wpAnyH_take (i := 3) (oi := ?_) (v := ?_) ?_ (by kernel_rfl) (by kernel_rfl) (by kernel_rfl) ?_ (Or.inl ⟨?_, ?_⟩) (by assumption) ?_
    rotate_left 2
    · (simp only [zA, zB, zC]; rfl)
    rotate_left 1
    · rfl
    · (intro w hSw; obtain ⟨q0, q1⟩ := hSw; go_simp; try with_reducible rfl)
    rotate_left 1
    · exact fun _ _ _ h => h
    try simp only [Act.put, zD, zE, zF]
    refine wpAnyH_take (i := 4) (oi := ?_) (v := ?_) ?_ (by kernel_rfl) (by kernel_rfl) (by kernel_rfl) ?_ (Or.inl ⟨?_, ?_⟩) (by assumption) ?_
    rotate_left 2
    · (simp only [zA, zB, zC]; rfl)
    rotate_left 1
    · rfl
    · (intro w hSw; obtain ⟨q0, q1⟩ := hSw; go_simp; try with_reducible rfl)
    rotate_left 1
    · exact fun _ _ _ h => h
    try simp only [Act.put, zD, zE, zF]
    refine wpAnyH_take (i := 5) (oi := ?_) (v := ?_) ?_ (by kernel_rfl) (by kernel_rfl) (by kernel_rfl) ?_ (Or.inl ⟨?_, ?_⟩) (by assumption) ?_
    rotate_left 2
    · (simp only [zA, zB, zC]; rfl)
    rotate_left 1
    · rfl
    · (intro w hSw; obtain ⟨q0, q1⟩ := hSw; go_simp; try with_reducible rfl)
    rotate_left 1
    · exact fun _ _ _ h => h
    try simp only [Act.put, zD, zE, zF]
    refine wpAnyH_take (i := 6) (oi := ?_) (v := ?_) ?_ (by kernel_rfl) (by kernel_rfl) (by kernel_rfl) ?_ (Or.inl ⟨?_, ?_⟩) (by assumption) ?_
    rotate_left 2
    · (simp only [zA, zB, zC]; rfl)
    rotate_left 1
    · rfl
    · (intro w hSw; obtain ⟨q0, q1⟩ := hSw; go_simp; try with_reducible rfl)
    rotate_left 1
    · exact fun _ _ _ h => h
    try simp only [Act.put, zD, zE, zF]
    refine wpAnyH_take (i := 7) (oi := ?_) (v := ?_) ?_ (by kernel_rfl) (by kernel_rfl) (by kernel_rfl) ?_ (Or.inl ⟨?_, ?_⟩) (by assumption) ?_
    rotate_left 2
    · (simp only [zA, zB, zC]; rfl)
    rotate_left 1
    · rfl
    · (intro w hSw; obtain ⟨q0, q1⟩ := hSw; go_simp; try with_reducible rfl)
    rotate_left 1
    · exact fun _ _ _ h => h
    try simp only [Act.put, zD, zE, zF]
    refine wpAnyH_take (i := 8) (oi := ?_) (v := ?_) ?_ (by kernel_rfl) (by kernel_rfl) (by kernel_rfl) ?_ (Or.inl ⟨?_, ?_⟩) (by assumption) ?_
    rotate_left 2
    · (simp only [zA, zB, zC]; rfl)
    rotate_left 1
    · rfl
    · (intro w hSw; obtain ⟨q0, q1⟩ := hSw; go_simp; try with_reducible rfl)
    rotate_left 1
    · exact fun _ _ _ h => h
    try simp only [Act.put, zD, zE, zF]
    refine wpAnyH_take (i := 9) (oi := ?_) (v := ?_) ?_ (by kernel_rfl) (by kernel_rfl) (by kernel_rfl) ?_ (Or.inl ⟨?_, ?_⟩) (by assumption) ?_
    rotate_left 2
    · (simp only [zA, zB, zC]; rfl)
    rotate_left 1
    · rfl
    · (intro w hSw; obtain ⟨q0, q1⟩ := hSw; go_simp; try with_reducible rfl)
    rotate_left 1
    · exact fun _ _ _ h => h
    try simp only [Act.put, zD, zE, zF]
    refine wpAnyH_take (i := 10) (oi := ?_) (v := ?_) ?_ (by kernel_rfl) (by kernel_rfl) (by kernel_rfl) ?_ (Or.inl ⟨?_, ?_⟩) (by assumption) ?_
    rotate_left 2
    · (simp only [zA, zB, zC]; rfl)
    rotate_left 1
    · rfl
    · (intro w hSw; obtain ⟨q0, q1⟩ := hSw; go_simp; try with_reducible rfl)
    rotate_left 1
    · exact fun _ _ _ h => h
    try simp only [Act.put, zD, zE, zF]
    refine wpAnyH_ready (rs := [11]) (by kernel_rfl) (by simp) ?_
    refine AllReadyH.cons (o := ?_) ?_ (fun K hK => ?_) AllReadyH.nil
    rotate_left 1
    · (simp only [zA, zB, zC]; rfl)
    go_simp
    (go_at_call 110; refine (HJ.out _).mono ?_; rintro e w3 ⟨rfl, hb3⟩; have hb4 := below_drw1 hb3; have q0 := (hb4.cell (p := ⟨b0, off0 + j * 4, none⟩) hb0).trans (by assumption); have q1 := (hb4.cell (p := ⟨b0, off0 + (j + 1) * 4, none⟩) hb0).trans (by assumption); have BB := hide hb4; clear hb3 hb4)
    refine hK.out _ _ ?_ (fun hHeld => ?_)
    · exact ⟨q0, q1⟩
    clear hK K
    try simp only [Act.put, zD, zE, zF]
    refine wpAnyH_take (i := 12) (oi := ?_) (v := ?_) ?_ (by kernel_rfl) (by kernel_rfl) (by kernel_rfl) ?_ (Or.inl ⟨?_, ?_⟩) (by assumption) ?_
    rotate_left 2
    · (simp only [zA, zB, zC]; rfl)
    rotate_left 1
    · rfl
    · (intro w hSw; obtain ⟨q0, q1⟩ := hSw; go_simp; try with_reducible rfl)
    rotate_left 1
    · exact fun _ _ _ h => h
    try simp only [Act.put, zD, zE, zF]
    refine wpAnyH_done (by kernel_rfl) ?_ _
    clear q0 q1 y0 y1
    by_cases h1 : jv = 1
    · subst h1
      have HA : Hid (true = ans) := hide (by rw [← HANS.out]; simp)
      go_wp2
      go_ret
      exact ⟨by rw [← HA.out]; rfl, BB.out⟩
    · have n1 : (jv == 1) = false := by simpa using h1
      cases cj with
      | true =>
        have HA : Hid (true = ans) := hide (by rw [← HANS.out]; simp)
        clear h1
        go_wp2_with fail
        refine (HC.out _ BB.out).mono ?_
        rintro e w5 ⟨rfl, rfl⟩
        go_wp2
        go_ret
        exact ⟨by rw [← HA.out]; rfl, BB.out⟩
      | false =>
        cases pz with
        | true =>
          have HA : Hid (true = ans) := hide (by rw [← HANS.out]; simp)
          clear h1
          go_wp2_with fail
          refine (HC.out _ BB.out).mono ?_
          rintro e w5 ⟨rfl, rfl⟩
          go_wp2_with fail
          refine (HP.out _ BB.out).mono ?_
          rintro e w5 ⟨rfl, rfl⟩
          go_wp2
          go_ret
          exact ⟨by rw [← HA.out]; rfl, BB.out⟩
        | false =>
          have hr : (if jv ≠ 2 ∨ pb ≠ 6 then false else decide (riN (ahead l (j + 1)) % 2 = 1)) = ans := by rw [← HANS.out]; simp [h1]
          have HR := hide hr
          clear hr h1
          obtain ⟨b2, off2, hA, y1, _, _⟩ := HAT.out _ BB.out (j + 1) hi
          injection hA with hA
          injection hA with e1 e2 e3
          subst e1; subst e2
          rw [HPB.out] at y1
          by_cases h2 : jv = 2
          · subst h2
            have n2 : ((2 : Int) != 2) = false := rfl
            by_cases h6 : pb = 6
            · subst h6
              have HA : Hid (decide (riN (ahead l (j + 1)) % 2 = 1) = ans) := hide (by rw [← HR.out]; simp)
              go_wp2_with fail
              refine (HC.out _ BB.out).mono ?_
              rintro e w5 ⟨rfl, rfl⟩
              go_wp2_with fail
              refine (HP.out _ BB.out).mono ?_
              rintro e w5 ⟨rfl, rfl⟩
              go_wp2
              clear y1
              go_loopw [6, 7] (fun s k wr => ∃ (m t : Nat), m + t ≤ j + 1 ∧ s = .int .i64 t ∧ k = .int .i64 ((m : Int) - 1) ∧ riN (ahead l (j + 1)) = t + riN (ahead l m) ∧ w3 = wr) (fun _ k _ => (intOf k + 1).toNat)
              case atStart => exact ⟨j + 1, 0, by omega, rfl, int_eq (by omega), by omega, rfl⟩
              case round =>
                obtain ⟨m, t, hm, rfl, rfl, hto, rfl⟩ := hrel
                have HTO := hide hto
                clear hto
                have htm : ((t : Int)).tmod 2 = ((t % 2 : Nat) : Int) := by rw [Int.tmod_eq_emod_of_nonneg (by omega)]; omega
                have htw : IntKind.i64.wrap ((t % 2 : Nat) : Int) = ((t % 2 : Nat) : Int) := by rw [IntKind.wrap_i64]; omega
                cases m with
                | zero =>
                  have HE : Hid (decide (t % 2 = 1) = ans) := hide (by rw [← HA.out, HTO.out]; simp [ahead, riN])
                  go_wp2
                  go_ret
                  refine ⟨?_, BB.out⟩
                  rw [← HE.out]
                  show Ending.returned (Value.bool (((t : Int) % 2) == 1)) = _
                  rw [show (((t : Int) % 2) == 1) = decide (t % 2 = 1) from by rw [Bool.eq_iff_iff]; simp; omega]
                | succ m =>
                  have hml : m < l.length := by omega
                  obtain ⟨b, off, hA, v0, _, _⟩ := HAT.out _ BB.out m hml
                  injection hA with hA
                  injection hA with e1 e2 e3
                  subst e1; subst e2
                  have hsm := HSU.out m hml
                  obtain ⟨rb, hrb⟩ : ∃ rb, l[m].brk = rb := ⟨_, rfl⟩
                  rw [hrb] at v0
                  have HS := hide hsm
                  have HB := hide hrb
                  have hmn : (m : Int) < l.length := by omega
                  have e8 : ((m + 1 : Nat) : Int) - 1 = m := by omega
                  rw [e8]
                  clear hsm hrb
                  by_cases hr6 : rb = 6
                  · subst hr6
                    have HE : Hid (riN (ahead l (j + 1)) = (t + 1) + riN (ahead l m)) := hide (by rw [HTO.out, HS.out]; simp [riN, HB.out]; omega)
                    go_wp2
                    go_roundw
                    case rel => exact ⟨m, t + 1, by omega, by go_num, by go_num, HE.out, trivial⟩
                    case measure => simp [intOf]
                  · have HE : Hid (decide (t % 2 = 1) = ans) := hide (by rw [← HA.out, HTO.out, HS.out]; simp [riN, HB.out, hr6])
                    have nr : (rb == 6) = false := by simpa using hr6
                    clear hr6
                    go_wp2
                    go_ret
                    refine ⟨?_, BB.out⟩
                    rw [← HE.out]
                    show Ending.returned (Value.bool (((t : Int) % 2) == 1)) = _
                    rw [show (((t : Int) % 2) == 1) = decide (t % 2 = 1) from by rw [Bool.eq_iff_iff]; simp; omega]
            · have HA : Hid (false = ans) := hide (by rw [← HR.out]; simp [h6])
              have n6 : (pb != 6) = true := by simpa using h6
              have m6 : (pb == 6) = false := by simpa using h6
              clear h6
              go_wp2_with fail
              refine (HC.out _ BB.out).mono ?_
              rintro e w5 ⟨rfl, rfl⟩
              go_wp2_with fail
              refine (HP.out _ BB.out).mono ?_
              rintro e w5 ⟨rfl, rfl⟩
              go_wp2
              go_ret
              exact ⟨by rw [← HA.out]; rfl, BB.out⟩
          · have HA : Hid (false = ans) := hide (by rw [← HR.out]; simp [h2])
            have n2 : (jv != 2) = true := by simpa using h2
            have m2 : (jv == 2) = false := by simpa using h2
            clear h2
            go_wp2_with fail
            refine (HC.out _ BB.out).mono ?_
            rintro e w5 ⟨rfl, rfl⟩
            go_wp2_with fail
            refine (HP.out _ BB.out).mono ?_
            rintro e w5 ⟨rfl, rfl⟩
            go_wp2
            go_ret
            exact ⟨by rw [← HA.out]; rfl, BB.out⟩
end Go.Proofs.YtdjpdllehhecpaaGreatDoor
