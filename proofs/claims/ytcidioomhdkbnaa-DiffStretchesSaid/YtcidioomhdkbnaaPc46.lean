/-
  The law on changes: the condition on one change, a region of the law's function, as a declaration of its own.
-/
import Derived.Test.YtcidioomhdkbnaaDif4
namespace Go.Proofs.Ytcidioomhdkbnaa
open Go.RowKit
set_option linter.unusedVariables false
set_option linter.unusedSimpArgs false

/-- A region of a function's code, by its number. -/
def findReg (n : Nat) : Code → Option Code
  | .region i ops d => if i = n then some (.region i ops d) else none
  | .seq a b => match findReg n a with
    | some c => some c
    | none => findReg n b
  | .cond _ a b => match findReg n a with
    | some c => some c
    | none => findReg n b
  | .block _ c => findReg n c
  | .loop c => findReg n c
  | .scope c => findReg n c
  | _ => none
noncomputable def reg10 : Code := ((Try.f3.body.bind (findReg 10)).getD .skip)
/-- The change ahead, if there is one, stands ahead. -/
def Ahead (w : World) (g3 off : Nat) (k i f : Nat) : Prop := k = 0 ∨ ∃ (m : Nat) (prow pcol : Int), k = m + 1 ∧ w.cell? ⟨g3, off + m * 3, none⟩ = some (.int .i64 prow) ∧ w.cell? ⟨g3, off + m * 3 + 1, none⟩ = some (.int .i64 pcol) ∧ (prow < i ∨ prow = i ∧ pcol < f)

set_option maxRecDepth 100000 in
set_option maxHeartbeats 8000000 in
theorem piece10 {x0 x1 x3 x4 x6 x9 x10 x11 x12 x13 x14 x15 x16 x17 x18 x19 x20 x21 x22 x23 x24 x25 x26 x27 x28 x29 x30 x31 x32 x33 x34 x35 x36 x37 x38 x39 x40 x41 x42 x43 x44 x45 x46 x47 x48 x49 x50 x51 x52 x53 x54 x55 x56 x57 x58 x59 x60 x61 x62 x63 x64 x65 x66 x67 x68 x69 x70 x71 x72 x73 x74 x75 x76 x77 x78 x79 x80 x81 x82 x83 x84 x85 x86 x87 x88 x89 x90 x91 x92 x93 x94 x95 x96 x97 x98 x99 x100 x101 x102 x103 x104 x105 x106 x107 x108 x109 x110 x111 x112 x113 x114 x115 x116 x117 x118 x119 x120 x121 x122 x123 x124 x125 x126 x127 x128 x129 x130 x131 x132 x133 x134 x135 x136 x137 x138 x139 x140 x141 x142 x143 x144 x145 x146 x147 x148 x149 x150 x151 x152 x153 x154 x155 x156 x157 x158 x159 x160 x161 x162 x163 x164 x165 x166 x167 x168 x169 x170 x171 x172 x173 x174 x175 x176 x177 x178 x179 x180 x181 x182 x183 x184 x185 x186 x187 : Value} {gv gp gc g3 off k i f nos n c3 c7 : Nat} {A7 : Option Addr} {wd hi : Int} {w : World} {J : Exit → Act → World → Prop}
    (k0 : w.cell? ⟨gc, 0, none⟩ = some (.int .i64 i)) (k1 : w.cell? ⟨gc, 1, none⟩ = some (.int .i64 f)) (k2 : w.cell? ⟨gc, 2, none⟩ = some (.slice A7 n c7)) (a0 : w.cell? ⟨gv, 0, none⟩ = some (.int .i64 wd)) (a1 : w.cell? ⟨gv, 1, none⟩ = some (.int .i64 hi)) (u0 : w.cell? ⟨gp, 0, none⟩ = some (.slice (some ⟨g3, off, none⟩) nos c3))
    (hk : k < nos) (hih : (i : Int) < hi) (hn : 0 < n) (hfn : (f : Int) + n ≤ wd) (hw : wd ≤ 1024) (hkb : nos ≤ 10000000) (hA : Ahead w g3 off k i f)
    (hJ : ∀ (v50 v51 v52 v53 v54 v55 v56 v57 v58 v59 v60 v61 v62 v63 v64 v65 v66 v67 v68 v69 v70 v71 v72 v73 v74 v75 v76 v77 v78 v79 v80 v81 v82 v83 v84 v85 v86 v87 v88 v89 v90 v91 v92 v93 v94 v95 v96 v97 v98 v99 v100 v101 v102 v103 v104 v105 v106 v107 v108 v109 v110 v111 v112 v113 v114 v115 v116 v117 v118 v119 v120 : Value) (q : Nat), J .normal ⟨#[x0, x1, .pointer (some ⟨gv, 0, none⟩), x3, x4, .pointer (some ⟨gp, 0, none⟩), x6, .int .i64 k, .pointer (some ⟨gc, 0, none⟩), x9, x10, x11, x12, x13, x14, x15, x16, x17, x18, x19, x20, x21, x22, x23, x24, x25, x26, x27, x28, x29, x30, x31, x32, x33, x34, x35, x36, x37, x38, x39, x40, x41, x42, x43, x44, x45, x46, x47, x48, x49, v50, v51, v52, v53, v54, v55, v56, v57, v58, v59, v60, v61, v62, v63, v64, v65, v66, v67, v68, v69, v70, v71, v72, v73, v74, v75, v76, v77, v78, v79, v80, v81, v82, v83, v84, v85, v86, v87, v88, v89, v90, v91, v92, v93, v94, v95, v96, v97, v98, v99, v100, v101, v102, v103, v104, v105, v106, v107, v108, v109, v110, v111, v112, v113, v114, v115, v116, v117, v118, v119, v120, .bool false, x122, x123, x124, x125, x126, x127, x128, x129, x130, x131, x132, x133, x134, x135, x136, x137, x138, x139, x140, x141, x142, x143, x144, x145, x146, x147, x148, x149, x150, x151, x152, x153, x154, x155, x156, x157, x158, x159, x160, x161, x162, x163, x164, x165, x166, x167, x168, x169, x170, x171, x172, x173, x174, x175, x176, x177, x178, x179, x180, x181, x182, x183, x184, x185, x186, x187], []⟩ (w.drewN q)) : Code.wp Try.prog reg10 J ⟨#[x0, x1, .pointer (some ⟨gv, 0, none⟩), x3, x4, .pointer (some ⟨gp, 0, none⟩), x6, .int .i64 k, .pointer (some ⟨gc, 0, none⟩), x9, x10, x11, x12, x13, x14, x15, x16, x17, x18, x19, x20, x21, x22, x23, x24, x25, x26, x27, x28, x29, x30, x31, x32, x33, x34, x35, x36, x37, x38, x39, x40, x41, x42, x43, x44, x45, x46, x47, x48, x49, x50, x51, x52, x53, x54, x55, x56, x57, x58, x59, x60, x61, x62, x63, x64, x65, x66, x67, x68, x69, x70, x71, x72, x73, x74, x75, x76, x77, x78, x79, x80, x81, x82, x83, x84, x85, x86, x87, x88, x89, x90, x91, x92, x93, x94, x95, x96, x97, x98, x99, x100, x101, x102, x103, x104, x105, x106, x107, x108, x109, x110, x111, x112, x113, x114, x115, x116, x117, x118, x119, x120, x121, x122, x123, x124, x125, x126, x127, x128, x129, x130, x131, x132, x133, x134, x135, x136, x137, x138, x139, x140, x141, x142, x143, x144, x145, x146, x147, x148, x149, x150, x151, x152, x153, x154, x155, x156, x157, x158, x159, x160, x161, x162, x163, x164, x165, x166, x167, x168, x169, x170, x171, x172, x173, x174, x175, x176, x177, x178, x179, x180, x181, x182, x183, x184, x185, x186, x187], []⟩ w := by
  have t1 : ¬ (i : Int) < 0 := by omega
  have t2 : ¬ hi ≤ (i : Int) := by omega
  have t3 : ¬ (f : Int) < 0 := by omega
  have t4 : ((n : Int) == 0) = false := by rw [beq_eq_false_iff_ne]; omega
  have t5 : ¬ wd - (f : Int) < n := by omega
  have t9 : IntKind.i64.wrap (wd - (f : Int)) = wd - f := IntWalk.i64_in _ (by omega)
  have HA := hide hA
  clear hA
  conv => arg 2; whnf
  dsimp only [List.append]
  refine wp_region_quiet_lit (by kernel_rfl) (by kernel_rfl) ?_
  rcases HA.out with hk0 | ⟨m, prow, pcol, rfl, s0, s1, hear⟩
  · have t6 : ¬ (0 : Int) < k := by omega
    have t7 : decide (0 < k) = false := decide_eq_false (by omega)
    clear hk0
    repeat (go_big_quiet_step (fail))
    refine wpQuiet_nil ?_
    intro _ hw'
    obtain ⟨nq, hw''⟩ := hw'
    subst hw''
    exact hJ _ _ _ _ _ _ _ _ _ _ _ _ _ _ _ _ _ _ _ _ _ _ _ _ _ _ _ _ _ _ _ _ _ _ _ _ _ _ _ _ _ _ _ _ _ _ _ _ _ _ _ _ _ _ _ _ _ _ _ _ _ _ _ _ _ _ _ _ _ _ _ _
  · have t6 : (0 : Int) < ((m + 1 : Nat) : Int) := by omega
    have e1 : ((m + 1 : Nat) : Int) - 1 = m := by omega
    have e2 : (m : Int) < nos := by omega
    have e3 : IntKind.i64.wrap ((m : Int) + 1 - 1) = m := IntWalk.i64_in _ (by omega) |>.trans (by omega)
    have e4 : IntKind.i64.wrap (m : Int) = m := IntWalk.i64_in _ (by omega)
    have t7 : ¬ (i : Int) < prow := by omega
    by_cases hpr : prow = i
    · subst hpr
      have t8 : ¬ (f : Int) ≤ pcol := by omega
      clear hear t7
      repeat (go_big_quiet_step (fail))
      refine wpQuiet_nil ?_
      intro _ hw'
      obtain ⟨nq, hw''⟩ := hw'
      subst hw''
      exact hJ _ _ _ _ _ _ _ _ _ _ _ _ _ _ _ _ _ _ _ _ _ _ _ _ _ _ _ _ _ _ _ _ _ _ _ _ _ _ _ _ _ _ _ _ _ _ _ _ _ _ _ _ _ _ _ _ _ _ _ _ _ _ _ _ _ _ _ _ _ _ _ _
    · have t8 : ((i : Int) == prow) = false := by rw [beq_eq_false_iff_ne]; exact fun h => hpr h.symm
      clear hear hpr
      repeat (go_big_quiet_step (fail))
      refine wpQuiet_nil ?_
      intro _ hw'
      obtain ⟨nq, hw''⟩ := hw'
      subst hw''
      exact hJ _ _ _ _ _ _ _ _ _ _ _ _ _ _ _ _ _ _ _ _ _ _ _ _ _ _ _ _ _ _ _ _ _ _ _ _ _ _ _ _ _ _ _ _ _ _ _ _ _ _ _ _ _ _ _ _ _ _ _ _ _ _ _ _ _ _ _ _ _ _ _ _
end Go.Proofs.Ytcidioomhdkbnaa
