/-
  For all changes and all others the law DiffJoins answers true, and changes nothing: changes behind others.
  Conditions: none.
-/
import Derived.Test.YtjpeimmjggkkjaaAxR
import Derived.Test.YtjpeimmjggkkjaaAxB2
import Derived.Test.YtjpeimmjggkkjaaAxO12
import Derived.Test.YtjpeimmjggkkjaaRows
import Derived.Test.YtjpeimmjggkkjaaProg
import Derived.Shelf.SlGeneric
import Derived.Shelf.SlSortCmp.NoneTotal
import Derived.WalkKit
import Derived.ProofKit
import Derived.OpenShut
set_option linter.all false
namespace Go.Proofs
open Go.Shelf
def Try.laysSortF_ren : Go.Shelf.Ren := ⟨fun | 6 => 19 | 15 => 34 | 14 => 33 | 28 => 46 | 29 => 47 | 20 => 38 | 21 => 39 | 22 => 40 | 23 => 41 | 24 => 42 | 25 => 43 | 26 => 44 | 27 => 45 | 46 => 50 | 47 => 51 | 48 => 52 | 49 => 53 | 50 => 54 | 57 => 65 | n => n, fun | 22 => 26 | 24 => 30 | 25 => 48 | 3 => 3 | 39 => 59 | 0 => 0 | 53 => 72 | 55 => 33 | 4 => 4 | 46 => 65 | 45 => 64 | 50 => 69 | 5 => 5 | 9 => 9 | 66 => 75 | 70 => 79 | 76 => 86 | 77 => 87 | n => n, fun | n => n⟩
theorem Try.laysSortF : Go.Proofs.SlLaysF0.n6 Try.prog Try.laysSortF_ren := {
  mixed := by kernel_rfl
  f6 := ⟨Try.f19.name, by decide, Try.func19.trans (congrArg some (by kernel_rfl))⟩
  f14 := ⟨Try.f33.name, by decide, Try.func33.trans (congrArg some (by kernel_rfl))⟩
  f15 := Try.func34.trans (congrArg some (by kernel_rfl))
  f20 := ⟨Try.f38.name, by decide, Try.func38.trans (congrArg some (by kernel_rfl))⟩
  f21 := ⟨Try.f39.name, by decide, Try.func39.trans (congrArg some (by kernel_rfl))⟩
  f22 := ⟨Try.f40.name, by decide, Try.func40.trans (congrArg some (by kernel_rfl))⟩
  f23 := ⟨Try.f41.name, by decide, Try.func41.trans (congrArg some (by kernel_rfl))⟩
  f24 := ⟨Try.f42.name, by decide, Try.func42.trans (congrArg some (by kernel_rfl))⟩
  f25 := ⟨Try.f43.name, by decide, Try.func43.trans (congrArg some (by kernel_rfl))⟩
  f26 := ⟨Try.f44.name, by decide, Try.func44.trans (congrArg some (by kernel_rfl))⟩
  f27 := ⟨Try.f45.name, by decide, Try.func45.trans (congrArg some (by kernel_rfl))⟩
  f28 := Try.func46.trans (congrArg some (by kernel_rfl))
  f29 := Try.func47.trans (congrArg some (by kernel_rfl))
  f46 := ⟨Try.f50.name, by decide, Try.func50.trans (congrArg some (by kernel_rfl))⟩
  f47 := Try.func51.trans (congrArg some (by kernel_rfl))
  f48 := Try.func52.trans (congrArg some (by kernel_rfl))
  f49 := ⟨Try.f53.name, by decide, Try.func53.trans (congrArg some (by kernel_rfl))⟩
  f50 := ⟨Try.f54.name, by decide, Try.func54.trans (congrArg some (by kernel_rfl))⟩
  f57 := ⟨Try.f65.name, by decide, Try.func65.trans (congrArg some (by kernel_rfl))⟩
  t0 := Try.underlying0
  a0 := Try.isAgg0
  z0 := Try.sizeOf0
  v0 := Try.zeroValue0
  t3 := Try.underlying3
  a3 := Try.isAgg3
  z3 := Try.sizeOf3
  v3 := Try.zeroValue3
  t4 := Try.underlying4
  a4 := Try.isAgg4
  z4 := Try.sizeOf4
  v4 := Try.zeroValue4
  t5 := Try.underlying5
  a5 := Try.isAgg5
  z5 := Try.sizeOf5
  v5 := Try.zeroValue5
  t9 := Try.underlying9
  a9 := Try.isAgg9
  z9 := Try.sizeOf9
  v9 := Try.zeroValue9
  t22 := Try.underlying26
  a22 := Try.isAgg26
  z22 := Try.sizeOf26
  v22 := Try.zeroValue26
  t25 := Try.underlying48
  a25 := Try.isAgg48
  z25 := Try.sizeOf48
  v25 := Try.zeroValue48
  t39 := Try.underlying59
  a39 := Try.isAgg59
  z39 := Try.sizeOf59
  v39 := Try.zeroValue59
  t45 := Try.underlying64
  a45 := Try.isAgg64
  z45 := Try.sizeOf64
  v45 := Try.zeroValue64
  t46 := Try.underlying65
  a46 := Try.isAgg65
  z46 := Try.sizeOf65
  v46 := Try.zeroValue65
  t50 := Try.underlying69
  a50 := Try.isAgg69
  z50 := Try.sizeOf69
  v50 := Try.zeroValue69
  t53 := Try.underlying72
  a53 := Try.isAgg72
  z53 := Try.sizeOf72
  v53 := Try.zeroValue72
  t55 := Try.underlying33
  a55 := Try.isAgg33
  z55 := Try.sizeOf33
  v55 := Try.zeroValue33
  t66 := Try.underlying75
  a66 := Try.isAgg75
  z66 := Try.sizeOf75
  v66 := Try.zeroValue75
  t70 := Try.underlying79
  a70 := Try.isAgg79
  z70 := Try.sizeOf79
  v70 := Try.zeroValue79
  t76 := Try.underlying86
  a76 := Try.isAgg86
  z76 := Try.sizeOf86
  v76 := Try.zeroValue86
  t77 := Try.underlying87
  a77 := Try.isAgg87
  z77 := Try.sizeOf87
  v77 := Try.zeroValue87 }
end Go.Proofs

namespace Go.Proofs.Ytjpeimmjggkkjaa.diffJoins
open Go.ChangeShapes Go.WideShapes Go.ChangeAt Go.RowKit
open Go.Ax Go.Ax.Sp
set_option linter.unusedVariables false
set_option maxRecDepth 1000000
noncomputable def ek0 : List (TypeId × EK) := [(2, .i64), (3, .i64), (4, .bool), (5, .u8), (30, .change), (33, .u64), (35, .job)]
theorem okE0 : Env.OK { P := Try.prog, spec := [], ek := ek0 } := Env.OK.nil
noncomputable def L0 : List (FuncId × SpecT) := []
theorem okL0 : Env.OK { P := Try.prog, spec := L0, ek := ek0 } := okE0
theorem ok_f20 : SpecOK Try.prog 20 ((sIdCmp).spec (oIdCmp)) := by
  refine Sig.sound (E := { P := Try.prog, spec := L0, ek := ek0, loops := [], n0 := 0 }) okL0 (fn := Try.f20) (by kernel_rfl) (by rfl) ?_
  intro x k h
  obtain ⟨s, t, _⟩ := x
  refine Eq.mp (α := V.vIdCmp s t k) ?_ (O.vIdCmp h)
  kernel_rfl
noncomputable def L1 : List (FuncId × SpecT) := (20, (sIdCmp).spec (oIdCmp)) :: L0
theorem okL1 : Env.OK { P := Try.prog, spec := L1, ek := ek0 } := Env.OK.cons okL0 (fn := Try.f20) (by kernel_rfl) (by kernel_rfl) (by kernel_rfl) ok_f20
theorem ok_f19 : SpecOK Try.prog 19 ((sSortF 20).spec (oSortF2 20)) := by
  exact sortF_spec ok_f20 (fun blk off cap d w h1 h2 h3 h4 => AnyQ.slices_SortFunc Try.laysSortF 4 (fun _ => rfl) (fun _ => rfl) encC encC_len encC_one cfC cfC_swo 20 #[] blk off cap d w (fun _ _ => rfl) h1 h2 h3 h4) (fun p cap fv w => AnyF.slices_SortFunc_none Try.laysSortF p cap fv w)
noncomputable def L2 : List (FuncId × SpecT) := (19, (sSortF 20).spec (oSortF2 20)) :: L1
theorem okL2 : Env.OK { P := Try.prog, spec := L2, ek := ek0 } := Env.OK.cons okL1 (fn := Try.f19) (by kernel_rfl) (by kernel_rfl) (by kernel_rfl) ok_f19
theorem ok_f11 : SpecOK Try.prog 11 ((sOf).spec (oOf2)) := by
  refine Sig.sound (E := { P := Try.prog, spec := L2, ek := ek0, loops := [(3, lOf1), (12, lOf2)], n0 := 0 }) okL2 (fn := Try.f11) (by kernel_rfl) (by rfl) ?_
  intro x k h
  obtain ⟨was, now, _⟩ := x
  refine Eq.mp (α := V.vOf2 was now k) ?_ (O.vOf2 h)
  kernel_rfl
noncomputable def L3 : List (FuncId × SpecT) := (11, (sOf).spec (oOf2)) :: L2
theorem okL3 : Env.OK { P := Try.prog, spec := L3, ek := ek0 } := Env.OK.cons okL2 (fn := Try.f11) (by kernel_rfl) (by kernel_rfl) (by kernel_rfl) ok_f11
theorem ok_f9 : SpecOK Try.prog 9 ((sTrue).spec (oTrue)) := by
  refine Sig.sound (E := { P := Try.prog, spec := L3, ek := ek0, loops := [], n0 := 0 }) okL3 (fn := Try.f9) (by kernel_rfl) (by rfl) ?_
  intro u k h
  refine Eq.mp (α := V.vAwake2 u k) ?_ (O.vAwake2 h)
  kernel_rfl
noncomputable def L4 : List (FuncId × SpecT) := (9, (sTrue).spec (oTrue)) :: L3
theorem okL4 : Env.OK { P := Try.prog, spec := L4, ek := ek0 } := Env.OK.cons okL3 (fn := Try.f9) (by kernel_rfl) (by kernel_rfl) (by kernel_rfl) ok_f9
theorem ok_f30 : SpecOK Try.prog 30 ((sIdCmp).spec (oIdCmp)) := by
  refine Sig.sound (E := { P := Try.prog, spec := L4, ek := ek0, loops := [], n0 := 0 }) okL4 (fn := Try.f30) (by kernel_rfl) (by rfl) ?_
  intro x k h
  obtain ⟨s, t, _⟩ := x
  refine Eq.mp (α := V.vIdCmp s t k) ?_ (O.vIdCmp h)
  kernel_rfl
noncomputable def L5 : List (FuncId × SpecT) := (30, (sIdCmp).spec (oIdCmp)) :: L4
theorem okL5 : Env.OK { P := Try.prog, spec := L5, ek := ek0 } := Env.OK.cons okL4 (fn := Try.f30) (by kernel_rfl) (by kernel_rfl) (by kernel_rfl) ok_f30
theorem ok_f38 : SpecOK Try.prog 38 ((sIns 30).spec (oIns 30)) := by
  refine Sig.sound (E := { P := Try.prog, spec := L5, ek := ek0, loops := [(1, lIns1 30), (4, lIns2 30)], n0 := 0 }) okL5 (fn := Try.f38) (by kernel_rfl) (by rfl) ?_
  intro x k h
  obtain ⟨l, a, b, _, _⟩ := x
  refine Eq.mp (α := V.vIns l a b k) ?_ (O.vIns h)
  kernel_rfl
noncomputable def L6 : List (FuncId × SpecT) := (38, (sIns 30).spec (oIns 30)) :: L5
theorem okL6 : Env.OK { P := Try.prog, spec := L6, ek := ek0 } := Env.OK.cons okL5 (fn := Try.f38) (by kernel_rfl) (by kernel_rfl) (by kernel_rfl) ok_f38
theorem ok_f66 : SpecOK Try.prog 66 ((sSwapR 30).spec (oSwapR 30)) := by
  refine Sig.sound (E := { P := Try.prog, spec := L6, ek := ek0, loops := [(1, lSwapR)], n0 := 0 }) okL6 (fn := Try.f66) (by kernel_rfl) (by rfl) ?_
  intro x k h
  obtain ⟨l, a, b, m, _, _⟩ := x
  refine Eq.mp (α := V.vSwapR l a b m k) ?_ (O.vSwapR h)
  kernel_rfl
noncomputable def L7 : List (FuncId × SpecT) := (66, (sSwapR 30).spec (oSwapR 30)) :: L6
theorem okL7 : Env.OK { P := Try.prog, spec := L7, ek := ek0 } := Env.OK.cons okL6 (fn := Try.f66) (by kernel_rfl) (by kernel_rfl) (by kernel_rfl) ok_f66
theorem ok_f55 : SpecOK Try.prog 55 ((sSwapR 30).spec (oRot 30)) := by
  refine Sig.sound (E := { P := Try.prog, spec := L7, ek := ek0, loops := [(2, lRot 30)], n0 := 0 }) okL7 (fn := Try.f55) (by kernel_rfl) (by rfl) ?_
  intro x k h
  obtain ⟨l, a, b, m, _, _⟩ := x
  refine Eq.mp (α := V.vRot l a b m k) ?_ (O.vRot h)
  kernel_rfl
noncomputable def L8 : List (FuncId × SpecT) := (55, (sSwapR 30).spec (oRot 30)) :: L7
theorem okL8 : Env.OK { P := Try.prog, spec := L8, ek := ek0 } := Env.OK.cons okL7 (fn := Try.f55) (by kernel_rfl) (by kernel_rfl) (by kernel_rfl) ok_f55
theorem ok_f48r (n : Nat) : SpecOK Try.prog 48 ((sSwapR 30).spec (oSym 30 n)) := by
  induction n with
  | zero =>
    refine Sig.sound (E := { P := Try.prog, spec := L8, ek := ek0, loops := [(3, lSy1 30), (9, lSy2), (15, lSy3 30), (21, lSy4), (33, lSy5 30)], n0 := 0 }) okL8 (fn := Try.f48) (by kernel_rfl) (by rfl) ?_
    intro x k h
    exact absurd h.1.2.2.1 (Nat.not_lt_zero _)
  | succ n ih =>
    refine Sig.sound (E := { P := Try.prog, spec := (48, (sSwapR 30).spec (oSym 30 n)) :: L8, ek := ek0, loops := [(3, lSy1 30), (9, lSy2), (15, lSy3 30), (21, lSy4), (33, lSy5 30)], n0 := 0 }) (Env.OK.cons okL8 (fn := Try.f48) (by kernel_rfl) (by kernel_rfl) (by kernel_rfl) ih) (fn := Try.f48) (by kernel_rfl) (by rfl) ?_
    intro x k h
    obtain ⟨l, a, b, m, _, _⟩ := x
    refine Eq.mp (α := V.vSym n l a b m k) ?_ (O.vSym h)
    kernel_rfl
theorem ok_f48 : SpecOK Try.prog 48 ((sSwapR 30).spec (oSym 30 1099511627777)) := by
  exact ok_f48r 1099511627777
noncomputable def L9 : List (FuncId × SpecT) := (48, (sSwapR 30).spec (oSym 30 1099511627777)) :: L8
theorem okL9 : Env.OK { P := Try.prog, spec := L9, ek := ek0 } := Env.OK.cons okL8 (fn := Try.f48) (by kernel_rfl) (by kernel_rfl) (by kernel_rfl) ok_f48
theorem ok_f35 : SpecOK Try.prog 35 ((sStab 30).spec (oStab 30)) := by
  refine Sig.sound (E := { P := Try.prog, spec := L9, ek := ek0, loops := [(2, lSt1 30), (7, lSt2 30), (9, lSt1 30)], n0 := 0 }) okL9 (fn := Try.f35) (by kernel_rfl) (by rfl) ?_
  intro x k h
  obtain ⟨l, a, _, _⟩ := x
  refine Eq.mp (α := V.vStab l a k) ?_ (O.vStab h)
  kernel_rfl
noncomputable def L10 : List (FuncId × SpecT) := (35, (sStab 30).spec (oStab 30)) :: L9
theorem okL10 : Env.OK { P := Try.prog, spec := L10, ek := ek0 } := Env.OK.cons okL9 (fn := Try.f35) (by kernel_rfl) (by kernel_rfl) (by kernel_rfl) ok_f35
theorem ok_f29 : SpecOK Try.prog 29 ((sSortF 30).spec (oStabF 30)) := by
  refine Sig.sound (E := { P := Try.prog, spec := L10, ek := ek0, loops := [], n0 := 0 }) okL10 (fn := Try.f29) (by kernel_rfl) (by rfl) ?_
  intro x k h
  obtain ⟨l, _, _⟩ := x
  refine Eq.mp (α := V.vStabF l k) ?_ (O.vStabF h)
  kernel_rfl
noncomputable def L11 : List (FuncId × SpecT) := (29, (sSortF 30).spec (oStabF 30)) :: L10
theorem okL11 : Env.OK { P := Try.prog, spec := L11, ek := ek0 } := Env.OK.cons okL10 (fn := Try.f29) (by kernel_rfl) (by kernel_rfl) (by kernel_rfl) ok_f29
theorem ok_f26 : SpecOK Try.prog 26 (inlSpec { P := Try.prog, spec := L11, ek := ek0, loops := [], n0 := 0 } Try.f26) := by
  exact inl_sound (E := { P := Try.prog, spec := L11, ek := ek0, loops := [], n0 := 0 }) okL11 (fn := Try.f26) (by kernel_rfl)
noncomputable def L12 : List (FuncId × SpecT) := (26, inlSpec { P := Try.prog, spec := L11, ek := ek0, loops := [], n0 := 0 } Try.f26) :: L11
theorem okL12 : Env.OK { P := Try.prog, spec := L12, ek := ek0 } := Env.OK.cons okL11 (fn := Try.f26) (by kernel_rfl) (by kernel_rfl) (by kernel_rfl) ok_f26
theorem ok_f28 : SpecOK Try.prog 28 ((sIdle).spec (oIdle)) := by
  refine Sig.sound (E := { P := Try.prog, spec := L12, ek := ek0, loops := [], n0 := 0 }) okL12 (fn := Try.f28) (by kernel_rfl) (by rfl) ?_
  intro x k h
  obtain ⟨c, _⟩ := x
  refine Eq.mp (α := V.vIdle c k) ?_ (O.vIdle h)
  kernel_rfl
noncomputable def L13 : List (FuncId × SpecT) := (28, (sIdle).spec (oIdle)) :: L12
theorem okL13 : Env.OK { P := Try.prog, spec := L13, ek := ek0 } := Env.OK.cons okL12 (fn := Try.f28) (by kernel_rfl) (by kernel_rfl) (by kernel_rfl) ok_f28
theorem ok_f25a : SpecOK Try.prog 25 ((sIdxF 28).spec (oIdxD 28)) := by
  refine Sig.sound (E := { P := Try.prog, spec := L13, ek := ek0, loops := [(2, lIdxF 28)], n0 := 0 }) okL13 (fn := Try.f25) (by kernel_rfl) (by rfl) ?_
  intro x k h
  obtain ⟨l, _, _⟩ := x
  refine Eq.mp (α := V.vIdxD l k) ?_ (O.vIdxD h)
  kernel_rfl
theorem ok_f25 : SpecOK Try.prog 25 (selSpec ((sIdxF 28).spec (oIdxD 28)) (inlSpec { P := Try.prog, spec := L13, ek := ek0, loops := [(2, lIdxJ 26)], n0 := 0 } Try.f25)) := by
  exact sel_ok ok_f25a (inl_sound (E := { P := Try.prog, spec := L13, ek := ek0, loops := [(2, lIdxJ 26)], n0 := 0 }) okL13 (fn := Try.f25) (by kernel_rfl))
noncomputable def L14 : List (FuncId × SpecT) := (25, selSpec ((sIdxF 28).spec (oIdxD 28)) (inlSpec { P := Try.prog, spec := L13, ek := ek0, loops := [(2, lIdxJ 26)], n0 := 0 } Try.f25)) :: L13
theorem okL14 : Env.OK { P := Try.prog, spec := L14, ek := ek0 } := Env.OK.cons okL13 (fn := Try.f25) (by kernel_rfl) (by kernel_rfl) (by kernel_rfl) ok_f25
theorem ok_f27 : SpecOK Try.prog 27 ((sDelF 28).spec (oDelF 28)) := by
  refine Sig.sound (E := { P := Try.prog, spec := L14, ek := ek0, loops := [(5, lDelF 28)], n0 := 0 }) okL14 (fn := Try.f27) (by kernel_rfl) (by rfl) ?_
  intro x k h
  obtain ⟨l, _, _⟩ := x
  refine Eq.mp (α := V.vDelF l k) ?_ (O.vDelF h)
  kernel_rfl
noncomputable def L15 : List (FuncId × SpecT) := (27, (sDelF 28).spec (oDelF 28)) :: L14
theorem okL15 : Env.OK { P := Try.prog, spec := L15, ek := ek0 } := Env.OK.cons okL14 (fn := Try.f27) (by kernel_rfl) (by kernel_rfl) (by kernel_rfl) ok_f27
theorem ok_f24 : SpecOK Try.prog 24 ((sClone).spec (oClone)) := by
  refine Sig.sound (E := { P := Try.prog, spec := L15, ek := ek0, loops := [], n0 := 0 }) okL15 (fn := Try.f24) (by kernel_rfl) (by rfl) ?_
  intro x k h
  obtain ⟨l, _⟩ := x
  refine Eq.mp (α := V.vClone l k) ?_ (O.vClone h)
  kernel_rfl
noncomputable def L16 : List (FuncId × SpecT) := (24, (sClone).spec (oClone)) :: L15
theorem okL16 : Env.OK { P := Try.prog, spec := L16, ek := ek0 } := Env.OK.cons okL15 (fn := Try.f24) (by kernel_rfl) (by kernel_rfl) (by kernel_rfl) ok_f24
theorem ok_f15 : SpecOK Try.prog 15 ((sJoin).spec (oJoin)) := by
  refine Sig.sound (E := { P := Try.prog, spec := L16, ek := ek0, loops := [(3, lJo)], n0 := 0 }) okL16 (fn := Try.f15) (by kernel_rfl) (by rfl) ?_
  intro x k h
  obtain ⟨a, b, _⟩ := x
  refine Eq.mp (α := V.vJoin a b k) ?_ (O.vJoin h)
  kernel_rfl
noncomputable def L17 : List (FuncId × SpecT) := (15, (sJoin).spec (oJoin)) :: L16
theorem okL17 : Env.OK { P := Try.prog, spec := L17, ek := ek0 } := Env.OK.cons okL16 (fn := Try.f15) (by kernel_rfl) (by kernel_rfl) (by kernel_rfl) ok_f15
theorem ok_f5 : SpecOK Try.prog 5 ((sJoins).spec (oJoins)) := by
  refine Sig.sound (E := { P := Try.prog, spec := L17, ek := ek0, loops := [(5, lDj1), (9, lDj2), (21, lDj3), (31, lDj4), (35, lDj5)], n0 := 0 }) okL17 (fn := Try.f5) (by kernel_rfl) (by rfl) ?_
  intro x k h
  obtain ⟨a, b, _⟩ := x
  refine Eq.mp (α := V.vJoins a b k) ?_ (O.vJoins h)
  kernel_rfl
noncomputable def L18 : List (FuncId × SpecT) := (5, (sJoins).spec (oJoins)) :: L17
theorem okL18 : Env.OK { P := Try.prog, spec := L18, ek := ek0 } := Env.OK.cons okL17 (fn := Try.f5) (by kernel_rfl) (by kernel_rfl) (by kernel_rfl) ok_f5

theorem own : ownKnob Try.prog.godebug = none := by kernel_rfl
theorem laid : laidOutB Try.prog = true := by kernel_rfl

theorem walk (xs0 xs1 : List Change) (v0 v1 : Value) (w : World) (e0 : RV (Gam.whole w) [] (.imm .change xs0) v0) (e1 : RV (Gam.whole w) [] (.imm .change xs1) v1) :
    Calls Try.prog 5 #[v0, v1] w fun e w' => e = .returned (.bool true) ∧ Still w w' := by
  refine SpecOK.walk (args := [.imm .change xs0, .imm .change xs1]) (vs := [v0, v1]) ok_f5 ?_ ?_
  · simp only [RVs]
    exact ⟨v0, _, rfl, e0, v1, _, rfl, e1, rfl⟩
  · exact (show _ from rfl)

set_option maxRecDepth 100000 in
theorem lifted (os : Os) (started : os.Started) (H : Type) (enc : TypeId × Value → H) :
    ReturnsInHanded {} Try.checked os 5 .any (Rows.diffJoinsSpec.pre6 enc Try.prog Try.f5 Rows.diffJoinsRow.domain false) (Rows.diffJoinsSpec.post enc Try.prog Try.f5 false true false false) := by
  refine returnsInHanded_of_change (C := Try.checked) own started (by kernel_rfl) Try.func5
    (ChangeSpec.witness6 (enc := enc) (C := Try.checked) false ⟨#[], #[.slice none 0 0, .slice none 0 0], []⟩ 8 (by kernel_rfl) (by kernel_rfl) (by kernel_rfl) (by kernel_rfl)) ?_
  intro W base args ds gs before hval0 hW hcnd _
  have hval : ∀ (j : Nat) t v, Try.f5.params[j]? = some t → args[j]? = some v → Value.okWide Try.prog W .any base t v := hval0
  have hW' := hW
  have hlt := hW.lt
  obtain ⟨p, q, hA0, hV, rfl, hfz, hnd⟩ := hW
  have hA : DataW.TrodAll enc Try.prog W 0 (fun _ => true) true Try.f5.params.toList args.toList ds p := hA0
  rw [Try.params5] at hA hval
  obtain ⟨v0, vs0, d0, ds0, p0, q0, hargs, rfl, rfl, h0, r0⟩ := trodAll_cons hA
  obtain ⟨v1, vs1, d1, ds1, p1, q1, rfl, rfl, rfl, h1, r1⟩ := trodAll_cons r0
  obtain ⟨rfl, rfl, rfl⟩ := trodAll_nil r1
  obtain rfl : args = #[v0, v1] := by cases args; simp_all
  obtain ⟨rfl, rfl⟩ := trodVars_none hV
  obtain ⟨xs0, e0, l0, f0⟩ := open_imm .change (by decide) Try.underlying26 ⟨5, by kernel_rfl⟩ (by kernel_rfl) (hval 0 26 v0 rfl rfl) h0
  obtain ⟨xs1, e1, l1, f1⟩ := open_imm .change (by decide) Try.underlying26 ⟨5, by kernel_rfl⟩ (by kernel_rfl) (hval 1 26 v1 rfl rfl) h1
  clear hA0 hval0
  refine (walk xs0 xs1 v0 v1 W e0 e1).mono fun e W' ⟨he, hg⟩ => ?_
  subst he
  refine ⟨_, rfl, hg.post (pa := p0 ++ (p1 ++ [])) (pv := []) hW' (by simp) (fun sp hsp => ?_) (fun _ _ => rfl) (fun _ _ _ => (trodAll_cons_mk (shut_bool Try.underlying4 _) trodAll_mk0)) (ok_one (by kernel_rfl) rfl (okWide_bool_mk Try.underlying4 _))⟩
  refine trodAll_cons_mk (Go.WideElems.Trod_stays laid (by kernel_rfl) (of_decide_eq_true (by kernel_rfl)) h0 (fun x hx => hg.below.same (hlt x (by simp [hx]))) (fun x hx => hsp x (by simp [hx]))) ?_
  refine trodAll_cons_mk (Go.WideElems.Trod_stays laid (by kernel_rfl) (of_decide_eq_true (by kernel_rfl)) h1 (fun x hx => hg.below.same (hlt x (by simp [hx]))) (fun x hx => hsp x (by simp [hx]))) ?_
  exact trodAll_mk0

theorem over : Rows.diffJoinsRow.holds Try.pinned (OpenSpec.ofChange Rows.diffJoinsSpec) :=
  OpenClaim.holds_of_wide 5 Try.f5 rfl rfl rfl rfl rfl rfl rfl ⟨rfl, rfl, rfl, rfl, rfl⟩ rfl rfl rfl rfl rfl (by kernel_rfl) Try.func5 (by kernel_rfl)
    (of_decide_eq_true (by kernel_rfl)) (by unfold Func.isWrapper; first | (rw [if_pos (by decide +kernel)]; kernel_rfl) | (rw [if_neg (by decide +kernel)]; exact ⟨rfl, rfl⟩))
    (fun os started H enc _ => lifted os started H enc)

theorem proved : Rows.DiffJoinsSaid :=
  over
#print axioms proved
end Go.Proofs.Ytjpeimmjggkkjaa.diffJoins
