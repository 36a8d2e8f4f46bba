/-
  For all jobs and all others the law DiffPlans answers true, and changes nothing: whose plans are lowered, and whose are raised.
  Conditions: none.
-/
import Derived.Test.YtjpeimmjggkkjaaAxR
import Derived.Test.YtjpeimmjggkkjaaAxB
import Derived.Test.YtjpeimmjggkkjaaAxO5
import Derived.Test.YtjpeimmjggkkjaaRows
import Derived.Test.YtjpeimmjggkkjaaProg
import Derived.Shelf.Sort.Plain
import Derived.Shelf.Slices.In.SortNone
import Derived.WalkKit
import Derived.ProofKit
import Derived.OpenShut
set_option linter.all false
namespace Go.Proofs
open Go.Shelf
def Try.laysSort_ren : Go.Shelf.Ren := ⟨fun | 189 => 36 | 125 => 34 | 257 => 49 | 128 => 46 | 129 => 47 | 294 => 56 | 295 => 57 | 296 => 58 | 297 => 59 | 298 => 60 | 299 => 61 | 216 => 62 | 300 => 63 | 301 => 64 | 328 => 67 | 329 => 51 | 330 => 52 | 331 => 68 | 332 => 69 | 215 => 70 | 343 => 71 | n => n, fun | 28 => 42 | 3 => 3 | 46 => 59 | 0 => 0 | 51 => 72 | 53 => 33 | 4 => 4 | 183 => 65 | 182 => 64 | 131 => 69 | 5 => 5 | 9 => 9 | 218 => 75 | 222 => 79 | 228 => 86 | 229 => 87 | n => n, fun | n => n⟩
theorem Try.laysSort : Go.Proofs.Lays.n189 Try.prog Try.laysSort_ren := {
  mixed := by kernel_rfl
  f125 := Try.func34.trans (congrArg some (by kernel_rfl))
  f128 := Try.func46.trans (congrArg some (by kernel_rfl))
  f129 := Try.func47.trans (congrArg some (by kernel_rfl))
  f189 := Try.func36.trans (congrArg some (by kernel_rfl))
  f215 := Try.func70.trans (congrArg some (by kernel_rfl))
  f216 := Try.func62.trans (congrArg some (by kernel_rfl))
  f257 := Try.func49.trans (congrArg some (by kernel_rfl))
  f294 := Try.func56.trans (congrArg some (by kernel_rfl))
  f295 := Try.func57.trans (congrArg some (by kernel_rfl))
  f296 := Try.func58.trans (congrArg some (by kernel_rfl))
  f297 := Try.func59.trans (congrArg some (by kernel_rfl))
  f298 := Try.func60.trans (congrArg some (by kernel_rfl))
  f299 := Try.func61.trans (congrArg some (by kernel_rfl))
  f300 := Try.func63.trans (congrArg some (by kernel_rfl))
  f301 := Try.func64.trans (congrArg some (by kernel_rfl))
  f328 := Try.func67.trans (congrArg some (by kernel_rfl))
  f329 := Try.func51.trans (congrArg some (by kernel_rfl))
  f330 := Try.func52.trans (congrArg some (by kernel_rfl))
  f331 := Try.func68.trans (congrArg some (by kernel_rfl))
  f332 := Try.func69.trans (congrArg some (by kernel_rfl))
  f343 := Try.func71.trans (congrArg some (by kernel_rfl))
  t0 := Try.underlying0
  a0 := Try.isAgg0
  z0 := Try.sizeOf0
  v0 := Try.zeroValue0
  t3 := Try.underlying3
  a3 := Try.isAgg3
  z3 := Try.sizeOf3
  v3 := Try.zeroValue3
  t4 := Try.underlying4
  a4 := Try.isAgg4
  z4 := Try.sizeOf4
  v4 := Try.zeroValue4
  t5 := Try.underlying5
  a5 := Try.isAgg5
  z5 := Try.sizeOf5
  v5 := Try.zeroValue5
  t9 := Try.underlying9
  a9 := Try.isAgg9
  z9 := Try.sizeOf9
  v9 := Try.zeroValue9
  t28 := Try.underlying42
  a28 := Try.isAgg42
  z28 := Try.sizeOf42
  v28 := Try.zeroValue42
  t46 := Try.underlying59
  a46 := Try.isAgg59
  z46 := Try.sizeOf59
  v46 := Try.zeroValue59
  t51 := Try.underlying72
  a51 := Try.isAgg72
  z51 := Try.sizeOf72
  v51 := Try.zeroValue72
  t53 := Try.underlying33
  a53 := Try.isAgg33
  z53 := Try.sizeOf33
  v53 := Try.zeroValue33
  t131 := Try.underlying69
  a131 := Try.isAgg69
  z131 := Try.sizeOf69
  v131 := Try.zeroValue69
  t182 := Try.underlying64
  a182 := Try.isAgg64
  z182 := Try.sizeOf64
  v182 := Try.zeroValue64
  t183 := Try.underlying65
  a183 := Try.isAgg65
  z183 := Try.sizeOf65
  v183 := Try.zeroValue65
  t218 := Try.underlying75
  a218 := Try.isAgg75
  z218 := Try.sizeOf75
  v218 := Try.zeroValue75
  t222 := Try.underlying79
  a222 := Try.isAgg79
  z222 := Try.sizeOf79
  v222 := Try.zeroValue79
  t228 := Try.underlying86
  a228 := Try.isAgg86
  z228 := Try.sizeOf86
  v228 := Try.zeroValue86
  t229 := Try.underlying87
  a229 := Try.isAgg87
  z229 := Try.sizeOf87
  v229 := Try.zeroValue87 }
end Go.Proofs

namespace Go.Proofs.Ytjpeimmjggkkjaa.diffPlans
open Go.ChangeShapes Go.WideShapes Go.ChangeAt Go.RowKit
open Go.Ax Go.Ax.Sp
set_option linter.unusedVariables false
set_option maxRecDepth 1000000
noncomputable def ek0 : List (TypeId × EK) := [(2, .i64), (3, .i64), (4, .bool), (5, .u8), (30, .change), (33, .u64), (35, .job)]
theorem okE0 : Env.OK { P := Try.prog, spec := [], ek := ek0 } := Env.OK.nil
noncomputable def L0 : List (FuncId × SpecT) := []
theorem okL0 : Env.OK { P := Try.prog, spec := L0, ek := ek0 } := okE0
theorem ok_f20 : SpecOK Try.prog 20 ((sIdCmp).spec (oIdCmp)) := by
  refine Sig.sound (E := { P := Try.prog, spec := L0, ek := ek0, loops := [], n0 := 0 }) okL0 (fn := Try.f20) (by kernel_rfl) (by rfl) ?_
  intro x k h
  obtain ⟨s, t, _⟩ := x
  refine Eq.mp (α := V.vIdCmp s t k) ?_ (O.vIdCmp h)
  kernel_rfl
noncomputable def L1 : List (FuncId × SpecT) := (20, (sIdCmp).spec (oIdCmp)) :: L0
theorem okL1 : Env.OK { P := Try.prog, spec := L1, ek := ek0 } := Env.OK.cons okL0 (fn := Try.f20) (by kernel_rfl) (by kernel_rfl) (by kernel_rfl) ok_f20
theorem ok_f38 : SpecOK Try.prog 38 ((sIns 20).spec (oIns 20)) := by
  refine Sig.sound (E := { P := Try.prog, spec := L1, ek := ek0, loops := [(1, lIns1 20), (4, lIns2 20)], n0 := 0 }) okL1 (fn := Try.f38) (by kernel_rfl) (by rfl) ?_
  intro x k h
  obtain ⟨l, a, b, _, _⟩ := x
  refine Eq.mp (α := V.vIns l a b k) ?_ (O.vIns h)
  kernel_rfl
noncomputable def L2 : List (FuncId × SpecT) := (38, (sIns 20).spec (oIns 20)) :: L1
theorem okL2 : Env.OK { P := Try.prog, spec := L2, ek := ek0 } := Env.OK.cons okL1 (fn := Try.f38) (by kernel_rfl) (by kernel_rfl) (by kernel_rfl) ok_f38
theorem ok_f47 : SpecOK Try.prog 47 ((sLen).spec (oLen)) := by
  refine Sig.sound (E := { P := Try.prog, spec := L2, ek := ek0, loops := [], n0 := 0 }) okL2 (fn := Try.f47) (by kernel_rfl) (by rfl) ?_
  intro x k h
  obtain ⟨x, _⟩ := x
  refine Eq.mp (α := V.vLen64 x k) ?_ (O.vLen64 h)
  kernel_rfl
noncomputable def L3 : List (FuncId × SpecT) := (47, (sLen).spec (oLen)) :: L2
theorem okL3 : Env.OK { P := Try.prog, spec := L3, ek := ek0 } := Env.OK.cons okL2 (fn := Try.f47) (by kernel_rfl) (by kernel_rfl) (by kernel_rfl) ok_f47
theorem ok_f34 : SpecOK Try.prog 34 ((sLen).spec (oLen)) := by
  refine Sig.sound (E := { P := Try.prog, spec := L3, ek := ek0, loops := [], n0 := 0 }) okL3 (fn := Try.f34) (by kernel_rfl) (by rfl) ?_
  intro x k h
  obtain ⟨x, _⟩ := x
  refine Eq.mp (α := V.vLen x k) ?_ (O.vLen h)
  kernel_rfl
noncomputable def L4 : List (FuncId × SpecT) := (34, (sLen).spec (oLen)) :: L3
theorem okL4 : Env.OK { P := Try.prog, spec := L4, ek := ek0 } := Env.OK.cons okL3 (fn := Try.f34) (by kernel_rfl) (by kernel_rfl) (by kernel_rfl) ok_f34
theorem ok_f33 : SpecOK Try.prog 33 ((sPdq 20).spec (oPdq 20)) := by
  refine Sig.sound (E := { P := Try.prog, spec := L4, ek := ek0, loops := [(2, lPdq 20)], n0 := 0 }) okL4 (fn := Try.f33) (by kernel_rfl) (by rfl) ?_
  intro x k h
  obtain ⟨l, a, b, m, _, _⟩ := x
  refine Eq.mp (α := V.vPdq l a b m k) ?_ (O.vPdq h)
  kernel_rfl
noncomputable def L5 : List (FuncId × SpecT) := (33, (sPdq 20).spec (oPdq 20)) :: L4
theorem okL5 : Env.OK { P := Try.prog, spec := L5, ek := ek0 } := Env.OK.cons okL4 (fn := Try.f33) (by kernel_rfl) (by kernel_rfl) (by kernel_rfl) ok_f33
theorem ok_f19 : SpecOK Try.prog 19 ((sSortF 20).spec (oSortF 20)) := by
  refine Sig.sound (E := { P := Try.prog, spec := L5, ek := ek0, loops := [], n0 := 0 }) okL5 (fn := Try.f19) (by kernel_rfl) (by rfl) ?_
  intro x k h
  obtain ⟨l, _, _⟩ := x
  refine Eq.mp (α := V.vSortF l k) ?_ (O.vSortF h)
  kernel_rfl
noncomputable def L6 : List (FuncId × SpecT) := (19, (sSortF 20).spec (oSortF 20)) :: L5
theorem okL6 : Env.OK { P := Try.prog, spec := L6, ek := ek0 } := Env.OK.cons okL5 (fn := Try.f19) (by kernel_rfl) (by kernel_rfl) (by kernel_rfl) ok_f19
theorem ok_f11 : SpecOK Try.prog 11 ((sOf).spec (oOf)) := by
  refine Sig.sound (E := { P := Try.prog, spec := L6, ek := ek0, loops := [(3, lOf1), (12, lOf2)], n0 := 0 }) okL6 (fn := Try.f11) (by kernel_rfl) (by rfl) ?_
  intro x k h
  obtain ⟨was, now, _⟩ := x
  refine Eq.mp (α := V.vOf was now k) ?_ (O.vOf h)
  kernel_rfl
noncomputable def L7 : List (FuncId × SpecT) := (11, (sOf).spec (oOf)) :: L6
theorem okL7 : Env.OK { P := Try.prog, spec := L7, ek := ek0 } := Env.OK.cons okL6 (fn := Try.f11) (by kernel_rfl) (by kernel_rfl) (by kernel_rfl) ok_f11
theorem ok_f7 : SpecOK Try.prog 7 ((sMay).spec (oMay)) := by
  refine Sig.sound (E := { P := Try.prog, spec := L7, ek := ek0, loops := [], n0 := 0 }) okL7 (fn := Try.f7) (by kernel_rfl) (by rfl) ?_
  intro x k h
  obtain ⟨x, y, _⟩ := x
  refine Eq.mp (α := V.vMay x y k) ?_ (O.vMay h)
  kernel_rfl
noncomputable def L8 : List (FuncId × SpecT) := (7, (sMay).spec (oMay)) :: L7
theorem okL8 : Env.OK { P := Try.prog, spec := L8, ek := ek0 } := Env.OK.cons okL7 (fn := Try.f7) (by kernel_rfl) (by kernel_rfl) (by kernel_rfl) ok_f7
theorem ok_f8 : SpecOK Try.prog 8 ((sMay).spec (oMay)) := by
  refine Sig.sound (E := { P := Try.prog, spec := L8, ek := ek0, loops := [], n0 := 0 }) okL8 (fn := Try.f8) (by kernel_rfl) (by rfl) ?_
  intro x k h
  obtain ⟨x, y, _⟩ := x
  refine Eq.mp (α := V.vmay x y k) ?_ (O.vmay h)
  kernel_rfl
noncomputable def L9 : List (FuncId × SpecT) := (8, (sMay).spec (oMay)) :: L8
theorem okL9 : Env.OK { P := Try.prog, spec := L9, ek := ek0 } := Env.OK.cons okL8 (fn := Try.f8) (by kernel_rfl) (by kernel_rfl) (by kernel_rfl) ok_f8
theorem ok_f9 : SpecOK Try.prog 9 ((sTrue).spec (oTrue)) := by
  refine Sig.sound (E := { P := Try.prog, spec := L9, ek := ek0, loops := [], n0 := 0 }) okL9 (fn := Try.f9) (by kernel_rfl) (by rfl) ?_
  intro u k h
  refine Eq.mp (α := V.vAwake u k) ?_ (O.vAwake h)
  kernel_rfl
noncomputable def L10 : List (FuncId × SpecT) := (9, (sTrue).spec (oTrue)) :: L9
theorem okL10 : Env.OK { P := Try.prog, spec := L10, ek := ek0 } := Env.OK.cons okL9 (fn := Try.f9) (by kernel_rfl) (by kernel_rfl) (by kernel_rfl) ok_f9
theorem ok_f3 : SpecOK Try.prog 3 ((sMay).spec (oMays)) := by
  refine Sig.sound (E := { P := Try.prog, spec := L10, ek := ek0, loops := [], n0 := 0 }) okL10 (fn := Try.f3) (by kernel_rfl) (by rfl) ?_
  intro x k h
  obtain ⟨x, y, _⟩ := x
  refine Eq.mp (α := V.vMays x y k) ?_ (O.vMays h)
  kernel_rfl
noncomputable def L11 : List (FuncId × SpecT) := (3, (sMay).spec (oMays)) :: L10
theorem okL11 : Env.OK { P := Try.prog, spec := L11, ek := ek0 } := Env.OK.cons okL10 (fn := Try.f3) (by kernel_rfl) (by kernel_rfl) (by kernel_rfl) ok_f3
theorem ok_f10 : SpecOK Try.prog 10 ((sFew).spec (oFew)) := by
  refine Sig.sound (E := { P := Try.prog, spec := L11, ek := ek0, loops := [(3, lFew)], n0 := 0 }) okL11 (fn := Try.f10) (by kernel_rfl) (by rfl) ?_
  intro x k h
  obtain ⟨l, _⟩ := x
  refine Eq.mp (α := V.vFew l k) ?_ (O.vFew h)
  kernel_rfl
noncomputable def L12 : List (FuncId × SpecT) := (10, (sFew).spec (oFew)) :: L11
theorem okL12 : Env.OK { P := Try.prog, spec := L12, ek := ek0 } := Env.OK.cons okL11 (fn := Try.f10) (by kernel_rfl) (by kernel_rfl) (by kernel_rfl) ok_f10
theorem ok_f31 : SpecOK Try.prog 31 ((sMvd).spec (oMvd)) := by
  refine Sig.sound (E := { P := Try.prog, spec := L12, ek := ek0, loops := [(2, lMvd1), (5, lMvd2)], n0 := 0 }) okL12 (fn := Try.f31) (by kernel_rfl) (by rfl) ?_
  intro x k h
  obtain ⟨was, now, id, low, _⟩ := x
  refine Eq.mp (α := V.vMvd was now id low k) ?_ (O.vMvd h)
  kernel_rfl
noncomputable def L13 : List (FuncId × SpecT) := (31, (sMvd).spec (oMvd)) :: L12
theorem okL13 : Env.OK { P := Try.prog, spec := L13, ek := ek0 } := Env.OK.cons okL12 (fn := Try.f31) (by kernel_rfl) (by kernel_rfl) (by kernel_rfl) ok_f31
theorem ok_f37 : SpecOK Try.prog 37 ((sCompI).spec (oCompI)) := by
  refine Sig.sound (E := { P := Try.prog, spec := L13, ek := ek0, loops := [(4, lCp1), (9, lCp2)], n0 := 0 }) okL13 (fn := Try.f37) (by kernel_rfl) (by rfl) ?_
  intro x k h
  obtain ⟨l, _⟩ := x
  refine Eq.mp (α := V.vCompI l k) ?_ (O.vCompI h)
  kernel_rfl
noncomputable def L14 : List (FuncId × SpecT) := (37, (sCompI).spec (oCompI)) :: L13
theorem okL14 : Env.OK { P := Try.prog, spec := L14, ek := ek0 } := Env.OK.cons okL13 (fn := Try.f37) (by kernel_rfl) (by kernel_rfl) (by kernel_rfl) ok_f37
theorem ok_f36 : SpecOK Try.prog 36 ((sSortI).spec (oSortI)) := by
  exact sortI_spec (fun blk off cap zs w h1 h2 h3 => Any.slices_Sort_int Try.laysSort blk off cap zs w h1 h2 h3) (fun p cap w => Any.slices_Sort_int_none Try.laysSort p cap w)
noncomputable def L15 : List (FuncId × SpecT) := (36, (sSortI).spec (oSortI)) :: L14
theorem okL15 : Env.OK { P := Try.prog, spec := L15, ek := ek0 } := Env.OK.cons okL14 (fn := Try.f36) (by kernel_rfl) (by kernel_rfl) (by kernel_rfl) ok_f36
theorem ok_f32 : SpecOK Try.prog 32 ((sDmoved).spec (oDmoved)) := by
  refine Sig.sound (E := { P := Try.prog, spec := L15, ek := ek0, loops := [(3, lDm1), (6, lDm2)], n0 := 0 }) okL15 (fn := Try.f32) (by kernel_rfl) (by rfl) ?_
  intro x k h
  obtain ⟨was, now, low, _⟩ := x
  refine Eq.mp (α := V.vDmoved was now low k) ?_ (O.vDmoved h)
  kernel_rfl
noncomputable def L16 : List (FuncId × SpecT) := (32, (sDmoved).spec (oDmoved)) :: L15
theorem okL16 : Env.OK { P := Try.prog, spec := L16, ek := ek0 } := Env.OK.cons okL15 (fn := Try.f32) (by kernel_rfl) (by kernel_rfl) (by kernel_rfl) ok_f32
theorem ok_f18 : SpecOK Try.prog 18 ((sRaised).spec (oRaised false)) := by
  refine Sig.sound (E := { P := Try.prog, spec := L16, ek := ek0, loops := [], n0 := 0 }) okL16 (fn := Try.f18) (by kernel_rfl) (by rfl) ?_
  intro x k h
  obtain ⟨was, now, _⟩ := x
  refine Eq.mp (α := V.vRaised was now k) ?_ (O.vRaised h)
  kernel_rfl
noncomputable def L17 : List (FuncId × SpecT) := (18, (sRaised).spec (oRaised false)) :: L16
theorem okL17 : Env.OK { P := Try.prog, spec := L17, ek := ek0 } := Env.OK.cons okL16 (fn := Try.f18) (by kernel_rfl) (by kernel_rfl) (by kernel_rfl) ok_f18
theorem ok_f17 : SpecOK Try.prog 17 ((sRaised).spec (oRaised true)) := by
  refine Sig.sound (E := { P := Try.prog, spec := L17, ek := ek0, loops := [], n0 := 0 }) okL17 (fn := Try.f17) (by kernel_rfl) (by rfl) ?_
  intro x k h
  obtain ⟨was, now, _⟩ := x
  refine Eq.mp (α := V.vLowered was now k) ?_ (O.vLowered h)
  kernel_rfl
noncomputable def L18 : List (FuncId × SpecT) := (17, (sRaised).spec (oRaised true)) :: L17
theorem okL18 : Env.OK { P := Try.prog, spec := L18, ek := ek0 } := Env.OK.cons okL17 (fn := Try.f17) (by kernel_rfl) (by kernel_rfl) (by kernel_rfl) ok_f17
theorem ok_f16 : SpecOK Try.prog 16 ((sRight).spec (oRight)) := by
  refine Sig.sound (E := { P := Try.prog, spec := L18, ek := ek0, loops := [(2, lRi1), (7, lRi2), (11, lRi3)], n0 := 0 }) okL18 (fn := Try.f16) (by kernel_rfl) (by rfl) ?_
  intro x k h
  obtain ⟨got, was, now, low, _⟩ := x
  refine Eq.mp (α := V.vRight got was now low k) ?_ (O.vRight h)
  kernel_rfl
noncomputable def L19 : List (FuncId × SpecT) := (16, (sRight).spec (oRight)) :: L18
theorem okL19 : Env.OK { P := Try.prog, spec := L19, ek := ek0 } := Env.OK.cons okL18 (fn := Try.f16) (by kernel_rfl) (by kernel_rfl) (by kernel_rfl) ok_f16
theorem ok_f6 : SpecOK Try.prog 6 ((sPlans).spec (oPlans)) := by
  refine Sig.sound (E := { P := Try.prog, spec := L19, ek := ek0, loops := [], n0 := 0 }) okL19 (fn := Try.f6) (by kernel_rfl) (by rfl) ?_
  intro x k h
  obtain ⟨was, now, _⟩ := x
  refine Eq.mp (α := V.vPlans was now k) ?_ (O.vPlans h)
  kernel_rfl

theorem own : ownKnob Try.prog.godebug = none := by kernel_rfl
theorem laid : laidOutB Try.prog = true := by kernel_rfl

theorem walk (xs0 xs1 : List Job) (v0 v1 : Value) (w : World) (e0 : RV (Gam.whole w) [] (.imm .job xs0) v0) (e1 : RV (Gam.whole w) [] (.imm .job xs1) v1) :
    Calls Try.prog 6 #[v0, v1] w fun e w' => e = .returned (.bool true) ∧ Still w w' := by
  refine SpecOK.walk (args := [.imm .job xs0, .imm .job xs1]) (vs := [v0, v1]) ok_f6 ?_ ?_
  · simp only [RVs]
    exact ⟨v0, _, rfl, e0, v1, _, rfl, e1, rfl⟩
  · exact (show _ from rfl)

set_option maxRecDepth 100000 in
theorem lifted (os : Os) (started : os.Started) (H : Type) (enc : TypeId × Value → H) :
    ReturnsInHanded {} Try.checked os 6 .any (Rows.diffPlansSpec.pre6 enc Try.prog Try.f6 Rows.diffPlansRow.domain false) (Rows.diffPlansSpec.post enc Try.prog Try.f6 false true false false) := by
  refine returnsInHanded_of_change (C := Try.checked) own started (by kernel_rfl) Try.func6
    (ChangeSpec.witness6 (enc := enc) (C := Try.checked) false ⟨#[], #[.slice none 0 0, .slice none 0 0], []⟩ 8 (by kernel_rfl) (by kernel_rfl) (by kernel_rfl) (by kernel_rfl)) ?_
  intro W base args ds gs before hval0 hW hcnd _
  have hval : ∀ (j : Nat) t v, Try.f6.params[j]? = some t → args[j]? = some v → Value.okWide Try.prog W .any base t v := hval0
  have hW' := hW
  have hlt := hW.lt
  obtain ⟨p, q, hA0, hV, rfl, hfz, hnd⟩ := hW
  have hA : DataW.TrodAll enc Try.prog W 0 (fun _ => true) true Try.f6.params.toList args.toList ds p := hA0
  rw [Try.params6] at hA hval
  obtain ⟨v0, vs0, d0, ds0, p0, q0, hargs, rfl, rfl, h0, r0⟩ := trodAll_cons hA
  obtain ⟨v1, vs1, d1, ds1, p1, q1, rfl, rfl, rfl, h1, r1⟩ := trodAll_cons r0
  obtain ⟨rfl, rfl, rfl⟩ := trodAll_nil r1
  obtain rfl : args = #[v0, v1] := by cases args; simp_all
  obtain ⟨rfl, rfl⟩ := trodVars_none hV
  obtain ⟨xs0, e0, l0, f0⟩ := open_imm .job (by decide) Try.underlying24 ⟨5, by kernel_rfl⟩ (by kernel_rfl) (hval 0 24 v0 rfl rfl) h0
  obtain ⟨xs1, e1, l1, f1⟩ := open_imm .job (by decide) Try.underlying24 ⟨5, by kernel_rfl⟩ (by kernel_rfl) (hval 1 24 v1 rfl rfl) h1
  clear hA0 hval0
  refine (walk xs0 xs1 v0 v1 W e0 e1).mono fun e W' ⟨he, hg⟩ => ?_
  subst he
  refine ⟨_, rfl, hg.post (pa := p0 ++ (p1 ++ [])) (pv := []) hW' (by simp) (fun sp hsp => ?_) (fun _ _ => rfl) (fun _ _ _ => (trodAll_cons_mk (shut_bool Try.underlying4 _) trodAll_mk0)) (ok_one (by kernel_rfl) rfl (okWide_bool_mk Try.underlying4 _))⟩
  refine trodAll_cons_mk (Go.WideElems.Trod_stays laid (by kernel_rfl) (of_decide_eq_true (by kernel_rfl)) h0 (fun x hx => hg.below.same (hlt x (by simp [hx]))) (fun x hx => hsp x (by simp [hx]))) ?_
  refine trodAll_cons_mk (Go.WideElems.Trod_stays laid (by kernel_rfl) (of_decide_eq_true (by kernel_rfl)) h1 (fun x hx => hg.below.same (hlt x (by simp [hx]))) (fun x hx => hsp x (by simp [hx]))) ?_
  exact trodAll_mk0

theorem over : Rows.diffPlansRow.holds Try.pinned (OpenSpec.ofChange Rows.diffPlansSpec) :=
  OpenClaim.holds_of_wide 6 Try.f6 rfl rfl rfl rfl rfl rfl rfl ⟨rfl, rfl, rfl, rfl, rfl⟩ rfl rfl rfl rfl rfl (by kernel_rfl) Try.func6 (by kernel_rfl)
    (of_decide_eq_true (by kernel_rfl)) (by unfold Func.isWrapper; first | (rw [if_pos (by decide +kernel)]; kernel_rfl) | (rw [if_neg (by decide +kernel)]; exact ⟨rfl, rfl⟩))
    (fun os started H enc _ => lifted os started H enc)

theorem proved : Rows.DiffPlansSaid :=
  over
#print axioms proved
end Go.Proofs.Ytjpeimmjggkkjaa.diffPlans
