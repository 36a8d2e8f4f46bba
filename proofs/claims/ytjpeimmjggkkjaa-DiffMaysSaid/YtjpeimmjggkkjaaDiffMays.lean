/-
  For all integers the law DiffMays answers true, and changes nothing: which state may follow which, and the example.
  Conditions: none.
-/
import Derived.Test.YtjpeimmjggkkjaaAxW
import Derived.Test.YtjpeimmjggkkjaaAxO2
import Derived.Test.YtjpeimmjggkkjaaRows
import Derived.Test.YtjpeimmjggkkjaaProg
import Derived.WalkKit
import Derived.ProofKit
import Derived.OpenShut
set_option linter.all false
namespace Go.Proofs.Ytjpeimmjggkkjaa.diffMays
open Go.ChangeShapes Go.WideShapes Go.ChangeAt Go.RowKit
open Go.Ax Go.Ax.Sp
set_option linter.unusedVariables false
set_option maxRecDepth 1000000
noncomputable def ek0 : List (TypeId × EK) := [(2, .i64), (3, .i64), (4, .bool), (5, .u8), (30, .change), (33, .u64), (35, .job)]
theorem okE0 : Env.OK { P := Try.prog, spec := [], ek := ek0 } := Env.OK.nil
noncomputable def L0 : List (FuncId × SpecT) := []
theorem okL0 : Env.OK { P := Try.prog, spec := L0, ek := ek0 } := okE0
theorem ok_f20 : SpecOK Try.prog 20 ((sIdCmp).spec (oIdCmp)) := by
  refine Sig.sound (E := { P := Try.prog, spec := L0, ek := ek0, loops := [], n0 := 0 }) okL0 (fn := Try.f20) (by kernel_rfl) (by rfl) ?_
  intro x k h
  obtain ⟨s, t, _⟩ := x
  refine Eq.mp (α := V.vIdCmp s t k) ?_ (O.vIdCmp h)
  kernel_rfl
noncomputable def L1 : List (FuncId × SpecT) := (20, (sIdCmp).spec (oIdCmp)) :: L0
theorem okL1 : Env.OK { P := Try.prog, spec := L1, ek := ek0 } := Env.OK.cons okL0 (fn := Try.f20) (by kernel_rfl) (by kernel_rfl) (by kernel_rfl) ok_f20
theorem ok_f38 : SpecOK Try.prog 38 ((sIns 20).spec (oIns 20)) := by
  refine Sig.sound (E := { P := Try.prog, spec := L1, ek := ek0, loops := [(1, lIns1 20), (4, lIns2 20)], n0 := 0 }) okL1 (fn := Try.f38) (by kernel_rfl) (by rfl) ?_
  intro x k h
  obtain ⟨l, a, b, _, _⟩ := x
  refine Eq.mp (α := V.vIns l a b k) ?_ (O.vIns h)
  kernel_rfl
noncomputable def L2 : List (FuncId × SpecT) := (38, (sIns 20).spec (oIns 20)) :: L1
theorem okL2 : Env.OK { P := Try.prog, spec := L2, ek := ek0 } := Env.OK.cons okL1 (fn := Try.f38) (by kernel_rfl) (by kernel_rfl) (by kernel_rfl) ok_f38
theorem ok_f47 : SpecOK Try.prog 47 ((sLen).spec (oLen)) := by
  refine Sig.sound (E := { P := Try.prog, spec := L2, ek := ek0, loops := [], n0 := 0 }) okL2 (fn := Try.f47) (by kernel_rfl) (by rfl) ?_
  intro x k h
  obtain ⟨x, _⟩ := x
  refine Eq.mp (α := V.vLen64 x k) ?_ (O.vLen64 h)
  kernel_rfl
noncomputable def L3 : List (FuncId × SpecT) := (47, (sLen).spec (oLen)) :: L2
theorem okL3 : Env.OK { P := Try.prog, spec := L3, ek := ek0 } := Env.OK.cons okL2 (fn := Try.f47) (by kernel_rfl) (by kernel_rfl) (by kernel_rfl) ok_f47
theorem ok_f34 : SpecOK Try.prog 34 ((sLen).spec (oLen)) := by
  refine Sig.sound (E := { P := Try.prog, spec := L3, ek := ek0, loops := [], n0 := 0 }) okL3 (fn := Try.f34) (by kernel_rfl) (by rfl) ?_
  intro x k h
  obtain ⟨x, _⟩ := x
  refine Eq.mp (α := V.vLen x k) ?_ (O.vLen h)
  kernel_rfl
noncomputable def L4 : List (FuncId × SpecT) := (34, (sLen).spec (oLen)) :: L3
theorem okL4 : Env.OK { P := Try.prog, spec := L4, ek := ek0 } := Env.OK.cons okL3 (fn := Try.f34) (by kernel_rfl) (by kernel_rfl) (by kernel_rfl) ok_f34
theorem ok_f33 : SpecOK Try.prog 33 ((sPdq 20).spec (oPdq 20)) := by
  refine Sig.sound (E := { P := Try.prog, spec := L4, ek := ek0, loops := [(2, lPdq 20)], n0 := 0 }) okL4 (fn := Try.f33) (by kernel_rfl) (by rfl) ?_
  intro x k h
  obtain ⟨l, a, b, m, _, _⟩ := x
  refine Eq.mp (α := V.vPdq l a b m k) ?_ (O.vPdq h)
  kernel_rfl
noncomputable def L5 : List (FuncId × SpecT) := (33, (sPdq 20).spec (oPdq 20)) :: L4
theorem okL5 : Env.OK { P := Try.prog, spec := L5, ek := ek0 } := Env.OK.cons okL4 (fn := Try.f33) (by kernel_rfl) (by kernel_rfl) (by kernel_rfl) ok_f33
theorem ok_f19 : SpecOK Try.prog 19 ((sSortF 20).spec (oSortF 20)) := by
  refine Sig.sound (E := { P := Try.prog, spec := L5, ek := ek0, loops := [], n0 := 0 }) okL5 (fn := Try.f19) (by kernel_rfl) (by rfl) ?_
  intro x k h
  obtain ⟨l, _, _⟩ := x
  refine Eq.mp (α := V.vSortF l k) ?_ (O.vSortF h)
  kernel_rfl
noncomputable def L6 : List (FuncId × SpecT) := (19, (sSortF 20).spec (oSortF 20)) :: L5
theorem okL6 : Env.OK { P := Try.prog, spec := L6, ek := ek0 } := Env.OK.cons okL5 (fn := Try.f19) (by kernel_rfl) (by kernel_rfl) (by kernel_rfl) ok_f19
theorem ok_f11 : SpecOK Try.prog 11 ((sOf).spec (oOf)) := by
  refine Sig.sound (E := { P := Try.prog, spec := L6, ek := ek0, loops := [(3, lOf1), (12, lOf2)], n0 := 0 }) okL6 (fn := Try.f11) (by kernel_rfl) (by rfl) ?_
  intro x k h
  obtain ⟨was, now, _⟩ := x
  refine Eq.mp (α := V.vOf was now k) ?_ (O.vOf h)
  kernel_rfl
noncomputable def L7 : List (FuncId × SpecT) := (11, (sOf).spec (oOf)) :: L6
theorem okL7 : Env.OK { P := Try.prog, spec := L7, ek := ek0 } := Env.OK.cons okL6 (fn := Try.f11) (by kernel_rfl) (by kernel_rfl) (by kernel_rfl) ok_f11
theorem ok_f7 : SpecOK Try.prog 7 ((sMay).spec (oMay)) := by
  refine Sig.sound (E := { P := Try.prog, spec := L7, ek := ek0, loops := [], n0 := 0 }) okL7 (fn := Try.f7) (by kernel_rfl) (by rfl) ?_
  intro x k h
  obtain ⟨x, y, _⟩ := x
  refine Eq.mp (α := V.vMay x y k) ?_ (O.vMay h)
  kernel_rfl
noncomputable def L8 : List (FuncId × SpecT) := (7, (sMay).spec (oMay)) :: L7
theorem okL8 : Env.OK { P := Try.prog, spec := L8, ek := ek0 } := Env.OK.cons okL7 (fn := Try.f7) (by kernel_rfl) (by kernel_rfl) (by kernel_rfl) ok_f7
theorem ok_f8 : SpecOK Try.prog 8 ((sMay).spec (oMay)) := by
  refine Sig.sound (E := { P := Try.prog, spec := L8, ek := ek0, loops := [], n0 := 0 }) okL8 (fn := Try.f8) (by kernel_rfl) (by rfl) ?_
  intro x k h
  obtain ⟨x, y, _⟩ := x
  refine Eq.mp (α := V.vmay x y k) ?_ (O.vmay h)
  kernel_rfl
noncomputable def L9 : List (FuncId × SpecT) := (8, (sMay).spec (oMay)) :: L8
theorem okL9 : Env.OK { P := Try.prog, spec := L9, ek := ek0 } := Env.OK.cons okL8 (fn := Try.f8) (by kernel_rfl) (by kernel_rfl) (by kernel_rfl) ok_f8
theorem ok_f9 : SpecOK Try.prog 9 ((sTrue).spec (oTrue)) := by
  refine Sig.sound (E := { P := Try.prog, spec := L9, ek := ek0, loops := [], n0 := 0 }) okL9 (fn := Try.f9) (by kernel_rfl) (by rfl) ?_
  intro u k h
  refine Eq.mp (α := V.vAwake u k) ?_ (O.vAwake h)
  kernel_rfl
noncomputable def L10 : List (FuncId × SpecT) := (9, (sTrue).spec (oTrue)) :: L9
theorem okL10 : Env.OK { P := Try.prog, spec := L10, ek := ek0 } := Env.OK.cons okL9 (fn := Try.f9) (by kernel_rfl) (by kernel_rfl) (by kernel_rfl) ok_f9
theorem ok_f3 : SpecOK Try.prog 3 ((sMay).spec (oMays)) := by
  refine Sig.sound (E := { P := Try.prog, spec := L10, ek := ek0, loops := [], n0 := 0 }) okL10 (fn := Try.f3) (by kernel_rfl) (by rfl) ?_
  intro x k h
  obtain ⟨x, y, _⟩ := x
  refine Eq.mp (α := V.vMays x y k) ?_ (O.vMays h)
  kernel_rfl

theorem own : ownKnob Try.prog.godebug = none := by kernel_rfl

/-! ### STEP 1: THE WALK: the Go text returns true. 'Grown w w'': the world has at most new blocks (Derived/RowKit3.lean). Part the cases AHEAD of 'go_enter' where a test parts the walk; take each callee by a contract of your own. -/
theorem walk (a0 : Int) (a1 : Int) (w0 : (Lit.int .i64 a0).wf = true) (w1 : (Lit.int .i64 a1).wf = true) (w : World) :
    Calls Try.prog 3 #[.int .i64 a0, .int .i64 a1] w fun e w' => e = .returned (.bool true) ∧ Grown w w' := by
  refine SpecOK.walk (args := [.int .i64 a0, .int .i64 a1]) (vs := [.int .i64 a0, .int .i64 a1]) ok_f3 ?_ ?_
  · simp [RVs, RV]
  · exact (show _ from rfl)
/-! ### THE ROW's STEP: WRITTEN OUT: LEAVE IT -/
set_option maxRecDepth 100000 in
theorem lifted (os : Os) (started : os.Started) (H : Type) (enc : TypeId × Value → H) :
    ReturnsInHanded {} Try.checked os 3 .any (Rows.diffMaysSpec.pre6 enc Try.prog Try.f3 Rows.diffMaysRow.domain false) (Rows.diffMaysSpec.post enc Try.prog Try.f3 false true false false) := by
  refine returnsInHanded_of_change (C := Try.checked) own started (by kernel_rfl) Try.func3
    (ChangeSpec.witness6 (enc := enc) (C := Try.checked) false ⟨#[], #[.int .i64 0, .int .i64 0], []⟩ 8 (by kernel_rfl) (by kernel_rfl) (by kernel_rfl) (by kernel_rfl)) ?_
  intro W base args ds gs before hval0 hW hcnd _
  have hval : ∀ (j : Nat) t v, Try.f3.params[j]? = some t → args[j]? = some v → Value.okWide Try.prog W .any base t v := hval0
  have hW' := hW
  obtain ⟨p, q, hA0, hV, rfl, hfz, hnd⟩ := hW
  have hA : DataW.TrodAll enc Try.prog W 0 (fun _ => true) true Try.f3.params.toList args.toList ds p := hA0
  rw [Try.params3] at hA hval
  obtain ⟨v0, vs0, d0, ds0, p0, q0, hargs, rfl, rfl, h0, r0⟩ := trodAll_cons hA
  obtain ⟨v1, vs1, d1, ds1, p1, q1, rfl, rfl, rfl, h1, r1⟩ := trodAll_cons r0
  obtain ⟨rfl, rfl, rfl⟩ := trodAll_nil r1
  obtain rfl : args = #[v0, v1] := by cases args; simp_all
  obtain ⟨rfl, rfl⟩ := trodVars_none hV
  obtain ⟨a0, rfl, rfl, rfl, w0⟩ := open_int Try.underlying3 (hval 0 3 v0 rfl rfl) h0
  obtain ⟨a1, rfl, rfl, rfl, w1⟩ := open_int Try.underlying3 (hval 1 3 v1 rfl rfl) h1
  clear hA0 hval0
  simp only [List.append_nil] at hW'
  refine (walk a0 a1 w0 w1 W).mono fun e W' ⟨he, hg⟩ => ?_
  subst he
  exact ⟨_, rfl, post_of_same (pa := []) (pv := []) hW' (fun _ _ _ => (trodAll_cons_mk (shut_bool Try.underlying4 _) trodAll_mk0)) (fun sp _ => (trodAll_cons_mk (shut_int Try.underlying3 w0) (trodAll_cons_mk (shut_int Try.underlying3 w1) trodAll_mk0))) (fun _ _ => rfl) rfl
    (hg.frame _) hg.2.1 (ok_one (by kernel_rfl) rfl (okWide_bool_mk Try.underlying4 _))⟩

theorem over : Rows.diffMaysRow.holds Try.pinned (OpenSpec.ofChange Rows.diffMaysSpec) :=
  OpenClaim.holds_of_wide 3 Try.f3 rfl rfl rfl rfl rfl rfl rfl ⟨rfl, rfl, rfl, rfl, rfl⟩ rfl rfl rfl rfl rfl (by kernel_rfl) Try.func3 (by kernel_rfl)
    (of_decide_eq_true (by kernel_rfl)) (by unfold Func.isWrapper; first | (rw [if_pos (by decide +kernel)]; kernel_rfl) | (rw [if_neg (by decide +kernel)]; exact ⟨rfl, rfl⟩))
    (fun os started H enc _ => lifted os started H enc)

/-- ████ THE STATEMENT ████ -/
theorem proved : Rows.DiffMaysSaid :=
  over
#print axioms proved
end Go.Proofs.Ytjpeimmjggkkjaa.diffMays
