import Derived.Test.YtbmabiedmdlinaaGreatDoorAxCoreN1
import Derived.Test.YtbmabiedmdlinaaGreatDoorAxO52
import Derived.KernelRfl
set_option linter.all false
namespace Go.Proofs.YtbmabiedmdlinaaGreatDoor.core
open Go.Ax Go.Ax.Sp
set_option linter.unusedVariables false
set_option maxRecDepth 1000000
noncomputable section
def L164:LS:=(169,sPInt.spec oVersP)::L163
theorem okL164:OKL L164:=addK okL163 [] true (fn:=Tryz.f169) fun h=>O.vVersP h
def L165:LS:=(37,sNewF.spec oNewF)::L164
theorem okL165:OKL L165:=addK okL164 [] true (fn:=Tryz.f37) fun h=>O.vNewF h
theorem ok_f38:SP 38 (sIntF.spec oStageF):=by
 refine Sig.sound (E:=en L165 [] true) okL165 (fn:=Tryz.f38) (by kernel_rfl) (by rfl) ?_
 intro x k h
 obtain ⟨f,_⟩:=x
 cases f with
 |none=>exact Eq.mp (α:=V.vStageFN k) (by kernel_rfl) (O.vStageFN h)
 |some f=>exact Eq.mp (α:=V.vStageF f k) (by kernel_rfl) (O.vStageF h)
def L166:LS:=(38,sIntF.spec oStageF)::L165
theorem okL166:OKL L166:=Env.OK.cons okL165 (fn:=Tryz.f38) (by kernel_rfl) (by kernel_rfl) (by kernel_rfl) ok_f38
theorem ok_f39:SP 39 (sIntF.spec oTakenF):=by
 refine Sig.sound (E:=en L166 [] true) okL166 (fn:=Tryz.f39) (by kernel_rfl) (by rfl) ?_
 intro x k h
 obtain ⟨f,_⟩:=x
 cases f with
 |none=>exact Eq.mp (α:=V.vTakenFN k) (by kernel_rfl) (O.vTakenFN h)
 |some f=>exact Eq.mp (α:=V.vTakenF f k) (by kernel_rfl) (O.vTakenF h)
def L167:LS:=(39,sIntF.spec oTakenF)::L166
theorem okL167:OKL L167:=Env.OK.cons okL166 (fn:=Tryz.f39) (by kernel_rfl) (by kernel_rfl) (by kernel_rfl) ok_f39
theorem ok_f40:SP 40 (sBoolF.spec oStaleF):=by
 refine Sig.sound (E:=en L167 [] true) okL167 (fn:=Tryz.f40) (by kernel_rfl) (by rfl) ?_
 intro x k h
 obtain ⟨f,_⟩:=x
 cases f with
 |none=>exact Eq.mp (α:=V.vStaleFN k) (by kernel_rfl) (O.vStaleFN h)
 |some f=>exact Eq.mp (α:=V.vStaleF f k) (by kernel_rfl) (O.vStaleF h)
def L168:LS:=(40,sBoolF.spec oStaleF)::L167
theorem okL168:OKL L168:=Env.OK.cons okL167 (fn:=Tryz.f40) (by kernel_rfl) (by kernel_rfl) (by kernel_rfl) ok_f40
theorem ok_f41a:SP 41 (sWaitsF.spec oWaitsF):=Sig.sound (E:=en L168 [] true) okL168 (fn:=Tryz.f41) (by kernel_rfl) (by rfl) fun ⟨f,s,_⟩ k h=>Eq.mp (α:=V.vWaitsF f s k) (by kernel_rfl) (O.vWaitsF h)
theorem ok_f41:SP 41 (nilSpec (sWaitsF.spec oWaitsF) (inlSpec (en L168 [] false) Tryz.f41)):=by
 exact nil_ok ok_f41a (inl_sound (E:=en L168 [] false) okL168 (fn:=Tryz.f41) (by kernel_rfl))
def L169:LS:=(41,nilSpec (sWaitsF.spec oWaitsF) (inlSpec (en L168 [] false) Tryz.f41))::L168
theorem okL169:OKL L169:=Env.OK.cons okL168 (fn:=Tryz.f41) (by kernel_rfl) (by kernel_rfl) (by kernel_rfl) ok_f41
def L170:LS:=(168,sWhichF.spec oWhichF)::L169
theorem okL170:OKL L170:=addK okL169 [] true (fn:=Tryz.f168) fun h=>O.vWhichF h
def L171:LS:=(102,sLockF.spec oLockF)::L170
theorem okL171:OKL L171:=addK okL170 [] true (fn:=Tryz.f102) fun h=>O.vLockF h
def L172:LS:=(104,sLockF.spec oLetF)::L171
theorem okL172:OKL L172:=addK okL171 [] true (fn:=Tryz.f104) fun h=>O.vLetF h
def L173:LS:=(103,sCopyF.spec oCopyF)::L172
theorem okL173:OKL L173:=addK okL172 [] true (fn:=Tryz.f103) fun h=>O.vCopyF h
def L174:LS:=(174,sPlanF.spec oNextF)::L173
theorem okL174:OKL L174:=addK okL173 [] true (fn:=Tryz.f174) fun h=>O.vNextF h
def L175:LS:=(105,sPlanF.spec oPlanF)::L174
theorem okL175:OKL L175:=addK okL174 [] true (fn:=Tryz.f105) fun h=>O.vPlanF h
def L176:LS:=(106,sStepF.spec oCommitF)::L175
theorem okL176:OKL L176:=addK okL175 [] true (fn:=Tryz.f106) fun h=>O.vCommitF h
theorem ok_f36a:SP 36 (sStepF.spec oStepF):=Sig.sound (E:=en L176 [] true) okL176 (fn:=Tryz.f36) (by kernel_rfl) (by rfl) fun ⟨f,c,s,_⟩ k h=>Eq.mp (α:=V.vStepF f c s k) (by kernel_rfl) (O.vStepF h)
theorem ok_f36:SP 36 (nilSpec (sStepF.spec oStepF) (inlSpec (en L176 [] false) Tryz.f36)):=by
 exact nil_ok ok_f36a (inl_sound (E:=en L176 [] false) okL176 (fn:=Tryz.f36) (by kernel_rfl))
def L177:LS:=(36,nilSpec (sStepF.spec oStepF) (inlSpec (en L176 [] false) Tryz.f36))::L176
theorem okL177:OKL L177:=Env.OK.cons okL176 (fn:=Tryz.f36) (by kernel_rfl) (by kernel_rfl) (by kernel_rfl) ok_f36
end
end Go.Proofs.YtbmabiedmdlinaaGreatDoor.core
