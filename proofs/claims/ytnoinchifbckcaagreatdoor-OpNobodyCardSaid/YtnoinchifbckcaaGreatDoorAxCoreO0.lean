import Derived.Test.YtnoinchifbckcaaGreatDoorAxCoreQ
import Derived.Test.YtnoinchifbckcaaGreatDoorAxO38
import Derived.KernelRfl
set_option linter.all false
namespace Go.Proofs.YtnoinchifbckcaaGreatDoor.core
open Go.Ax Go.Ax.Sp
set_option linter.unusedVariables false
set_option maxRecDepth 1000000
noncomputable section
def L158:LS:=(133,sOfL.spec oOfL)::L157
theorem okL158:OKL L158:=addK okL157 [(3,lOfL)] true (fn:=Tryz.f133) fun h=>O.vOfL h
def L159:LS:=(134,sEvery.spec oEvery)::L158
theorem okL159:OKL L159:=addK okL158 [] true (fn:=Tryz.f134) fun h=>O.vEvery h
def L160:LS:=(65,sNeeds.spec oNeeds)::L159
theorem okL160:OKL L160:=addK okL159 [] true (fn:=Tryz.f65) fun h=>O.vNeeds h
def L161:LS:=(135,sNextL.spec oNextL)::L160
theorem okL161:OKL L161:=addK okL160 [(2,lNextL)] true (fn:=Tryz.f135) fun h=>O.vNextL h
def L162:LS:=(67,sLenL.spec oLenL)::L161
theorem okL162:OKL L162:=addK okL161 [(3,lLenL)] true (fn:=Tryz.f67) fun h=>O.vLenL h
def L163:LS:=(136,sOwnL.spec oOwnL)::L162
theorem okL163:OKL L163:=addK okL162 [] true (fn:=Tryz.f136) fun h=>O.vOwnL h
def L164:LS:=(185,sHeldL.spec oHeldL)::L163
theorem okL164:OKL L164:=addK okL163 [(3,lHeldL)] true (fn:=Tryz.f185) fun h=>O.vHeldL h
def L165:LS:=(137,sTryL.spec oTryL)::L164
theorem okL165:OKL L165:=addK okL164 [] true (fn:=Tryz.f137) fun h=>O.vTryL h
def L166:LS:=(187,sTryL.spec oUnlockL)::L165
theorem okL166:OKL L166:=addK okL165 [] true (fn:=Tryz.f187) fun h=>O.vUnlockL h
def L167:LS:=(141,sIdleL.spec oIdleL)::L166
theorem okL167:OKL L167:=addK okL166 [] true (fn:=Tryz.f141) fun h=>O.vIdleL h
def L168:LS:=(66,sNewH.spec oNewH)::L167
theorem okL168:OKL L168:=addK okL167 [] true (fn:=Tryz.f66) fun h=>O.vNewH h
theorem ok_f68:SP 68 (sStageH.spec oStageH):=by
 refine Sig.sound (E:=en L168 [] true) okL168 (fn:=Tryz.f68) (by kernel_rfl) (by rfl) ?_
 intro x k h
 obtain ⟨a,_⟩:=x
 cases a with
 |none=>exact Eq.mp (α:=V.vStageHN k) (by kernel_rfl) (O.vStageHN h)
 |some a=>exact Eq.mp (α:=V.vStageH a k) (by kernel_rfl) (O.vStageH h)
def L169:LS:=(68,sStageH.spec oStageH)::L168
theorem okL169:OKL L169:=Env.OK.cons okL168 (fn:=Tryz.f68) (by kernel_rfl) (by kernel_rfl) (by kernel_rfl) ok_f68
theorem ok_f71:SP 71 (sWaitsH.spec oWaitsH):=by
 refine Sig.sound (E:=en L169 [] true) okL169 (fn:=Tryz.f71) (by kernel_rfl) (by rfl) ?_
 intro x k h
 obtain ⟨a,s,_⟩:=x
 cases a with
 |none=>exact Eq.mp (α:=V.vWaitsHN s k) (by kernel_rfl) (O.vWaitsHN h)
 |some a=>exact Eq.mp (α:=V.vWaitsH a s k) (by kernel_rfl) (O.vWaitsH h)
def L170:LS:=(71,sWaitsH.spec oWaitsH)::L169
theorem okL170:OKL L170:=Env.OK.cons okL169 (fn:=Tryz.f71) (by kernel_rfl) (by kernel_rfl) (by kernel_rfl) ok_f71
def L171:LS:=(186,sSkipH.spec oSkipH)::L170
theorem okL171:OKL L171:=addK okL170 [(0,lSkipH)] true (fn:=Tryz.f186) fun h=>O.vSkipH h
def L172:LS:=(138,sPartsH.spec oPartsH)::L171
theorem okL172:OKL L172:=addK okL171 [] true (fn:=Tryz.f138) fun h=>O.vPartsH h
def L173:LS:=(139,sGiveH.spec oGiveH)::L172
theorem okL173:OKL L173:=addK okL172 [] true (fn:=Tryz.f139) fun h=>O.vGiveH h
theorem ok_f72a:SP 72 (sStepH.spec oStepH):=Sig.sound (E:=en L173 [] true) okL173 (fn:=Tryz.f72) (by kernel_rfl) (by rfl) fun ⟨a,c,s,_⟩ k h=>Eq.mp (α:=V.vStepH a c s k) (by kernel_rfl) (O.vStepH h)
theorem ok_f72:SP 72 (nilSpec (sStepH.spec oStepH) (inlSpec (en L173 [] false) Tryz.f72)):=by
 exact nil_ok ok_f72a (inl_sound (E:=en L173 [] false) okL173 (fn:=Tryz.f72) (by kernel_rfl))
def L174:LS:=(72,nilSpec (sStepH.spec oStepH) (inlSpec (en L173 [] false) Tryz.f72))::L173
theorem okL174:OKL L174:=Env.OK.cons okL173 (fn:=Tryz.f72) (by kernel_rfl) (by kernel_rfl) (by kernel_rfl) ok_f72
def L175:LS:=(140,sNewO.spec oNewO)::L174
theorem okL175:OKL L175:=addK okL174 [] true (fn:=Tryz.f140) fun h=>O.vNewO h
theorem ok_f70:SP 70 (sReqO.spec oReqO):=by
 refine Sig.sound (E:=en L175 [] true) okL175 (fn:=Tryz.f70) (by kernel_rfl) (by rfl) ?_
 intro x k h
 obtain ⟨o,_⟩:=x
 cases o with
 |none=>exact Eq.mp (α:=V.vReqON k) (by kernel_rfl) (O.vReqON h)
 |some o=>exact Eq.mp (α:=V.vReqO o k) (by kernel_rfl) (O.vReqO h)
def L176:LS:=(70,sReqO.spec oReqO)::L175
theorem okL176:OKL L176:=Env.OK.cons okL175 (fn:=Tryz.f70) (by kernel_rfl) (by kernel_rfl) (by kernel_rfl) ok_f70
theorem ok_f69:SP 69 (sFinO.spec oFinO):=by
 refine Sig.sound (E:=en L176 [] true) okL176 (fn:=Tryz.f69) (by kernel_rfl) (by rfl) ?_
 intro x k h
 obtain ⟨o,_⟩:=x
 cases o with
 |none=>exact Eq.mp (α:=V.vFinON k) (by kernel_rfl) (O.vFinON h)
 |some o=>exact Eq.mp (α:=V.vFinO o k) (by kernel_rfl) (O.vFinO h)
def L177:LS:=(69,sFinO.spec oFinO)::L176
theorem okL177:OKL L177:=Env.OK.cons okL176 (fn:=Tryz.f69) (by kernel_rfl) (by kernel_rfl) (by kernel_rfl) ok_f69
theorem ok_f142:SP 142 (sStepsO.spec oStepsO):=Sig.sound (E:=en L177 [] true) okL177 (fn:=Tryz.f142) (by kernel_rfl) (by rfl) fun ⟨l,_⟩ k h=>Eq.mp (α:=V.vStepsO l k) (by kernel_rfl) (O.vStepsO h)
def L178:LS:=(142,sStepsO.spec oStepsO)::L177
theorem okL178:OKL L178:=Env.OK.cons okL177 (fn:=Tryz.f142) (by kernel_rfl) (by kernel_rfl) (by kernel_rfl) ok_f142
end
end Go.Proofs.YtnoinchifbckcaaGreatDoor.core
