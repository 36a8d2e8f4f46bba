import Derived.Test.YtidfnpddheobdaaGreatDoorAxCoreA
import Derived.Test.YtidfnpddheobdaaGreatDoorAxV22
import Derived.Test.YtidfnpddheobdaaGreatDoorAxO40
import Derived.KernelRfl
set_option linter.all false
namespace Go.Proofs.YtidfnpddheobdaaGreatDoor.core
open Go.Ax Go.Ax.Sp
set_option linter.unusedVariables false
set_option maxRecDepth 1000000
noncomputable section
def L138:LS:=(85,sOfL.spec oOfL)::L137
theorem okL138:OKL L138:=addK okL137 [(3,lOfL)] true (fn:=Tryz.f85) fun h=>O.vOfL h
def L139:LS:=(86,sEvery.spec oEvery)::L138
theorem okL139:OKL L139:=addK okL138 [] true (fn:=Tryz.f86) fun h=>O.vEvery h
def L140:LS:=(23,sNeeds.spec oNeeds)::L139
theorem okL140:OKL L140:=addK okL139 [] true (fn:=Tryz.f23) fun h=>O.vNeeds h
def L141:LS:=(88,sNextL.spec oNextL)::L140
theorem okL141:OKL L141:=addK okL140 [(2,lNextL)] true (fn:=Tryz.f88) fun h=>O.vNextL h
def L142:LS:=(51,sLenL.spec oLenL)::L141
theorem okL142:OKL L142:=addK okL141 [(3,lLenL)] true (fn:=Tryz.f51) fun h=>O.vLenL h
def L143:LS:=(87,sOwnL.spec oOwnL)::L142
theorem okL143:OKL L143:=addK okL142 [] true (fn:=Tryz.f87) fun h=>O.vOwnL h
def L144:LS:=(26,sHeldL.spec oHeldL)::L143
theorem okL144:OKL L144:=addK okL143 [(3,lHeldL)] true (fn:=Tryz.f26) fun h=>O.vHeldL h
def L145:LS:=(31,sTryL.spec oTryL)::L144
theorem okL145:OKL L145:=addK okL144 [] true (fn:=Tryz.f31) fun h=>O.vTryL h
def L146:LS:=(33,sTryL.spec oUnlockL)::L145
theorem okL146:OKL L146:=addK okL145 [] true (fn:=Tryz.f33) fun h=>O.vUnlockL h
def L147:LS:=(30,sIdleL.spec oIdleL)::L146
theorem okL147:OKL L147:=addK okL146 [] true (fn:=Tryz.f30) fun h=>O.vIdleL h
def L148:LS:=(84,sNewH.spec oNewH)::L147
theorem okL148:OKL L148:=addK okL147 [] true (fn:=Tryz.f84) fun h=>O.vNewH h
theorem ok_f25:SP 25 (sStageH.spec oStageH):=by
 refine Sig.sound (E:=en L148 [] true) okL148 (fn:=Tryz.f25) (by kernel_rfl) (by rfl) ?_
 intro x k h
 obtain ⟨a,_⟩:=x
 cases a with
 |none=>exact Eq.mp (α:=V.vStageHN k) (by kernel_rfl) (O.vStageHN h)
 |some a=>exact Eq.mp (α:=V.vStageH a k) (by kernel_rfl) (O.vStageH h)
def L149:LS:=(25,sStageH.spec oStageH)::L148
theorem okL149:OKL L149:=Env.OK.cons okL148 (fn:=Tryz.f25) (by kernel_rfl) (by kernel_rfl) (by kernel_rfl) ok_f25
theorem ok_f32:SP 32 (sWaitsH.spec oWaitsH):=by
 refine Sig.sound (E:=en L149 [] true) okL149 (fn:=Tryz.f32) (by kernel_rfl) (by rfl) ?_
 intro x k h
 obtain ⟨a,s,_⟩:=x
 cases a with
 |none=>exact Eq.mp (α:=V.vWaitsHN s k) (by kernel_rfl) (O.vWaitsHN h)
 |some a=>exact Eq.mp (α:=V.vWaitsH a s k) (by kernel_rfl) (O.vWaitsH h)
def L150:LS:=(32,sWaitsH.spec oWaitsH)::L149
theorem okL150:OKL L150:=Env.OK.cons okL149 (fn:=Tryz.f32) (by kernel_rfl) (by kernel_rfl) (by kernel_rfl) ok_f32
def L151:LS:=(131,sSkipH.spec oSkipH)::L150
theorem okL151:OKL L151:=addK okL150 [(0,lSkipH)] true (fn:=Tryz.f131) fun h=>O.vSkipH h
def L152:LS:=(89,sPartsH.spec oPartsH)::L151
theorem okL152:OKL L152:=addK okL151 [] true (fn:=Tryz.f89) fun h=>O.vPartsH h
def L153:LS:=(90,sGiveH.spec oGiveH)::L152
theorem okL153:OKL L153:=addK okL152 [] true (fn:=Tryz.f90) fun h=>O.vGiveH h
theorem ok_f29a:SP 29 (sStepH.spec oStepH):=Sig.sound (E:=en L153 [] true) okL153 (fn:=Tryz.f29) (by kernel_rfl) (by rfl) fun ⟨a,c,s,_⟩ k h=>Eq.mp (α:=V.vStepH a c s k) (by kernel_rfl) (O.vStepH h)
theorem ok_f29:SP 29 (nilSpec (sStepH.spec oStepH) (inlSpec (en L153 [] false) Tryz.f29)):=by
 exact nil_ok ok_f29a (inl_sound (E:=en L153 [] false) okL153 (fn:=Tryz.f29) (by kernel_rfl))
def L154:LS:=(29,nilSpec (sStepH.spec oStepH) (inlSpec (en L153 [] false) Tryz.f29))::L153
theorem okL154:OKL L154:=Env.OK.cons okL153 (fn:=Tryz.f29) (by kernel_rfl) (by kernel_rfl) (by kernel_rfl) ok_f29
def L155:LS:=(22,sNewO.spec oNewO)::L154
theorem okL155:OKL L155:=addK okL154 [] true (fn:=Tryz.f22) fun h=>O.vNewO h
theorem ok_f53:SP 53 (sReqO.spec oReqO):=by
 refine Sig.sound (E:=en L155 [] true) okL155 (fn:=Tryz.f53) (by kernel_rfl) (by rfl) ?_
 intro x k h
 obtain ⟨o,_⟩:=x
 cases o with
 |none=>exact Eq.mp (α:=V.vReqON k) (by kernel_rfl) (O.vReqON h)
 |some o=>exact Eq.mp (α:=V.vReqO o k) (by kernel_rfl) (O.vReqO h)
def L156:LS:=(53,sReqO.spec oReqO)::L155
theorem okL156:OKL L156:=Env.OK.cons okL155 (fn:=Tryz.f53) (by kernel_rfl) (by kernel_rfl) (by kernel_rfl) ok_f53
theorem ok_f24:SP 24 (sFinO.spec oFinO):=by
 refine Sig.sound (E:=en L156 [] true) okL156 (fn:=Tryz.f24) (by kernel_rfl) (by rfl) ?_
 intro x k h
 obtain ⟨o,_⟩:=x
 cases o with
 |none=>exact Eq.mp (α:=V.vFinON k) (by kernel_rfl) (O.vFinON h)
 |some o=>exact Eq.mp (α:=V.vFinO o k) (by kernel_rfl) (O.vFinO h)
def L157:LS:=(24,sFinO.spec oFinO)::L156
theorem okL157:OKL L157:=Env.OK.cons okL156 (fn:=Tryz.f24) (by kernel_rfl) (by kernel_rfl) (by kernel_rfl) ok_f24
def L158:LS:=(50,sStepsO.spec oStepsO)::L157
theorem okL158:OKL L158:=addK okL157 [] true (fn:=Tryz.f50) fun h=>O.vStepsO h
def L159:LS:=(136,sRightI.spec oRightI)::L158
theorem okL159:OKL L159:=addK okL158 [] true (fn:=Tryz.f136) fun h=>O.vRightI h
def L160:LS:=(135,sRightI.spec oWrongI)::L159
theorem okL160:OKL L160:=addK okL159 [] true (fn:=Tryz.f135) fun h=>O.vWrongI h
def L161:LS:=(171,(sIdxF 135).spec (oIdxF 135))::L160
theorem okL161:OKL L161:=addK okL160 [(2,lIdxF 135)] true (fn:=Tryz.f171) fun h=>O.vIdxF h
def L162:LS:=(134,(sConF 135).spec (oConF 135))::L161
theorem okL162:OKL L162:=addK okL161 [] true (fn:=Tryz.f134) fun h=>O.vConF h
def L163:LS:=(137,sCloneI.spec oCloneI)::L162
theorem okL163:OKL L163:=addK okL162 [] true (fn:=Tryz.f137) fun h=>O.vCloneI h
def L164:LS:=(140,sCloneX.spec oCloneX)::L163
theorem okL164:OKL L164:=addK okL163 [] true (fn:=Tryz.f140) fun h=>O.vCloneX h
def L165:LS:=(172,sSpanI.spec oSpanI)::L164
theorem okL165:OKL L165:=addK okL164 [] true (fn:=Tryz.f172) fun h=>O.vSpanI h
def L166:LS:=(174,sEarl.spec oEarl)::L165
theorem okL166:OKL L166:=addK okL165 [(7,lEarl)] true (fn:=Tryz.f174) fun h=>O.vEarl h
def L167:LS:=(97,sNewPl.spec oNewPl)::L166
theorem okL167:OKL L167:=addK okL166 [] true (fn:=Tryz.f97) fun h=>O.vNewPl h
def L168:LS:=(138,sNonePl.spec oNonePl)::L167
theorem okL168:OKL L168:=addK okL167 [] true (fn:=Tryz.f138) fun h=>O.vNonePl h
def L169:LS:=(99,sLeftPl.spec oLeftPl)::L168
theorem okL169:OKL L169:=addK okL168 [] true (fn:=Tryz.f99) fun h=>O.vLeftPl h
def L170:LS:=(139,sOnePl.spec oOnePl)::L169
theorem okL170:OKL L170:=addK okL169 [] true (fn:=Tryz.f139) fun h=>O.vOnePl h
def L171:LS:=(98,sNextPl.spec oNextPl)::L170
theorem okL171:OKL L171:=addK okL170 [(4,lNextPl)] true (fn:=Tryz.f98) fun h=>O.vNextPl h
def L172:LS:=(100,sChoPl.spec oChoPl)::L171
theorem okL172:OKL L172:=addK okL171 [] true (fn:=Tryz.f100) fun h=>O.vChoPl h
def L173:LS:=(41,sPlanA.spec oPlanA)::L172
theorem okL173:OKL L173:=addK okL172 [] true (fn:=Tryz.f41) fun h=>O.vPlanA h
theorem ok_f18a:SP 18 (packSpec 0 3 (sPass.spec oPass)):=by
 refine Sig.soundP 0 3 (E:=en L173 [(8,lPass)] true) okL173 (fn:=Tryz.f18) (by kernel_rfl) (by rfl) ?_
 intro x k h
 obtain ⟨s,n,_⟩:=x
 refine Eq.mp (α:=V.vPass s n k) ?_ (O.vPass h)
 kernel_rfl
theorem ok_f18:SP 18 (nilSpec (packSpec 0 3 (sPass.spec oPass)) (inlSpec (en L173 [(8,lPass)] false) Tryz.f18)):=by
 exact nil_ok ok_f18a (inl_sound (E:=en L173 [(8,lPass)] false) okL173 (fn:=Tryz.f18) (by kernel_rfl))
def L174:LS:=(18,nilSpec (packSpec 0 3 (sPass.spec oPass)) (inlSpec (en L173 [(8,lPass)] false) Tryz.f18))::L173
theorem okL174:OKL L174:=Env.OK.cons okL173 (fn:=Tryz.f18) (by kernel_rfl) (by kernel_rfl) (by kernel_rfl) ok_f18
end
end Go.Proofs.YtidfnpddheobdaaGreatDoor.core
