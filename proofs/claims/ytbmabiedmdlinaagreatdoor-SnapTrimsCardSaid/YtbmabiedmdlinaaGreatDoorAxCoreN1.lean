import Derived.Test.YtbmabiedmdlinaaGreatDoorAxCoreN
import Derived.Test.YtbmabiedmdlinaaGreatDoorAxV22
import Derived.Test.YtbmabiedmdlinaaGreatDoorAxO40
import Derived.KernelRfl
set_option linter.all false
namespace Go.Proofs.YtbmabiedmdlinaaGreatDoor.core
open Go.Ax Go.Ax.Sp
set_option linter.unusedVariables false
set_option maxRecDepth 1000000
noncomputable section
def L127:LS:=(91,sOfL.spec oOfL)::L126
theorem okL127:OKL L127:=addK okL126 [(3,lOfL)] true (fn:=Tryz.f91) fun h=>O.vOfL h
def L128:LS:=(92,sEvery.spec oEvery)::L127
theorem okL128:OKL L128:=addK okL127 [] true (fn:=Tryz.f92) fun h=>O.vEvery h
def L129:LS:=(22,sNeeds.spec oNeeds)::L128
theorem okL129:OKL L129:=addK okL128 [] true (fn:=Tryz.f22) fun h=>O.vNeeds h
def L130:LS:=(95,sNextL.spec oNextL)::L129
theorem okL130:OKL L130:=addK okL129 [(2,lNextL)] true (fn:=Tryz.f95) fun h=>O.vNextL h
def L131:LS:=(27,sLenL.spec oLenL)::L130
theorem okL131:OKL L131:=addK okL130 [(3,lLenL)] true (fn:=Tryz.f27) fun h=>O.vLenL h
def L132:LS:=(94,sOwnL.spec oOwnL)::L131
theorem okL132:OKL L132:=addK okL131 [] true (fn:=Tryz.f94) fun h=>O.vOwnL h
def L133:LS:=(109,sHeldL.spec oHeldL)::L132
theorem okL133:OKL L133:=addK okL132 [(3,lHeldL)] true (fn:=Tryz.f109) fun h=>O.vHeldL h
def L134:LS:=(44,sTryL.spec oTryL)::L133
theorem okL134:OKL L134:=addK okL133 [] true (fn:=Tryz.f44) fun h=>O.vTryL h
def L135:LS:=(45,sTryL.spec oUnlockL)::L134
theorem okL135:OKL L135:=addK okL134 [] true (fn:=Tryz.f45) fun h=>O.vUnlockL h
def L136:LS:=(28,sIdleL.spec oIdleL)::L135
theorem okL136:OKL L136:=addK okL135 [] true (fn:=Tryz.f28) fun h=>O.vIdleL h
def L137:LS:=(86,sNewH.spec oNewH)::L136
theorem okL137:OKL L137:=addK okL136 [] true (fn:=Tryz.f86) fun h=>O.vNewH h
theorem ok_f93:SP 93 (sStageH.spec oStageH):=by
 refine Sig.sound (E:=en L137 [] true) okL137 (fn:=Tryz.f93) (by kernel_rfl) (by rfl) ?_
 intro x k h
 obtain ⟨a,_⟩:=x
 cases a with
 |none=>exact Eq.mp (α:=V.vStageHN k) (by kernel_rfl) (O.vStageHN h)
 |some a=>exact Eq.mp (α:=V.vStageH a k) (by kernel_rfl) (O.vStageH h)
def L138:LS:=(93,sStageH.spec oStageH)::L137
theorem okL138:OKL L138:=Env.OK.cons okL137 (fn:=Tryz.f93) (by kernel_rfl) (by kernel_rfl) (by kernel_rfl) ok_f93
theorem ok_f24:SP 24 (sWaitsH.spec oWaitsH):=by
 refine Sig.sound (E:=en L138 [] true) okL138 (fn:=Tryz.f24) (by kernel_rfl) (by rfl) ?_
 intro x k h
 obtain ⟨a,s,_⟩:=x
 cases a with
 |none=>exact Eq.mp (α:=V.vWaitsHN s k) (by kernel_rfl) (O.vWaitsHN h)
 |some a=>exact Eq.mp (α:=V.vWaitsH a s k) (by kernel_rfl) (O.vWaitsH h)
def L139:LS:=(24,sWaitsH.spec oWaitsH)::L138
theorem okL139:OKL L139:=Env.OK.cons okL138 (fn:=Tryz.f24) (by kernel_rfl) (by kernel_rfl) (by kernel_rfl) ok_f24
def L140:LS:=(167,sSkipH.spec oSkipH)::L139
theorem okL140:OKL L140:=addK okL139 [(0,lSkipH)] true (fn:=Tryz.f167) fun h=>O.vSkipH h
def L141:LS:=(96,sPartsH.spec oPartsH)::L140
theorem okL141:OKL L141:=addK okL140 [] true (fn:=Tryz.f96) fun h=>O.vPartsH h
def L142:LS:=(97,sGiveH.spec oGiveH)::L141
theorem okL142:OKL L142:=addK okL141 [] true (fn:=Tryz.f97) fun h=>O.vGiveH h
theorem ok_f25a:SP 25 (sStepH.spec oStepH):=Sig.sound (E:=en L142 [] true) okL142 (fn:=Tryz.f25) (by kernel_rfl) (by rfl) fun ⟨a,c,s,_⟩ k h=>Eq.mp (α:=V.vStepH a c s k) (by kernel_rfl) (O.vStepH h)
theorem ok_f25:SP 25 (nilSpec (sStepH.spec oStepH) (inlSpec (en L142 [] false) Tryz.f25)):=by
 exact nil_ok ok_f25a (inl_sound (E:=en L142 [] false) okL142 (fn:=Tryz.f25) (by kernel_rfl))
def L143:LS:=(25,nilSpec (sStepH.spec oStepH) (inlSpec (en L142 [] false) Tryz.f25))::L142
theorem okL143:OKL L143:=Env.OK.cons okL142 (fn:=Tryz.f25) (by kernel_rfl) (by kernel_rfl) (by kernel_rfl) ok_f25
def L144:LS:=(18,sNewO.spec oNewO)::L143
theorem okL144:OKL L144:=addK okL143 [] true (fn:=Tryz.f18) fun h=>O.vNewO h
theorem ok_f30:SP 30 (sReqO.spec oReqO):=by
 refine Sig.sound (E:=en L144 [] true) okL144 (fn:=Tryz.f30) (by kernel_rfl) (by rfl) ?_
 intro x k h
 obtain ⟨o,_⟩:=x
 cases o with
 |none=>exact Eq.mp (α:=V.vReqON k) (by kernel_rfl) (O.vReqON h)
 |some o=>exact Eq.mp (α:=V.vReqO o k) (by kernel_rfl) (O.vReqO h)
def L145:LS:=(30,sReqO.spec oReqO)::L144
theorem okL145:OKL L145:=Env.OK.cons okL144 (fn:=Tryz.f30) (by kernel_rfl) (by kernel_rfl) (by kernel_rfl) ok_f30
theorem ok_f23:SP 23 (sFinO.spec oFinO):=by
 refine Sig.sound (E:=en L145 [] true) okL145 (fn:=Tryz.f23) (by kernel_rfl) (by rfl) ?_
 intro x k h
 obtain ⟨o,_⟩:=x
 cases o with
 |none=>exact Eq.mp (α:=V.vFinON k) (by kernel_rfl) (O.vFinON h)
 |some o=>exact Eq.mp (α:=V.vFinO o k) (by kernel_rfl) (O.vFinO h)
def L146:LS:=(23,sFinO.spec oFinO)::L145
theorem okL146:OKL L146:=Env.OK.cons okL145 (fn:=Tryz.f23) (by kernel_rfl) (by kernel_rfl) (by kernel_rfl) ok_f23
def L147:LS:=(26,sStepsO.spec oStepsO)::L146
theorem okL147:OKL L147:=addK okL146 [] true (fn:=Tryz.f26) fun h=>O.vStepsO h
def L148:LS:=(218,sRightI.spec oRightI)::L147
theorem okL148:OKL L148:=addK okL147 [] true (fn:=Tryz.f218) fun h=>O.vRightI h
def L149:LS:=(217,sRightI.spec oWrongI)::L148
theorem okL149:OKL L149:=addK okL148 [] true (fn:=Tryz.f217) fun h=>O.vWrongI h
def L150:LS:=(240,(sIdxF 217).spec (oIdxF 217))::L149
theorem okL150:OKL L150:=addK okL149 [(2,lIdxF 217)] true (fn:=Tryz.f240) fun h=>O.vIdxF h
def L151:LS:=(216,(sConF 217).spec (oConF 217))::L150
theorem okL151:OKL L151:=addK okL150 [] true (fn:=Tryz.f216) fun h=>O.vConF h
def L152:LS:=(219,sCloneI.spec oCloneI)::L151
theorem okL152:OKL L152:=addK okL151 [] true (fn:=Tryz.f219) fun h=>O.vCloneI h
def L153:LS:=(222,sCloneX.spec oCloneX)::L152
theorem okL153:OKL L153:=addK okL152 [] true (fn:=Tryz.f222) fun h=>O.vCloneX h
def L154:LS:=(241,sSpanI.spec oSpanI)::L153
theorem okL154:OKL L154:=addK okL153 [] true (fn:=Tryz.f241) fun h=>O.vSpanI h
def L155:LS:=(242,sEarl.spec oEarl)::L154
theorem okL155:OKL L155:=addK okL154 [(7,lEarl)] true (fn:=Tryz.f242) fun h=>O.vEarl h
def L156:LS:=(170,sNewPl.spec oNewPl)::L155
theorem okL156:OKL L156:=addK okL155 [] true (fn:=Tryz.f170) fun h=>O.vNewPl h
def L157:LS:=(220,sNonePl.spec oNonePl)::L156
theorem okL157:OKL L157:=addK okL156 [] true (fn:=Tryz.f220) fun h=>O.vNonePl h
def L158:LS:=(172,sLeftPl.spec oLeftPl)::L157
theorem okL158:OKL L158:=addK okL157 [] true (fn:=Tryz.f172) fun h=>O.vLeftPl h
def L159:LS:=(221,sOnePl.spec oOnePl)::L158
theorem okL159:OKL L159:=addK okL158 [] true (fn:=Tryz.f221) fun h=>O.vOnePl h
def L160:LS:=(171,sNextPl.spec oNextPl)::L159
theorem okL160:OKL L160:=addK okL159 [(4,lNextPl)] true (fn:=Tryz.f171) fun h=>O.vNextPl h
def L161:LS:=(173,sChoPl.spec oChoPl)::L160
theorem okL161:OKL L161:=addK okL160 [] true (fn:=Tryz.f173) fun h=>O.vChoPl h
def L162:LS:=(110,sPlanA.spec oPlanA)::L161
theorem okL162:OKL L162:=addK okL161 [] true (fn:=Tryz.f110) fun h=>O.vPlanA h
theorem ok_f46a:SP 46 (packSpec 0 3 (sPass.spec oPass)):=by
 refine Sig.soundP 0 3 (E:=en L162 [(8,lPass)] true) okL162 (fn:=Tryz.f46) (by kernel_rfl) (by rfl) ?_
 intro x k h
 obtain ⟨s,n,_⟩:=x
 refine Eq.mp (α:=V.vPass s n k) ?_ (O.vPass h)
 kernel_rfl
theorem ok_f46:SP 46 (nilSpec (packSpec 0 3 (sPass.spec oPass)) (inlSpec (en L162 [(8,lPass)] false) Tryz.f46)):=by
 exact nil_ok ok_f46a (inl_sound (E:=en L162 [(8,lPass)] false) okL162 (fn:=Tryz.f46) (by kernel_rfl))
def L163:LS:=(46,nilSpec (packSpec 0 3 (sPass.spec oPass)) (inlSpec (en L162 [(8,lPass)] false) Tryz.f46))::L162
theorem okL163:OKL L163:=Env.OK.cons okL162 (fn:=Tryz.f46) (by kernel_rfl) (by kernel_rfl) (by kernel_rfl) ok_f46
end
end Go.Proofs.YtbmabiedmdlinaaGreatDoor.core
