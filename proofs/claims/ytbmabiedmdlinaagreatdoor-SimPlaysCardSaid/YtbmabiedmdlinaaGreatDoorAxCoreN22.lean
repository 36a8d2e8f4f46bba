import Derived.Test.YtbmabiedmdlinaaGreatDoorAxCoreN21
import Derived.Test.YtbmabiedmdlinaaGreatDoorAxO59
import Derived.KernelRfl
set_option linter.all false
namespace Go.Proofs.YtbmabiedmdlinaaGreatDoor.core
open Go.Ax Go.Ax.Sp
set_option linter.unusedVariables false
set_option maxRecDepth 1000000
noncomputable section
def L174:LS:=(72,sSumS.spec oSumS)::L173
theorem okL174:OKL L174:=addK okL173 [(3,lSumS)] true (fn:=Tryz.f72) fun h=>O.vSumS h
def L175:LS:=(82,sRightE.spec oRightE)::L174
theorem okL175:OKL L175:=addK okL174 [] true (fn:=Tryz.f82) fun h=>O.vRightE h
def L176:LS:=(188,sReqE.spec oReqE)::L175
theorem okL176:OKL L176:=addK okL175 [] true (fn:=Tryz.f188) fun h=>O.vReqE h
def L177:LS:=(74,sNewSi.spec oNewSi)::L176
theorem okL177:OKL L177:=addK okL176 [(7,lNewSi)] true (fn:=Tryz.f74) fun h=>O.vNewSi h
theorem ok_f142a:SP 142 (sNoneSi.spec oNoneSi):=Sig.sound (E:=en L177 [] true) okL177 (fn:=Tryz.f142) (by kernel_rfl) (by rfl) fun ⟨s,_⟩ k h=>Eq.mp (α:=V.vNoneSi s k) (by kernel_rfl) (O.vNoneSi h)
theorem ok_f142:SP 142 (nilSpec (sNoneSi.spec oNoneSi) (inlSpec (en L177 [] false) Tryz.f142)):=by
 exact nil_ok ok_f142a (inl_sound (E:=en L177 [] false) okL177 (fn:=Tryz.f142) (by kernel_rfl))
def L178:LS:=(142,nilSpec (sNoneSi.spec oNoneSi) (inlSpec (en L177 [] false) Tryz.f142))::L177
theorem okL178:OKL L178:=Env.OK.cons okL177 (fn:=Tryz.f142) (by kernel_rfl) (by kernel_rfl) (by kernel_rfl) ok_f142
def L179:LS:=(186,sDoneSi.spec oDoneSi)::L178
theorem okL179:OKL L179:=addK okL178 [] true (fn:=Tryz.f186) fun h=>O.vDoneSi h
def L180:LS:=(143,sNextSi.spec oNextSi)::L179
theorem okL180:OKL L180:=addK okL179 [(5,lNextSi1),(10,lNextSi2)] true (fn:=Tryz.f143) fun h=>O.vNextSi h
def L181:LS:=(145,sArr.spec oArr)::L180
theorem okL181:OKL L181:=addK okL180 [(0,lArr)] true (fn:=Tryz.f145) fun h=>O.vArr h
def L182:LS:=(144,sArr.spec oLea)::L181
theorem okL182:OKL L182:=addK okL181 [(1,lLea)] true (fn:=Tryz.f144) fun h=>O.vLea h
theorem ok_f78a:SP 78 (sStepSi.spec oStepSi):=Sig.sound (E:=en L182 [] true) okL182 (fn:=Tryz.f78) (by kernel_rfl) (by rfl) fun ⟨s,_⟩ k h=>Eq.mp (α:=V.vStepSi s k) (by kernel_rfl) (O.vStepSi h)
theorem ok_f78:SP 78 (nilSpec (sStepSi.spec oStepSi) (inlSpec (en L182 [] false) Tryz.f78)):=by
 exact nil_ok ok_f78a (inl_sound (E:=en L182 [] false) okL182 (fn:=Tryz.f78) (by kernel_rfl))
def L183:LS:=(78,nilSpec (sStepSi.spec oStepSi) (inlSpec (en L182 [] false) Tryz.f78))::L182
theorem okL183:OKL L183:=Env.OK.cons okL182 (fn:=Tryz.f78) (by kernel_rfl) (by kernel_rfl) (by kernel_rfl) ok_f78
theorem ok_f80:SP 80 (inlSpec (en L183 [] false) Tryz.f80):=by
 exact inl_sound (E:=en L183 [] false) okL183 (fn:=Tryz.f80) (by kernel_rfl)
def L184:LS:=(80,inlSpec (en L183 [] false) Tryz.f80)::L183
theorem okL184:OKL L184:=Env.OK.cons okL183 (fn:=Tryz.f80) (by kernel_rfl) (by kernel_rfl) (by kernel_rfl) ok_f80
theorem ok_f81a:SP 81 (packSpec 0 4 (sRunSi.spec oRunSi)):=by
 refine Sig.soundP 0 4 (E:=en L184 [(4,lRunSi)] true) okL184 (fn:=Tryz.f81) (by kernel_rfl) (by rfl) ?_
 intro x k h
 obtain ⟨s,n,_⟩:=x
 refine Eq.mp (α:=V.vRunSi s n k) ?_ (O.vRunSi h)
 kernel_rfl
theorem ok_f81:SP 81 (nilSpec (packSpec 0 4 (sRunSi.spec oRunSi)) (inlSpec (en L184 [(4,lRunSi)] false) Tryz.f81)):=by
 exact nil_ok ok_f81a (inl_sound (E:=en L184 [(4,lRunSi)] false) okL184 (fn:=Tryz.f81) (by kernel_rfl))
def L185:LS:=(81,nilSpec (packSpec 0 4 (sRunSi.spec oRunSi)) (inlSpec (en L184 [(4,lRunSi)] false) Tryz.f81))::L184
theorem okL185:OKL L185:=Env.OK.cons okL184 (fn:=Tryz.f81) (by kernel_rfl) (by kernel_rfl) (by kernel_rfl) ok_f81
end
end Go.Proofs.YtbmabiedmdlinaaGreatDoor.core
