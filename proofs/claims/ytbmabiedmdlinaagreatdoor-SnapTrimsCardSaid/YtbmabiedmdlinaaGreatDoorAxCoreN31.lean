import Derived.Test.YtbmabiedmdlinaaGreatDoorAxCoreN30
import Derived.Test.YtbmabiedmdlinaaGreatDoorAxO72
import Derived.KernelRfl
set_option linter.all false
namespace Go.Proofs.YtbmabiedmdlinaaGreatDoor.core
open Go.Ax Go.Ax.Sp
set_option linter.unusedVariables false
set_option maxRecDepth 1000000
noncomputable section
theorem ok_f49a:SP 49 (sBytesD.spec oBytes0):=Sig.sound (E:=en L167 [(6,lBytes0)] true) okL167 (fn:=Tryz.f49) (by kernel_rfl) (by rfl) fun ⟨d,_⟩ k h=>Eq.mp (α:=V.vBytes0 d k) (by kernel_rfl) (O.vBytes0 h)
theorem ok_f49:SP 49 (nilSpec (sBytesD.spec oBytes0) (inlSpec (en L167 [(6,lBytes0)] false) Tryz.f49)):=by
 exact nil_ok ok_f49a (inl_sound (E:=en L167 [(6,lBytes0)] false) okL167 (fn:=Tryz.f49) (by kernel_rfl))
def L168:LS:=(49,nilSpec (sBytesD.spec oBytes0) (inlSpec (en L167 [(6,lBytes0)] false) Tryz.f49))::L167
theorem okL168:OKL L168:=Env.OK.cons okL167 (fn:=Tryz.f49) (by kernel_rfl) (by kernel_rfl) (by kernel_rfl) ok_f49
def L169:LS:=(50,sYes.spec oYes)::L168
theorem okL169:OKL L169:=addK okL168 [] true (fn:=Tryz.f50) fun h=>O.vAwakeSn h
def L170:LS:=(116,sSameJ.spec oSameJ)::L169
theorem okL170:OKL L170:=addK okL169 [(4,lEqJ)] true (fn:=Tryz.f116) fun h=>O.vEqJ h
def L171:LS:=(117,sSameS.spec oSameS)::L170
theorem okL171:OKL L171:=addK okL170 [(4,lEqS)] true (fn:=Tryz.f117) fun h=>O.vEqS h
def L172:LS:=(56,sSameA.spec oSameA)::L171
theorem okL172:OKL L172:=addK okL171 [(6,lSameA)] true (fn:=Tryz.f56) fun h=>O.vSameA h
def L173:LS:=(53,sDeed40.spec oDeed40)::L172
theorem okL173:OKL L173:=addK okL172 [] true (fn:=Tryz.f53) fun h=>O.vDeed40 h
def L174:LS:=(54,sClean40.spec oClean40)::L173
theorem okL174:OKL L174:=addK okL173 [] true (fn:=Tryz.f54) fun h=>O.vClean40 h
def L175:LS:=(115,sClean40.spec oClean40)::L174
theorem okL175:OKL L175:=addK okL174 [] true (fn:=Tryz.f115) fun h=>O.vClean41 h
theorem ok_f55:SP 55 (sTrim.spec oTrim):=Sig.sound (E:=en L175 [(3,lTrim)] true) okL175 (fn:=Tryz.f55) (by kernel_rfl) (by rfl) fun ⟨l,_⟩ k h=>Eq.mp (α:=V.vTrim l k) (by kernel_rfl) (O.vTrim h)
def L176:LS:=(55,sTrim.spec oTrim)::L175
theorem okL176:OKL L176:=Env.OK.cons okL175 (fn:=Tryz.f55) (by kernel_rfl) (by kernel_rfl) (by kernel_rfl) ok_f55
end
end Go.Proofs.YtbmabiedmdlinaaGreatDoor.core
