import Derived.Test.YtbmabiedmdlinaaGreatDoorAxCoreN30
import Derived.Test.YtbmabiedmdlinaaGreatDoorAxO71
import Derived.KernelRfl
set_option linter.all false
namespace Go.Proofs.YtbmabiedmdlinaaGreatDoor.core
open Go.Ax Go.Ax.Sp
set_option linter.unusedVariables false
set_option maxRecDepth 1000000
noncomputable section
theorem ok_f49a:SP 49 (sBytesD.spec oBytes0):=Sig.sound (E:=en L167 [(6,lBytes0)] true) okL167 (fn:=Tryz.f49) (by kernel_rfl) (by rfl) fun ⟨d,_⟩ k h=>Eq.mp (α:=V.vBytes0 d k) (by kernel_rfl) (O.vBytes0 h)
theorem ok_f49:SP 49 (nilSpec (sBytesD.spec oBytes0) (inlSpec (en L167 [(6,lBytes0)] false) Tryz.f49)):=by
 exact nil_ok ok_f49a (inl_sound (E:=en L167 [(6,lBytes0)] false) okL167 (fn:=Tryz.f49) (by kernel_rfl))
def L168:LS:=(49,nilSpec (sBytesD.spec oBytes0) (inlSpec (en L167 [(6,lBytes0)] false) Tryz.f49))::L167
theorem okL168:OKL L168:=Env.OK.cons okL167 (fn:=Tryz.f49) (by kernel_rfl) (by kernel_rfl) (by kernel_rfl) ok_f49
theorem ok_f48:SP 48 (inlSpec (en L168 [] false) Tryz.f48):=by
 exact inl_sound (E:=en L168 [] false) okL168 (fn:=Tryz.f48) (by kernel_rfl)
def L169:LS:=(48,inlSpec (en L168 [] false) Tryz.f48)::L168
theorem okL169:OKL L169:=Env.OK.cons okL168 (fn:=Tryz.f48) (by kernel_rfl) (by kernel_rfl) (by kernel_rfl) ok_f48
def L170:LS:=(50,sYes.spec oYes)::L169
theorem okL170:OKL L170:=addK okL169 [] true (fn:=Tryz.f50) fun h=>O.vAwakeSn h
theorem ok_f7:SP 7 (sSnapN.spec oSnapN):=Sig.sound (E:=en L170 [(13,lSnapN)] true) okL170 (fn:=Tryz.f7) (by kernel_rfl) (by rfl) fun ⟨n,_⟩ k h=>Eq.mp (α:=V.vSnapN n k) (by kernel_rfl) (O.vSnapN h)
def L171:LS:=(7,sSnapN.spec oSnapN)::L170
theorem okL171:OKL L171:=Env.OK.cons okL170 (fn:=Tryz.f7) (by kernel_rfl) (by kernel_rfl) (by kernel_rfl) ok_f7
end
end Go.Proofs.YtbmabiedmdlinaaGreatDoor.core
