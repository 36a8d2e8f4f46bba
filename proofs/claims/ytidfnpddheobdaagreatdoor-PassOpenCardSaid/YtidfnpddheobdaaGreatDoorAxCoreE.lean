import Derived.Test.YtidfnpddheobdaaGreatDoorAxCoreA2
import Derived.Test.YtidfnpddheobdaaGreatDoorAxO45
import Derived.KernelRfl
set_option linter.all false
namespace Go.Proofs.YtidfnpddheobdaaGreatDoor.core
open Go.Ax Go.Ax.Sp
set_option linter.unusedVariables false
set_option maxRecDepth 1000000
noncomputable section
def L176:LS:=(35,sSettle.spec oSettle)::L175
theorem okL176:OKL L176:=addK okL175 [(2,lSettle)] true (fn:=Tryz.f35) fun h=>O.vSettle h
theorem ok_f36a:SP 36 (sOpenP.spec oOpenP):=Sig.sound (E:=en L176 [(5,lOpenP)] true) okL176 (fn:=Tryz.f36) (by kernel_rfl) (by rfl) fun ⟨s,_⟩ k h=>Eq.mp (α:=V.vOpenP s k) (by kernel_rfl) (O.vOpenP h)
theorem ok_f36:SP 36 (nilSpec (sOpenP.spec oOpenP) (inlSpec (en L176 [(5,lOpenP)] false) Tryz.f36)):=by
 exact nil_ok ok_f36a (inl_sound (E:=en L176 [(5,lOpenP)] false) okL176 (fn:=Tryz.f36) (by kernel_rfl))
def L177:LS:=(36,nilSpec (sOpenP.spec oOpenP) (inlSpec (en L176 [(5,lOpenP)] false) Tryz.f36))::L176
theorem okL177:OKL L177:=Env.OK.cons okL176 (fn:=Tryz.f36) (by kernel_rfl) (by kernel_rfl) (by kernel_rfl) ok_f36
theorem ok_f46a:SP 46 (sFirstP.spec oFirstP):=Sig.sound (E:=en L177 [(7,lFirstP)] true) okL177 (fn:=Tryz.f46) (by kernel_rfl) (by rfl) fun ⟨s,n,_⟩ k h=>Eq.mp (α:=V.vFirstP s n k) (by kernel_rfl) (O.vFirstP h)
theorem ok_f46:SP 46 (nilSpec (sFirstP.spec oFirstP) (inlSpec (en L177 [(7,lFirstP)] false) Tryz.f46)):=by
 exact nil_ok ok_f46a (inl_sound (E:=en L177 [(7,lFirstP)] false) okL177 (fn:=Tryz.f46) (by kernel_rfl))
def L178:LS:=(46,nilSpec (sFirstP.spec oFirstP) (inlSpec (en L177 [(7,lFirstP)] false) Tryz.f46))::L177
theorem okL178:OKL L178:=Env.OK.cons okL177 (fn:=Tryz.f46) (by kernel_rfl) (by kernel_rfl) (by kernel_rfl) ok_f46
end
end Go.Proofs.YtidfnpddheobdaaGreatDoor.core
