import Derived.Test.YtidfnpddheobdaaGreatDoorAxCoreA1
import Derived.Test.YtidfnpddheobdaaGreatDoorAxO49
import Derived.KernelRfl
set_option linter.all false
namespace Go.Proofs.YtidfnpddheobdaaGreatDoor.core
open Go.Ax Go.Ax.Sp
set_option linter.unusedVariables false
set_option maxRecDepth 1000000
noncomputable section
theorem ok_f56a:SP 56 (sStarts.spec oStarts):=Sig.sound (E:=en L174 [(7,lStarts)] true) okL174 (fn:=Tryz.f56) (by kernel_rfl) (by rfl) fun ⟨s,_⟩ k h=>Eq.mp (α:=V.vStarts s k) (by kernel_rfl) (O.vStarts h)
theorem ok_f56:SP 56 (nilSpec (sStarts.spec oStarts) (inlSpec (en L174 [(7,lStarts)] false) Tryz.f56)):=by
 exact nil_ok ok_f56a (inl_sound (E:=en L174 [(7,lStarts)] false) okL174 (fn:=Tryz.f56) (by kernel_rfl))
def L175:LS:=(56,nilSpec (sStarts.spec oStarts) (inlSpec (en L174 [(7,lStarts)] false) Tryz.f56))::L174
theorem okL175:OKL L175:=Env.OK.cons okL174 (fn:=Tryz.f56) (by kernel_rfl) (by kernel_rfl) (by kernel_rfl) ok_f56
def L176:LS:=(57,sStarts.spec oStarts)::L175
theorem okL176:OKL L176:=addK okL175 [(6,lStartL)] true (fn:=Tryz.f57) fun h=>O.vStartL h
theorem ok_f60a:SP 60 (sEmptyF.spec oEmptyF):=Sig.sound (E:=en L176 [(8,lEmptyF1),(13,lEmptyF2)] true) okL176 (fn:=Tryz.f60) (by kernel_rfl) (by rfl) fun ⟨s,_⟩ k h=>Eq.mp (α:=V.vEmptyF s k) (by kernel_rfl) (O.vEmptyF h)
theorem ok_f60:SP 60 (nilSpec (sEmptyF.spec oEmptyF) (inlSpec (en L176 [(8,lEmptyF1),(13,lEmptyF2)] false) Tryz.f60)):=by
 exact nil_ok ok_f60a (inl_sound (E:=en L176 [(8,lEmptyF1),(13,lEmptyF2)] false) okL176 (fn:=Tryz.f60) (by kernel_rfl))
def L177:LS:=(60,nilSpec (sEmptyF.spec oEmptyF) (inlSpec (en L176 [(8,lEmptyF1),(13,lEmptyF2)] false) Tryz.f60))::L176
theorem okL177:OKL L177:=Env.OK.cons okL176 (fn:=Tryz.f60) (by kernel_rfl) (by kernel_rfl) (by kernel_rfl) ok_f60
def L178:LS:=(110,sWhat.spec oWhat)::L177
theorem okL178:OKL L178:=addK okL177 [(8,lWhat)] true (fn:=Tryz.f110) fun h=>O.vWhat h
theorem ok_f55:SP 55 (sYes.spec oYes):=by
 refine Sig.sound (E:=en L178 [] true) okL178 (fn:=Tryz.f55) (by kernel_rfl) (by rfl) ?_
 intro u k h
 refine Eq.mp (α:=V.vAwakeF u k) ?_ (O.vAwakeF h)
 kernel_rfl
def L179:LS:=(55,sYes.spec oYes)::L178
theorem okL179:OKL L179:=Env.OK.cons okL178 (fn:=Tryz.f55) (by kernel_rfl) (by kernel_rfl) (by kernel_rfl) ok_f55
end
end Go.Proofs.YtidfnpddheobdaaGreatDoor.core
