import Derived.Test.YtbmabiedmdlinaaGreatDoorAxCoreN1
import Derived.Test.YtbmabiedmdlinaaGreatDoorAxO49
import Derived.KernelRfl
set_option linter.all false
namespace Go.Proofs.YtbmabiedmdlinaaGreatDoor.core
open Go.Ax Go.Ax.Sp
set_option linter.unusedVariables false
set_option maxRecDepth 1000000
noncomputable section
theorem ok_f66a:SP 66 (sStarts.spec oStarts):=Sig.sound (E:=en L163 [(7,lStarts)] true) okL163 (fn:=Tryz.f66) (by kernel_rfl) (by rfl) fun ⟨s,_⟩ k h=>Eq.mp (α:=V.vStarts s k) (by kernel_rfl) (O.vStarts h)
theorem ok_f66:SP 66 (nilSpec (sStarts.spec oStarts) (inlSpec (en L163 [(7,lStarts)] false) Tryz.f66)):=by
 exact nil_ok ok_f66a (inl_sound (E:=en L163 [(7,lStarts)] false) okL163 (fn:=Tryz.f66) (by kernel_rfl))
def L164:LS:=(66,nilSpec (sStarts.spec oStarts) (inlSpec (en L163 [(7,lStarts)] false) Tryz.f66))::L163
theorem okL164:OKL L164:=Env.OK.cons okL163 (fn:=Tryz.f66) (by kernel_rfl) (by kernel_rfl) (by kernel_rfl) ok_f66
def L165:LS:=(70,sStarts.spec oStarts)::L164
theorem okL165:OKL L165:=addK okL164 [(6,lStartL)] true (fn:=Tryz.f70) fun h=>O.vStartL h
theorem ok_f134a:SP 134 (sEmptyF.spec oEmptyF):=Sig.sound (E:=en L165 [(8,lEmptyF1),(13,lEmptyF2)] true) okL165 (fn:=Tryz.f134) (by kernel_rfl) (by rfl) fun ⟨s,_⟩ k h=>Eq.mp (α:=V.vEmptyF s k) (by kernel_rfl) (O.vEmptyF h)
theorem ok_f134:SP 134 (nilSpec (sEmptyF.spec oEmptyF) (inlSpec (en L165 [(8,lEmptyF1),(13,lEmptyF2)] false) Tryz.f134)):=by
 exact nil_ok ok_f134a (inl_sound (E:=en L165 [(8,lEmptyF1),(13,lEmptyF2)] false) okL165 (fn:=Tryz.f134) (by kernel_rfl))
def L166:LS:=(134,nilSpec (sEmptyF.spec oEmptyF) (inlSpec (en L165 [(8,lEmptyF1),(13,lEmptyF2)] false) Tryz.f134))::L165
theorem okL166:OKL L166:=Env.OK.cons okL165 (fn:=Tryz.f134) (by kernel_rfl) (by kernel_rfl) (by kernel_rfl) ok_f134
def L167:LS:=(68,sWhat.spec oWhat)::L166
theorem okL167:OKL L167:=addK okL166 [(8,lWhat)] true (fn:=Tryz.f68) fun h=>O.vWhat h
theorem ok_f65:SP 65 (sYes.spec oYes):=by
 refine Sig.sound (E:=en L167 [] true) okL167 (fn:=Tryz.f65) (by kernel_rfl) (by rfl) ?_
 intro u k h
 refine Eq.mp (α:=V.vAwakeF u k) ?_ (O.vAwakeF h)
 kernel_rfl
def L168:LS:=(65,sYes.spec oYes)::L167
theorem okL168:OKL L168:=Env.OK.cons okL167 (fn:=Tryz.f65) (by kernel_rfl) (by kernel_rfl) (by kernel_rfl) ok_f65
end
end Go.Proofs.YtbmabiedmdlinaaGreatDoor.core
