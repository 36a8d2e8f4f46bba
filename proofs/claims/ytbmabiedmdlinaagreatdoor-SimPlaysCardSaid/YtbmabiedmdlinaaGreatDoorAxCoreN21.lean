import Derived.Test.YtbmabiedmdlinaaGreatDoorAxCoreN20
import Derived.Test.YtbmabiedmdlinaaGreatDoorAxO57
import Derived.KernelRfl
set_option linter.all false
namespace Go.Proofs.YtbmabiedmdlinaaGreatDoor.core
open Go.Ax Go.Ax.Sp
set_option linter.unusedVariables false
set_option maxRecDepth 1000000
noncomputable section
def L165:LS:=(137,sCmpE.spec oCmpE)::L164
theorem okL165:OKL L165:=addK okL164 [] false (fn:=Tryz.f137) fun h=>O.vCmpE h
def L166:LS:=(226,(sInsE 137).spec (oInsE 137))::L165
theorem okL166:OKL L166:=addK okL165 [(1,lIns1E 137),(4,lIns2E 137)] false (fn:=Tryz.f226) fun h=>O.vInsE h
def L167:LS:=(256,(sSwapRE 137).spec (oSwapRE 137))::L166
theorem okL167:OKL L167:=addK okL166 [(1,lSwapRE)] false (fn:=Tryz.f256) fun h=>O.vSwapRE h
def L168:LS:=(246,(sSwapRE 137).spec (oRotE 137))::L167
theorem okL168:OKL L168:=addK okL167 [(2,lRotE 137)] false (fn:=Tryz.f246) fun h=>O.vRotE h
theorem ok_f227r (n:Nat):SP 227 ((sSwapRE 137).spec (oSymE 137 n)):=by
 induction n with
 |zero=>
  refine Sig.sound (E:=en L168 [(3,lSy1E 137),(9,lSy2E),(15,lSy3E 137),(21,lSy4E),(33,lSy5E 137)] false) okL168 (fn:=Tryz.f227) (by kernel_rfl) (by rfl) ?_
  intro x k h
  exact absurd h.1.2.2.1 (Nat.not_lt_zero _)
 |succ n ih=>
  refine Sig.sound (E:=(en ((227,(sSwapRE 137).spec (oSymE 137 n))::L168) [(3,lSy1E 137),(9,lSy2E),(15,lSy3E 137),(21,lSy4E),(33,lSy5E 137)] false)) (Env.OK.cons okL168 (fn:=Tryz.f227) (by kernel_rfl) (by kernel_rfl) (by kernel_rfl) ih) (fn:=Tryz.f227) (by kernel_rfl) (by rfl) ?_
  intro x k h
  obtain ⟨l,a,b,m,_,_⟩:=x
  refine Eq.mp (α:=V.vSymE n l a b m k) ?_ (O.vSymE h)
  kernel_rfl
theorem ok_f227:SP 227 ((sSwapRE 137).spec (oSymE 137 1099511627777)):=by
 exact ok_f227r 1099511627777
def L169:LS:=(227,(sSwapRE 137).spec (oSymE 137 1099511627777))::L168
theorem okL169:OKL L169:=Env.OK.cons okL168 (fn:=Tryz.f227) (by kernel_rfl) (by kernel_rfl) (by kernel_rfl) ok_f227
def L170:LS:=(183,(sStabE 137).spec (oStabE 137))::L169
theorem okL170:OKL L170:=addK okL169 [(2,lSt1E 137),(7,lSt2E 137),(9,lSt1E 137)] false (fn:=Tryz.f183) fun h=>O.vStabE h
def L171:LS:=(136,(sSortE 137).spec (oSortE 137))::L170
theorem okL171:OKL L171:=addK okL170 [] false (fn:=Tryz.f136) fun h=>O.vSortE h
def L172:LS:=(135,sCloneE.spec oCloneE)::L171
theorem okL172:OKL L172:=addK okL171 [] false (fn:=Tryz.f135) fun h=>O.vCloneE h
theorem ok_f76:SP 76 (sSortS.spec oSortS):=Sig.sound (E:=en L172 [] false) okL172 (fn:=Tryz.f76) (by kernel_rfl) (by rfl) fun ⟨l,_⟩ k h=>Eq.mp (α:=V.vSortS l k) (by kernel_rfl) (O.vSortS h)
def L173:LS:=(76,sSortS.spec oSortS)::L172
theorem okL173:OKL L173:=Env.OK.cons okL172 (fn:=Tryz.f76) (by kernel_rfl) (by kernel_rfl) (by kernel_rfl) ok_f76
end
end Go.Proofs.YtbmabiedmdlinaaGreatDoor.core
