import Derived.Test.YtnoinchifbckcaaGreatDoorAxP8
import Derived.Test.YtnoinchifbckcaaGreatDoorAxO27
import Derived.Test.YtnoinchifbckcaaGreatDoorAxO22
import Derived.Test.YtnoinchifbckcaaGreatDoorAxO21
import Derived.Test.YtnoinchifbckcaaGreatDoorAxI
import Derived.Test.YtnoinchifbckcaaGreatDoorProg
import Derived.Shelf.Lays7
import Derived.KernelRfl
set_option linter.all false
namespace Go.Proofs
open Go.Shelf
def Tryz.lays29_ren:Go.Shelf.Ren:=⟨fun |29=>287 |n=>n,fun |22=>70 |3=>3 |4=>4 |25=>244 |54=>351 |0=>0 |5=>5 |n=>n,fun |1=>0 |n=>n⟩
theorem Tryz.lays29:Go.Proofs.Lays7.n29 Tryz.prog Tryz.lays29_ren:={
 mixed:=by kernel_rfl
 f29:=Tryz.func287.trans (congrArg some (by kernel_rfl))
 t0:=Tryz.underlying0
 a0:=Tryz.isAgg0
 z0:=Tryz.sizeOf0
 v0:=Tryz.zeroValue0
 i0:=by kernel_rfl
 t3:=Tryz.underlying3
 a3:=Tryz.isAgg3
 z3:=Tryz.sizeOf3
 v3:=Tryz.zeroValue3
 i3:=by kernel_rfl
 t4:=Tryz.underlying4
 a4:=Tryz.isAgg4
 z4:=Tryz.sizeOf4
 v4:=Tryz.zeroValue4
 i4:=by kernel_rfl
 t5:=Tryz.underlying5
 a5:=Tryz.isAgg5
 z5:=Tryz.sizeOf5
 v5:=Tryz.zeroValue5
 i5:=by kernel_rfl
 t22:=Tryz.underlying70
 a22:=Tryz.isAgg70
 z22:=Tryz.sizeOf70
 v22:=Tryz.zeroValue70
 i22:=by kernel_rfl
 t25:=Tryz.underlying244
 a25:=Tryz.isAgg244
 z25:=Tryz.sizeOf244
 v25:=Tryz.zeroValue244
 i25:=by kernel_rfl
 t54:=Tryz.underlying351
 a54:=Tryz.isAgg351
 z54:=Tryz.sizeOf351
 g1:=by kernel_rfl}
end Go.Proofs
namespace Go.Proofs.YtnoinchifbckcaaGreatDoor.core
open Go.Ax Go.Ax.Sp
set_option linter.unusedVariables false
set_option maxRecDepth 1000000
noncomputable instance surr:Surr:=⟨True,[(0,tzTab)]⟩
noncomputable def ek0:List (TypeId × EK):=[(2,.i64),(3,.i64),(4,.bool),(5,.u8),(9,.str),(33,.req),(35,.choice),(37,.deed),(65,.reply),(70,.u64),(72,.job),(84,.item),(158,.step),(226,.span)]
theorem okE0:Env.OK {P:=Tryz.prog,spec:=[],ek:=ek0}:=Env.OK.nil
noncomputable def L0:List (FuncId × SpecT):=[]
theorem okL0:Env.OK {P:=Tryz.prog,spec:=L0,ek:=ek0}:=okE0
theorem ok_f210:SpecOK Tryz.prog 210 ((sIdxI).spec (oIdxI)):=by
 refine Sig.sound (E:={P:=Tryz.prog,spec:=L0,ek:=ek0,loops:=[(2,lIdxI)],n0:=0}) okL0 (fn:=Tryz.f210) (by kernel_rfl) (by rfl) ?_
 intro x k h
 obtain ⟨l,n,_⟩:=x
 refine Eq.mp (α:=V.vIdxI l n k) ?_ (O.vIdxI h)
 kernel_rfl
noncomputable def L1:List (FuncId × SpecT):=(210,(sIdxI).spec (oIdxI))::L0
theorem okL1:Env.OK {P:=Tryz.prog,spec:=L1,ek:=ek0}:=Env.OK.cons okL0 (fn:=Tryz.f210) (by kernel_rfl) (by kernel_rfl) (by kernel_rfl) ok_f210
theorem ok_f164:SpecOK Tryz.prog 164 ((sConI).spec (oConI)):=by
 refine Sig.sound (E:={P:=Tryz.prog,spec:=L1,ek:=ek0,loops:=[],n0:=0}) okL1 (fn:=Tryz.f164) (by kernel_rfl) (by rfl) ?_
 intro x k h
 obtain ⟨l,n,_⟩:=x
 refine Eq.mp (α:=V.vConI l n k) ?_ (O.vConI h)
 kernel_rfl
noncomputable def L2:List (FuncId × SpecT):=(164,(sConI).spec (oConI))::L1
theorem okL2:Env.OK {P:=Tryz.prog,spec:=L2,ek:=ek0}:=Env.OK.cons okL1 (fn:=Tryz.f164) (by kernel_rfl) (by kernel_rfl) (by kernel_rfl) ok_f164
theorem ok_f253:SpecOK Tryz.prog 253 ((sNum1).spec (oNaN)):=by
 refine Sig.sound (E:={P:=Tryz.prog,spec:=L2,ek:=ek0,loops:=[],n0:=0}) okL2 (fn:=Tryz.f253) (by kernel_rfl) (by rfl) ?_
 intro x k h
 obtain ⟨n,_⟩:=x
 refine Eq.mp (α:=V.vNaN n k) ?_ (O.vNaN h)
 kernel_rfl
noncomputable def L3:List (FuncId × SpecT):=(253,(sNum1).spec (oNaN))::L2
theorem okL3:Env.OK {P:=Tryz.prog,spec:=L3,ek:=ek0}:=Env.OK.cons okL2 (fn:=Tryz.f253) (by kernel_rfl) (by kernel_rfl) (by kernel_rfl) ok_f253
theorem ok_f209:SpecOK Tryz.prog 209 ((sNum2).spec (oCmpI)):=by
 refine Sig.sound (E:={P:=Tryz.prog,spec:=L3,ek:=ek0,loops:=[],n0:=0}) okL3 (fn:=Tryz.f209) (by kernel_rfl) (by rfl) ?_
 intro x k h
 obtain ⟨n,m,_⟩:=x
 refine Eq.mp (α:=V.vCmpI n m k) ?_ (O.vCmpI h)
 kernel_rfl
noncomputable def L4:List (FuncId × SpecT):=(209,(sNum2).spec (oCmpI))::L3
theorem okL4:Env.OK {P:=Tryz.prog,spec:=L4,ek:=ek0}:=Env.OK.cons okL3 (fn:=Tryz.f209) (by kernel_rfl) (by kernel_rfl) (by kernel_rfl) ok_f209
theorem ok_f208:SpecOK Tryz.prog 208 ((sOrI).spec (oOrI)):=by
 refine Sig.sound (E:={P:=Tryz.prog,spec:=L4,ek:=ek0,loops:=[(3,lOrI)],n0:=0}) okL4 (fn:=Tryz.f208) (by kernel_rfl) (by rfl) ?_
 intro x k h
 obtain ⟨l,_⟩:=x
 refine Eq.mp (α:=V.vOrI l k) ?_ (O.vOrI h)
 kernel_rfl
noncomputable def L5:List (FuncId × SpecT):=(208,(sOrI).spec (oOrI))::L4
theorem okL5:Env.OK {P:=Tryz.prog,spec:=L5,ek:=ek0}:=Env.OK.cons okL4 (fn:=Tryz.f208) (by kernel_rfl) (by kernel_rfl) (by kernel_rfl) ok_f208
theorem ok_f270:SpecOK Tryz.prog 270 ((sOrI).spec (oLeastI)):=by
 refine Sig.sound (E:={P:=Tryz.prog,spec:=L5,ek:=ek0,loops:=[(3,lLeastI)],n0:=0}) okL5 (fn:=Tryz.f270) (by kernel_rfl) (by rfl) ?_
 intro x k h
 obtain ⟨l,_⟩:=x
 refine Eq.mp (α:=V.vLeastI l k) ?_ (O.vLeastI h)
 kernel_rfl
noncomputable def L6:List (FuncId × SpecT):=(270,(sOrI).spec (oLeastI))::L5
theorem okL6:Env.OK {P:=Tryz.prog,spec:=L6,ek:=ek0}:=Env.OK.cons okL5 (fn:=Tryz.f270) (by kernel_rfl) (by kernel_rfl) (by kernel_rfl) ok_f270
theorem ok_f190:SpecOK Tryz.prog 190 ((sSet1).spec (oOnes)):=by
 refine Sig.sound (E:={P:=Tryz.prog,spec:=L6,ek:=ek0,loops:=[],n0:=0}) okL6 (fn:=Tryz.f190) (by kernel_rfl) (by rfl) ?_
 intro x k h
 obtain ⟨x,_⟩:=x
 refine Eq.mp (α:=V.vOnes x k) ?_ (O.vOnes h)
 kernel_rfl
noncomputable def L7:List (FuncId × SpecT):=(190,(sSet1).spec (oOnes))::L6
theorem okL7:Env.OK {P:=Tryz.prog,spec:=L7,ek:=ek0}:=Env.OK.cons okL6 (fn:=Tryz.f190) (by kernel_rfl) (by kernel_rfl) (by kernel_rfl) ok_f190
theorem ok_f287:SpecOK Tryz.prog 287 ((sSet1).spec (oTZ)):=by
 exact tz_spec Tryz.lays29 rfl (List.mem_singleton.2 rfl)
noncomputable def L8:List (FuncId × SpecT):=(287,(sSet1).spec (oTZ))::L7
theorem okL8:Env.OK {P:=Tryz.prog,spec:=L8,ek:=ek0}:=Env.OK.cons okL7 (fn:=Tryz.f287) (by kernel_rfl) (by kernel_rfl) (by kernel_rfl) ok_f287
theorem ok_f147:SpecOK Tryz.prog 147 ((sSet1).spec (oOnes)):=by
 refine Sig.sound (E:={P:=Tryz.prog,spec:=L8,ek:=ek0,loops:=[],n0:=0}) okL8 (fn:=Tryz.f147) (by kernel_rfl) (by rfl) ?_
 intro x k h
 obtain ⟨x,_⟩:=x
 refine Eq.mp (α:=V.vLenS x k) ?_ (O.vLenS h)
 kernel_rfl
noncomputable def L9:List (FuncId × SpecT):=(147,(sSet1).spec (oOnes))::L8
theorem okL9:Env.OK {P:=Tryz.prog,spec:=L9,ek:=ek0}:=Env.OK.cons okL8 (fn:=Tryz.f147) (by kernel_rfl) (by kernel_rfl) (by kernel_rfl) ok_f147
theorem ok_f279:SpecOK Tryz.prog 279 ((sSet1).spec (oLow)):=by
 refine Sig.sound (E:={P:=Tryz.prog,spec:=L9,ek:=ek0,loops:=[],n0:=0}) okL9 (fn:=Tryz.f279) (by kernel_rfl) (by rfl) ?_
 intro x k h
 obtain ⟨x,_⟩:=x
 refine Eq.mp (α:=V.vLowS x k) ?_ (O.vLowS h)
 kernel_rfl
noncomputable def L10:List (FuncId × SpecT):=(279,(sSet1).spec (oLow))::L9
theorem okL10:Env.OK {P:=Tryz.prog,spec:=L10,ek:=ek0}:=Env.OK.cons okL9 (fn:=Tryz.f279) (by kernel_rfl) (by kernel_rfl) (by kernel_rfl) ok_f279
theorem ok_f149:SpecOK Tryz.prog 149 ((sHas).spec (oHas)):=by
 refine Sig.sound (E:={P:=Tryz.prog,spec:=L10,ek:=ek0,loops:=[],n0:=0}) okL10 (fn:=Tryz.f149) (by kernel_rfl) (by rfl) ?_
 intro x k h
 obtain ⟨x,n,_⟩:=x
 refine Eq.mp (α:=V.vHas x n k) ?_ (O.vHas h)
 kernel_rfl
noncomputable def L11:List (FuncId × SpecT):=(149,(sHas).spec (oHas))::L10
theorem okL11:Env.OK {P:=Tryz.prog,spec:=L11,ek:=ek0}:=Env.OK.cons okL10 (fn:=Tryz.f149) (by kernel_rfl) (by kernel_rfl) (by kernel_rfl) ok_f149
theorem ok_f267:SpecOK Tryz.prog 267 ((sWith).spec (oWith)):=by
 refine Sig.sound (E:={P:=Tryz.prog,spec:=L11,ek:=ek0,loops:=[],n0:=0}) okL11 (fn:=Tryz.f267) (by kernel_rfl) (by rfl) ?_
 intro x k h
 obtain ⟨x,n,_⟩:=x
 refine Eq.mp (α:=V.vWith x n k) ?_ (O.vWith h)
 kernel_rfl
noncomputable def L12:List (FuncId × SpecT):=(267,(sWith).spec (oWith))::L11
theorem okL12:Env.OK {P:=Tryz.prog,spec:=L12,ek:=ek0}:=Env.OK.cons okL11 (fn:=Tryz.f267) (by kernel_rfl) (by kernel_rfl) (by kernel_rfl) ok_f267
theorem ok_f269:SpecOK Tryz.prog 269 ((sWith).spec (oWithout)):=by
 refine Sig.sound (E:={P:=Tryz.prog,spec:=L12,ek:=ek0,loops:=[],n0:=0}) okL12 (fn:=Tryz.f269) (by kernel_rfl) (by rfl) ?_
 intro x k h
 obtain ⟨x,n,_⟩:=x
 refine Eq.mp (α:=V.vWithout x n k) ?_ (O.vWithout h)
 kernel_rfl
noncomputable def L13:List (FuncId × SpecT):=(269,(sWith).spec (oWithout))::L12
theorem okL13:Env.OK {P:=Tryz.prog,spec:=L13,ek:=ek0}:=Env.OK.cons okL12 (fn:=Tryz.f269) (by kernel_rfl) (by kernel_rfl) (by kernel_rfl) ok_f269
theorem ok_f143:SpecOK Tryz.prog 143 ((sAllS).spec (oAllS)):=by
 refine Sig.sound (E:={P:=Tryz.prog,spec:=L13,ek:=ek0,loops:=[],n0:=0}) okL13 (fn:=Tryz.f143) (by kernel_rfl) (by rfl) ?_
 intro x k h
 obtain ⟨n,_⟩:=x
 refine Eq.mp (α:=V.vAllS n k) ?_ (O.vAllS h)
 kernel_rfl
noncomputable def L14:List (FuncId × SpecT):=(143,(sAllS).spec (oAllS))::L13
theorem okL14:Env.OK {P:=Tryz.prog,spec:=L14,ek:=ek0}:=Env.OK.cons okL13 (fn:=Tryz.f143) (by kernel_rfl) (by kernel_rfl) (by kernel_rfl) ok_f143
theorem ok_f264:SpecOK Tryz.prog 264 ((sFirst).spec (oFirst)):=by
 refine Sig.sound (E:={P:=Tryz.prog,spec:=L14,ek:=ek0,loops:=[(5,lFirst)],n0:=0}) okL14 (fn:=Tryz.f264) (by kernel_rfl) (by rfl) ?_
 intro x k h
 obtain ⟨x,n,_⟩:=x
 refine Eq.mp (α:=V.vFirst x n k) ?_ (O.vFirst h)
 kernel_rfl
noncomputable def L15:List (FuncId × SpecT):=(264,(sFirst).spec (oFirst))::L14
theorem okL15:Env.OK {P:=Tryz.prog,spec:=L15,ek:=ek0}:=Env.OK.cons okL14 (fn:=Tryz.f264) (by kernel_rfl) (by kernel_rfl) (by kernel_rfl) ok_f264
theorem ok_f89:SpecOK Tryz.prog 89 ((sCloneT).spec (oCloneT)):=by
 refine Sig.sound (E:={P:=Tryz.prog,spec:=L15,ek:=ek0,loops:=[],n0:=0}) okL15 (fn:=Tryz.f89) (by kernel_rfl) (by rfl) ?_
 intro x k h
 obtain ⟨l,_⟩:=x
 refine Eq.mp (α:=V.vCloneT l k) ?_ (O.vCloneT h)
 kernel_rfl
noncomputable def L16:List (FuncId × SpecT):=(89,(sCloneT).spec (oCloneT))::L15
theorem okL16:Env.OK {P:=Tryz.prog,spec:=L16,ek:=ek0}:=Env.OK.cons okL15 (fn:=Tryz.f89) (by kernel_rfl) (by kernel_rfl) (by kernel_rfl) ok_f89
theorem ok_f88:SpecOK Tryz.prog 88 ((sNoneP).spec (oNoneP)):=by
 refine Sig.sound (E:={P:=Tryz.prog,spec:=L16,ek:=ek0,loops:=[],n0:=0}) okL16 (fn:=Tryz.f88) (by kernel_rfl) (by rfl) ?_
 intro x k h
 obtain ⟨p,_⟩:=x
 cases p with
 |none=>exact Eq.mp (α:=V.vNonePN k) (by kernel_rfl) (O.vNonePN h)
 |some p=>exact Eq.mp (α:=V.vNoneP p k) (by kernel_rfl) (O.vNoneP h)
noncomputable def L17:List (FuncId × SpecT):=(88,(sNoneP).spec (oNoneP))::L16
theorem okL17:Env.OK {P:=Tryz.prog,spec:=L17,ek:=ek0}:=Env.OK.cons okL16 (fn:=Tryz.f88) (by kernel_rfl) (by kernel_rfl) (by kernel_rfl) ok_f88
theorem ok_f40:SpecOK Tryz.prog 40 ((sPInt).spec (oNow)):=by
 refine Sig.sound (E:={P:=Tryz.prog,spec:=L17,ek:=ek0,loops:=[],n0:=0}) okL17 (fn:=Tryz.f40) (by kernel_rfl) (by rfl) ?_
 intro x k h
 obtain ⟨p,_⟩:=x
 refine Eq.mp (α:=V.vNow p k) ?_ (O.vNow h)
 kernel_rfl
noncomputable def L18:List (FuncId × SpecT):=(40,(sPInt).spec (oNow))::L17
theorem okL18:Env.OK {P:=Tryz.prog,spec:=L18,ek:=ek0}:=Env.OK.cons okL17 (fn:=Tryz.f40) (by kernel_rfl) (by kernel_rfl) (by kernel_rfl) ok_f40
theorem ok_f24:SpecOK Tryz.prog 24 ((sPSteps).spec (oPSteps)):=by
 refine Sig.sound (E:={P:=Tryz.prog,spec:=L18,ek:=ek0,loops:=[],n0:=0}) okL18 (fn:=Tryz.f24) (by kernel_rfl) (by rfl) ?_
 intro x k h
 obtain ⟨p,_⟩:=x
 refine Eq.mp (α:=V.vPSteps p k) ?_ (O.vPSteps h)
 kernel_rfl
noncomputable def L19:List (FuncId × SpecT):=(24,(sPSteps).spec (oPSteps))::L18
theorem okL19:Env.OK {P:=Tryz.prog,spec:=L19,ek:=ek0}:=Env.OK.cons okL18 (fn:=Tryz.f24) (by kernel_rfl) (by kernel_rfl) (by kernel_rfl) ok_f24
theorem ok_f92:SpecOK Tryz.prog 92 ((sPCopy).spec (oPCopy)):=by
 refine Sig.sound (E:={P:=Tryz.prog,spec:=L19,ek:=ek0,loops:=[],n0:=0}) okL19 (fn:=Tryz.f92) (by kernel_rfl) (by rfl) ?_
 intro x k h
 obtain ⟨p,_⟩:=x
 refine Eq.mp (α:=V.vPCopy p k) ?_ (O.vPCopy h)
 kernel_rfl
noncomputable def L20:List (FuncId × SpecT):=(92,(sPCopy).spec (oPCopy))::L19
theorem okL20:Env.OK {P:=Tryz.prog,spec:=L20,ek:=ek0}:=Env.OK.cons okL19 (fn:=Tryz.f92) (by kernel_rfl) (by kernel_rfl) (by kernel_rfl) ok_f92
theorem ok_f229:SpecOK Tryz.prog 229 ((sCmpS).spec (oCmpS)):=by
 refine Sig.sound (E:={P:=Tryz.prog,spec:=L20,ek:=ek0,loops:=[],n0:=0}) okL20 (fn:=Tryz.f229) (by kernel_rfl) (by rfl) ?_
 intro x k h
 obtain ⟨s,t,_⟩:=x
 refine Eq.mp (α:=V.vCmpS s t k) ?_ (O.vCmpS h)
 kernel_rfl
noncomputable def L21:List (FuncId × SpecT):=(229,(sCmpS).spec (oCmpS))::L20
theorem okL21:Env.OK {P:=Tryz.prog,spec:=L21,ek:=ek0}:=Env.OK.cons okL20 (fn:=Tryz.f229) (by kernel_rfl) (by kernel_rfl) (by kernel_rfl) ok_f229
theorem ok_f228:SpecOK Tryz.prog 228 ((sBin 229).spec (oBin 229)):=by
 refine Sig.sound (E:={P:=Tryz.prog,spec:=L21,ek:=ek0,loops:=[(3,lBin 229)],n0:=0}) okL21 (fn:=Tryz.f228) (by kernel_rfl) (by rfl) ?_
 intro x k h
 obtain ⟨l,t,_,_⟩:=x
 refine Eq.mp (α:=V.vBin l t k) ?_ (O.vBin h)
 kernel_rfl
noncomputable def L22:List (FuncId × SpecT):=(228,(sBin 229).spec (oBin 229))::L21
theorem okL22:Env.OK {P:=Tryz.prog,spec:=L22,ek:=ek0}:=Env.OK.cons okL21 (fn:=Tryz.f228) (by kernel_rfl) (by kernel_rfl) (by kernel_rfl) ok_f228
theorem ok_f189:SpecOK Tryz.prog 189 ((sIndex).spec (oIndex)):=by
 refine Sig.sound (E:={P:=Tryz.prog,spec:=L22,ek:=ek0,loops:=[],n0:=0}) okL22 (fn:=Tryz.f189) (by kernel_rfl) (by rfl) ?_
 intro x k h
 obtain ⟨p,t,_⟩:=x
 refine Eq.mp (α:=V.vIndex p t k) ?_ (O.vIndex h)
 kernel_rfl
noncomputable def L23:List (FuncId × SpecT):=(189,(sIndex).spec (oIndex))::L22
theorem okL23:Env.OK {P:=Tryz.prog,spec:=L23,ek:=ek0}:=Env.OK.cons okL22 (fn:=Tryz.f189) (by kernel_rfl) (by kernel_rfl) (by kernel_rfl) ok_f189
theorem ok_f245:SpecOK Tryz.prog 245 ((sIndex).spec (oFree)):=by
 refine Sig.sound (E:={P:=Tryz.prog,spec:=L23,ek:=ek0,loops:=[],n0:=0}) okL23 (fn:=Tryz.f245) (by kernel_rfl) (by rfl) ?_
 intro x k h
 obtain ⟨p,t,_⟩:=x
 refine Eq.mp (α:=V.vFreeP p t k) ?_ (O.vFreeP h)
 kernel_rfl
noncomputable def L24:List (FuncId × SpecT):=(245,(sIndex).spec (oFree))::L23
theorem okL24:Env.OK {P:=Tryz.prog,spec:=L24,ek:=ek0}:=Env.OK.cons okL23 (fn:=Tryz.f245) (by kernel_rfl) (by kernel_rfl) (by kernel_rfl) ok_f245
theorem ok_f146:SpecOK Tryz.prog 146 ((sLeast).spec (oLeast)):=by
 refine Sig.sound (E:={P:=Tryz.prog,spec:=L24,ek:=ek0,loops:=[(8,lLeast)],n0:=0}) okL24 (fn:=Tryz.f146) (by kernel_rfl) (by rfl) ?_
 intro x k h
 obtain ⟨p,t,u,_⟩:=x
 refine Eq.mp (α:=V.vLeast p t u k) ?_ (O.vLeast h)
 kernel_rfl
noncomputable def L25:List (FuncId × SpecT):=(146,(sLeast).spec (oLeast))::L24
theorem okL25:Env.OK {P:=Tryz.prog,spec:=L25,ek:=ek0}:=Env.OK.cons okL24 (fn:=Tryz.f146) (by kernel_rfl) (by kernel_rfl) (by kernel_rfl) ok_f146
theorem ok_f225:SpecOK Tryz.prog 225 ((sLeast).spec (oMost)):=by
 refine Sig.sound (E:={P:=Tryz.prog,spec:=L25,ek:=ek0,loops:=[(3,lMost)],n0:=0}) okL25 (fn:=Tryz.f225) (by kernel_rfl) (by rfl) ?_
 intro x k h
 obtain ⟨p,t,u,_⟩:=x
 refine Eq.mp (α:=V.vMost p t u k) ?_ (O.vMost h)
 kernel_rfl
noncomputable def L26:List (FuncId × SpecT):=(225,(sLeast).spec (oMost))::L25
theorem okL26:Env.OK {P:=Tryz.prog,spec:=L26,ek:=ek0}:=Env.OK.cons okL25 (fn:=Tryz.f225) (by kernel_rfl) (by kernel_rfl) (by kernel_rfl) ok_f225
theorem ok_f277:ExtOK Tryz.prog 277 (ovSpec .step):=by
 exact ov_spec (fn:=Tryz.f277) (tS:=50) (tR:=4) (e:=158) (by kernel_rfl) (by kernel_rfl) (by kernel_rfl) (by kernel_rfl) (by kernel_rfl) (by kernel_rfl) (by kernel_rfl)
noncomputable def L27:List (FuncId × SpecT):=(277,ovSpec .step)::L26
theorem okL27:Env.OK {P:=Tryz.prog,spec:=L27,ek:=ek0}:=Env.OK.ext okL26 ok_f277
theorem ok_f261:SpecOK Tryz.prog 261 ((sInsT).spec (oInsT)):=by
 refine Sig.sound (E:={P:=Tryz.prog,spec:=L27,ek:=ek0,loops:=[],n0:=0}) okL27 (fn:=Tryz.f261) (by kernel_rfl) (by rfl) ?_
 intro x k h
 obtain ⟨l,i,s,_⟩:=x
 refine Eq.mp (α:=V.vInsT l i s k) ?_ (O.vInsT h)
 kernel_rfl
noncomputable def L28:List (FuncId × SpecT):=(261,(sInsT).spec (oInsT))::L27
theorem okL28:Env.OK {P:=Tryz.prog,spec:=L28,ek:=ek0}:=Env.OK.cons okL27 (fn:=Tryz.f261) (by kernel_rfl) (by kernel_rfl) (by kernel_rfl) ok_f261
theorem ok_f226:SpecOK Tryz.prog 226 ((sSplit).spec (oSplit)):=by
 refine Sig.sound (E:={P:=Tryz.prog,spec:=L28,ek:=ek0,loops:=[],n0:=0}) okL28 (fn:=Tryz.f226) (by kernel_rfl) (by rfl) ?_
 intro x k h
 obtain ⟨p,t,_⟩:=x
 refine Eq.mp (α:=V.vSplit p t k) ?_ (O.vSplit h)
 kernel_rfl
noncomputable def L29:List (FuncId × SpecT):=(226,(sSplit).spec (oSplit))::L28
theorem okL29:Env.OK {P:=Tryz.prog,spec:=L29,ek:=ek0}:=Env.OK.cons okL28 (fn:=Tryz.f226) (by kernel_rfl) (by kernel_rfl) (by kernel_rfl) ok_f226
theorem ok_f263:SpecOK Tryz.prog 263 ((sSame).spec (oSame)):=by
 refine Sig.sound (E:={P:=Tryz.prog,spec:=L29,ek:=ek0,loops:=[],n0:=0}) okL29 (fn:=Tryz.f263) (by kernel_rfl) (by rfl) ?_
 intro x k h
 obtain ⟨a,b,_⟩:=x
 refine Eq.mp (α:=V.vSame a b k) ?_ (O.vSame h)
 kernel_rfl
noncomputable def L30:List (FuncId × SpecT):=(263,(sSame).spec (oSame))::L29
theorem okL30:Env.OK {P:=Tryz.prog,spec:=L30,ek:=ek0}:=Env.OK.cons okL29 (fn:=Tryz.f263) (by kernel_rfl) (by kernel_rfl) (by kernel_rfl) ok_f263
theorem ok_f262:SpecOK Tryz.prog 262 ((sCompact 263).spec (oCompact 263)):=by
 refine Sig.sound (E:={P:=Tryz.prog,spec:=L30,ek:=ek0,loops:=[(4,lCp1 263),(9,lCp2 263)],n0:=0}) okL30 (fn:=Tryz.f262) (by kernel_rfl) (by rfl) ?_
 intro x k h
 obtain ⟨l,_,_⟩:=x
 refine Eq.mp (α:=V.vCompact l k) ?_ (O.vCompact h)
 kernel_rfl
noncomputable def L31:List (FuncId × SpecT):=(262,(sCompact 263).spec (oCompact 263))::L30
theorem okL31:Env.OK {P:=Tryz.prog,spec:=L31,ek:=ek0}:=Env.OK.cons okL30 (fn:=Tryz.f262) (by kernel_rfl) (by kernel_rfl) (by kernel_rfl) ok_f262
theorem ok_f227:SpecOK Tryz.prog 227 ((sJoin1).spec (oJoin1)):=by
 refine Sig.sound (E:={P:=Tryz.prog,spec:=L31,ek:=ek0,loops:=[],n0:=0}) okL31 (fn:=Tryz.f227) (by kernel_rfl) (by rfl) ?_
 intro x k h
 obtain ⟨p,_⟩:=x
 refine Eq.mp (α:=V.vJoin1 p k) ?_ (O.vJoin1 h)
 kernel_rfl
noncomputable def L32:List (FuncId × SpecT):=(227,(sJoin1).spec (oJoin1))::L31
theorem okL32:Env.OK {P:=Tryz.prog,spec:=L32,ek:=ek0}:=Env.OK.cons okL31 (fn:=Tryz.f227) (by kernel_rfl) (by kernel_rfl) (by kernel_rfl) ok_f227
theorem ok_f188:SpecOK Tryz.prog 188 ((sAdd).spec (oAdd)):=by
 refine Sig.sound (E:={P:=Tryz.prog,spec:=L32,ek:=ek0,loops:=[(14,lAdd)],n0:=0}) okL32 (fn:=Tryz.f188) (by kernel_rfl) (by rfl) ?_
 intro x k h
 obtain ⟨p,t,u,n,_⟩:=x
 refine Eq.mp (α:=V.vAdd p t u n k) ?_ (O.vAdd h)
 kernel_rfl
noncomputable def L33:List (FuncId × SpecT):=(188,(sAdd).spec (oAdd))::L32
theorem okL33:Env.OK {P:=Tryz.prog,spec:=L33,ek:=ek0}:=Env.OK.cons okL32 (fn:=Tryz.f188) (by kernel_rfl) (by kernel_rfl) (by kernel_rfl) ok_f188
theorem ok_f145:SpecOK Tryz.prog 145 ((sRes).spec (oRel)):=by
 refine Sig.sound (E:={P:=Tryz.prog,spec:=L33,ek:=ek0,loops:=[],n0:=0}) okL33 (fn:=Tryz.f145) (by kernel_rfl) (by rfl) ?_
 intro x k h
 obtain ⟨p,s,_⟩:=x
 refine Eq.mp (α:=V.vRel p s k) ?_ (O.vRel h)
 kernel_rfl
noncomputable def L34:List (FuncId × SpecT):=(145,(sRes).spec (oRel))::L33
theorem okL34:Env.OK {P:=Tryz.prog,spec:=L34,ek:=ek0}:=Env.OK.cons okL33 (fn:=Tryz.f145) (by kernel_rfl) (by kernel_rfl) (by kernel_rfl) ok_f145
theorem ok_f195:SpecOK Tryz.prog 195 ((sRes).spec (oRes)):=by
 refine Sig.sound (E:={P:=Tryz.prog,spec:=L34,ek:=ek0,loops:=[],n0:=0}) okL34 (fn:=Tryz.f195) (by kernel_rfl) (by rfl) ?_
 intro x k h
 obtain ⟨p,s,_⟩:=x
 refine Eq.mp (α:=V.vRes p s k) ?_ (O.vRes h)
 kernel_rfl
noncomputable def L35:List (FuncId × SpecT):=(195,(sRes).spec (oRes))::L34
theorem okL35:Env.OK {P:=Tryz.prog,spec:=L35,ek:=ek0}:=Env.OK.cons okL34 (fn:=Tryz.f195) (by kernel_rfl) (by kernel_rfl) (by kernel_rfl) ok_f195
theorem ok_f244:SpecOK Tryz.prog 244 ((sAdv).spec (oAdv)):=by
 refine Sig.sound (E:={P:=Tryz.prog,spec:=L35,ek:=ek0,loops:=[],n0:=0}) okL35 (fn:=Tryz.f244) (by kernel_rfl) (by rfl) ?_
 intro x k h
 obtain ⟨p,t,_⟩:=x
 refine Eq.mp (α:=V.vAdv p t k) ?_ (O.vAdv h)
 kernel_rfl
noncomputable def L36:List (FuncId × SpecT):=(244,(sAdv).spec (oAdv))::L35
theorem okL36:Env.OK {P:=Tryz.prog,spec:=L36,ek:=ek0}:=Env.OK.cons okL35 (fn:=Tryz.f244) (by kernel_rfl) (by kernel_rfl) (by kernel_rfl) ok_f244
theorem ok_f75:SpecOK Tryz.prog 75 ((sNewP).spec (oNewP)):=by
 refine Sig.sound (E:={P:=Tryz.prog,spec:=L36,ek:=ek0,loops:=[],n0:=0}) okL36 (fn:=Tryz.f75) (by kernel_rfl) (by rfl) ?_
 intro x k h
 obtain ⟨n,_⟩:=x
 refine Eq.mp (α:=V.vNewP n k) ?_ (O.vNewP h)
 kernel_rfl
noncomputable def L37:List (FuncId × SpecT):=(75,(sNewP).spec (oNewP))::L36
theorem okL37:Env.OK {P:=Tryz.prog,spec:=L37,ek:=ek0}:=Env.OK.cons okL36 (fn:=Tryz.f75) (by kernel_rfl) (by kernel_rfl) (by kernel_rfl) ok_f75
theorem ok_f87:SpecOK Tryz.prog 87 ((sCloneB).spec (oCloneB)):=by
 refine Sig.sound (E:={P:=Tryz.prog,spec:=L37,ek:=ek0,loops:=[],n0:=0}) okL37 (fn:=Tryz.f87) (by kernel_rfl) (by rfl) ?_
 intro x k h
 obtain ⟨l,_⟩:=x
 refine Eq.mp (α:=V.vCloneB l k) ?_ (O.vCloneB h)
 kernel_rfl
noncomputable def L38:List (FuncId × SpecT):=(87,(sCloneB).spec (oCloneB))::L37
theorem okL38:Env.OK {P:=Tryz.prog,spec:=L38,ek:=ek0}:=Env.OK.cons okL37 (fn:=Tryz.f87) (by kernel_rfl) (by kernel_rfl) (by kernel_rfl) ok_f87
theorem ok_f86:SpecOK Tryz.prog 86 ((sNoneJ).spec (oNoneJ)):=by
 refine Sig.sound (E:={P:=Tryz.prog,spec:=L38,ek:=ek0,loops:=[],n0:=0}) okL38 (fn:=Tryz.f86) (by kernel_rfl) (by rfl) ?_
 intro x k h
 obtain ⟨t,_⟩:=x
 cases t with
 |none=>exact Eq.mp (α:=V.vNoneJN k) (by kernel_rfl) (O.vNoneJN h)
 |some t=>exact Eq.mp (α:=V.vNoneJ t k) (by kernel_rfl) (O.vNoneJ h)
noncomputable def L39:List (FuncId × SpecT):=(86,(sNoneJ).spec (oNoneJ))::L38
theorem okL39:Env.OK {P:=Tryz.prog,spec:=L39,ek:=ek0}:=Env.OK.cons okL38 (fn:=Tryz.f86) (by kernel_rfl) (by kernel_rfl) (by kernel_rfl) ok_f86
theorem ok_f76:SpecOK Tryz.prog 76 ((sNewJ).spec (oNewJ)):=by
 refine Sig.sound (E:={P:=Tryz.prog,spec:=L39,ek:=ek0,loops:=[],n0:=0}) okL39 (fn:=Tryz.f76) (by kernel_rfl) (by rfl) ?_
 intro u k h
 refine Eq.mp (α:=V.vNewJ u k) ?_ (O.vNewJ h)
 kernel_rfl
noncomputable def L40:List (FuncId × SpecT):=(76,(sNewJ).spec (oNewJ))::L39
theorem okL40:Env.OK {P:=Tryz.prog,spec:=L40,ek:=ek0}:=Env.OK.cons okL39 (fn:=Tryz.f76) (by kernel_rfl) (by kernel_rfl) (by kernel_rfl) ok_f76
theorem ok_f23:SpecOK Tryz.prog 23 ((sAllJ).spec (oAllJ)):=by
 refine Sig.sound (E:={P:=Tryz.prog,spec:=L40,ek:=ek0,loops:=[],n0:=0}) okL40 (fn:=Tryz.f23) (by kernel_rfl) (by rfl) ?_
 intro x k h
 obtain ⟨t,_⟩:=x
 refine Eq.mp (α:=V.vAllJ t k) ?_ (O.vAllJ h)
 kernel_rfl
noncomputable def L41:List (FuncId × SpecT):=(23,(sAllJ).spec (oAllJ))::L40
theorem okL41:Env.OK {P:=Tryz.prog,spec:=L41,ek:=ek0}:=Env.OK.cons okL40 (fn:=Tryz.f23) (by kernel_rfl) (by kernel_rfl) (by kernel_rfl) ok_f23
theorem ok_f113:SpecOK Tryz.prog 113 ((sInJ).spec (oInJ)):=by
 refine Sig.sound (E:={P:=Tryz.prog,spec:=L41,ek:=ek0,loops:=[(3,lInJ)],n0:=0}) okL41 (fn:=Tryz.f113) (by kernel_rfl) (by rfl) ?_
 intro x k h
 obtain ⟨t,l,_⟩:=x
 refine Eq.mp (α:=V.vInJ t l k) ?_ (O.vInJ h)
 kernel_rfl
noncomputable def L42:List (FuncId × SpecT):=(113,(sInJ).spec (oInJ))::L41
theorem okL42:Env.OK {P:=Tryz.prog,spec:=L42,ek:=ek0}:=Env.OK.cons okL41 (fn:=Tryz.f113) (by kernel_rfl) (by kernel_rfl) (by kernel_rfl) ok_f113
theorem ok_f163:SpecOK Tryz.prog 163 ((sCmpB).spec (oCmpB)):=by
 refine Sig.sound (E:={P:=Tryz.prog,spec:=L42,ek:=ek0,loops:=[],n0:=0}) okL42 (fn:=Tryz.f163) (by kernel_rfl) (by rfl) ?_
 intro x k h
 obtain ⟨a,b,_⟩:=x
 refine Eq.mp (α:=V.vCmpB a b k) ?_ (O.vCmpB h)
 kernel_rfl
noncomputable def L43:List (FuncId × SpecT):=(163,(sCmpB).spec (oCmpB))::L42
theorem okL43:Env.OK {P:=Tryz.prog,spec:=L43,ek:=ek0}:=Env.OK.cons okL42 (fn:=Tryz.f163) (by kernel_rfl) (by kernel_rfl) (by kernel_rfl) ok_f163
theorem ok_f265:SpecOK Tryz.prog 265 ((sLessB).spec (oLessB)):=by
 refine Sig.sound (E:={P:=Tryz.prog,spec:=L43,ek:=ek0,loops:=[],n0:=0}) okL43 (fn:=Tryz.f265) (by kernel_rfl) (by rfl) ?_
 intro x k h
 obtain ⟨a,b,_⟩:=x
 refine Eq.mp (α:=V.vLessB a b k) ?_ (O.vLessB h)
 kernel_rfl
noncomputable def L44:List (FuncId × SpecT):=(265,(sLessB).spec (oLessB))::L43
theorem okL44:Env.OK {P:=Tryz.prog,spec:=L44,ek:=ek0}:=Env.OK.cons okL43 (fn:=Tryz.f265) (by kernel_rfl) (by kernel_rfl) (by kernel_rfl) ok_f265
theorem ok_f251:SpecOK Tryz.prog 251 ((sInsB 163).spec (oInsB 163)):=by
 refine Sig.sound (E:={P:=Tryz.prog,spec:=L44,ek:=ek0,loops:=[(1,lIns1B 163),(4,lIns2B 163)],n0:=0}) okL44 (fn:=Tryz.f251) (by kernel_rfl) (by rfl) ?_
 intro x k h
 obtain ⟨l,a,b,_,_⟩:=x
 refine Eq.mp (α:=V.vInsB l a b k) ?_ (O.vInsB h)
 kernel_rfl
noncomputable def L45:List (FuncId × SpecT):=(251,(sInsB 163).spec (oInsB 163))::L44
theorem okL45:Env.OK {P:=Tryz.prog,spec:=L45,ek:=ek0}:=Env.OK.cons okL44 (fn:=Tryz.f251) (by kernel_rfl) (by kernel_rfl) (by kernel_rfl) ok_f251
theorem ok_f280:SpecOK Tryz.prog 280 ((sSwapRB 163).spec (oSwapRB 163)):=by
 refine Sig.sound (E:={P:=Tryz.prog,spec:=L45,ek:=ek0,loops:=[(1,lSwapRB)],n0:=0}) okL45 (fn:=Tryz.f280) (by kernel_rfl) (by rfl) ?_
 intro x k h
 obtain ⟨l,a,b,m,_,_⟩:=x
 refine Eq.mp (α:=V.vSwapRB l a b m k) ?_ (O.vSwapRB h)
 kernel_rfl
noncomputable def L46:List (FuncId × SpecT):=(280,(sSwapRB 163).spec (oSwapRB 163))::L45
theorem okL46:Env.OK {P:=Tryz.prog,spec:=L46,ek:=ek0}:=Env.OK.cons okL45 (fn:=Tryz.f280) (by kernel_rfl) (by kernel_rfl) (by kernel_rfl) ok_f280
theorem ok_f272:SpecOK Tryz.prog 272 ((sSwapRB 163).spec (oRotB 163)):=by
 refine Sig.sound (E:={P:=Tryz.prog,spec:=L46,ek:=ek0,loops:=[(2,lRotB 163)],n0:=0}) okL46 (fn:=Tryz.f272) (by kernel_rfl) (by rfl) ?_
 intro x k h
 obtain ⟨l,a,b,m,_,_⟩:=x
 refine Eq.mp (α:=V.vRotB l a b m k) ?_ (O.vRotB h)
 kernel_rfl
noncomputable def L47:List (FuncId × SpecT):=(272,(sSwapRB 163).spec (oRotB 163))::L46
theorem okL47:Env.OK {P:=Tryz.prog,spec:=L47,ek:=ek0}:=Env.OK.cons okL46 (fn:=Tryz.f272) (by kernel_rfl) (by kernel_rfl) (by kernel_rfl) ok_f272
theorem ok_f252r (n:Nat):SpecOK Tryz.prog 252 ((sSwapRB 163).spec (oSymB 163 n)):=by
 induction n with
 |zero=>
  refine Sig.sound (E:={P:=Tryz.prog,spec:=L47,ek:=ek0,loops:=[(3,lSy1B 163),(9,lSy2B),(15,lSy3B 163),(21,lSy4B),(33,lSy5B 163)],n0:=0}) okL47 (fn:=Tryz.f252) (by kernel_rfl) (by rfl) ?_
  intro x k h
  exact absurd h.1.2.2.1 (Nat.not_lt_zero _)
 |succ n ih=>
  refine Sig.sound (E:={P:=Tryz.prog,spec:=(252,(sSwapRB 163).spec (oSymB 163 n))::L47,ek:=ek0,loops:=[(3,lSy1B 163),(9,lSy2B),(15,lSy3B 163),(21,lSy4B),(33,lSy5B 163)],n0:=0}) (Env.OK.cons okL47 (fn:=Tryz.f252) (by kernel_rfl) (by kernel_rfl) (by kernel_rfl) ih) (fn:=Tryz.f252) (by kernel_rfl) (by rfl) ?_
  intro x k h
  obtain ⟨l,a,b,m,_,_⟩:=x
  refine Eq.mp (α:=V.vSymB n l a b m k) ?_ (O.vSymB h)
  kernel_rfl
theorem ok_f252:SpecOK Tryz.prog 252 ((sSwapRB 163).spec (oSymB 163 1099511627777)):=by
 exact ok_f252r 1099511627777
noncomputable def L48:List (FuncId × SpecT):=(252,(sSwapRB 163).spec (oSymB 163 1099511627777))::L47
theorem okL48:Env.OK {P:=Tryz.prog,spec:=L48,ek:=ek0}:=Env.OK.cons okL47 (fn:=Tryz.f252) (by kernel_rfl) (by kernel_rfl) (by kernel_rfl) ok_f252
theorem ok_f207:SpecOK Tryz.prog 207 ((sStabB 163).spec (oStabB 163)):=by
 refine Sig.sound (E:={P:=Tryz.prog,spec:=L48,ek:=ek0,loops:=[(2,lSt1B 163),(7,lSt2B 163),(9,lSt1B 163)],n0:=0}) okL48 (fn:=Tryz.f207) (by kernel_rfl) (by rfl) ?_
 intro x k h
 obtain ⟨l,a,_,_⟩:=x
 refine Eq.mp (α:=V.vStabB l a k) ?_ (O.vStabB h)
 kernel_rfl
noncomputable def L49:List (FuncId × SpecT):=(207,(sStabB 163).spec (oStabB 163))::L48
theorem okL49:Env.OK {P:=Tryz.prog,spec:=L49,ek:=ek0}:=Env.OK.cons okL48 (fn:=Tryz.f207) (by kernel_rfl) (by kernel_rfl) (by kernel_rfl) ok_f207
theorem ok_f162:SpecOK Tryz.prog 162 ((sSortB 163).spec (oSortB 163)):=by
 refine Sig.sound (E:={P:=Tryz.prog,spec:=L49,ek:=ek0,loops:=[],n0:=0}) okL49 (fn:=Tryz.f162) (by kernel_rfl) (by rfl) ?_
 intro x k h
 obtain ⟨l,_,_⟩:=x
 refine Eq.mp (α:=V.vStabFB l k) ?_ (O.vSortB h)
 kernel_rfl
noncomputable def L50:List (FuncId × SpecT):=(162,(sSortB 163).spec (oSortB 163))::L49
theorem okL50:Env.OK {P:=Tryz.prog,spec:=L50,ek:=ek0}:=Env.OK.cons okL49 (fn:=Tryz.f162) (by kernel_rfl) (by kernel_rfl) (by kernel_rfl) ok_f162
theorem ok_f112:SpecOK Tryz.prog 112 ((sOrdS).spec (oOrdS)):=by
 refine Sig.sound (E:={P:=Tryz.prog,spec:=L50,ek:=ek0,loops:=[],n0:=0}) okL50 (fn:=Tryz.f112) (by kernel_rfl) (by rfl) ?_
 intro x k h
 obtain ⟨l,_⟩:=x
 refine Eq.mp (α:=V.vOrdS l k) ?_ (O.vOrdS h)
 kernel_rfl
noncomputable def L51:List (FuncId × SpecT):=(112,(sOrdS).spec (oOrdS))::L50
theorem okL51:Env.OK {P:=Tryz.prog,spec:=L51,ek:=ek0}:=Env.OK.cons okL50 (fn:=Tryz.f112) (by kernel_rfl) (by kernel_rfl) (by kernel_rfl) ok_f112
theorem ok_f45:SpecOK Tryz.prog 45 ((sAllJ).spec (oWaiting)):=by
 refine Sig.sound (E:={P:=Tryz.prog,spec:=L51,ek:=ek0,loops:=[],n0:=0}) okL51 (fn:=Tryz.f45) (by kernel_rfl) (by rfl) ?_
 intro x k h
 obtain ⟨t,_⟩:=x
 refine Eq.mp (α:=V.vWaiting t k) ?_ (O.vWaiting h)
 kernel_rfl
noncomputable def L52:List (FuncId × SpecT):=(45,(sAllJ).spec (oWaiting))::L51
theorem okL52:Env.OK {P:=Tryz.prog,spec:=L52,ek:=ek0}:=Env.OK.cons okL51 (fn:=Tryz.f45) (by kernel_rfl) (by kernel_rfl) (by kernel_rfl) ok_f45
theorem ok_f250:SpecOK Tryz.prog 250 ((sCountsJ).spec (oCountsJ)):=by
 refine Sig.sound (E:={P:=Tryz.prog,spec:=L52,ek:=ek0,loops:=[],n0:=0}) okL52 (fn:=Tryz.f250) (by kernel_rfl) (by rfl) ?_
 intro x k h
 obtain ⟨t,_⟩:=x
 refine Eq.mp (α:=V.vCountsJ t k) ?_ (O.vCountsJ h)
 kernel_rfl
noncomputable def L53:List (FuncId × SpecT):=(250,(sCountsJ).spec (oCountsJ))::L52
theorem okL53:Env.OK {P:=Tryz.prog,spec:=L53,ek:=ek0}:=Env.OK.cons okL52 (fn:=Tryz.f250) (by kernel_rfl) (by kernel_rfl) (by kernel_rfl) ok_f250
theorem ok_f95:SpecOK Tryz.prog 95 ((sGetJ).spec (oGetJ)):=by
 refine Sig.sound (E:={P:=Tryz.prog,spec:=L53,ek:=ek0,loops:=[],n0:=0}) okL53 (fn:=Tryz.f95) (by kernel_rfl) (by rfl) ?_
 intro x k h
 obtain ⟨t,n,_⟩:=x
 refine Eq.mp (α:=V.vGetJ t n k) ?_ (O.vGetJ h)
 kernel_rfl
noncomputable def L54:List (FuncId × SpecT):=(95,(sGetJ).spec (oGetJ))::L53
theorem okL54:Env.OK {P:=Tryz.prog,spec:=L54,ek:=ek0}:=Env.OK.cons okL53 (fn:=Tryz.f95) (by kernel_rfl) (by kernel_rfl) (by kernel_rfl) ok_f95
theorem ok_f232:SpecOK Tryz.prog 232 (inlSpec {P:=Tryz.prog,spec:=L54,ek:=ek0,loops:=[],n0:=0} Tryz.f232):=by
 exact inl_sound (E:={P:=Tryz.prog,spec:=L54,ek:=ek0,loops:=[],n0:=0}) okL54 (fn:=Tryz.f232) (by kernel_rfl)
noncomputable def L55:List (FuncId × SpecT):=(232,inlSpec {P:=Tryz.prog,spec:=L54,ek:=ek0,loops:=[],n0:=0} Tryz.f232)::L54
theorem okL55:Env.OK {P:=Tryz.prog,spec:=L55,ek:=ek0}:=Env.OK.cons okL54 (fn:=Tryz.f232) (by kernel_rfl) (by kernel_rfl) (by kernel_rfl) ok_f232
theorem ok_f237:SpecOK Tryz.prog 237 ((sHoldJ).spec (oHoldJ)):=by
 refine Sig.sound (E:={P:=Tryz.prog,spec:=L55,ek:=ek0,loops:=[],n0:=0}) okL55 (fn:=Tryz.f237) (by kernel_rfl) (by rfl) ?_
 intro x k h
 obtain ⟨t,n,_⟩:=x
 refine Eq.mp (α:=V.vHoldJ t n k) ?_ (O.vHoldJ h)
 kernel_rfl
noncomputable def L56:List (FuncId × SpecT):=(237,(sHoldJ).spec (oHoldJ))::L55
theorem okL56:Env.OK {P:=Tryz.prog,spec:=L56,ek:=ek0}:=Env.OK.cons okL55 (fn:=Tryz.f237) (by kernel_rfl) (by kernel_rfl) (by kernel_rfl) ok_f237
theorem ok_f238:SpecOK Tryz.prog 238 ((sHoldJ).spec (oFreeJ)):=by
 refine Sig.sound (E:={P:=Tryz.prog,spec:=L56,ek:=ek0,loops:=[],n0:=0}) okL56 (fn:=Tryz.f238) (by kernel_rfl) (by rfl) ?_
 intro x k h
 obtain ⟨t,n,_⟩:=x
 refine Eq.mp (α:=V.vFreeJ t n k) ?_ (O.vFreeJ h)
 kernel_rfl
noncomputable def L57:List (FuncId × SpecT):=(238,(sHoldJ).spec (oFreeJ))::L56
theorem okL57:Env.OK {P:=Tryz.prog,spec:=L57,ek:=ek0}:=Env.OK.cons okL56 (fn:=Tryz.f238) (by kernel_rfl) (by kernel_rfl) (by kernel_rfl) ok_f238
theorem ok_f197:SpecOK Tryz.prog 197 ((sPlanJ).spec (oPlanJ)):=by
 refine Sig.sound (E:={P:=Tryz.prog,spec:=L57,ek:=ek0,loops:=[],n0:=0}) okL57 (fn:=Tryz.f197) (by kernel_rfl) (by rfl) ?_
 intro x k h
 obtain ⟨t,n,m,_⟩:=x
 refine Eq.mp (α:=V.vPlanJ t n m k) ?_ (O.vPlanJ h)
 kernel_rfl
noncomputable def L58:List (FuncId × SpecT):=(197,(sPlanJ).spec (oPlanJ))::L57
theorem okL58:Env.OK {P:=Tryz.prog,spec:=L58,ek:=ek0}:=Env.OK.cons okL57 (fn:=Tryz.f197) (by kernel_rfl) (by kernel_rfl) (by kernel_rfl) ok_f197
theorem ok_f231:SpecOK Tryz.prog 231 ((sBeginJ).spec (oBeginJ)):=by
 refine Sig.sound (E:={P:=Tryz.prog,spec:=L58,ek:=ek0,loops:=[],n0:=0}) okL58 (fn:=Tryz.f231) (by kernel_rfl) (by rfl) ?_
 intro x k h
 obtain ⟨t,n,m,s,_⟩:=x
 refine Eq.mp (α:=V.vBeginJ t n m s k) ?_ (O.vBeginJ h)
 kernel_rfl
noncomputable def L59:List (FuncId × SpecT):=(231,(sBeginJ).spec (oBeginJ))::L58
theorem okL59:Env.OK {P:=Tryz.prog,spec:=L59,ek:=ek0}:=Env.OK.cons okL58 (fn:=Tryz.f231) (by kernel_rfl) (by kernel_rfl) (by kernel_rfl) ok_f231
theorem ok_f235:SpecOK Tryz.prog 235 ((sFinJ).spec (oFinJ)):=by
 refine Sig.sound (E:={P:=Tryz.prog,spec:=L59,ek:=ek0,loops:=[],n0:=0}) okL59 (fn:=Tryz.f235) (by kernel_rfl) (by rfl) ?_
 intro x k h
 obtain ⟨t,n,s,m,_⟩:=x
 refine Eq.mp (α:=V.vFinJ t n s m k) ?_ (O.vFinJ h)
 kernel_rfl
noncomputable def L60:List (FuncId × SpecT):=(235,(sFinJ).spec (oFinJ))::L59
theorem okL60:Env.OK {P:=Tryz.prog,spec:=L60,ek:=ek0}:=Env.OK.cons okL59 (fn:=Tryz.f235) (by kernel_rfl) (by kernel_rfl) (by kernel_rfl) ok_f235
theorem ok_f266:SpecOK Tryz.prog 266 ((sRightR).spec (oRightR)):=by
 refine Sig.sound (E:={P:=Tryz.prog,spec:=L60,ek:=ek0,loops:=[],n0:=0}) okL60 (fn:=Tryz.f266) (by kernel_rfl) (by rfl) ?_
 intro x k h
 obtain ⟨r,_⟩:=x
 refine Eq.mp (α:=V.vRightR r k) ?_ (O.vRightR h)
 kernel_rfl
noncomputable def L61:List (FuncId × SpecT):=(266,(sRightR).spec (oRightR))::L60
theorem okL61:Env.OK {P:=Tryz.prog,spec:=L61,ek:=ek0}:=Env.OK.cons okL60 (fn:=Tryz.f266) (by kernel_rfl) (by kernel_rfl) (by kernel_rfl) ok_f266
theorem ok_f234:SpecOK Tryz.prog 234 ((sSubJ).spec (oSubJ)):=by
 refine Sig.sound (E:={P:=Tryz.prog,spec:=L61,ek:=ek0,loops:=[],n0:=0}) okL61 (fn:=Tryz.f234) (by kernel_rfl) (by rfl) ?_
 intro x k h
 obtain ⟨t,r,_⟩:=x
 refine Eq.mp (α:=V.vSubJ t r k) ?_ (O.vSubJ h)
 kernel_rfl
noncomputable def L62:List (FuncId × SpecT):=(234,(sSubJ).spec (oSubJ))::L61
theorem okL62:Env.OK {P:=Tryz.prog,spec:=L62,ek:=ek0}:=Env.OK.cons okL61 (fn:=Tryz.f234) (by kernel_rfl) (by kernel_rfl) (by kernel_rfl) ok_f234
theorem ok_f90:SpecOK Tryz.prog 90 ((sCopyJ).spec (oCopyJ)):=by
 refine Sig.sound (E:={P:=Tryz.prog,spec:=L62,ek:=ek0,loops:=[],n0:=0}) okL62 (fn:=Tryz.f90) (by kernel_rfl) (by rfl) ?_
 intro x k h
 obtain ⟨t,_⟩:=x
 refine Eq.mp (α:=V.vCopyJ t k) ?_ (O.vCopyJ h)
 kernel_rfl
noncomputable def L63:List (FuncId × SpecT):=(90,(sCopyJ).spec (oCopyJ))::L62
theorem okL63:Env.OK {P:=Tryz.prog,spec:=L63,ek:=ek0}:=Env.OK.cons okL62 (fn:=Tryz.f90) (by kernel_rfl) (by kernel_rfl) (by kernel_rfl) ok_f90
theorem ok_f110:SpecOK Tryz.prog 110 ((sNoneN).spec (oNoneN)):=by
 refine Sig.sound (E:={P:=Tryz.prog,spec:=L63,ek:=ek0,loops:=[],n0:=0}) okL63 (fn:=Tryz.f110) (by kernel_rfl) (by rfl) ?_
 intro x k h
 obtain ⟨t,_⟩:=x
 cases t with
 |none=>exact Eq.mp (α:=V.vNoneNN k) (by kernel_rfl) (O.vNoneNN h)
 |some t=>exact Eq.mp (α:=V.vNoneN t k) (by kernel_rfl) (O.vNoneN h)
noncomputable def L64:List (FuncId × SpecT):=(110,(sNoneN).spec (oNoneN))::L63
theorem okL64:Env.OK {P:=Tryz.prog,spec:=L64,ek:=ek0}:=Env.OK.cons okL63 (fn:=Tryz.f110) (by kernel_rfl) (by kernel_rfl) (by kernel_rfl) ok_f110
theorem ok_f111:SpecOK Tryz.prog 111 ((sNSet).spec (oIdleN)):=by
 refine Sig.sound (E:={P:=Tryz.prog,spec:=L64,ek:=ek0,loops:=[],n0:=0}) okL64 (fn:=Tryz.f111) (by kernel_rfl) (by rfl) ?_
 intro x k h
 obtain ⟨t,_⟩:=x
 refine Eq.mp (α:=V.vIdleI t k) ?_ (O.vIdleI h)
 kernel_rfl
noncomputable def L65:List (FuncId × SpecT):=(111,(sNSet).spec (oIdleN))::L64
theorem okL65:Env.OK {P:=Tryz.prog,spec:=L65,ek:=ek0}:=Env.OK.cons okL64 (fn:=Tryz.f111) (by kernel_rfl) (by kernel_rfl) (by kernel_rfl) ok_f111
theorem ok_f82:SpecOK Tryz.prog 82 ((sNInt).spec (oSizeN)):=by
 refine Sig.sound (E:={P:=Tryz.prog,spec:=L65,ek:=ek0,loops:=[],n0:=0}) okL65 (fn:=Tryz.f82) (by kernel_rfl) (by rfl) ?_
 intro x k h
 obtain ⟨t,_⟩:=x
 refine Eq.mp (α:=V.vSizeN t k) ?_ (O.vSizeN h)
 kernel_rfl
noncomputable def L66:List (FuncId × SpecT):=(82,(sNInt).spec (oSizeN))::L65
theorem okL66:Env.OK {P:=Tryz.prog,spec:=L66,ek:=ek0}:=Env.OK.cons okL65 (fn:=Tryz.f82) (by kernel_rfl) (by kernel_rfl) (by kernel_rfl) ok_f82
theorem ok_f84:SpecOK Tryz.prog 84 ((sStateN).spec (oStateN)):=by
 refine Sig.sound (E:={P:=Tryz.prog,spec:=L66,ek:=ek0,loops:=[],n0:=0}) okL66 (fn:=Tryz.f84) (by kernel_rfl) (by rfl) ?_
 intro x k h
 obtain ⟨t,n,_⟩:=x
 refine Eq.mp (α:=V.vStateN t n k) ?_ (O.vStateN h)
 kernel_rfl
noncomputable def L67:List (FuncId × SpecT):=(84,(sStateN).spec (oStateN))::L66
theorem okL67:Env.OK {P:=Tryz.prog,spec:=L67,ek:=ek0}:=Env.OK.cons okL66 (fn:=Tryz.f84) (by kernel_rfl) (by kernel_rfl) (by kernel_rfl) ok_f84
theorem ok_f42:SpecOK Tryz.prog 42 ((sNSet).spec (oUsedN)):=by
 refine Sig.sound (E:={P:=Tryz.prog,spec:=L67,ek:=ek0,loops:=[],n0:=0}) okL67 (fn:=Tryz.f42) (by kernel_rfl) (by rfl) ?_
 intro x k h
 obtain ⟨t,_⟩:=x
 refine Eq.mp (α:=V.vUsedN t k) ?_ (O.vUsedN h)
 kernel_rfl
noncomputable def L68:List (FuncId × SpecT):=(42,(sNSet).spec (oUsedN))::L67
theorem okL68:Env.OK {P:=Tryz.prog,spec:=L68,ek:=ek0}:=Env.OK.cons okL67 (fn:=Tryz.f42) (by kernel_rfl) (by kernel_rfl) (by kernel_rfl) ok_f42
theorem ok_f41:SpecOK Tryz.prog 41 ((sNSet).spec (oIdleN)):=by
 refine Sig.sound (E:={P:=Tryz.prog,spec:=L68,ek:=ek0,loops:=[],n0:=0}) okL68 (fn:=Tryz.f41) (by kernel_rfl) (by rfl) ?_
 intro x k h
 obtain ⟨t,_⟩:=x
 refine Eq.mp (α:=V.vIdleN t k) ?_ (O.vIdleN h)
 kernel_rfl
noncomputable def L69:List (FuncId × SpecT):=(41,(sNSet).spec (oIdleN))::L68
theorem okL69:Env.OK {P:=Tryz.prog,spec:=L69,ek:=ek0}:=Env.OK.cons okL68 (fn:=Tryz.f41) (by kernel_rfl) (by kernel_rfl) (by kernel_rfl) ok_f41
theorem ok_f249:SpecOK Tryz.prog 249 ((sCountsN).spec (oCountsN)):=by
 refine Sig.sound (E:={P:=Tryz.prog,spec:=L69,ek:=ek0,loops:=[],n0:=0}) okL69 (fn:=Tryz.f249) (by kernel_rfl) (by rfl) ?_
 intro x k h
 obtain ⟨t,_⟩:=x
 refine Eq.mp (α:=V.vCountsN t k) ?_ (O.vCountsN h)
 kernel_rfl
noncomputable def L70:List (FuncId × SpecT):=(249,(sCountsN).spec (oCountsN))::L69
theorem okL70:Env.OK {P:=Tryz.prog,spec:=L70,ek:=ek0}:=Env.OK.cons okL69 (fn:=Tryz.f249) (by kernel_rfl) (by kernel_rfl) (by kernel_rfl) ok_f249
theorem ok_f230:SpecOK Tryz.prog 230 ((sTakeN).spec (oTakeN)):=by
 refine Sig.sound (E:={P:=Tryz.prog,spec:=L70,ek:=ek0,loops:=[],n0:=0}) okL70 (fn:=Tryz.f230) (by kernel_rfl) (by rfl) ?_
 intro x k h
 obtain ⟨t,n,_⟩:=x
 refine Eq.mp (α:=V.vTakeN t n k) ?_ (O.vTakeN h)
 kernel_rfl
noncomputable def L71:List (FuncId × SpecT):=(230,(sTakeN).spec (oTakeN))::L70
theorem okL71:Env.OK {P:=Tryz.prog,spec:=L71,ek:=ek0}:=Env.OK.cons okL70 (fn:=Tryz.f230) (by kernel_rfl) (by kernel_rfl) (by kernel_rfl) ok_f230
theorem ok_f236:SpecOK Tryz.prog 236 ((sGiveN).spec (oGiveN)):=by
 refine Sig.sound (E:={P:=Tryz.prog,spec:=L71,ek:=ek0,loops:=[],n0:=0}) okL71 (fn:=Tryz.f236) (by kernel_rfl) (by rfl) ?_
 intro x k h
 obtain ⟨t,s,_⟩:=x
 refine Eq.mp (α:=V.vGiveN t s k) ?_ (O.vGiveN h)
 kernel_rfl
noncomputable def L72:List (FuncId × SpecT):=(236,(sGiveN).spec (oGiveN))::L71
theorem okL72:Env.OK {P:=Tryz.prog,spec:=L72,ek:=ek0}:=Env.OK.cons okL71 (fn:=Tryz.f236) (by kernel_rfl) (by kernel_rfl) (by kernel_rfl) ok_f236
theorem ok_f240:SpecOK Tryz.prog 240 ((sDrainN).spec (oDrainN)):=by
 refine Sig.sound (E:={P:=Tryz.prog,spec:=L72,ek:=ek0,loops:=[],n0:=0}) okL72 (fn:=Tryz.f240) (by kernel_rfl) (by rfl) ?_
 intro x k h
 obtain ⟨t,n,_⟩:=x
 refine Eq.mp (α:=V.vDrainN t n k) ?_ (O.vDrainN h)
 kernel_rfl
noncomputable def L73:List (FuncId × SpecT):=(240,(sDrainN).spec (oDrainN))::L72
theorem okL73:Env.OK {P:=Tryz.prog,spec:=L73,ek:=ek0}:=Env.OK.cons okL72 (fn:=Tryz.f240) (by kernel_rfl) (by kernel_rfl) (by kernel_rfl) ok_f240
theorem ok_f242:SpecOK Tryz.prog 242 ((sDrainN).spec (oResumeN)):=by
 refine Sig.sound (E:={P:=Tryz.prog,spec:=L73,ek:=ek0,loops:=[],n0:=0}) okL73 (fn:=Tryz.f242) (by kernel_rfl) (by rfl) ?_
 intro x k h
 obtain ⟨t,n,_⟩:=x
 refine Eq.mp (α:=V.vResumeN t n k) ?_ (O.vResumeN h)
 kernel_rfl
noncomputable def L74:List (FuncId × SpecT):=(242,(sDrainN).spec (oResumeN))::L73
theorem okL74:Env.OK {P:=Tryz.prog,spec:=L74,ek:=ek0}:=Env.OK.cons okL73 (fn:=Tryz.f242) (by kernel_rfl) (by kernel_rfl) (by kernel_rfl) ok_f242
theorem ok_f91:SpecOK Tryz.prog 91 ((sCopyN).spec (oCopyN)):=by
 refine Sig.sound (E:={P:=Tryz.prog,spec:=L74,ek:=ek0,loops:=[],n0:=0}) okL74 (fn:=Tryz.f91) (by kernel_rfl) (by rfl) ?_
 intro x k h
 obtain ⟨t,_⟩:=x
 refine Eq.mp (α:=V.vCopyN t k) ?_ (O.vCopyN h)
 kernel_rfl
noncomputable def L75:List (FuncId × SpecT):=(91,(sCopyN).spec (oCopyN))::L74
theorem okL75:Env.OK {P:=Tryz.prog,spec:=L75,ek:=ek0}:=Env.OK.cons okL74 (fn:=Tryz.f91) (by kernel_rfl) (by kernel_rfl) (by kernel_rfl) ok_f91
theorem ok_f74:SpecOK Tryz.prog 74 ((sNewN).spec (oNewN)):=by
 refine Sig.sound (E:={P:=Tryz.prog,spec:=L75,ek:=ek0,loops:=[],n0:=0}) okL75 (fn:=Tryz.f74) (by kernel_rfl) (by rfl) ?_
 intro x k h
 obtain ⟨n,_⟩:=x
 refine Eq.mp (α:=V.vNewN n k) ?_ (O.vNewN h)
 kernel_rfl
noncomputable def L76:List (FuncId × SpecT):=(74,(sNewN).spec (oNewN))::L75
theorem okL76:Env.OK {P:=Tryz.prog,spec:=L76,ek:=ek0}:=Env.OK.cons okL75 (fn:=Tryz.f74) (by kernel_rfl) (by kernel_rfl) (by kernel_rfl) ok_f74
theorem ok_f107:SpecOK Tryz.prog 107 ((sFailR).spec (oFailR)):=by
 refine Sig.sound (E:={P:=Tryz.prog,spec:=L76,ek:=ek0,loops:=[],n0:=0}) okL76 (fn:=Tryz.f107) (by kernel_rfl) (by rfl) ?_
 intro x k h
 obtain ⟨e,_⟩:=x
 refine Eq.mp (α:=V.vFailR e k) ?_ (O.vFailR h)
 kernel_rfl
noncomputable def L77:List (FuncId × SpecT):=(107,(sFailR).spec (oFailR))::L76
theorem okL77:Env.OK {P:=Tryz.prog,spec:=L77,ek:=ek0}:=Env.OK.cons okL76 (fn:=Tryz.f107) (by kernel_rfl) (by kernel_rfl) (by kernel_rfl) ok_f107
theorem ok_f239:SpecOK Tryz.prog 239 ((sTellR).spec (oTellR)):=by
 refine Sig.sound (E:={P:=Tryz.prog,spec:=L77,ek:=ek0,loops:=[],n0:=0}) okL77 (fn:=Tryz.f239) (by kernel_rfl) (by rfl) ?_
 intro x k h
 obtain ⟨j,_⟩:=x
 refine Eq.mp (α:=V.vTellR j k) ?_ (O.vTellR h)
 kernel_rfl
noncomputable def L78:List (FuncId × SpecT):=(239,(sTellR).spec (oTellR))::L77
theorem okL78:Env.OK {P:=Tryz.prog,spec:=L78,ek:=ek0}:=Env.OK.cons okL77 (fn:=Tryz.f239) (by kernel_rfl) (by kernel_rfl) (by kernel_rfl) ok_f239
theorem ok_f248:SpecOK Tryz.prog 248 ((sThreeR).spec (oThreeR)):=by
 refine Sig.sound (E:={P:=Tryz.prog,spec:=L78,ek:=ek0,loops:=[],n0:=0}) okL78 (fn:=Tryz.f248) (by kernel_rfl) (by rfl) ?_
 intro x k h
 obtain ⟨a,b,c,_⟩:=x
 refine Eq.mp (α:=V.vThreeR a b c k) ?_ (O.vThreeR h)
 kernel_rfl
noncomputable def L79:List (FuncId × SpecT):=(248,(sThreeR).spec (oThreeR))::L78
theorem okL79:Env.OK {P:=Tryz.prog,spec:=L79,ek:=ek0}:=Env.OK.cons okL78 (fn:=Tryz.f248) (by kernel_rfl) (by kernel_rfl) (by kernel_rfl) ok_f248
theorem ok_f93:SpecOK Tryz.prog 93 ((sCleanR).spec (oCleanR)):=by
 refine Sig.sound (E:={P:=Tryz.prog,spec:=L79,ek:=ek0,loops:=[],n0:=0}) okL79 (fn:=Tryz.f93) (by kernel_rfl) (by rfl) ?_
 intro x k h
 obtain ⟨r,_⟩:=x
 refine Eq.mp (α:=V.vCleanR r k) ?_ (O.vCleanR h)
 kernel_rfl
noncomputable def L80:List (FuncId × SpecT):=(93,(sCleanR).spec (oCleanR))::L79
theorem okL80:Env.OK {P:=Tryz.prog,spec:=L80,ek:=ek0}:=Env.OK.cons okL79 (fn:=Tryz.f93) (by kernel_rfl) (by kernel_rfl) (by kernel_rfl) ok_f93
theorem ok_f81:SpecOK Tryz.prog 81 ((sNoneC).spec (oNoneC)):=by
 refine Sig.sound (E:={P:=Tryz.prog,spec:=L80,ek:=ek0,loops:=[],n0:=0}) okL80 (fn:=Tryz.f81) (by kernel_rfl) (by rfl) ?_
 intro x k h
 obtain ⟨c,_⟩:=x
 cases c with
 |none=>exact Eq.mp (α:=V.vNoneCN k) (by kernel_rfl) (O.vNoneCN h)
 |some c=>exact Eq.mp (α:=V.vNoneC c k) (by kernel_rfl) (O.vNoneC h)
noncomputable def L81:List (FuncId × SpecT):=(81,(sNoneC).spec (oNoneC))::L80
theorem okL81:Env.OK {P:=Tryz.prog,spec:=L81,ek:=ek0}:=Env.OK.cons okL80 (fn:=Tryz.f81) (by kernel_rfl) (by kernel_rfl) (by kernel_rfl) ok_f81
theorem ok_f28:SpecOK Tryz.prog 28 ((sNoneC).spec (oClosedC)):=by
 refine Sig.sound (E:={P:=Tryz.prog,spec:=L81,ek:=ek0,loops:=[],n0:=0}) okL81 (fn:=Tryz.f28) (by kernel_rfl) (by rfl) ?_
 intro x k h
 obtain ⟨c,_⟩:=x
 cases c with
 |none=>exact Eq.mp (α:=V.vClosedCN k) (by kernel_rfl) (O.vClosedCN h)
 |some c=>exact Eq.mp (α:=V.vClosedC c k) (by kernel_rfl) (O.vClosedC h)
noncomputable def L82:List (FuncId × SpecT):=(28,(sNoneC).spec (oClosedC))::L81
theorem okL82:Env.OK {P:=Tryz.prog,spec:=L82,ek:=ek0}:=Env.OK.cons okL81 (fn:=Tryz.f28) (by kernel_rfl) (by kernel_rfl) (by kernel_rfl) ok_f28
theorem ok_f16:SpecOK Tryz.prog 16 ((sNewC).spec (oNewC)):=by
 refine Sig.sound (E:={P:=Tryz.prog,spec:=L82,ek:=ek0,loops:=[],n0:=0}) okL82 (fn:=Tryz.f16) (by kernel_rfl) (by rfl) ?_
 intro x k h
 obtain ⟨n,_⟩:=x
 refine Eq.mp (α:=V.vNewC n k) ?_ (O.vNewC h)
 kernel_rfl
noncomputable def L83:List (FuncId × SpecT):=(16,(sNewC).spec (oNewC))::L82
theorem okL83:Env.OK {P:=Tryz.prog,spec:=L83,ek:=ek0}:=Env.OK.cons okL82 (fn:=Tryz.f16) (by kernel_rfl) (by kernel_rfl) (by kernel_rfl) ok_f16
theorem ok_f25:SpecOK Tryz.prog 25 ((sTwinC).spec (oTwinC)):=by
 refine Sig.sound (E:={P:=Tryz.prog,spec:=L83,ek:=ek0,loops:=[],n0:=0}) okL83 (fn:=Tryz.f25) (by kernel_rfl) (by rfl) ?_
 intro x k h
 obtain ⟨c,_⟩:=x
 refine Eq.mp (α:=V.vTwinC c k) ?_ (O.vTwinC h)
 kernel_rfl
noncomputable def L84:List (FuncId × SpecT):=(25,(sTwinC).spec (oTwinC))::L83
theorem okL84:Env.OK {P:=Tryz.prog,spec:=L84,ek:=ek0}:=Env.OK.cons okL83 (fn:=Tryz.f25) (by kernel_rfl) (by kernel_rfl) (by kernel_rfl) ok_f25
theorem ok_f144:SpecOK Tryz.prog 144 ((sPlanS).spec (oPlanS)):=by
 refine Sig.sound (E:={P:=Tryz.prog,spec:=L84,ek:=ek0,loops:=[],n0:=0}) okL84 (fn:=Tryz.f144) (by kernel_rfl) (by rfl) ?_
 intro x k h
 obtain ⟨j,_⟩:=x
 refine Eq.mp (α:=V.vPlanS j k) ?_ (O.vPlanS h)
 kernel_rfl
noncomputable def L85:List (FuncId × SpecT):=(144,(sPlanS).spec (oPlanS))::L84
theorem okL85:Env.OK {P:=Tryz.prog,spec:=L85,ek:=ek0}:=Env.OK.cons okL84 (fn:=Tryz.f144) (by kernel_rfl) (by kernel_rfl) (by kernel_rfl) ok_f144
theorem ok_f271:SpecOK Tryz.prog 271 ((sSpansC).spec (oSpansC)):=by
 refine Sig.sound (E:={P:=Tryz.prog,spec:=L85,ek:=ek0,loops:=[(5,lSpansC)],n0:=0}) okL85 (fn:=Tryz.f271) (by kernel_rfl) (by rfl) ?_
 intro x k h
 obtain ⟨c,_⟩:=x
 refine Eq.mp (α:=V.vSpansC c k) ?_ (O.vSpansC h)
 kernel_rfl
noncomputable def L86:List (FuncId × SpecT):=(271,(sSpansC).spec (oSpansC))::L85
theorem okL86:Env.OK {P:=Tryz.prog,spec:=L86,ek:=ek0}:=Env.OK.cons okL85 (fn:=Tryz.f271) (by kernel_rfl) (by kernel_rfl) (by kernel_rfl) ok_f271
theorem ok_f268:SpecOK Tryz.prog 268 ((sHolderC).spec (oHolderC)):=by
 refine Sig.sound (E:={P:=Tryz.prog,spec:=L86,ek:=ek0,loops:=[(4,lHolderC)],n0:=0}) okL86 (fn:=Tryz.f268) (by kernel_rfl) (by rfl) ?_
 intro x k h
 obtain ⟨c,n,_⟩:=x
 refine Eq.mp (α:=V.vHolderC c n k) ?_ (O.vHolderC h)
 kernel_rfl
noncomputable def L87:List (FuncId × SpecT):=(268,(sHolderC).spec (oHolderC))::L86
theorem okL87:Env.OK {P:=Tryz.prog,spec:=L87,ek:=ek0}:=Env.OK.cons okL86 (fn:=Tryz.f268) (by kernel_rfl) (by kernel_rfl) (by kernel_rfl) ok_f268
theorem ok_f202:SpecOK Tryz.prog 202 ((sToldC).spec (oToldC)):=by
 refine Sig.sound (E:={P:=Tryz.prog,spec:=L87,ek:=ek0,loops:=[],n0:=0}) okL87 (fn:=Tryz.f202) (by kernel_rfl) (by rfl) ?_
 intro x k h
 obtain ⟨c,n,_⟩:=x
 refine Eq.mp (α:=V.vToldC c n k) ?_ (O.vToldC h)
 kernel_rfl
noncomputable def L88:List (FuncId × SpecT):=(202,(sToldC).spec (oToldC))::L87
theorem okL88:Env.OK {P:=Tryz.prog,spec:=L88,ek:=ek0}:=Env.OK.cons okL87 (fn:=Tryz.f202) (by kernel_rfl) (by kernel_rfl) (by kernel_rfl) ok_f202
theorem ok_f22:SpecOK Tryz.prog 22 ((sWantsC).spec (oWantsC)):=by
 refine Sig.sound (E:={P:=Tryz.prog,spec:=L88,ek:=ek0,loops:=[],n0:=0}) okL88 (fn:=Tryz.f22) (by kernel_rfl) (by rfl) ?_
 intro x k h
 obtain ⟨c,r,_⟩:=x
 refine Eq.mp (α:=V.vWantsC c r k) ?_ (O.vWantsC h)
 kernel_rfl
noncomputable def L89:List (FuncId × SpecT):=(22,(sWantsC).spec (oWantsC))::L88
theorem okL89:Env.OK {P:=Tryz.prog,spec:=L89,ek:=ek0}:=Env.OK.cons okL88 (fn:=Tryz.f22) (by kernel_rfl) (by kernel_rfl) (by kernel_rfl) ok_f22
theorem ok_f241:SpecOK Tryz.prog 241 ((sUntilC).spec (oUntilC)):=by
 refine Sig.sound (E:={P:=Tryz.prog,spec:=L89,ek:=ek0,loops:=[],n0:=0}) okL89 (fn:=Tryz.f241) (by kernel_rfl) (by rfl) ?_
 intro x k h
 obtain ⟨c,n,_⟩:=x
 refine Eq.mp (α:=V.vUntilC c n k) ?_ (O.vUntilC h)
 kernel_rfl
noncomputable def L90:List (FuncId × SpecT):=(241,(sUntilC).spec (oUntilC))::L89
theorem okL90:Env.OK {P:=Tryz.prog,spec:=L90,ek:=ek0}:=Env.OK.cons okL89 (fn:=Tryz.f241) (by kernel_rfl) (by kernel_rfl) (by kernel_rfl) ok_f241
theorem ok_f243:SpecOK Tryz.prog 243 ((sNextC).spec (oNextC)):=by
 refine Sig.sound (E:={P:=Tryz.prog,spec:=L90,ek:=ek0,loops:=[(3,lNx1),(8,lNx2)],n0:=0}) okL90 (fn:=Tryz.f243) (by kernel_rfl) (by rfl) ?_
 intro x k h
 obtain ⟨c,_⟩:=x
 refine Eq.mp (α:=V.vNextC c k) ?_ (O.vNextC h)
 kernel_rfl
noncomputable def L91:List (FuncId × SpecT):=(243,(sNextC).spec (oNextC))::L90
theorem okL91:Env.OK {P:=Tryz.prog,spec:=L91,ek:=ek0}:=Env.OK.cons okL90 (fn:=Tryz.f243) (by kernel_rfl) (by kernel_rfl) (by kernel_rfl) ok_f243
theorem ok_f246:SpecOK Tryz.prog 246 ((sTimeC).spec (oTimeC)):=by
 refine Sig.sound (E:={P:=Tryz.prog,spec:=L91,ek:=ek0,loops:=[(1,lTimeC)],n0:=0}) okL91 (fn:=Tryz.f246) (by kernel_rfl) (by rfl) ?_
 intro x k h
 obtain ⟨c,_⟩:=x
 refine Eq.mp (α:=V.vTimeC c k) ?_ (O.vTimeC h)
 kernel_rfl
noncomputable def L92:List (FuncId × SpecT):=(246,(sTimeC).spec (oTimeC))::L91
theorem okL92:Env.OK {P:=Tryz.prog,spec:=L92,ek:=ek0}:=Env.OK.cons okL91 (fn:=Tryz.f246) (by kernel_rfl) (by kernel_rfl) (by kernel_rfl) ok_f246
theorem ok_f196:SpecOK Tryz.prog 196 ((sBeginC).spec (oBeginC)):=by
 refine Sig.sound (E:={P:=Tryz.prog,spec:=L92,ek:=ek0,loops:=[],n0:=0}) okL92 (fn:=Tryz.f196) (by kernel_rfl) (by rfl) ?_
 intro x k h
 obtain ⟨c,j,_⟩:=x
 refine Eq.mp (α:=V.vBeginC c j k) ?_ (O.vBeginC h)
 kernel_rfl
noncomputable def L93:List (FuncId × SpecT):=(196,(sBeginC).spec (oBeginC))::L92
theorem okL93:Env.OK {P:=Tryz.prog,spec:=L93,ek:=ek0}:=Env.OK.cons okL92 (fn:=Tryz.f196) (by kernel_rfl) (by kernel_rfl) (by kernel_rfl) ok_f196
theorem ok_f247:SpecOK Tryz.prog 247 ((sTimeC).spec (oBeginsC)):=by
 refine Sig.sound (E:={P:=Tryz.prog,spec:=L93,ek:=ek0,loops:=[(1,lBeginsC)],n0:=0}) okL93 (fn:=Tryz.f247) (by kernel_rfl) (by rfl) ?_
 intro x k h
 obtain ⟨c,_⟩:=x
 refine Eq.mp (α:=V.vBeginsC c k) ?_ (O.vBeginsC h)
 kernel_rfl
noncomputable def L94:List (FuncId × SpecT):=(247,(sTimeC).spec (oBeginsC))::L93
theorem okL94:Env.OK {P:=Tryz.prog,spec:=L94,ek:=ek0}:=Env.OK.cons okL93 (fn:=Tryz.f247) (by kernel_rfl) (by kernel_rfl) (by kernel_rfl) ok_f247
theorem ok_f79:SpecOK Tryz.prog 79 ((sFitsC).spec (oFitsC)):=by
 refine Sig.sound (E:={P:=Tryz.prog,spec:=L94,ek:=ek0,loops:=[],n0:=0}) okL94 (fn:=Tryz.f79) (by kernel_rfl) (by rfl) ?_
 intro x k h
 obtain ⟨c,x,_⟩:=x
 refine Eq.mp (α:=V.vFitsC c x k) ?_ (O.vFitsC h)
 kernel_rfl
noncomputable def L95:List (FuncId × SpecT):=(79,(sFitsC).spec (oFitsC))::L94
theorem okL95:Env.OK {P:=Tryz.prog,spec:=L95,ek:=ek0}:=Env.OK.cons okL94 (fn:=Tryz.f79) (by kernel_rfl) (by kernel_rfl) (by kernel_rfl) ok_f79
theorem ok_f29:SpecOK Tryz.prog 29 ((sNewW).spec (oNewW)):=by
 refine Sig.sound (E:={P:=Tryz.prog,spec:=L95,ek:=ek0,loops:=[],n0:=0}) okL95 (fn:=Tryz.f29) (by kernel_rfl) (by rfl) ?_
 intro x k h
 obtain ⟨r,_⟩:=x
 refine Eq.mp (α:=V.vNewW r k) ?_ (O.vNewW h)
 kernel_rfl
noncomputable def L96:List (FuncId × SpecT):=(29,(sNewW).spec (oNewW))::L95
theorem okL96:Env.OK {P:=Tryz.prog,spec:=L96,ek:=ek0}:=Env.OK.cons okL95 (fn:=Tryz.f29) (by kernel_rfl) (by kernel_rfl) (by kernel_rfl) ok_f29
theorem ok_f30:SpecOK Tryz.prog 30 ((sNewX).spec (oNewX)):=by
 refine Sig.sound (E:={P:=Tryz.prog,spec:=L96,ek:=ek0,loops:=[],n0:=0}) okL96 (fn:=Tryz.f30) (by kernel_rfl) (by rfl) ?_
 intro x k h
 obtain ⟨x,_⟩:=x
 refine Eq.mp (α:=V.vNewX x k) ?_ (O.vNewX h)
 kernel_rfl
noncomputable def L97:List (FuncId × SpecT):=(30,(sNewX).spec (oNewX))::L96
theorem okL97:Env.OK {P:=Tryz.prog,spec:=L97,ek:=ek0}:=Env.OK.cons okL96 (fn:=Tryz.f30) (by kernel_rfl) (by kernel_rfl) (by kernel_rfl) ok_f30
theorem ok_f80:SpecOK Tryz.prog 80 ((sDoneW).spec (oDoneW)):=by
 refine Sig.sound (E:={P:=Tryz.prog,spec:=L97,ek:=ek0,loops:=[],n0:=0}) okL97 (fn:=Tryz.f80) (by kernel_rfl) (by rfl) ?_
 intro x k h
 obtain ⟨w,_⟩:=x
 cases w with
 |none=>exact Eq.mp (α:=V.vDoneWN k) (by kernel_rfl) (O.vDoneWN h)
 |some w=>exact Eq.mp (α:=V.vDoneW w k) (by kernel_rfl) (O.vDoneW h)
noncomputable def L98:List (FuncId × SpecT):=(80,(sDoneW).spec (oDoneW))::L97
theorem okL98:Env.OK {P:=Tryz.prog,spec:=L98,ek:=ek0}:=Env.OK.cons okL97 (fn:=Tryz.f80) (by kernel_rfl) (by kernel_rfl) (by kernel_rfl) ok_f80
theorem ok_f77:SpecOK Tryz.prog 77 ((sRepW).spec (oRepW)):=by
 refine Sig.sound (E:={P:=Tryz.prog,spec:=L98,ek:=ek0,loops:=[],n0:=0}) okL98 (fn:=Tryz.f77) (by kernel_rfl) (by rfl) ?_
 intro x k h
 obtain ⟨w,_⟩:=x
 refine Eq.mp (α:=V.vRepW w k) ?_ (O.vRepW h)
 kernel_rfl
noncomputable def L99:List (FuncId × SpecT):=(77,(sRepW).spec (oRepW))::L98
theorem okL99:Env.OK {P:=Tryz.prog,spec:=L99,ek:=ek0}:=Env.OK.cons okL98 (fn:=Tryz.f77) (by kernel_rfl) (by kernel_rfl) (by kernel_rfl) ok_f77
theorem ok_f78:SpecOK Tryz.prog 78 ((sOkW).spec (oOkW)):=by
 refine Sig.sound (E:={P:=Tryz.prog,spec:=L99,ek:=ek0,loops:=[],n0:=0}) okL99 (fn:=Tryz.f78) (by kernel_rfl) (by rfl) ?_
 intro x k h
 obtain ⟨w,_⟩:=x
 refine Eq.mp (α:=V.vOkW w k) ?_ (O.vOkW h)
 kernel_rfl
noncomputable def L100:List (FuncId × SpecT):=(78,(sOkW).spec (oOkW))::L99
theorem okL100:Env.OK {P:=Tryz.prog,spec:=L100,ek:=ek0}:=Env.OK.cons okL99 (fn:=Tryz.f78) (by kernel_rfl) (by kernel_rfl) (by kernel_rfl) ok_f78
theorem ok_f193:SpecOK Tryz.prog 193 ((sEndW).spec (oEndW)):=by
 refine Sig.sound (E:={P:=Tryz.prog,spec:=L100,ek:=ek0,loops:=[],n0:=0}) okL100 (fn:=Tryz.f193) (by kernel_rfl) (by rfl) ?_
 intro x k h
 obtain ⟨w,r,_⟩:=x
 refine Eq.mp (α:=V.vEndW w r k) ?_ (O.vEndW h)
 kernel_rfl
noncomputable def L101:List (FuncId × SpecT):=(193,(sEndW).spec (oEndW))::L100
theorem okL101:Env.OK {P:=Tryz.prog,spec:=L101,ek:=ek0}:=Env.OK.cons okL100 (fn:=Tryz.f193) (by kernel_rfl) (by kernel_rfl) (by kernel_rfl) ok_f193
theorem ok_f151:SpecOK Tryz.prog 151 ((sFailW).spec (oFailW)):=by
 refine Sig.sound (E:={P:=Tryz.prog,spec:=L101,ek:=ek0,loops:=[],n0:=0}) okL101 (fn:=Tryz.f151) (by kernel_rfl) (by rfl) ?_
 intro x k h
 obtain ⟨w,e,_⟩:=x
 refine Eq.mp (α:=V.vFailW w e k) ?_ (O.vFailW h)
 kernel_rfl
noncomputable def L102:List (FuncId × SpecT):=(151,(sFailW).spec (oFailW))::L101
theorem okL102:Env.OK {P:=Tryz.prog,spec:=L102,ek:=ek0}:=Env.OK.cons okL101 (fn:=Tryz.f151) (by kernel_rfl) (by kernel_rfl) (by kernel_rfl) ok_f151
theorem ok_f233:SpecOK Tryz.prog 233 ((sWCb).spec (oDropW)):=by
 refine Sig.sound (E:={P:=Tryz.prog,spec:=L102,ek:=ek0,loops:=[(2,lDropW)],n0:=0}) okL102 (fn:=Tryz.f233) (by kernel_rfl) (by rfl) ?_
 intro x k h
 obtain ⟨w,c,_⟩:=x
 refine Eq.mp (α:=V.vDropW w c k) ?_ (O.vDropW h)
 kernel_rfl
noncomputable def L103:List (FuncId × SpecT):=(233,(sWCb).spec (oDropW))::L102
theorem okL103:Env.OK {P:=Tryz.prog,spec:=L103,ek:=ek0}:=Env.OK.cons okL102 (fn:=Tryz.f233) (by kernel_rfl) (by kernel_rfl) (by kernel_rfl) ok_f233
theorem ok_f194:SpecOK Tryz.prog 194 ((sWC).spec (oUnplan)):=by
 refine Sig.sound (E:={P:=Tryz.prog,spec:=L103,ek:=ek0,loops:=[],n0:=0}) okL103 (fn:=Tryz.f194) (by kernel_rfl) (by rfl) ?_
 intro x k h
 obtain ⟨w,c,_⟩:=x
 refine Eq.mp (α:=V.vUnplan w c k) ?_ (O.vUnplan h)
 kernel_rfl
noncomputable def L104:List (FuncId × SpecT):=(194,(sWC).spec (oUnplan))::L103
theorem okL104:Env.OK {P:=Tryz.prog,spec:=L104,ek:=ek0}:=Env.OK.cons okL103 (fn:=Tryz.f194) (by kernel_rfl) (by kernel_rfl) (by kernel_rfl) ok_f194
theorem ok_f198:SpecOK Tryz.prog 198 ((sWC).spec (oW2 Law.submitW)):=by
 refine Sig.sound (E:={P:=Tryz.prog,spec:=L104,ek:=ek0,loops:=[],n0:=0}) okL104 (fn:=Tryz.f198) (by kernel_rfl) (by rfl) ?_
 intro x k h
 obtain ⟨w,c,_⟩:=x
 refine Eq.mp (α:=V.vSubW w c k) ?_ (O.vSubW h)
 kernel_rfl
noncomputable def L105:List (FuncId × SpecT):=(198,(sWC).spec (oW2 Law.submitW))::L104
theorem okL105:Env.OK {P:=Tryz.prog,spec:=L105,ek:=ek0}:=Env.OK.cons okL104 (fn:=Tryz.f198) (by kernel_rfl) (by kernel_rfl) (by kernel_rfl) ok_f198
theorem ok_f199:SpecOK Tryz.prog 199 ((sWC).spec (oW2 Law.finishW)):=by
 refine Sig.sound (E:={P:=Tryz.prog,spec:=L105,ek:=ek0,loops:=[],n0:=0}) okL105 (fn:=Tryz.f199) (by kernel_rfl) (by rfl) ?_
 intro x k h
 obtain ⟨w,c,_⟩:=x
 refine Eq.mp (α:=V.vFinW w c k) ?_ (O.vFinW h)
 kernel_rfl
noncomputable def L106:List (FuncId × SpecT):=(199,(sWC).spec (oW2 Law.finishW))::L105
theorem okL106:Env.OK {P:=Tryz.prog,spec:=L106,ek:=ek0}:=Env.OK.cons okL105 (fn:=Tryz.f199) (by kernel_rfl) (by kernel_rfl) (by kernel_rfl) ok_f199
theorem ok_f200:SpecOK Tryz.prog 200 ((sWC).spec (oW2 Law.holdW)):=by
 refine Sig.sound (E:={P:=Tryz.prog,spec:=L106,ek:=ek0,loops:=[],n0:=0}) okL106 (fn:=Tryz.f200) (by kernel_rfl) (by rfl) ?_
 intro x k h
 obtain ⟨w,c,_⟩:=x
 refine Eq.mp (α:=V.vHoldW w c k) ?_ (O.vHoldW h)
 kernel_rfl
noncomputable def L107:List (FuncId × SpecT):=(200,(sWC).spec (oW2 Law.holdW))::L106
theorem okL107:Env.OK {P:=Tryz.prog,spec:=L107,ek:=ek0}:=Env.OK.cons okL106 (fn:=Tryz.f200) (by kernel_rfl) (by kernel_rfl) (by kernel_rfl) ok_f200
theorem ok_f201:SpecOK Tryz.prog 201 ((sWC).spec (oW2 Law.freeW)):=by
 refine Sig.sound (E:={P:=Tryz.prog,spec:=L107,ek:=ek0,loops:=[],n0:=0}) okL107 (fn:=Tryz.f201) (by kernel_rfl) (by rfl) ?_
 intro x k h
 obtain ⟨w,c,_⟩:=x
 refine Eq.mp (α:=V.vFreeW w c k) ?_ (O.vFreeW h)
 kernel_rfl
noncomputable def L108:List (FuncId × SpecT):=(201,(sWC).spec (oW2 Law.freeW))::L107
theorem okL108:Env.OK {P:=Tryz.prog,spec:=L108,ek:=ek0}:=Env.OK.cons okL107 (fn:=Tryz.f201) (by kernel_rfl) (by kernel_rfl) (by kernel_rfl) ok_f201
theorem ok_f203:SpecOK Tryz.prog 203 ((sWC).spec (oW2 Law.drainW)):=by
 refine Sig.sound (E:={P:=Tryz.prog,spec:=L108,ek:=ek0,loops:=[],n0:=0}) okL108 (fn:=Tryz.f203) (by kernel_rfl) (by rfl) ?_
 intro x k h
 obtain ⟨w,c,_⟩:=x
 refine Eq.mp (α:=V.vDrainW w c k) ?_ (O.vDrainW h)
 kernel_rfl
noncomputable def L109:List (FuncId × SpecT):=(203,(sWC).spec (oW2 Law.drainW))::L108
theorem okL109:Env.OK {P:=Tryz.prog,spec:=L109,ek:=ek0}:=Env.OK.cons okL108 (fn:=Tryz.f203) (by kernel_rfl) (by kernel_rfl) (by kernel_rfl) ok_f203
theorem ok_f204:SpecOK Tryz.prog 204 ((sWC).spec (oW2 Law.resumeW)):=by
 refine Sig.sound (E:={P:=Tryz.prog,spec:=L109,ek:=ek0,loops:=[],n0:=0}) okL109 (fn:=Tryz.f204) (by kernel_rfl) (by rfl) ?_
 intro x k h
 obtain ⟨w,c,_⟩:=x
 refine Eq.mp (α:=V.vResumeW w c k) ?_ (O.vResumeW h)
 kernel_rfl
noncomputable def L110:List (FuncId × SpecT):=(204,(sWC).spec (oW2 Law.resumeW))::L109
theorem okL110:Env.OK {P:=Tryz.prog,spec:=L110,ek:=ek0}:=Env.OK.cons okL109 (fn:=Tryz.f204) (by kernel_rfl) (by kernel_rfl) (by kernel_rfl) ok_f204
theorem ok_f205:SpecOK Tryz.prog 205 ((sWC).spec (oW2 Law.tickW)):=by
 refine Sig.sound (E:={P:=Tryz.prog,spec:=L110,ek:=ek0,loops:=[],n0:=0}) okL110 (fn:=Tryz.f205) (by kernel_rfl) (by rfl) ?_
 intro x k h
 obtain ⟨w,c,_⟩:=x
 refine Eq.mp (α:=V.vTickW w c k) ?_ (O.vTickW h)
 kernel_rfl
noncomputable def L111:List (FuncId × SpecT):=(205,(sWC).spec (oW2 Law.tickW))::L110
theorem okL111:Env.OK {P:=Tryz.prog,spec:=L111,ek:=ek0}:=Env.OK.cons okL110 (fn:=Tryz.f205) (by kernel_rfl) (by kernel_rfl) (by kernel_rfl) ok_f205
theorem ok_f206:SpecOK Tryz.prog 206 ((sWC).spec (oW2 Law.countW)):=by
 refine Sig.sound (E:={P:=Tryz.prog,spec:=L111,ek:=ek0,loops:=[],n0:=0}) okL111 (fn:=Tryz.f206) (by kernel_rfl) (by rfl) ?_
 intro x k h
 obtain ⟨w,c,_⟩:=x
 refine Eq.mp (α:=V.vCountW w c k) ?_ (O.vCountW h)
 kernel_rfl
noncomputable def L112:List (FuncId × SpecT):=(206,(sWC).spec (oW2 Law.countW))::L111
theorem okL112:Env.OK {P:=Tryz.prog,spec:=L112,ek:=ek0}:=Env.OK.cons okL111 (fn:=Tryz.f206) (by kernel_rfl) (by kernel_rfl) (by kernel_rfl) ok_f206
theorem ok_f153:SpecOK Tryz.prog 153 ((sWC).spec (oW2 Law.serveW)):=by
 refine Sig.sound (E:={P:=Tryz.prog,spec:=L112,ek:=ek0,loops:=[],n0:=0}) okL112 (fn:=Tryz.f153) (by kernel_rfl) (by rfl) ?_
 intro x k h
 obtain ⟨w,c,_⟩:=x
 refine Eq.mp (α:=V.vServeW w c k) ?_ (O.vServeW h)
 kernel_rfl
noncomputable def L113:List (FuncId × SpecT):=(153,(sWC).spec (oW2 Law.serveW))::L112
theorem okL113:Env.OK {P:=Tryz.prog,spec:=L113,ek:=ek0}:=Env.OK.cons okL112 (fn:=Tryz.f153) (by kernel_rfl) (by kernel_rfl) (by kernel_rfl) ok_f153
theorem ok_f152:SpecOK Tryz.prog 152 ((sWC).spec (oW2 Law.settleW)):=by
 refine Sig.sound (E:={P:=Tryz.prog,spec:=L113,ek:=ek0,loops:=[],n0:=0}) okL113 (fn:=Tryz.f152) (by kernel_rfl) (by rfl) ?_
 intro x k h
 obtain ⟨w,c,_⟩:=x
 refine Eq.mp (α:=V.vSettleW w c k) ?_ (O.vSettleW h)
 kernel_rfl
noncomputable def L114:List (FuncId × SpecT):=(152,(sWC).spec (oW2 Law.settleW))::L113
theorem okL114:Env.OK {P:=Tryz.prog,spec:=L114,ek:=ek0}:=Env.OK.cons okL113 (fn:=Tryz.f152) (by kernel_rfl) (by kernel_rfl) (by kernel_rfl) ok_f152
theorem ok_f94:SpecOK Tryz.prog 94 ((sWCb).spec (oStepW)):=by
 refine Sig.sound (E:={P:=Tryz.prog,spec:=L114,ek:=ek0,loops:=[],n0:=0}) okL114 (fn:=Tryz.f94) (by kernel_rfl) (by rfl) ?_
 intro x k h
 obtain ⟨w,c,_⟩:=x
 refine Eq.mp (α:=V.vStepW w c k) ?_ (O.vStepW h)
 kernel_rfl
noncomputable def L115:List (FuncId × SpecT):=(94,(sWCb).spec (oStepW))::L114
theorem okL115:Env.OK {P:=Tryz.prog,spec:=L115,ek:=ek0}:=Env.OK.cons okL114 (fn:=Tryz.f94) (by kernel_rfl) (by kernel_rfl) (by kernel_rfl) ok_f94
theorem ok_f15:SpecOK Tryz.prog 15 (cutSpec .deed 60):=by
 exact cut_sound (E:={P:=Tryz.prog,spec:=L115,ek:=ek0,loops:=[],n0:=0}) okL115 (fn:=Tryz.f15) (by kernel_rfl) (fun xs H K=>by kernel_rfl)
noncomputable def L116:List (FuncId × SpecT):=(15,cutSpec .deed 60)::L115
theorem okL116:Env.OK {P:=Tryz.prog,spec:=L116,ek:=ek0}:=Env.OK.cons okL115 (fn:=Tryz.f15) (by kernel_rfl) (by kernel_rfl) (by kernel_rfl) ok_f15
theorem ok_f31:SpecOK Tryz.prog 31 ((sWhole).spec (oWhole)):=by
 refine Sig.sound (E:={P:=Tryz.prog,spec:=L116,ek:=ek0,loops:=[(2,lWhole)],n0:=0}) okL116 (fn:=Tryz.f31) (by kernel_rfl) (by rfl) ?_
 intro x k h
 obtain ⟨c,w,_⟩:=x
 refine Eq.mp (α:=V.vWhole c w k) ?_ (O.vWhole h)
 kernel_rfl
noncomputable def L117:List (FuncId × SpecT):=(31,(sWhole).spec (oWhole))::L116
theorem okL117:Env.OK {P:=Tryz.prog,spec:=L117,ek:=ek0}:=Env.OK.cons okL116 (fn:=Tryz.f31) (by kernel_rfl) (by kernel_rfl) (by kernel_rfl) ok_f31
theorem ok_f21:SpecOK Tryz.prog 21 ((sMade).spec (oMade)):=by
 refine Sig.sound (E:={P:=Tryz.prog,spec:=L117,ek:=ek0,loops:=[(6,lMade)],n0:=0}) okL117 (fn:=Tryz.f21) (by kernel_rfl) (by rfl) ?_
 intro x k h
 obtain ⟨n,l,_⟩:=x
 refine Eq.mp (α:=V.vMade n l k) ?_ (O.vMade h)
 kernel_rfl
noncomputable def L118:List (FuncId × SpecT):=(21,(sMade).spec (oMade))::L117
theorem okL118:Env.OK {P:=Tryz.prog,spec:=L118,ek:=ek0}:=Env.OK.cons okL117 (fn:=Tryz.f21) (by kernel_rfl) (by kernel_rfl) (by kernel_rfl) ok_f21
theorem ok_f17:SpecOK Tryz.prog 17 ((sYes).spec (oYes)):=by
 refine Sig.sound (E:={P:=Tryz.prog,spec:=L118,ek:=ek0,loops:=[],n0:=0}) okL118 (fn:=Tryz.f17) (by kernel_rfl) (by rfl) ?_
 intro u k h
 refine Eq.mp (α:=V.vAwake12 u k) ?_ (O.vAwake12 h)
 kernel_rfl
noncomputable def L119:List (FuncId × SpecT):=(17,(sYes).spec (oYes))::L118
theorem okL119:Env.OK {P:=Tryz.prog,spec:=L119,ek:=ek0}:=Env.OK.cons okL118 (fn:=Tryz.f17) (by kernel_rfl) (by kernel_rfl) (by kernel_rfl) ok_f17
theorem ok_f26:SpecOK Tryz.prog 26 ((sSameJ).spec (oSameJ)):=by
 refine Sig.sound (E:={P:=Tryz.prog,spec:=L119,ek:=ek0,loops:=[(4,lSameJ)],n0:=0}) okL119 (fn:=Tryz.f26) (by kernel_rfl) (by rfl) ?_
 intro x k h
 obtain ⟨a,b,_⟩:=x
 refine Eq.mp (α:=V.vSameJ a b k) ?_ (O.vSameJ h)
 kernel_rfl
noncomputable def L120:List (FuncId × SpecT):=(26,(sSameJ).spec (oSameJ))::L119
theorem okL120:Env.OK {P:=Tryz.prog,spec:=L120,ek:=ek0}:=Env.OK.cons okL119 (fn:=Tryz.f26) (by kernel_rfl) (by kernel_rfl) (by kernel_rfl) ok_f26
theorem ok_f27:SpecOK Tryz.prog 27 ((sSameS).spec (oSameS)):=by
 refine Sig.sound (E:={P:=Tryz.prog,spec:=L120,ek:=ek0,loops:=[(4,lSameS)],n0:=0}) okL120 (fn:=Tryz.f27) (by kernel_rfl) (by rfl) ?_
 intro x k h
 obtain ⟨a,b,_⟩:=x
 refine Eq.mp (α:=V.vSameS a b k) ?_ (O.vSameS h)
 kernel_rfl
noncomputable def L121:List (FuncId × SpecT):=(27,(sSameS).spec (oSameS))::L120
theorem okL121:Env.OK {P:=Tryz.prog,spec:=L121,ek:=ek0}:=Env.OK.cons okL120 (fn:=Tryz.f27) (by kernel_rfl) (by kernel_rfl) (by kernel_rfl) ok_f27
theorem ok_f192:SpecOK Tryz.prog 192 ((sHasM).spec (oHasM)):=by
 refine Sig.sound (E:={P:=Tryz.prog,spec:=L121,ek:=ek0,loops:=[(2,lHasM)],n0:=0,sharp:=true}) okL121 (fn:=Tryz.f192) (by kernel_rfl) (by rfl) ?_
 intro x k h
 obtain ⟨s,n,_⟩:=x
 refine Eq.mp (α:=V.vHasM s n k) ?_ (O.vHasM h)
 kernel_rfl
noncomputable def L122:List (FuncId × SpecT):=(192,(sHasM).spec (oHasM))::L121
theorem okL122:Env.OK {P:=Tryz.prog,spec:=L122,ek:=ek0}:=Env.OK.cons okL121 (fn:=Tryz.f192) (by kernel_rfl) (by kernel_rfl) (by kernel_rfl) ok_f192
theorem ok_f150:SpecOK Tryz.prog 150 ((sHoldM).spec (oHoldM)):=by
 refine Sig.sound (E:={P:=Tryz.prog,spec:=L122,ek:=ek0,loops:=[(2,lHoldM)],n0:=0,sharp:=true}) okL122 (fn:=Tryz.f150) (by kernel_rfl) (by rfl) ?_
 intro x k h
 obtain ⟨m,n,_⟩:=x
 refine Eq.mp (α:=V.vHoldM m n k) ?_ (O.vHoldM h)
 kernel_rfl
noncomputable def L123:List (FuncId × SpecT):=(150,(sHoldM).spec (oHoldM))::L122
theorem okL123:Env.OK {P:=Tryz.prog,spec:=L123,ek:=ek0}:=Env.OK.cons okL122 (fn:=Tryz.f150) (by kernel_rfl) (by kernel_rfl) (by kernel_rfl) ok_f150
theorem ok_f85:SpecOK Tryz.prog 85 ((sHoldM).spec (oStateM)):=by
 refine Sig.sound (E:={P:=Tryz.prog,spec:=L123,ek:=ek0,loops:=[],n0:=0,sharp:=true}) okL123 (fn:=Tryz.f85) (by kernel_rfl) (by rfl) ?_
 intro x k h
 obtain ⟨m,n,_⟩:=x
 refine Eq.mp (α:=V.vStateM m n k) ?_ (O.vStateM h)
 kernel_rfl
noncomputable def L124:List (FuncId × SpecT):=(85,(sHoldM).spec (oStateM))::L123
theorem okL124:Env.OK {P:=Tryz.prog,spec:=L124,ek:=ek0}:=Env.OK.cons okL123 (fn:=Tryz.f85) (by kernel_rfl) (by kernel_rfl) (by kernel_rfl) ok_f85
theorem ok_f161:SpecOK Tryz.prog 161 ((sPlanned).spec (oPlanned)):=by
 refine Sig.sound (E:={P:=Tryz.prog,spec:=L124,ek:=ek0,loops:=[],n0:=0,sharp:=true}) okL124 (fn:=Tryz.f161) (by kernel_rfl) (by rfl) ?_
 intro x k h
 obtain ⟨j,_⟩:=x
 refine Eq.mp (α:=V.vPlanned j k) ?_ (O.vPlanned h)
 kernel_rfl
noncomputable def L125:List (FuncId × SpecT):=(161,(sPlanned).spec (oPlanned))::L124
theorem okL125:Env.OK {P:=Tryz.prog,spec:=L125,ek:=ek0}:=Env.OK.cons okL124 (fn:=Tryz.f161) (by kernel_rfl) (by kernel_rfl) (by kernel_rfl) ok_f161
theorem ok_f106:SpecOK Tryz.prog 106 ((sFreeM).spec (oFreeM)):=by
 refine Sig.sound (E:={P:=Tryz.prog,spec:=L125,ek:=ek0,loops:=[(3,lFree1),(10,lFree2)],n0:=0,sharp:=true}) okL125 (fn:=Tryz.f106) (by kernel_rfl) (by rfl) ?_
 intro x k h
 obtain ⟨m,t,b,_⟩:=x
 refine Eq.mp (α:=V.vFreeM m t b k) ?_ (O.vFreeM h)
 kernel_rfl
noncomputable def L126:List (FuncId × SpecT):=(106,(sFreeM).spec (oFreeM))::L125
theorem okL126:Env.OK {P:=Tryz.prog,spec:=L126,ek:=ek0}:=Env.OK.cons okL125 (fn:=Tryz.f106) (by kernel_rfl) (by kernel_rfl) (by kernel_rfl) ok_f106
theorem ok_f191:SpecOK Tryz.prog 191 ((sSooner).spec (oSooner)):=by
 refine Sig.sound (E:={P:=Tryz.prog,spec:=L126,ek:=ek0,loops:=[],n0:=0,sharp:=true}) okL126 (fn:=Tryz.f191) (by kernel_rfl) (by rfl) ?_
 intro x k h
 obtain ⟨b,t,l,_⟩:=x
 refine Eq.mp (α:=V.vSooner b t l k) ?_ (O.vSooner h)
 kernel_rfl
noncomputable def L127:List (FuncId × SpecT):=(191,(sSooner).spec (oSooner))::L126
theorem okL127:Env.OK {P:=Tryz.prog,spec:=L127,ek:=ek0}:=Env.OK.cons okL126 (fn:=Tryz.f191) (by kernel_rfl) (by kernel_rfl) (by kernel_rfl) ok_f191
theorem ok_f148:SpecOK Tryz.prog 148 ((sTimesM).spec (oTimesM)):=by
 refine Sig.sound (E:={P:=Tryz.prog,spec:=L127,ek:=ek0,loops:=[(3,lTimes1),(8,lTimes2)],n0:=0,sharp:=true}) okL127 (fn:=Tryz.f148) (by kernel_rfl) (by rfl) ?_
 intro x k h
 obtain ⟨m,_⟩:=x
 refine Eq.mp (α:=V.vTimesM m k) ?_ (O.vTimesM h)
 kernel_rfl
noncomputable def L128:List (FuncId × SpecT):=(148,(sTimesM).spec (oTimesM))::L127
theorem okL128:Env.OK {P:=Tryz.prog,spec:=L128,ek:=ek0}:=Env.OK.cons okL127 (fn:=Tryz.f148) (by kernel_rfl) (by kernel_rfl) (by kernel_rfl) ok_f148
theorem ok_f83:SpecOK Tryz.prog 83 ((sStepsM).spec (oStepsM)):=by
 refine Sig.sound (E:={P:=Tryz.prog,spec:=L128,ek:=ek0,loops:=[(4,lStepsM)],n0:=0,sharp:=true}) okL128 (fn:=Tryz.f83) (by kernel_rfl) (by rfl) ?_
 intro x k h
 obtain ⟨m,_⟩:=x
 refine Eq.mp (α:=V.vStepsM m k) ?_ (O.vStepsM h)
 kernel_rfl
noncomputable def L129:List (FuncId × SpecT):=(83,(sStepsM).spec (oStepsM))::L128
theorem okL129:Env.OK {P:=Tryz.prog,spec:=L129,ek:=ek0}:=Env.OK.cons okL128 (fn:=Tryz.f83) (by kernel_rfl) (by kernel_rfl) (by kernel_rfl) ok_f83
theorem ok_f155:SpecOK Tryz.prog 155 ((sRoomM).spec (oRoomM)):=by
 refine Sig.sound (E:={P:=Tryz.prog,spec:=L129,ek:=ek0,loops:=[(5,lRoomM)],n0:=0,sharp:=true}) okL129 (fn:=Tryz.f155) (by kernel_rfl) (by rfl) ?_
 intro x k h
 obtain ⟨m,a,l,w,b,_⟩:=x
 refine Eq.mp (α:=V.vRoomM m a l w b k) ?_ (O.vRoomM h)
 kernel_rfl
noncomputable def L130:List (FuncId × SpecT):=(155,(sRoomM).spec (oRoomM))::L129
theorem okL130:Env.OK {P:=Tryz.prog,spec:=L130,ek:=ek0}:=Env.OK.cons okL129 (fn:=Tryz.f155) (by kernel_rfl) (by kernel_rfl) (by kernel_rfl) ok_f155
theorem ok_f154:SpecOK Tryz.prog 154 ((sGetM).spec (oGetM)):=by
 refine Sig.sound (E:={P:=Tryz.prog,spec:=L130,ek:=ek0,loops:=[],n0:=0,sharp:=true}) okL130 (fn:=Tryz.f154) (by kernel_rfl) (by rfl) ?_
 intro x k h
 obtain ⟨m,n,_⟩:=x
 refine Eq.mp (α:=V.vGetM m n k) ?_ (O.vGetM h)
 kernel_rfl
noncomputable def L131:List (FuncId × SpecT):=(154,(sGetM).spec (oGetM))::L130
theorem okL131:Env.OK {P:=Tryz.prog,spec:=L131,ek:=ek0}:=Env.OK.cons okL130 (fn:=Tryz.f154) (by kernel_rfl) (by kernel_rfl) (by kernel_rfl) ok_f154
theorem ok_f98:SpecOK Tryz.prog 98 ((sFitsM).spec (oFitsM)):=by
 refine Sig.sound (E:={P:=Tryz.prog,spec:=L131,ek:=ek0,loops:=[],n0:=0,sharp:=true}) okL131 (fn:=Tryz.f98) (by kernel_rfl) (by rfl) ?_
 intro x k h
 obtain ⟨m,x,_⟩:=x
 refine Eq.mp (α:=V.vFitsM m x k) ?_ (O.vFitsM h)
 kernel_rfl
noncomputable def L132:List (FuncId × SpecT):=(98,(sFitsM).spec (oFitsM))::L131
theorem okL132:Env.OK {P:=Tryz.prog,spec:=L132,ek:=ek0}:=Env.OK.cons okL131 (fn:=Tryz.f98) (by kernel_rfl) (by kernel_rfl) (by kernel_rfl) ok_f98
theorem ok_f109:SpecOK Tryz.prog 109 ((sAhead).spec (oAhead)):=by
 refine Sig.sound (E:={P:=Tryz.prog,spec:=L132,ek:=ek0,loops:=[],n0:=0,sharp:=true}) okL132 (fn:=Tryz.f109) (by kernel_rfl) (by rfl) ?_
 intro x k h
 obtain ⟨a,b,_⟩:=x
 refine Eq.mp (α:=V.vAhead a b k) ?_ (O.vAhead h)
 kernel_rfl
noncomputable def L133:List (FuncId × SpecT):=(109,(sAhead).spec (oAhead))::L132
theorem okL133:Env.OK {P:=Tryz.prog,spec:=L133,ek:=ek0}:=Env.OK.cons okL132 (fn:=Tryz.f109) (by kernel_rfl) (by kernel_rfl) (by kernel_rfl) ok_f109
theorem ok_f157:SpecOK Tryz.prog 157 ((sDropM).spec (oDropM)):=by
 refine Sig.sound (E:={P:=Tryz.prog,spec:=L133,ek:=ek0,loops:=[(2,lDropM)],n0:=0,sharp:=true}) okL133 (fn:=Tryz.f157) (by kernel_rfl) (by rfl) ?_
 intro x k h
 obtain ⟨m,j,_⟩:=x
 refine Eq.mp (α:=V.vDropM m j k) ?_ (O.vDropM h)
 kernel_rfl
noncomputable def L134:List (FuncId × SpecT):=(157,(sDropM).spec (oDropM))::L133
theorem okL134:Env.OK {P:=Tryz.prog,spec:=L134,ek:=ek0}:=Env.OK.cons okL133 (fn:=Tryz.f157) (by kernel_rfl) (by kernel_rfl) (by kernel_rfl) ok_f157
theorem ok_f99:SpecOK Tryz.prog 99 ((sBeginM).spec (oBeginM)):=by
 refine Sig.sound (E:={P:=Tryz.prog,spec:=L134,ek:=ek0,loops:=[(5,lBeginM)],n0:=0,sharp:=true}) okL134 (fn:=Tryz.f99) (by kernel_rfl) (by rfl) ?_
 intro x k h
 obtain ⟨m,n,_⟩:=x
 refine Eq.mp (α:=V.vBeginM m n k) ?_ (O.vBeginM h)
 kernel_rfl
noncomputable def L135:List (FuncId × SpecT):=(99,(sBeginM).spec (oBeginM))::L134
theorem okL135:Env.OK {P:=Tryz.prog,spec:=L135,ek:=ek0}:=Env.OK.cons okL134 (fn:=Tryz.f99) (by kernel_rfl) (by kernel_rfl) (by kernel_rfl) ok_f99
theorem ok_f35:SpecOK Tryz.prog 35 ((sCommitM).spec (oCommitM)):=by
 refine Sig.sound (E:={P:=Tryz.prog,spec:=L135,ek:=ek0,loops:=[],n0:=0,sharp:=true}) okL135 (fn:=Tryz.f35) (by kernel_rfl) (by rfl) ?_
 intro x k h
 obtain ⟨m,x,_⟩:=x
 refine Eq.mp (α:=V.vCommitM m x k) ?_ (O.vCommitM h)
 kernel_rfl
noncomputable def L136:List (FuncId × SpecT):=(35,(sCommitM).spec (oCommitM))::L135
theorem okL136:Env.OK {P:=Tryz.prog,spec:=L136,ek:=ek0}:=Env.OK.cons okL135 (fn:=Tryz.f35) (by kernel_rfl) (by kernel_rfl) (by kernel_rfl) ok_f35
theorem ok_f158:SpecOK Tryz.prog 158 ((sTell).spec (oTell)):=by
 refine Sig.sound (E:={P:=Tryz.prog,spec:=L136,ek:=ek0,loops:=[],n0:=0,sharp:=true}) okL136 (fn:=Tryz.f158) (by kernel_rfl) (by rfl) ?_
 intro x k h
 obtain ⟨j,_⟩:=x
 refine Eq.mp (α:=V.vTell j k) ?_ (O.vTell h)
 kernel_rfl
noncomputable def L137:List (FuncId × SpecT):=(158,(sTell).spec (oTell))::L136
theorem okL137:Env.OK {P:=Tryz.prog,spec:=L137,ek:=ek0}:=Env.OK.cons okL136 (fn:=Tryz.f158) (by kernel_rfl) (by kernel_rfl) (by kernel_rfl) ok_f158
theorem ok_f156:SpecOK Tryz.prog 156 ((sLiveM).spec (oLiveM)):=by
 refine Sig.sound (E:={P:=Tryz.prog,spec:=L137,ek:=ek0,loops:=[(3,lLiveM)],n0:=0,sharp:=true}) okL137 (fn:=Tryz.f156) (by kernel_rfl) (by rfl) ?_
 intro x k h
 obtain ⟨m,_⟩:=x
 refine Eq.mp (α:=V.vLiveM m k) ?_ (O.vLiveM h)
 kernel_rfl
noncomputable def L138:List (FuncId × SpecT):=(156,(sLiveM).spec (oLiveM))::L137
theorem okL138:Env.OK {P:=Tryz.prog,spec:=L138,ek:=ek0}:=Env.OK.cons okL137 (fn:=Tryz.f156) (by kernel_rfl) (by kernel_rfl) (by kernel_rfl) ok_f156
theorem ok_f100:SpecOK Tryz.prog 100 ((sReqM).spec (oReqM Law.submitM)):=by
 refine Sig.sound (E:={P:=Tryz.prog,spec:=L138,ek:=ek0,loops:=[],n0:=0,sharp:=true}) okL138 (fn:=Tryz.f100) (by kernel_rfl) (by rfl) ?_
 intro x k h
 obtain ⟨m,r,_⟩:=x
 refine Eq.mp (α:=V.vSubM m r k) ?_ (O.vSubM h)
 kernel_rfl
noncomputable def L139:List (FuncId × SpecT):=(100,(sReqM).spec (oReqM Law.submitM))::L138
theorem okL139:Env.OK {P:=Tryz.prog,spec:=L139,ek:=ek0}:=Env.OK.cons okL138 (fn:=Tryz.f100) (by kernel_rfl) (by kernel_rfl) (by kernel_rfl) ok_f100
theorem ok_f101:SpecOK Tryz.prog 101 ((sReqM).spec (oReqM Law.endM)):=by
 refine Sig.sound (E:={P:=Tryz.prog,spec:=L139,ek:=ek0,loops:=[],n0:=0,sharp:=true}) okL139 (fn:=Tryz.f101) (by kernel_rfl) (by rfl) ?_
 intro x k h
 obtain ⟨m,r,_⟩:=x
 refine Eq.mp (α:=V.vEndM m r k) ?_ (O.vEndM h)
 kernel_rfl
noncomputable def L140:List (FuncId × SpecT):=(101,(sReqM).spec (oReqM Law.endM))::L139
theorem okL140:Env.OK {P:=Tryz.prog,spec:=L140,ek:=ek0}:=Env.OK.cons okL139 (fn:=Tryz.f101) (by kernel_rfl) (by kernel_rfl) (by kernel_rfl) ok_f101
theorem ok_f102:SpecOK Tryz.prog 102 ((sReqM).spec (oReqM Law.turnM)):=by
 refine Sig.sound (E:={P:=Tryz.prog,spec:=L140,ek:=ek0,loops:=[],n0:=0,sharp:=true}) okL140 (fn:=Tryz.f102) (by kernel_rfl) (by rfl) ?_
 intro x k h
 obtain ⟨m,r,_⟩:=x
 refine Eq.mp (α:=V.vTurnM m r k) ?_ (O.vTurnM h)
 kernel_rfl
noncomputable def L141:List (FuncId × SpecT):=(102,(sReqM).spec (oReqM Law.turnM))::L140
theorem okL141:Env.OK {P:=Tryz.prog,spec:=L141,ek:=ek0}:=Env.OK.cons okL140 (fn:=Tryz.f102) (by kernel_rfl) (by kernel_rfl) (by kernel_rfl) ok_f102
theorem ok_f103:SpecOK Tryz.prog 103 ((sReqM).spec (oReqM Law.nodeM)):=by
 refine Sig.sound (E:={P:=Tryz.prog,spec:=L141,ek:=ek0,loops:=[],n0:=0,sharp:=true}) okL141 (fn:=Tryz.f103) (by kernel_rfl) (by rfl) ?_
 intro x k h
 obtain ⟨m,r,_⟩:=x
 refine Eq.mp (α:=V.vNodeM m r k) ?_ (O.vNodeM h)
 kernel_rfl
noncomputable def L142:List (FuncId × SpecT):=(103,(sReqM).spec (oReqM Law.nodeM))::L141
theorem okL142:Env.OK {P:=Tryz.prog,spec:=L142,ek:=ek0}:=Env.OK.cons okL141 (fn:=Tryz.f103) (by kernel_rfl) (by kernel_rfl) (by kernel_rfl) ok_f103
theorem ok_f159:SpecOK Tryz.prog 159 ((sLiveM).spec (oNextM)):=by
 refine Sig.sound (E:={P:=Tryz.prog,spec:=L142,ek:=ek0,loops:=[(3,lNextM)],n0:=0,sharp:=true}) okL142 (fn:=Tryz.f159) (by kernel_rfl) (by rfl) ?_
 intro x k h
 obtain ⟨m,_⟩:=x
 refine Eq.mp (α:=V.vNextM m k) ?_ (O.vNextM h)
 kernel_rfl
noncomputable def L143:List (FuncId × SpecT):=(159,(sLiveM).spec (oNextM))::L142
theorem okL143:Env.OK {P:=Tryz.prog,spec:=L143,ek:=ek0}:=Env.OK.cons okL142 (fn:=Tryz.f159) (by kernel_rfl) (by kernel_rfl) (by kernel_rfl) ok_f159
theorem ok_f160:SpecOK Tryz.prog 160 ((sHapM).spec (oHapM)):=by
 refine Sig.sound (E:={P:=Tryz.prog,spec:=L143,ek:=ek0,loops:=[(1,lHap1),(8,lHap2),(12,lHap3)],n0:=0,sharp:=true}) okL143 (fn:=Tryz.f160) (by kernel_rfl) (by rfl) ?_
 intro x k h
 obtain ⟨m,_⟩:=x
 refine Eq.mp (α:=V.vHapM m k) ?_ (O.vHapM h)
 kernel_rfl
noncomputable def L144:List (FuncId × SpecT):=(160,(sHapM).spec (oHapM))::L143
theorem okL144:Env.OK {P:=Tryz.prog,spec:=L144,ek:=ek0}:=Env.OK.cons okL143 (fn:=Tryz.f160) (by kernel_rfl) (by kernel_rfl) (by kernel_rfl) ok_f160
theorem ok_f104:SpecOK Tryz.prog 104 ((sTickM).spec (oTickM)):=by
 refine Sig.sound (E:={P:=Tryz.prog,spec:=L144,ek:=ek0,loops:=[(5,lTickM)],n0:=0,sharp:=true}) okL144 (fn:=Tryz.f104) (by kernel_rfl) (by rfl) ?_
 intro x k h
 obtain ⟨m,n,_⟩:=x
 refine Eq.mp (α:=V.vTickM m n k) ?_ (O.vTickM h)
 kernel_rfl
noncomputable def L145:List (FuncId × SpecT):=(104,(sTickM).spec (oTickM))::L144
theorem okL145:Env.OK {P:=Tryz.prog,spec:=L145,ek:=ek0}:=Env.OK.cons okL144 (fn:=Tryz.f104) (by kernel_rfl) (by kernel_rfl) (by kernel_rfl) ok_f104
theorem ok_f105:SpecOK Tryz.prog 105 ((sCountM).spec (oCountM)):=by
 refine Sig.sound (E:={P:=Tryz.prog,spec:=L145,ek:=ek0,loops:=[(3,lCount1),(8,lCount2)],n0:=0,sharp:=true}) okL145 (fn:=Tryz.f105) (by kernel_rfl) (by rfl) ?_
 intro x k h
 obtain ⟨m,j,a,b,_⟩:=x
 refine Eq.mp (α:=V.vCountM m j a b k) ?_ (O.vCountM h)
 kernel_rfl
noncomputable def L146:List (FuncId × SpecT):=(105,(sCountM).spec (oCountM))::L145
theorem okL146:Env.OK {P:=Tryz.prog,spec:=L146,ek:=ek0}:=Env.OK.cons okL145 (fn:=Tryz.f105) (by kernel_rfl) (by kernel_rfl) (by kernel_rfl) ok_f105
theorem ok_f36:SpecOK Tryz.prog 36 ((sReqM).spec (oReqM Law.doM)):=by
 refine Sig.sound (E:={P:=Tryz.prog,spec:=L146,ek:=ek0,loops:=[],n0:=0,sharp:=true}) okL146 (fn:=Tryz.f36) (by kernel_rfl) (by rfl) ?_
 intro x k h
 obtain ⟨m,r,_⟩:=x
 refine Eq.mp (α:=V.vDoM m r k) ?_ (O.vDoM h)
 kernel_rfl
noncomputable def L147:List (FuncId × SpecT):=(36,(sReqM).spec (oReqM Law.doM))::L146
theorem okL147:Env.OK {P:=Tryz.prog,spec:=L147,ek:=ek0}:=Env.OK.cons okL146 (fn:=Tryz.f36) (by kernel_rfl) (by kernel_rfl) (by kernel_rfl) ok_f36
theorem ok_f18:SpecOK Tryz.prog 18 ((sNewM).spec (oNewM)):=by
 refine Sig.sound (E:={P:=Tryz.prog,spec:=L147,ek:=ek0,loops:=[],n0:=0,sharp:=true}) okL147 (fn:=Tryz.f18) (by kernel_rfl) (by rfl) ?_
 intro x k h
 obtain ⟨n,_⟩:=x
 refine Eq.mp (α:=V.vNewM n k) ?_ (O.vNewM h)
 kernel_rfl
noncomputable def L148:List (FuncId × SpecT):=(18,(sNewM).spec (oNewM))::L147
theorem okL148:Env.OK {P:=Tryz.prog,spec:=L148,ek:=ek0}:=Env.OK.cons okL147 (fn:=Tryz.f18) (by kernel_rfl) (by kernel_rfl) (by kernel_rfl) ok_f18
theorem ok_f19:SpecOK Tryz.prog 19 ((sDoP).spec (oDoP)):=by
 refine Sig.sound (E:={P:=Tryz.prog,spec:=L148,ek:=ek0,loops:=[],n0:=0,sharp:=true}) okL148 (fn:=Tryz.f19) (by kernel_rfl) (by rfl) ?_
 intro x k h
 obtain ⟨c,m,d,_⟩:=x
 refine Eq.mp (α:=V.vDoP c m d k) ?_ (O.vDoP h)
 kernel_rfl
noncomputable def L149:List (FuncId × SpecT):=(19,(sDoP).spec (oDoP))::L148
theorem okL149:Env.OK {P:=Tryz.prog,spec:=L149,ek:=ek0}:=Env.OK.cons okL148 (fn:=Tryz.f19) (by kernel_rfl) (by kernel_rfl) (by kernel_rfl) ok_f19
theorem ok_f20:SpecOK Tryz.prog 20 ((sUnlike).spec (oUnlike)):=by
 refine Sig.sound (E:={P:=Tryz.prog,spec:=L149,ek:=ek0,loops:=[(5,lUnlike)],n0:=0,sharp:=true}) okL149 (fn:=Tryz.f20) (by kernel_rfl) (by rfl) ?_
 intro x k h
 obtain ⟨c,m,_⟩:=x
 refine Eq.mp (α:=V.vUnlike c m k) ?_ (O.vUnlike h)
 kernel_rfl
noncomputable def L150:List (FuncId × SpecT):=(20,(sUnlike).spec (oUnlike))::L149
theorem okL150:Env.OK {P:=Tryz.prog,spec:=L150,ek:=ek0}:=Env.OK.cons okL149 (fn:=Tryz.f20) (by kernel_rfl) (by kernel_rfl) (by kernel_rfl) ok_f20
theorem ok_f3:SpecOK Tryz.prog 3 ((sPlays).spec (oPlays)):=by
 refine Sig.sound (E:={P:=Tryz.prog,spec:=L150,ek:=ek0,loops:=[(9,lPlays)],n0:=0,sharp:=true}) okL150 (fn:=Tryz.f3) (by kernel_rfl) (by rfl) ?_
 intro x k h
 obtain ⟨n,l,_⟩:=x
 refine Eq.mp (α:=V.vPlays n l k) ?_ (O.vPlays h)
 kernel_rfl
noncomputable def L151:List (FuncId × SpecT):=(3,(sPlays).spec (oPlays))::L150
theorem okL151:Env.OK {P:=Tryz.prog,spec:=L151,ek:=ek0}:=Env.OK.cons okL150 (fn:=Tryz.f3) (by kernel_rfl) (by kernel_rfl) (by kernel_rfl) ok_f3
end Go.Proofs.YtnoinchifbckcaaGreatDoor.core
