import Derived.Test.YtnoinchifbckcaaGreatDoorAxP8
import Derived.Test.YtnoinchifbckcaaGreatDoorAxO28
import Derived.Test.YtnoinchifbckcaaGreatDoorAxO22
import Derived.Test.YtnoinchifbckcaaGreatDoorAxO21
import Derived.Test.YtnoinchifbckcaaGreatDoorAxI
import Derived.Test.YtnoinchifbckcaaGreatDoorProg
import Derived.Shelf.Lays7
import Derived.KernelRfl
set_option linter.all false
namespace Go.Proofs
open Go.Shelf
def Tryz.lays29_ren:Go.Shelf.Ren:=⟨fun |29=>287 |n=>n,fun |22=>70 |3=>3 |4=>4 |25=>244 |54=>351 |0=>0 |5=>5 |n=>n,fun |1=>0 |n=>n⟩
theorem Tryz.lays29:Go.Proofs.Lays7.n29 Tryz.prog Tryz.lays29_ren:={
 mixed:=by kernel_rfl
 f29:=Tryz.func287.trans (congrArg some (by kernel_rfl))
 t0:=Tryz.underlying0
 a0:=Tryz.isAgg0
 z0:=Tryz.sizeOf0
 v0:=Tryz.zeroValue0
 i0:=by kernel_rfl
 t3:=Tryz.underlying3
 a3:=Tryz.isAgg3
 z3:=Tryz.sizeOf3
 v3:=Tryz.zeroValue3
 i3:=by kernel_rfl
 t4:=Tryz.underlying4
 a4:=Tryz.isAgg4
 z4:=Tryz.sizeOf4
 v4:=Tryz.zeroValue4
 i4:=by kernel_rfl
 t5:=Tryz.underlying5
 a5:=Tryz.isAgg5
 z5:=Tryz.sizeOf5
 v5:=Tryz.zeroValue5
 i5:=by kernel_rfl
 t22:=Tryz.underlying70
 a22:=Tryz.isAgg70
 z22:=Tryz.sizeOf70
 v22:=Tryz.zeroValue70
 i22:=by kernel_rfl
 t25:=Tryz.underlying244
 a25:=Tryz.isAgg244
 z25:=Tryz.sizeOf244
 v25:=Tryz.zeroValue244
 i25:=by kernel_rfl
 t54:=Tryz.underlying351
 a54:=Tryz.isAgg351
 z54:=Tryz.sizeOf351
 g1:=by kernel_rfl}
end Go.Proofs
namespace Go.Proofs.YtnoinchifbckcaaGreatDoor.core
open Go.Ax Go.Ax.Sp
set_option linter.unusedVariables false
set_option maxRecDepth 1000000
noncomputable section
noncomputable instance surr:Surr:=⟨True,[(0,tzTab)]⟩
def ek0:List (TypeId × EK):=[(2,.i64),(3,.i64),(4,.bool),(5,.u8),(9,.str),(33,.req),(35,.choice),(37,.deed),(65,.reply),(70,.u64),(72,.job),(84,.item),(158,.step),(226,.span)]
abbrev LS:=List (FuncId × SpecT)
@[reducible] def en (L:LS) (l:List (Nat × LoopAnn)) (b:Bool):LEnv:={P:=Tryz.prog,spec:=L,ek:=ek0,loops:=l,n0:=0,sharp:=b}
abbrev OKL (L:LS):Prop:=Env.OK {P:=Tryz.prog,spec:=L,ek:=ek0}
abbrev SP (f:FuncId) (S:SpecT):Prop:=SpecOK Tryz.prog f S
theorem okE0:OKL []:=Env.OK.nil
def L0:LS:=[]
theorem okL0:OKL L0:=okE0
theorem ok_f210:SP 210 (sIdxI.spec oIdxI):=Sig.sound (E:=en L0 [(2,lIdxI)] false) okL0 (fn:=Tryz.f210) (by kernel_rfl) (by rfl) fun ⟨l,n,_⟩ k h=>Eq.mp (α:=V.vIdxI l n k) (by kernel_rfl) (O.vIdxI h)
def L1:LS:=(210,sIdxI.spec oIdxI)::L0
theorem okL1:OKL L1:=Env.OK.cons okL0 (fn:=Tryz.f210) (by kernel_rfl) (by kernel_rfl) (by kernel_rfl) ok_f210
theorem ok_f164:SP 164 (sConI.spec oConI):=Sig.sound (E:=en L1 [] false) okL1 (fn:=Tryz.f164) (by kernel_rfl) (by rfl) fun ⟨l,n,_⟩ k h=>Eq.mp (α:=V.vConI l n k) (by kernel_rfl) (O.vConI h)
def L2:LS:=(164,sConI.spec oConI)::L1
theorem okL2:OKL L2:=Env.OK.cons okL1 (fn:=Tryz.f164) (by kernel_rfl) (by kernel_rfl) (by kernel_rfl) ok_f164
theorem ok_f253:SP 253 (sNum1.spec oNaN):=Sig.sound (E:=en L2 [] false) okL2 (fn:=Tryz.f253) (by kernel_rfl) (by rfl) fun ⟨n,_⟩ k h=>Eq.mp (α:=V.vNaN n k) (by kernel_rfl) (O.vNaN h)
def L3:LS:=(253,sNum1.spec oNaN)::L2
theorem okL3:OKL L3:=Env.OK.cons okL2 (fn:=Tryz.f253) (by kernel_rfl) (by kernel_rfl) (by kernel_rfl) ok_f253
theorem ok_f209:SP 209 (sNum2.spec oCmpI):=Sig.sound (E:=en L3 [] false) okL3 (fn:=Tryz.f209) (by kernel_rfl) (by rfl) fun ⟨n,m,_⟩ k h=>Eq.mp (α:=V.vCmpI n m k) (by kernel_rfl) (O.vCmpI h)
def L4:LS:=(209,sNum2.spec oCmpI)::L3
theorem okL4:OKL L4:=Env.OK.cons okL3 (fn:=Tryz.f209) (by kernel_rfl) (by kernel_rfl) (by kernel_rfl) ok_f209
theorem ok_f208:SP 208 (sOrI.spec oOrI):=Sig.sound (E:=en L4 [(3,lOrI)] false) okL4 (fn:=Tryz.f208) (by kernel_rfl) (by rfl) fun ⟨l,_⟩ k h=>Eq.mp (α:=V.vOrI l k) (by kernel_rfl) (O.vOrI h)
def L5:LS:=(208,sOrI.spec oOrI)::L4
theorem okL5:OKL L5:=Env.OK.cons okL4 (fn:=Tryz.f208) (by kernel_rfl) (by kernel_rfl) (by kernel_rfl) ok_f208
theorem ok_f270:SP 270 (sOrI.spec oLeastI):=Sig.sound (E:=en L5 [(3,lLeastI)] false) okL5 (fn:=Tryz.f270) (by kernel_rfl) (by rfl) fun ⟨l,_⟩ k h=>Eq.mp (α:=V.vLeastI l k) (by kernel_rfl) (O.vLeastI h)
def L6:LS:=(270,sOrI.spec oLeastI)::L5
theorem okL6:OKL L6:=Env.OK.cons okL5 (fn:=Tryz.f270) (by kernel_rfl) (by kernel_rfl) (by kernel_rfl) ok_f270
theorem ok_f190:SP 190 (sSet1.spec oOnes):=Sig.sound (E:=en L6 [] false) okL6 (fn:=Tryz.f190) (by kernel_rfl) (by rfl) fun ⟨x,_⟩ k h=>Eq.mp (α:=V.vOnes x k) (by kernel_rfl) (O.vOnes h)
def L7:LS:=(190,sSet1.spec oOnes)::L6
theorem okL7:OKL L7:=Env.OK.cons okL6 (fn:=Tryz.f190) (by kernel_rfl) (by kernel_rfl) (by kernel_rfl) ok_f190
theorem ok_f287:SP 287 (sSet1.spec oTZ):=by
 exact tz_spec Tryz.lays29 rfl (List.mem_singleton.2 rfl)
def L8:LS:=(287,sSet1.spec oTZ)::L7
theorem okL8:OKL L8:=Env.OK.cons okL7 (fn:=Tryz.f287) (by kernel_rfl) (by kernel_rfl) (by kernel_rfl) ok_f287
theorem ok_f147:SP 147 (sSet1.spec oOnes):=Sig.sound (E:=en L8 [] false) okL8 (fn:=Tryz.f147) (by kernel_rfl) (by rfl) fun ⟨x,_⟩ k h=>Eq.mp (α:=V.vLenS x k) (by kernel_rfl) (O.vLenS h)
def L9:LS:=(147,sSet1.spec oOnes)::L8
theorem okL9:OKL L9:=Env.OK.cons okL8 (fn:=Tryz.f147) (by kernel_rfl) (by kernel_rfl) (by kernel_rfl) ok_f147
theorem ok_f279:SP 279 (sSet1.spec oLow):=Sig.sound (E:=en L9 [] false) okL9 (fn:=Tryz.f279) (by kernel_rfl) (by rfl) fun ⟨x,_⟩ k h=>Eq.mp (α:=V.vLowS x k) (by kernel_rfl) (O.vLowS h)
def L10:LS:=(279,sSet1.spec oLow)::L9
theorem okL10:OKL L10:=Env.OK.cons okL9 (fn:=Tryz.f279) (by kernel_rfl) (by kernel_rfl) (by kernel_rfl) ok_f279
theorem ok_f149:SP 149 (sHas.spec oHas):=Sig.sound (E:=en L10 [] false) okL10 (fn:=Tryz.f149) (by kernel_rfl) (by rfl) fun ⟨x,n,_⟩ k h=>Eq.mp (α:=V.vHas x n k) (by kernel_rfl) (O.vHas h)
def L11:LS:=(149,sHas.spec oHas)::L10
theorem okL11:OKL L11:=Env.OK.cons okL10 (fn:=Tryz.f149) (by kernel_rfl) (by kernel_rfl) (by kernel_rfl) ok_f149
theorem ok_f267:SP 267 (sWith.spec oWith):=Sig.sound (E:=en L11 [] false) okL11 (fn:=Tryz.f267) (by kernel_rfl) (by rfl) fun ⟨x,n,_⟩ k h=>Eq.mp (α:=V.vWith x n k) (by kernel_rfl) (O.vWith h)
def L12:LS:=(267,sWith.spec oWith)::L11
theorem okL12:OKL L12:=Env.OK.cons okL11 (fn:=Tryz.f267) (by kernel_rfl) (by kernel_rfl) (by kernel_rfl) ok_f267
theorem ok_f269:SP 269 (sWith.spec oWithout):=Sig.sound (E:=en L12 [] false) okL12 (fn:=Tryz.f269) (by kernel_rfl) (by rfl) fun ⟨x,n,_⟩ k h=>Eq.mp (α:=V.vWithout x n k) (by kernel_rfl) (O.vWithout h)
def L13:LS:=(269,sWith.spec oWithout)::L12
theorem okL13:OKL L13:=Env.OK.cons okL12 (fn:=Tryz.f269) (by kernel_rfl) (by kernel_rfl) (by kernel_rfl) ok_f269
theorem ok_f143:SP 143 (sAllS.spec oAllS):=Sig.sound (E:=en L13 [] false) okL13 (fn:=Tryz.f143) (by kernel_rfl) (by rfl) fun ⟨n,_⟩ k h=>Eq.mp (α:=V.vAllS n k) (by kernel_rfl) (O.vAllS h)
def L14:LS:=(143,sAllS.spec oAllS)::L13
theorem okL14:OKL L14:=Env.OK.cons okL13 (fn:=Tryz.f143) (by kernel_rfl) (by kernel_rfl) (by kernel_rfl) ok_f143
theorem ok_f264:SP 264 (sFirst.spec oFirst):=Sig.sound (E:=en L14 [(5,lFirst)] false) okL14 (fn:=Tryz.f264) (by kernel_rfl) (by rfl) fun ⟨x,n,_⟩ k h=>Eq.mp (α:=V.vFirst x n k) (by kernel_rfl) (O.vFirst h)
def L15:LS:=(264,sFirst.spec oFirst)::L14
theorem okL15:OKL L15:=Env.OK.cons okL14 (fn:=Tryz.f264) (by kernel_rfl) (by kernel_rfl) (by kernel_rfl) ok_f264
theorem ok_f89:SP 89 (sCloneT.spec oCloneT):=Sig.sound (E:=en L15 [] false) okL15 (fn:=Tryz.f89) (by kernel_rfl) (by rfl) fun ⟨l,_⟩ k h=>Eq.mp (α:=V.vCloneT l k) (by kernel_rfl) (O.vCloneT h)
def L16:LS:=(89,sCloneT.spec oCloneT)::L15
theorem okL16:OKL L16:=Env.OK.cons okL15 (fn:=Tryz.f89) (by kernel_rfl) (by kernel_rfl) (by kernel_rfl) ok_f89
theorem ok_f88:SP 88 (sNoneP.spec oNoneP):=by
 refine Sig.sound (E:=en L16 [] false) okL16 (fn:=Tryz.f88) (by kernel_rfl) (by rfl) ?_
 intro x k h
 obtain ⟨p,_⟩:=x
 cases p with
 |none=>exact Eq.mp (α:=V.vNonePN k) (by kernel_rfl) (O.vNonePN h)
 |some p=>exact Eq.mp (α:=V.vNoneP p k) (by kernel_rfl) (O.vNoneP h)
def L17:LS:=(88,sNoneP.spec oNoneP)::L16
theorem okL17:OKL L17:=Env.OK.cons okL16 (fn:=Tryz.f88) (by kernel_rfl) (by kernel_rfl) (by kernel_rfl) ok_f88
theorem ok_f40:SP 40 (sPInt.spec oNow):=Sig.sound (E:=en L17 [] false) okL17 (fn:=Tryz.f40) (by kernel_rfl) (by rfl) fun ⟨p,_⟩ k h=>Eq.mp (α:=V.vNow p k) (by kernel_rfl) (O.vNow h)
def L18:LS:=(40,sPInt.spec oNow)::L17
theorem okL18:OKL L18:=Env.OK.cons okL17 (fn:=Tryz.f40) (by kernel_rfl) (by kernel_rfl) (by kernel_rfl) ok_f40
theorem ok_f24:SP 24 (sPSteps.spec oPSteps):=Sig.sound (E:=en L18 [] false) okL18 (fn:=Tryz.f24) (by kernel_rfl) (by rfl) fun ⟨p,_⟩ k h=>Eq.mp (α:=V.vPSteps p k) (by kernel_rfl) (O.vPSteps h)
def L19:LS:=(24,sPSteps.spec oPSteps)::L18
theorem okL19:OKL L19:=Env.OK.cons okL18 (fn:=Tryz.f24) (by kernel_rfl) (by kernel_rfl) (by kernel_rfl) ok_f24
theorem ok_f92:SP 92 (sPCopy.spec oPCopy):=Sig.sound (E:=en L19 [] false) okL19 (fn:=Tryz.f92) (by kernel_rfl) (by rfl) fun ⟨p,_⟩ k h=>Eq.mp (α:=V.vPCopy p k) (by kernel_rfl) (O.vPCopy h)
def L20:LS:=(92,sPCopy.spec oPCopy)::L19
theorem okL20:OKL L20:=Env.OK.cons okL19 (fn:=Tryz.f92) (by kernel_rfl) (by kernel_rfl) (by kernel_rfl) ok_f92
theorem ok_f229:SP 229 (sCmpS.spec oCmpS):=Sig.sound (E:=en L20 [] false) okL20 (fn:=Tryz.f229) (by kernel_rfl) (by rfl) fun ⟨s,t,_⟩ k h=>Eq.mp (α:=V.vCmpS s t k) (by kernel_rfl) (O.vCmpS h)
def L21:LS:=(229,sCmpS.spec oCmpS)::L20
theorem okL21:OKL L21:=Env.OK.cons okL20 (fn:=Tryz.f229) (by kernel_rfl) (by kernel_rfl) (by kernel_rfl) ok_f229
theorem ok_f228:SP 228 ((sBin 229).spec (oBin 229)):=Sig.sound (E:=en L21 [(3,lBin 229)] false) okL21 (fn:=Tryz.f228) (by kernel_rfl) (by rfl) fun ⟨l,t,_,_⟩ k h=>Eq.mp (α:=V.vBin l t k) (by kernel_rfl) (O.vBin h)
def L22:LS:=(228,(sBin 229).spec (oBin 229))::L21
theorem okL22:OKL L22:=Env.OK.cons okL21 (fn:=Tryz.f228) (by kernel_rfl) (by kernel_rfl) (by kernel_rfl) ok_f228
theorem ok_f189:SP 189 (sIndex.spec oIndex):=Sig.sound (E:=en L22 [] false) okL22 (fn:=Tryz.f189) (by kernel_rfl) (by rfl) fun ⟨p,t,_⟩ k h=>Eq.mp (α:=V.vIndex p t k) (by kernel_rfl) (O.vIndex h)
def L23:LS:=(189,sIndex.spec oIndex)::L22
theorem okL23:OKL L23:=Env.OK.cons okL22 (fn:=Tryz.f189) (by kernel_rfl) (by kernel_rfl) (by kernel_rfl) ok_f189
theorem ok_f245:SP 245 (sIndex.spec oFree):=Sig.sound (E:=en L23 [] false) okL23 (fn:=Tryz.f245) (by kernel_rfl) (by rfl) fun ⟨p,t,_⟩ k h=>Eq.mp (α:=V.vFreeP p t k) (by kernel_rfl) (O.vFreeP h)
def L24:LS:=(245,sIndex.spec oFree)::L23
theorem okL24:OKL L24:=Env.OK.cons okL23 (fn:=Tryz.f245) (by kernel_rfl) (by kernel_rfl) (by kernel_rfl) ok_f245
theorem ok_f146:SP 146 (sLeast.spec oLeast):=Sig.sound (E:=en L24 [(8,lLeast)] false) okL24 (fn:=Tryz.f146) (by kernel_rfl) (by rfl) fun ⟨p,t,u,_⟩ k h=>Eq.mp (α:=V.vLeast p t u k) (by kernel_rfl) (O.vLeast h)
def L25:LS:=(146,sLeast.spec oLeast)::L24
theorem okL25:OKL L25:=Env.OK.cons okL24 (fn:=Tryz.f146) (by kernel_rfl) (by kernel_rfl) (by kernel_rfl) ok_f146
theorem ok_f225:SP 225 (sLeast.spec oMost):=Sig.sound (E:=en L25 [(3,lMost)] false) okL25 (fn:=Tryz.f225) (by kernel_rfl) (by rfl) fun ⟨p,t,u,_⟩ k h=>Eq.mp (α:=V.vMost p t u k) (by kernel_rfl) (O.vMost h)
def L26:LS:=(225,sLeast.spec oMost)::L25
theorem okL26:OKL L26:=Env.OK.cons okL25 (fn:=Tryz.f225) (by kernel_rfl) (by kernel_rfl) (by kernel_rfl) ok_f225
theorem ok_f277:ExtOK Tryz.prog 277 (ovSpec .step):=by
 exact ov_spec (fn:=Tryz.f277) (tS:=50) (tR:=4) (e:=158) (by kernel_rfl) (by kernel_rfl) (by kernel_rfl) (by kernel_rfl) (by kernel_rfl) (by kernel_rfl) (by kernel_rfl)
def L27:LS:=(277,ovSpec .step)::L26
theorem okL27:OKL L27:=Env.OK.ext okL26 ok_f277
theorem ok_f261:SP 261 (sInsT.spec oInsT):=Sig.sound (E:=en L27 [] false) okL27 (fn:=Tryz.f261) (by kernel_rfl) (by rfl) fun ⟨l,i,s,_⟩ k h=>Eq.mp (α:=V.vInsT l i s k) (by kernel_rfl) (O.vInsT h)
def L28:LS:=(261,sInsT.spec oInsT)::L27
theorem okL28:OKL L28:=Env.OK.cons okL27 (fn:=Tryz.f261) (by kernel_rfl) (by kernel_rfl) (by kernel_rfl) ok_f261
theorem ok_f226:SP 226 (sSplit.spec oSplit):=Sig.sound (E:=en L28 [] false) okL28 (fn:=Tryz.f226) (by kernel_rfl) (by rfl) fun ⟨p,t,_⟩ k h=>Eq.mp (α:=V.vSplit p t k) (by kernel_rfl) (O.vSplit h)
def L29:LS:=(226,sSplit.spec oSplit)::L28
theorem okL29:OKL L29:=Env.OK.cons okL28 (fn:=Tryz.f226) (by kernel_rfl) (by kernel_rfl) (by kernel_rfl) ok_f226
theorem ok_f263:SP 263 (sSame.spec oSame):=Sig.sound (E:=en L29 [] false) okL29 (fn:=Tryz.f263) (by kernel_rfl) (by rfl) fun ⟨a,b,_⟩ k h=>Eq.mp (α:=V.vSame a b k) (by kernel_rfl) (O.vSame h)
def L30:LS:=(263,sSame.spec oSame)::L29
theorem okL30:OKL L30:=Env.OK.cons okL29 (fn:=Tryz.f263) (by kernel_rfl) (by kernel_rfl) (by kernel_rfl) ok_f263
theorem ok_f262:SP 262 ((sCompact 263).spec (oCompact 263)):=Sig.sound (E:=en L30 [(4,lCp1 263),(9,lCp2 263)] false) okL30 (fn:=Tryz.f262) (by kernel_rfl) (by rfl) fun ⟨l,_,_⟩ k h=>Eq.mp (α:=V.vCompact l k) (by kernel_rfl) (O.vCompact h)
def L31:LS:=(262,(sCompact 263).spec (oCompact 263))::L30
theorem okL31:OKL L31:=Env.OK.cons okL30 (fn:=Tryz.f262) (by kernel_rfl) (by kernel_rfl) (by kernel_rfl) ok_f262
theorem ok_f227:SP 227 (sJoin1.spec oJoin1):=Sig.sound (E:=en L31 [] false) okL31 (fn:=Tryz.f227) (by kernel_rfl) (by rfl) fun ⟨p,_⟩ k h=>Eq.mp (α:=V.vJoin1 p k) (by kernel_rfl) (O.vJoin1 h)
def L32:LS:=(227,sJoin1.spec oJoin1)::L31
theorem okL32:OKL L32:=Env.OK.cons okL31 (fn:=Tryz.f227) (by kernel_rfl) (by kernel_rfl) (by kernel_rfl) ok_f227
theorem ok_f188:SP 188 (sAdd.spec oAdd):=Sig.sound (E:=en L32 [(14,lAdd)] false) okL32 (fn:=Tryz.f188) (by kernel_rfl) (by rfl) fun ⟨p,t,u,n,_⟩ k h=>Eq.mp (α:=V.vAdd p t u n k) (by kernel_rfl) (O.vAdd h)
def L33:LS:=(188,sAdd.spec oAdd)::L32
theorem okL33:OKL L33:=Env.OK.cons okL32 (fn:=Tryz.f188) (by kernel_rfl) (by kernel_rfl) (by kernel_rfl) ok_f188
theorem ok_f145:SP 145 (sRes.spec oRel):=Sig.sound (E:=en L33 [] false) okL33 (fn:=Tryz.f145) (by kernel_rfl) (by rfl) fun ⟨p,s,_⟩ k h=>Eq.mp (α:=V.vRel p s k) (by kernel_rfl) (O.vRel h)
def L34:LS:=(145,sRes.spec oRel)::L33
theorem okL34:OKL L34:=Env.OK.cons okL33 (fn:=Tryz.f145) (by kernel_rfl) (by kernel_rfl) (by kernel_rfl) ok_f145
theorem ok_f195:SP 195 (sRes.spec oRes):=Sig.sound (E:=en L34 [] false) okL34 (fn:=Tryz.f195) (by kernel_rfl) (by rfl) fun ⟨p,s,_⟩ k h=>Eq.mp (α:=V.vRes p s k) (by kernel_rfl) (O.vRes h)
def L35:LS:=(195,sRes.spec oRes)::L34
theorem okL35:OKL L35:=Env.OK.cons okL34 (fn:=Tryz.f195) (by kernel_rfl) (by kernel_rfl) (by kernel_rfl) ok_f195
theorem ok_f244:SP 244 (sAdv.spec oAdv):=Sig.sound (E:=en L35 [] false) okL35 (fn:=Tryz.f244) (by kernel_rfl) (by rfl) fun ⟨p,t,_⟩ k h=>Eq.mp (α:=V.vAdv p t k) (by kernel_rfl) (O.vAdv h)
def L36:LS:=(244,sAdv.spec oAdv)::L35
theorem okL36:OKL L36:=Env.OK.cons okL35 (fn:=Tryz.f244) (by kernel_rfl) (by kernel_rfl) (by kernel_rfl) ok_f244
theorem ok_f75:SP 75 (sNewP.spec oNewP):=Sig.sound (E:=en L36 [] false) okL36 (fn:=Tryz.f75) (by kernel_rfl) (by rfl) fun ⟨n,_⟩ k h=>Eq.mp (α:=V.vNewP n k) (by kernel_rfl) (O.vNewP h)
def L37:LS:=(75,sNewP.spec oNewP)::L36
theorem okL37:OKL L37:=Env.OK.cons okL36 (fn:=Tryz.f75) (by kernel_rfl) (by kernel_rfl) (by kernel_rfl) ok_f75
theorem ok_f87:SP 87 (sCloneB.spec oCloneB):=Sig.sound (E:=en L37 [] false) okL37 (fn:=Tryz.f87) (by kernel_rfl) (by rfl) fun ⟨l,_⟩ k h=>Eq.mp (α:=V.vCloneB l k) (by kernel_rfl) (O.vCloneB h)
def L38:LS:=(87,sCloneB.spec oCloneB)::L37
theorem okL38:OKL L38:=Env.OK.cons okL37 (fn:=Tryz.f87) (by kernel_rfl) (by kernel_rfl) (by kernel_rfl) ok_f87
theorem ok_f86:SP 86 (sNoneJ.spec oNoneJ):=by
 refine Sig.sound (E:=en L38 [] false) okL38 (fn:=Tryz.f86) (by kernel_rfl) (by rfl) ?_
 intro x k h
 obtain ⟨t,_⟩:=x
 cases t with
 |none=>exact Eq.mp (α:=V.vNoneJN k) (by kernel_rfl) (O.vNoneJN h)
 |some t=>exact Eq.mp (α:=V.vNoneJ t k) (by kernel_rfl) (O.vNoneJ h)
def L39:LS:=(86,sNoneJ.spec oNoneJ)::L38
theorem okL39:OKL L39:=Env.OK.cons okL38 (fn:=Tryz.f86) (by kernel_rfl) (by kernel_rfl) (by kernel_rfl) ok_f86
theorem ok_f76:SP 76 (sNewJ.spec oNewJ):=by
 refine Sig.sound (E:=en L39 [] false) okL39 (fn:=Tryz.f76) (by kernel_rfl) (by rfl) ?_
 intro u k h
 refine Eq.mp (α:=V.vNewJ u k) ?_ (O.vNewJ h)
 kernel_rfl
def L40:LS:=(76,sNewJ.spec oNewJ)::L39
theorem okL40:OKL L40:=Env.OK.cons okL39 (fn:=Tryz.f76) (by kernel_rfl) (by kernel_rfl) (by kernel_rfl) ok_f76
theorem ok_f23:SP 23 (sAllJ.spec oAllJ):=Sig.sound (E:=en L40 [] false) okL40 (fn:=Tryz.f23) (by kernel_rfl) (by rfl) fun ⟨t,_⟩ k h=>Eq.mp (α:=V.vAllJ t k) (by kernel_rfl) (O.vAllJ h)
def L41:LS:=(23,sAllJ.spec oAllJ)::L40
theorem okL41:OKL L41:=Env.OK.cons okL40 (fn:=Tryz.f23) (by kernel_rfl) (by kernel_rfl) (by kernel_rfl) ok_f23
theorem ok_f113:SP 113 (sInJ.spec oInJ):=Sig.sound (E:=en L41 [(3,lInJ)] false) okL41 (fn:=Tryz.f113) (by kernel_rfl) (by rfl) fun ⟨t,l,_⟩ k h=>Eq.mp (α:=V.vInJ t l k) (by kernel_rfl) (O.vInJ h)
def L42:LS:=(113,sInJ.spec oInJ)::L41
theorem okL42:OKL L42:=Env.OK.cons okL41 (fn:=Tryz.f113) (by kernel_rfl) (by kernel_rfl) (by kernel_rfl) ok_f113
theorem ok_f163:SP 163 (sCmpB.spec oCmpB):=Sig.sound (E:=en L42 [] false) okL42 (fn:=Tryz.f163) (by kernel_rfl) (by rfl) fun ⟨a,b,_⟩ k h=>Eq.mp (α:=V.vCmpB a b k) (by kernel_rfl) (O.vCmpB h)
def L43:LS:=(163,sCmpB.spec oCmpB)::L42
theorem okL43:OKL L43:=Env.OK.cons okL42 (fn:=Tryz.f163) (by kernel_rfl) (by kernel_rfl) (by kernel_rfl) ok_f163
theorem ok_f265:SP 265 (sLessB.spec oLessB):=Sig.sound (E:=en L43 [] false) okL43 (fn:=Tryz.f265) (by kernel_rfl) (by rfl) fun ⟨a,b,_⟩ k h=>Eq.mp (α:=V.vLessB a b k) (by kernel_rfl) (O.vLessB h)
def L44:LS:=(265,sLessB.spec oLessB)::L43
theorem okL44:OKL L44:=Env.OK.cons okL43 (fn:=Tryz.f265) (by kernel_rfl) (by kernel_rfl) (by kernel_rfl) ok_f265
theorem ok_f251:SP 251 ((sInsB 163).spec (oInsB 163)):=Sig.sound (E:=en L44 [(1,lIns1B 163),(4,lIns2B 163)] false) okL44 (fn:=Tryz.f251) (by kernel_rfl) (by rfl) fun ⟨l,a,b,_,_⟩ k h=>Eq.mp (α:=V.vInsB l a b k) (by kernel_rfl) (O.vInsB h)
def L45:LS:=(251,(sInsB 163).spec (oInsB 163))::L44
theorem okL45:OKL L45:=Env.OK.cons okL44 (fn:=Tryz.f251) (by kernel_rfl) (by kernel_rfl) (by kernel_rfl) ok_f251
theorem ok_f280:SP 280 ((sSwapRB 163).spec (oSwapRB 163)):=Sig.sound (E:=en L45 [(1,lSwapRB)] false) okL45 (fn:=Tryz.f280) (by kernel_rfl) (by rfl) fun ⟨l,a,b,m,_,_⟩ k h=>Eq.mp (α:=V.vSwapRB l a b m k) (by kernel_rfl) (O.vSwapRB h)
def L46:LS:=(280,(sSwapRB 163).spec (oSwapRB 163))::L45
theorem okL46:OKL L46:=Env.OK.cons okL45 (fn:=Tryz.f280) (by kernel_rfl) (by kernel_rfl) (by kernel_rfl) ok_f280
theorem ok_f272:SP 272 ((sSwapRB 163).spec (oRotB 163)):=Sig.sound (E:=en L46 [(2,lRotB 163)] false) okL46 (fn:=Tryz.f272) (by kernel_rfl) (by rfl) fun ⟨l,a,b,m,_,_⟩ k h=>Eq.mp (α:=V.vRotB l a b m k) (by kernel_rfl) (O.vRotB h)
def L47:LS:=(272,(sSwapRB 163).spec (oRotB 163))::L46
theorem okL47:OKL L47:=Env.OK.cons okL46 (fn:=Tryz.f272) (by kernel_rfl) (by kernel_rfl) (by kernel_rfl) ok_f272
theorem ok_f252r (n:Nat):SP 252 ((sSwapRB 163).spec (oSymB 163 n)):=by
 induction n with
 |zero=>
  refine Sig.sound (E:=en L47 [(3,lSy1B 163),(9,lSy2B),(15,lSy3B 163),(21,lSy4B),(33,lSy5B 163)] false) okL47 (fn:=Tryz.f252) (by kernel_rfl) (by rfl) ?_
  intro x k h
  exact absurd h.1.2.2.1 (Nat.not_lt_zero _)
 |succ n ih=>
  refine Sig.sound (E:=(en ((252,(sSwapRB 163).spec (oSymB 163 n))::L47) [(3,lSy1B 163),(9,lSy2B),(15,lSy3B 163),(21,lSy4B),(33,lSy5B 163)] false)) (Env.OK.cons okL47 (fn:=Tryz.f252) (by kernel_rfl) (by kernel_rfl) (by kernel_rfl) ih) (fn:=Tryz.f252) (by kernel_rfl) (by rfl) ?_
  intro x k h
  obtain ⟨l,a,b,m,_,_⟩:=x
  refine Eq.mp (α:=V.vSymB n l a b m k) ?_ (O.vSymB h)
  kernel_rfl
theorem ok_f252:SP 252 ((sSwapRB 163).spec (oSymB 163 1099511627777)):=by
 exact ok_f252r 1099511627777
def L48:LS:=(252,(sSwapRB 163).spec (oSymB 163 1099511627777))::L47
theorem okL48:OKL L48:=Env.OK.cons okL47 (fn:=Tryz.f252) (by kernel_rfl) (by kernel_rfl) (by kernel_rfl) ok_f252
theorem ok_f207:SP 207 ((sStabB 163).spec (oStabB 163)):=Sig.sound (E:=en L48 [(2,lSt1B 163),(7,lSt2B 163),(9,lSt1B 163)] false) okL48 (fn:=Tryz.f207) (by kernel_rfl) (by rfl) fun ⟨l,a,_,_⟩ k h=>Eq.mp (α:=V.vStabB l a k) (by kernel_rfl) (O.vStabB h)
def L49:LS:=(207,(sStabB 163).spec (oStabB 163))::L48
theorem okL49:OKL L49:=Env.OK.cons okL48 (fn:=Tryz.f207) (by kernel_rfl) (by kernel_rfl) (by kernel_rfl) ok_f207
theorem ok_f162:SP 162 ((sSortB 163).spec (oSortB 163)):=Sig.sound (E:=en L49 [] false) okL49 (fn:=Tryz.f162) (by kernel_rfl) (by rfl) fun ⟨l,_,_⟩ k h=>Eq.mp (α:=V.vStabFB l k) (by kernel_rfl) (O.vSortB h)
def L50:LS:=(162,(sSortB 163).spec (oSortB 163))::L49
theorem okL50:OKL L50:=Env.OK.cons okL49 (fn:=Tryz.f162) (by kernel_rfl) (by kernel_rfl) (by kernel_rfl) ok_f162
theorem ok_f112:SP 112 (sOrdS.spec oOrdS):=Sig.sound (E:=en L50 [] false) okL50 (fn:=Tryz.f112) (by kernel_rfl) (by rfl) fun ⟨l,_⟩ k h=>Eq.mp (α:=V.vOrdS l k) (by kernel_rfl) (O.vOrdS h)
def L51:LS:=(112,sOrdS.spec oOrdS)::L50
theorem okL51:OKL L51:=Env.OK.cons okL50 (fn:=Tryz.f112) (by kernel_rfl) (by kernel_rfl) (by kernel_rfl) ok_f112
theorem ok_f45:SP 45 (sAllJ.spec oWaiting):=Sig.sound (E:=en L51 [] false) okL51 (fn:=Tryz.f45) (by kernel_rfl) (by rfl) fun ⟨t,_⟩ k h=>Eq.mp (α:=V.vWaiting t k) (by kernel_rfl) (O.vWaiting h)
def L52:LS:=(45,sAllJ.spec oWaiting)::L51
theorem okL52:OKL L52:=Env.OK.cons okL51 (fn:=Tryz.f45) (by kernel_rfl) (by kernel_rfl) (by kernel_rfl) ok_f45
theorem ok_f250:SP 250 (sCountsJ.spec oCountsJ):=Sig.sound (E:=en L52 [] false) okL52 (fn:=Tryz.f250) (by kernel_rfl) (by rfl) fun ⟨t,_⟩ k h=>Eq.mp (α:=V.vCountsJ t k) (by kernel_rfl) (O.vCountsJ h)
def L53:LS:=(250,sCountsJ.spec oCountsJ)::L52
theorem okL53:OKL L53:=Env.OK.cons okL52 (fn:=Tryz.f250) (by kernel_rfl) (by kernel_rfl) (by kernel_rfl) ok_f250
theorem ok_f95:SP 95 (sGetJ.spec oGetJ):=Sig.sound (E:=en L53 [] false) okL53 (fn:=Tryz.f95) (by kernel_rfl) (by rfl) fun ⟨t,n,_⟩ k h=>Eq.mp (α:=V.vGetJ t n k) (by kernel_rfl) (O.vGetJ h)
def L54:LS:=(95,sGetJ.spec oGetJ)::L53
theorem okL54:OKL L54:=Env.OK.cons okL53 (fn:=Tryz.f95) (by kernel_rfl) (by kernel_rfl) (by kernel_rfl) ok_f95
theorem ok_f232:SP 232 (inlSpec (en L54 [] false) Tryz.f232):=by
 exact inl_sound (E:=en L54 [] false) okL54 (fn:=Tryz.f232) (by kernel_rfl)
def L55:LS:=(232,inlSpec (en L54 [] false) Tryz.f232)::L54
theorem okL55:OKL L55:=Env.OK.cons okL54 (fn:=Tryz.f232) (by kernel_rfl) (by kernel_rfl) (by kernel_rfl) ok_f232
theorem ok_f237:SP 237 (sHoldJ.spec oHoldJ):=Sig.sound (E:=en L55 [] false) okL55 (fn:=Tryz.f237) (by kernel_rfl) (by rfl) fun ⟨t,n,_⟩ k h=>Eq.mp (α:=V.vHoldJ t n k) (by kernel_rfl) (O.vHoldJ h)
def L56:LS:=(237,sHoldJ.spec oHoldJ)::L55
theorem okL56:OKL L56:=Env.OK.cons okL55 (fn:=Tryz.f237) (by kernel_rfl) (by kernel_rfl) (by kernel_rfl) ok_f237
theorem ok_f238:SP 238 (sHoldJ.spec oFreeJ):=Sig.sound (E:=en L56 [] false) okL56 (fn:=Tryz.f238) (by kernel_rfl) (by rfl) fun ⟨t,n,_⟩ k h=>Eq.mp (α:=V.vFreeJ t n k) (by kernel_rfl) (O.vFreeJ h)
def L57:LS:=(238,sHoldJ.spec oFreeJ)::L56
theorem okL57:OKL L57:=Env.OK.cons okL56 (fn:=Tryz.f238) (by kernel_rfl) (by kernel_rfl) (by kernel_rfl) ok_f238
theorem ok_f197:SP 197 (sPlanJ.spec oPlanJ):=Sig.sound (E:=en L57 [] false) okL57 (fn:=Tryz.f197) (by kernel_rfl) (by rfl) fun ⟨t,n,m,_⟩ k h=>Eq.mp (α:=V.vPlanJ t n m k) (by kernel_rfl) (O.vPlanJ h)
def L58:LS:=(197,sPlanJ.spec oPlanJ)::L57
theorem okL58:OKL L58:=Env.OK.cons okL57 (fn:=Tryz.f197) (by kernel_rfl) (by kernel_rfl) (by kernel_rfl) ok_f197
theorem ok_f231:SP 231 (sBeginJ.spec oBeginJ):=Sig.sound (E:=en L58 [] false) okL58 (fn:=Tryz.f231) (by kernel_rfl) (by rfl) fun ⟨t,n,m,s,_⟩ k h=>Eq.mp (α:=V.vBeginJ t n m s k) (by kernel_rfl) (O.vBeginJ h)
def L59:LS:=(231,sBeginJ.spec oBeginJ)::L58
theorem okL59:OKL L59:=Env.OK.cons okL58 (fn:=Tryz.f231) (by kernel_rfl) (by kernel_rfl) (by kernel_rfl) ok_f231
theorem ok_f235:SP 235 (sFinJ.spec oFinJ):=Sig.sound (E:=en L59 [] false) okL59 (fn:=Tryz.f235) (by kernel_rfl) (by rfl) fun ⟨t,n,s,m,_⟩ k h=>Eq.mp (α:=V.vFinJ t n s m k) (by kernel_rfl) (O.vFinJ h)
def L60:LS:=(235,sFinJ.spec oFinJ)::L59
theorem okL60:OKL L60:=Env.OK.cons okL59 (fn:=Tryz.f235) (by kernel_rfl) (by kernel_rfl) (by kernel_rfl) ok_f235
theorem ok_f266:SP 266 (sRightR.spec oRightR):=Sig.sound (E:=en L60 [] false) okL60 (fn:=Tryz.f266) (by kernel_rfl) (by rfl) fun ⟨r,_⟩ k h=>Eq.mp (α:=V.vRightR r k) (by kernel_rfl) (O.vRightR h)
def L61:LS:=(266,sRightR.spec oRightR)::L60
theorem okL61:OKL L61:=Env.OK.cons okL60 (fn:=Tryz.f266) (by kernel_rfl) (by kernel_rfl) (by kernel_rfl) ok_f266
theorem ok_f234:SP 234 (sSubJ.spec oSubJ):=Sig.sound (E:=en L61 [] false) okL61 (fn:=Tryz.f234) (by kernel_rfl) (by rfl) fun ⟨t,r,_⟩ k h=>Eq.mp (α:=V.vSubJ t r k) (by kernel_rfl) (O.vSubJ h)
def L62:LS:=(234,sSubJ.spec oSubJ)::L61
theorem okL62:OKL L62:=Env.OK.cons okL61 (fn:=Tryz.f234) (by kernel_rfl) (by kernel_rfl) (by kernel_rfl) ok_f234
theorem ok_f90:SP 90 (sCopyJ.spec oCopyJ):=Sig.sound (E:=en L62 [] false) okL62 (fn:=Tryz.f90) (by kernel_rfl) (by rfl) fun ⟨t,_⟩ k h=>Eq.mp (α:=V.vCopyJ t k) (by kernel_rfl) (O.vCopyJ h)
def L63:LS:=(90,sCopyJ.spec oCopyJ)::L62
theorem okL63:OKL L63:=Env.OK.cons okL62 (fn:=Tryz.f90) (by kernel_rfl) (by kernel_rfl) (by kernel_rfl) ok_f90
theorem ok_f110:SP 110 (sNoneN.spec oNoneN):=by
 refine Sig.sound (E:=en L63 [] false) okL63 (fn:=Tryz.f110) (by kernel_rfl) (by rfl) ?_
 intro x k h
 obtain ⟨t,_⟩:=x
 cases t with
 |none=>exact Eq.mp (α:=V.vNoneNN k) (by kernel_rfl) (O.vNoneNN h)
 |some t=>exact Eq.mp (α:=V.vNoneN t k) (by kernel_rfl) (O.vNoneN h)
def L64:LS:=(110,sNoneN.spec oNoneN)::L63
theorem okL64:OKL L64:=Env.OK.cons okL63 (fn:=Tryz.f110) (by kernel_rfl) (by kernel_rfl) (by kernel_rfl) ok_f110
theorem ok_f111:SP 111 (sNSet.spec oIdleN):=Sig.sound (E:=en L64 [] false) okL64 (fn:=Tryz.f111) (by kernel_rfl) (by rfl) fun ⟨t,_⟩ k h=>Eq.mp (α:=V.vIdleI t k) (by kernel_rfl) (O.vIdleI h)
def L65:LS:=(111,sNSet.spec oIdleN)::L64
theorem okL65:OKL L65:=Env.OK.cons okL64 (fn:=Tryz.f111) (by kernel_rfl) (by kernel_rfl) (by kernel_rfl) ok_f111
theorem ok_f82:SP 82 (sNInt.spec oSizeN):=Sig.sound (E:=en L65 [] false) okL65 (fn:=Tryz.f82) (by kernel_rfl) (by rfl) fun ⟨t,_⟩ k h=>Eq.mp (α:=V.vSizeN t k) (by kernel_rfl) (O.vSizeN h)
def L66:LS:=(82,sNInt.spec oSizeN)::L65
theorem okL66:OKL L66:=Env.OK.cons okL65 (fn:=Tryz.f82) (by kernel_rfl) (by kernel_rfl) (by kernel_rfl) ok_f82
theorem ok_f84:SP 84 (sStateN.spec oStateN):=Sig.sound (E:=en L66 [] false) okL66 (fn:=Tryz.f84) (by kernel_rfl) (by rfl) fun ⟨t,n,_⟩ k h=>Eq.mp (α:=V.vStateN t n k) (by kernel_rfl) (O.vStateN h)
def L67:LS:=(84,sStateN.spec oStateN)::L66
theorem okL67:OKL L67:=Env.OK.cons okL66 (fn:=Tryz.f84) (by kernel_rfl) (by kernel_rfl) (by kernel_rfl) ok_f84
theorem ok_f42:SP 42 (sNSet.spec oUsedN):=Sig.sound (E:=en L67 [] false) okL67 (fn:=Tryz.f42) (by kernel_rfl) (by rfl) fun ⟨t,_⟩ k h=>Eq.mp (α:=V.vUsedN t k) (by kernel_rfl) (O.vUsedN h)
def L68:LS:=(42,sNSet.spec oUsedN)::L67
theorem okL68:OKL L68:=Env.OK.cons okL67 (fn:=Tryz.f42) (by kernel_rfl) (by kernel_rfl) (by kernel_rfl) ok_f42
theorem ok_f41:SP 41 (sNSet.spec oIdleN):=Sig.sound (E:=en L68 [] false) okL68 (fn:=Tryz.f41) (by kernel_rfl) (by rfl) fun ⟨t,_⟩ k h=>Eq.mp (α:=V.vIdleN t k) (by kernel_rfl) (O.vIdleN h)
def L69:LS:=(41,sNSet.spec oIdleN)::L68
theorem okL69:OKL L69:=Env.OK.cons okL68 (fn:=Tryz.f41) (by kernel_rfl) (by kernel_rfl) (by kernel_rfl) ok_f41
theorem ok_f249:SP 249 (sCountsN.spec oCountsN):=Sig.sound (E:=en L69 [] false) okL69 (fn:=Tryz.f249) (by kernel_rfl) (by rfl) fun ⟨t,_⟩ k h=>Eq.mp (α:=V.vCountsN t k) (by kernel_rfl) (O.vCountsN h)
def L70:LS:=(249,sCountsN.spec oCountsN)::L69
theorem okL70:OKL L70:=Env.OK.cons okL69 (fn:=Tryz.f249) (by kernel_rfl) (by kernel_rfl) (by kernel_rfl) ok_f249
theorem ok_f230:SP 230 (sTakeN.spec oTakeN):=Sig.sound (E:=en L70 [] false) okL70 (fn:=Tryz.f230) (by kernel_rfl) (by rfl) fun ⟨t,n,_⟩ k h=>Eq.mp (α:=V.vTakeN t n k) (by kernel_rfl) (O.vTakeN h)
def L71:LS:=(230,sTakeN.spec oTakeN)::L70
theorem okL71:OKL L71:=Env.OK.cons okL70 (fn:=Tryz.f230) (by kernel_rfl) (by kernel_rfl) (by kernel_rfl) ok_f230
theorem ok_f236:SP 236 (sGiveN.spec oGiveN):=Sig.sound (E:=en L71 [] false) okL71 (fn:=Tryz.f236) (by kernel_rfl) (by rfl) fun ⟨t,s,_⟩ k h=>Eq.mp (α:=V.vGiveN t s k) (by kernel_rfl) (O.vGiveN h)
def L72:LS:=(236,sGiveN.spec oGiveN)::L71
theorem okL72:OKL L72:=Env.OK.cons okL71 (fn:=Tryz.f236) (by kernel_rfl) (by kernel_rfl) (by kernel_rfl) ok_f236
theorem ok_f240:SP 240 (sDrainN.spec oDrainN):=Sig.sound (E:=en L72 [] false) okL72 (fn:=Tryz.f240) (by kernel_rfl) (by rfl) fun ⟨t,n,_⟩ k h=>Eq.mp (α:=V.vDrainN t n k) (by kernel_rfl) (O.vDrainN h)
def L73:LS:=(240,sDrainN.spec oDrainN)::L72
theorem okL73:OKL L73:=Env.OK.cons okL72 (fn:=Tryz.f240) (by kernel_rfl) (by kernel_rfl) (by kernel_rfl) ok_f240
theorem ok_f242:SP 242 (sDrainN.spec oResumeN):=Sig.sound (E:=en L73 [] false) okL73 (fn:=Tryz.f242) (by kernel_rfl) (by rfl) fun ⟨t,n,_⟩ k h=>Eq.mp (α:=V.vResumeN t n k) (by kernel_rfl) (O.vResumeN h)
def L74:LS:=(242,sDrainN.spec oResumeN)::L73
theorem okL74:OKL L74:=Env.OK.cons okL73 (fn:=Tryz.f242) (by kernel_rfl) (by kernel_rfl) (by kernel_rfl) ok_f242
theorem ok_f91:SP 91 (sCopyN.spec oCopyN):=Sig.sound (E:=en L74 [] false) okL74 (fn:=Tryz.f91) (by kernel_rfl) (by rfl) fun ⟨t,_⟩ k h=>Eq.mp (α:=V.vCopyN t k) (by kernel_rfl) (O.vCopyN h)
def L75:LS:=(91,sCopyN.spec oCopyN)::L74
theorem okL75:OKL L75:=Env.OK.cons okL74 (fn:=Tryz.f91) (by kernel_rfl) (by kernel_rfl) (by kernel_rfl) ok_f91
theorem ok_f74:SP 74 (sNewN.spec oNewN):=Sig.sound (E:=en L75 [] false) okL75 (fn:=Tryz.f74) (by kernel_rfl) (by rfl) fun ⟨n,_⟩ k h=>Eq.mp (α:=V.vNewN n k) (by kernel_rfl) (O.vNewN h)
def L76:LS:=(74,sNewN.spec oNewN)::L75
theorem okL76:OKL L76:=Env.OK.cons okL75 (fn:=Tryz.f74) (by kernel_rfl) (by kernel_rfl) (by kernel_rfl) ok_f74
theorem ok_f107:SP 107 (sFailR.spec oFailR):=Sig.sound (E:=en L76 [] false) okL76 (fn:=Tryz.f107) (by kernel_rfl) (by rfl) fun ⟨e,_⟩ k h=>Eq.mp (α:=V.vFailR e k) (by kernel_rfl) (O.vFailR h)
def L77:LS:=(107,sFailR.spec oFailR)::L76
theorem okL77:OKL L77:=Env.OK.cons okL76 (fn:=Tryz.f107) (by kernel_rfl) (by kernel_rfl) (by kernel_rfl) ok_f107
theorem ok_f239:SP 239 (sTellR.spec oTellR):=Sig.sound (E:=en L77 [] false) okL77 (fn:=Tryz.f239) (by kernel_rfl) (by rfl) fun ⟨j,_⟩ k h=>Eq.mp (α:=V.vTellR j k) (by kernel_rfl) (O.vTellR h)
def L78:LS:=(239,sTellR.spec oTellR)::L77
theorem okL78:OKL L78:=Env.OK.cons okL77 (fn:=Tryz.f239) (by kernel_rfl) (by kernel_rfl) (by kernel_rfl) ok_f239
theorem ok_f248:SP 248 (sThreeR.spec oThreeR):=Sig.sound (E:=en L78 [] false) okL78 (fn:=Tryz.f248) (by kernel_rfl) (by rfl) fun ⟨a,b,c,_⟩ k h=>Eq.mp (α:=V.vThreeR a b c k) (by kernel_rfl) (O.vThreeR h)
def L79:LS:=(248,sThreeR.spec oThreeR)::L78
theorem okL79:OKL L79:=Env.OK.cons okL78 (fn:=Tryz.f248) (by kernel_rfl) (by kernel_rfl) (by kernel_rfl) ok_f248
theorem ok_f93:SP 93 (sCleanR.spec oCleanR):=Sig.sound (E:=en L79 [] false) okL79 (fn:=Tryz.f93) (by kernel_rfl) (by rfl) fun ⟨r,_⟩ k h=>Eq.mp (α:=V.vCleanR r k) (by kernel_rfl) (O.vCleanR h)
def L80:LS:=(93,sCleanR.spec oCleanR)::L79
theorem okL80:OKL L80:=Env.OK.cons okL79 (fn:=Tryz.f93) (by kernel_rfl) (by kernel_rfl) (by kernel_rfl) ok_f93
theorem ok_f81:SP 81 (sNoneC.spec oNoneC):=by
 refine Sig.sound (E:=en L80 [] false) okL80 (fn:=Tryz.f81) (by kernel_rfl) (by rfl) ?_
 intro x k h
 obtain ⟨c,_⟩:=x
 cases c with
 |none=>exact Eq.mp (α:=V.vNoneCN k) (by kernel_rfl) (O.vNoneCN h)
 |some c=>exact Eq.mp (α:=V.vNoneC c k) (by kernel_rfl) (O.vNoneC h)
def L81:LS:=(81,sNoneC.spec oNoneC)::L80
theorem okL81:OKL L81:=Env.OK.cons okL80 (fn:=Tryz.f81) (by kernel_rfl) (by kernel_rfl) (by kernel_rfl) ok_f81
theorem ok_f28:SP 28 (sNoneC.spec oClosedC):=by
 refine Sig.sound (E:=en L81 [] false) okL81 (fn:=Tryz.f28) (by kernel_rfl) (by rfl) ?_
 intro x k h
 obtain ⟨c,_⟩:=x
 cases c with
 |none=>exact Eq.mp (α:=V.vClosedCN k) (by kernel_rfl) (O.vClosedCN h)
 |some c=>exact Eq.mp (α:=V.vClosedC c k) (by kernel_rfl) (O.vClosedC h)
def L82:LS:=(28,sNoneC.spec oClosedC)::L81
theorem okL82:OKL L82:=Env.OK.cons okL81 (fn:=Tryz.f28) (by kernel_rfl) (by kernel_rfl) (by kernel_rfl) ok_f28
theorem ok_f16:SP 16 (sNewC.spec oNewC):=Sig.sound (E:=en L82 [] false) okL82 (fn:=Tryz.f16) (by kernel_rfl) (by rfl) fun ⟨n,_⟩ k h=>Eq.mp (α:=V.vNewC n k) (by kernel_rfl) (O.vNewC h)
def L83:LS:=(16,sNewC.spec oNewC)::L82
theorem okL83:OKL L83:=Env.OK.cons okL82 (fn:=Tryz.f16) (by kernel_rfl) (by kernel_rfl) (by kernel_rfl) ok_f16
theorem ok_f25:SP 25 (sTwinC.spec oTwinC):=Sig.sound (E:=en L83 [] false) okL83 (fn:=Tryz.f25) (by kernel_rfl) (by rfl) fun ⟨c,_⟩ k h=>Eq.mp (α:=V.vTwinC c k) (by kernel_rfl) (O.vTwinC h)
def L84:LS:=(25,sTwinC.spec oTwinC)::L83
theorem okL84:OKL L84:=Env.OK.cons okL83 (fn:=Tryz.f25) (by kernel_rfl) (by kernel_rfl) (by kernel_rfl) ok_f25
theorem ok_f144:SP 144 (sPlanS.spec oPlanS):=Sig.sound (E:=en L84 [] false) okL84 (fn:=Tryz.f144) (by kernel_rfl) (by rfl) fun ⟨j,_⟩ k h=>Eq.mp (α:=V.vPlanS j k) (by kernel_rfl) (O.vPlanS h)
def L85:LS:=(144,sPlanS.spec oPlanS)::L84
theorem okL85:OKL L85:=Env.OK.cons okL84 (fn:=Tryz.f144) (by kernel_rfl) (by kernel_rfl) (by kernel_rfl) ok_f144
theorem ok_f271:SP 271 (sSpansC.spec oSpansC):=Sig.sound (E:=en L85 [(5,lSpansC)] false) okL85 (fn:=Tryz.f271) (by kernel_rfl) (by rfl) fun ⟨c,_⟩ k h=>Eq.mp (α:=V.vSpansC c k) (by kernel_rfl) (O.vSpansC h)
def L86:LS:=(271,sSpansC.spec oSpansC)::L85
theorem okL86:OKL L86:=Env.OK.cons okL85 (fn:=Tryz.f271) (by kernel_rfl) (by kernel_rfl) (by kernel_rfl) ok_f271
theorem ok_f268:SP 268 (sHolderC.spec oHolderC):=Sig.sound (E:=en L86 [(4,lHolderC)] false) okL86 (fn:=Tryz.f268) (by kernel_rfl) (by rfl) fun ⟨c,n,_⟩ k h=>Eq.mp (α:=V.vHolderC c n k) (by kernel_rfl) (O.vHolderC h)
def L87:LS:=(268,sHolderC.spec oHolderC)::L86
theorem okL87:OKL L87:=Env.OK.cons okL86 (fn:=Tryz.f268) (by kernel_rfl) (by kernel_rfl) (by kernel_rfl) ok_f268
theorem ok_f202:SP 202 (sToldC.spec oToldC):=Sig.sound (E:=en L87 [] false) okL87 (fn:=Tryz.f202) (by kernel_rfl) (by rfl) fun ⟨c,n,_⟩ k h=>Eq.mp (α:=V.vToldC c n k) (by kernel_rfl) (O.vToldC h)
def L88:LS:=(202,sToldC.spec oToldC)::L87
theorem okL88:OKL L88:=Env.OK.cons okL87 (fn:=Tryz.f202) (by kernel_rfl) (by kernel_rfl) (by kernel_rfl) ok_f202
theorem ok_f22:SP 22 (sWantsC.spec oWantsC):=Sig.sound (E:=en L88 [] false) okL88 (fn:=Tryz.f22) (by kernel_rfl) (by rfl) fun ⟨c,r,_⟩ k h=>Eq.mp (α:=V.vWantsC c r k) (by kernel_rfl) (O.vWantsC h)
def L89:LS:=(22,sWantsC.spec oWantsC)::L88
theorem okL89:OKL L89:=Env.OK.cons okL88 (fn:=Tryz.f22) (by kernel_rfl) (by kernel_rfl) (by kernel_rfl) ok_f22
theorem ok_f241:SP 241 (sUntilC.spec oUntilC):=Sig.sound (E:=en L89 [] false) okL89 (fn:=Tryz.f241) (by kernel_rfl) (by rfl) fun ⟨c,n,_⟩ k h=>Eq.mp (α:=V.vUntilC c n k) (by kernel_rfl) (O.vUntilC h)
def L90:LS:=(241,sUntilC.spec oUntilC)::L89
theorem okL90:OKL L90:=Env.OK.cons okL89 (fn:=Tryz.f241) (by kernel_rfl) (by kernel_rfl) (by kernel_rfl) ok_f241
theorem ok_f243:SP 243 (sNextC.spec oNextC):=Sig.sound (E:=en L90 [(3,lNx1),(8,lNx2)] false) okL90 (fn:=Tryz.f243) (by kernel_rfl) (by rfl) fun ⟨c,_⟩ k h=>Eq.mp (α:=V.vNextC c k) (by kernel_rfl) (O.vNextC h)
def L91:LS:=(243,sNextC.spec oNextC)::L90
theorem okL91:OKL L91:=Env.OK.cons okL90 (fn:=Tryz.f243) (by kernel_rfl) (by kernel_rfl) (by kernel_rfl) ok_f243
theorem ok_f246:SP 246 (sTimeC.spec oTimeC):=Sig.sound (E:=en L91 [(1,lTimeC)] false) okL91 (fn:=Tryz.f246) (by kernel_rfl) (by rfl) fun ⟨c,_⟩ k h=>Eq.mp (α:=V.vTimeC c k) (by kernel_rfl) (O.vTimeC h)
def L92:LS:=(246,sTimeC.spec oTimeC)::L91
theorem okL92:OKL L92:=Env.OK.cons okL91 (fn:=Tryz.f246) (by kernel_rfl) (by kernel_rfl) (by kernel_rfl) ok_f246
theorem ok_f196:SP 196 (sBeginC.spec oBeginC):=Sig.sound (E:=en L92 [] false) okL92 (fn:=Tryz.f196) (by kernel_rfl) (by rfl) fun ⟨c,j,_⟩ k h=>Eq.mp (α:=V.vBeginC c j k) (by kernel_rfl) (O.vBeginC h)
def L93:LS:=(196,sBeginC.spec oBeginC)::L92
theorem okL93:OKL L93:=Env.OK.cons okL92 (fn:=Tryz.f196) (by kernel_rfl) (by kernel_rfl) (by kernel_rfl) ok_f196
theorem ok_f247:SP 247 (sTimeC.spec oBeginsC):=Sig.sound (E:=en L93 [(1,lBeginsC)] false) okL93 (fn:=Tryz.f247) (by kernel_rfl) (by rfl) fun ⟨c,_⟩ k h=>Eq.mp (α:=V.vBeginsC c k) (by kernel_rfl) (O.vBeginsC h)
def L94:LS:=(247,sTimeC.spec oBeginsC)::L93
theorem okL94:OKL L94:=Env.OK.cons okL93 (fn:=Tryz.f247) (by kernel_rfl) (by kernel_rfl) (by kernel_rfl) ok_f247
theorem ok_f79:SP 79 (sFitsC.spec oFitsC):=Sig.sound (E:=en L94 [] false) okL94 (fn:=Tryz.f79) (by kernel_rfl) (by rfl) fun ⟨c,x,_⟩ k h=>Eq.mp (α:=V.vFitsC c x k) (by kernel_rfl) (O.vFitsC h)
def L95:LS:=(79,sFitsC.spec oFitsC)::L94
theorem okL95:OKL L95:=Env.OK.cons okL94 (fn:=Tryz.f79) (by kernel_rfl) (by kernel_rfl) (by kernel_rfl) ok_f79
theorem ok_f29:SP 29 (sNewW.spec oNewW):=Sig.sound (E:=en L95 [] false) okL95 (fn:=Tryz.f29) (by kernel_rfl) (by rfl) fun ⟨r,_⟩ k h=>Eq.mp (α:=V.vNewW r k) (by kernel_rfl) (O.vNewW h)
def L96:LS:=(29,sNewW.spec oNewW)::L95
theorem okL96:OKL L96:=Env.OK.cons okL95 (fn:=Tryz.f29) (by kernel_rfl) (by kernel_rfl) (by kernel_rfl) ok_f29
theorem ok_f30:SP 30 (sNewX.spec oNewX):=Sig.sound (E:=en L96 [] false) okL96 (fn:=Tryz.f30) (by kernel_rfl) (by rfl) fun ⟨x,_⟩ k h=>Eq.mp (α:=V.vNewX x k) (by kernel_rfl) (O.vNewX h)
def L97:LS:=(30,sNewX.spec oNewX)::L96
theorem okL97:OKL L97:=Env.OK.cons okL96 (fn:=Tryz.f30) (by kernel_rfl) (by kernel_rfl) (by kernel_rfl) ok_f30
theorem ok_f80:SP 80 (sDoneW.spec oDoneW):=by
 refine Sig.sound (E:=en L97 [] false) okL97 (fn:=Tryz.f80) (by kernel_rfl) (by rfl) ?_
 intro x k h
 obtain ⟨w,_⟩:=x
 cases w with
 |none=>exact Eq.mp (α:=V.vDoneWN k) (by kernel_rfl) (O.vDoneWN h)
 |some w=>exact Eq.mp (α:=V.vDoneW w k) (by kernel_rfl) (O.vDoneW h)
def L98:LS:=(80,sDoneW.spec oDoneW)::L97
theorem okL98:OKL L98:=Env.OK.cons okL97 (fn:=Tryz.f80) (by kernel_rfl) (by kernel_rfl) (by kernel_rfl) ok_f80
theorem ok_f77:SP 77 (sRepW.spec oRepW):=Sig.sound (E:=en L98 [] false) okL98 (fn:=Tryz.f77) (by kernel_rfl) (by rfl) fun ⟨w,_⟩ k h=>Eq.mp (α:=V.vRepW w k) (by kernel_rfl) (O.vRepW h)
def L99:LS:=(77,sRepW.spec oRepW)::L98
theorem okL99:OKL L99:=Env.OK.cons okL98 (fn:=Tryz.f77) (by kernel_rfl) (by kernel_rfl) (by kernel_rfl) ok_f77
theorem ok_f78:SP 78 (sOkW.spec oOkW):=Sig.sound (E:=en L99 [] false) okL99 (fn:=Tryz.f78) (by kernel_rfl) (by rfl) fun ⟨w,_⟩ k h=>Eq.mp (α:=V.vOkW w k) (by kernel_rfl) (O.vOkW h)
def L100:LS:=(78,sOkW.spec oOkW)::L99
theorem okL100:OKL L100:=Env.OK.cons okL99 (fn:=Tryz.f78) (by kernel_rfl) (by kernel_rfl) (by kernel_rfl) ok_f78
theorem ok_f193:SP 193 (sEndW.spec oEndW):=Sig.sound (E:=en L100 [] false) okL100 (fn:=Tryz.f193) (by kernel_rfl) (by rfl) fun ⟨w,r,_⟩ k h=>Eq.mp (α:=V.vEndW w r k) (by kernel_rfl) (O.vEndW h)
def L101:LS:=(193,sEndW.spec oEndW)::L100
theorem okL101:OKL L101:=Env.OK.cons okL100 (fn:=Tryz.f193) (by kernel_rfl) (by kernel_rfl) (by kernel_rfl) ok_f193
theorem ok_f151:SP 151 (sFailW.spec oFailW):=Sig.sound (E:=en L101 [] false) okL101 (fn:=Tryz.f151) (by kernel_rfl) (by rfl) fun ⟨w,e,_⟩ k h=>Eq.mp (α:=V.vFailW w e k) (by kernel_rfl) (O.vFailW h)
def L102:LS:=(151,sFailW.spec oFailW)::L101
theorem okL102:OKL L102:=Env.OK.cons okL101 (fn:=Tryz.f151) (by kernel_rfl) (by kernel_rfl) (by kernel_rfl) ok_f151
theorem ok_f233:SP 233 (sWCb.spec oDropW):=Sig.sound (E:=en L102 [(2,lDropW)] false) okL102 (fn:=Tryz.f233) (by kernel_rfl) (by rfl) fun ⟨w,c,_⟩ k h=>Eq.mp (α:=V.vDropW w c k) (by kernel_rfl) (O.vDropW h)
def L103:LS:=(233,sWCb.spec oDropW)::L102
theorem okL103:OKL L103:=Env.OK.cons okL102 (fn:=Tryz.f233) (by kernel_rfl) (by kernel_rfl) (by kernel_rfl) ok_f233
theorem ok_f194:SP 194 (sWC.spec oUnplan):=Sig.sound (E:=en L103 [] false) okL103 (fn:=Tryz.f194) (by kernel_rfl) (by rfl) fun ⟨w,c,_⟩ k h=>Eq.mp (α:=V.vUnplan w c k) (by kernel_rfl) (O.vUnplan h)
def L104:LS:=(194,sWC.spec oUnplan)::L103
theorem okL104:OKL L104:=Env.OK.cons okL103 (fn:=Tryz.f194) (by kernel_rfl) (by kernel_rfl) (by kernel_rfl) ok_f194
theorem ok_f198:SP 198 ((sWC).spec (oW2 Law.submitW)):=Sig.sound (E:=en L104 [] false) okL104 (fn:=Tryz.f198) (by kernel_rfl) (by rfl) fun ⟨w,c,_⟩ k h=>Eq.mp (α:=V.vSubW w c k) (by kernel_rfl) (O.vSubW h)
def L105:LS:=(198,(sWC).spec (oW2 Law.submitW))::L104
theorem okL105:OKL L105:=Env.OK.cons okL104 (fn:=Tryz.f198) (by kernel_rfl) (by kernel_rfl) (by kernel_rfl) ok_f198
theorem ok_f199:SP 199 ((sWC).spec (oW2 Law.finishW)):=Sig.sound (E:=en L105 [] false) okL105 (fn:=Tryz.f199) (by kernel_rfl) (by rfl) fun ⟨w,c,_⟩ k h=>Eq.mp (α:=V.vFinW w c k) (by kernel_rfl) (O.vFinW h)
def L106:LS:=(199,(sWC).spec (oW2 Law.finishW))::L105
theorem okL106:OKL L106:=Env.OK.cons okL105 (fn:=Tryz.f199) (by kernel_rfl) (by kernel_rfl) (by kernel_rfl) ok_f199
theorem ok_f200:SP 200 ((sWC).spec (oW2 Law.holdW)):=Sig.sound (E:=en L106 [] false) okL106 (fn:=Tryz.f200) (by kernel_rfl) (by rfl) fun ⟨w,c,_⟩ k h=>Eq.mp (α:=V.vHoldW w c k) (by kernel_rfl) (O.vHoldW h)
def L107:LS:=(200,(sWC).spec (oW2 Law.holdW))::L106
theorem okL107:OKL L107:=Env.OK.cons okL106 (fn:=Tryz.f200) (by kernel_rfl) (by kernel_rfl) (by kernel_rfl) ok_f200
theorem ok_f201:SP 201 ((sWC).spec (oW2 Law.freeW)):=Sig.sound (E:=en L107 [] false) okL107 (fn:=Tryz.f201) (by kernel_rfl) (by rfl) fun ⟨w,c,_⟩ k h=>Eq.mp (α:=V.vFreeW w c k) (by kernel_rfl) (O.vFreeW h)
def L108:LS:=(201,(sWC).spec (oW2 Law.freeW))::L107
theorem okL108:OKL L108:=Env.OK.cons okL107 (fn:=Tryz.f201) (by kernel_rfl) (by kernel_rfl) (by kernel_rfl) ok_f201
theorem ok_f203:SP 203 ((sWC).spec (oW2 Law.drainW)):=Sig.sound (E:=en L108 [] false) okL108 (fn:=Tryz.f203) (by kernel_rfl) (by rfl) fun ⟨w,c,_⟩ k h=>Eq.mp (α:=V.vDrainW w c k) (by kernel_rfl) (O.vDrainW h)
def L109:LS:=(203,(sWC).spec (oW2 Law.drainW))::L108
theorem okL109:OKL L109:=Env.OK.cons okL108 (fn:=Tryz.f203) (by kernel_rfl) (by kernel_rfl) (by kernel_rfl) ok_f203
theorem ok_f204:SP 204 ((sWC).spec (oW2 Law.resumeW)):=Sig.sound (E:=en L109 [] false) okL109 (fn:=Tryz.f204) (by kernel_rfl) (by rfl) fun ⟨w,c,_⟩ k h=>Eq.mp (α:=V.vResumeW w c k) (by kernel_rfl) (O.vResumeW h)
def L110:LS:=(204,(sWC).spec (oW2 Law.resumeW))::L109
theorem okL110:OKL L110:=Env.OK.cons okL109 (fn:=Tryz.f204) (by kernel_rfl) (by kernel_rfl) (by kernel_rfl) ok_f204
theorem ok_f205:SP 205 ((sWC).spec (oW2 Law.tickW)):=Sig.sound (E:=en L110 [] false) okL110 (fn:=Tryz.f205) (by kernel_rfl) (by rfl) fun ⟨w,c,_⟩ k h=>Eq.mp (α:=V.vTickW w c k) (by kernel_rfl) (O.vTickW h)
def L111:LS:=(205,(sWC).spec (oW2 Law.tickW))::L110
theorem okL111:OKL L111:=Env.OK.cons okL110 (fn:=Tryz.f205) (by kernel_rfl) (by kernel_rfl) (by kernel_rfl) ok_f205
theorem ok_f206:SP 206 ((sWC).spec (oW2 Law.countW)):=Sig.sound (E:=en L111 [] false) okL111 (fn:=Tryz.f206) (by kernel_rfl) (by rfl) fun ⟨w,c,_⟩ k h=>Eq.mp (α:=V.vCountW w c k) (by kernel_rfl) (O.vCountW h)
def L112:LS:=(206,(sWC).spec (oW2 Law.countW))::L111
theorem okL112:OKL L112:=Env.OK.cons okL111 (fn:=Tryz.f206) (by kernel_rfl) (by kernel_rfl) (by kernel_rfl) ok_f206
theorem ok_f153:SP 153 ((sWC).spec (oW2 Law.serveW)):=Sig.sound (E:=en L112 [] false) okL112 (fn:=Tryz.f153) (by kernel_rfl) (by rfl) fun ⟨w,c,_⟩ k h=>Eq.mp (α:=V.vServeW w c k) (by kernel_rfl) (O.vServeW h)
def L113:LS:=(153,(sWC).spec (oW2 Law.serveW))::L112
theorem okL113:OKL L113:=Env.OK.cons okL112 (fn:=Tryz.f153) (by kernel_rfl) (by kernel_rfl) (by kernel_rfl) ok_f153
theorem ok_f152:SP 152 ((sWC).spec (oW2 Law.settleW)):=Sig.sound (E:=en L113 [] false) okL113 (fn:=Tryz.f152) (by kernel_rfl) (by rfl) fun ⟨w,c,_⟩ k h=>Eq.mp (α:=V.vSettleW w c k) (by kernel_rfl) (O.vSettleW h)
def L114:LS:=(152,(sWC).spec (oW2 Law.settleW))::L113
theorem okL114:OKL L114:=Env.OK.cons okL113 (fn:=Tryz.f152) (by kernel_rfl) (by kernel_rfl) (by kernel_rfl) ok_f152
theorem ok_f94:SP 94 (sWCb.spec oStepW):=Sig.sound (E:=en L114 [] false) okL114 (fn:=Tryz.f94) (by kernel_rfl) (by rfl) fun ⟨w,c,_⟩ k h=>Eq.mp (α:=V.vStepW w c k) (by kernel_rfl) (O.vStepW h)
def L115:LS:=(94,sWCb.spec oStepW)::L114
theorem okL115:OKL L115:=Env.OK.cons okL114 (fn:=Tryz.f94) (by kernel_rfl) (by kernel_rfl) (by kernel_rfl) ok_f94
theorem ok_f15:SP 15 (cutSpec .deed 60):=by
 exact cut_sound (E:=en L115 [] false) okL115 (fn:=Tryz.f15) (by kernel_rfl) (fun xs H K=>by kernel_rfl)
def L116:LS:=(15,cutSpec .deed 60)::L115
theorem okL116:OKL L116:=Env.OK.cons okL115 (fn:=Tryz.f15) (by kernel_rfl) (by kernel_rfl) (by kernel_rfl) ok_f15
theorem ok_f31:SP 31 (sWhole.spec oWhole):=Sig.sound (E:=en L116 [(2,lWhole)] false) okL116 (fn:=Tryz.f31) (by kernel_rfl) (by rfl) fun ⟨c,w,_⟩ k h=>Eq.mp (α:=V.vWhole c w k) (by kernel_rfl) (O.vWhole h)
def L117:LS:=(31,sWhole.spec oWhole)::L116
theorem okL117:OKL L117:=Env.OK.cons okL116 (fn:=Tryz.f31) (by kernel_rfl) (by kernel_rfl) (by kernel_rfl) ok_f31
theorem ok_f21:SP 21 (sMade.spec oMade):=Sig.sound (E:=en L117 [(6,lMade)] false) okL117 (fn:=Tryz.f21) (by kernel_rfl) (by rfl) fun ⟨n,l,_⟩ k h=>Eq.mp (α:=V.vMade n l k) (by kernel_rfl) (O.vMade h)
def L118:LS:=(21,sMade.spec oMade)::L117
theorem okL118:OKL L118:=Env.OK.cons okL117 (fn:=Tryz.f21) (by kernel_rfl) (by kernel_rfl) (by kernel_rfl) ok_f21
theorem ok_f17:SP 17 (sYes.spec oYes):=by
 refine Sig.sound (E:=en L118 [] false) okL118 (fn:=Tryz.f17) (by kernel_rfl) (by rfl) ?_
 intro u k h
 refine Eq.mp (α:=V.vAwake12 u k) ?_ (O.vAwake12 h)
 kernel_rfl
def L119:LS:=(17,sYes.spec oYes)::L118
theorem okL119:OKL L119:=Env.OK.cons okL118 (fn:=Tryz.f17) (by kernel_rfl) (by kernel_rfl) (by kernel_rfl) ok_f17
theorem ok_f26:SP 26 (sSameJ.spec oSameJ):=Sig.sound (E:=en L119 [(4,lSameJ)] false) okL119 (fn:=Tryz.f26) (by kernel_rfl) (by rfl) fun ⟨a,b,_⟩ k h=>Eq.mp (α:=V.vSameJ a b k) (by kernel_rfl) (O.vSameJ h)
def L120:LS:=(26,sSameJ.spec oSameJ)::L119
theorem okL120:OKL L120:=Env.OK.cons okL119 (fn:=Tryz.f26) (by kernel_rfl) (by kernel_rfl) (by kernel_rfl) ok_f26
theorem ok_f27:SP 27 (sSameS.spec oSameS):=Sig.sound (E:=en L120 [(4,lSameS)] false) okL120 (fn:=Tryz.f27) (by kernel_rfl) (by rfl) fun ⟨a,b,_⟩ k h=>Eq.mp (α:=V.vSameS a b k) (by kernel_rfl) (O.vSameS h)
def L121:LS:=(27,sSameS.spec oSameS)::L120
theorem okL121:OKL L121:=Env.OK.cons okL120 (fn:=Tryz.f27) (by kernel_rfl) (by kernel_rfl) (by kernel_rfl) ok_f27
theorem ok_f192:SP 192 (sHasM.spec oHasM):=Sig.sound (E:=en L121 [(2,lHasM)] true) okL121 (fn:=Tryz.f192) (by kernel_rfl) (by rfl) fun ⟨s,n,_⟩ k h=>Eq.mp (α:=V.vHasM s n k) (by kernel_rfl) (O.vHasM h)
def L122:LS:=(192,sHasM.spec oHasM)::L121
theorem okL122:OKL L122:=Env.OK.cons okL121 (fn:=Tryz.f192) (by kernel_rfl) (by kernel_rfl) (by kernel_rfl) ok_f192
theorem ok_f150:SP 150 (sHoldM.spec oHoldM):=Sig.sound (E:=en L122 [(2,lHoldM)] true) okL122 (fn:=Tryz.f150) (by kernel_rfl) (by rfl) fun ⟨m,n,_⟩ k h=>Eq.mp (α:=V.vHoldM m n k) (by kernel_rfl) (O.vHoldM h)
def L123:LS:=(150,sHoldM.spec oHoldM)::L122
theorem okL123:OKL L123:=Env.OK.cons okL122 (fn:=Tryz.f150) (by kernel_rfl) (by kernel_rfl) (by kernel_rfl) ok_f150
theorem ok_f85:SP 85 (sHoldM.spec oStateM):=Sig.sound (E:=en L123 [] true) okL123 (fn:=Tryz.f85) (by kernel_rfl) (by rfl) fun ⟨m,n,_⟩ k h=>Eq.mp (α:=V.vStateM m n k) (by kernel_rfl) (O.vStateM h)
def L124:LS:=(85,sHoldM.spec oStateM)::L123
theorem okL124:OKL L124:=Env.OK.cons okL123 (fn:=Tryz.f85) (by kernel_rfl) (by kernel_rfl) (by kernel_rfl) ok_f85
theorem ok_f161:SP 161 (sPlanned.spec oPlanned):=Sig.sound (E:=en L124 [] true) okL124 (fn:=Tryz.f161) (by kernel_rfl) (by rfl) fun ⟨j,_⟩ k h=>Eq.mp (α:=V.vPlanned j k) (by kernel_rfl) (O.vPlanned h)
def L125:LS:=(161,sPlanned.spec oPlanned)::L124
theorem okL125:OKL L125:=Env.OK.cons okL124 (fn:=Tryz.f161) (by kernel_rfl) (by kernel_rfl) (by kernel_rfl) ok_f161
theorem ok_f106:SP 106 (sFreeM.spec oFreeM):=Sig.sound (E:=en L125 [(3,lFree1),(10,lFree2)] true) okL125 (fn:=Tryz.f106) (by kernel_rfl) (by rfl) fun ⟨m,t,b,_⟩ k h=>Eq.mp (α:=V.vFreeM m t b k) (by kernel_rfl) (O.vFreeM h)
def L126:LS:=(106,sFreeM.spec oFreeM)::L125
theorem okL126:OKL L126:=Env.OK.cons okL125 (fn:=Tryz.f106) (by kernel_rfl) (by kernel_rfl) (by kernel_rfl) ok_f106
theorem ok_f191:SP 191 (sSooner.spec oSooner):=Sig.sound (E:=en L126 [] true) okL126 (fn:=Tryz.f191) (by kernel_rfl) (by rfl) fun ⟨b,t,l,_⟩ k h=>Eq.mp (α:=V.vSooner b t l k) (by kernel_rfl) (O.vSooner h)
def L127:LS:=(191,sSooner.spec oSooner)::L126
theorem okL127:OKL L127:=Env.OK.cons okL126 (fn:=Tryz.f191) (by kernel_rfl) (by kernel_rfl) (by kernel_rfl) ok_f191
theorem ok_f148:SP 148 (sTimesM.spec oTimesM):=Sig.sound (E:=en L127 [(3,lTimes1),(8,lTimes2)] true) okL127 (fn:=Tryz.f148) (by kernel_rfl) (by rfl) fun ⟨m,_⟩ k h=>Eq.mp (α:=V.vTimesM m k) (by kernel_rfl) (O.vTimesM h)
def L128:LS:=(148,sTimesM.spec oTimesM)::L127
theorem okL128:OKL L128:=Env.OK.cons okL127 (fn:=Tryz.f148) (by kernel_rfl) (by kernel_rfl) (by kernel_rfl) ok_f148
theorem ok_f83:SP 83 (sStepsM.spec oStepsM):=Sig.sound (E:=en L128 [(4,lStepsM)] true) okL128 (fn:=Tryz.f83) (by kernel_rfl) (by rfl) fun ⟨m,_⟩ k h=>Eq.mp (α:=V.vStepsM m k) (by kernel_rfl) (O.vStepsM h)
def L129:LS:=(83,sStepsM.spec oStepsM)::L128
theorem okL129:OKL L129:=Env.OK.cons okL128 (fn:=Tryz.f83) (by kernel_rfl) (by kernel_rfl) (by kernel_rfl) ok_f83
theorem ok_f155:SP 155 (sRoomM.spec oRoomM):=Sig.sound (E:=en L129 [(5,lRoomM)] true) okL129 (fn:=Tryz.f155) (by kernel_rfl) (by rfl) fun ⟨m,a,l,w,b,_⟩ k h=>Eq.mp (α:=V.vRoomM m a l w b k) (by kernel_rfl) (O.vRoomM h)
def L130:LS:=(155,sRoomM.spec oRoomM)::L129
theorem okL130:OKL L130:=Env.OK.cons okL129 (fn:=Tryz.f155) (by kernel_rfl) (by kernel_rfl) (by kernel_rfl) ok_f155
theorem ok_f154:SP 154 (sGetM.spec oGetM):=Sig.sound (E:=en L130 [] true) okL130 (fn:=Tryz.f154) (by kernel_rfl) (by rfl) fun ⟨m,n,_⟩ k h=>Eq.mp (α:=V.vGetM m n k) (by kernel_rfl) (O.vGetM h)
def L131:LS:=(154,sGetM.spec oGetM)::L130
theorem okL131:OKL L131:=Env.OK.cons okL130 (fn:=Tryz.f154) (by kernel_rfl) (by kernel_rfl) (by kernel_rfl) ok_f154
theorem ok_f98:SP 98 (sFitsM.spec oFitsM):=Sig.sound (E:=en L131 [] true) okL131 (fn:=Tryz.f98) (by kernel_rfl) (by rfl) fun ⟨m,x,_⟩ k h=>Eq.mp (α:=V.vFitsM m x k) (by kernel_rfl) (O.vFitsM h)
def L132:LS:=(98,sFitsM.spec oFitsM)::L131
theorem okL132:OKL L132:=Env.OK.cons okL131 (fn:=Tryz.f98) (by kernel_rfl) (by kernel_rfl) (by kernel_rfl) ok_f98
theorem ok_f109:SP 109 (sAhead.spec oAhead):=Sig.sound (E:=en L132 [] true) okL132 (fn:=Tryz.f109) (by kernel_rfl) (by rfl) fun ⟨a,b,_⟩ k h=>Eq.mp (α:=V.vAhead a b k) (by kernel_rfl) (O.vAhead h)
def L133:LS:=(109,sAhead.spec oAhead)::L132
theorem okL133:OKL L133:=Env.OK.cons okL132 (fn:=Tryz.f109) (by kernel_rfl) (by kernel_rfl) (by kernel_rfl) ok_f109
theorem ok_f157:SP 157 (sDropM.spec oDropM):=Sig.sound (E:=en L133 [(2,lDropM)] true) okL133 (fn:=Tryz.f157) (by kernel_rfl) (by rfl) fun ⟨m,j,_⟩ k h=>Eq.mp (α:=V.vDropM m j k) (by kernel_rfl) (O.vDropM h)
def L134:LS:=(157,sDropM.spec oDropM)::L133
theorem okL134:OKL L134:=Env.OK.cons okL133 (fn:=Tryz.f157) (by kernel_rfl) (by kernel_rfl) (by kernel_rfl) ok_f157
theorem ok_f99:SP 99 (sBeginM.spec oBeginM):=Sig.sound (E:=en L134 [(5,lBeginM)] true) okL134 (fn:=Tryz.f99) (by kernel_rfl) (by rfl) fun ⟨m,n,_⟩ k h=>Eq.mp (α:=V.vBeginM m n k) (by kernel_rfl) (O.vBeginM h)
def L135:LS:=(99,sBeginM.spec oBeginM)::L134
theorem okL135:OKL L135:=Env.OK.cons okL134 (fn:=Tryz.f99) (by kernel_rfl) (by kernel_rfl) (by kernel_rfl) ok_f99
theorem ok_f35:SP 35 (sCommitM.spec oCommitM):=Sig.sound (E:=en L135 [] true) okL135 (fn:=Tryz.f35) (by kernel_rfl) (by rfl) fun ⟨m,x,_⟩ k h=>Eq.mp (α:=V.vCommitM m x k) (by kernel_rfl) (O.vCommitM h)
def L136:LS:=(35,sCommitM.spec oCommitM)::L135
theorem okL136:OKL L136:=Env.OK.cons okL135 (fn:=Tryz.f35) (by kernel_rfl) (by kernel_rfl) (by kernel_rfl) ok_f35
theorem ok_f158:SP 158 (sTell.spec oTell):=Sig.sound (E:=en L136 [] true) okL136 (fn:=Tryz.f158) (by kernel_rfl) (by rfl) fun ⟨j,_⟩ k h=>Eq.mp (α:=V.vTell j k) (by kernel_rfl) (O.vTell h)
def L137:LS:=(158,sTell.spec oTell)::L136
theorem okL137:OKL L137:=Env.OK.cons okL136 (fn:=Tryz.f158) (by kernel_rfl) (by kernel_rfl) (by kernel_rfl) ok_f158
theorem ok_f156:SP 156 (sLiveM.spec oLiveM):=Sig.sound (E:=en L137 [(3,lLiveM)] true) okL137 (fn:=Tryz.f156) (by kernel_rfl) (by rfl) fun ⟨m,_⟩ k h=>Eq.mp (α:=V.vLiveM m k) (by kernel_rfl) (O.vLiveM h)
def L138:LS:=(156,sLiveM.spec oLiveM)::L137
theorem okL138:OKL L138:=Env.OK.cons okL137 (fn:=Tryz.f156) (by kernel_rfl) (by kernel_rfl) (by kernel_rfl) ok_f156
theorem ok_f100:SP 100 ((sReqM).spec (oReqM Law.submitM)):=Sig.sound (E:=en L138 [] true) okL138 (fn:=Tryz.f100) (by kernel_rfl) (by rfl) fun ⟨m,r,_⟩ k h=>Eq.mp (α:=V.vSubM m r k) (by kernel_rfl) (O.vSubM h)
def L139:LS:=(100,(sReqM).spec (oReqM Law.submitM))::L138
theorem okL139:OKL L139:=Env.OK.cons okL138 (fn:=Tryz.f100) (by kernel_rfl) (by kernel_rfl) (by kernel_rfl) ok_f100
theorem ok_f101:SP 101 ((sReqM).spec (oReqM Law.endM)):=Sig.sound (E:=en L139 [] true) okL139 (fn:=Tryz.f101) (by kernel_rfl) (by rfl) fun ⟨m,r,_⟩ k h=>Eq.mp (α:=V.vEndM m r k) (by kernel_rfl) (O.vEndM h)
def L140:LS:=(101,(sReqM).spec (oReqM Law.endM))::L139
theorem okL140:OKL L140:=Env.OK.cons okL139 (fn:=Tryz.f101) (by kernel_rfl) (by kernel_rfl) (by kernel_rfl) ok_f101
theorem ok_f102:SP 102 ((sReqM).spec (oReqM Law.turnM)):=Sig.sound (E:=en L140 [] true) okL140 (fn:=Tryz.f102) (by kernel_rfl) (by rfl) fun ⟨m,r,_⟩ k h=>Eq.mp (α:=V.vTurnM m r k) (by kernel_rfl) (O.vTurnM h)
def L141:LS:=(102,(sReqM).spec (oReqM Law.turnM))::L140
theorem okL141:OKL L141:=Env.OK.cons okL140 (fn:=Tryz.f102) (by kernel_rfl) (by kernel_rfl) (by kernel_rfl) ok_f102
theorem ok_f103:SP 103 ((sReqM).spec (oReqM Law.nodeM)):=Sig.sound (E:=en L141 [] true) okL141 (fn:=Tryz.f103) (by kernel_rfl) (by rfl) fun ⟨m,r,_⟩ k h=>Eq.mp (α:=V.vNodeM m r k) (by kernel_rfl) (O.vNodeM h)
def L142:LS:=(103,(sReqM).spec (oReqM Law.nodeM))::L141
theorem okL142:OKL L142:=Env.OK.cons okL141 (fn:=Tryz.f103) (by kernel_rfl) (by kernel_rfl) (by kernel_rfl) ok_f103
theorem ok_f159:SP 159 (sLiveM.spec oNextM):=Sig.sound (E:=en L142 [(3,lNextM)] true) okL142 (fn:=Tryz.f159) (by kernel_rfl) (by rfl) fun ⟨m,_⟩ k h=>Eq.mp (α:=V.vNextM m k) (by kernel_rfl) (O.vNextM h)
def L143:LS:=(159,sLiveM.spec oNextM)::L142
theorem okL143:OKL L143:=Env.OK.cons okL142 (fn:=Tryz.f159) (by kernel_rfl) (by kernel_rfl) (by kernel_rfl) ok_f159
theorem ok_f160:SP 160 (sHapM.spec oHapM):=Sig.sound (E:=en L143 [(1,lHap1),(8,lHap2),(12,lHap3)] true) okL143 (fn:=Tryz.f160) (by kernel_rfl) (by rfl) fun ⟨m,_⟩ k h=>Eq.mp (α:=V.vHapM m k) (by kernel_rfl) (O.vHapM h)
def L144:LS:=(160,sHapM.spec oHapM)::L143
theorem okL144:OKL L144:=Env.OK.cons okL143 (fn:=Tryz.f160) (by kernel_rfl) (by kernel_rfl) (by kernel_rfl) ok_f160
theorem ok_f104:SP 104 (sTickM.spec oTickM):=Sig.sound (E:=en L144 [(5,lTickM)] true) okL144 (fn:=Tryz.f104) (by kernel_rfl) (by rfl) fun ⟨m,n,_⟩ k h=>Eq.mp (α:=V.vTickM m n k) (by kernel_rfl) (O.vTickM h)
def L145:LS:=(104,sTickM.spec oTickM)::L144
theorem okL145:OKL L145:=Env.OK.cons okL144 (fn:=Tryz.f104) (by kernel_rfl) (by kernel_rfl) (by kernel_rfl) ok_f104
theorem ok_f105:SP 105 (sCountM.spec oCountM):=Sig.sound (E:=en L145 [(3,lCount1),(8,lCount2)] true) okL145 (fn:=Tryz.f105) (by kernel_rfl) (by rfl) fun ⟨m,j,a,b,_⟩ k h=>Eq.mp (α:=V.vCountM m j a b k) (by kernel_rfl) (O.vCountM h)
def L146:LS:=(105,sCountM.spec oCountM)::L145
theorem okL146:OKL L146:=Env.OK.cons okL145 (fn:=Tryz.f105) (by kernel_rfl) (by kernel_rfl) (by kernel_rfl) ok_f105
theorem ok_f36:SP 36 ((sReqM).spec (oReqM Law.doM)):=Sig.sound (E:=en L146 [] true) okL146 (fn:=Tryz.f36) (by kernel_rfl) (by rfl) fun ⟨m,r,_⟩ k h=>Eq.mp (α:=V.vDoM m r k) (by kernel_rfl) (O.vDoM h)
def L147:LS:=(36,(sReqM).spec (oReqM Law.doM))::L146
theorem okL147:OKL L147:=Env.OK.cons okL146 (fn:=Tryz.f36) (by kernel_rfl) (by kernel_rfl) (by kernel_rfl) ok_f36
theorem ok_f18:SP 18 (sNewM.spec oNewM):=Sig.sound (E:=en L147 [] true) okL147 (fn:=Tryz.f18) (by kernel_rfl) (by rfl) fun ⟨n,_⟩ k h=>Eq.mp (α:=V.vNewM n k) (by kernel_rfl) (O.vNewM h)
def L148:LS:=(18,sNewM.spec oNewM)::L147
theorem okL148:OKL L148:=Env.OK.cons okL147 (fn:=Tryz.f18) (by kernel_rfl) (by kernel_rfl) (by kernel_rfl) ok_f18
theorem ok_f19:SP 19 (sDoP.spec oDoP):=Sig.sound (E:=en L148 [] true) okL148 (fn:=Tryz.f19) (by kernel_rfl) (by rfl) fun ⟨c,m,d,_⟩ k h=>Eq.mp (α:=V.vDoP c m d k) (by kernel_rfl) (O.vDoP h)
def L149:LS:=(19,sDoP.spec oDoP)::L148
theorem okL149:OKL L149:=Env.OK.cons okL148 (fn:=Tryz.f19) (by kernel_rfl) (by kernel_rfl) (by kernel_rfl) ok_f19
theorem ok_f20:SP 20 (sUnlike.spec oUnlike):=Sig.sound (E:=en L149 [(5,lUnlike)] true) okL149 (fn:=Tryz.f20) (by kernel_rfl) (by rfl) fun ⟨c,m,_⟩ k h=>Eq.mp (α:=V.vUnlike c m k) (by kernel_rfl) (O.vUnlike h)
def L150:LS:=(20,sUnlike.spec oUnlike)::L149
theorem okL150:OKL L150:=Env.OK.cons okL149 (fn:=Tryz.f20) (by kernel_rfl) (by kernel_rfl) (by kernel_rfl) ok_f20
theorem ok_f108:SP 108 (sIsR.spec oIsR):=Sig.sound (E:=en L150 [] true) okL150 (fn:=Tryz.f108) (by kernel_rfl) (by rfl) fun ⟨q,_⟩ k h=>Eq.mp (α:=V.vIsR q k) (by kernel_rfl) (O.vIsR h)
def L151:LS:=(108,sIsR.spec oIsR)::L150
theorem okL151:OKL L151:=Env.OK.cons okL150 (fn:=Tryz.f108) (by kernel_rfl) (by kernel_rfl) (by kernel_rfl) ok_f108
theorem ok_f32:SP 32 (sNewS.spec oNewS):=Sig.sound (E:=en L151 [] true) okL151 (fn:=Tryz.f32) (by kernel_rfl) (by rfl) fun ⟨n,_⟩ k h=>Eq.mp (α:=V.vNewS n k) (by kernel_rfl) (O.vNewS h)
def L152:LS:=(32,sNewS.spec oNewS)::L151
theorem okL152:OKL L152:=Env.OK.cons okL151 (fn:=Tryz.f32) (by kernel_rfl) (by kernel_rfl) (by kernel_rfl) ok_f32
theorem ok_f96:SP 96 (sNoneS.spec oNoneS):=by
 refine Sig.sound (E:=en L152 [] true) okL152 (fn:=Tryz.f96) (by kernel_rfl) (by rfl) ?_
 intro x k h
 obtain ⟨s,_⟩:=x
 cases s with
 |none=>exact Eq.mp (α:=V.vNoneSN k) (by kernel_rfl) (O.vNoneSN h)
 |some s=>exact Eq.mp (α:=V.vNoneS s k) (by kernel_rfl) (O.vNoneS h)
def L153:LS:=(96,sNoneS.spec oNoneS)::L152
theorem okL153:OKL L153:=Env.OK.cons okL152 (fn:=Tryz.f96) (by kernel_rfl) (by kernel_rfl) (by kernel_rfl) ok_f96
theorem ok_f97:SP 97 (sRunS.spec oRunS):=Sig.sound (E:=en L153 [(0,lRunS)] true) okL153 (fn:=Tryz.f97) (by kernel_rfl) (by rfl) fun ⟨s,w,_⟩ k h=>Eq.mp (α:=V.vRunS s w k) (by kernel_rfl) (O.vRunS h)
def L154:LS:=(97,sRunS.spec oRunS)::L153
theorem okL154:OKL L154:=Env.OK.cons okL153 (fn:=Tryz.f97) (by kernel_rfl) (by kernel_rfl) (by kernel_rfl) ok_f97
theorem ok_f37a:SP 37 (sDoS.spec oDoS):=Sig.sound (E:=en L154 [] true) okL154 (fn:=Tryz.f37) (by kernel_rfl) (by rfl) fun ⟨s,r,_⟩ k h=>Eq.mp (α:=V.vDoS s r k) (by kernel_rfl) (O.vDoS h)
theorem ok_f37:SP 37 (nilSpec (sDoS.spec oDoS) (inlSpec (en L154 [] false) Tryz.f37)):=by
 exact nil_ok ok_f37a (inl_sound (E:=en L154 [] false) okL154 (fn:=Tryz.f37) (by kernel_rfl))
def L155:LS:=(37,nilSpec (sDoS.spec oDoS) (inlSpec (en L154 [] false) Tryz.f37))::L154
theorem okL155:OKL L155:=Env.OK.cons okL154 (fn:=Tryz.f37) (by kernel_rfl) (by kernel_rfl) (by kernel_rfl) ok_f37
theorem ok_f34a:SP 34 (sComS.spec oComS):=Sig.sound (E:=en L155 [] true) okL155 (fn:=Tryz.f34) (by kernel_rfl) (by rfl) fun ⟨s,x,_⟩ k h=>Eq.mp (α:=V.vComS s x k) (by kernel_rfl) (O.vComS h)
theorem ok_f34:SP 34 (nilSpec (sComS.spec oComS) (inlSpec (en L155 [] false) Tryz.f34)):=by
 exact nil_ok ok_f34a (inl_sound (E:=en L155 [] false) okL155 (fn:=Tryz.f34) (by kernel_rfl))
def L156:LS:=(34,nilSpec (sComS.spec oComS) (inlSpec (en L155 [] false) Tryz.f34))::L155
theorem okL156:OKL L156:=Env.OK.cons okL155 (fn:=Tryz.f34) (by kernel_rfl) (by kernel_rfl) (by kernel_rfl) ok_f34
theorem ok_f43a:SP 43 (sTwinS.spec oTwinS):=Sig.sound (E:=en L156 [] true) okL156 (fn:=Tryz.f43) (by kernel_rfl) (by rfl) fun ⟨s,_⟩ k h=>Eq.mp (α:=V.vTwinS s k) (by kernel_rfl) (O.vTwinS h)
theorem ok_f43:SP 43 (nilSpec (sTwinS.spec oTwinS) (inlSpec (en L156 [] false) Tryz.f43)):=by
 exact nil_ok ok_f43a (inl_sound (E:=en L156 [] false) okL156 (fn:=Tryz.f43) (by kernel_rfl))
def L157:LS:=(43,nilSpec (sTwinS.spec oTwinS) (inlSpec (en L156 [] false) Tryz.f43))::L156
theorem okL157:OKL L157:=Env.OK.cons okL156 (fn:=Tryz.f43) (by kernel_rfl) (by kernel_rfl) (by kernel_rfl) ok_f43
theorem ok_f46:SP 46 (sItems.spec oItems):=Sig.sound (E:=en L157 [(3,lItems)] true) okL157 (fn:=Tryz.f46) (by kernel_rfl) (by rfl) fun ⟨l,_⟩ k h=>Eq.mp (α:=V.vItems l k) (by kernel_rfl) (O.vItems h)
def L158:LS:=(46,sItems.spec oItems)::L157
theorem okL158:OKL L158:=Env.OK.cons okL157 (fn:=Tryz.f46) (by kernel_rfl) (by kernel_rfl) (by kernel_rfl) ok_f46
theorem ok_f44a:SP 44 (sItemsS.spec oItemsS):=Sig.sound (E:=en L158 [] true) okL158 (fn:=Tryz.f44) (by kernel_rfl) (by rfl) fun ⟨s,_⟩ k h=>Eq.mp (α:=V.vItemsS s k) (by kernel_rfl) (O.vItemsS h)
theorem ok_f44:SP 44 (nilSpec (sItemsS.spec oItemsS) (inlSpec (en L158 [] false) Tryz.f44)):=by
 exact nil_ok ok_f44a (inl_sound (E:=en L158 [] false) okL158 (fn:=Tryz.f44) (by kernel_rfl))
def L159:LS:=(44,nilSpec (sItemsS.spec oItemsS) (inlSpec (en L158 [] false) Tryz.f44))::L158
theorem okL159:OKL L159:=Env.OK.cons okL158 (fn:=Tryz.f44) (by kernel_rfl) (by kernel_rfl) (by kernel_rfl) ok_f44
theorem ok_f33:SP 33 (sYes.spec oYes):=by
 refine Sig.sound (E:=en L159 [] true) okL159 (fn:=Tryz.f33) (by kernel_rfl) (by rfl) ?_
 intro u k h
 refine Eq.mp (α:=V.vAwakeS u k) ?_ (O.vAwakeS h)
 kernel_rfl
def L160:LS:=(33,sYes.spec oYes)::L159
theorem okL160:OKL L160:=Env.OK.cons okL159 (fn:=Tryz.f33) (by kernel_rfl) (by kernel_rfl) (by kernel_rfl) ok_f33
theorem ok_f38:SP 38 (sMadeS.spec oMadeS):=Sig.sound (E:=en L160 [(6,lMadeS)] true) okL160 (fn:=Tryz.f38) (by kernel_rfl) (by rfl) fun ⟨n,l,_⟩ k h=>Eq.mp (α:=V.vMadeS n l k) (by kernel_rfl) (O.vMadeS h)
def L161:LS:=(38,sMadeS.spec oMadeS)::L160
theorem okL161:OKL L161:=Env.OK.cons okL160 (fn:=Tryz.f38) (by kernel_rfl) (by kernel_rfl) (by kernel_rfl) ok_f38
theorem ok_f6:SP 6 (sSeqPlays.spec oPlays):=Sig.sound (E:=en L161 [(9,lSeqPlays)] true) okL161 (fn:=Tryz.f6) (by kernel_rfl) (by rfl) fun ⟨n,l,_⟩ k h=>Eq.mp (α:=V.vSeqPlays n l k) (by kernel_rfl) (O.vSeqPlays h)
def L162:LS:=(6,sSeqPlays.spec oPlays)::L161
theorem okL162:OKL L162:=Env.OK.cons okL161 (fn:=Tryz.f6) (by kernel_rfl) (by kernel_rfl) (by kernel_rfl) ok_f6
theorem ok_f39:SP 39 (sExc.spec oExc):=Sig.sound (E:=en L162 [] true) okL162 (fn:=Tryz.f39) (by kernel_rfl) (by rfl) fun ⟨d,j,a,b,_⟩ k h=>Eq.mp (α:=V.vExc d j a b k) (by kernel_rfl) (O.vExc h)
def L163:LS:=(39,sExc.spec oExc)::L162
theorem okL163:OKL L163:=Env.OK.cons okL162 (fn:=Tryz.f39) (by kernel_rfl) (by kernel_rfl) (by kernel_rfl) ok_f39
theorem ok_f8:SP 8 (sSeqD.spec oSeqD):=Sig.sound (E:=en L163 [] true) okL163 (fn:=Tryz.f8) (by kernel_rfl) (by rfl) fun ⟨n,l,d,_⟩ k h=>Eq.mp (α:=V.vSeqRef n l d k) (by kernel_rfl) (O.vSeqRef h)
def L164:LS:=(8,sSeqD.spec oSeqD)::L163
theorem okL164:OKL L164:=Env.OK.cons okL163 (fn:=Tryz.f8) (by kernel_rfl) (by kernel_rfl) (by kernel_rfl) ok_f8
end
end Go.Proofs.YtnoinchifbckcaaGreatDoor.core
