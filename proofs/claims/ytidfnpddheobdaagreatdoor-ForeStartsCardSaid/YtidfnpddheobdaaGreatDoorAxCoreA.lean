import Derived.Test.YtidfnpddheobdaaGreatDoorAxTZ
import Derived.Test.YtidfnpddheobdaaGreatDoorAxV9
import Derived.Test.YtidfnpddheobdaaGreatDoorAxO28
import Derived.Test.YtidfnpddheobdaaGreatDoorAxO23
import Derived.Test.YtidfnpddheobdaaGreatDoorAxO21
import Derived.Test.YtidfnpddheobdaaGreatDoorAxOV
import Derived.Test.YtidfnpddheobdaaGreatDoorAxP6
import Derived.Test.YtidfnpddheobdaaGreatDoorProg
import Derived.Shelf.Lays7
import Derived.KernelRfl
set_option linter.all false
namespace Go.Proofs
open Go.Shelf
def Tryz.lays29_ren:Go.Shelf.Ren:=⟨fun |29=>199 |n=>n,fun |22=>43 |3=>3 |4=>4 |25=>214 |54=>251 |0=>0 |5=>5 |n=>n,fun |1=>0 |n=>n⟩
theorem Tryz.lays29:Go.Proofs.Lays7.n29 Tryz.prog Tryz.lays29_ren:={
 mixed:=by kernel_rfl
 f29:=Tryz.func199.trans (congrArg some (by kernel_rfl))
 t0:=Tryz.underlying0
 a0:=Tryz.isAgg0
 z0:=Tryz.sizeOf0
 v0:=Tryz.zeroValue0
 i0:=by kernel_rfl
 t3:=Tryz.underlying3
 a3:=Tryz.isAgg3
 z3:=Tryz.sizeOf3
 v3:=Tryz.zeroValue3
 i3:=by kernel_rfl
 t4:=Tryz.underlying4
 a4:=Tryz.isAgg4
 z4:=Tryz.sizeOf4
 v4:=Tryz.zeroValue4
 i4:=by kernel_rfl
 t5:=Tryz.underlying5
 a5:=Tryz.isAgg5
 z5:=Tryz.sizeOf5
 v5:=Tryz.zeroValue5
 i5:=by kernel_rfl
 t22:=Tryz.underlying43
 a22:=Tryz.isAgg43
 z22:=Tryz.sizeOf43
 v22:=Tryz.zeroValue43
 i22:=by kernel_rfl
 t25:=Tryz.underlying214
 a25:=Tryz.isAgg214
 z25:=Tryz.sizeOf214
 v25:=Tryz.zeroValue214
 i25:=by kernel_rfl
 t54:=Tryz.underlying251
 a54:=Tryz.isAgg251
 z54:=Tryz.sizeOf251
 g1:=by kernel_rfl}
end Go.Proofs
namespace Go.Proofs.YtidfnpddheobdaaGreatDoor.core
open Go.Ax Go.Ax.Sp
set_option linter.unusedVariables false
set_option maxRecDepth 1000000
noncomputable section
noncomputable instance surr:Surr:=⟨True,[(0,tzTab)]⟩
def ek0:List (TypeId × EK):=[(2,.i64),(3,.i64),(4,.bool),(5,.u8),(9,.str),(43,.u64),(45,.job),(49,.req),(59,.lane),(85,.choice),(96,.item),(102,.reply),(119,.step),(129,.deed),(178,.span),(111,.told37)]
abbrev LS:=List (FuncId × SpecT)
@[reducible] def en (L:LS) (l:List (Nat × LoopAnn)) (b:Bool):LEnv:={P:=Tryz.prog,spec:=L,ek:=ek0,loops:=l,n0:=0,sharp:=b}
abbrev OKL (L:LS):Prop:=Env.OK {P:=Tryz.prog,spec:=L,ek:=ek0}
abbrev SP (f:FuncId) (S:SpecT):Prop:=SpecOK Tryz.prog f S
theorem okE0:OKL []:=Env.OK.nil
def L0:LS:=[]
theorem okL0:OKL L0:=okE0
def L1:LS:=(158,sIdxI.spec oIdxI)::L0
theorem okL1:OKL L1:=addK okL0 [(2,lIdxI)] false (fn:=Tryz.f158) fun h=>O.vIdxI h
def L2:LS:=(111,sConI.spec oConI)::L1
theorem okL2:OKL L2:=addK okL1 [] false (fn:=Tryz.f111) fun h=>O.vConI h
def L3:LS:=(213,sNum1.spec oNaN)::L2
theorem okL3:OKL L3:=addK okL2 [] false (fn:=Tryz.f213) fun h=>O.vNaN h
def L4:LS:=(198,sNum2.spec oCmpI)::L3
theorem okL4:OKL L4:=addK okL3 [] false (fn:=Tryz.f198) fun h=>O.vCmpI h
def L5:LS:=(197,sOrI.spec oOrI)::L4
theorem okL5:OKL L5:=addK okL4 [(3,lOrI)] false (fn:=Tryz.f197) fun h=>O.vOrI h
def L6:LS:=(210,sOrI.spec oLeastI)::L5
theorem okL6:OKL L6:=addK okL5 [(3,lLeastI)] false (fn:=Tryz.f210) fun h=>O.vLeastI h
def L7:LS:=(118,sSet1.spec oOnes)::L6
theorem okL7:OKL L7:=addK okL6 [] false (fn:=Tryz.f118) fun h=>O.vOnes h
theorem ok_f199:SP 199 (sSet1.spec oTZ):=by
 exact tz_spec Tryz.lays29 rfl (List.mem_singleton.2 rfl)
def L8:LS:=(199,sSet1.spec oTZ)::L7
theorem okL8:OKL L8:=Env.OK.cons okL7 (fn:=Tryz.f199) (by kernel_rfl) (by kernel_rfl) (by kernel_rfl) ok_f199
def L9:LS:=(67,sSet1.spec oOnes)::L8
theorem okL9:OKL L9:=addK okL8 [] false (fn:=Tryz.f67) fun h=>O.vLenS h
def L10:LS:=(163,sSet1.spec oLow)::L9
theorem okL10:OKL L10:=addK okL9 [] false (fn:=Tryz.f163) fun h=>O.vLowS h
def L11:LS:=(92,sHas.spec oHas)::L10
theorem okL11:OKL L11:=addK okL10 [] false (fn:=Tryz.f92) fun h=>O.vHas h
def L12:LS:=(203,sWith.spec oWith)::L11
theorem okL12:OKL L12:=addK okL11 [] false (fn:=Tryz.f203) fun h=>O.vWith h
def L13:LS:=(204,sWith.spec oWithout)::L12
theorem okL13:OKL L13:=addK okL12 [] false (fn:=Tryz.f204) fun h=>O.vWithout h
def L14:LS:=(167,sAllS.spec oAllS)::L13
theorem okL14:OKL L14:=addK okL13 [] false (fn:=Tryz.f167) fun h=>O.vAllS h
def L15:LS:=(166,sFirst.spec oFirst)::L14
theorem okL15:OKL L15:=addK okL14 [(5,lFirst)] false (fn:=Tryz.f166) fun h=>O.vFirst h
def L16:LS:=(83,sCloneT.spec oCloneT)::L15
theorem okL16:OKL L16:=addK okL15 [] false (fn:=Tryz.f83) fun h=>O.vCloneT h
theorem ok_f81:SP 81 (sNoneP.spec oNoneP):=by
 refine Sig.sound (E:=en L16 [] false) okL16 (fn:=Tryz.f81) (by kernel_rfl) (by rfl) ?_
 intro x k h
 obtain ⟨p,_⟩:=x
 cases p with
 |none=>exact Eq.mp (α:=V.vNonePN k) (by kernel_rfl) (O.vNonePN h)
 |some p=>exact Eq.mp (α:=V.vNoneP p k) (by kernel_rfl) (O.vNoneP h)
def L17:LS:=(81,sNoneP.spec oNoneP)::L16
theorem okL17:OKL L17:=Env.OK.cons okL16 (fn:=Tryz.f81) (by kernel_rfl) (by kernel_rfl) (by kernel_rfl) ok_f81
def L18:LS:=(19,sPInt.spec oNow)::L17
theorem okL18:OKL L18:=addK okL17 [] false (fn:=Tryz.f19) fun h=>O.vNow h
def L19:LS:=(21,sPSteps.spec oPSteps)::L18
theorem okL19:OKL L19:=addK okL18 [] false (fn:=Tryz.f21) fun h=>O.vPSteps h
def L20:LS:=(133,sPCopy.spec oPCopy)::L19
theorem okL20:OKL L20:=addK okL19 [] false (fn:=Tryz.f133) fun h=>O.vPCopy h
def L21:LS:=(169,sCmpS.spec oCmpS)::L20
theorem okL21:OKL L21:=addK okL20 [] false (fn:=Tryz.f169) fun h=>O.vCmpS h
def L22:LS:=(168,(sBin 169).spec (oBin 169))::L21
theorem okL22:OKL L22:=addK okL21 [(3,lBin 169)] false (fn:=Tryz.f168) fun h=>O.vBin h
def L23:LS:=(124,sIndex.spec oIndex)::L22
theorem okL23:OKL L23:=addK okL22 [] false (fn:=Tryz.f124) fun h=>O.vIndex h
def L24:LS:=(73,sIndex.spec oFree)::L23
theorem okL24:OKL L24:=addK okL23 [] false (fn:=Tryz.f73) fun h=>O.vFreeP h
def L25:LS:=(175,sLeast.spec oLeast)::L24
theorem okL25:OKL L25:=addK okL24 [(8,lLeast)] false (fn:=Tryz.f175) fun h=>O.vLeast h
def L26:LS:=(205,sLeast.spec oMost)::L25
theorem okL26:OKL L26:=addK okL25 [(3,lMost)] false (fn:=Tryz.f205) fun h=>O.vMost h
theorem ok_f231:ExtOK Tryz.prog 231 (ovSpec .step):=by
 exact ov_spec (fn:=Tryz.f231) (tS:=50) (tR:=4) (e:=119) (by kernel_rfl) (by kernel_rfl) (by kernel_rfl) (by kernel_rfl) (by kernel_rfl) (by kernel_rfl) (by kernel_rfl) (by decide)
def L27:LS:=(231,ovSpec .step)::L26
theorem okL27:OKL L27:=Env.OK.ext okL26 ok_f231
def L28:LS:=(216,sInsT.spec oInsT)::L27
theorem okL28:OKL L28:=addK okL27 [] false (fn:=Tryz.f216) fun h=>O.vInsT h
def L29:LS:=(206,sSplit.spec oSplit)::L28
theorem okL29:OKL L29:=addK okL28 [] false (fn:=Tryz.f206) fun h=>O.vSplit h
def L30:LS:=(218,sSame.spec oSame)::L29
theorem okL30:OKL L30:=addK okL29 [] false (fn:=Tryz.f218) fun h=>O.vSame h
def L31:LS:=(217,(sCompact 218).spec (oCompact 218))::L30
theorem okL31:OKL L31:=addK okL30 [(4,lCp1 218),(9,lCp2 218)] false (fn:=Tryz.f217) fun h=>O.vCompact h
def L32:LS:=(207,sJoin1.spec oJoin1)::L31
theorem okL32:OKL L32:=addK okL31 [] false (fn:=Tryz.f207) fun h=>O.vJoin1 h
def L33:LS:=(176,sAdd.spec oAdd)::L32
theorem okL33:OKL L33:=addK okL32 [(14,lAdd)] false (fn:=Tryz.f176) fun h=>O.vAdd h
def L34:LS:=(173,sRes.spec oRel)::L33
theorem okL34:OKL L34:=addK okL33 [] false (fn:=Tryz.f173) fun h=>O.vRel h
def L35:LS:=(146,sRes.spec oRes)::L34
theorem okL35:OKL L35:=addK okL34 [] false (fn:=Tryz.f146) fun h=>O.vRes h
def L36:LS:=(191,sAdv.spec oAdv)::L35
theorem okL36:OKL L36:=addK okL35 [] false (fn:=Tryz.f191) fun h=>O.vAdv h
def L37:LS:=(129,sNewP.spec oNewP)::L36
theorem okL37:OKL L37:=addK okL36 [] false (fn:=Tryz.f129) fun h=>O.vNewP h
def L38:LS:=(79,sCloneB.spec oCloneB)::L37
theorem okL38:OKL L38:=addK okL37 [] false (fn:=Tryz.f79) fun h=>O.vCloneB h
theorem ok_f78:SP 78 (sNoneJ.spec oNoneJ):=by
 refine Sig.sound (E:=en L38 [] false) okL38 (fn:=Tryz.f78) (by kernel_rfl) (by rfl) ?_
 intro x k h
 obtain ⟨t,_⟩:=x
 cases t with
 |none=>exact Eq.mp (α:=V.vNoneJN k) (by kernel_rfl) (O.vNoneJN h)
 |some t=>exact Eq.mp (α:=V.vNoneJ t k) (by kernel_rfl) (O.vNoneJ h)
def L39:LS:=(78,sNoneJ.spec oNoneJ)::L38
theorem okL39:OKL L39:=Env.OK.cons okL38 (fn:=Tryz.f78) (by kernel_rfl) (by kernel_rfl) (by kernel_rfl) ok_f78
def L40:LS:=(130,sNewJ.spec oNewJ)::L39
theorem okL40:OKL L40:=addK okL39 [] false (fn:=Tryz.f130) fun h=>O.vNewJ h
def L41:LS:=(17,sAllJ.spec oAllJ)::L40
theorem okL41:OKL L41:=addK okL40 [] false (fn:=Tryz.f17) fun h=>O.vAllJ h
def L42:LS:=(58,sInJ.spec oInJ)::L41
theorem okL42:OKL L42:=addK okL41 [(3,lInJ)] false (fn:=Tryz.f58) fun h=>O.vInJ h
def L43:LS:=(160,sCmpB.spec oCmpB)::L42
theorem okL43:OKL L43:=addK okL42 [] false (fn:=Tryz.f160) fun h=>O.vCmpB h
def L44:LS:=(208,sLessB.spec oLessB)::L43
theorem okL44:OKL L44:=addK okL43 [] false (fn:=Tryz.f208) fun h=>O.vLessB h
def L45:LS:=(211,(sInsB 160).spec (oInsB 160))::L44
theorem okL45:OKL L45:=addK okL44 [(1,lIns1B 160),(4,lIns2B 160)] false (fn:=Tryz.f211) fun h=>O.vInsB h
def L46:LS:=(233,(sSwapRB 160).spec (oSwapRB 160))::L45
theorem okL46:OKL L46:=addK okL45 [(1,lSwapRB)] false (fn:=Tryz.f233) fun h=>O.vSwapRB h
def L47:LS:=(219,(sSwapRB 160).spec (oRotB 160))::L46
theorem okL47:OKL L47:=addK okL46 [(2,lRotB 160)] false (fn:=Tryz.f219) fun h=>O.vRotB h
theorem ok_f212r (n:Nat):SP 212 ((sSwapRB 160).spec (oSymB 160 n)):=by
 induction n with
 |zero=>
  refine Sig.sound (E:=en L47 [(3,lSy1B 160),(9,lSy2B),(15,lSy3B 160),(21,lSy4B),(33,lSy5B 160)] false) okL47 (fn:=Tryz.f212) (by kernel_rfl) (by rfl) ?_
  intro x k h
  exact absurd h.1.2.2.1 (Nat.not_lt_zero _)
 |succ n ih=>
  refine Sig.sound (E:=(en ((212,(sSwapRB 160).spec (oSymB 160 n))::L47) [(3,lSy1B 160),(9,lSy2B),(15,lSy3B 160),(21,lSy4B),(33,lSy5B 160)] false)) (Env.OK.cons okL47 (fn:=Tryz.f212) (by kernel_rfl) (by kernel_rfl) (by kernel_rfl) ih) (fn:=Tryz.f212) (by kernel_rfl) (by rfl) ?_
  intro x k h
  obtain ⟨l,a,b,m,_,_⟩:=x
  refine Eq.mp (α:=V.vSymB n l a b m k) ?_ (O.vSymB h)
  kernel_rfl
theorem ok_f212:SP 212 ((sSwapRB 160).spec (oSymB 160 1099511627777)):=by
 exact ok_f212r 1099511627777
def L48:LS:=(212,(sSwapRB 160).spec (oSymB 160 1099511627777))::L47
theorem okL48:OKL L48:=Env.OK.cons okL47 (fn:=Tryz.f212) (by kernel_rfl) (by kernel_rfl) (by kernel_rfl) ok_f212
def L49:LS:=(196,(sStabB 160).spec (oStabB 160))::L48
theorem okL49:OKL L49:=addK okL48 [(2,lSt1B 160),(7,lSt2B 160),(9,lSt1B 160)] false (fn:=Tryz.f196) fun h=>O.vStabB h
def L50:LS:=(159,(sSortB 160).spec (oSortB 160))::L49
theorem okL50:OKL L50:=addK okL49 [] false (fn:=Tryz.f159) fun h=>O.vSortB h
def L51:LS:=(112,sOrdS.spec oOrdS)::L50
theorem okL51:OKL L51:=addK okL50 [] false (fn:=Tryz.f112) fun h=>O.vOrdS h
def L52:LS:=(59,sAllJ.spec oWaiting)::L51
theorem okL52:OKL L52:=addK okL51 [] false (fn:=Tryz.f59) fun h=>O.vWaiting h
def L53:LS:=(195,sCountsJ.spec oCountsJ)::L52
theorem okL53:OKL L53:=addK okL52 [] false (fn:=Tryz.f195) fun h=>O.vCountsJ h
def L54:LS:=(45,sGetJ.spec oGetJ)::L53
theorem okL54:OKL L54:=addK okL53 [] false (fn:=Tryz.f45) fun h=>O.vGetJ h
theorem ok_f178:SP 178 (inlSpec (en L54 [] false) Tryz.f178):=by
 exact inl_sound (E:=en L54 [] false) okL54 (fn:=Tryz.f178) (by kernel_rfl)
def L55:LS:=(178,inlSpec (en L54 [] false) Tryz.f178)::L54
theorem okL55:OKL L55:=Env.OK.cons okL54 (fn:=Tryz.f178) (by kernel_rfl) (by kernel_rfl) (by kernel_rfl) ok_f178
def L56:LS:=(184,sHoldJ.spec oHoldJ)::L55
theorem okL56:OKL L56:=addK okL55 [] false (fn:=Tryz.f184) fun h=>O.vHoldJ h
def L57:LS:=(185,sHoldJ.spec oFreeJ)::L56
theorem okL57:OKL L57:=addK okL56 [] false (fn:=Tryz.f185) fun h=>O.vFreeJ h
def L58:LS:=(148,sPlanJ.spec oPlanJ)::L57
theorem okL58:OKL L58:=addK okL57 [] false (fn:=Tryz.f148) fun h=>O.vPlanJ h
def L59:LS:=(177,sBeginJ.spec oBeginJ)::L58
theorem okL59:OKL L59:=addK okL58 [] false (fn:=Tryz.f177) fun h=>O.vBeginJ h
def L60:LS:=(182,sFinJ.spec oFinJ)::L59
theorem okL60:OKL L60:=addK okL59 [] false (fn:=Tryz.f182) fun h=>O.vFinJ h
def L61:LS:=(209,sRightR.spec oRightR)::L60
theorem okL61:OKL L61:=addK okL60 [] false (fn:=Tryz.f209) fun h=>O.vRightR h
def L62:LS:=(181,sSubJ.spec oSubJ)::L61
theorem okL62:OKL L62:=addK okL61 [] false (fn:=Tryz.f181) fun h=>O.vSubJ h
def L63:LS:=(141,sCopyJ.spec oCopyJ)::L62
theorem okL63:OKL L63:=addK okL62 [] false (fn:=Tryz.f141) fun h=>O.vCopyJ h
theorem ok_f91:SP 91 (sNoneN.spec oNoneN):=by
 refine Sig.sound (E:=en L63 [] false) okL63 (fn:=Tryz.f91) (by kernel_rfl) (by rfl) ?_
 intro x k h
 obtain ⟨t,_⟩:=x
 cases t with
 |none=>exact Eq.mp (α:=V.vNoneNN k) (by kernel_rfl) (O.vNoneNN h)
 |some t=>exact Eq.mp (α:=V.vNoneN t k) (by kernel_rfl) (O.vNoneN h)
def L64:LS:=(91,sNoneN.spec oNoneN)::L63
theorem okL64:OKL L64:=Env.OK.cons okL63 (fn:=Tryz.f91) (by kernel_rfl) (by kernel_rfl) (by kernel_rfl) ok_f91
def L65:LS:=(162,sNSet.spec oIdleN)::L64
theorem okL65:OKL L65:=addK okL64 [] false (fn:=Tryz.f162) fun h=>O.vIdleI h
def L66:LS:=(123,sNInt.spec oSizeN)::L65
theorem okL66:OKL L66:=addK okL65 [] false (fn:=Tryz.f123) fun h=>O.vSizeN h
def L67:LS:=(38,sStateN.spec oStateN)::L66
theorem okL67:OKL L67:=addK okL66 [] false (fn:=Tryz.f38) fun h=>O.vStateN h
def L68:LS:=(66,sNSet.spec oUsedN)::L67
theorem okL68:OKL L68:=addK okL67 [] false (fn:=Tryz.f66) fun h=>O.vUsedN h
def L69:LS:=(115,sCountsN.spec oCountsN)::L68
theorem okL69:OKL L69:=addK okL68 [] false (fn:=Tryz.f115) fun h=>O.vCountsN h
def L70:LS:=(119,sTakeN.spec oTakeN)::L69
theorem okL70:OKL L70:=addK okL69 [] false (fn:=Tryz.f119) fun h=>O.vTakeN h
def L71:LS:=(183,sGiveN.spec oGiveN)::L70
theorem okL71:OKL L71:=addK okL70 [] false (fn:=Tryz.f183) fun h=>O.vGiveN h
def L72:LS:=(187,sDrainN.spec oDrainN)::L71
theorem okL72:OKL L72:=addK okL71 [] false (fn:=Tryz.f187) fun h=>O.vDrainN h
def L73:LS:=(189,sDrainN.spec oResumeN)::L72
theorem okL73:OKL L73:=addK okL72 [] false (fn:=Tryz.f189) fun h=>O.vResumeN h
def L74:LS:=(142,sCopyN.spec oCopyN)::L73
theorem okL74:OKL L74:=addK okL73 [] false (fn:=Tryz.f142) fun h=>O.vCopyN h
def L75:LS:=(128,sNewN.spec oNewN)::L74
theorem okL75:OKL L75:=addK okL74 [] false (fn:=Tryz.f128) fun h=>O.vNewN h
def L76:LS:=(126,sFailR.spec oFailR)::L75
theorem okL76:OKL L76:=addK okL75 [] false (fn:=Tryz.f126) fun h=>O.vFailR h
def L77:LS:=(186,sTellR.spec oTellR)::L76
theorem okL77:OKL L77:=addK okL76 [] false (fn:=Tryz.f186) fun h=>O.vTellR h
def L78:LS:=(194,sThreeR.spec oThreeR)::L77
theorem okL78:OKL L78:=addK okL77 [] false (fn:=Tryz.f194) fun h=>O.vThreeR h
def L79:LS:=(54,sCleanR.spec oCleanR)::L78
theorem okL79:OKL L79:=addK okL78 [] false (fn:=Tryz.f54) fun h=>O.vCleanR h
theorem ok_f80:SP 80 (sNoneC.spec oNoneC):=by
 refine Sig.sound (E:=en L79 [] false) okL79 (fn:=Tryz.f80) (by kernel_rfl) (by rfl) ?_
 intro x k h
 obtain ⟨c,_⟩:=x
 cases c with
 |none=>exact Eq.mp (α:=V.vNoneCN k) (by kernel_rfl) (O.vNoneCN h)
 |some c=>exact Eq.mp (α:=V.vNoneC c k) (by kernel_rfl) (O.vNoneC h)
def L80:LS:=(80,sNoneC.spec oNoneC)::L79
theorem okL80:OKL L80:=Env.OK.cons okL79 (fn:=Tryz.f80) (by kernel_rfl) (by kernel_rfl) (by kernel_rfl) ok_f80
theorem ok_f34:SP 34 (sNoneC.spec oClosedC):=by
 refine Sig.sound (E:=en L80 [] false) okL80 (fn:=Tryz.f34) (by kernel_rfl) (by rfl) ?_
 intro x k h
 obtain ⟨c,_⟩:=x
 cases c with
 |none=>exact Eq.mp (α:=V.vClosedCN k) (by kernel_rfl) (O.vClosedCN h)
 |some c=>exact Eq.mp (α:=V.vClosedC c k) (by kernel_rfl) (O.vClosedC h)
def L81:LS:=(34,sNoneC.spec oClosedC)::L80
theorem okL81:OKL L81:=Env.OK.cons okL80 (fn:=Tryz.f34) (by kernel_rfl) (by kernel_rfl) (by kernel_rfl) ok_f34
def L82:LS:=(82,sNewC.spec oNewC)::L81
theorem okL82:OKL L82:=addK okL81 [] false (fn:=Tryz.f82) fun h=>O.vNewC h
def L83:LS:=(103,sTwinC.spec oTwinC)::L82
theorem okL83:OKL L83:=addK okL82 [] false (fn:=Tryz.f103) fun h=>O.vTwinC h
def L84:LS:=(161,sPlanS.spec oPlanS)::L83
theorem okL84:OKL L84:=addK okL83 [] false (fn:=Tryz.f161) fun h=>O.vPlanS h
def L85:LS:=(114,sSpansC.spec oSpansC)::L84
theorem okL85:OKL L85:=addK okL84 [(5,lSpansC)] false (fn:=Tryz.f114) fun h=>O.vSpansC h
def L86:LS:=(65,sHolderC.spec oHolderC)::L85
theorem okL86:OKL L86:=addK okL85 [(4,lHolderC)] false (fn:=Tryz.f65) fun h=>O.vHolderC h
def L87:LS:=(153,sToldC.spec oToldC)::L86
theorem okL87:OKL L87:=addK okL86 [] false (fn:=Tryz.f153) fun h=>O.vToldC h
def L88:LS:=(180,sWantsC.spec oWantsC)::L87
theorem okL88:OKL L88:=addK okL87 [] false (fn:=Tryz.f180) fun h=>O.vWantsC h
def L89:LS:=(188,sUntilC.spec oUntilC)::L88
theorem okL89:OKL L89:=addK okL88 [] false (fn:=Tryz.f188) fun h=>O.vUntilC h
def L90:LS:=(190,sNextC.spec oNextC)::L89
theorem okL90:OKL L90:=addK okL89 [(3,lNx1),(8,lNx2)] false (fn:=Tryz.f190) fun h=>O.vNextC h
def L91:LS:=(192,sTimeC.spec oTimeC)::L90
theorem okL91:OKL L91:=addK okL90 [(1,lTimeC)] false (fn:=Tryz.f192) fun h=>O.vTimeC h
def L92:LS:=(147,sBeginC.spec oBeginC)::L91
theorem okL92:OKL L92:=addK okL91 [] false (fn:=Tryz.f147) fun h=>O.vBeginC h
def L93:LS:=(193,sTimeC.spec oBeginsC)::L92
theorem okL93:OKL L93:=addK okL92 [(1,lBeginsC)] false (fn:=Tryz.f193) fun h=>O.vBeginsC h
def L94:LS:=(144,sFitsC.spec oFitsC)::L93
theorem okL94:OKL L94:=addK okL93 [] false (fn:=Tryz.f144) fun h=>O.vFitsC h
def L95:LS:=(47,sNewW.spec oNewW)::L94
theorem okL95:OKL L95:=addK okL94 [] false (fn:=Tryz.f47) fun h=>O.vNewW h
def L96:LS:=(104,sNewX.spec oNewX)::L95
theorem okL96:OKL L96:=addK okL95 [] false (fn:=Tryz.f104) fun h=>O.vNewX h
theorem ok_f48:SP 48 (sDoneW.spec oDoneW):=by
 refine Sig.sound (E:=en L96 [] false) okL96 (fn:=Tryz.f48) (by kernel_rfl) (by rfl) ?_
 intro x k h
 obtain ⟨w,_⟩:=x
 cases w with
 |none=>exact Eq.mp (α:=V.vDoneWN k) (by kernel_rfl) (O.vDoneWN h)
 |some w=>exact Eq.mp (α:=V.vDoneW w k) (by kernel_rfl) (O.vDoneW h)
def L97:LS:=(48,sDoneW.spec oDoneW)::L96
theorem okL97:OKL L97:=Env.OK.cons okL96 (fn:=Tryz.f48) (by kernel_rfl) (by kernel_rfl) (by kernel_rfl) ok_f48
def L98:LS:=(52,sRepW.spec oRepW)::L97
theorem okL98:OKL L98:=addK okL97 [] false (fn:=Tryz.f52) fun h=>O.vRepW h
def L99:LS:=(106,sOkW.spec oOkW)::L98
theorem okL99:OKL L99:=addK okL98 [] false (fn:=Tryz.f106) fun h=>O.vOkW h
def L100:LS:=(143,sEndW.spec oEndW)::L99
theorem okL100:OKL L100:=addK okL99 [] false (fn:=Tryz.f143) fun h=>O.vEndW h
def L101:LS:=(107,sFailW.spec oFailW)::L100
theorem okL101:OKL L101:=addK okL100 [] false (fn:=Tryz.f107) fun h=>O.vFailW h
def L102:LS:=(179,sWCb.spec oDropW)::L101
theorem okL102:OKL L102:=addK okL101 [(2,lDropW)] false (fn:=Tryz.f179) fun h=>O.vDropW h
def L103:LS:=(145,sWC.spec oUnplan)::L102
theorem okL103:OKL L103:=addK okL102 [] false (fn:=Tryz.f145) fun h=>O.vUnplan h
def L104:LS:=(149,(sWC).spec (oW2 Law.submitW))::L103
theorem okL104:OKL L104:=addK okL103 [] false (fn:=Tryz.f149) fun h=>O.vSubW h
def L105:LS:=(150,(sWC).spec (oW2 Law.finishW))::L104
theorem okL105:OKL L105:=addK okL104 [] false (fn:=Tryz.f150) fun h=>O.vFinW h
def L106:LS:=(151,(sWC).spec (oW2 Law.holdW))::L105
theorem okL106:OKL L106:=addK okL105 [] false (fn:=Tryz.f151) fun h=>O.vHoldW h
def L107:LS:=(152,(sWC).spec (oW2 Law.freeW))::L106
theorem okL107:OKL L107:=addK okL106 [] false (fn:=Tryz.f152) fun h=>O.vFreeW h
def L108:LS:=(154,(sWC).spec (oW2 Law.drainW))::L107
theorem okL108:OKL L108:=addK okL107 [] false (fn:=Tryz.f154) fun h=>O.vDrainW h
def L109:LS:=(155,(sWC).spec (oW2 Law.resumeW))::L108
theorem okL109:OKL L109:=addK okL108 [] false (fn:=Tryz.f155) fun h=>O.vResumeW h
def L110:LS:=(156,(sWC).spec (oW2 Law.tickW))::L109
theorem okL110:OKL L110:=addK okL109 [] false (fn:=Tryz.f156) fun h=>O.vTickW h
def L111:LS:=(157,(sWC).spec (oW2 Law.countW))::L110
theorem okL111:OKL L111:=addK okL110 [] false (fn:=Tryz.f157) fun h=>O.vCountW h
def L112:LS:=(109,(sWC).spec (oW2 Law.serveW))::L111
theorem okL112:OKL L112:=addK okL111 [] false (fn:=Tryz.f109) fun h=>O.vServeW h
def L113:LS:=(108,(sWC).spec (oW2 Law.settleW))::L112
theorem okL113:OKL L113:=addK okL112 [] false (fn:=Tryz.f108) fun h=>O.vSettleW h
def L114:LS:=(49,sWCb.spec oStepW)::L113
theorem okL114:OKL L114:=addK okL113 [] false (fn:=Tryz.f49) fun h=>O.vStepW h
theorem ok_f76:SP 76 (cutSpec .deed 60):=by
 exact cut_sound (E:=en L114 [] false) okL114 (fn:=Tryz.f76) (by kernel_rfl) (fun xs H K=>by kernel_rfl)
def L115:LS:=(76,cutSpec .deed 60)::L114
theorem okL115:OKL L115:=Env.OK.cons okL114 (fn:=Tryz.f76) (by kernel_rfl) (by kernel_rfl) (by kernel_rfl) ok_f76
def L116:LS:=(27,sSameJ.spec oSameJ)::L115
theorem okL116:OKL L116:=addK okL115 [(4,lSameJ)] false (fn:=Tryz.f27) fun h=>O.vSameJ h
def L117:LS:=(28,sSameS.spec oSameS)::L116
theorem okL117:OKL L117:=addK okL116 [(4,lSameS)] false (fn:=Tryz.f28) fun h=>O.vSameS h
def L118:LS:=(64,sHasM.spec oHasM)::L117
theorem okL118:OKL L118:=addK okL117 [(2,lHasM)] true (fn:=Tryz.f64) fun h=>O.vHasM h
def L119:LS:=(170,sHoldM.spec oHoldM)::L118
theorem okL119:OKL L119:=addK okL118 [(2,lHoldM)] true (fn:=Tryz.f170) fun h=>O.vHoldM h
def L120:LS:=(94,sPlanned.spec oPlanned)::L119
theorem okL120:OKL L120:=addK okL119 [] true (fn:=Tryz.f94) fun h=>O.vPlanned h
def L121:LS:=(132,sFreeM.spec oFreeM)::L120
theorem okL121:OKL L121:=addK okL120 [(3,lFree1),(10,lFree2)] true (fn:=Tryz.f132) fun h=>O.vFreeM h
def L122:LS:=(93,sSooner.spec oSooner)::L121
theorem okL122:OKL L122:=addK okL121 [] true (fn:=Tryz.f93) fun h=>O.vSooner h
def L123:LS:=(39,sTimesM.spec oTimesM)::L122
theorem okL123:OKL L123:=addK okL122 [(3,lTimes1),(8,lTimes2)] true (fn:=Tryz.f39) fun h=>O.vTimesM h
def L124:LS:=(96,sRoomM.spec oRoomM)::L123
theorem okL124:OKL L124:=addK okL123 [(5,lRoomM)] true (fn:=Tryz.f96) fun h=>O.vRoomM h
def L125:LS:=(95,sGetM.spec oGetM)::L124
theorem okL125:OKL L125:=addK okL124 [] true (fn:=Tryz.f95) fun h=>O.vGetM h
def L126:LS:=(40,sFitsM.spec oFitsM)::L125
theorem okL126:OKL L126:=addK okL125 [] true (fn:=Tryz.f40) fun h=>O.vFitsM h
def L127:LS:=(37,sNewM.spec oNewM)::L126
theorem okL127:OKL L127:=addK okL126 [] true (fn:=Tryz.f37) fun h=>O.vNewM h
def L128:LS:=(127,sIsR.spec oIsR)::L127
theorem okL128:OKL L128:=addK okL127 [] true (fn:=Tryz.f127) fun h=>O.vIsR h
def L129:LS:=(77,sNewS.spec oNewS)::L128
theorem okL129:OKL L129:=addK okL128 [] true (fn:=Tryz.f77) fun h=>O.vNewS h
theorem ok_f101:SP 101 (sNoneS.spec oNoneS):=by
 refine Sig.sound (E:=en L129 [] true) okL129 (fn:=Tryz.f101) (by kernel_rfl) (by rfl) ?_
 intro x k h
 obtain ⟨s,_⟩:=x
 cases s with
 |none=>exact Eq.mp (α:=V.vNoneSN k) (by kernel_rfl) (O.vNoneSN h)
 |some s=>exact Eq.mp (α:=V.vNoneS s k) (by kernel_rfl) (O.vNoneS h)
def L130:LS:=(101,sNoneS.spec oNoneS)::L129
theorem okL130:OKL L130:=Env.OK.cons okL129 (fn:=Tryz.f101) (by kernel_rfl) (by kernel_rfl) (by kernel_rfl) ok_f101
def L131:LS:=(105,sRunS.spec oRunS)::L130
theorem okL131:OKL L131:=addK okL130 [(0,lRunS)] true (fn:=Tryz.f105) fun h=>O.vRunS h
theorem ok_f75a:SP 75 (sDoS.spec oDoS):=Sig.sound (E:=en L131 [] true) okL131 (fn:=Tryz.f75) (by kernel_rfl) (by rfl) fun ⟨s,r,_⟩ k h=>Eq.mp (α:=V.vDoS s r k) (by kernel_rfl) (O.vDoS h)
theorem ok_f75:SP 75 (nilSpec (sDoS.spec oDoS) (inlSpec (en L131 [] false) Tryz.f75)):=by
 exact nil_ok ok_f75a (inl_sound (E:=en L131 [] false) okL131 (fn:=Tryz.f75) (by kernel_rfl))
def L132:LS:=(75,nilSpec (sDoS.spec oDoS) (inlSpec (en L131 [] false) Tryz.f75))::L131
theorem okL132:OKL L132:=Env.OK.cons okL131 (fn:=Tryz.f75) (by kernel_rfl) (by kernel_rfl) (by kernel_rfl) ok_f75
theorem ok_f44a:SP 44 (sComS.spec oComS):=Sig.sound (E:=en L132 [] true) okL132 (fn:=Tryz.f44) (by kernel_rfl) (by rfl) fun ⟨s,x,_⟩ k h=>Eq.mp (α:=V.vComS s x k) (by kernel_rfl) (O.vComS h)
theorem ok_f44:SP 44 (nilSpec (sComS.spec oComS) (inlSpec (en L132 [] false) Tryz.f44)):=by
 exact nil_ok ok_f44a (inl_sound (E:=en L132 [] false) okL132 (fn:=Tryz.f44) (by kernel_rfl))
def L133:LS:=(44,nilSpec (sComS.spec oComS) (inlSpec (en L132 [] false) Tryz.f44))::L132
theorem okL133:OKL L133:=Env.OK.cons okL132 (fn:=Tryz.f44) (by kernel_rfl) (by kernel_rfl) (by kernel_rfl) ok_f44
theorem ok_f43a:SP 43 (sTwinS.spec oTwinS):=Sig.sound (E:=en L133 [] true) okL133 (fn:=Tryz.f43) (by kernel_rfl) (by rfl) fun ⟨s,_⟩ k h=>Eq.mp (α:=V.vTwinS s k) (by kernel_rfl) (O.vTwinS h)
theorem ok_f43:SP 43 (nilSpec (sTwinS.spec oTwinS) (inlSpec (en L133 [] false) Tryz.f43)):=by
 exact nil_ok ok_f43a (inl_sound (E:=en L133 [] false) okL133 (fn:=Tryz.f43) (by kernel_rfl))
def L134:LS:=(43,nilSpec (sTwinS.spec oTwinS) (inlSpec (en L133 [] false) Tryz.f43))::L133
theorem okL134:OKL L134:=Env.OK.cons okL133 (fn:=Tryz.f43) (by kernel_rfl) (by kernel_rfl) (by kernel_rfl) ok_f43
def L135:LS:=(102,sItems.spec oItems)::L134
theorem okL135:OKL L135:=addK okL134 [(3,lItems)] true (fn:=Tryz.f102) fun h=>O.vItems h
theorem ok_f42a:SP 42 (sItemsS.spec oItemsS):=Sig.sound (E:=en L135 [] true) okL135 (fn:=Tryz.f42) (by kernel_rfl) (by rfl) fun ⟨s,_⟩ k h=>Eq.mp (α:=V.vItemsS s k) (by kernel_rfl) (O.vItemsS h)
theorem ok_f42:SP 42 (nilSpec (sItemsS.spec oItemsS) (inlSpec (en L135 [] false) Tryz.f42)):=by
 exact nil_ok ok_f42a (inl_sound (E:=en L135 [] false) okL135 (fn:=Tryz.f42) (by kernel_rfl))
def L136:LS:=(42,nilSpec (sItemsS.spec oItemsS) (inlSpec (en L135 [] false) Tryz.f42))::L135
theorem okL136:OKL L136:=Env.OK.cons okL135 (fn:=Tryz.f42) (by kernel_rfl) (by kernel_rfl) (by kernel_rfl) ok_f42
theorem ok_f15:SP 15 (sMadeS.spec oMadeS):=Sig.sound (E:=en L136 [(6,lMadeS)] true) okL136 (fn:=Tryz.f15) (by kernel_rfl) (by rfl) fun ⟨n,l,_⟩ k h=>Eq.mp (α:=V.vMadeS n l k) (by kernel_rfl) (O.vMadeS h)
def L137:LS:=(15,sMadeS.spec oMadeS)::L136
theorem okL137:OKL L137:=Env.OK.cons okL136 (fn:=Tryz.f15) (by kernel_rfl) (by kernel_rfl) (by kernel_rfl) ok_f15
end
end Go.Proofs.YtidfnpddheobdaaGreatDoor.core
