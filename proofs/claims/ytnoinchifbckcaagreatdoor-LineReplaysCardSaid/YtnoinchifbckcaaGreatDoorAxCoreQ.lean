import Derived.Test.YtnoinchifbckcaaGreatDoorAxTZ
import Derived.Test.YtnoinchifbckcaaGreatDoorAxV9
import Derived.Test.YtnoinchifbckcaaGreatDoorAxO28
import Derived.Test.YtnoinchifbckcaaGreatDoorAxO23
import Derived.Test.YtnoinchifbckcaaGreatDoorAxO21
import Derived.Test.YtnoinchifbckcaaGreatDoorAxOV
import Derived.Test.YtnoinchifbckcaaGreatDoorAxP6
import Derived.Test.YtnoinchifbckcaaGreatDoorProg
import Derived.Shelf.Lays7
import Derived.KernelRfl
set_option linter.all false
namespace Go.Proofs
open Go.Shelf
def Tryz.lays29_ren:Go.Shelf.Ren:=⟨fun |29=>287 |n=>n,fun |22=>70 |3=>3 |4=>4 |25=>244 |54=>351 |0=>0 |5=>5 |n=>n,fun |1=>0 |n=>n⟩
theorem Tryz.lays29:Go.Proofs.Lays7.n29 Tryz.prog Tryz.lays29_ren:={
 mixed:=by kernel_rfl
 f29:=Tryz.func287.trans (congrArg some (by kernel_rfl))
 t0:=Tryz.underlying0
 a0:=Tryz.isAgg0
 z0:=Tryz.sizeOf0
 v0:=Tryz.zeroValue0
 i0:=by kernel_rfl
 t3:=Tryz.underlying3
 a3:=Tryz.isAgg3
 z3:=Tryz.sizeOf3
 v3:=Tryz.zeroValue3
 i3:=by kernel_rfl
 t4:=Tryz.underlying4
 a4:=Tryz.isAgg4
 z4:=Tryz.sizeOf4
 v4:=Tryz.zeroValue4
 i4:=by kernel_rfl
 t5:=Tryz.underlying5
 a5:=Tryz.isAgg5
 z5:=Tryz.sizeOf5
 v5:=Tryz.zeroValue5
 i5:=by kernel_rfl
 t22:=Tryz.underlying70
 a22:=Tryz.isAgg70
 z22:=Tryz.sizeOf70
 v22:=Tryz.zeroValue70
 i22:=by kernel_rfl
 t25:=Tryz.underlying244
 a25:=Tryz.isAgg244
 z25:=Tryz.sizeOf244
 v25:=Tryz.zeroValue244
 i25:=by kernel_rfl
 t54:=Tryz.underlying351
 a54:=Tryz.isAgg351
 z54:=Tryz.sizeOf351
 g1:=by kernel_rfl}
end Go.Proofs
namespace Go.Proofs.YtnoinchifbckcaaGreatDoor.core
open Go.Ax Go.Ax.Sp
set_option linter.unusedVariables false
set_option maxRecDepth 1000000
noncomputable section
noncomputable instance surr:Surr:=⟨True,[(0,tzTab)]⟩
def ek0:List (TypeId × EK):=[(2,.i64),(3,.i64),(4,.bool),(5,.u8),(9,.str),(33,.req),(35,.choice),(37,.deed),(65,.reply),(70,.u64),(72,.job),(84,.item),(98,.answer),(103,.event),(114,.sdeed),(143,.lane),(158,.step),(226,.span)]
abbrev LS:=List (FuncId × SpecT)
@[reducible] def en (L:LS) (l:List (Nat × LoopAnn)) (b:Bool):LEnv:={P:=Tryz.prog,spec:=L,ek:=ek0,loops:=l,n0:=0,sharp:=b}
abbrev OKL (L:LS):Prop:=Env.OK {P:=Tryz.prog,spec:=L,ek:=ek0}
abbrev SP (f:FuncId) (S:SpecT):Prop:=SpecOK Tryz.prog f S
theorem okE0:OKL []:=Env.OK.nil
def L0:LS:=[]
theorem okL0:OKL L0:=okE0
def L1:LS:=(210,sIdxI.spec oIdxI)::L0
theorem okL1:OKL L1:=addK okL0 [(2,lIdxI)] false (fn:=Tryz.f210) fun h=>O.vIdxI h
def L2:LS:=(164,sConI.spec oConI)::L1
theorem okL2:OKL L2:=addK okL1 [] false (fn:=Tryz.f164) fun h=>O.vConI h
def L3:LS:=(253,sNum1.spec oNaN)::L2
theorem okL3:OKL L3:=addK okL2 [] false (fn:=Tryz.f253) fun h=>O.vNaN h
def L4:LS:=(209,sNum2.spec oCmpI)::L3
theorem okL4:OKL L4:=addK okL3 [] false (fn:=Tryz.f209) fun h=>O.vCmpI h
def L5:LS:=(208,sOrI.spec oOrI)::L4
theorem okL5:OKL L5:=addK okL4 [(3,lOrI)] false (fn:=Tryz.f208) fun h=>O.vOrI h
def L6:LS:=(270,sOrI.spec oLeastI)::L5
theorem okL6:OKL L6:=addK okL5 [(3,lLeastI)] false (fn:=Tryz.f270) fun h=>O.vLeastI h
def L7:LS:=(190,sSet1.spec oOnes)::L6
theorem okL7:OKL L7:=addK okL6 [] false (fn:=Tryz.f190) fun h=>O.vOnes h
theorem ok_f287:SP 287 (sSet1.spec oTZ):=by
 exact tz_spec Tryz.lays29 rfl (List.mem_singleton.2 rfl)
def L8:LS:=(287,sSet1.spec oTZ)::L7
theorem okL8:OKL L8:=Env.OK.cons okL7 (fn:=Tryz.f287) (by kernel_rfl) (by kernel_rfl) (by kernel_rfl) ok_f287
def L9:LS:=(147,sSet1.spec oOnes)::L8
theorem okL9:OKL L9:=addK okL8 [] false (fn:=Tryz.f147) fun h=>O.vLenS h
def L10:LS:=(279,sSet1.spec oLow)::L9
theorem okL10:OKL L10:=addK okL9 [] false (fn:=Tryz.f279) fun h=>O.vLowS h
def L11:LS:=(149,sHas.spec oHas)::L10
theorem okL11:OKL L11:=addK okL10 [] false (fn:=Tryz.f149) fun h=>O.vHas h
def L12:LS:=(267,sWith.spec oWith)::L11
theorem okL12:OKL L12:=addK okL11 [] false (fn:=Tryz.f267) fun h=>O.vWith h
def L13:LS:=(269,sWith.spec oWithout)::L12
theorem okL13:OKL L13:=addK okL12 [] false (fn:=Tryz.f269) fun h=>O.vWithout h
def L14:LS:=(143,sAllS.spec oAllS)::L13
theorem okL14:OKL L14:=addK okL13 [] false (fn:=Tryz.f143) fun h=>O.vAllS h
def L15:LS:=(264,sFirst.spec oFirst)::L14
theorem okL15:OKL L15:=addK okL14 [(5,lFirst)] false (fn:=Tryz.f264) fun h=>O.vFirst h
def L16:LS:=(89,sCloneT.spec oCloneT)::L15
theorem okL16:OKL L16:=addK okL15 [] false (fn:=Tryz.f89) fun h=>O.vCloneT h
theorem ok_f88:SP 88 (sNoneP.spec oNoneP):=by
 refine Sig.sound (E:=en L16 [] false) okL16 (fn:=Tryz.f88) (by kernel_rfl) (by rfl) ?_
 intro x k h
 obtain ⟨p,_⟩:=x
 cases p with
 |none=>exact Eq.mp (α:=V.vNonePN k) (by kernel_rfl) (O.vNonePN h)
 |some p=>exact Eq.mp (α:=V.vNoneP p k) (by kernel_rfl) (O.vNoneP h)
def L17:LS:=(88,sNoneP.spec oNoneP)::L16
theorem okL17:OKL L17:=Env.OK.cons okL16 (fn:=Tryz.f88) (by kernel_rfl) (by kernel_rfl) (by kernel_rfl) ok_f88
def L18:LS:=(40,sPInt.spec oNow)::L17
theorem okL18:OKL L18:=addK okL17 [] false (fn:=Tryz.f40) fun h=>O.vNow h
def L19:LS:=(24,sPSteps.spec oPSteps)::L18
theorem okL19:OKL L19:=addK okL18 [] false (fn:=Tryz.f24) fun h=>O.vPSteps h
def L20:LS:=(92,sPCopy.spec oPCopy)::L19
theorem okL20:OKL L20:=addK okL19 [] false (fn:=Tryz.f92) fun h=>O.vPCopy h
def L21:LS:=(229,sCmpS.spec oCmpS)::L20
theorem okL21:OKL L21:=addK okL20 [] false (fn:=Tryz.f229) fun h=>O.vCmpS h
def L22:LS:=(228,(sBin 229).spec (oBin 229))::L21
theorem okL22:OKL L22:=addK okL21 [(3,lBin 229)] false (fn:=Tryz.f228) fun h=>O.vBin h
def L23:LS:=(189,sIndex.spec oIndex)::L22
theorem okL23:OKL L23:=addK okL22 [] false (fn:=Tryz.f189) fun h=>O.vIndex h
def L24:LS:=(245,sIndex.spec oFree)::L23
theorem okL24:OKL L24:=addK okL23 [] false (fn:=Tryz.f245) fun h=>O.vFreeP h
def L25:LS:=(146,sLeast.spec oLeast)::L24
theorem okL25:OKL L25:=addK okL24 [(8,lLeast)] false (fn:=Tryz.f146) fun h=>O.vLeast h
def L26:LS:=(225,sLeast.spec oMost)::L25
theorem okL26:OKL L26:=addK okL25 [(3,lMost)] false (fn:=Tryz.f225) fun h=>O.vMost h
theorem ok_f277:ExtOK Tryz.prog 277 (ovSpec .step):=by
 exact ov_spec (fn:=Tryz.f277) (tS:=50) (tR:=4) (e:=158) (by kernel_rfl) (by kernel_rfl) (by kernel_rfl) (by kernel_rfl) (by kernel_rfl) (by kernel_rfl) (by kernel_rfl)
def L27:LS:=(277,ovSpec .step)::L26
theorem okL27:OKL L27:=Env.OK.ext okL26 ok_f277
def L28:LS:=(261,sInsT.spec oInsT)::L27
theorem okL28:OKL L28:=addK okL27 [] false (fn:=Tryz.f261) fun h=>O.vInsT h
def L29:LS:=(226,sSplit.spec oSplit)::L28
theorem okL29:OKL L29:=addK okL28 [] false (fn:=Tryz.f226) fun h=>O.vSplit h
def L30:LS:=(263,sSame.spec oSame)::L29
theorem okL30:OKL L30:=addK okL29 [] false (fn:=Tryz.f263) fun h=>O.vSame h
def L31:LS:=(262,(sCompact 263).spec (oCompact 263))::L30
theorem okL31:OKL L31:=addK okL30 [(4,lCp1 263),(9,lCp2 263)] false (fn:=Tryz.f262) fun h=>O.vCompact h
def L32:LS:=(227,sJoin1.spec oJoin1)::L31
theorem okL32:OKL L32:=addK okL31 [] false (fn:=Tryz.f227) fun h=>O.vJoin1 h
def L33:LS:=(188,sAdd.spec oAdd)::L32
theorem okL33:OKL L33:=addK okL32 [(14,lAdd)] false (fn:=Tryz.f188) fun h=>O.vAdd h
def L34:LS:=(145,sRes.spec oRel)::L33
theorem okL34:OKL L34:=addK okL33 [] false (fn:=Tryz.f145) fun h=>O.vRel h
def L35:LS:=(195,sRes.spec oRes)::L34
theorem okL35:OKL L35:=addK okL34 [] false (fn:=Tryz.f195) fun h=>O.vRes h
def L36:LS:=(244,sAdv.spec oAdv)::L35
theorem okL36:OKL L36:=addK okL35 [] false (fn:=Tryz.f244) fun h=>O.vAdv h
def L37:LS:=(75,sNewP.spec oNewP)::L36
theorem okL37:OKL L37:=addK okL36 [] false (fn:=Tryz.f75) fun h=>O.vNewP h
def L38:LS:=(87,sCloneB.spec oCloneB)::L37
theorem okL38:OKL L38:=addK okL37 [] false (fn:=Tryz.f87) fun h=>O.vCloneB h
theorem ok_f86:SP 86 (sNoneJ.spec oNoneJ):=by
 refine Sig.sound (E:=en L38 [] false) okL38 (fn:=Tryz.f86) (by kernel_rfl) (by rfl) ?_
 intro x k h
 obtain ⟨t,_⟩:=x
 cases t with
 |none=>exact Eq.mp (α:=V.vNoneJN k) (by kernel_rfl) (O.vNoneJN h)
 |some t=>exact Eq.mp (α:=V.vNoneJ t k) (by kernel_rfl) (O.vNoneJ h)
def L39:LS:=(86,sNoneJ.spec oNoneJ)::L38
theorem okL39:OKL L39:=Env.OK.cons okL38 (fn:=Tryz.f86) (by kernel_rfl) (by kernel_rfl) (by kernel_rfl) ok_f86
def L40:LS:=(76,sNewJ.spec oNewJ)::L39
theorem okL40:OKL L40:=addK okL39 [] false (fn:=Tryz.f76) fun h=>O.vNewJ h
def L41:LS:=(23,sAllJ.spec oAllJ)::L40
theorem okL41:OKL L41:=addK okL40 [] false (fn:=Tryz.f23) fun h=>O.vAllJ h
def L42:LS:=(113,sInJ.spec oInJ)::L41
theorem okL42:OKL L42:=addK okL41 [(3,lInJ)] false (fn:=Tryz.f113) fun h=>O.vInJ h
def L43:LS:=(163,sCmpB.spec oCmpB)::L42
theorem okL43:OKL L43:=addK okL42 [] false (fn:=Tryz.f163) fun h=>O.vCmpB h
def L44:LS:=(265,sLessB.spec oLessB)::L43
theorem okL44:OKL L44:=addK okL43 [] false (fn:=Tryz.f265) fun h=>O.vLessB h
def L45:LS:=(251,(sInsB 163).spec (oInsB 163))::L44
theorem okL45:OKL L45:=addK okL44 [(1,lIns1B 163),(4,lIns2B 163)] false (fn:=Tryz.f251) fun h=>O.vInsB h
def L46:LS:=(280,(sSwapRB 163).spec (oSwapRB 163))::L45
theorem okL46:OKL L46:=addK okL45 [(1,lSwapRB)] false (fn:=Tryz.f280) fun h=>O.vSwapRB h
def L47:LS:=(272,(sSwapRB 163).spec (oRotB 163))::L46
theorem okL47:OKL L47:=addK okL46 [(2,lRotB 163)] false (fn:=Tryz.f272) fun h=>O.vRotB h
theorem ok_f252r (n:Nat):SP 252 ((sSwapRB 163).spec (oSymB 163 n)):=by
 induction n with
 |zero=>
  refine Sig.sound (E:=en L47 [(3,lSy1B 163),(9,lSy2B),(15,lSy3B 163),(21,lSy4B),(33,lSy5B 163)] false) okL47 (fn:=Tryz.f252) (by kernel_rfl) (by rfl) ?_
  intro x k h
  exact absurd h.1.2.2.1 (Nat.not_lt_zero _)
 |succ n ih=>
  refine Sig.sound (E:=(en ((252,(sSwapRB 163).spec (oSymB 163 n))::L47) [(3,lSy1B 163),(9,lSy2B),(15,lSy3B 163),(21,lSy4B),(33,lSy5B 163)] false)) (Env.OK.cons okL47 (fn:=Tryz.f252) (by kernel_rfl) (by kernel_rfl) (by kernel_rfl) ih) (fn:=Tryz.f252) (by kernel_rfl) (by rfl) ?_
  intro x k h
  obtain ⟨l,a,b,m,_,_⟩:=x
  refine Eq.mp (α:=V.vSymB n l a b m k) ?_ (O.vSymB h)
  kernel_rfl
theorem ok_f252:SP 252 ((sSwapRB 163).spec (oSymB 163 1099511627777)):=by
 exact ok_f252r 1099511627777
def L48:LS:=(252,(sSwapRB 163).spec (oSymB 163 1099511627777))::L47
theorem okL48:OKL L48:=Env.OK.cons okL47 (fn:=Tryz.f252) (by kernel_rfl) (by kernel_rfl) (by kernel_rfl) ok_f252
def L49:LS:=(207,(sStabB 163).spec (oStabB 163))::L48
theorem okL49:OKL L49:=addK okL48 [(2,lSt1B 163),(7,lSt2B 163),(9,lSt1B 163)] false (fn:=Tryz.f207) fun h=>O.vStabB h
def L50:LS:=(162,(sSortB 163).spec (oSortB 163))::L49
theorem okL50:OKL L50:=addK okL49 [] false (fn:=Tryz.f162) fun h=>O.vSortB h
def L51:LS:=(112,sOrdS.spec oOrdS)::L50
theorem okL51:OKL L51:=addK okL50 [] false (fn:=Tryz.f112) fun h=>O.vOrdS h
def L52:LS:=(45,sAllJ.spec oWaiting)::L51
theorem okL52:OKL L52:=addK okL51 [] false (fn:=Tryz.f45) fun h=>O.vWaiting h
def L53:LS:=(250,sCountsJ.spec oCountsJ)::L52
theorem okL53:OKL L53:=addK okL52 [] false (fn:=Tryz.f250) fun h=>O.vCountsJ h
def L54:LS:=(95,sGetJ.spec oGetJ)::L53
theorem okL54:OKL L54:=addK okL53 [] false (fn:=Tryz.f95) fun h=>O.vGetJ h
theorem ok_f232:SP 232 (inlSpec (en L54 [] false) Tryz.f232):=by
 exact inl_sound (E:=en L54 [] false) okL54 (fn:=Tryz.f232) (by kernel_rfl)
def L55:LS:=(232,inlSpec (en L54 [] false) Tryz.f232)::L54
theorem okL55:OKL L55:=Env.OK.cons okL54 (fn:=Tryz.f232) (by kernel_rfl) (by kernel_rfl) (by kernel_rfl) ok_f232
def L56:LS:=(237,sHoldJ.spec oHoldJ)::L55
theorem okL56:OKL L56:=addK okL55 [] false (fn:=Tryz.f237) fun h=>O.vHoldJ h
def L57:LS:=(238,sHoldJ.spec oFreeJ)::L56
theorem okL57:OKL L57:=addK okL56 [] false (fn:=Tryz.f238) fun h=>O.vFreeJ h
def L58:LS:=(197,sPlanJ.spec oPlanJ)::L57
theorem okL58:OKL L58:=addK okL57 [] false (fn:=Tryz.f197) fun h=>O.vPlanJ h
def L59:LS:=(231,sBeginJ.spec oBeginJ)::L58
theorem okL59:OKL L59:=addK okL58 [] false (fn:=Tryz.f231) fun h=>O.vBeginJ h
def L60:LS:=(235,sFinJ.spec oFinJ)::L59
theorem okL60:OKL L60:=addK okL59 [] false (fn:=Tryz.f235) fun h=>O.vFinJ h
def L61:LS:=(266,sRightR.spec oRightR)::L60
theorem okL61:OKL L61:=addK okL60 [] false (fn:=Tryz.f266) fun h=>O.vRightR h
def L62:LS:=(234,sSubJ.spec oSubJ)::L61
theorem okL62:OKL L62:=addK okL61 [] false (fn:=Tryz.f234) fun h=>O.vSubJ h
def L63:LS:=(90,sCopyJ.spec oCopyJ)::L62
theorem okL63:OKL L63:=addK okL62 [] false (fn:=Tryz.f90) fun h=>O.vCopyJ h
theorem ok_f110:SP 110 (sNoneN.spec oNoneN):=by
 refine Sig.sound (E:=en L63 [] false) okL63 (fn:=Tryz.f110) (by kernel_rfl) (by rfl) ?_
 intro x k h
 obtain ⟨t,_⟩:=x
 cases t with
 |none=>exact Eq.mp (α:=V.vNoneNN k) (by kernel_rfl) (O.vNoneNN h)
 |some t=>exact Eq.mp (α:=V.vNoneN t k) (by kernel_rfl) (O.vNoneN h)
def L64:LS:=(110,sNoneN.spec oNoneN)::L63
theorem okL64:OKL L64:=Env.OK.cons okL63 (fn:=Tryz.f110) (by kernel_rfl) (by kernel_rfl) (by kernel_rfl) ok_f110
def L65:LS:=(111,sNSet.spec oIdleN)::L64
theorem okL65:OKL L65:=addK okL64 [] false (fn:=Tryz.f111) fun h=>O.vIdleI h
def L66:LS:=(82,sNInt.spec oSizeN)::L65
theorem okL66:OKL L66:=addK okL65 [] false (fn:=Tryz.f82) fun h=>O.vSizeN h
def L67:LS:=(84,sStateN.spec oStateN)::L66
theorem okL67:OKL L67:=addK okL66 [] false (fn:=Tryz.f84) fun h=>O.vStateN h
def L68:LS:=(42,sNSet.spec oUsedN)::L67
theorem okL68:OKL L68:=addK okL67 [] false (fn:=Tryz.f42) fun h=>O.vUsedN h
def L69:LS:=(41,sNSet.spec oIdleN)::L68
theorem okL69:OKL L69:=addK okL68 [] false (fn:=Tryz.f41) fun h=>O.vIdleN h
def L70:LS:=(249,sCountsN.spec oCountsN)::L69
theorem okL70:OKL L70:=addK okL69 [] false (fn:=Tryz.f249) fun h=>O.vCountsN h
def L71:LS:=(230,sTakeN.spec oTakeN)::L70
theorem okL71:OKL L71:=addK okL70 [] false (fn:=Tryz.f230) fun h=>O.vTakeN h
def L72:LS:=(236,sGiveN.spec oGiveN)::L71
theorem okL72:OKL L72:=addK okL71 [] false (fn:=Tryz.f236) fun h=>O.vGiveN h
def L73:LS:=(240,sDrainN.spec oDrainN)::L72
theorem okL73:OKL L73:=addK okL72 [] false (fn:=Tryz.f240) fun h=>O.vDrainN h
def L74:LS:=(242,sDrainN.spec oResumeN)::L73
theorem okL74:OKL L74:=addK okL73 [] false (fn:=Tryz.f242) fun h=>O.vResumeN h
def L75:LS:=(91,sCopyN.spec oCopyN)::L74
theorem okL75:OKL L75:=addK okL74 [] false (fn:=Tryz.f91) fun h=>O.vCopyN h
def L76:LS:=(74,sNewN.spec oNewN)::L75
theorem okL76:OKL L76:=addK okL75 [] false (fn:=Tryz.f74) fun h=>O.vNewN h
def L77:LS:=(107,sFailR.spec oFailR)::L76
theorem okL77:OKL L77:=addK okL76 [] false (fn:=Tryz.f107) fun h=>O.vFailR h
def L78:LS:=(239,sTellR.spec oTellR)::L77
theorem okL78:OKL L78:=addK okL77 [] false (fn:=Tryz.f239) fun h=>O.vTellR h
def L79:LS:=(248,sThreeR.spec oThreeR)::L78
theorem okL79:OKL L79:=addK okL78 [] false (fn:=Tryz.f248) fun h=>O.vThreeR h
def L80:LS:=(93,sCleanR.spec oCleanR)::L79
theorem okL80:OKL L80:=addK okL79 [] false (fn:=Tryz.f93) fun h=>O.vCleanR h
theorem ok_f81:SP 81 (sNoneC.spec oNoneC):=by
 refine Sig.sound (E:=en L80 [] false) okL80 (fn:=Tryz.f81) (by kernel_rfl) (by rfl) ?_
 intro x k h
 obtain ⟨c,_⟩:=x
 cases c with
 |none=>exact Eq.mp (α:=V.vNoneCN k) (by kernel_rfl) (O.vNoneCN h)
 |some c=>exact Eq.mp (α:=V.vNoneC c k) (by kernel_rfl) (O.vNoneC h)
def L81:LS:=(81,sNoneC.spec oNoneC)::L80
theorem okL81:OKL L81:=Env.OK.cons okL80 (fn:=Tryz.f81) (by kernel_rfl) (by kernel_rfl) (by kernel_rfl) ok_f81
theorem ok_f28:SP 28 (sNoneC.spec oClosedC):=by
 refine Sig.sound (E:=en L81 [] false) okL81 (fn:=Tryz.f28) (by kernel_rfl) (by rfl) ?_
 intro x k h
 obtain ⟨c,_⟩:=x
 cases c with
 |none=>exact Eq.mp (α:=V.vClosedCN k) (by kernel_rfl) (O.vClosedCN h)
 |some c=>exact Eq.mp (α:=V.vClosedC c k) (by kernel_rfl) (O.vClosedC h)
def L82:LS:=(28,sNoneC.spec oClosedC)::L81
theorem okL82:OKL L82:=Env.OK.cons okL81 (fn:=Tryz.f28) (by kernel_rfl) (by kernel_rfl) (by kernel_rfl) ok_f28
def L83:LS:=(16,sNewC.spec oNewC)::L82
theorem okL83:OKL L83:=addK okL82 [] false (fn:=Tryz.f16) fun h=>O.vNewC h
def L84:LS:=(25,sTwinC.spec oTwinC)::L83
theorem okL84:OKL L84:=addK okL83 [] false (fn:=Tryz.f25) fun h=>O.vTwinC h
def L85:LS:=(144,sPlanS.spec oPlanS)::L84
theorem okL85:OKL L85:=addK okL84 [] false (fn:=Tryz.f144) fun h=>O.vPlanS h
def L86:LS:=(271,sSpansC.spec oSpansC)::L85
theorem okL86:OKL L86:=addK okL85 [(5,lSpansC)] false (fn:=Tryz.f271) fun h=>O.vSpansC h
def L87:LS:=(268,sHolderC.spec oHolderC)::L86
theorem okL87:OKL L87:=addK okL86 [(4,lHolderC)] false (fn:=Tryz.f268) fun h=>O.vHolderC h
def L88:LS:=(202,sToldC.spec oToldC)::L87
theorem okL88:OKL L88:=addK okL87 [] false (fn:=Tryz.f202) fun h=>O.vToldC h
def L89:LS:=(22,sWantsC.spec oWantsC)::L88
theorem okL89:OKL L89:=addK okL88 [] false (fn:=Tryz.f22) fun h=>O.vWantsC h
def L90:LS:=(241,sUntilC.spec oUntilC)::L89
theorem okL90:OKL L90:=addK okL89 [] false (fn:=Tryz.f241) fun h=>O.vUntilC h
def L91:LS:=(243,sNextC.spec oNextC)::L90
theorem okL91:OKL L91:=addK okL90 [(3,lNx1),(8,lNx2)] false (fn:=Tryz.f243) fun h=>O.vNextC h
def L92:LS:=(246,sTimeC.spec oTimeC)::L91
theorem okL92:OKL L92:=addK okL91 [(1,lTimeC)] false (fn:=Tryz.f246) fun h=>O.vTimeC h
def L93:LS:=(196,sBeginC.spec oBeginC)::L92
theorem okL93:OKL L93:=addK okL92 [] false (fn:=Tryz.f196) fun h=>O.vBeginC h
def L94:LS:=(247,sTimeC.spec oBeginsC)::L93
theorem okL94:OKL L94:=addK okL93 [(1,lBeginsC)] false (fn:=Tryz.f247) fun h=>O.vBeginsC h
def L95:LS:=(79,sFitsC.spec oFitsC)::L94
theorem okL95:OKL L95:=addK okL94 [] false (fn:=Tryz.f79) fun h=>O.vFitsC h
def L96:LS:=(29,sNewW.spec oNewW)::L95
theorem okL96:OKL L96:=addK okL95 [] false (fn:=Tryz.f29) fun h=>O.vNewW h
def L97:LS:=(30,sNewX.spec oNewX)::L96
theorem okL97:OKL L97:=addK okL96 [] false (fn:=Tryz.f30) fun h=>O.vNewX h
theorem ok_f80:SP 80 (sDoneW.spec oDoneW):=by
 refine Sig.sound (E:=en L97 [] false) okL97 (fn:=Tryz.f80) (by kernel_rfl) (by rfl) ?_
 intro x k h
 obtain ⟨w,_⟩:=x
 cases w with
 |none=>exact Eq.mp (α:=V.vDoneWN k) (by kernel_rfl) (O.vDoneWN h)
 |some w=>exact Eq.mp (α:=V.vDoneW w k) (by kernel_rfl) (O.vDoneW h)
def L98:LS:=(80,sDoneW.spec oDoneW)::L97
theorem okL98:OKL L98:=Env.OK.cons okL97 (fn:=Tryz.f80) (by kernel_rfl) (by kernel_rfl) (by kernel_rfl) ok_f80
def L99:LS:=(77,sRepW.spec oRepW)::L98
theorem okL99:OKL L99:=addK okL98 [] false (fn:=Tryz.f77) fun h=>O.vRepW h
def L100:LS:=(78,sOkW.spec oOkW)::L99
theorem okL100:OKL L100:=addK okL99 [] false (fn:=Tryz.f78) fun h=>O.vOkW h
def L101:LS:=(193,sEndW.spec oEndW)::L100
theorem okL101:OKL L101:=addK okL100 [] false (fn:=Tryz.f193) fun h=>O.vEndW h
def L102:LS:=(151,sFailW.spec oFailW)::L101
theorem okL102:OKL L102:=addK okL101 [] false (fn:=Tryz.f151) fun h=>O.vFailW h
def L103:LS:=(233,sWCb.spec oDropW)::L102
theorem okL103:OKL L103:=addK okL102 [(2,lDropW)] false (fn:=Tryz.f233) fun h=>O.vDropW h
def L104:LS:=(194,sWC.spec oUnplan)::L103
theorem okL104:OKL L104:=addK okL103 [] false (fn:=Tryz.f194) fun h=>O.vUnplan h
def L105:LS:=(198,(sWC).spec (oW2 Law.submitW))::L104
theorem okL105:OKL L105:=addK okL104 [] false (fn:=Tryz.f198) fun h=>O.vSubW h
def L106:LS:=(199,(sWC).spec (oW2 Law.finishW))::L105
theorem okL106:OKL L106:=addK okL105 [] false (fn:=Tryz.f199) fun h=>O.vFinW h
def L107:LS:=(200,(sWC).spec (oW2 Law.holdW))::L106
theorem okL107:OKL L107:=addK okL106 [] false (fn:=Tryz.f200) fun h=>O.vHoldW h
def L108:LS:=(201,(sWC).spec (oW2 Law.freeW))::L107
theorem okL108:OKL L108:=addK okL107 [] false (fn:=Tryz.f201) fun h=>O.vFreeW h
def L109:LS:=(203,(sWC).spec (oW2 Law.drainW))::L108
theorem okL109:OKL L109:=addK okL108 [] false (fn:=Tryz.f203) fun h=>O.vDrainW h
def L110:LS:=(204,(sWC).spec (oW2 Law.resumeW))::L109
theorem okL110:OKL L110:=addK okL109 [] false (fn:=Tryz.f204) fun h=>O.vResumeW h
def L111:LS:=(205,(sWC).spec (oW2 Law.tickW))::L110
theorem okL111:OKL L111:=addK okL110 [] false (fn:=Tryz.f205) fun h=>O.vTickW h
def L112:LS:=(206,(sWC).spec (oW2 Law.countW))::L111
theorem okL112:OKL L112:=addK okL111 [] false (fn:=Tryz.f206) fun h=>O.vCountW h
def L113:LS:=(153,(sWC).spec (oW2 Law.serveW))::L112
theorem okL113:OKL L113:=addK okL112 [] false (fn:=Tryz.f153) fun h=>O.vServeW h
def L114:LS:=(152,(sWC).spec (oW2 Law.settleW))::L113
theorem okL114:OKL L114:=addK okL113 [] false (fn:=Tryz.f152) fun h=>O.vSettleW h
def L115:LS:=(94,sWCb.spec oStepW)::L114
theorem okL115:OKL L115:=addK okL114 [] false (fn:=Tryz.f94) fun h=>O.vStepW h
theorem ok_f15:SP 15 (cutSpec .deed 60):=by
 exact cut_sound (E:=en L115 [] false) okL115 (fn:=Tryz.f15) (by kernel_rfl) (fun xs H K=>by kernel_rfl)
def L116:LS:=(15,cutSpec .deed 60)::L115
theorem okL116:OKL L116:=Env.OK.cons okL115 (fn:=Tryz.f15) (by kernel_rfl) (by kernel_rfl) (by kernel_rfl) ok_f15
def L117:LS:=(26,sSameJ.spec oSameJ)::L116
theorem okL117:OKL L117:=addK okL116 [(4,lSameJ)] false (fn:=Tryz.f26) fun h=>O.vSameJ h
def L118:LS:=(27,sSameS.spec oSameS)::L117
theorem okL118:OKL L118:=addK okL117 [(4,lSameS)] false (fn:=Tryz.f27) fun h=>O.vSameS h
def L119:LS:=(192,sHasM.spec oHasM)::L118
theorem okL119:OKL L119:=addK okL118 [(2,lHasM)] true (fn:=Tryz.f192) fun h=>O.vHasM h
def L120:LS:=(150,sHoldM.spec oHoldM)::L119
theorem okL120:OKL L120:=addK okL119 [(2,lHoldM)] true (fn:=Tryz.f150) fun h=>O.vHoldM h
def L121:LS:=(85,sHoldM.spec oStateM)::L120
theorem okL121:OKL L121:=addK okL120 [] true (fn:=Tryz.f85) fun h=>O.vStateM h
def L122:LS:=(161,sPlanned.spec oPlanned)::L121
theorem okL122:OKL L122:=addK okL121 [] true (fn:=Tryz.f161) fun h=>O.vPlanned h
def L123:LS:=(106,sFreeM.spec oFreeM)::L122
theorem okL123:OKL L123:=addK okL122 [(3,lFree1),(10,lFree2)] true (fn:=Tryz.f106) fun h=>O.vFreeM h
def L124:LS:=(191,sSooner.spec oSooner)::L123
theorem okL124:OKL L124:=addK okL123 [] true (fn:=Tryz.f191) fun h=>O.vSooner h
def L125:LS:=(148,sTimesM.spec oTimesM)::L124
theorem okL125:OKL L125:=addK okL124 [(3,lTimes1),(8,lTimes2)] true (fn:=Tryz.f148) fun h=>O.vTimesM h
def L126:LS:=(83,sStepsM.spec oStepsM)::L125
theorem okL126:OKL L126:=addK okL125 [(4,lStepsM)] true (fn:=Tryz.f83) fun h=>O.vStepsM h
def L127:LS:=(155,sRoomM.spec oRoomM)::L126
theorem okL127:OKL L127:=addK okL126 [(5,lRoomM)] true (fn:=Tryz.f155) fun h=>O.vRoomM h
def L128:LS:=(154,sGetM.spec oGetM)::L127
theorem okL128:OKL L128:=addK okL127 [] true (fn:=Tryz.f154) fun h=>O.vGetM h
def L129:LS:=(98,sFitsM.spec oFitsM)::L128
theorem okL129:OKL L129:=addK okL128 [] true (fn:=Tryz.f98) fun h=>O.vFitsM h
def L130:LS:=(109,sAhead.spec oAhead)::L129
theorem okL130:OKL L130:=addK okL129 [] true (fn:=Tryz.f109) fun h=>O.vAhead h
def L131:LS:=(157,sDropM.spec oDropM)::L130
theorem okL131:OKL L131:=addK okL130 [(2,lDropM)] true (fn:=Tryz.f157) fun h=>O.vDropM h
def L132:LS:=(99,sBeginM.spec oBeginM)::L131
theorem okL132:OKL L132:=addK okL131 [(5,lBeginM)] true (fn:=Tryz.f99) fun h=>O.vBeginM h
def L133:LS:=(35,sCommitM.spec oCommitM)::L132
theorem okL133:OKL L133:=addK okL132 [] true (fn:=Tryz.f35) fun h=>O.vCommitM h
def L134:LS:=(158,sTell.spec oTell)::L133
theorem okL134:OKL L134:=addK okL133 [] true (fn:=Tryz.f158) fun h=>O.vTell h
def L135:LS:=(156,sLiveM.spec oLiveM)::L134
theorem okL135:OKL L135:=addK okL134 [(3,lLiveM)] true (fn:=Tryz.f156) fun h=>O.vLiveM h
def L136:LS:=(100,(sReqM).spec (oReqM Law.submitM))::L135
theorem okL136:OKL L136:=addK okL135 [] true (fn:=Tryz.f100) fun h=>O.vSubM h
def L137:LS:=(101,(sReqM).spec (oReqM Law.endM))::L136
theorem okL137:OKL L137:=addK okL136 [] true (fn:=Tryz.f101) fun h=>O.vEndM h
def L138:LS:=(102,(sReqM).spec (oReqM Law.turnM))::L137
theorem okL138:OKL L138:=addK okL137 [] true (fn:=Tryz.f102) fun h=>O.vTurnM h
def L139:LS:=(103,(sReqM).spec (oReqM Law.nodeM))::L138
theorem okL139:OKL L139:=addK okL138 [] true (fn:=Tryz.f103) fun h=>O.vNodeM h
def L140:LS:=(159,sLiveM.spec oNextM)::L139
theorem okL140:OKL L140:=addK okL139 [(3,lNextM)] true (fn:=Tryz.f159) fun h=>O.vNextM h
def L141:LS:=(160,sHapM.spec oHapM)::L140
theorem okL141:OKL L141:=addK okL140 [(1,lHap1),(8,lHap2),(12,lHap3)] true (fn:=Tryz.f160) fun h=>O.vHapM h
def L142:LS:=(104,sTickM.spec oTickM)::L141
theorem okL142:OKL L142:=addK okL141 [(5,lTickM)] true (fn:=Tryz.f104) fun h=>O.vTickM h
def L143:LS:=(105,sCountM.spec oCountM)::L142
theorem okL143:OKL L143:=addK okL142 [(3,lCount1),(8,lCount2)] true (fn:=Tryz.f105) fun h=>O.vCountM h
def L144:LS:=(36,(sReqM).spec (oReqM Law.doM))::L143
theorem okL144:OKL L144:=addK okL143 [] true (fn:=Tryz.f36) fun h=>O.vDoM h
def L145:LS:=(18,sNewM.spec oNewM)::L144
theorem okL145:OKL L145:=addK okL144 [] true (fn:=Tryz.f18) fun h=>O.vNewM h
def L146:LS:=(20,sUnlike.spec oUnlike)::L145
theorem okL146:OKL L146:=addK okL145 [(5,lUnlike)] true (fn:=Tryz.f20) fun h=>O.vUnlike h
def L147:LS:=(108,sIsR.spec oIsR)::L146
theorem okL147:OKL L147:=addK okL146 [] true (fn:=Tryz.f108) fun h=>O.vIsR h
def L148:LS:=(32,sNewS.spec oNewS)::L147
theorem okL148:OKL L148:=addK okL147 [] true (fn:=Tryz.f32) fun h=>O.vNewS h
theorem ok_f96:SP 96 (sNoneS.spec oNoneS):=by
 refine Sig.sound (E:=en L148 [] true) okL148 (fn:=Tryz.f96) (by kernel_rfl) (by rfl) ?_
 intro x k h
 obtain ⟨s,_⟩:=x
 cases s with
 |none=>exact Eq.mp (α:=V.vNoneSN k) (by kernel_rfl) (O.vNoneSN h)
 |some s=>exact Eq.mp (α:=V.vNoneS s k) (by kernel_rfl) (O.vNoneS h)
def L149:LS:=(96,sNoneS.spec oNoneS)::L148
theorem okL149:OKL L149:=Env.OK.cons okL148 (fn:=Tryz.f96) (by kernel_rfl) (by kernel_rfl) (by kernel_rfl) ok_f96
def L150:LS:=(97,sRunS.spec oRunS)::L149
theorem okL150:OKL L150:=addK okL149 [(0,lRunS)] true (fn:=Tryz.f97) fun h=>O.vRunS h
theorem ok_f37a:SP 37 (sDoS.spec oDoS):=Sig.sound (E:=en L150 [] true) okL150 (fn:=Tryz.f37) (by kernel_rfl) (by rfl) fun ⟨s,r,_⟩ k h=>Eq.mp (α:=V.vDoS s r k) (by kernel_rfl) (O.vDoS h)
theorem ok_f37:SP 37 (nilSpec (sDoS.spec oDoS) (inlSpec (en L150 [] false) Tryz.f37)):=by
 exact nil_ok ok_f37a (inl_sound (E:=en L150 [] false) okL150 (fn:=Tryz.f37) (by kernel_rfl))
def L151:LS:=(37,nilSpec (sDoS.spec oDoS) (inlSpec (en L150 [] false) Tryz.f37))::L150
theorem okL151:OKL L151:=Env.OK.cons okL150 (fn:=Tryz.f37) (by kernel_rfl) (by kernel_rfl) (by kernel_rfl) ok_f37
theorem ok_f34a:SP 34 (sComS.spec oComS):=Sig.sound (E:=en L151 [] true) okL151 (fn:=Tryz.f34) (by kernel_rfl) (by rfl) fun ⟨s,x,_⟩ k h=>Eq.mp (α:=V.vComS s x k) (by kernel_rfl) (O.vComS h)
theorem ok_f34:SP 34 (nilSpec (sComS.spec oComS) (inlSpec (en L151 [] false) Tryz.f34)):=by
 exact nil_ok ok_f34a (inl_sound (E:=en L151 [] false) okL151 (fn:=Tryz.f34) (by kernel_rfl))
def L152:LS:=(34,nilSpec (sComS.spec oComS) (inlSpec (en L151 [] false) Tryz.f34))::L151
theorem okL152:OKL L152:=Env.OK.cons okL151 (fn:=Tryz.f34) (by kernel_rfl) (by kernel_rfl) (by kernel_rfl) ok_f34
theorem ok_f43a:SP 43 (sTwinS.spec oTwinS):=Sig.sound (E:=en L152 [] true) okL152 (fn:=Tryz.f43) (by kernel_rfl) (by rfl) fun ⟨s,_⟩ k h=>Eq.mp (α:=V.vTwinS s k) (by kernel_rfl) (O.vTwinS h)
theorem ok_f43:SP 43 (nilSpec (sTwinS.spec oTwinS) (inlSpec (en L152 [] false) Tryz.f43)):=by
 exact nil_ok ok_f43a (inl_sound (E:=en L152 [] false) okL152 (fn:=Tryz.f43) (by kernel_rfl))
def L153:LS:=(43,nilSpec (sTwinS.spec oTwinS) (inlSpec (en L152 [] false) Tryz.f43))::L152
theorem okL153:OKL L153:=Env.OK.cons okL152 (fn:=Tryz.f43) (by kernel_rfl) (by kernel_rfl) (by kernel_rfl) ok_f43
def L154:LS:=(46,sItems.spec oItems)::L153
theorem okL154:OKL L154:=addK okL153 [(3,lItems)] true (fn:=Tryz.f46) fun h=>O.vItems h
theorem ok_f44a:SP 44 (sItemsS.spec oItemsS):=Sig.sound (E:=en L154 [] true) okL154 (fn:=Tryz.f44) (by kernel_rfl) (by rfl) fun ⟨s,_⟩ k h=>Eq.mp (α:=V.vItemsS s k) (by kernel_rfl) (O.vItemsS h)
theorem ok_f44:SP 44 (nilSpec (sItemsS.spec oItemsS) (inlSpec (en L154 [] false) Tryz.f44)):=by
 exact nil_ok ok_f44a (inl_sound (E:=en L154 [] false) okL154 (fn:=Tryz.f44) (by kernel_rfl))
def L155:LS:=(44,nilSpec (sItemsS.spec oItemsS) (inlSpec (en L154 [] false) Tryz.f44))::L154
theorem okL155:OKL L155:=Env.OK.cons okL154 (fn:=Tryz.f44) (by kernel_rfl) (by kernel_rfl) (by kernel_rfl) ok_f44
def L156:LS:=(33,sYes.spec oYes)::L155
theorem okL156:OKL L156:=addK okL155 [] true (fn:=Tryz.f33) fun h=>O.vAwakeS h
theorem ok_f38:SP 38 (sMadeS.spec oMadeS):=Sig.sound (E:=en L156 [(6,lMadeS)] true) okL156 (fn:=Tryz.f38) (by kernel_rfl) (by rfl) fun ⟨n,l,_⟩ k h=>Eq.mp (α:=V.vMadeS n l k) (by kernel_rfl) (O.vMadeS h)
def L157:LS:=(38,sMadeS.spec oMadeS)::L156
theorem okL157:OKL L157:=Env.OK.cons okL156 (fn:=Tryz.f38) (by kernel_rfl) (by kernel_rfl) (by kernel_rfl) ok_f38
end
end Go.Proofs.YtnoinchifbckcaaGreatDoor.core
