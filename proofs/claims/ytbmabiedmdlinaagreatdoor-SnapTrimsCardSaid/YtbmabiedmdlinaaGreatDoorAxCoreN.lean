import Derived.Test.YtbmabiedmdlinaaGreatDoorAxTZ
import Derived.Test.YtbmabiedmdlinaaGreatDoorAxV9
import Derived.Test.YtbmabiedmdlinaaGreatDoorAxO28
import Derived.Test.YtbmabiedmdlinaaGreatDoorAxO23
import Derived.Test.YtbmabiedmdlinaaGreatDoorAxO21
import Derived.Test.YtbmabiedmdlinaaGreatDoorAxOV
import Derived.Test.YtbmabiedmdlinaaGreatDoorAxP6
import Derived.Test.YtbmabiedmdlinaaGreatDoorProg
import Derived.Shelf.Lays7
import Derived.KernelRfl
set_option linter.all false
namespace Go.Proofs
open Go.Shelf
def Tryz.lays29_ren:Go.Shelf.Ren:=⟨fun |29=>259 |n=>n,fun |22=>121 |3=>3 |4=>4 |25=>227 |54=>296 |0=>0 |5=>5 |n=>n,fun |1=>0 |n=>n⟩
theorem Tryz.lays29:Go.Proofs.Lays7.n29 Tryz.prog Tryz.lays29_ren:={
 mixed:=by kernel_rfl
 f29:=Tryz.func259.trans (congrArg some (by kernel_rfl))
 t0:=Tryz.underlying0
 a0:=Tryz.isAgg0
 z0:=Tryz.sizeOf0
 v0:=Tryz.zeroValue0
 i0:=by kernel_rfl
 t3:=Tryz.underlying3
 a3:=Tryz.isAgg3
 z3:=Tryz.sizeOf3
 v3:=Tryz.zeroValue3
 i3:=by kernel_rfl
 t4:=Tryz.underlying4
 a4:=Tryz.isAgg4
 z4:=Tryz.sizeOf4
 v4:=Tryz.zeroValue4
 i4:=by kernel_rfl
 t5:=Tryz.underlying5
 a5:=Tryz.isAgg5
 z5:=Tryz.sizeOf5
 v5:=Tryz.zeroValue5
 i5:=by kernel_rfl
 t22:=Tryz.underlying121
 a22:=Tryz.isAgg121
 z22:=Tryz.sizeOf121
 v22:=Tryz.zeroValue121
 i22:=by kernel_rfl
 t25:=Tryz.underlying227
 a25:=Tryz.isAgg227
 z25:=Tryz.sizeOf227
 v25:=Tryz.zeroValue227
 i25:=by kernel_rfl
 t54:=Tryz.underlying296
 a54:=Tryz.isAgg296
 z54:=Tryz.sizeOf296
 g1:=by kernel_rfl}
end Go.Proofs
namespace Go.Proofs.YtbmabiedmdlinaaGreatDoor.core
open Go.Ax Go.Ax.Sp
set_option linter.unusedVariables false
set_option maxRecDepth 1000000
noncomputable section
noncomputable instance surr:Surr:=⟨True,[(0,tzTab)]⟩
def ek0:List (TypeId × EK):=[(2,.i64),(3,.i64),(4,.bool),(5,.u8),(9,.str),(24,.req),(42,.lane),(53,.reply),(73,.choice),(97,.sdeed),(106,.deed),(121,.u64),(123,.job),(127,.told37),(153,.entry),(171,.step),(217,.span),(225,.item)]
abbrev LS:=List (FuncId × SpecT)
@[reducible] def en (L:LS) (l:List (Nat × LoopAnn)) (b:Bool):LEnv:={P:=Tryz.prog,spec:=L,ek:=ek0,loops:=l,n0:=0,sharp:=b}
abbrev OKL (L:LS):Prop:=Env.OK {P:=Tryz.prog,spec:=L,ek:=ek0}
abbrev SP (f:FuncId) (S:SpecT):Prop:=SpecOK Tryz.prog f S
theorem okE0:OKL []:=Env.OK.nil
def L0:LS:=[]
theorem okL0:OKL L0:=okE0
def L1:LS:=(228,sIdxI.spec oIdxI)::L0
theorem okL1:OKL L1:=addK okL0 [(2,lIdxI)] false (fn:=Tryz.f228) fun h=>O.vIdxI h
def L2:LS:=(184,sConI.spec oConI)::L1
theorem okL2:OKL L2:=addK okL1 [] false (fn:=Tryz.f184) fun h=>O.vConI h
def L3:LS:=(255,sNum1.spec oNaN)::L2
theorem okL3:OKL L3:=addK okL2 [] false (fn:=Tryz.f255) fun h=>O.vNaN h
def L4:LS:=(245,sNum2.spec oCmpI)::L3
theorem okL4:OKL L4:=addK okL3 [] false (fn:=Tryz.f245) fun h=>O.vCmpI h
def L5:LS:=(244,sOrI.spec oOrI)::L4
theorem okL5:OKL L5:=addK okL4 [(3,lOrI)] false (fn:=Tryz.f244) fun h=>O.vOrI h
def L6:LS:=(185,sOrI.spec oLeastI)::L5
theorem okL6:OKL L6:=addK okL5 [(3,lLeastI)] false (fn:=Tryz.f185) fun h=>O.vLeastI h
def L7:LS:=(182,sSet1.spec oOnes)::L6
theorem okL7:OKL L7:=addK okL6 [] false (fn:=Tryz.f182) fun h=>O.vOnes h
theorem ok_f259:SP 259 (sSet1.spec oTZ):=by
 exact tz_spec Tryz.lays29 rfl (List.mem_singleton.2 rfl)
def L8:LS:=(259,sSet1.spec oTZ)::L7
theorem okL8:OKL L8:=Env.OK.cons okL7 (fn:=Tryz.f259) (by kernel_rfl) (by kernel_rfl) (by kernel_rfl) ok_f259
def L9:LS:=(133,sSet1.spec oOnes)::L8
theorem okL9:OKL L9:=addK okL8 [] false (fn:=Tryz.f133) fun h=>O.vLenS h
def L10:LS:=(252,sSet1.spec oLow)::L9
theorem okL10:OKL L10:=addK okL9 [] false (fn:=Tryz.f252) fun h=>O.vLowS h
def L11:LS:=(176,sHas.spec oHas)::L10
theorem okL11:OKL L11:=addK okL10 [] false (fn:=Tryz.f176) fun h=>O.vHas h
def L12:LS:=(237,sWith.spec oWith)::L11
theorem okL12:OKL L12:=addK okL11 [] false (fn:=Tryz.f237) fun h=>O.vWith h
def L13:LS:=(239,sWith.spec oWithout)::L12
theorem okL13:OKL L13:=addK okL12 [] false (fn:=Tryz.f239) fun h=>O.vWithout h
def L14:LS:=(189,sAllS.spec oAllS)::L13
theorem okL14:OKL L14:=addK okL13 [] false (fn:=Tryz.f189) fun h=>O.vAllS h
def L15:LS:=(234,sFirst.spec oFirst)::L14
theorem okL15:OKL L15:=addK okL14 [(5,lFirst)] false (fn:=Tryz.f234) fun h=>O.vFirst h
def L16:LS:=(101,sCloneT.spec oCloneT)::L15
theorem okL16:OKL L16:=addK okL15 [] false (fn:=Tryz.f101) fun h=>O.vCloneT h
theorem ok_f100:SP 100 (sNoneP.spec oNoneP):=by
 refine Sig.sound (E:=en L16 [] false) okL16 (fn:=Tryz.f100) (by kernel_rfl) (by rfl) ?_
 intro x k h
 obtain ⟨p,_⟩:=x
 cases p with
 |none=>exact Eq.mp (α:=V.vNonePN k) (by kernel_rfl) (O.vNonePN h)
 |some p=>exact Eq.mp (α:=V.vNoneP p k) (by kernel_rfl) (O.vNoneP h)
def L17:LS:=(100,sNoneP.spec oNoneP)::L16
theorem okL17:OKL L17:=Env.OK.cons okL16 (fn:=Tryz.f100) (by kernel_rfl) (by kernel_rfl) (by kernel_rfl) ok_f100
def L18:LS:=(64,sPInt.spec oNow)::L17
theorem okL18:OKL L18:=addK okL17 [] false (fn:=Tryz.f64) fun h=>O.vNow h
def L19:LS:=(35,sPSteps.spec oPSteps)::L18
theorem okL19:OKL L19:=addK okL18 [] false (fn:=Tryz.f35) fun h=>O.vPSteps h
def L20:LS:=(151,sPCopy.spec oPCopy)::L19
theorem okL20:OKL L20:=addK okL19 [] false (fn:=Tryz.f151) fun h=>O.vPCopy h
def L21:LS:=(248,sCmpS.spec oCmpS)::L20
theorem okL21:OKL L21:=addK okL20 [] false (fn:=Tryz.f248) fun h=>O.vCmpS h
def L22:LS:=(247,(sBin 248).spec (oBin 248))::L21
theorem okL22:OKL L22:=addK okL21 [(3,lBin 248)] false (fn:=Tryz.f247) fun h=>O.vBin h
def L23:LS:=(229,sIndex.spec oIndex)::L22
theorem okL23:OKL L23:=addK okL22 [] false (fn:=Tryz.f229) fun h=>O.vIndex h
def L24:LS:=(210,sIndex.spec oFree)::L23
theorem okL24:OKL L24:=addK okL23 [] false (fn:=Tryz.f210) fun h=>O.vFreeP h
def L25:LS:=(192,sLeast.spec oLeast)::L24
theorem okL25:OKL L25:=addK okL24 [(8,lLeast)] false (fn:=Tryz.f192) fun h=>O.vLeast h
def L26:LS:=(230,sLeast.spec oMost)::L25
theorem okL26:OKL L26:=addK okL25 [(3,lMost)] false (fn:=Tryz.f230) fun h=>O.vMost h
theorem ok_f257:ExtOK Tryz.prog 257 (ovSpec .step):=by
 exact ov_spec (fn:=Tryz.f257) (tS:=68) (tR:=4) (e:=171) (by kernel_rfl) (by kernel_rfl) (by kernel_rfl) (by kernel_rfl) (by kernel_rfl) (by kernel_rfl) (by kernel_rfl) (by decide)
def L27:LS:=(257,ovSpec .step)::L26
theorem okL27:OKL L27:=Env.OK.ext okL26 ok_f257
def L28:LS:=(249,sInsT.spec oInsT)::L27
theorem okL28:OKL L28:=addK okL27 [] false (fn:=Tryz.f249) fun h=>O.vInsT h
def L29:LS:=(231,sSplit.spec oSplit)::L28
theorem okL29:OKL L29:=addK okL28 [] false (fn:=Tryz.f231) fun h=>O.vSplit h
def L30:LS:=(251,sSame.spec oSame)::L29
theorem okL30:OKL L30:=addK okL29 [] false (fn:=Tryz.f251) fun h=>O.vSame h
def L31:LS:=(250,(sCompact 251).spec (oCompact 251))::L30
theorem okL31:OKL L31:=addK okL30 [(4,lCp1 251),(9,lCp2 251)] false (fn:=Tryz.f250) fun h=>O.vCompact h
def L32:LS:=(232,sJoin1.spec oJoin1)::L31
theorem okL32:OKL L32:=addK okL31 [] false (fn:=Tryz.f232) fun h=>O.vJoin1 h
def L33:LS:=(193,sAdd.spec oAdd)::L32
theorem okL33:OKL L33:=addK okL32 [(14,lAdd)] false (fn:=Tryz.f193) fun h=>O.vAdd h
def L34:LS:=(191,sRes.spec oRel)::L33
theorem okL34:OKL L34:=addK okL33 [] false (fn:=Tryz.f191) fun h=>O.vRel h
def L35:LS:=(155,sRes.spec oRes)::L34
theorem okL35:OKL L35:=addK okL34 [] false (fn:=Tryz.f155) fun h=>O.vRes h
def L36:LS:=(209,sAdv.spec oAdv)::L35
theorem okL36:OKL L36:=addK okL35 [] false (fn:=Tryz.f209) fun h=>O.vAdv h
def L37:LS:=(147,sNewP.spec oNewP)::L36
theorem okL37:OKL L37:=addK okL36 [] false (fn:=Tryz.f147) fun h=>O.vNewP h
def L38:LS:=(99,sCloneB.spec oCloneB)::L37
theorem okL38:OKL L38:=addK okL37 [] false (fn:=Tryz.f99) fun h=>O.vCloneB h
theorem ok_f98:SP 98 (sNoneJ.spec oNoneJ):=by
 refine Sig.sound (E:=en L38 [] false) okL38 (fn:=Tryz.f98) (by kernel_rfl) (by rfl) ?_
 intro x k h
 obtain ⟨t,_⟩:=x
 cases t with
 |none=>exact Eq.mp (α:=V.vNoneJN k) (by kernel_rfl) (O.vNoneJN h)
 |some t=>exact Eq.mp (α:=V.vNoneJ t k) (by kernel_rfl) (O.vNoneJ h)
def L39:LS:=(98,sNoneJ.spec oNoneJ)::L38
theorem okL39:OKL L39:=Env.OK.cons okL38 (fn:=Tryz.f98) (by kernel_rfl) (by kernel_rfl) (by kernel_rfl) ok_f98
def L40:LS:=(148,sNewJ.spec oNewJ)::L39
theorem okL40:OKL L40:=addK okL39 [] false (fn:=Tryz.f148) fun h=>O.vNewJ h
def L41:LS:=(33,sAllJ.spec oAllJ)::L40
theorem okL41:OKL L41:=addK okL40 [] false (fn:=Tryz.f33) fun h=>O.vAllJ h
def L42:LS:=(139,sInJ.spec oInJ)::L41
theorem okL42:OKL L42:=addK okL41 [(3,lInJ)] false (fn:=Tryz.f139) fun h=>O.vInJ h
def L43:LS:=(224,sCmpB.spec oCmpB)::L42
theorem okL43:OKL L43:=addK okL42 [] false (fn:=Tryz.f224) fun h=>O.vCmpB h
def L44:LS:=(235,sLessB.spec oLessB)::L43
theorem okL44:OKL L44:=addK okL43 [] false (fn:=Tryz.f235) fun h=>O.vLessB h
def L45:LS:=(253,(sInsB 224).spec (oInsB 224))::L44
theorem okL45:OKL L45:=addK okL44 [(1,lIns1B 224),(4,lIns2B 224)] false (fn:=Tryz.f253) fun h=>O.vInsB h
def L46:LS:=(262,(sSwapRB 224).spec (oSwapRB 224))::L45
theorem okL46:OKL L46:=addK okL45 [(1,lSwapRB)] false (fn:=Tryz.f262) fun h=>O.vSwapRB h
def L47:LS:=(260,(sSwapRB 224).spec (oRotB 224))::L46
theorem okL47:OKL L47:=addK okL46 [(2,lRotB 224)] false (fn:=Tryz.f260) fun h=>O.vRotB h
theorem ok_f254r (n:Nat):SP 254 ((sSwapRB 224).spec (oSymB 224 n)):=by
 induction n with
 |zero=>
  refine Sig.sound (E:=en L47 [(3,lSy1B 224),(9,lSy2B),(15,lSy3B 224),(21,lSy4B),(33,lSy5B 224)] false) okL47 (fn:=Tryz.f254) (by kernel_rfl) (by rfl) ?_
  intro x k h
  exact absurd h.1.2.2.1 (Nat.not_lt_zero _)
 |succ n ih=>
  refine Sig.sound (E:=(en ((254,(sSwapRB 224).spec (oSymB 224 n))::L47) [(3,lSy1B 224),(9,lSy2B),(15,lSy3B 224),(21,lSy4B),(33,lSy5B 224)] false)) (Env.OK.cons okL47 (fn:=Tryz.f254) (by kernel_rfl) (by kernel_rfl) (by kernel_rfl) ih) (fn:=Tryz.f254) (by kernel_rfl) (by rfl) ?_
  intro x k h
  obtain ⟨l,a,b,m,_,_⟩:=x
  refine Eq.mp (α:=V.vSymB n l a b m k) ?_ (O.vSymB h)
  kernel_rfl
theorem ok_f254:SP 254 ((sSwapRB 224).spec (oSymB 224 1099511627777)):=by
 exact ok_f254r 1099511627777
def L48:LS:=(254,(sSwapRB 224).spec (oSymB 224 1099511627777))::L47
theorem okL48:OKL L48:=Env.OK.cons okL47 (fn:=Tryz.f254) (by kernel_rfl) (by kernel_rfl) (by kernel_rfl) ok_f254
def L49:LS:=(243,(sStabB 224).spec (oStabB 224))::L48
theorem okL49:OKL L49:=addK okL48 [(2,lSt1B 224),(7,lSt2B 224),(9,lSt1B 224)] false (fn:=Tryz.f243) fun h=>O.vStabB h
def L50:LS:=(223,(sSortB 224).spec (oSortB 224))::L49
theorem okL50:OKL L50:=addK okL49 [] false (fn:=Tryz.f223) fun h=>O.vSortB h
def L51:LS:=(175,sOrdS.spec oOrdS)::L50
theorem okL51:OKL L51:=addK okL50 [] false (fn:=Tryz.f175) fun h=>O.vOrdS h
def L52:LS:=(108,sAllJ.spec oWaiting)::L51
theorem okL52:OKL L52:=addK okL51 [] false (fn:=Tryz.f108) fun h=>O.vWaiting h
def L53:LS:=(215,sCountsJ.spec oCountsJ)::L52
theorem okL53:OKL L53:=addK okL52 [] false (fn:=Tryz.f215) fun h=>O.vCountsJ h
def L54:LS:=(67,sGetJ.spec oGetJ)::L53
theorem okL54:OKL L54:=addK okL53 [] false (fn:=Tryz.f67) fun h=>O.vGetJ h
theorem ok_f196:SP 196 (inlSpec (en L54 [] false) Tryz.f196):=by
 exact inl_sound (E:=en L54 [] false) okL54 (fn:=Tryz.f196) (by kernel_rfl)
def L55:LS:=(196,inlSpec (en L54 [] false) Tryz.f196)::L54
theorem okL55:OKL L55:=Env.OK.cons okL54 (fn:=Tryz.f196) (by kernel_rfl) (by kernel_rfl) (by kernel_rfl) ok_f196
def L56:LS:=(202,sHoldJ.spec oHoldJ)::L55
theorem okL56:OKL L56:=addK okL55 [] false (fn:=Tryz.f202) fun h=>O.vHoldJ h
def L57:LS:=(203,sHoldJ.spec oFreeJ)::L56
theorem okL57:OKL L57:=addK okL56 [] false (fn:=Tryz.f203) fun h=>O.vFreeJ h
def L58:LS:=(157,sPlanJ.spec oPlanJ)::L57
theorem okL58:OKL L58:=addK okL57 [] false (fn:=Tryz.f157) fun h=>O.vPlanJ h
def L59:LS:=(195,sBeginJ.spec oBeginJ)::L58
theorem okL59:OKL L59:=addK okL58 [] false (fn:=Tryz.f195) fun h=>O.vBeginJ h
def L60:LS:=(200,sFinJ.spec oFinJ)::L59
theorem okL60:OKL L60:=addK okL59 [] false (fn:=Tryz.f200) fun h=>O.vFinJ h
def L61:LS:=(236,sRightR.spec oRightR)::L60
theorem okL61:OKL L61:=addK okL60 [] false (fn:=Tryz.f236) fun h=>O.vRightR h
def L62:LS:=(199,sSubJ.spec oSubJ)::L61
theorem okL62:OKL L62:=addK okL61 [] false (fn:=Tryz.f199) fun h=>O.vSubJ h
def L63:LS:=(149,sCopyJ.spec oCopyJ)::L62
theorem okL63:OKL L63:=addK okL62 [] false (fn:=Tryz.f149) fun h=>O.vCopyJ h
theorem ok_f132:SP 132 (sNoneN.spec oNoneN):=by
 refine Sig.sound (E:=en L63 [] false) okL63 (fn:=Tryz.f132) (by kernel_rfl) (by rfl) ?_
 intro x k h
 obtain ⟨t,_⟩:=x
 cases t with
 |none=>exact Eq.mp (α:=V.vNoneNN k) (by kernel_rfl) (O.vNoneNN h)
 |some t=>exact Eq.mp (α:=V.vNoneN t k) (by kernel_rfl) (O.vNoneN h)
def L64:LS:=(132,sNoneN.spec oNoneN)::L63
theorem okL64:OKL L64:=Env.OK.cons okL63 (fn:=Tryz.f132) (by kernel_rfl) (by kernel_rfl) (by kernel_rfl) ok_f132
def L65:LS:=(233,sNSet.spec oIdleN)::L64
theorem okL65:OKL L65:=addK okL64 [] false (fn:=Tryz.f233) fun h=>O.vIdleI h
def L66:LS:=(62,sNInt.spec oSizeN)::L65
theorem okL66:OKL L66:=addK okL65 [] false (fn:=Tryz.f62) fun h=>O.vSizeN h
def L67:LS:=(118,sStateN.spec oStateN)::L66
theorem okL67:OKL L67:=addK okL66 [] false (fn:=Tryz.f118) fun h=>O.vStateN h
def L68:LS:=(214,sCountsN.spec oCountsN)::L67
theorem okL68:OKL L68:=addK okL67 [] false (fn:=Tryz.f214) fun h=>O.vCountsN h
def L69:LS:=(194,sTakeN.spec oTakeN)::L68
theorem okL69:OKL L69:=addK okL68 [] false (fn:=Tryz.f194) fun h=>O.vTakeN h
def L70:LS:=(201,sGiveN.spec oGiveN)::L69
theorem okL70:OKL L70:=addK okL69 [] false (fn:=Tryz.f201) fun h=>O.vGiveN h
def L71:LS:=(205,sDrainN.spec oDrainN)::L70
theorem okL71:OKL L71:=addK okL70 [] false (fn:=Tryz.f205) fun h=>O.vDrainN h
def L72:LS:=(207,sDrainN.spec oResumeN)::L71
theorem okL72:OKL L72:=addK okL71 [] false (fn:=Tryz.f207) fun h=>O.vResumeN h
def L73:LS:=(150,sCopyN.spec oCopyN)::L72
theorem okL73:OKL L73:=addK okL72 [] false (fn:=Tryz.f150) fun h=>O.vCopyN h
def L74:LS:=(146,sNewN.spec oNewN)::L73
theorem okL74:OKL L74:=addK okL73 [] false (fn:=Tryz.f146) fun h=>O.vNewN h
def L75:LS:=(122,sFailR.spec oFailR)::L74
theorem okL75:OKL L75:=addK okL74 [] false (fn:=Tryz.f122) fun h=>O.vFailR h
def L76:LS:=(204,sTellR.spec oTellR)::L75
theorem okL76:OKL L76:=addK okL75 [] false (fn:=Tryz.f204) fun h=>O.vTellR h
def L77:LS:=(213,sThreeR.spec oThreeR)::L76
theorem okL77:OKL L77:=addK okL76 [] false (fn:=Tryz.f213) fun h=>O.vThreeR h
def L78:LS:=(31,sCleanR.spec oCleanR)::L77
theorem okL78:OKL L78:=addK okL77 [] false (fn:=Tryz.f31) fun h=>O.vCleanR h
theorem ok_f87:SP 87 (sNoneC.spec oNoneC):=by
 refine Sig.sound (E:=en L78 [] false) okL78 (fn:=Tryz.f87) (by kernel_rfl) (by rfl) ?_
 intro x k h
 obtain ⟨c,_⟩:=x
 cases c with
 |none=>exact Eq.mp (α:=V.vNoneCN k) (by kernel_rfl) (O.vNoneCN h)
 |some c=>exact Eq.mp (α:=V.vNoneC c k) (by kernel_rfl) (O.vNoneC h)
def L79:LS:=(87,sNoneC.spec oNoneC)::L78
theorem okL79:OKL L79:=Env.OK.cons okL78 (fn:=Tryz.f87) (by kernel_rfl) (by kernel_rfl) (by kernel_rfl) ok_f87
theorem ok_f63:SP 63 (sNoneC.spec oClosedC):=by
 refine Sig.sound (E:=en L79 [] false) okL79 (fn:=Tryz.f63) (by kernel_rfl) (by rfl) ?_
 intro x k h
 obtain ⟨c,_⟩:=x
 cases c with
 |none=>exact Eq.mp (α:=V.vClosedCN k) (by kernel_rfl) (O.vClosedCN h)
 |some c=>exact Eq.mp (α:=V.vClosedC c k) (by kernel_rfl) (O.vClosedC h)
def L80:LS:=(63,sNoneC.spec oClosedC)::L79
theorem okL80:OKL L80:=Env.OK.cons okL79 (fn:=Tryz.f63) (by kernel_rfl) (by kernel_rfl) (by kernel_rfl) ok_f63
def L81:LS:=(83,sNewC.spec oNewC)::L80
theorem okL81:OKL L81:=addK okL80 [] false (fn:=Tryz.f83) fun h=>O.vNewC h
def L82:LS:=(85,sTwinC.spec oTwinC)::L81
theorem okL82:OKL L82:=addK okL81 [] false (fn:=Tryz.f85) fun h=>O.vTwinC h
def L83:LS:=(190,sPlanS.spec oPlanS)::L82
theorem okL83:OKL L83:=addK okL82 [] false (fn:=Tryz.f190) fun h=>O.vPlanS h
def L84:LS:=(187,sSpansC.spec oSpansC)::L83
theorem okL84:OKL L84:=addK okL83 [(5,lSpansC)] false (fn:=Tryz.f187) fun h=>O.vSpansC h
def L85:LS:=(238,sHolderC.spec oHolderC)::L84
theorem okL85:OKL L85:=addK okL84 [(4,lHolderC)] false (fn:=Tryz.f238) fun h=>O.vHolderC h
def L86:LS:=(162,sToldC.spec oToldC)::L85
theorem okL86:OKL L86:=addK okL85 [] false (fn:=Tryz.f162) fun h=>O.vToldC h
def L87:LS:=(198,sWantsC.spec oWantsC)::L86
theorem okL87:OKL L87:=addK okL86 [] false (fn:=Tryz.f198) fun h=>O.vWantsC h
def L88:LS:=(206,sUntilC.spec oUntilC)::L87
theorem okL88:OKL L88:=addK okL87 [] false (fn:=Tryz.f206) fun h=>O.vUntilC h
def L89:LS:=(208,sNextC.spec oNextC)::L88
theorem okL89:OKL L89:=addK okL88 [(3,lNx1),(8,lNx2)] false (fn:=Tryz.f208) fun h=>O.vNextC h
def L90:LS:=(211,sTimeC.spec oTimeC)::L89
theorem okL90:OKL L90:=addK okL89 [(1,lTimeC)] false (fn:=Tryz.f211) fun h=>O.vTimeC h
def L91:LS:=(156,sBeginC.spec oBeginC)::L90
theorem okL91:OKL L91:=addK okL90 [] false (fn:=Tryz.f156) fun h=>O.vBeginC h
def L92:LS:=(212,sTimeC.spec oBeginsC)::L91
theorem okL92:OKL L92:=addK okL91 [(1,lBeginsC)] false (fn:=Tryz.f212) fun h=>O.vBeginsC h
def L93:LS:=(153,sFitsC.spec oFitsC)::L92
theorem okL93:OKL L93:=addK okL92 [] false (fn:=Tryz.f153) fun h=>O.vFitsC h
def L94:LS:=(19,sNewW.spec oNewW)::L93
theorem okL94:OKL L94:=addK okL93 [] false (fn:=Tryz.f19) fun h=>O.vNewW h
def L95:LS:=(119,sNewX.spec oNewX)::L94
theorem okL95:OKL L95:=addK okL94 [] false (fn:=Tryz.f119) fun h=>O.vNewX h
theorem ok_f20:SP 20 (sDoneW.spec oDoneW):=by
 refine Sig.sound (E:=en L95 [] false) okL95 (fn:=Tryz.f20) (by kernel_rfl) (by rfl) ?_
 intro x k h
 obtain ⟨w,_⟩:=x
 cases w with
 |none=>exact Eq.mp (α:=V.vDoneWN k) (by kernel_rfl) (O.vDoneWN h)
 |some w=>exact Eq.mp (α:=V.vDoneW w k) (by kernel_rfl) (O.vDoneW h)
def L96:LS:=(20,sDoneW.spec oDoneW)::L95
theorem okL96:OKL L96:=Env.OK.cons okL95 (fn:=Tryz.f20) (by kernel_rfl) (by kernel_rfl) (by kernel_rfl) ok_f20
def L97:LS:=(29,sRepW.spec oRepW)::L96
theorem okL97:OKL L97:=addK okL96 [] false (fn:=Tryz.f29) fun h=>O.vRepW h
def L98:LS:=(121,sOkW.spec oOkW)::L97
theorem okL98:OKL L98:=addK okL97 [] false (fn:=Tryz.f121) fun h=>O.vOkW h
def L99:LS:=(152,sEndW.spec oEndW)::L98
theorem okL99:OKL L99:=addK okL98 [] false (fn:=Tryz.f152) fun h=>O.vEndW h
def L100:LS:=(88,sFailW.spec oFailW)::L99
theorem okL100:OKL L100:=addK okL99 [] false (fn:=Tryz.f88) fun h=>O.vFailW h
def L101:LS:=(197,sWCb.spec oDropW)::L100
theorem okL101:OKL L101:=addK okL100 [(2,lDropW)] false (fn:=Tryz.f197) fun h=>O.vDropW h
def L102:LS:=(154,sWC.spec oUnplan)::L101
theorem okL102:OKL L102:=addK okL101 [] false (fn:=Tryz.f154) fun h=>O.vUnplan h
def L103:LS:=(158,(sWC).spec (oW2 Law.submitW))::L102
theorem okL103:OKL L103:=addK okL102 [] false (fn:=Tryz.f158) fun h=>O.vSubW h
def L104:LS:=(159,(sWC).spec (oW2 Law.finishW))::L103
theorem okL104:OKL L104:=addK okL103 [] false (fn:=Tryz.f159) fun h=>O.vFinW h
def L105:LS:=(160,(sWC).spec (oW2 Law.holdW))::L104
theorem okL105:OKL L105:=addK okL104 [] false (fn:=Tryz.f160) fun h=>O.vHoldW h
def L106:LS:=(161,(sWC).spec (oW2 Law.freeW))::L105
theorem okL106:OKL L106:=addK okL105 [] false (fn:=Tryz.f161) fun h=>O.vFreeW h
def L107:LS:=(163,(sWC).spec (oW2 Law.drainW))::L106
theorem okL107:OKL L107:=addK okL106 [] false (fn:=Tryz.f163) fun h=>O.vDrainW h
def L108:LS:=(164,(sWC).spec (oW2 Law.resumeW))::L107
theorem okL108:OKL L108:=addK okL107 [] false (fn:=Tryz.f164) fun h=>O.vResumeW h
def L109:LS:=(165,(sWC).spec (oW2 Law.tickW))::L108
theorem okL109:OKL L109:=addK okL108 [] false (fn:=Tryz.f165) fun h=>O.vTickW h
def L110:LS:=(166,(sWC).spec (oW2 Law.countW))::L109
theorem okL110:OKL L110:=addK okL109 [] false (fn:=Tryz.f166) fun h=>O.vCountW h
def L111:LS:=(90,(sWC).spec (oW2 Law.serveW))::L110
theorem okL111:OKL L111:=addK okL110 [] false (fn:=Tryz.f90) fun h=>O.vServeW h
def L112:LS:=(89,(sWC).spec (oW2 Law.settleW))::L111
theorem okL112:OKL L112:=addK okL111 [] false (fn:=Tryz.f89) fun h=>O.vSettleW h
def L113:LS:=(21,sWCb.spec oStepW)::L112
theorem okL113:OKL L113:=addK okL112 [] false (fn:=Tryz.f21) fun h=>O.vStepW h
theorem ok_f52:SP 52 (cutSpec .deed 60):=by
 exact cut_sound (E:=en L113 [] false) okL113 (fn:=Tryz.f52) (by kernel_rfl) (fun xs H K=>by kernel_rfl)
def L114:LS:=(52,cutSpec .deed 60)::L113
theorem okL114:OKL L114:=Env.OK.cons okL113 (fn:=Tryz.f52) (by kernel_rfl) (by kernel_rfl) (by kernel_rfl) ok_f52
def L115:LS:=(32,sSameJ.spec oSameJ)::L114
theorem okL115:OKL L115:=addK okL114 [(4,lSameJ)] false (fn:=Tryz.f32) fun h=>O.vSameJ h
def L116:LS:=(34,sSameS.spec oSameS)::L115
theorem okL116:OKL L116:=addK okL115 [(4,lSameS)] false (fn:=Tryz.f34) fun h=>O.vSameS h
def L117:LS:=(123,sIsR.spec oIsR)::L116
theorem okL117:OKL L117:=addK okL116 [] true (fn:=Tryz.f123) fun h=>O.vIsR h
def L118:LS:=(57,sNewS.spec oNewS)::L117
theorem okL118:OKL L118:=addK okL117 [] true (fn:=Tryz.f57) fun h=>O.vNewS h
theorem ok_f84:SP 84 (sNoneS.spec oNoneS):=by
 refine Sig.sound (E:=en L118 [] true) okL118 (fn:=Tryz.f84) (by kernel_rfl) (by rfl) ?_
 intro x k h
 obtain ⟨s,_⟩:=x
 cases s with
 |none=>exact Eq.mp (α:=V.vNoneSN k) (by kernel_rfl) (O.vNoneSN h)
 |some s=>exact Eq.mp (α:=V.vNoneS s k) (by kernel_rfl) (O.vNoneS h)
def L119:LS:=(84,sNoneS.spec oNoneS)::L118
theorem okL119:OKL L119:=Env.OK.cons okL118 (fn:=Tryz.f84) (by kernel_rfl) (by kernel_rfl) (by kernel_rfl) ok_f84
def L120:LS:=(120,sRunS.spec oRunS)::L119
theorem okL120:OKL L120:=addK okL119 [(0,lRunS)] true (fn:=Tryz.f120) fun h=>O.vRunS h
theorem ok_f59a:SP 59 (sDoS.spec oDoS):=Sig.sound (E:=en L120 [] true) okL120 (fn:=Tryz.f59) (by kernel_rfl) (by rfl) fun ⟨s,r,_⟩ k h=>Eq.mp (α:=V.vDoS s r k) (by kernel_rfl) (O.vDoS h)
theorem ok_f59:SP 59 (nilSpec (sDoS.spec oDoS) (inlSpec (en L120 [] false) Tryz.f59)):=by
 exact nil_ok ok_f59a (inl_sound (E:=en L120 [] false) okL120 (fn:=Tryz.f59) (by kernel_rfl))
def L121:LS:=(59,nilSpec (sDoS.spec oDoS) (inlSpec (en L120 [] false) Tryz.f59))::L120
theorem okL121:OKL L121:=Env.OK.cons okL120 (fn:=Tryz.f59) (by kernel_rfl) (by kernel_rfl) (by kernel_rfl) ok_f59
theorem ok_f58a:SP 58 (sComS.spec oComS):=Sig.sound (E:=en L121 [] true) okL121 (fn:=Tryz.f58) (by kernel_rfl) (by rfl) fun ⟨s,x,_⟩ k h=>Eq.mp (α:=V.vComS s x k) (by kernel_rfl) (O.vComS h)
theorem ok_f58:SP 58 (nilSpec (sComS.spec oComS) (inlSpec (en L121 [] false) Tryz.f58)):=by
 exact nil_ok ok_f58a (inl_sound (E:=en L121 [] false) okL121 (fn:=Tryz.f58) (by kernel_rfl))
def L122:LS:=(58,nilSpec (sComS.spec oComS) (inlSpec (en L121 [] false) Tryz.f58))::L121
theorem okL122:OKL L122:=Env.OK.cons okL121 (fn:=Tryz.f58) (by kernel_rfl) (by kernel_rfl) (by kernel_rfl) ok_f58
theorem ok_f17a:SP 17 (sTwinS.spec oTwinS):=Sig.sound (E:=en L122 [] true) okL122 (fn:=Tryz.f17) (by kernel_rfl) (by rfl) fun ⟨s,_⟩ k h=>Eq.mp (α:=V.vTwinS s k) (by kernel_rfl) (O.vTwinS h)
theorem ok_f17:SP 17 (nilSpec (sTwinS.spec oTwinS) (inlSpec (en L122 [] false) Tryz.f17)):=by
 exact nil_ok ok_f17a (inl_sound (E:=en L122 [] false) okL122 (fn:=Tryz.f17) (by kernel_rfl))
def L123:LS:=(17,nilSpec (sTwinS.spec oTwinS) (inlSpec (en L122 [] false) Tryz.f17))::L122
theorem okL123:OKL L123:=Env.OK.cons okL122 (fn:=Tryz.f17) (by kernel_rfl) (by kernel_rfl) (by kernel_rfl) ok_f17
def L124:LS:=(107,sItems.spec oItems)::L123
theorem okL124:OKL L124:=addK okL123 [(3,lItems)] true (fn:=Tryz.f107) fun h=>O.vItems h
theorem ok_f42a:SP 42 (sItemsS.spec oItemsS):=Sig.sound (E:=en L124 [] true) okL124 (fn:=Tryz.f42) (by kernel_rfl) (by rfl) fun ⟨s,_⟩ k h=>Eq.mp (α:=V.vItemsS s k) (by kernel_rfl) (O.vItemsS h)
theorem ok_f42:SP 42 (nilSpec (sItemsS.spec oItemsS) (inlSpec (en L124 [] false) Tryz.f42)):=by
 exact nil_ok ok_f42a (inl_sound (E:=en L124 [] false) okL124 (fn:=Tryz.f42) (by kernel_rfl))
def L125:LS:=(42,nilSpec (sItemsS.spec oItemsS) (inlSpec (en L124 [] false) Tryz.f42))::L124
theorem okL125:OKL L125:=Env.OK.cons okL124 (fn:=Tryz.f42) (by kernel_rfl) (by kernel_rfl) (by kernel_rfl) ok_f42
theorem ok_f15:SP 15 (sMadeS.spec oMadeS):=Sig.sound (E:=en L125 [(6,lMadeS)] true) okL125 (fn:=Tryz.f15) (by kernel_rfl) (by rfl) fun ⟨n,l,_⟩ k h=>Eq.mp (α:=V.vMadeS n l k) (by kernel_rfl) (O.vMadeS h)
def L126:LS:=(15,sMadeS.spec oMadeS)::L125
theorem okL126:OKL L126:=Env.OK.cons okL125 (fn:=Tryz.f15) (by kernel_rfl) (by kernel_rfl) (by kernel_rfl) ok_f15
end
end Go.Proofs.YtbmabiedmdlinaaGreatDoor.core
