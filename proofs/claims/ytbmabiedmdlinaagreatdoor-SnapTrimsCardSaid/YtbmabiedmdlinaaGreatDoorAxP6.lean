import Derived.Test.YtbmabiedmdlinaaGreatDoorAxG
import Derived.Test.YtbmabiedmdlinaaGreatDoorAxPA
import Derived.Test.YtbmabiedmdlinaaGreatDoorAxOV
set_option linter.all false
namespace Go.Ax
noncomputable def inlSpec (E:LEnv) (fn:Func):SpecT:=fun args H K=>
 forceL (List.range H.length) fun T=>abody {E with n0:=H.length} fn args H fun v H'=>K v H' T
variable [Surr]
theorem inl_sound {E:LEnv} (hE:E.toEnv.OK) {f:FuncId} {fn:Func} (hf:E.P.funcs[f]? =some fn):SpecOK E.P f (inlSpec E fn):=by
 intro args H K hk G w ρ Fs vs hH hr
 simp only [inlSpec,forceL_eq] at hk
 refine (abody_sound (E:={E with n0:=H.length}) hE hf rfl hk hH hr).mono fun e w' he=>?_
 obtain ⟨v,av,H',e',Fs',rfl,hK,hrv,hs⟩:=he
 exact ⟨v,av,H',_,e',Fs',rfl,hK,hrv,hs,fun l o hl hn=>absurd (List.mem_range.2 (hH.lab hl)) hn⟩
end Go.Ax
namespace Go.Ax.Law
def Rising (l:List Step):Prop:=l.Pairwise fun a b=>a.At<b.At
def StepsOK (l:List Step):Prop:=l≠[]∧Rising l∧l.length≤4294967296
def PW (p:Prof):Prop:=StepsOK p.steps
def IdsOK (l:List Job):Prop:= ∀(i:Nat) (j:Job),l[i]? =some j→j.Id=(i:Int)+1∧U64 j.Nodes
def JW (t:Jobs):Prop:=t.made=true∧t.jobs.length≤1024∧IdsOK t.jobs
def NW (t:Nodes):Prop:=U64 t.all∧U64 t.used∧U64 t.drain∧t.all≠0
def CW (c:Core):Prop:=JW c.J∧NW c.N∧PW c.P
def noneJ:Option Jobs→Bool
 |none=>true
 |some t=>!t.made
def noneN:Option Nodes→Bool
 |none=>true
 |some t=>decide (t.all=0)
def noneP:Option Prof→Bool
 |none=>true
 |some p=>p.steps.isEmpty
def noneC:Option Core→Bool
 |none=>true
 |some _=>false
def closedC:Option Core→Bool
 |none=>true
 |some c=>c.closed
def doneW:Option Work→Bool
 |none=>true
 |some w=>w.done
def idxI (l:List Int) (v:Int):Int:=match l.findIdx? fun x=>decide (x=v) with |some i=>(i:Int) |none=> -1
def orI (l:List Int):Int:=match l.find? fun x=>decide (x≠0) with |some v=>v |none=>0
def leastI (l:List Int):Int:=l.foldl (fun a b=>min a b) 1152921504606846976
def aheadL (l:List Step) (t:Int):Nat:=l.countP fun s=>decide (s.At<t)
def cmpS (a t:Int):Int:=if a<t then-1 else if a>t then 1 else 0
def SmallJs (l:List Job):Prop:=(∀j∈l,-9223372036854775808≤j.Id∧j.Id≤9223372036854775807)∧l.length≤1048576
def newN (n:Int):Nodes:=⟨allS n,0,0⟩
def newP (n:Int):Prof:=⟨[⟨0,n⟩],0⟩
def newJs:Jobs:=⟨[],0,true⟩
def newCore (n:Int):Core:=⟨newJs,newN n,newP n,false⟩
def WW (w:Work):Prop:=U64 w.job.Nodes
end Go.Ax.Law
namespace Go.Ax.Sp
def sIdxI:Sig:=⟨[(.imm .i64,false),(.int .i64,false)],[.int .i64]⟩
def oIdxI:sIdxI.Out:=fun x k=>x.1.length≤1099511627776∧k () (Law.idxI x.1 x.2.1,())
def lIdxI:LoopAnn:={X:=List Int × Int × Int,live:=fun x=>[(0,.imm .i64 x.1),(1,.int .i64 x.2.1),(7,.int .i64 x.1.length),(8,.int .i64 x.2.2)],heap:=fun _=>[]}
def sConI:Sig:=⟨[(.imm .i64,false),(.int .i64,false)],[.bool]⟩
def oConI:sConI.Out:=fun x k=>x.1.length≤1099511627776∧k () (x.1.contains x.2.1,())
def sOrI:Sig:=⟨[(.imm .i64,false)],[.int .i64]⟩
def oOrI:sOrI.Out:=fun x k=>x.1.length≤1099511627776∧k () (Law.orI x.1,())
def lOrI:LoopAnn:={X:=List Int × Int,live:=fun x=>[(3,.int .i64 0),(6,.imm .i64 x.1),(7,.int .i64 x.1.length),(8,.int .i64 x.2)],heap:=fun _=>[]}
def sNum1:Sig:=⟨[(.int .i64,false)],[.bool]⟩
def oNaN:sNum1.Out:=fun _ k=>k () (false,())
def sNum2:Sig:=⟨[(.int .i64,false),(.int .i64,false)],[.int .i64]⟩
def oCmpI:sNum2.Out:=fun x k=>k () (Law.cmpI x.1 x.2.1,())
def oLeastI:sOrI.Out:=fun x k=>x.1.length≤1099511627776∧k () (Law.leastI x.1,())
def lLeastI:LoopAnn:={X:=List Int × Int × Int,live:=fun x=>[(3,.int .i64 x.2.1),(6,.imm .i64 x.1),(7,.int .i64 x.1.length),(8,.int .i64 x.2.2)],heap:=fun _=>[]}
def sSet1:Sig:=⟨[(.int .u64,false)],[.int .i64]⟩
def oOnes:sSet1.Out:=fun x k=>Law.U64 x.1∧k () (Law.lenS x.1,())
def oTZ:sSet1.Out:=fun x k=>Law.U64 x.1∧k () (((Lib.ctz 64 x.1.toNat:Nat):Int),())
def oLow:sSet1.Out:=fun x k=>Law.U64 x.1∧k () (Law.lowS x.1,())
def sHas:Sig:=⟨[(.int .u64,false),(.int .i64,false)],[.bool]⟩
def oHas:sHas.Out:=fun x k=>Law.U64 x.1∧k () (Law.hasB x.1 x.2.1,())
def sWith:Sig:=⟨[(.int .u64,false),(.int .i64,false)],[.int .u64]⟩
def oWith:sWith.Out:=fun x k=>Law.U64 x.1∧k () (Law.withS x.1 x.2.1,())
def oWithout:sWith.Out:=fun x k=>Law.U64 x.1∧k () (Law.withoutS x.1 x.2.1,())
def sAllS:Sig:=⟨[(.int .i64,false)],[.int .u64]⟩
def oAllS:sAllS.Out:=fun x k=>k () (Law.allS x.1,())
def sFirst:Sig:=⟨[(.int .u64,false),(.int .i64,false)],[.int .u64,.bool]⟩
def oFirst:sFirst.Out:=fun x k=>Law.U64 x.1∧k () ((Law.firstS x.1 x.2.1).1,(Law.firstS x.1 x.2.1).2,())
def lFirst:LoopAnn:={X:=Int × Int × Int × Int,live:=fun x=>[(0,.int .u64 x.1),(6,.int .u64 x.2.1),(16,.int .i64 x.2.2.1),(17,.int .i64 x.2.2.2)],heap:=fun _=>[]}
def sCloneT:Sig:=⟨[(.imm .step,false)],[.row .step]⟩
def oCloneT:sCloneT.Out:=fun x k=>x.1.length≤68719476736∧k () (x.1,())
def sNoneP:Sig:=⟨[(.vopt .prof,false)],[.bool]⟩
def oNoneP:sNoneP.Out:=fun x k=>k () (Law.noneP x.1,())
def sPInt:Sig:=⟨[(.view .prof,false)],[.int .i64]⟩
def oNow:sPInt.Out:=fun x k=>Law.PW x.1∧k () (Law.nowL x.1.steps,())
def sPSteps:Sig:=⟨[(.view .prof,false)],[.row .step]⟩
def oPSteps:sPSteps.Out:=fun x k=>Law.PW x.1∧k () (x.1.steps,())
def sPCopy:Sig:=⟨[(.view .prof,false)],[.opt .prof]⟩
def oPCopy:sPCopy.Out:=fun x k=>Law.PW x.1∧k () (some x.1,())
def sCmpS:Sig:=⟨[(.elem .step,false),(.int .i64,false)],[.int .i64]⟩
def oCmpS:sCmpS.Out:=fun x k=>k () (Law.cmpS x.1.At x.2.1,())
def sBin (f:FuncId):Sig:=⟨[(.imm .step,false),(.int .i64,false),(.fn f,false)],[.int .i64,.bool]⟩
def oBin (f:FuncId):(sBin f).Out:=fun x k=>(Law.Rising x.1∧x.1.length≤1099511627776)∧k () (((Law.aheadL x.1 x.2.1:Nat):Int),x.1.any (fun s=>decide (s.At=x.2.1)),())
def lBin (f:FuncId):LoopAnn:={X:=List Step × Int × Int × Int,live:=fun x=>[(0,.imm .step x.1),(1,.int .i64 x.2.1),(2,.fn f []),(8,.int .i64 x.1.length),(9,.int .i64 x.2.2.1),(10,.int .i64 x.2.2.2)],heap:=fun _=>[]}
def sIndex:Sig:=⟨[(.view .prof,false),(.int .i64,false)],[.int .i64]⟩
def oIndex:sIndex.Out:=fun x k=>Law.PW x.1∧k () (((Law.idxL x.1.steps x.2.1:Nat):Int),())
def oFree:sIndex.Out:=fun x k=>Law.PW x.1∧k () (Law.freeL x.1.steps x.2.1,())
def sLeast:Sig:=⟨[(.view .prof,false),(.int .i64,false),(.int .i64,false)],[.int .i64]⟩
def oLeast:sLeast.Out:=fun x k=>Law.PW x.1∧k () (Law.leastL x.1.steps x.2.1 x.2.2.1,())
def lLeast:LoopAnn:={X:=List Step × Int × Int × Int,live:=fun x=>[(2,.int .i64 x.2.1),(7,.int .i64 x.2.2.1),(27,.imm .step x.1),(28,.int .i64 x.1.length),(29,.int .i64 x.2.2.2)],heap:=fun _=>[]}
def oMost:sLeast.Out:=fun x k=>Law.PW x.1∧k () (Law.mostL x.1.steps x.2.1 x.2.2.1,())
def lMost:LoopAnn:={X:=List Step × Int × Int × Int,live:=fun x=>[(2,.int .i64 x.2.1),(7,.int .i64 x.2.2.1),(17,.imm .step x.1),(18,.int .i64 x.1.length),(19,.int .i64 x.2.2.2)],heap:=fun _=>[]}
def sInsT:Sig:=⟨[(.row .step,false),(.int .i64,false),(.row .step,true)],[.part .step]⟩
def oInsT:sInsT.Out:=fun x k=>(0<x.2.1∧x.2.1≤(x.1.length:Int)∧x.1.length≤8589934592∧x.2.2.1.length=1)∧k (x.2.2.1,()) (x.1.take x.2.1.toNat++x.2.2.1++x.1.drop x.2.1.toNat,())
def sSplit:Sig:=⟨[(.obj .prof,true),(.int .i64,false)],[.int .i64]⟩
def oSplit:sSplit.Out:=fun x k=>(Law.StepsOK x.1.steps∧Law.nowL x.1.steps≤x.2.1)∧k (⟨Law.splitL x.1.steps x.2.1,x.1.ver⟩,()) (((Law.splitAt x.1.steps x.2.1:Nat):Int),())
def sSame:Sig:=⟨[(.elem .step,false),(.elem .step,false)],[.bool]⟩
def oSame:sSame.Out:=fun x k=>k () (decide (x.1.Free=x.2.1.Free),())
def sCompact (f:FuncId):Sig:=⟨[(.row .step,false),(.fn f,false)],[.part .step]⟩
def oCompact (f:FuncId):(sCompact f).Out:=fun x k=>x.1.length≤1099511627776∧k () (Law.joinL x.1,())
def lCp1 (f:FuncId):LoopAnn:={X:=List Step × Int,live:=fun x=>[(0,.sl 0 2 0 x.1.length),(1,.fn f []),(5,.int .i64 x.2)],heap:=fun x=>[some (.row .step x.1)]}
def lCp2 (f:FuncId):LoopAnn:={X:=List Step × Int × Nat × Nat × Int,live:=fun x=>[(0,.sl 0 2 0 x.1.length),(1,.fn f []),(5,.int .i64 x.2.1),(6,.sl 0 2 x.2.2.1 x.2.2.2.1),(7,.int .i64 x.2.2.2.2)],heap:=fun x=>[some (.row .step x.1)]}
def sJoin1:Sig:=⟨[(.obj .prof,true)],[]⟩
def oJoin1:sJoin1.Out:=fun x k=>x.1.steps.length≤1099511627776∧k (⟨Law.joinL x.1.steps,x.1.ver⟩,()) ()
def sAdd:Sig:=⟨[(.obj .prof,true),(.int .i64,false),(.int .i64,false),(.int .i64,false)],[.int .i64]⟩
def oAdd:sAdd.Out:=fun x k=>(Law.PW x.1∧x.1.steps.length≤4294967290)∧k ((Law.addP x.1 x.2.1 x.2.2.1 x.2.2.2.1).2,()) ((Law.addP x.1 x.2.1 x.2.2.1 x.2.2.2.1).1,())
def lAdd:LoopAnn:={X:=List Step × Int × Int × Int × Int,live:=fun x=>[(0,.ptr ⟨0,0,0,0⟩),(3,.int .i64 x.2.2.1),(9,.int .i64 x.2.2.2.1),(10,.int .i64 x.2.2.2.2)],heap:=fun x=>[some (.obj .prof ⟨x.1,x.2.1⟩)],norm:=[.fold 0 .prof]}
def sRes:Sig:=⟨[(.obj .prof,true),(.elem .span,false)],[.int .i64]⟩
def oRel:sRes.Out:=fun x k=>(Law.PW x.1∧x.1.steps.length≤4294967290)∧k ((Law.addP x.1 x.2.1.From x.2.1.To x.2.1.Width).2,()) ((Law.addP x.1 x.2.1.From x.2.1.To x.2.1.Width).1,())
def oRes:sRes.Out:=fun x k=>(Law.PW x.1∧x.1.steps.length≤4294967290)∧k ((Law.addP x.1 x.2.1.From x.2.1.To (Law.wr (0-x.2.1.Width))).2,()) ((Law.addP x.1 x.2.1.From x.2.1.To (Law.wr (0-x.2.1.Width))).1,())
def sAdv:Sig:=⟨[(.obj .prof,true),(.int .i64,false)],[.int .i64]⟩
def oAdv:sAdv.Out:=fun x k=>Law.PW x.1∧k ((Law.advP x.1 x.2.1).2,()) ((Law.advP x.1 x.2.1).1,())
def sNewP:Sig:=⟨[(.int .i64,false)],[.opt .prof,.int .i64]⟩
def oNewP:sNewP.Out:=fun x k=>(1≤x.1∧x.1≤64)∧k () (some (Law.newP x.1),0,())
def sCloneB:Sig:=⟨[(.imm .job,false)],[.row .job]⟩
def oCloneB:sCloneB.Out:=fun x k=>x.1.length≤68719476736∧k () (x.1,())
def sNoneJ:Sig:=⟨[(.vopt .jobs,false)],[.bool]⟩
def oNoneJ:sNoneJ.Out:=fun x k=>k () (Law.noneJ x.1,())
def sNewJ:Sig:=⟨[],[.obj .jobs]⟩
def oNewJ:sNewJ.Out:=fun _ k=>k () (Law.newJs,())
def sAllJ:Sig:=⟨[(.view .jobs,false)],[.row .job]⟩
def oAllJ:sAllJ.Out:=fun x k=>Law.JW x.1∧k () (x.1.jobs,())
def sInJ:Sig:=⟨[(.view .jobs,false),(.imm .i64,false)],[.row .job]⟩
def oInJ:sInJ.Out:=fun x k=>(Law.JW x.1∧x.2.1.length≤1000)∧k () (Law.inJ x.1.jobs x.2.1,())
def lInJ:LoopAnn:={X:=List Int × List Job × List Job × Int,live:=fun x=>[(1,.imm .i64 x.1),(5,.sl 1 10 0 x.2.2.1.length),(9,.sl 0 10 0 x.2.1.length),(10,.int .i64 x.2.1.length),(11,.int .i64 x.2.2.2)],heap:=fun x=>[some (.row .job x.2.1),some (.row .job x.2.2.1)],norm:=[.home 9 0,.row 5 .job,.home 5 1]}
def oWaiting:sAllJ.Out:=fun x k=>Law.JW x.1∧k () (Law.sortJ (Law.inJ x.1.jobs [1]),())
def sCountsJ:Sig:=⟨[(.view .jobs,false)],[.int .i64,.int .i64,.int .i64]⟩
def oCountsJ:sCountsJ.Out:=fun x k=>Law.JW x.1∧k () (Law.cntJ x.1.jobs 1,Law.cntJ x.1.jobs 2,Law.cntJ x.1.jobs 3,())
def sGetJ:Sig:=⟨[(.view .jobs,false),(.int .i64,false)],[.elem .job,.int .i64]⟩
def oGetJ:sGetJ.Out:=fun x k=>Law.JW x.1∧k () ((Law.getJ x.1.jobs x.2.1).1,(Law.getJ x.1.jobs x.2.1).2,())
def sHoldJ:Sig:=⟨[(.obj .jobs,true),(.int .i64,false)],[.int .i64]⟩
def oHoldJ:sHoldJ.Out:=fun x k=>Law.JW x.1∧k ((Law.holdJ x.1 x.2.1).2,()) ((Law.holdJ x.1 x.2.1).1,())
def oFreeJ:sHoldJ.Out:=fun x k=>Law.JW x.1∧k ((Law.freeJ x.1 x.2.1).2,()) ((Law.freeJ x.1 x.2.1).1,())
def sPlanJ:Sig:=⟨[(.obj .jobs,true),(.int .i64,false),(.int .i64,false)],[.int .i64]⟩
def oPlanJ:sPlanJ.Out:=fun x k=>Law.JW x.1∧k ((Law.planJ x.1 x.2.1 x.2.2.1).2,()) ((Law.planJ x.1 x.2.1 x.2.2.1).1,())
def sBeginJ:Sig:=⟨[(.obj .jobs,true),(.int .i64,false),(.int .i64,false),(.int .u64,false)],[.int .i64]⟩
def oBeginJ:sBeginJ.Out:=fun x k=>Law.JW x.1∧k ((Law.beginJ x.1 x.2.1 x.2.2.1 x.2.2.2.1).2,()) ((Law.beginJ x.1 x.2.1 x.2.2.1 x.2.2.2.1).1,())
def sFinJ:Sig:=⟨[(.obj .jobs,true),(.int .i64,false),(.int .i64,false),(.int .i64,false)],[.int .i64]⟩
def oFinJ:sFinJ.Out:=fun x k=>Law.JW x.1∧k ((Law.finishJ x.1 x.2.1 x.2.2.1 x.2.2.2.1).2,()) ((Law.finishJ x.1 x.2.1 x.2.2.1 x.2.2.2.1).1,())
def sRightR:Sig:=⟨[(.elem .req,false)],[.int .i64]⟩
def oRightR:sRightR.Out:=fun x k=>k () (Law.rightR x.1,())
def sSubJ:Sig:=⟨[(.obj .jobs,true),(.elem .req,false)],[.int .i64,.int .i64]⟩
def oSubJ:sSubJ.Out:=fun x k=>Law.JW x.1∧k ((Law.submitJ x.1 x.2.1).2,()) ((Law.submitJ x.1 x.2.1).1.1,(Law.submitJ x.1 x.2.1).1.2,())
def sCopyJ:Sig:=⟨[(.view .jobs,false)],[.opt .jobs]⟩
def oCopyJ:sCopyJ.Out:=fun x k=>Law.JW x.1∧k () (some x.1,())
def sCmpB:Sig:=⟨[(.elem .job,false),(.elem .job,false)],[.int .i64]⟩
def oCmpB:sCmpB.Out:=fun x k=>k () (Law.cmpJ x.1 x.2.1,())
def sLessB:Sig:=⟨[(.elem .job,false),(.elem .job,false)],[.bool]⟩
def oLessB:sLessB.Out:=fun x k=>k () (Law.lessJ x.1 x.2.1,())
def sSortB (f:FuncId):Sig:=⟨[(.row .job,true),(.fn f,false)],[]⟩
def oSortB (f:FuncId):(sSortB f).Out:=fun x k=>Law.SmallJs x.1∧k (Law.sortJ x.1,()) ()
def sOrdS:Sig:=⟨[(.imm .job,false)],[.row .job]⟩
def oOrdS:sOrdS.Out:=fun x k=>Law.SmallJs x.1∧k () (Law.sortJ x.1,())
def sNoneN:Sig:=⟨[(.vopt .nodes,false)],[.bool]⟩
def oNoneN:sNoneN.Out:=fun x k=>k () (Law.noneN x.1,())
def sNInt:Sig:=⟨[(.view .nodes,false)],[.int .i64]⟩
def oSizeN:sNInt.Out:=fun x k=>Law.NW x.1∧k () (Law.lenS x.1.all,())
def sNSet:Sig:=⟨[(.view .nodes,false)],[.int .u64]⟩
def oIdleN:sNSet.Out:=fun x k=>Law.NW x.1∧k () (Law.idleN x.1,())
def oUsedN:sNSet.Out:=fun x k=>Law.NW x.1∧k () (x.1.used,())
def sStateN:Sig:=⟨[(.view .nodes,false),(.int .i64,false)],[.int .i64]⟩
def oStateN:sStateN.Out:=fun x k=>Law.NW x.1∧k () (Law.stateN x.1 x.2.1,())
def sCountsN:Sig:=⟨[(.view .nodes,false)],[.int .i64,.int .i64,.int .i64]⟩
def oCountsN:sCountsN.Out:=fun x k=>Law.NW x.1∧k () (Law.lenS (Law.idleN x.1),Law.lenS x.1.used,Law.lenS (Law.minusS x.1.drain x.1.used),())
def sTakeN:Sig:=⟨[(.obj .nodes,true),(.int .i64,false)],[.int .u64,.int .i64]⟩
def oTakeN:sTakeN.Out:=fun x k=>Law.NW x.1∧k ((Law.takeN x.1 x.2.1).2,()) ((Law.takeN x.1 x.2.1).1.1,(Law.takeN x.1 x.2.1).1.2,())
def sGiveN:Sig:=⟨[(.obj .nodes,true),(.int .u64,false)],[.int .i64,.int .i64]⟩
def oGiveN:sGiveN.Out:=fun x k=>(Law.NW x.1∧Law.U64 x.2.1)∧k ((Law.giveN x.1 x.2.1).2,()) ((Law.giveN x.1 x.2.1).1.1,(Law.giveN x.1 x.2.1).1.2,())
def sDrainN:Sig:=⟨[(.obj .nodes,true),(.int .i64,false)],[.int .i64]⟩
def oDrainN:sDrainN.Out:=fun x k=>Law.NW x.1∧k ((Law.drainN x.1 x.2.1).2,()) ((Law.drainN x.1 x.2.1).1,())
def oResumeN:sDrainN.Out:=fun x k=>Law.NW x.1∧k ((Law.resumeN x.1 x.2.1).2,()) ((Law.resumeN x.1 x.2.1).1,())
def sCopyN:Sig:=⟨[(.view .nodes,false)],[.opt .nodes]⟩
def oCopyN:sCopyN.Out:=fun x k=>Law.NW x.1∧k () (some x.1,())
def sNewN:Sig:=⟨[(.int .i64,false)],[.opt .nodes,.int .i64]⟩
def oNewN:sNewN.Out:=fun x k=>((x.1<1∨64<x.1)→k () (none,1,()))∧(1≤x.1∧x.1≤64→k () (some (Law.newN x.1),0,()))
def sFailR:Sig:=⟨[(.int .i64,false)],[.elem .reply]⟩
def oFailR:sFailR.Out:=fun x k=>k () (Law.failR x.1,())
def sTellR:Sig:=⟨[(.elem .job,false)],[.elem .reply]⟩
def oTellR:sTellR.Out:=fun x k=>k () (Law.tellR x.1,())
def sThreeR:Sig:=⟨[(.int .i64,false),(.int .i64,false),(.int .i64,false)],[.elem .reply]⟩
def oThreeR:sThreeR.Out:=fun x k=>k () (Law.threeR x.1 x.2.1 x.2.2.1,())
def sCleanR:Sig:=⟨[(.elem .req,false)],[.elem .req]⟩
def oCleanR:sCleanR.Out:=fun x k=>k () (Law.cleanR x.1,())
def sNoneC:Sig:=⟨[(.vopt .core,false)],[.bool]⟩
def oNoneC:sNoneC.Out:=fun x k=>k () (Law.noneC x.1,())
def oClosedC:sNoneC.Out:=fun x k=>k () (Law.closedC x.1,())
def sNewC:Sig:=⟨[(.int .i64,false)],[.opt .core,.int .i64]⟩
def oNewC:sNewC.Out:=fun x k=>((x.1<1∨64<x.1)→k () (none,1,()))∧(1≤x.1∧x.1≤64→k () (some (Law.newCore x.1),0,()))
def sTwinC:Sig:=⟨[(.view .core,false)],[.opt .core]⟩
def oTwinC:sTwinC.Out:=fun x k=>Law.CW x.1∧k () (some x.1,())
def sPlanS:Sig:=⟨[(.elem .job,false)],[.elem .span,.bool]⟩
def oPlanS:sPlanS.Out:=fun x k=>k () ((Law.planS x.1).1,(Law.planS x.1).2,())
def sSpansC:Sig:=⟨[(.view .core,false)],[.row .span]⟩
def oSpansC:sSpansC.Out:=fun x k=>Law.CW x.1∧k () (Law.spansC x.1.J.jobs,())
def lSpansC:LoopAnn:={X:=List Job × List Span × Int,live:=fun x=>[(3,.sl 2 3 0 x.2.1.length),(15,.sl 1 10 0 x.1.length),(16,.int .i64 x.1.length),(17,.int .i64 x.2.2)],heap:=fun x=>[none,some (.row .job x.1),some (.row .span x.2.1)],norm:=[.row 3 .span,.home 3 2]}
def sHolderC:Sig:=⟨[(.view .core,false),(.int .i64,false)],[.elem .job]⟩
def oHolderC:sHolderC.Out:=fun x k=>Law.CW x.1∧k () (Law.holderJ x.1.J.jobs x.2.1,())
def lHolderC:LoopAnn:={X:=List Job × Int × Int,live:=fun x=>[(1,.int .i64 x.2.1),(4,.ptr ⟨0,0,0,0⟩),(15,.sl 2 10 0 x.1.length),(16,.int .i64 x.1.length),(17,.int .i64 x.2.2)],heap:=fun x=>[some (.raw [.int .i64 0,.int .i64 0,.int .i64 0,.int .i64 0,.int .i64 0,.int .i64 0,.int .i64 0,.int .i64 0,.int .i64 0,.int .u64 0]),none,some (.row .job x.1)]}
def sToldC:Sig:=⟨[(.view .core,false),(.int .i64,false)],[.elem .reply]⟩
def oToldC:sToldC.Out:=fun x k=>Law.CW x.1∧k () (Law.toldC x.1 x.2.1,())
def sWantsC:Sig:=⟨[(.view .core,false),(.elem .req,false)],[.int .i64]⟩
def oWantsC:sWantsC.Out:=fun x k=>Law.CW x.1∧k () (Law.wantsC x.1 x.2.1,())
def sUntilC:Sig:=⟨[(.view .core,false),(.int .i64,false)],[.int .i64]⟩
def oUntilC:sUntilC.Out:=fun x k=>Law.CW x.1∧k () (Law.untilC x.1 x.2.1,())
def sNextC:Sig:=⟨[(.view .core,false)],[.int .i64]⟩
def oNextC:sNextC.Out:=fun x k=>Law.CW x.1∧k () (Law.nextC x.1,())
def lNx1:LoopAnn:={X:=Core × List Job × Int × Int,live:=fun x=>[(0,.cptr ((OK.unf .core x.1).map (viewFld 8)) 0),(3,.int .i64 x.2.2.1),(13,.sl 1 10 0 x.2.1.length),(14,.int .i64 x.2.1.length),(15,.int .i64 x.2.2.2)],heap:=fun x=>[none,some (.row .job x.2.1)]}
def lNx2:LoopAnn:={X:=List Span × Int × Int,live:=fun x=>[(3,.int .i64 x.2.1),(26,.sl 2 3 0 x.1.length),(27,.int .i64 x.1.length),(28,.int .i64 x.2.2)],heap:=fun x=>[none,none,some (.row .span x.1)]}
def sTimeC:Sig:=⟨[(.obj .core,true)],[]⟩
def oTimeC:sTimeC.Out:=fun x k=>Law.CW x.1∧k (Law.timeoutsC x.1,()) ()
def lTimeC:LoopAnn:={X:=Core × List Job × Int,live:=fun x=>[(0,.ptr ⟨0,0,0,0⟩),(9,.sl 1 10 0 x.2.1.length),(10,.int .i64 x.2.1.length),(11,.int .i64 x.2.2)],heap:=fun x=>[some (.obj .core x.1),some (.row .job x.2.1)],norm:=[.fold 0 .core,.home 9 1]}
def oBeginsC:sTimeC.Out:=fun x k=>Law.CW x.1∧k (Law.beginsC x.1,()) ()
def lBeginsC:LoopAnn:={X:=Core × List Job × Int,live:=fun x=>[(0,.ptr ⟨0,0,0,0⟩),(8,.sl 1 10 0 x.2.1.length),(9,.int .i64 x.2.1.length),(10,.int .i64 x.2.2)],heap:=fun x=>[some (.obj .core x.1),some (.row .job x.2.1)],norm:=[.fold 0 .core,.home 8 1]}
def sBeginC:Sig:=⟨[(.obj .core,true),(.elem .job,false)],[]⟩
def oBeginC:sBeginC.Out:=fun x k=>Law.CW x.1∧k (Law.beginC x.1 x.2.1,()) ()
def sFitsC:Sig:=⟨[(.view .core,false),(.elem .choice,false)],[.bool]⟩
def oFitsC:sFitsC.Out:=fun x k=>(Law.CW x.1∧x.1.P.steps.length≤4294967290)∧k () (Law.fitsC x.1 x.2.1,())
def sNewW:Sig:=⟨[(.elem .req,false)],[.obj .work]⟩
def oNewW:sNewW.Out:=fun x k=>k () (Law.newW x.1,())
def sNewX:Sig:=⟨[(.elem .choice,false)],[.obj .work]⟩
def oNewX:sNewX.Out:=fun x k=>k () (Law.newX x.1,())
def sDoneW:Sig:=⟨[(.vopt .work,false)],[.bool]⟩
def oDoneW:sDoneW.Out:=fun x k=>k () (Law.doneW x.1,())
def sRepW:Sig:=⟨[(.view .work,false)],[.elem .reply]⟩
def oRepW:sRepW.Out:=fun x k=>k () (x.1.reply,())
def sOkW:Sig:=⟨[(.view .work,false)],[.bool]⟩
def oOkW:sOkW.Out:=fun x k=>k () (x.1.ok,())
def sEndW:Sig:=⟨[(.obj .work,true),(.elem .reply,false)],[]⟩
def oEndW:sEndW.Out:=fun x k=>k (Law.endW x.1 x.2.1,()) ()
def sFailW:Sig:=⟨[(.obj .work,true),(.int .i64,false)],[]⟩
def oFailW:sFailW.Out:=fun x k=>k (Law.failW x.1 x.2.1,()) ()
def sWC:Sig:=⟨[(.obj .work,true),(.obj .core,true)],[]⟩
def sWCb:Sig:=⟨[(.obj .work,true),(.obj .core,true)],[.bool]⟩
def PreW (w:Work) (c:Core):Prop:=Law.CW c∧Law.WW w∧c.P.steps.length≤4294967280
def oDropW:sWCb.Out:=fun x k=>PreW x.1 x.2.1∧k ((Law.dropW x.1 x.2.1).2.1,(Law.dropW x.1 x.2.1).2.2,()) ((Law.dropW x.1 x.2.1).1,())
def lDropW:LoopAnn:={X:=Work × Core × List Job × Int,live:=fun x=>[(0,.ptr ⟨0,0,0,0⟩),(1,.ptr ⟨1,0,0,0⟩),(14,.sl 2 10 0 x.2.2.1.length),(15,.int .i64 x.2.2.1.length),(16,.int .i64 x.2.2.2)],heap:=fun x=>[some (.obj .work x.1),some (.obj .core x.2.1),some (.row .job x.2.2.1)],norm:=[.fold 0 .work,.fold 1 .core,.home 14 2]}
def oUnplan:sWC.Out:=fun x k=>PreW x.1 x.2.1∧k (x.1,Law.unplanC x.1 x.2.1,()) ()
def oW2 (f:Work→Core→Work × Core):sWC.Out:=fun x k=>PreW x.1 x.2.1∧k ((f x.1 x.2.1).1,(f x.1 x.2.1).2,()) ()
def oStepW:sWCb.Out:=fun x k=>PreW x.1 x.2.1∧k ((Law.stepW x.1 x.2.1).1,(Law.stepW x.1 x.2.1).2,()) ((Law.stepW x.1 x.2.1).1.done,())
end Go.Ax.Sp
