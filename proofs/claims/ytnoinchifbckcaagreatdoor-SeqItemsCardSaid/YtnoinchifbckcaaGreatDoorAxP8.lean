import Derived.Test.YtnoinchifbckcaaGreatDoorAxI
import Derived.Shelf.Spec.TrailingZeros
import Derived.Lib.LaidTab
set_option linter.all false
namespace Go.Ax.Law
def Rising (l:List Step):Prop:=l.Pairwise fun a b=>a.At<b.At
def StepsOK (l:List Step):Prop:=l≠[]∧Rising l∧l.length≤4294967296
def PW (p:Prof):Prop:=StepsOK p.steps
def IdsOK (l:List Job):Prop:= ∀(i:Nat) (j:Job),l[i]? =some j→j.Id=(i:Int)+1∧U64 j.Nodes
def JW (t:Jobs):Prop:=t.made=true∧t.jobs.length≤1024∧IdsOK t.jobs
def NW (t:Nodes):Prop:=U64 t.all∧U64 t.used∧U64 t.drain∧t.all≠0
def CW (c:Core):Prop:=JW c.J∧NW c.N∧PW c.P
def noneJ:Option Jobs→Bool
 |none=>true
 |some t=>!t.made
def noneN:Option Nodes→Bool
 |none=>true
 |some t=>decide (t.all=0)
def noneP:Option Prof→Bool
 |none=>true
 |some p=>p.steps.isEmpty
def noneC:Option Core→Bool
 |none=>true
 |some _=>false
def closedC:Option Core→Bool
 |none=>true
 |some c=>c.closed
def doneW:Option Work→Bool
 |none=>true
 |some w=>w.done
def idxI (l:List Int) (v:Int):Int:=match l.findIdx? fun x=>decide (x=v) with |some i=>(i:Int) |none=> -1
def orI (l:List Int):Int:=match l.find? fun x=>decide (x≠0) with |some v=>v |none=>0
def leastI (l:List Int):Int:=l.foldl (fun a b=>min a b) 1152921504606846976
def aheadL (l:List Step) (t:Int):Nat:=l.countP fun s=>decide (s.At<t)
def cmpS (a t:Int):Int:=if a<t then-1 else if a>t then 1 else 0
def SmallJs (l:List Job):Prop:=(∀j∈l,-9223372036854775808≤j.Id∧j.Id≤9223372036854775807)∧l.length≤1048576
def newN (n:Int):Nodes:=⟨allS n,0,0⟩
def newP (n:Int):Prof:=⟨[⟨0,n⟩],0⟩
def newJs:Jobs:=⟨[],0,true⟩
def newCore (n:Int):Core:=⟨newJs,newN n,newP n,false⟩
def WW (w:Work):Prop:=U64 w.job.Nodes
end Go.Ax.Law
namespace Go.Ax.Sp
def sIdxI:Sig:=⟨[(.imm .i64,false),(.int .i64,false)],[.int .i64]⟩
def oIdxI:sIdxI.Out:=fun x k=>x.1.length≤1099511627776∧k () (Law.idxI x.1 x.2.1,())
def lIdxI:LoopAnn:={X:=List Int × Int × Int,live:=fun x=>[(0,.imm .i64 x.1),(1,.int .i64 x.2.1),(7,.int .i64 x.1.length),(8,.int .i64 x.2.2)],heap:=fun _=>[]}
def sConI:Sig:=⟨[(.imm .i64,false),(.int .i64,false)],[.bool]⟩
def oConI:sConI.Out:=fun x k=>x.1.length≤1099511627776∧k () (x.1.contains x.2.1,())
def sOrI:Sig:=⟨[(.imm .i64,false)],[.int .i64]⟩
def oOrI:sOrI.Out:=fun x k=>x.1.length≤1099511627776∧k () (Law.orI x.1,())
def lOrI:LoopAnn:={X:=List Int × Int,live:=fun x=>[(3,.int .i64 0),(6,.imm .i64 x.1),(7,.int .i64 x.1.length),(8,.int .i64 x.2)],heap:=fun _=>[]}
def sNum1:Sig:=⟨[(.int .i64,false)],[.bool]⟩
def oNaN:sNum1.Out:=fun _ k=>k () (false,())
def sNum2:Sig:=⟨[(.int .i64,false),(.int .i64,false)],[.int .i64]⟩
def oCmpI:sNum2.Out:=fun x k=>k () (Law.cmpI x.1 x.2.1,())
def oLeastI:sOrI.Out:=fun x k=>x.1.length≤1099511627776∧k () (Law.leastI x.1,())
def lLeastI:LoopAnn:={X:=List Int × Int × Int,live:=fun x=>[(3,.int .i64 x.2.1),(6,.imm .i64 x.1),(7,.int .i64 x.1.length),(8,.int .i64 x.2.2)],heap:=fun _=>[]}
def sSet1:Sig:=⟨[(.int .u64,false)],[.int .i64]⟩
def oOnes:sSet1.Out:=fun x k=>Law.U64 x.1∧k () (Law.lenS x.1,())
def oTZ:sSet1.Out:=fun x k=>Law.U64 x.1∧k () (((Lib.ctz 64 x.1.toNat:Nat):Int),())
def oLow:sSet1.Out:=fun x k=>Law.U64 x.1∧k () (Law.lowS x.1,())
def sHas:Sig:=⟨[(.int .u64,false),(.int .i64,false)],[.bool]⟩
def oHas:sHas.Out:=fun x k=>Law.U64 x.1∧k () (Law.hasB x.1 x.2.1,())
def sWith:Sig:=⟨[(.int .u64,false),(.int .i64,false)],[.int .u64]⟩
def oWith:sWith.Out:=fun x k=>Law.U64 x.1∧k () (Law.withS x.1 x.2.1,())
def oWithout:sWith.Out:=fun x k=>Law.U64 x.1∧k () (Law.withoutS x.1 x.2.1,())
def sAllS:Sig:=⟨[(.int .i64,false)],[.int .u64]⟩
def oAllS:sAllS.Out:=fun x k=>k () (Law.allS x.1,())
def sFirst:Sig:=⟨[(.int .u64,false),(.int .i64,false)],[.int .u64,.bool]⟩
def oFirst:sFirst.Out:=fun x k=>Law.U64 x.1∧k () ((Law.firstS x.1 x.2.1).1,(Law.firstS x.1 x.2.1).2,())
def lFirst:LoopAnn:={X:=Int × Int × Int × Int,live:=fun x=>[(0,.int .u64 x.1),(6,.int .u64 x.2.1),(16,.int .i64 x.2.2.1),(17,.int .i64 x.2.2.2)],heap:=fun _=>[]}
def sCloneT:Sig:=⟨[(.imm .step,false)],[.row .step]⟩
def oCloneT:sCloneT.Out:=fun x k=>x.1.length≤68719476736∧k () (x.1,())
def sNoneP:Sig:=⟨[(.vopt .prof,false)],[.bool]⟩
def oNoneP:sNoneP.Out:=fun x k=>k () (Law.noneP x.1,())
def sPInt:Sig:=⟨[(.view .prof,false)],[.int .i64]⟩
def oNow:sPInt.Out:=fun x k=>Law.PW x.1∧k () (Law.nowL x.1.steps,())
def sPSteps:Sig:=⟨[(.view .prof,false)],[.row .step]⟩
def oPSteps:sPSteps.Out:=fun x k=>Law.PW x.1∧k () (x.1.steps,())
def sPCopy:Sig:=⟨[(.view .prof,false)],[.opt .prof]⟩
def oPCopy:sPCopy.Out:=fun x k=>Law.PW x.1∧k () (some x.1,())
def sCmpS:Sig:=⟨[(.elem .step,false),(.int .i64,false)],[.int .i64]⟩
def oCmpS:sCmpS.Out:=fun x k=>k () (Law.cmpS x.1.At x.2.1,())
def sBin (f:FuncId):Sig:=⟨[(.imm .step,false),(.int .i64,false),(.fn f,false)],[.int .i64,.bool]⟩
def oBin (f:FuncId):(sBin f).Out:=fun x k=>(Law.Rising x.1∧x.1.length≤1099511627776)∧k () (((Law.aheadL x.1 x.2.1:Nat):Int),x.1.any (fun s=>decide (s.At=x.2.1)),())
def lBin (f:FuncId):LoopAnn:={X:=List Step × Int × Int × Int,live:=fun x=>[(0,.imm .step x.1),(1,.int .i64 x.2.1),(2,.fn f []),(8,.int .i64 x.1.length),(9,.int .i64 x.2.2.1),(10,.int .i64 x.2.2.2)],heap:=fun _=>[]}
def sIndex:Sig:=⟨[(.view .prof,false),(.int .i64,false)],[.int .i64]⟩
def oIndex:sIndex.Out:=fun x k=>Law.PW x.1∧k () (((Law.idxL x.1.steps x.2.1:Nat):Int),())
def oFree:sIndex.Out:=fun x k=>Law.PW x.1∧k () (Law.freeL x.1.steps x.2.1,())
def sLeast:Sig:=⟨[(.view .prof,false),(.int .i64,false),(.int .i64,false)],[.int .i64]⟩
def oLeast:sLeast.Out:=fun x k=>Law.PW x.1∧k () (Law.leastL x.1.steps x.2.1 x.2.2.1,())
def lLeast:LoopAnn:={X:=List Step × Int × Int × Int,live:=fun x=>[(2,.int .i64 x.2.1),(7,.int .i64 x.2.2.1),(27,.imm .step x.1),(28,.int .i64 x.1.length),(29,.int .i64 x.2.2.2)],heap:=fun _=>[]}
def oMost:sLeast.Out:=fun x k=>Law.PW x.1∧k () (Law.mostL x.1.steps x.2.1 x.2.2.1,())
def lMost:LoopAnn:={X:=List Step × Int × Int × Int,live:=fun x=>[(2,.int .i64 x.2.1),(7,.int .i64 x.2.2.1),(17,.imm .step x.1),(18,.int .i64 x.1.length),(19,.int .i64 x.2.2.2)],heap:=fun _=>[]}
def sInsT:Sig:=⟨[(.row .step,false),(.int .i64,false),(.row .step,true)],[.part .step]⟩
def oInsT:sInsT.Out:=fun x k=>(0<x.2.1∧x.2.1≤(x.1.length:Int)∧x.1.length≤8589934592∧x.2.2.1.length=1)∧k (x.2.2.1,()) (x.1.take x.2.1.toNat++x.2.2.1++x.1.drop x.2.1.toNat,())
def sSplit:Sig:=⟨[(.obj .prof,true),(.int .i64,false)],[.int .i64]⟩
def oSplit:sSplit.Out:=fun x k=>(Law.StepsOK x.1.steps∧Law.nowL x.1.steps≤x.2.1)∧k (⟨Law.splitL x.1.steps x.2.1,x.1.ver⟩,()) (((Law.splitAt x.1.steps x.2.1:Nat):Int),())
def sSame:Sig:=⟨[(.elem .step,false),(.elem .step,false)],[.bool]⟩
def oSame:sSame.Out:=fun x k=>k () (decide (x.1.Free=x.2.1.Free),())
def sCompact (f:FuncId):Sig:=⟨[(.row .step,false),(.fn f,false)],[.part .step]⟩
def oCompact (f:FuncId):(sCompact f).Out:=fun x k=>x.1.length≤1099511627776∧k () (Law.joinL x.1,())
def lCp1 (f:FuncId):LoopAnn:={X:=List Step × Int,live:=fun x=>[(0,.sl 0 2 0 x.1.length),(1,.fn f []),(5,.int .i64 x.2)],heap:=fun x=>[some (.row .step x.1)]}
def lCp2 (f:FuncId):LoopAnn:={X:=List Step × Int × Nat × Nat × Int,live:=fun x=>[(0,.sl 0 2 0 x.1.length),(1,.fn f []),(5,.int .i64 x.2.1),(6,.sl 0 2 x.2.2.1 x.2.2.2.1),(7,.int .i64 x.2.2.2.2)],heap:=fun x=>[some (.row .step x.1)]}
def sJoin1:Sig:=⟨[(.obj .prof,true)],[]⟩
def oJoin1:sJoin1.Out:=fun x k=>x.1.steps.length≤1099511627776∧k (⟨Law.joinL x.1.steps,x.1.ver⟩,()) ()
def sAdd:Sig:=⟨[(.obj .prof,true),(.int .i64,false),(.int .i64,false),(.int .i64,false)],[.int .i64]⟩
def oAdd:sAdd.Out:=fun x k=>(Law.PW x.1∧x.1.steps.length≤4294967290)∧k ((Law.addP x.1 x.2.1 x.2.2.1 x.2.2.2.1).2,()) ((Law.addP x.1 x.2.1 x.2.2.1 x.2.2.2.1).1,())
def lAdd:LoopAnn:={X:=List Step × Int × Int × Int × Int,live:=fun x=>[(0,.ptr ⟨0,0,0,0⟩),(3,.int .i64 x.2.2.1),(9,.int .i64 x.2.2.2.1),(10,.int .i64 x.2.2.2.2)],heap:=fun x=>[some (.obj .prof ⟨x.1,x.2.1⟩)],norm:=[.fold 0 .prof]}
def sRes:Sig:=⟨[(.obj .prof,true),(.elem .span,false)],[.int .i64]⟩
def oRel:sRes.Out:=fun x k=>(Law.PW x.1∧x.1.steps.length≤4294967290)∧k ((Law.addP x.1 x.2.1.From x.2.1.To x.2.1.Width).2,()) ((Law.addP x.1 x.2.1.From x.2.1.To x.2.1.Width).1,())
def oRes:sRes.Out:=fun x k=>(Law.PW x.1∧x.1.steps.length≤4294967290)∧k ((Law.addP x.1 x.2.1.From x.2.1.To (Law.wr (0-x.2.1.Width))).2,()) ((Law.addP x.1 x.2.1.From x.2.1.To (Law.wr (0-x.2.1.Width))).1,())
def sAdv:Sig:=⟨[(.obj .prof,true),(.int .i64,false)],[.int .i64]⟩
def oAdv:sAdv.Out:=fun x k=>Law.PW x.1∧k ((Law.advP x.1 x.2.1).2,()) ((Law.advP x.1 x.2.1).1,())
def sNewP:Sig:=⟨[(.int .i64,false)],[.opt .prof,.int .i64]⟩
def oNewP:sNewP.Out:=fun x k=>(1≤x.1∧x.1≤64)∧k () (some (Law.newP x.1),0,())
def sCloneB:Sig:=⟨[(.imm .job,false)],[.row .job]⟩
def oCloneB:sCloneB.Out:=fun x k=>x.1.length≤68719476736∧k () (x.1,())
def sNoneJ:Sig:=⟨[(.vopt .jobs,false)],[.bool]⟩
def oNoneJ:sNoneJ.Out:=fun x k=>k () (Law.noneJ x.1,())
def sNewJ:Sig:=⟨[],[.obj .jobs]⟩
def oNewJ:sNewJ.Out:=fun _ k=>k () (Law.newJs,())
def sAllJ:Sig:=⟨[(.view .jobs,false)],[.row .job]⟩
def oAllJ:sAllJ.Out:=fun x k=>Law.JW x.1∧k () (x.1.jobs,())
def sInJ:Sig:=⟨[(.view .jobs,false),(.imm .i64,false)],[.row .job]⟩
def oInJ:sInJ.Out:=fun x k=>(Law.JW x.1∧x.2.1.length≤1000)∧k () (Law.inJ x.1.jobs x.2.1,())
def lInJ:LoopAnn:={X:=List Int × List Job × List Job × Int,live:=fun x=>[(1,.imm .i64 x.1),(5,.sl 1 10 0 x.2.2.1.length),(9,.sl 0 10 0 x.2.1.length),(10,.int .i64 x.2.1.length),(11,.int .i64 x.2.2.2)],heap:=fun x=>[some (.row .job x.2.1),some (.row .job x.2.2.1)],norm:=[.home 9 0,.row 5 .job,.home 5 1]}
def oWaiting:sAllJ.Out:=fun x k=>Law.JW x.1∧k () (Law.sortJ (Law.inJ x.1.jobs [1]),())
def sCountsJ:Sig:=⟨[(.view .jobs,false)],[.int .i64,.int .i64,.int .i64]⟩
def oCountsJ:sCountsJ.Out:=fun x k=>Law.JW x.1∧k () (Law.cntJ x.1.jobs 1,Law.cntJ x.1.jobs 2,Law.cntJ x.1.jobs 3,())
def sGetJ:Sig:=⟨[(.view .jobs,false),(.int .i64,false)],[.elem .job,.int .i64]⟩
def oGetJ:sGetJ.Out:=fun x k=>Law.JW x.1∧k () ((Law.getJ x.1.jobs x.2.1).1,(Law.getJ x.1.jobs x.2.1).2,())
def sHoldJ:Sig:=⟨[(.obj .jobs,true),(.int .i64,false)],[.int .i64]⟩
def oHoldJ:sHoldJ.Out:=fun x k=>Law.JW x.1∧k ((Law.holdJ x.1 x.2.1).2,()) ((Law.holdJ x.1 x.2.1).1,())
def oFreeJ:sHoldJ.Out:=fun x k=>Law.JW x.1∧k ((Law.freeJ x.1 x.2.1).2,()) ((Law.freeJ x.1 x.2.1).1,())
def sPlanJ:Sig:=⟨[(.obj .jobs,true),(.int .i64,false),(.int .i64,false)],[.int .i64]⟩
def oPlanJ:sPlanJ.Out:=fun x k=>Law.JW x.1∧k ((Law.planJ x.1 x.2.1 x.2.2.1).2,()) ((Law.planJ x.1 x.2.1 x.2.2.1).1,())
def sBeginJ:Sig:=⟨[(.obj .jobs,true),(.int .i64,false),(.int .i64,false),(.int .u64,false)],[.int .i64]⟩
def oBeginJ:sBeginJ.Out:=fun x k=>Law.JW x.1∧k ((Law.beginJ x.1 x.2.1 x.2.2.1 x.2.2.2.1).2,()) ((Law.beginJ x.1 x.2.1 x.2.2.1 x.2.2.2.1).1,())
def sFinJ:Sig:=⟨[(.obj .jobs,true),(.int .i64,false),(.int .i64,false),(.int .i64,false)],[.int .i64]⟩
def oFinJ:sFinJ.Out:=fun x k=>Law.JW x.1∧k ((Law.finishJ x.1 x.2.1 x.2.2.1 x.2.2.2.1).2,()) ((Law.finishJ x.1 x.2.1 x.2.2.1 x.2.2.2.1).1,())
def sRightR:Sig:=⟨[(.elem .req,false)],[.int .i64]⟩
def oRightR:sRightR.Out:=fun x k=>k () (Law.rightR x.1,())
def sSubJ:Sig:=⟨[(.obj .jobs,true),(.elem .req,false)],[.int .i64,.int .i64]⟩
def oSubJ:sSubJ.Out:=fun x k=>Law.JW x.1∧k ((Law.submitJ x.1 x.2.1).2,()) ((Law.submitJ x.1 x.2.1).1.1,(Law.submitJ x.1 x.2.1).1.2,())
def sCopyJ:Sig:=⟨[(.view .jobs,false)],[.opt .jobs]⟩
def oCopyJ:sCopyJ.Out:=fun x k=>Law.JW x.1∧k () (some x.1,())
def sCmpB:Sig:=⟨[(.elem .job,false),(.elem .job,false)],[.int .i64]⟩
def oCmpB:sCmpB.Out:=fun x k=>k () (Law.cmpJ x.1 x.2.1,())
def sLessB:Sig:=⟨[(.elem .job,false),(.elem .job,false)],[.bool]⟩
def oLessB:sLessB.Out:=fun x k=>k () (Law.lessJ x.1 x.2.1,())
def sSortB (f:FuncId):Sig:=⟨[(.row .job,true),(.fn f,false)],[]⟩
def oSortB (f:FuncId):(sSortB f).Out:=fun x k=>Law.SmallJs x.1∧k (Law.sortJ x.1,()) ()
def sOrdS:Sig:=⟨[(.imm .job,false)],[.row .job]⟩
def oOrdS:sOrdS.Out:=fun x k=>Law.SmallJs x.1∧k () (Law.sortJ x.1,())
def sNoneN:Sig:=⟨[(.vopt .nodes,false)],[.bool]⟩
def oNoneN:sNoneN.Out:=fun x k=>k () (Law.noneN x.1,())
def sNInt:Sig:=⟨[(.view .nodes,false)],[.int .i64]⟩
def oSizeN:sNInt.Out:=fun x k=>Law.NW x.1∧k () (Law.lenS x.1.all,())
def sNSet:Sig:=⟨[(.view .nodes,false)],[.int .u64]⟩
def oIdleN:sNSet.Out:=fun x k=>Law.NW x.1∧k () (Law.idleN x.1,())
def oUsedN:sNSet.Out:=fun x k=>Law.NW x.1∧k () (x.1.used,())
def sStateN:Sig:=⟨[(.view .nodes,false),(.int .i64,false)],[.int .i64]⟩
def oStateN:sStateN.Out:=fun x k=>Law.NW x.1∧k () (Law.stateN x.1 x.2.1,())
def sCountsN:Sig:=⟨[(.view .nodes,false)],[.int .i64,.int .i64,.int .i64]⟩
def oCountsN:sCountsN.Out:=fun x k=>Law.NW x.1∧k () (Law.lenS (Law.idleN x.1),Law.lenS x.1.used,Law.lenS (Law.minusS x.1.drain x.1.used),())
def sTakeN:Sig:=⟨[(.obj .nodes,true),(.int .i64,false)],[.int .u64,.int .i64]⟩
def oTakeN:sTakeN.Out:=fun x k=>Law.NW x.1∧k ((Law.takeN x.1 x.2.1).2,()) ((Law.takeN x.1 x.2.1).1.1,(Law.takeN x.1 x.2.1).1.2,())
def sGiveN:Sig:=⟨[(.obj .nodes,true),(.int .u64,false)],[.int .i64,.int .i64]⟩
def oGiveN:sGiveN.Out:=fun x k=>(Law.NW x.1∧Law.U64 x.2.1)∧k ((Law.giveN x.1 x.2.1).2,()) ((Law.giveN x.1 x.2.1).1.1,(Law.giveN x.1 x.2.1).1.2,())
def sDrainN:Sig:=⟨[(.obj .nodes,true),(.int .i64,false)],[.int .i64]⟩
def oDrainN:sDrainN.Out:=fun x k=>Law.NW x.1∧k ((Law.drainN x.1 x.2.1).2,()) ((Law.drainN x.1 x.2.1).1,())
def oResumeN:sDrainN.Out:=fun x k=>Law.NW x.1∧k ((Law.resumeN x.1 x.2.1).2,()) ((Law.resumeN x.1 x.2.1).1,())
def sCopyN:Sig:=⟨[(.view .nodes,false)],[.opt .nodes]⟩
def oCopyN:sCopyN.Out:=fun x k=>Law.NW x.1∧k () (some x.1,())
def sNewN:Sig:=⟨[(.int .i64,false)],[.opt .nodes,.int .i64]⟩
def oNewN:sNewN.Out:=fun x k=>((x.1<1∨64<x.1)→k () (none,1,()))∧(1≤x.1∧x.1≤64→k () (some (Law.newN x.1),0,()))
def sFailR:Sig:=⟨[(.int .i64,false)],[.elem .reply]⟩
def oFailR:sFailR.Out:=fun x k=>k () (Law.failR x.1,())
def sTellR:Sig:=⟨[(.elem .job,false)],[.elem .reply]⟩
def oTellR:sTellR.Out:=fun x k=>k () (Law.tellR x.1,())
def sThreeR:Sig:=⟨[(.int .i64,false),(.int .i64,false),(.int .i64,false)],[.elem .reply]⟩
def oThreeR:sThreeR.Out:=fun x k=>k () (Law.threeR x.1 x.2.1 x.2.2.1,())
def sCleanR:Sig:=⟨[(.elem .req,false)],[.elem .req]⟩
def oCleanR:sCleanR.Out:=fun x k=>k () (Law.cleanR x.1,())
def sNoneC:Sig:=⟨[(.vopt .core,false)],[.bool]⟩
def oNoneC:sNoneC.Out:=fun x k=>k () (Law.noneC x.1,())
def oClosedC:sNoneC.Out:=fun x k=>k () (Law.closedC x.1,())
def sNewC:Sig:=⟨[(.int .i64,false)],[.opt .core,.int .i64]⟩
def oNewC:sNewC.Out:=fun x k=>((x.1<1∨64<x.1)→k () (none,1,()))∧(1≤x.1∧x.1≤64→k () (some (Law.newCore x.1),0,()))
def sTwinC:Sig:=⟨[(.view .core,false)],[.opt .core]⟩
def oTwinC:sTwinC.Out:=fun x k=>Law.CW x.1∧k () (some x.1,())
def sPlanS:Sig:=⟨[(.elem .job,false)],[.elem .span,.bool]⟩
def oPlanS:sPlanS.Out:=fun x k=>k () ((Law.planS x.1).1,(Law.planS x.1).2,())
def sSpansC:Sig:=⟨[(.view .core,false)],[.row .span]⟩
def oSpansC:sSpansC.Out:=fun x k=>Law.CW x.1∧k () (Law.spansC x.1.J.jobs,())
def lSpansC:LoopAnn:={X:=List Job × List Span × Int,live:=fun x=>[(3,.sl 2 3 0 x.2.1.length),(15,.sl 1 10 0 x.1.length),(16,.int .i64 x.1.length),(17,.int .i64 x.2.2)],heap:=fun x=>[none,some (.row .job x.1),some (.row .span x.2.1)],norm:=[.row 3 .span,.home 3 2]}
def sHolderC:Sig:=⟨[(.view .core,false),(.int .i64,false)],[.elem .job]⟩
def oHolderC:sHolderC.Out:=fun x k=>Law.CW x.1∧k () (Law.holderJ x.1.J.jobs x.2.1,())
def lHolderC:LoopAnn:={X:=List Job × Int × Int,live:=fun x=>[(1,.int .i64 x.2.1),(4,.ptr ⟨0,0,0,0⟩),(15,.sl 2 10 0 x.1.length),(16,.int .i64 x.1.length),(17,.int .i64 x.2.2)],heap:=fun x=>[some (.raw [.int .i64 0,.int .i64 0,.int .i64 0,.int .i64 0,.int .i64 0,.int .i64 0,.int .i64 0,.int .i64 0,.int .i64 0,.int .u64 0]),none,some (.row .job x.1)]}
def sToldC:Sig:=⟨[(.view .core,false),(.int .i64,false)],[.elem .reply]⟩
def oToldC:sToldC.Out:=fun x k=>Law.CW x.1∧k () (Law.toldC x.1 x.2.1,())
def sWantsC:Sig:=⟨[(.view .core,false),(.elem .req,false)],[.int .i64]⟩
def oWantsC:sWantsC.Out:=fun x k=>Law.CW x.1∧k () (Law.wantsC x.1 x.2.1,())
def sUntilC:Sig:=⟨[(.view .core,false),(.int .i64,false)],[.int .i64]⟩
def oUntilC:sUntilC.Out:=fun x k=>Law.CW x.1∧k () (Law.untilC x.1 x.2.1,())
def sNextC:Sig:=⟨[(.view .core,false)],[.int .i64]⟩
def oNextC:sNextC.Out:=fun x k=>Law.CW x.1∧k () (Law.nextC x.1,())
def lNx1:LoopAnn:={X:=Core × List Job × Int × Int,live:=fun x=>[(0,.cptr ((OK.unf .core x.1).map (viewFld 8)) 0),(3,.int .i64 x.2.2.1),(13,.sl 1 10 0 x.2.1.length),(14,.int .i64 x.2.1.length),(15,.int .i64 x.2.2.2)],heap:=fun x=>[none,some (.row .job x.2.1)]}
def lNx2:LoopAnn:={X:=List Span × Int × Int,live:=fun x=>[(3,.int .i64 x.2.1),(26,.sl 2 3 0 x.1.length),(27,.int .i64 x.1.length),(28,.int .i64 x.2.2)],heap:=fun x=>[none,none,some (.row .span x.1)]}
def sTimeC:Sig:=⟨[(.obj .core,true)],[]⟩
def oTimeC:sTimeC.Out:=fun x k=>Law.CW x.1∧k (Law.timeoutsC x.1,()) ()
def lTimeC:LoopAnn:={X:=Core × List Job × Int,live:=fun x=>[(0,.ptr ⟨0,0,0,0⟩),(9,.sl 1 10 0 x.2.1.length),(10,.int .i64 x.2.1.length),(11,.int .i64 x.2.2)],heap:=fun x=>[some (.obj .core x.1),some (.row .job x.2.1)],norm:=[.fold 0 .core,.home 9 1]}
def oBeginsC:sTimeC.Out:=fun x k=>Law.CW x.1∧k (Law.beginsC x.1,()) ()
def lBeginsC:LoopAnn:={X:=Core × List Job × Int,live:=fun x=>[(0,.ptr ⟨0,0,0,0⟩),(8,.sl 1 10 0 x.2.1.length),(9,.int .i64 x.2.1.length),(10,.int .i64 x.2.2)],heap:=fun x=>[some (.obj .core x.1),some (.row .job x.2.1)],norm:=[.fold 0 .core,.home 8 1]}
def sBeginC:Sig:=⟨[(.obj .core,true),(.elem .job,false)],[]⟩
def oBeginC:sBeginC.Out:=fun x k=>Law.CW x.1∧k (Law.beginC x.1 x.2.1,()) ()
def sFitsC:Sig:=⟨[(.view .core,false),(.elem .choice,false)],[.bool]⟩
def oFitsC:sFitsC.Out:=fun x k=>(Law.CW x.1∧x.1.P.steps.length≤4294967290)∧k () (Law.fitsC x.1 x.2.1,())
def sNewW:Sig:=⟨[(.elem .req,false)],[.obj .work]⟩
def oNewW:sNewW.Out:=fun x k=>k () (Law.newW x.1,())
def sNewX:Sig:=⟨[(.elem .choice,false)],[.obj .work]⟩
def oNewX:sNewX.Out:=fun x k=>k () (Law.newX x.1,())
def sDoneW:Sig:=⟨[(.vopt .work,false)],[.bool]⟩
def oDoneW:sDoneW.Out:=fun x k=>k () (Law.doneW x.1,())
def sRepW:Sig:=⟨[(.view .work,false)],[.elem .reply]⟩
def oRepW:sRepW.Out:=fun x k=>k () (x.1.reply,())
def sOkW:Sig:=⟨[(.view .work,false)],[.bool]⟩
def oOkW:sOkW.Out:=fun x k=>k () (x.1.ok,())
def sEndW:Sig:=⟨[(.obj .work,true),(.elem .reply,false)],[]⟩
def oEndW:sEndW.Out:=fun x k=>k (Law.endW x.1 x.2.1,()) ()
def sFailW:Sig:=⟨[(.obj .work,true),(.int .i64,false)],[]⟩
def oFailW:sFailW.Out:=fun x k=>k (Law.failW x.1 x.2.1,()) ()
def sWC:Sig:=⟨[(.obj .work,true),(.obj .core,true)],[]⟩
def sWCb:Sig:=⟨[(.obj .work,true),(.obj .core,true)],[.bool]⟩
def PreW (w:Work) (c:Core):Prop:=Law.CW c∧Law.WW w∧c.P.steps.length≤4294967280
def oDropW:sWCb.Out:=fun x k=>PreW x.1 x.2.1∧k ((Law.dropW x.1 x.2.1).2.1,(Law.dropW x.1 x.2.1).2.2,()) ((Law.dropW x.1 x.2.1).1,())
def lDropW:LoopAnn:={X:=Work × Core × List Job × Int,live:=fun x=>[(0,.ptr ⟨0,0,0,0⟩),(1,.ptr ⟨1,0,0,0⟩),(14,.sl 2 10 0 x.2.2.1.length),(15,.int .i64 x.2.2.1.length),(16,.int .i64 x.2.2.2)],heap:=fun x=>[some (.obj .work x.1),some (.obj .core x.2.1),some (.row .job x.2.2.1)],norm:=[.fold 0 .work,.fold 1 .core,.home 14 2]}
def oUnplan:sWC.Out:=fun x k=>PreW x.1 x.2.1∧k (x.1,Law.unplanC x.1 x.2.1,()) ()
def oW2 (f:Work→Core→Work × Core):sWC.Out:=fun x k=>PreW x.1 x.2.1∧k ((f x.1 x.2.1).1,(f x.1 x.2.1).2,()) ()
def oStepW:sWCb.Out:=fun x k=>PreW x.1 x.2.1∧k ((Law.stepW x.1 x.2.1).1,(Law.stepW x.1 x.2.1).2,()) ((Law.stepW x.1 x.2.1).1.done,())
end Go.Ax.Sp
namespace Go.Ax.Sp
open Go.Proofs
variable [Surr]
def tzTab:List Value:=Lib.deBruijn64tab.map fun (n:Nat)=>Value.int .u8 (n:Int)
theorem WOK.tabAt {G:Gam} {w:World} {g:Nat} (h:WOK G w) (hT:(g,tzTab)∈Surr.tabs):TabAt g Lib.deBruijn64tab w:=by
 intro j hj
 obtain ⟨h1,h2⟩:=G.tab _ _ hT
 have e:tzTab[j]? =some (.int .u8 ((Lib.deBruijn64tab.getD j 0:Nat):Int)):=by
  simp only [tzTab,List.getElem?_map,List.getElem?_eq_getElem hj,Option.map_some,List.getD_eq_getElem?_getD,Option.getD_some]
 have h3:=h2 j _ e
 simp only [World.cell?] at h3 ⊢
 rw [(h.prot _ (G.sub _ h1)).2]
 exact h3
theorem tz_spec {P:Program} {r:Go.Shelf.Ren} {f:FuncId} (L:Lays7.n29 P r) (hf:r.f 29=f) (hT:(r.g 1,tzTab)∈Surr.tabs):SpecOK P f (sSet1.spec oTZ):=by
 intro args H K hk G w ρ Fs vs hH hr
 subst hf
 have hk:takeVs [VK.int .u64] args H fun x H1 ls=>oTZ x fun y z=>forceL (putKept [(VK.int .u64,false)] y ls H1++[]) fun H2=>forceL (gone H H1 0) fun T=>K (.int .i64 z.1) H2 T:=hk
 match args,hr,hk with
 | [],_,hk=>exact (hk:False).elim
 | .int .u64 x::[],hr,hk=>
  simp only [RVs] at hr
  obtain ⟨v,us,rfl,hv,rfl⟩:=hr
  have hk:oTZ (x,()) fun y z=>forceL (putKept [(VK.int .u64,false)] y [none] H++[]) fun H2=>forceL (gone H H 0) fun T=>K (.int .i64 z.1) H2 T:=hk
  obtain ⟨⟨x0,x1⟩,hk⟩:=hk
  simp only [] at x0 x1 hk
  obtain ⟨n,rfl⟩:=Int.eq_ofNat_of_zero_le x0
  simp only [RV] at hv
  subst hv
  simp only [forceL_eq,putKept,List.append_nil,Int.toNat_natCast] at hk
  refine (Any7.bits_TrailingZeros64 L n (by omega) w (fun _=>WOK.tabAt hH.wok hT)).mono fun e w' he=>?_
  obtain ⟨rfl,rfl⟩:=he
  exact ⟨_,_,_,_,[],Fs,rfl,hk,by simp [RV],by simpa using hH,fun l o hl _=>⟨hl,rfl,fun _ _=>rfl⟩⟩
 |a::_::_,_,hk=>
  have hk:takeV (.int .u64) a H fun _ _ _=>False:=hk
  cases a<;>simp only [takeV] at hk
  revert hk
  unfold br
  split<;>exact False.elim
 | .bool _::[],_,hk=>exact (hk:False).elim
end Go.Ax.Sp
namespace Go.Ax.Law
def cntN (p:Nat→Bool):Nat→Int
 |0=>0
 |n+1=>cntN p n+(if p n then 1 else 0)
def plannedJ (j:Job):Bool:=decide (j.State=1)&&decide (0≤j.Plan)
def runsOn (k:Int) (j:Job):Bool:=decide (j.State=3)&&hasB j.Nodes k
def holdI (l:List Job) (k:Int):Int:=match l.findIdx? (runsOn k) with |some i=>(i:Int) |none=> -1
def drainB (m:Model) (k:Nat):Bool:=m.Drain.getD k false
def stateM (m:Model) (k:Int):Int:=
 if k<0∨(m.Drain.length:Int)≤k then 0
 else if decide (0≤holdI m.L k)&&drainB m k.toNat then 3 else if 0≤holdI m.L k then 2 else if drainB m k.toNat then 4 else 1
def openM (m:Model) (t:Int) (k:Nat):Bool:=!drainB m k&&(match m.L.find? (runsOn (k:Int)) with |none=>true |some j=>decide (j.End≤t))
def planAt (t but:Int) (j:Job):Int:=if plannedJ j=true∧j.Id≠but∧j.Plan≤t∧t<j.Plan+j.Limit then j.Width else 0
def planSum (t but:Int):List Job→Int
 | []=>0
 |j::r=>planAt t but j+planSum t but r
def freeM (m:Model) (t but:Int):Int:=cntN (openM m t) m.Drain.length-planSum t but m.L
def sooner (best t last:Int):Int:=if last<t∧(best<0∨t<best) then t else best
def best1 (last b:Int) (j:Job):Int:=
 let b1:=if j.State=3 then sooner b j.End last else b
 if plannedJ j then sooner (sooner b1 j.Plan last) (j.Plan+j.Limit) last else b1
def bestT (l:List Job) (last:Int):Int:=l.foldl (best1 last) (-1)
def timesF (l:List Job):Nat→Int→List Int
 |0,_=>[]
 |f+1,last=>if bestT l last<0 then [] else bestT l last::timesF l f (bestT l last)
def timesM (m:Model):List Int:=m.Now::timesF m.L (2*m.L.length) m.Now
def step1 (m:Model) (out:List Step) (t:Int):List Step:=
 match out.getLast? with
 |none=>out++[⟨t,freeM m t 0⟩]
 |some s=>if s.Free=freeM m t 0 then out else out++[⟨t,freeM m t 0⟩]
def stepsM (m:Model):List Step:=(timesM m).foldl (step1 m) []
def roomOK (m:Model) (at_ long width but:Int) (t:Int):Bool:=!(decide (at_<t)&&decide (t<at_+long)&&decide (freeM m t but<width))
def roomM (m:Model) (at_ long width but:Int):Bool:=if freeM m at_ but<width then false else (timesM m).all (roomOK m at_ long width but)
def getM (m:Model) (id:Int):Job × Bool:=if id<1∨(m.L.length:Int)<id then (job0,false) else match m.L[(id-1).toNat]? with |some j=>(j,true) |none=>(job0,false)
def fitsM (m:Model) (x:Choice):Bool:=
 let j:=(getM m x.Id).1
 if m.Closed=true∨(getM m x.Id).2=false∨j.State≠1∨x.At<m.Now∨1099511627776<x.At∨(0≤j.Plan∧j.Plan≤x.At) then false
 else roomM m x.At j.Limit j.Width j.Id
def aheadJ (a b:Job):Bool:=decide (b.Prio<a.Prio)||(decide (a.Prio=b.Prio)&&decide (a.Id<b.Id))
def dropJ (j x:Job):Job:=if plannedJ x&&(decide (j.Id=0)||aheadJ j x) then {x with Plan:= -1} else x
def dropM (m:Model) (j:Job):Model:={m with L:=m.L.map (dropJ j)}
def pickN (p:Nat→Bool) (w:Int):Nat→Int × Int
 |0=>(0,0)
 |n+1=>if (pickN p w n).2<w∧p n=true then ((pickN p w n).1+((2^n:Nat):Int),(pickN p w n).2+1) else pickN p w n
def idleM (m:Model) (k:Nat):Bool:=decide (stateM m (k:Int)=1)
def beginJm (m:Model) (j:Job):Job:={j with State:=3,Start:=m.Now,End:=m.Now+j.Limit,Plan:= -1,Nodes:=(pickN (idleM m) j.Width m.Drain.length).1}
def beginM (m:Model) (i:Int):Model:=match m.L[i.toNat]? with |some j=>{m with L:=m.L.set i.toNat (beginJm m j)} |none=>m
def commitM (m:Model) (x:Choice):Bool × Model:=
 if fitsM m x=false then (false,m) else if x.At=m.Now then (true,beginM m (x.Id-1)) else (true,{m with L:=m.L.set (x.Id-1).toNat {(getM m x.Id).1 with Plan:=x.At}})
def liveJ (j:Job):Bool:=decide (j.State<4)
def liveN (l:List Job):Int:=(l.countP liveJ:Nat)
def submitM (m:Model) (r:Req):Reply × Model:=
 if r.User<0∨255<r.User∨r.Prio<0∨1000<r.Prio then (failR 1,m)
 else if r.Width<1∨(m.Drain.length:Int)<r.Width then (failR 9,m)
 else if r.Limit<1∨1048576<r.Limit then (failR 10,m)
 else if 63<liveN m.L∨1023<(m.L.length:Int) then (failR 6,m)
 else let j:=newJ m.L r
  let m1:={m with L:=m.L++[j]}
  (tellR j,if r.Held then m1 else dropM m1 j)
def endM (m:Model) (r:Req):Reply × Model:=
 let j:=(getM m r.Id).1
 if (getM m r.Id).2=false then (failR 7,m) else if 3<j.State∨(r.Kind=5∧j.State≠3) then (failR 8,m)
 else let j1:={j with End:=if j.State=3 then m.Now else j.End,Plan:= -1,State:=if r.Kind=5 then 4 else 5}
  (tellR j1,{m with L:=m.L.set (r.Id-1).toNat j1})
def turnM (m:Model) (r:Req):Reply × Model:=
 let j:=(getM m r.Id).1
 if (getM m r.Id).2=false then (failR 7,m) else if (r.Kind=3∧j.State≠1)∨(r.Kind=4∧j.State≠2) then (failR 8,m)
 else let j1:=if r.Kind=3 then {j with State:=2,Plan:= -1} else if r.Kind=4 then {j with State:=1} else j
  let m1:={m with L:=m.L.set (r.Id-1).toNat j1}
  (tellR j1,if r.Kind=4 then dropM m1 j1 else m1)
def nodeM (m:Model) (r:Req):Reply × Model:=
 if r.Node<0∨(m.Drain.length:Int)≤r.Node then (failR 11,m)
 else if drainB m r.Node.toNat=decide (r.Kind=7) then (failR 8,m)
 else let m1:=if r.Kind=7 then dropM m job0 else m
  let m2:={m1 with Drain:=m1.Drain.set r.Node.toNat (decide (r.Kind=7))}
  ({reply0 with Id:=r.Node,State:=stateM m2 r.Node},m2)
def next1 (now b:Int) (j:Job):Int:=
 let b1:=if j.State=3 then sooner b j.End now else b
 if plannedJ j then sooner b1 j.Plan now else b1
def nextM (m:Model):Int:=m.L.foldl (next1 m.Now) (-1)
def overJ (now:Int) (j:Job):Job:=if j.State=3∧j.End=now then {j with State:=6} else j
def dueJ (now:Int) (j:Job):Bool:=plannedJ j&&decide (j.Plan=now)
def selN (now:Int) (l:List Job):Nat→Int
 |0=> -1
 |n+1=>match l[n]? with
  |some j=>if dueJ now j=true∧(selN now l n<0∨aheadJ j (l.getD (selN now l n).toNat job0)=true) then (n:Int) else selN now l n
  |none=>selN now l n
def beginF:Nat→Model→Model
 |0,m=>m
 |f+1,m=>beginF f (if 0≤selN m.Now m.L m.L.length then beginM m (selN m.Now m.L m.L.length) else m)
def happenM (m:Model):Model:=beginF m.L.length {m with L:=m.L.map (overJ m.Now)}
def tickF:Nat→Int→Model→Model
 |0,_,m=>m
 |f+1,to,m=>if nextM m<0∨to<nextM m then m else tickF f to (happenM {m with Now:=nextM m})
def tickM (m:Model) (by_:Int):Reply × Model:=
 if by_<1∨1099511627776-m.Now<by_ then (failR 10,m)
 else let m1:={tickF (2*m.L.length+1) (m.Now+by_) m with Now:=m.Now+by_}
  ({reply0 with Start:=m1.Now,A:=freeM m1 m1.Now 0},m1)
def countM (m:Model) (jobs:Bool) (a b:Int):Int:=
 if jobs then cntJ m.L a else cntN (fun k=>decide (stateM m (k:Int)=a)||decide (stateM m (k:Int)=b)) m.Drain.length
def doM (m:Model) (r:Req):Reply × Model:=
 if m.Closed then (failR 12,m)
 else if r.Kind=1 then submitM m r
 else if r.Kind=2∨r.Kind=5 then endM m r
 else if r.Kind=3∨r.Kind=4∨r.Kind=6 then turnM m r
 else if r.Kind=7∨r.Kind=8 then nodeM m r
 else if r.Kind=9 then tickM m r.By
 else if r.Kind=10 then (threeR (countM m false 1 1) (countM m false 2 3) (countM m false 4 4),m)
 else if r.Kind=11 then (threeR (countM m true 1 1) (countM m true 2 2) (countM m true 3 3),m)
 else if r.Kind=12 then ({reply0 with Start:=m.Now,A:=freeM m m.Now 0},m)
 else if r.Kind=13 then (reply0,{m with Closed:=true})
 else (failR 4,m)
def newM (n:Int):Model:=⟨0,List.replicate n.toNat false,[],false⟩
def MJ (j:Job):Prop:=U64 j.Nodes∧1≤j.State∧j.State≤6∧ -1≤j.Plan∧j.Plan≤1099511627776∧0≤j.Limit∧j.Limit≤1048576∧0≤j.Width∧j.Width≤64∧ -1≤j.End∧j.End≤1099512676352
def MW (m:Model):Prop:=m.L.length≤1024∧1≤m.Drain.length∧m.Drain.length≤64∧0≤m.Now∧m.Now≤1099511627776∧ ∀j∈m.L,MJ j
end Go.Ax.Law
namespace Go.Ax.Sp
abbrev mv (m:Model):AV:= .cptr ((OK.unf .model m).map (viewFld 8)) 0
def sHasM:Sig:=⟨[(.int .u64,false),(.int .i64,false)],[.bool]⟩
def oHasM:sHasM.Out:=fun x k=>(Law.U64 x.1∧0≤x.2.1∧x.2.1≤1000)∧k () (Law.hasB x.1 x.2.1,())
def lHasM:LoopAnn:={X:=Int × Int × Int,live:=fun x=>[(0,.int .u64 x.1),(1,.int .i64 x.2.1),(5,.int .i64 x.2.2)],heap:=fun _=>[]}
def sHoldM:Sig:=⟨[(.view .model,false),(.int .i64,false)],[.int .i64]⟩
def oHoldM:sHoldM.Out:=fun x k=>(Law.MW x.1∧0≤x.2.1∧x.2.1≤1000)∧k () (Law.holdI x.1.L x.2.1,())
def lHoldM:LoopAnn:={X:=Model × Int × Int,live:=fun x=>[(0,mv x.1),(1,.int .i64 x.2.1),(5,.int .i64 x.2.2)],heap:=fun _=>[]}
def oStateM:sHoldM.Out:=fun x k=>Law.MW x.1∧k () (Law.stateM x.1 x.2.1,())
def sPlanned:Sig:=⟨[(.elem .job,false)],[.bool]⟩
def oPlanned:sPlanned.Out:=fun x k=>k () (Law.plannedJ x.1,())
def sFreeM:Sig:=⟨[(.view .model,false),(.int .i64,false),(.int .i64,false)],[.int .i64]⟩
def oFreeM:sFreeM.Out:=fun x k=>Law.MW x.1∧k () (Law.freeM x.1 x.2.1 x.2.2.1,())
def lFree1:LoopAnn:={X:=Model × Int × Int × Int × Int,live:=fun x=>[(0,mv x.1),(1,.int .i64 x.2.1),(2,.int .i64 x.2.2.1),(7,.int .i64 x.2.2.2.1),(8,.int .i64 x.2.2.2.2)],heap:=fun _=>[]}
def lFree2:LoopAnn:={X:=Model × Int × Int × Int × Int,live:=fun x=>[(0,mv x.1),(1,.int .i64 x.2.1),(2,.int .i64 x.2.2.1),(7,.int .i64 x.2.2.2.1),(10,.int .i64 x.2.2.2.2)],heap:=fun _=>[]}
def sSooner:Sig:=⟨[(.int .i64,false),(.int .i64,false),(.int .i64,false)],[.int .i64]⟩
def oSooner:sSooner.Out:=fun x k=>k () (Law.sooner x.1 x.2.1 x.2.2.1,())
def sTimesM:Sig:=⟨[(.view .model,false)],[.row .i64]⟩
def oTimesM:sTimesM.Out:=fun x k=>Law.MW x.1∧k () (Law.timesM x.1,())
def lTimes1:LoopAnn:={X:=Model × List Int × Int,live:=fun x=>[(0,mv x.1),(3,.sl 0 1 0 x.2.1.length),(4,.int .i64 x.2.2)],heap:=fun x=>[some (.row .i64 x.2.1)],norm:=[.home 3 0]}
def lTimes2:LoopAnn:={X:=Model × List Int × Int × Int × Int × Int,live:=fun x=>[(0,mv x.1),(3,.sl 0 1 0 x.2.1.length),(4,.int .i64 x.2.2.1),(5,.int .i64 x.2.2.2.1),(6,.int .i64 x.2.2.2.2.1),(7,.int .i64 x.2.2.2.2.2)],heap:=fun x=>[some (.row .i64 x.2.1)]}
def sStepsM:Sig:=⟨[(.view .model,false)],[.row .step]⟩
def oStepsM:sStepsM.Out:=fun x k=>Law.MW x.1∧k () (Law.stepsM x.1,())
def lStepsM:LoopAnn:={X:=Model × List Int × List Step × Int,live:=fun x=>[(0,mv x.1),(3,.sl 1 2 0 x.2.2.1.length),(4,.sl 0 1 0 x.2.1.length),(5,.int .i64 x.2.2.2)],heap:=fun x=>[some (.row .i64 x.2.1),some (.row .step x.2.2.1)],norm:=[.home 4 0,.row 3 .step,.home 3 1]}
def sRoomM:Sig:=⟨[(.view .model,false),(.int .i64,false),(.int .i64,false),(.int .i64,false),(.int .i64,false)],[.bool]⟩
def oRoomM:sRoomM.Out:=fun x k=>(Law.MW x.1∧0≤x.2.1∧x.2.1≤1099511627776∧0≤x.2.2.1∧x.2.2.1≤1048576)∧k () (Law.roomM x.1 x.2.1 x.2.2.1 x.2.2.2.1 x.2.2.2.2.1,())
def lRoomM:LoopAnn:={X:=Model × Int × Int × Int × Int × List Int × Int,live:=fun x=>[(0,mv x.1),(1,.int .i64 x.2.1),(2,.int .i64 x.2.2.1),(3,.int .i64 x.2.2.2.1),(4,.int .i64 x.2.2.2.2.1),(11,.sl 0 1 0 x.2.2.2.2.2.1.length),(12,.int .i64 x.2.2.2.2.2.2)],heap:=fun x=>[some (.row .i64 x.2.2.2.2.2.1)],norm:=[.home 11 0]}
def sGetM:Sig:=⟨[(.view .model,false),(.int .i64,false)],[.elem .job,.bool]⟩
def oGetM:sGetM.Out:=fun x k=>Law.MW x.1∧k () ((Law.getM x.1 x.2.1).1,(Law.getM x.1 x.2.1).2,())
def sFitsM:Sig:=⟨[(.view .model,false),(.elem .choice,false)],[.bool]⟩
def oFitsM:sFitsM.Out:=fun x k=>Law.MW x.1∧k () (Law.fitsM x.1 x.2.1,())
def sAhead:Sig:=⟨[(.elem .job,false),(.elem .job,false)],[.bool]⟩
def oAhead:sAhead.Out:=fun x k=>k () (Law.aheadJ x.1 x.2.1,())
def sDropM:Sig:=⟨[(.obj .model,true),(.elem .job,false)],[]⟩
def oDropM:sDropM.Out:=fun x k=>Law.MW x.1∧k (Law.dropM x.1 x.2.1,()) ()
def lDropM:LoopAnn:={X:=Model × Job × Int,live:=fun x=>[(0,.ptr ⟨0,0,0,0⟩),(3,.ptr ⟨1,0,0,0⟩),(4,.int .i64 x.2.2)],heap:=fun x=>[some (.obj .model x.1),some (.raw (EK.enc .job x.2.1))],norm:=[.fold 0 .model]}
def sBeginM:Sig:=⟨[(.obj .model,true),(.int .i64,false)],[]⟩
def oBeginM:sBeginM.Out:=fun x k=>(Law.MW x.1∧0≤x.2.1∧x.2.1<x.1.L.length)∧k (Law.beginM x.1 x.2.1,()) ()
def lBeginM:LoopAnn:={X:=Model × Int × Job × Int × Int × Int × Int,live:=fun x=>[(0,.ptr ⟨0,0,0,0⟩),(1,.int .i64 x.2.1),(4,.ptr ⟨3,0,0,0⟩),(5,.int .u64 x.2.2.2.1),(6,.int .u64 x.2.2.2.2.1),(7,.int .i64 x.2.2.2.2.2.1),(8,.int .i64 x.2.2.2.2.2.2)],heap:=fun x=>[some (.obj .model x.1),none,none,some (.raw (EK.enc .job x.2.2.1))],norm:=[.fold 0 .model]}
def sCommitM:Sig:=⟨[(.obj .model,true),(.elem .choice,false)],[.bool]⟩
def oCommitM:sCommitM.Out:=fun x k=>Law.MW x.1∧k ((Law.commitM x.1 x.2.1).2,()) ((Law.commitM x.1 x.2.1).1,())
def sTell:Sig:=⟨[(.elem .job,false)],[.elem .reply]⟩
def oTell:sTell.Out:=fun x k=>k () (Law.tellR x.1,())
def sLiveM:Sig:=⟨[(.view .model,false)],[.int .i64]⟩
def oLiveM:sLiveM.Out:=fun x k=>Law.MW x.1∧k () (Law.liveN x.1.L,())
def lLiveM:LoopAnn:={X:=Model × Int × Int,live:=fun x=>[(0,mv x.1),(3,.int .i64 x.2.1),(4,.int .i64 x.2.2)],heap:=fun _=>[]}
def sReqM:Sig:=⟨[(.obj .model,true),(.elem .req,false)],[.elem .reply]⟩
def oReqM (f:Model→Req→Reply × Model):sReqM.Out:=fun x k=>Law.MW x.1∧k ((f x.1 x.2.1).2,()) ((f x.1 x.2.1).1,())
def lNextM:LoopAnn:={X:=Model × Int × Int,live:=fun x=>[(0,mv x.1),(3,.int .i64 x.2.1),(4,.int .i64 x.2.2)],heap:=fun _=>[]}
def oNextM:sLiveM.Out:=fun x k=>Law.MW x.1∧k () (Law.nextM x.1,())
def sHapM:Sig:=⟨[(.obj .model,true)],[]⟩
def oHapM:sHapM.Out:=fun x k=>Law.MW x.1∧k (Law.happenM x.1,()) ()
def lHap1:LoopAnn:={X:=Model × Int,live:=fun x=>[(0,.ptr ⟨0,0,0,0⟩),(2,.int .i64 x.2)],heap:=fun x=>[some (.obj .model x.1)],norm:=[.fold 0 .model]}
def lHap2:LoopAnn:={X:=Model × Int,live:=fun x=>[(0,.ptr ⟨0,0,0,0⟩),(4,.int .i64 x.2)],heap:=fun x=>[some (.obj .model x.1)],norm:=[.fold 0 .model]}
def lHap3:LoopAnn:={X:=Model × Int × Int × Int,live:=fun x=>[(0,.ptr ⟨0,0,0,0⟩),(4,.int .i64 x.2.1),(5,.int .i64 x.2.2.1),(6,.int .i64 x.2.2.2)],heap:=fun x=>[some (.obj .model x.1)],norm:=[.fold 0 .model]}
def sTickM:Sig:=⟨[(.obj .model,true),(.int .i64,false)],[.elem .reply]⟩
def oTickM:sTickM.Out:=fun x k=>Law.MW x.1∧k ((Law.tickM x.1 x.2.1).2,()) ((Law.tickM x.1 x.2.1).1,())
def lTickM:LoopAnn:={X:=Model × Int × Int,live:=fun x=>[(0,.ptr ⟨0,0,0,0⟩),(4,.ptr ⟨1,0,0,0⟩),(5,.int .i64 x.2.1),(6,.int .i64 x.2.2)],heap:=fun x=>[some (.obj .model x.1),some (.raw (EK.enc .reply Law.reply0))],norm:=[.fold 0 .model]}
def sCountM:Sig:=⟨[(.view .model,false),(.bool,false),(.int .i64,false),(.int .i64,false)],[.int .i64]⟩
def oCountM:sCountM.Out:=fun x k=>Law.MW x.1∧k () (Law.countM x.1 x.2.1 x.2.2.1 x.2.2.2.1,())
def lCount1:LoopAnn:={X:=Model × Bool × Int × Int × Int × Int,live:=fun x=>[(0,mv x.1),(1,.bool x.2.1),(2,.int .i64 x.2.2.1),(3,.int .i64 x.2.2.2.1),(9,.int .i64 x.2.2.2.2.1),(10,.int .i64 x.2.2.2.2.2)],heap:=fun _=>[]}
def lCount2:LoopAnn:={X:=Model × Bool × Int × Int × Int × Int,live:=fun x=>[(0,mv x.1),(1,.bool x.2.1),(2,.int .i64 x.2.2.1),(3,.int .i64 x.2.2.2.1),(9,.int .i64 x.2.2.2.2.1),(11,.int .i64 x.2.2.2.2.2)],heap:=fun _=>[]}
def sNewM:Sig:=⟨[(.int .i64,false)],[.obj .model]⟩
def oNewM:sNewM.Out:=fun x k=>(0≤x.1∧x.1≤1000)∧k () (Law.newM x.1,())
end Go.Ax.Sp
namespace Go.Ax.Law
def tk {α:Type} (l:List α):List α:=List.take l.length (List.drop 0 l)
theorem tk_eq {α:Type} (l:List α):tk l=l:=by simp [tk]
end Go.Ax.Law
namespace Go.Ax.Law
variable {α:Type}
def atI (xs:List α) (p:Int):Option α:=xs[p.toNat]?
theorem atI_nat (xs:List α) (i:Nat):atI xs (i:Int)=xs[i]? :=by simp [atI]
def Swapped (xs ys:List α) (a b n:Int):Prop:=
  ys.length=xs.length∧ ∀p:Int,0≤p→atI ys p=if a≤p∧p<a+n then atI xs (p-a+b) else if b≤p∧p<b+n then atI xs (p-b+a) else atI xs p
def Rotated (xs ys:List α) (a m b:Int):Prop:=
  ys.length=xs.length∧ ∀p:Int,0≤p→atI ys p=if p<a∨b≤p then atI xs p else if p<a+(b-m) then atI xs (p+(m-a)) else atI xs (p-(b-m))
theorem Swapped.refl (xs:List α) (a b:Int):Swapped xs xs a b 0:=by
  refine ⟨rfl,fun p _=>?_⟩
  rw [if_neg (by omega),if_neg (by omega)]
theorem Swapped.step {xs ys:List α} {a b n:Int} {u v:α} (h:Swapped xs ys a b n) (ha:0≤a) (hb:0≤b) (hn:0≤n) (hab:a+n<b∨b+n<a) (hu:ys[(a+n).toNat]? =some u) (hv:ys[(b+n).toNat]? =some v):
    Swapped xs ((ys.set (a+n).toNat v).set (b+n).toNat u) a b (n+1):=by
  obtain ⟨h1,h2⟩:=h
  have l1:=(List.getElem?_eq_some_iff.1 hu).1
  have l2:=(List.getElem?_eq_some_iff.1 hv).1
  have hu':=h2 (a+n) (by omega)
  have hv':=h2 (b+n) (by omega)
  rw [if_neg (by omega),if_neg (by omega)] at hu' hv'
  have hu2:atI ys (a+n)=some u:=hu
  have hv2:atI ys (b+n)=some v:=hv
  rw [hu2] at hu'
  rw [hv2] at hv'
  refine ⟨by simpa using h1,fun p hp=>?_⟩
  have hg:atI ((ys.set (a+n).toNat v).set (b+n).toNat u) p=if p=b+n then some u else if p=a+n then some v else atI ys p:=by
    simp only [atI,List.getElem?_set,List.length_set]
    by_cases e1:p=b+n
    · rw [if_pos (by omega),if_pos l2,if_pos e1]
    · rw [if_neg (by omega),if_neg e1]
      by_cases e2:p=a+n
      · rw [if_pos (by omega),if_pos l1,if_pos e2]
      · rw [if_neg (by omega),if_neg e2]
  rw [hg,h2 p hp]
  by_cases e1:p=b+n
  · subst e1
    rw [if_pos rfl,if_neg (by omega),if_pos (by omega),hu']
    congr 1;omega
  · rw [if_neg e1]
    by_cases e2:p=a+n
    · subst e2
      rw [if_pos rfl,if_pos (by omega),hv']
      congr 1;omega
    · rw [if_neg e2]
      by_cases c1:a≤p∧p<a+n
      · rw [if_pos c1,if_pos (by omega)]
      · rw [if_neg c1]
        by_cases c2:b≤p∧p<b+n
        · rw [if_pos c2,if_neg (by omega),if_pos (by omega)]
        · rw [if_neg c2,if_neg (by omega),if_neg (by omega)]
theorem Rotated.one {xs ys:List α} {m i:Int} (hm:i≤m) (hi:0≤i) (h:Swapped xs ys (m-i) m i):Rotated xs ys (m-i) m (m+i):=by
  obtain ⟨h1,h2⟩:=h
  refine ⟨h1,fun p hp=>?_⟩
  rw [h2 p hp]
  by_cases c1:p<m-i∨m+i≤p
  · rw [if_neg (by omega),if_neg (by omega),if_pos c1]
  · rw [if_neg c1]
    by_cases c2:p<m
    · rw [if_pos (by omega),if_pos (by omega)]<;>(congr 1;omega)
    · rw [if_neg (by omega),if_pos (by omega),if_neg (by omega)]<;>(congr 1;omega)
theorem Rotated.left {xs cs ys:List α} {m i j:Int} (hm:i≤m) (hj:0≤j) (hij:j<i) (h:Swapped xs cs (m-i) m j) (hr:Rotated cs ys (m-(i-j)) m (m+j)):Rotated xs ys (m-i) m (m+j):=by
  obtain ⟨h1,h2⟩:=h
  obtain ⟨h3,h4⟩:=hr
  refine ⟨by rw [h3,h1],fun p hp=>?_⟩
  rw [h4 p hp]
  by_cases c1:p<m-i∨m+j≤p
  · rw [if_pos (by omega),if_pos c1,h2 p hp,if_neg (by omega),if_neg (by omega)]
  · rw [if_neg c1]
    by_cases c2:p<m-i+j
    · rw [if_pos (by omega),h2 p hp,if_pos (by omega),if_pos (by omega)]<;>(congr 1;omega)
    · rw [if_neg (by omega)]
      by_cases c3:p<m-(i-j)+j
      · rw [if_pos (by omega),h2 _ (by omega),if_neg (by omega),if_pos (by omega),if_neg (by omega)]<;>(congr 1;omega)
      · rw [if_neg (by omega),h2 _ (by omega),if_neg (by omega),if_neg (by omega),if_neg (by omega)]<;>(congr 1;omega)
theorem Rotated.right {xs cs ys:List α} {m i j:Int} (hm:i≤m) (hi:0≤i) (hij:i<j) (h:Swapped xs cs (m-i) (m+j-i) i) (hr:Rotated cs ys (m-i) m (m+(j-i))):Rotated xs ys (m-i) m (m+j):=by
  obtain ⟨h1,h2⟩:=h
  obtain ⟨h3,h4⟩:=hr
  refine ⟨by rw [h3,h1],fun p hp=>?_⟩
  rw [h4 p hp]
  by_cases c1:p<m-i∨m+j≤p
  · rw [if_pos (by omega),if_pos c1,h2 p hp,if_neg (by omega),if_neg (by omega)]
  · rw [if_neg c1]
    by_cases c2:m+(j-i)≤p
    · rw [if_pos (by omega),h2 p hp,if_neg (by omega),if_pos (by omega),if_neg (by omega)]<;>(congr 1;omega)
    · rw [if_neg (by omega)]
      by_cases c3:p<m-i+(j-i)
      · rw [if_pos (by omega),h2 _ (by omega),if_neg (by omega),if_neg (by omega),if_pos (by omega)]<;>(congr 1;omega)
      · rw [if_neg (by omega),h2 _ (by omega)]
        rw [if_pos (by omega),if_pos (by omega)]<;>(congr 1;omega)
def Rises (key:α→Int) (xs:List α) (a b:Int):Prop:= ∀(p q:Int) (x y:α),0≤p→a≤p→p<q→q<b→atI xs p=some x→atI xs q=some y→key x≤key y
theorem Rises.le {key:α→Int} {xs:List α} {a b:Int} (h:Rises key xs a b) {p q:Int} {x y:α} (h0:0≤p) (h1:a≤p) (h2:p≤q) (h3:q<b) (hx:atI xs p=some x) (hy:atI xs q=some y):key x≤key y:=by
  by_cases e:p=q
  · subst e;rw [hx] at hy;cases hy;exact Int.le_refl _
  · exact h p q x y h0 h1 (by omega) h3 hx hy
theorem SortedSeg.rises {key:α→Int} {xs ys:List α} {a b:Int} (h:SortedSeg key xs ys a b):Rises key ys a b:=by
  intro p q x y h0 h1 h2 h3 hx hy
  obtain ⟨p,rfl⟩:=Int.eq_ofNat_of_zero_le h0
  obtain ⟨q,rfl⟩:=Int.eq_ofNat_of_zero_le (show 0≤q by omega)
  rw [atI_nat] at hx hy
  exact h.2.2.1 p q x y h1 (by omega) h3 hx hy
theorem SortedSeg.out {key:α→Int} {xs ys:List α} {a b:Int} (h:SortedSeg key xs ys a b) {p:Int} (h0:0≤p) (hp:p<a∨b≤p):atI ys p=atI xs p:=by
  obtain ⟨p,rfl⟩:=Int.eq_ofNat_of_zero_le h0
  rw [atI_nat,atI_nat]
  exact h.2.1 p hp
theorem SortedSeg.mk2 {key:α→Int} {xs ys:List α} {a b:Int} (h1:ys.length=xs.length) (h2: ∀p:Int,0≤p→(p<a∨b≤p)→atI ys p=atI xs p) (h3:Rises key ys a b) (h4: ∀c,ys.filter (keyIs key c)=xs.filter (keyIs key c)):SortedSeg key xs ys a b:=
  ⟨h1,fun i hi=>by rw [←atI_nat,←atI_nat];exact h2 i (by omega) hi,fun i j x y ha hij hj hx hy=>h3 i j x y (by omega) ha (by omega) hj (by rw [atI_nat];exact hx) (by rw [atI_nat];exact hy),h4⟩
theorem SortedSeg.same {key:α→Int} {xs:List α} {a b:Int} (h:Rises key xs a b):SortedSeg key xs xs a b:= .mk2 rfl (fun _ _ _=>rfl) h fun _=>rfl
theorem split3 (xs:List α) (a b:Nat) (hab:a≤b):xs=xs.take a++(xs.drop a).take (b-a)++xs.drop b:=by
  have h1:xs.drop b=(xs.drop a).drop (b-a):=by rw [List.drop_drop]<;>(congr 1;omega)
  rw [List.append_assoc,h1,List.take_append_drop,List.take_append_drop]
theorem SortedSeg.mem {key:α→Int} {xs ys:List α} {a b:Nat} (h:SortedSeg key xs ys a b) (hab:a≤b) {i:Nat} {x:α} (hi:a≤i) (hi2:i<b) (hx:ys[i]? =some x): ∃(q:Nat) (y:α),a≤q∧q<b∧xs[q]? =some y∧key y=key x:=by
  obtain ⟨h1,h2,_,h4⟩:=h
  have ht:ys.take a=xs.take a:=by
    apply List.ext_getElem?
    intro p
    by_cases hp:p<a
    · rw [List.getElem?_take_of_lt hp,List.getElem?_take_of_lt hp]
      exact h2 p (by omega)
    · rw [List.getElem?_take_eq_none (by omega),List.getElem?_take_eq_none (by omega)]
  have hd:ys.drop b=xs.drop b:=by
    apply List.ext_getElem?
    intro p
    rw [List.getElem?_drop,List.getElem?_drop]
    exact h2 (b+p) (by omega)
  have hc:(ys.countP (keyIs key (key x)))=xs.countP (keyIs key (key x)):=by
    rw [List.countP_eq_length_filter,List.countP_eq_length_filter,h4]
  rw [split3 ys a b hab,split3 xs a b hab,ht,hd] at hc
  simp only [List.countP_append] at hc
  have hpos:0<((ys.drop a).take (b-a)).countP (keyIs key (key x)):=by
    rw [List.countP_pos_iff]
    refine ⟨x,?_,by simp [keyIs]⟩
    refine List.mem_iff_getElem?.2 ⟨i-a,?_⟩
    rw [List.getElem?_take_of_lt (by omega),List.getElem?_drop,show a+(i-a)=i by omega]
    exact hx
  have hpos2:0<((xs.drop a).take (b-a)).countP (keyIs key (key x)):=by omega
  rw [List.countP_pos_iff] at hpos2
  obtain ⟨y,hy,hk⟩:=hpos2
  obtain ⟨q,hq⟩:=List.mem_iff_getElem?.1 hy
  have hql:=(List.getElem?_eq_some_iff.1 hq).1
  simp only [List.length_take,List.length_drop] at hql
  rw [List.getElem?_take_of_lt (by omega),List.getElem?_drop] at hq
  exact ⟨a+q,y,by omega,by omega,hq,by simpa [keyIs] using hk⟩
theorem Rotated.filter {key:α→Int} {xs ys:List α} {s m e:Nat} (h:Rotated xs ys s m e) (hs:s≤m) (hm:m≤e) (he:e≤xs.length) (hlt: ∀(p q:Nat) (x y:α),s≤p→p<m→m≤q→q<e→xs[p]? =some x→xs[q]? =some y→key y<key x) (c:Int):
    ys.filter (keyIs key c)=xs.filter (keyIs key c):=by
  obtain ⟨h1,h2⟩:=h
  have hx:xs=xs.take s++(((xs.drop s).take (m-s)++(xs.drop m).take (e-m))++xs.drop e):=by
    have e1:=split3 xs s e (by omega)
    have e2:(xs.drop s).take (e-s)=(xs.drop s).take (m-s)++(xs.drop m).take (e-m):=by
      have:=List.take_add (l:=xs.drop s) (i:=m-s) (j:=e-m)
      rw [show m-s+(e-m)=e-s by omega,List.drop_drop,show s+(m-s)=m by omega] at this
      exact this
    rw [e2,List.append_assoc] at e1
    exact e1
  have hy:ys=xs.take s++(((xs.drop m).take (e-m)++(xs.drop s).take (m-s))++xs.drop e):=by
    apply List.ext_getElem?
    intro p
    have hp:=h2 (p:Int) (by omega)
    rw [atI_nat] at hp
    rw [hp]
    simp only [List.getElem?_append,List.length_append,List.length_take,List.length_drop]
    by_cases c1:p<s
    · rw [if_pos (by omega),if_pos (by omega),List.getElem?_take_of_lt c1,atI_nat]
    · rw [if_neg (by omega: ¬ p<min s xs.length)]
      by_cases c2:p<s+(e-m)
      · rw [if_neg (by omega),if_pos (by omega),if_pos (by omega),if_pos (by omega),List.getElem?_take_of_lt (by omega),List.getElem?_drop]
        simp only [atI]<;>(congr 1;omega)
      · by_cases c3:p<e
        · rw [if_neg (by omega),if_neg (by omega),if_pos (by omega),if_neg (by omega),List.getElem?_take_of_lt (by omega),List.getElem?_drop]
          simp only [atI]<;>(congr 1;omega)
        · rw [if_pos (by omega),if_neg (by omega),List.getElem?_drop]
          simp only [atI]<;>(congr 1;omega)
  rw [hy]
  conv=>rhs;rw [hx]
  simp only [List.filter_append]
  congr 1
  congr 1
  have hmem: ∀{l n:Nat} {z:α},z∈(xs.drop l).take n→ ∃q,l≤q∧q<l+n∧xs[q]? =some z:=by
    intro l n z hz
    obtain ⟨q,hq⟩:=List.mem_iff_getElem?.1 hz
    have hql:=(List.getElem?_eq_some_iff.1 hq).1
    simp only [List.length_take,List.length_drop] at hql
    rw [List.getElem?_take_of_lt (by omega),List.getElem?_drop] at hq
    exact ⟨l+q,by omega,by omega,hq⟩
  by_cases hA:((xs.drop s).take (m-s)).filter (keyIs key c)=[]
  · rw [hA];simp
  · have hB:((xs.drop m).take (e-m)).filter (keyIs key c)=[]:=by
      rw [List.filter_eq_nil_iff]
      intro y hy hky
      obtain ⟨x,hx⟩:=List.exists_mem_of_ne_nil _ hA
      obtain ⟨hx1,hx2⟩:=List.mem_filter.1 hx
      obtain ⟨p,p1,p2,p3⟩:=hmem hx1
      obtain ⟨q,q1,q2,q3⟩:=hmem hy
      have:=hlt p q x y p1 (by omega) q1 (by omega) p3 q3
      simp only [keyIs,decide_eq_true_eq] at hx2 hky
      omega
    rw [hB];simp
theorem atI_some {xs:List α} {p:Int} (h0:0≤p) (h:p<xs.length): ∃x,atI xs p=some x:=⟨_,List.getElem?_eq_getElem (by omega)⟩
theorem Rotated.triv {xs:List α} {s m e:Int} (h:s=m∨m=e) (hs:s≤m) (he:m≤e):Rotated xs xs s m e:=by
  refine ⟨rfl,fun p _=>?_⟩
  by_cases c1:p<s∨e≤p
  · rw [if_pos c1]
  · rw [if_neg c1]
    by_cases c2:p<s+(e-m)
    · rw [if_pos c2]<;>(congr 1;omega)
    · rw [if_neg c2]<;>(congr 1;omega)
structure Halves (key:α→Int) (xs ys:List α) (a st mid en b:Int):Prop where
  len:ys.length=xs.length
  out: ∀p:Int,0≤p→(p<a∨b≤p)→atI ys p=atI xs p
  r1:Rises key ys a st
  r2:Rises key ys st mid
  r3:Rises key ys mid en
  r4:Rises key ys en b
  cross: ∀(p q:Int) (x y:α),a≤p→p<mid→mid≤q→q<b→atI ys p=some x→atI ys q=some y→key x≤key y
  fil: ∀c,ys.filter (keyIs key c)=xs.filter (keyIs key c)
theorem halves {key:α→Int} {xs ys:List α} {a m b mid st en lo hi:Int} (h0:0≤a) (ham:a<m) (hmb:m<b) (hbl:b≤xs.length) (hm1:a<mid) (hm2:mid<b)
    (hlh:(mid<m∧lo=mid+m-b∧hi=mid)∨(m≤mid∧lo=a∧hi=m)) (hla:a≤lo) (hst1:lo≤st) (hst2:st≤hi) (hen:en=mid+m-st) (heb:en≤b)
    (s1:Rises key xs a m) (s2:Rises key xs m b)
    (c1: ∀(c:Int) (x y:α),lo≤c→c<st→atI xs c=some x→atI xs (mid+m-1-c)=some y→key x≤key y)
    (c2: ∀(c:Int) (x y:α),st≤c→c<hi→atI xs c=some x→atI xs (mid+m-1-c)=some y→key y<key x)
    (hr:Rotated xs ys st m en):Halves key xs ys a st mid en b:=by
  obtain ⟨hl,hr2⟩:=hr
  have e1: ∀p,0≤p→p<st→atI ys p=atI xs p:=fun p hp h=>by rw [hr2 p hp,if_pos (by omega)]
  have e4: ∀p,0≤p→en≤p→atI ys p=atI xs p:=fun p hp h=>by rw [hr2 p hp,if_pos (by omega)]
  have e2: ∀p,st≤p→p<mid→atI ys p=atI xs (p+(m-st)):=fun p h1 h2=>by rw [hr2 p (by omega),if_neg (by omega),if_pos (by omega)]
  have e3: ∀p,mid≤p→p<en→atI ys p=atI xs (p-(en-m)):=fun p h1 h2=>by rw [hr2 p (by omega),if_neg (by omega),if_neg (by omega)]
  have strict: ∀(p q:Int) (x y:α),st≤p→p<m→m≤q→q<en→atI xs p=some x→atI xs q=some y→key y<key x:=by
    intro p q x y p1 p2 q1 q2 hx hy
    obtain ⟨u,hu⟩:=atI_some (xs:=xs) (p:=st) (by omega) (by omega)
    obtain ⟨v,hv⟩:=atI_some (xs:=xs) (p:=en-1) (by omega) (by omega)
    have hs:=c2 st u v (Int.le_refl _) (by omega) hu (by rw [←hv]<;>(congr 1;omega))
    have l1:=s1.le (by omega) (by omega) p1 p2 hu hx
    have l2:=s2.le (by omega) q1 (by omega:q≤en-1) (by omega) hy hv
    omega
  refine ⟨hl,fun p hp ho=>?_,?_,?_,?_,?_,?_,fun c=>?_⟩
  · rcases ho with ho |ho
    · exact e1 p hp (by omega)
    · exact e4 p hp (by omega)
  · intro p q x y p0 p1 pq q1 hx hy
    rw [e1 p p0 (by omega)] at hx
    rw [e1 q (by omega) q1] at hy
    exact s1 p q x y p0 p1 pq (by omega) hx hy
  · intro p q x y p0 p1 pq q1 hx hy
    rw [e2 p p1 (by omega)] at hx
    rw [e2 q (by omega) q1] at hy
    exact s2 _ _ x y (by omega) (by omega) (by omega) (by omega) hx hy
  · intro p q x y p0 p1 pq q1 hx hy
    rw [e3 p p1 (by omega)] at hx
    rw [e3 q (by omega) q1] at hy
    exact s1 _ _ x y (by omega) (by omega) (by omega) (by omega) hx hy
  · intro p q x y p0 p1 pq q1 hx hy
    rw [e4 p p0 p1] at hx
    rw [e4 q (by omega) (by omega)] at hy
    exact s2 _ _ x y p0 (by omega) pq q1 hx hy
  · intro p q x y p1 p2 q1 q2 hx hy
    by_cases hp:p<st
    · rw [e1 p (by omega) hp] at hx
      by_cases hq:q<en
      · rw [e3 q q1 hq] at hy
        exact s1.le (by omega) p1 (by omega) (by omega) hx hy
      · rw [e4 q (by omega) (by omega)] at hy
        obtain ⟨u,hu⟩:=atI_some (xs:=xs) (p:=st-1) (by omega) (by omega)
        obtain ⟨v,hv⟩:=atI_some (xs:=xs) (p:=en) (by omega) (by omega)
        have hs:=c1 (st-1) u v (by omega) (by omega) hu (by rw [←hv]<;>(congr 1;omega))
        have l1:=s1.le (by omega) p1 (by omega:p≤st-1) (by omega) hx hu
        have l2:=s2.le (by omega) (by omega) (by omega:en≤q) q2 hv hy
        omega
    · rw [e2 p (by omega) p2] at hx
      by_cases hq:q<en
      · rw [e3 q q1 hq] at hy
        have:=strict _ _ y x (by omega) (by omega) (by omega) (by omega) hy hx
        omega
      · rw [e4 q (by omega) (by omega)] at hy
        exact s2.le (by omega) (by omega) (by omega) q2 hx hy
  · obtain ⟨s',rfl⟩:=Int.eq_ofNat_of_zero_le (show 0≤st by omega)
    obtain ⟨m',rfl⟩:=Int.eq_ofNat_of_zero_le (show 0≤m by omega)
    obtain ⟨e',rfl⟩:=Int.eq_ofNat_of_zero_le (show 0≤en by omega)
    refine Rotated.filter ⟨hl,hr2⟩ (by omega) (by omega) (by omega) (fun p q x y p1 p2 q1 q2 hx hy=>?_) c
    exact strict p q x y (by omega) (by omega) (by omega) (by omega) (by rw [atI_nat];exact hx) (by rw [atI_nat];exact hy)
theorem Halves.merge {key:α→Int} {xs ys zs ws:List α} {a st mid en b:Int} (h:Halves key xs ys a st mid en b) (h0:0≤a) (ham:a≤mid) (hmb:mid≤b) (hz:SortedSeg key ys zs a mid) (hw:SortedSeg key zs ws mid b):SortedSeg key xs ws a b:=by
  obtain ⟨a,rfl⟩:=Int.eq_ofNat_of_zero_le h0
  obtain ⟨mid,rfl⟩:=Int.eq_ofNat_of_zero_le (show 0≤mid by omega)
  obtain ⟨b,rfl⟩:=Int.eq_ofNat_of_zero_le (show 0≤b by omega)
  refine .mk2 (by rw [hw.1,hz.1,h.len]) (fun p hp ho=>?_) ?_ fun c=>by rw [hw.2.2.2,hz.2.2.2,h.fil]
  · rw [hw.out hp (by omega),hz.out hp (by omega),h.out p hp ho]
  · intro p q x y p0 p1 pq q1 hx hy
    by_cases hq:q<mid
    · rw [hw.out p0 (by omega)] at hx
      rw [hw.out (by omega) (by omega)] at hy
      exact hz.rises p q x y p0 p1 pq hq hx hy
    · by_cases hp:p<mid
      · rw [hw.out p0 (by omega)] at hx
        obtain ⟨p,rfl⟩:=Int.eq_ofNat_of_zero_le p0
        obtain ⟨q,rfl⟩:=Int.eq_ofNat_of_zero_le (show 0≤q by omega)
        rw [atI_nat] at hx hy
        obtain ⟨p',x',u1,u2,u3,u4⟩:=hz.mem (by omega) (by omega) (by omega) hx
        obtain ⟨q',y',v1,v2,v3,v4⟩:=hw.mem (by omega) (by omega) (by omega) hy
        rw [←atI_nat,hz.out (by omega) (by omega)] at v3
        rw [←u4,←v4]
        exact h.cross p' q' x' y' (by omega) (by omega) (by omega) (by omega) (by rw [atI_nat];exact u3) v3
      · exact hw.rises p q x y p0 (by omega) pq q1 hx hy
end Go.Ax.Law
namespace Go.Ax.Law
def SmallIdsB (xs:List Job):Prop:= ∀c∈xs,-9223372036854775808≤c.Id∧c.Id≤9223372036854775807
def InsPreB (xs:List Job) (a b:Int):Prop:=SmallIdsB xs∧0≤a∧a≤b∧b≤xs.length∧xs.length≤1099511627776
def SwapPreB (xs:List Job) (a b n:Int):Prop:=0≤a∧0≤b∧0≤n∧a+n≤xs.length∧b+n≤xs.length∧(a+n≤b∨b+n≤a)∧xs.length≤1099511627776
def RotPreB (xs:List Job) (a m b:Int):Prop:=0≤a∧a<m∧m<b∧b≤xs.length∧xs.length≤1099511627776
def SymPreB (N:Nat) (xs:List Job) (a m b:Int):Prop:=RotPreB xs a m b∧SmallIdsB xs∧(b-a).toNat<N∧Rises Law.keyJ xs a m∧Rises Law.keyJ xs m b
def StabPreB (xs:List Job):Prop:=SmallIdsB xs∧xs.length≤1099511627776
end Go.Ax.Law
namespace Go.Ax.Sp
def sInsB (f:FuncId):Sig:=⟨[(.row .job,true),(.int .i64,false),(.int .i64,false),(.fn f,false)],[]⟩
def oInsB (f:FuncId):(sInsB f).Out:=fun x k=>Law.InsPreB x.1 x.2.1 x.2.2.1∧ ∀ys,Law.SortedSeg Law.keyJ x.1 ys x.2.1 x.2.2.1→k (ys,()) ()
def lIns1B (f:FuncId):LoopAnn:={X:=List Job × Int × Int × Int,live:=fun x=>[(0,.sl 0 10 0 x.1.length),(1,.int .i64 x.2.1),(2,.int .i64 x.2.2.1),(3,.fn f []),(8,.int .i64 x.2.2.2)],heap:=fun x=>[some (.row .job x.1)]}
def lIns2B (f:FuncId):LoopAnn:={X:=List Job × Int × Int × Int × Int,live:=fun x=>[(0,.sl 0 10 0 x.1.length),(1,.int .i64 x.2.1),(2,.int .i64 x.2.2.1),(3,.fn f []),(8,.int .i64 x.2.2.2.1),(9,.int .i64 x.2.2.2.2)],heap:=fun x=>[some (.row .job x.1)]}
def sSortFB (f:FuncId):Sig:=⟨[(.row .job,true),(.fn f,false)],[]⟩
def sSwapRB (f:FuncId):Sig:=⟨[(.row .job,true),(.int .i64,false),(.int .i64,false),(.int .i64,false),(.fn f,false)],[]⟩
def oSwapRB (f:FuncId):(sSwapRB f).Out:=fun x k=>Law.SwapPreB x.1 x.2.1 x.2.2.1 x.2.2.2.1∧ ∀ys,Law.Swapped x.1 ys x.2.1 x.2.2.1 x.2.2.2.1→k (ys,()) ()
def lSwapRB:LoopAnn:={X:=List Job × Int × Int × Int × Int,live:=fun x=>[(0,.sl 0 10 0 x.1.length),(1,.int .i64 x.2.1),(2,.int .i64 x.2.2.1),(3,.int .i64 x.2.2.2.1),(10,.int .i64 x.2.2.2.2)],heap:=fun x=>[some (.row .job x.1)]}
def oRotB (f:FuncId):(sSwapRB f).Out:=fun x k=>Law.RotPreB x.1 x.2.1 x.2.2.1 x.2.2.2.1∧ ∀ys,Law.Rotated x.1 ys x.2.1 x.2.2.1 x.2.2.2.1→k (ys,()) ()
def lRotB (f:FuncId):LoopAnn:={X:=List Job × Int × Int × Int,live:=fun x=>[(0,.sl 0 10 0 x.1.length),(2,.int .i64 x.2.1),(4,.fn f []),(10,.int .i64 x.2.2.1),(11,.int .i64 x.2.2.2)],heap:=fun x=>[some (.row .job x.1)]}
def oSymB (f:FuncId) (N:Nat):(sSwapRB f).Out:=fun x k=>Law.SymPreB N x.1 x.2.1 x.2.2.1 x.2.2.2.1∧ ∀ys,Law.SortedSeg Law.keyJ x.1 ys x.2.1 x.2.2.2.1→k (ys,()) ()
def lSy1B (f:FuncId):LoopAnn:={X:=List Job × Int × Int × Int,live:=fun x=>[(0,.sl 0 10 0 x.1.length),(1,.int .i64 x.2.1),(4,.fn f []),(10,.int .i64 x.2.2.1),(11,.int .i64 x.2.2.2)],heap:=fun x=>[some (.row .job x.1)]}
def lSy2B:LoopAnn:={X:=List Job × Int × Int,live:=fun x=>[(0,.sl 0 10 0 x.1.length),(10,.int .i64 x.2.1),(13,.int .i64 x.2.2)],heap:=fun x=>[some (.row .job x.1)]}
def lSy3B (f:FuncId):LoopAnn:={X:=List Job × Int × Int × Int,live:=fun x=>[(0,.sl 0 10 0 x.1.length),(2,.int .i64 x.2.1),(4,.fn f []),(14,.int .i64 x.2.2.1),(15,.int .i64 x.2.2.2)],heap:=fun x=>[some (.row .job x.1)]}
def lSy4B:LoopAnn:={X:=List Job × Int × Int,live:=fun x=>[(0,.sl 0 10 0 x.1.length),(14,.int .i64 x.2.1),(17,.int .i64 x.2.2)],heap:=fun x=>[some (.row .job x.1)]}
def lSy5B (f:FuncId):LoopAnn:={X:=List Job × Int × Int × Int × Int × Int × Int × Int × Int,live:=fun x=>[(0,.sl 0 10 0 x.1.length),(1,.int .i64 x.2.1),(2,.int .i64 x.2.2.1),(3,.int .i64 x.2.2.2.1),(4,.fn f []),(18,.int .i64 x.2.2.2.2.1),(19,.int .i64 x.2.2.2.2.2.1),(20,.int .i64 x.2.2.2.2.2.2.1),(21,.int .i64 x.2.2.2.2.2.2.2.1),(22,.int .i64 x.2.2.2.2.2.2.2.2)],heap:=fun x=>[some (.row .job x.1)]}
def sStabB (f:FuncId):Sig:=⟨[(.row .job,true),(.int .i64,false),(.fn f,false)],[]⟩
def oStabB (f:FuncId):(sStabB f).Out:=fun x k=>(Law.StabPreB x.1∧x.2.1=x.1.length)∧ ∀ys,Law.SortedSeg Law.keyJ x.1 ys 0 x.1.length→k (ys,()) ()
def lSt1B (f:FuncId):LoopAnn:={X:=List Job × Int × Int × Int × Int,live:=fun x=>[(0,.sl 0 10 0 x.1.length),(1,.int .i64 x.2.1),(2,.fn f []),(6,.int .i64 x.2.2.1),(7,.int .i64 x.2.2.2.1),(8,.int .i64 x.2.2.2.2)],heap:=fun x=>[some (.row .job x.1)]}
def lSt2B (f:FuncId):LoopAnn:={X:=List Job × Int × Int,live:=fun x=>[(0,.sl 0 10 0 x.1.length),(1,.int .i64 x.2.1),(2,.fn f []),(6,.int .i64 x.2.2)],heap:=fun x=>[some (.row .job x.1)]}
def oStabFB (f:FuncId):(sSortFB f).Out:=fun x k=>Law.StabPreB x.1∧ ∀ys,Law.SortedSeg Law.keyJ x.1 ys 0 x.1.length→k (ys,()) ()
end Go.Ax.Sp
namespace Go.Ax
def cutSpec (k:EK) (n:Nat):SpecT:=fun args H K=>match args with
 | [.imm k' xs]=>if h:k'=k then forceL (List.range H.length) fun T=>K (.imm k ((h▸xs:List k.T).take n)) H T else False
 |_=>False
variable [Surr]
theorem cut_sound {E:LEnv} (hE:E.toEnv.OK) {f:FuncId} {fn:Func} (hf:E.P.funcs[f]? =some fn) {k:EK} {n:Nat}
  (hb: ∀(xs:List k.T) (H:AHeap) (K:AV→AHeap→List Nat→Prop),inlSpec E fn [.imm k xs] H K=forceL (List.range H.length) fun T=>br (decide ((xs.length:Int)>(n:Int))) (((0:Int)≤0∧(0:Int)≤(n:Int)∧(n:Int)≤xs.length)∧K (.imm k ((xs.take (Int.toNat (n:Int))).drop (Int.toNat 0))) H T) (K (.imm k xs) H T)):
  SpecOK E.P f (cutSpec k n):=by
 intro args H K h
 have hi:=inl_sound hE hf
 unfold cutSpec at h
 split at h
 ·rename_i k' xs
  split at h
  ·rename_i hk
   subst hk
   refine hi _ _ _ ?_
   rw [hb]
   simp only [forceL_eq] at h ⊢
   by_cases hl:(xs.length:Int)>(n:Int)
   ·simp only [hl,decide_true,br]
    exact ⟨⟨by decide,by omega,by omega⟩,by simpa using h⟩
   ·simp only [hl,decide_false,br]
    rw [List.take_of_length_le (by omega)] at h
    exact h
  ·exact h.elim
 ·exact h.elim
end Go.Ax
namespace Go.Ax.Law
def wholeF:Nat→Int→Work→Core→Int × Work × Core
 |0,_,w,c=>(0,w,c)
 |f+1,n,w,c=>if (stepW w c).1.done then (n,stepW w c) else wholeF f (n+1) (stepW w c).1 (stepW w c).2
def wholeW (w:Work) (c:Core):Int × Work × Core:=wholeF 1999 1 w c
def deedW (d:Deed):Work:=if d.Commit then newX d.X else newW d.R
def doD (c:Core) (d:Deed):Core:=(wholeW (deedW d) c).2.2
def madeC (n:Int) (l:List Deed):Core:=(l.take 60).foldl doD (newCore n)
def eqJ (a b:Job):Bool:=a.Id==b.Id&&(a.User==b.User&&(a.Width==b.Width&&(a.Limit==b.Limit&&(a.Prio==b.Prio&&(a.State==b.State&&(a.Start==b.Start&&(a.End==b.End&&(a.Plan==b.Plan&&(a.Nodes==b.Nodes&&true)))))))))
def eqS (a b:Step):Bool:=a.At==b.At&&(a.Free==b.Free&&true)
def sameJ:List Job→List Job→Bool
 | [],[]=>true
 |a::l,b::r=>eqJ a b&&sameJ l r
 |_,_=>false
def sameS:List Step→List Step→Bool
 | [],[]=>true
 |a::l,b::r=>eqS a b&&sameS l r
 |_,_=>false
end Go.Ax.Law
namespace Go.Ax.Sp
def sWhole:Sig:=⟨[(.obj .core,true),(.obj .work,true)],[.int .i64]⟩
def PreWh (w:Work) (c:Core):Prop:=Law.CW c∧Law.WW w∧c.P.steps.length≤4294900000
def oWhole:sWhole.Out:=fun x k=>PreWh x.2.1 x.1∧k ((Law.wholeW x.2.1 x.1).2.2,(Law.wholeW x.2.1 x.1).2.1,()) ((Law.wholeW x.2.1 x.1).1,())
def lWhole:LoopAnn:={X:=Core × Work × Int,live:=fun x=>[(0,.ptr ⟨0,0,0,0⟩),(1,.ptr ⟨1,0,0,0⟩),(5,.int .i64 x.2.2)],heap:=fun x=>[some (.obj .core x.1),some (.obj .work x.2.1)],norm:=[.fold 0 .core,.fold 1 .work]}
def sMade:Sig:=⟨[(.int .i64,false),(.imm .deed,false)],[.opt .core]⟩
def oMade:sMade.Out:=fun x k=>((x.1<1∨64<x.1)→k () (none,()))∧(1≤x.1∧x.1≤64→k () (some (Law.madeC x.1 x.2.1),()))
def lMade:LoopAnn:={X:=List Deed × Core × Int,live:=fun x=>[(1,.imm .deed x.1),(5,.ptr ⟨0,0,0,0⟩),(7,.int .i64 x.2.2)],heap:=fun x=>[some (.obj .core x.2.1)],norm:=[.fold 0 .core]}
def sYes:Sig:=⟨[],[.bool]⟩
def oYes:sYes.Out:=fun _ k=>k () (true,())
def sSameJ:Sig:=⟨[(.imm .job,false),(.imm .job,false)],[.bool]⟩
def oSameJ:sSameJ.Out:=fun x k=>(x.1.length≤1099511627776)∧k () (Law.sameJ x.1 x.2.1,())
def lSameJ:LoopAnn:={X:=List Job × List Job × Int,live:=fun x=>[(0,.imm .job x.1),(1,.imm .job x.2.1),(5,.int .i64 x.2.2)],heap:=fun _=>[]}
def sSameS:Sig:=⟨[(.imm .step,false),(.imm .step,false)],[.bool]⟩
def oSameS:sSameS.Out:=fun x k=>(x.1.length≤1099511627776)∧k () (Law.sameS x.1 x.2.1,())
def lSameS:LoopAnn:={X:=List Step × List Step × Int,live:=fun x=>[(0,.imm .step x.1),(1,.imm .step x.2.1),(5,.int .i64 x.2.2)],heap:=fun _=>[]}
def sWants:Sig:=⟨[(.int .i64,false),(.imm .deed,false),(.elem .req,false)],[.bool]⟩
def oWants:sWants.Out:=fun _ k=>k () (true,())
def sTwins:Sig:=⟨[(.int .i64,false),(.imm .deed,false),(.imm .deed,false)],[.bool]⟩
def oTwins:sTwins.Out:=fun _ k=>k () (true,())
def lTwins:LoopAnn:={X:=Core × List Job × List Step × Core × List Deed × Int,live:=fun x=>[(2,.imm .deed x.2.2.2.2.1),(7,.ptr ⟨0,0,0,0⟩),(8,.sl 1 10 0 x.2.1.length),(9,.sl 2 2 0 x.2.2.1.length),(10,.ptr ⟨6,0,0,0⟩),(11,.int .i64 x.2.2.2.2.2)],heap:=fun x=>[some (.obj .core x.1),some (.row .job x.2.1),some (.row .step x.2.2.1),none,none,none,some (.obj .core x.2.2.2.1)],norm:=[.fold 0 .core,.home 8 1,.home 9 2,.fold 6 .core]}
end Go.Ax.Sp
