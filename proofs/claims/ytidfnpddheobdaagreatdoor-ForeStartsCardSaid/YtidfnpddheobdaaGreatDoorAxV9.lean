import Derived.Test.YtidfnpddheobdaaGreatDoorAxG
import Derived.KernelRfl
import Derived.Test.YtidfnpddheobdaaGreatDoorAxPA
import Derived.Test.YtidfnpddheobdaaGreatDoorAxP6
set_option linter.all false
namespace Go.Ax
variable [Surr]
theorem addK {P:Program} {ek:List (TypeId × EK)} {L:List (FuncId × SpecT)} (h0:Env.OK {P:=P,spec:=L,ek:=ek}) (lo:List (Nat × LoopAnn)) (b:Bool) {f:FuncId} {fn:Func} {S:Sig} {out:S.Out} {V:S.X→(keepT S.args→prodT S.ret→Prop)→Prop}
  (hO: ∀{x k},out x k→V x k) (hV: ∀x k,V x k=S.case {P:=P,spec:=L,ek:=ek,loops:=lo,n0:=0,sharp:=b} fn x k:=by intro x k;kernel_rfl)
  (hf:P.funcs[f]? =some fn:=by kernel_rfl) (hb:fn.body.isSome=true:=by kernel_rfl) (hn:(fn.name== "runtime.NumGoroutine")=false:=by kernel_rfl) (hS:S.ok=true:=by rfl):
  Env.OK {P:=P,spec:=(f,S.spec out)::L,ek:=ek}:=
 Env.OK.cons h0 hf hb hn (Sig.sound (E:={P:=P,spec:=L,ek:=ek,loops:=lo,n0:=0,sharp:=b}) h0 hf hS fun x k h=>(hV x k)▸hO h)
end Go.Ax
namespace Go.Ax.V
@[reducible] def LP (X:Type) (E:X→Prop) (B:(X→Prop)→(X→Nat)→X→Prop):Prop:= ∃(I:X→Prop) (m:X→Nat) (x:X),I x∧E x∧ ∀(x:X),I x→B I m x
@[reducible] def NX {X:Type} (I:X→Prop) (m:X→Nat) (x:X) (E:X→Prop):Prop:= ∃y,I y∧E y∧m y<m x
@[reducible] def AT {α:Type} (l:List α) (i:Int) (K:α→Prop):Prop:=(0≤i∧i<(l.length:Int))∧0+i.toNat<l.length∧ ∀e,l[0+i.toNat]? =some e→K e
@[reducible] def AI {α:Type} (l:List α) (i:Int) (K:α→Prop):Prop:=(0≤i∧i<(l.length:Int))∧ ∀e,l[i.toNat]? =some e→K e
@[reducible] def NM (a:Int) (K:Int→Prop):Prop:= ∀n,n=IntKind.wrap .i64 a→K n
@[reducible] def SH {α:Type} (a:α) (K:α→Prop):Prop:=K a
@[reducible] def LN {α:Type} (l:List α):Int:=(l.length:Int)
end Go.Ax.V
namespace Go.Ax.Law
def cntN (p:Nat→Bool):Nat→Int
 |0=>0
 |n+1=>cntN p n+(if p n then 1 else 0)
def plannedJ (j:Job):Bool:=decide (j.State=1)&&decide (0≤j.Plan)
def runsOn (k:Int) (j:Job):Bool:=decide (j.State=3)&&hasB j.Nodes k
def holdI (l:List Job) (k:Int):Int:=match l.findIdx? (runsOn k) with |some i=>(i:Int) |none=> -1
def drainB (m:Model) (k:Nat):Bool:=m.Drain.getD k false
def stateM (m:Model) (k:Int):Int:=
 if k<0∨(m.Drain.length:Int)≤k then 0
 else if decide (0≤holdI m.L k)&&drainB m k.toNat then 3 else if 0≤holdI m.L k then 2 else if drainB m k.toNat then 4 else 1
def openM (m:Model) (t:Int) (k:Nat):Bool:=!drainB m k&&(match m.L.find? (runsOn (k:Int)) with |none=>true |some j=>decide (j.End≤t))
def planAt (t but:Int) (j:Job):Int:=if plannedJ j=true∧j.Id≠but∧j.Plan≤t∧t<j.Plan+j.Limit then j.Width else 0
def planSum (t but:Int):List Job→Int
 | []=>0
 |j::r=>planAt t but j+planSum t but r
def freeM (m:Model) (t but:Int):Int:=cntN (openM m t) m.Drain.length-planSum t but m.L
def sooner (best t last:Int):Int:=if last<t∧(best<0∨t<best) then t else best
def best1 (last b:Int) (j:Job):Int:=
 let b1:=if j.State=3 then sooner b j.End last else b
 if plannedJ j then sooner (sooner b1 j.Plan last) (j.Plan+j.Limit) last else b1
def bestT (l:List Job) (last:Int):Int:=l.foldl (best1 last) (-1)
def timesF (l:List Job):Nat→Int→List Int
 |0,_=>[]
 |f+1,last=>if bestT l last<0 then [] else bestT l last::timesF l f (bestT l last)
def timesM (m:Model):List Int:=m.Now::timesF m.L (2*m.L.length) m.Now
def step1 (m:Model) (out:List Step) (t:Int):List Step:=
 match out.getLast? with
 |none=>out++[⟨t,freeM m t 0⟩]
 |some s=>if s.Free=freeM m t 0 then out else out++[⟨t,freeM m t 0⟩]
def stepsM (m:Model):List Step:=(timesM m).foldl (step1 m) []
def roomOK (m:Model) (at_ long width but:Int) (t:Int):Bool:=!(decide (at_<t)&&decide (t<at_+long)&&decide (freeM m t but<width))
def roomM (m:Model) (at_ long width but:Int):Bool:=if freeM m at_ but<width then false else (timesM m).all (roomOK m at_ long width but)
def getM (m:Model) (id:Int):Job × Bool:=if id<1∨(m.L.length:Int)<id then (job0,false) else match m.L[(id-1).toNat]? with |some j=>(j,true) |none=>(job0,false)
def fitsM (m:Model) (x:Choice):Bool:=
 let j:=(getM m x.Id).1
 if m.Closed=true∨(getM m x.Id).2=false∨j.State≠1∨x.At<m.Now∨1099511627776<x.At∨(0≤j.Plan∧j.Plan≤x.At) then false
 else roomM m x.At j.Limit j.Width j.Id
def aheadJ (a b:Job):Bool:=decide (b.Prio<a.Prio)||(decide (a.Prio=b.Prio)&&decide (a.Id<b.Id))
def dropJ (j x:Job):Job:=if plannedJ x&&(decide (j.Id=0)||aheadJ j x) then {x with Plan:= -1} else x
def dropM (m:Model) (j:Job):Model:={m with L:=m.L.map (dropJ j)}
def pickN (p:Nat→Bool) (w:Int):Nat→Int × Int
 |0=>(0,0)
 |n+1=>if (pickN p w n).2<w∧p n=true then ((pickN p w n).1+((2^n:Nat):Int),(pickN p w n).2+1) else pickN p w n
def idleM (m:Model) (k:Nat):Bool:=decide (stateM m (k:Int)=1)
def beginJm (m:Model) (j:Job):Job:={j with State:=3,Start:=m.Now,End:=m.Now+j.Limit,Plan:= -1,Nodes:=(pickN (idleM m) j.Width m.Drain.length).1}
def beginM (m:Model) (i:Int):Model:=match m.L[i.toNat]? with |some j=>{m with L:=m.L.set i.toNat (beginJm m j)} |none=>m
def commitM (m:Model) (x:Choice):Bool × Model:=
 if fitsM m x=false then (false,m) else if x.At=m.Now then (true,beginM m (x.Id-1)) else (true,{m with L:=m.L.set (x.Id-1).toNat {(getM m x.Id).1 with Plan:=x.At}})
def liveJ (j:Job):Bool:=decide (j.State<4)
def liveN (l:List Job):Int:=(l.countP liveJ:Nat)
def submitM (m:Model) (r:Req):Reply × Model:=
 if r.User<0∨255<r.User∨r.Prio<0∨1000<r.Prio then (failR 1,m)
 else if r.Width<1∨(m.Drain.length:Int)<r.Width then (failR 9,m)
 else if r.Limit<1∨1048576<r.Limit then (failR 10,m)
 else if 63<liveN m.L∨1023<(m.L.length:Int) then (failR 6,m)
 else let j:=newJ m.L r
  let m1:={m with L:=m.L++[j]}
  (tellR j,if r.Held then m1 else dropM m1 j)
def endM (m:Model) (r:Req):Reply × Model:=
 let j:=(getM m r.Id).1
 if (getM m r.Id).2=false then (failR 7,m) else if 3<j.State∨(r.Kind=5∧j.State≠3) then (failR 8,m)
 else let j1:={j with End:=if j.State=3 then m.Now else j.End,Plan:= -1,State:=if r.Kind=5 then 4 else 5}
  (tellR j1,{m with L:=m.L.set (r.Id-1).toNat j1})
def turnM (m:Model) (r:Req):Reply × Model:=
 let j:=(getM m r.Id).1
 if (getM m r.Id).2=false then (failR 7,m) else if (r.Kind=3∧j.State≠1)∨(r.Kind=4∧j.State≠2) then (failR 8,m)
 else let j1:=if r.Kind=3 then {j with State:=2,Plan:= -1} else if r.Kind=4 then {j with State:=1} else j
  let m1:={m with L:=m.L.set (r.Id-1).toNat j1}
  (tellR j1,if r.Kind=4 then dropM m1 j1 else m1)
def nodeM (m:Model) (r:Req):Reply × Model:=
 if r.Node<0∨(m.Drain.length:Int)≤r.Node then (failR 11,m)
 else if drainB m r.Node.toNat=decide (r.Kind=7) then (failR 8,m)
 else let m1:=if r.Kind=7 then dropM m job0 else m
  let m2:={m1 with Drain:=m1.Drain.set r.Node.toNat (decide (r.Kind=7))}
  ({reply0 with Id:=r.Node,State:=stateM m2 r.Node},m2)
def next1 (now b:Int) (j:Job):Int:=
 let b1:=if j.State=3 then sooner b j.End now else b
 if plannedJ j then sooner b1 j.Plan now else b1
def nextM (m:Model):Int:=m.L.foldl (next1 m.Now) (-1)
def overJ (now:Int) (j:Job):Job:=if j.State=3∧j.End=now then {j with State:=6} else j
def dueJ (now:Int) (j:Job):Bool:=plannedJ j&&decide (j.Plan=now)
def selN (now:Int) (l:List Job):Nat→Int
 |0=> -1
 |n+1=>match l[n]? with
  |some j=>if dueJ now j=true∧(selN now l n<0∨aheadJ j (l.getD (selN now l n).toNat job0)=true) then (n:Int) else selN now l n
  |none=>selN now l n
def beginF:Nat→Model→Model
 |0,m=>m
 |f+1,m=>beginF f (if 0≤selN m.Now m.L m.L.length then beginM m (selN m.Now m.L m.L.length) else m)
def happenM (m:Model):Model:=beginF m.L.length {m with L:=m.L.map (overJ m.Now)}
def tickF:Nat→Int→Model→Model
 |0,_,m=>m
 |f+1,to,m=>if nextM m<0∨to<nextM m then m else tickF f to (happenM {m with Now:=nextM m})
def tickM (m:Model) (by_:Int):Reply × Model:=
 if by_<1∨1099511627776-m.Now<by_ then (failR 10,m)
 else let m1:={tickF (2*m.L.length+1) (m.Now+by_) m with Now:=m.Now+by_}
  ({reply0 with Start:=m1.Now,A:=freeM m1 m1.Now 0},m1)
def countM (m:Model) (jobs:Bool) (a b:Int):Int:=
 if jobs then cntJ m.L a else cntN (fun k=>decide (stateM m (k:Int)=a)||decide (stateM m (k:Int)=b)) m.Drain.length
def doM (m:Model) (r:Req):Reply × Model:=
 if m.Closed then (failR 12,m)
 else if r.Kind=1 then submitM m r
 else if r.Kind=2∨r.Kind=5 then endM m r
 else if r.Kind=3∨r.Kind=4∨r.Kind=6 then turnM m r
 else if r.Kind=7∨r.Kind=8 then nodeM m r
 else if r.Kind=9 then tickM m r.By
 else if r.Kind=10 then (threeR (countM m false 1 1) (countM m false 2 3) (countM m false 4 4),m)
 else if r.Kind=11 then (threeR (countM m true 1 1) (countM m true 2 2) (countM m true 3 3),m)
 else if r.Kind=12 then ({reply0 with Start:=m.Now,A:=freeM m m.Now 0},m)
 else if r.Kind=13 then (reply0,{m with Closed:=true})
 else (failR 4,m)
def newM (n:Int):Model:=⟨0,List.replicate n.toNat false,[],false⟩
def MJ (j:Job):Prop:=U64 j.Nodes∧1≤j.State∧j.State≤6∧ -1≤j.Plan∧j.Plan≤1099511627776∧0≤j.Limit∧j.Limit≤1048576∧0≤j.Width∧j.Width≤64∧ -1≤j.End∧j.End≤1099512676352
def MW (m:Model):Prop:=m.L.length≤1024∧1≤m.Drain.length∧m.Drain.length≤64∧0≤m.Now∧m.Now≤1099511627776∧ ∀j∈m.L,MJ j
end Go.Ax.Law
namespace Go.Ax.Sp
abbrev mv (m:Model):AV:= .cptr ((OK.unf .model m).map (viewFld 8)) 0
def sHasM:Sig:=⟨[(.int .u64,false),(.int .i64,false)],[.bool]⟩
def oHasM:sHasM.Out:=fun x k=>(Law.U64 x.1∧0≤x.2.1∧x.2.1≤1000)∧k () (Law.hasB x.1 x.2.1,())
def lHasM:LoopAnn:={X:=Int × Int × Int,live:=fun x=>[(0,.int .u64 x.1),(1,.int .i64 x.2.1),(5,.int .i64 x.2.2)],heap:=fun _=>[]}
def sHoldM:Sig:=⟨[(.view .model,false),(.int .i64,false)],[.int .i64]⟩
def oHoldM:sHoldM.Out:=fun x k=>(Law.MW x.1∧0≤x.2.1∧x.2.1≤1000)∧k () (Law.holdI x.1.L x.2.1,())
def lHoldM:LoopAnn:={X:=Model × Int × Int,live:=fun x=>[(0,mv x.1),(1,.int .i64 x.2.1),(5,.int .i64 x.2.2)],heap:=fun _=>[]}
def oStateM:sHoldM.Out:=fun x k=>Law.MW x.1∧k () (Law.stateM x.1 x.2.1,())
def sPlanned:Sig:=⟨[(.elem .job,false)],[.bool]⟩
def oPlanned:sPlanned.Out:=fun x k=>k () (Law.plannedJ x.1,())
def sFreeM:Sig:=⟨[(.view .model,false),(.int .i64,false),(.int .i64,false)],[.int .i64]⟩
def oFreeM:sFreeM.Out:=fun x k=>Law.MW x.1∧k () (Law.freeM x.1 x.2.1 x.2.2.1,())
def lFree1:LoopAnn:={X:=Model × Int × Int × Int × Int,live:=fun x=>[(0,mv x.1),(1,.int .i64 x.2.1),(2,.int .i64 x.2.2.1),(7,.int .i64 x.2.2.2.1),(8,.int .i64 x.2.2.2.2)],heap:=fun _=>[]}
def lFree2:LoopAnn:={X:=Model × Int × Int × Int × Int,live:=fun x=>[(0,mv x.1),(1,.int .i64 x.2.1),(2,.int .i64 x.2.2.1),(7,.int .i64 x.2.2.2.1),(10,.int .i64 x.2.2.2.2)],heap:=fun _=>[]}
def sSooner:Sig:=⟨[(.int .i64,false),(.int .i64,false),(.int .i64,false)],[.int .i64]⟩
def oSooner:sSooner.Out:=fun x k=>k () (Law.sooner x.1 x.2.1 x.2.2.1,())
def sTimesM:Sig:=⟨[(.view .model,false)],[.row .i64]⟩
def oTimesM:sTimesM.Out:=fun x k=>Law.MW x.1∧k () (Law.timesM x.1,())
def lTimes1:LoopAnn:={X:=Model × List Int × Int,live:=fun x=>[(0,mv x.1),(3,.sl 0 1 0 x.2.1.length),(4,.int .i64 x.2.2)],heap:=fun x=>[some (.row .i64 x.2.1)],norm:=[.home 3 0]}
def lTimes2:LoopAnn:={X:=Model × List Int × Int × Int × Int × Int,live:=fun x=>[(0,mv x.1),(3,.sl 0 1 0 x.2.1.length),(4,.int .i64 x.2.2.1),(5,.int .i64 x.2.2.2.1),(6,.int .i64 x.2.2.2.2.1),(7,.int .i64 x.2.2.2.2.2)],heap:=fun x=>[some (.row .i64 x.2.1)]}
def sStepsM:Sig:=⟨[(.view .model,false)],[.row .step]⟩
def oStepsM:sStepsM.Out:=fun x k=>Law.MW x.1∧k () (Law.stepsM x.1,())
def lStepsM:LoopAnn:={X:=Model × List Int × List Step × Int,live:=fun x=>[(0,mv x.1),(3,.sl 1 2 0 x.2.2.1.length),(4,.sl 0 1 0 x.2.1.length),(5,.int .i64 x.2.2.2)],heap:=fun x=>[some (.row .i64 x.2.1),some (.row .step x.2.2.1)],norm:=[.home 4 0,.row 3 .step,.home 3 1]}
def sRoomM:Sig:=⟨[(.view .model,false),(.int .i64,false),(.int .i64,false),(.int .i64,false),(.int .i64,false)],[.bool]⟩
def oRoomM:sRoomM.Out:=fun x k=>(Law.MW x.1∧0≤x.2.1∧x.2.1≤1099511627776∧0≤x.2.2.1∧x.2.2.1≤1048576)∧k () (Law.roomM x.1 x.2.1 x.2.2.1 x.2.2.2.1 x.2.2.2.2.1,())
def lRoomM:LoopAnn:={X:=Model × Int × Int × Int × Int × List Int × Int,live:=fun x=>[(0,mv x.1),(1,.int .i64 x.2.1),(2,.int .i64 x.2.2.1),(3,.int .i64 x.2.2.2.1),(4,.int .i64 x.2.2.2.2.1),(11,.sl 0 1 0 x.2.2.2.2.2.1.length),(12,.int .i64 x.2.2.2.2.2.2)],heap:=fun x=>[some (.row .i64 x.2.2.2.2.2.1)],norm:=[.home 11 0]}
def sGetM:Sig:=⟨[(.view .model,false),(.int .i64,false)],[.elem .job,.bool]⟩
def oGetM:sGetM.Out:=fun x k=>Law.MW x.1∧k () ((Law.getM x.1 x.2.1).1,(Law.getM x.1 x.2.1).2,())
def sFitsM:Sig:=⟨[(.view .model,false),(.elem .choice,false)],[.bool]⟩
def oFitsM:sFitsM.Out:=fun x k=>Law.MW x.1∧k () (Law.fitsM x.1 x.2.1,())
def sAhead:Sig:=⟨[(.elem .job,false),(.elem .job,false)],[.bool]⟩
def oAhead:sAhead.Out:=fun x k=>k () (Law.aheadJ x.1 x.2.1,())
def sDropM:Sig:=⟨[(.obj .model,true),(.elem .job,false)],[]⟩
def oDropM:sDropM.Out:=fun x k=>Law.MW x.1∧k (Law.dropM x.1 x.2.1,()) ()
def lDropM:LoopAnn:={X:=Model × Job × Int,live:=fun x=>[(0,.ptr ⟨0,0,0,0⟩),(3,.ptr ⟨1,0,0,0⟩),(4,.int .i64 x.2.2)],heap:=fun x=>[some (.obj .model x.1),some (.raw (EK.enc .job x.2.1))],norm:=[.fold 0 .model]}
def sBeginM:Sig:=⟨[(.obj .model,true),(.int .i64,false)],[]⟩
def oBeginM:sBeginM.Out:=fun x k=>(Law.MW x.1∧0≤x.2.1∧x.2.1<x.1.L.length)∧k (Law.beginM x.1 x.2.1,()) ()
def lBeginM:LoopAnn:={X:=Model × Int × Job × Int × Int × Int × Int,live:=fun x=>[(0,.ptr ⟨0,0,0,0⟩),(1,.int .i64 x.2.1),(4,.ptr ⟨3,0,0,0⟩),(5,.int .u64 x.2.2.2.1),(6,.int .u64 x.2.2.2.2.1),(7,.int .i64 x.2.2.2.2.2.1),(8,.int .i64 x.2.2.2.2.2.2)],heap:=fun x=>[some (.obj .model x.1),none,none,some (.raw (EK.enc .job x.2.2.1))],norm:=[.fold 0 .model]}
def sCommitM:Sig:=⟨[(.obj .model,true),(.elem .choice,false)],[.bool]⟩
def oCommitM:sCommitM.Out:=fun x k=>Law.MW x.1∧k ((Law.commitM x.1 x.2.1).2,()) ((Law.commitM x.1 x.2.1).1,())
def sTell:Sig:=⟨[(.elem .job,false)],[.elem .reply]⟩
def oTell:sTell.Out:=fun x k=>k () (Law.tellR x.1,())
def sLiveM:Sig:=⟨[(.view .model,false)],[.int .i64]⟩
def oLiveM:sLiveM.Out:=fun x k=>Law.MW x.1∧k () (Law.liveN x.1.L,())
def lLiveM:LoopAnn:={X:=Model × Int × Int,live:=fun x=>[(0,mv x.1),(3,.int .i64 x.2.1),(4,.int .i64 x.2.2)],heap:=fun _=>[]}
def sReqM:Sig:=⟨[(.obj .model,true),(.elem .req,false)],[.elem .reply]⟩
def oReqM (f:Model→Req→Reply × Model):sReqM.Out:=fun x k=>Law.MW x.1∧k ((f x.1 x.2.1).2,()) ((f x.1 x.2.1).1,())
def lNextM:LoopAnn:={X:=Model × Int × Int,live:=fun x=>[(0,mv x.1),(3,.int .i64 x.2.1),(4,.int .i64 x.2.2)],heap:=fun _=>[]}
def oNextM:sLiveM.Out:=fun x k=>Law.MW x.1∧k () (Law.nextM x.1,())
def sHapM:Sig:=⟨[(.obj .model,true)],[]⟩
def oHapM:sHapM.Out:=fun x k=>Law.MW x.1∧k (Law.happenM x.1,()) ()
def lHap1:LoopAnn:={X:=Model × Int,live:=fun x=>[(0,.ptr ⟨0,0,0,0⟩),(2,.int .i64 x.2)],heap:=fun x=>[some (.obj .model x.1)],norm:=[.fold 0 .model]}
def lHap2:LoopAnn:={X:=Model × Int,live:=fun x=>[(0,.ptr ⟨0,0,0,0⟩),(4,.int .i64 x.2)],heap:=fun x=>[some (.obj .model x.1)],norm:=[.fold 0 .model]}
def lHap3:LoopAnn:={X:=Model × Int × Int × Int,live:=fun x=>[(0,.ptr ⟨0,0,0,0⟩),(4,.int .i64 x.2.1),(5,.int .i64 x.2.2.1),(6,.int .i64 x.2.2.2)],heap:=fun x=>[some (.obj .model x.1)],norm:=[.fold 0 .model]}
def sTickM:Sig:=⟨[(.obj .model,true),(.int .i64,false)],[.elem .reply]⟩
def oTickM:sTickM.Out:=fun x k=>Law.MW x.1∧k ((Law.tickM x.1 x.2.1).2,()) ((Law.tickM x.1 x.2.1).1,())
def lTickM:LoopAnn:={X:=Model × Int × Int,live:=fun x=>[(0,.ptr ⟨0,0,0,0⟩),(4,.ptr ⟨1,0,0,0⟩),(5,.int .i64 x.2.1),(6,.int .i64 x.2.2)],heap:=fun x=>[some (.obj .model x.1),some (.raw (EK.enc .reply Law.reply0))],norm:=[.fold 0 .model]}
def sCountM:Sig:=⟨[(.view .model,false),(.bool,false),(.int .i64,false),(.int .i64,false)],[.int .i64]⟩
def oCountM:sCountM.Out:=fun x k=>Law.MW x.1∧k () (Law.countM x.1 x.2.1 x.2.2.1 x.2.2.2.1,())
def lCount1:LoopAnn:={X:=Model × Bool × Int × Int × Int × Int,live:=fun x=>[(0,mv x.1),(1,.bool x.2.1),(2,.int .i64 x.2.2.1),(3,.int .i64 x.2.2.2.1),(9,.int .i64 x.2.2.2.2.1),(10,.int .i64 x.2.2.2.2.2)],heap:=fun _=>[]}
def lCount2:LoopAnn:={X:=Model × Bool × Int × Int × Int × Int,live:=fun x=>[(0,mv x.1),(1,.bool x.2.1),(2,.int .i64 x.2.2.1),(3,.int .i64 x.2.2.2.1),(9,.int .i64 x.2.2.2.2.1),(11,.int .i64 x.2.2.2.2.2)],heap:=fun _=>[]}
def sNewM:Sig:=⟨[(.int .i64,false)],[.obj .model]⟩
def oNewM:sNewM.Out:=fun x k=>(0≤x.1∧x.1≤1000)∧k () (Law.newM x.1,())
end Go.Ax.Sp
namespace Go.Ax.Law
def tk {α:Type} (l:List α):List α:=List.take l.length (List.drop 0 l)
theorem tk_eq {α:Type} (l:List α):tk l=l:=by simp [tk]
end Go.Ax.Law
namespace Go.Ax.Law
variable {α:Type}
def atI (xs:List α) (p:Int):Option α:=xs[p.toNat]?
theorem atI_nat (xs:List α) (i:Nat):atI xs (i:Int)=xs[i]? :=by simp [atI]
def Swapped (xs ys:List α) (a b n:Int):Prop:=
  ys.length=xs.length∧ ∀p:Int,0≤p→atI ys p=if a≤p∧p<a+n then atI xs (p-a+b) else if b≤p∧p<b+n then atI xs (p-b+a) else atI xs p
def Rotated (xs ys:List α) (a m b:Int):Prop:=
  ys.length=xs.length∧ ∀p:Int,0≤p→atI ys p=if p<a∨b≤p then atI xs p else if p<a+(b-m) then atI xs (p+(m-a)) else atI xs (p-(b-m))
theorem Swapped.refl (xs:List α) (a b:Int):Swapped xs xs a b 0:=by
  refine ⟨rfl,fun p _=>?_⟩
  rw [if_neg (by omega),if_neg (by omega)]
theorem Swapped.step {xs ys:List α} {a b n:Int} {u v:α} (h:Swapped xs ys a b n) (ha:0≤a) (hb:0≤b) (hn:0≤n) (hab:a+n<b∨b+n<a) (hu:ys[(a+n).toNat]? =some u) (hv:ys[(b+n).toNat]? =some v):
    Swapped xs ((ys.set (a+n).toNat v).set (b+n).toNat u) a b (n+1):=by
  obtain ⟨h1,h2⟩:=h
  have l1:=(List.getElem?_eq_some_iff.1 hu).1
  have l2:=(List.getElem?_eq_some_iff.1 hv).1
  have hu':=h2 (a+n) (by omega)
  have hv':=h2 (b+n) (by omega)
  rw [if_neg (by omega),if_neg (by omega)] at hu' hv'
  have hu2:atI ys (a+n)=some u:=hu
  have hv2:atI ys (b+n)=some v:=hv
  rw [hu2] at hu'
  rw [hv2] at hv'
  refine ⟨by simpa using h1,fun p hp=>?_⟩
  have hg:atI ((ys.set (a+n).toNat v).set (b+n).toNat u) p=if p=b+n then some u else if p=a+n then some v else atI ys p:=by
    simp only [atI,List.getElem?_set,List.length_set]
    by_cases e1:p=b+n
    · rw [if_pos (by omega),if_pos l2,if_pos e1]
    · rw [if_neg (by omega),if_neg e1]
      by_cases e2:p=a+n
      · rw [if_pos (by omega),if_pos l1,if_pos e2]
      · rw [if_neg (by omega),if_neg e2]
  rw [hg,h2 p hp]
  by_cases e1:p=b+n
  · subst e1
    rw [if_pos rfl,if_neg (by omega),if_pos (by omega),hu']
    congr 1;omega
  · rw [if_neg e1]
    by_cases e2:p=a+n
    · subst e2
      rw [if_pos rfl,if_pos (by omega),hv']
      congr 1;omega
    · rw [if_neg e2]
      by_cases c1:a≤p∧p<a+n
      · rw [if_pos c1,if_pos (by omega)]
      · rw [if_neg c1]
        by_cases c2:b≤p∧p<b+n
        · rw [if_pos c2,if_neg (by omega),if_pos (by omega)]
        · rw [if_neg c2,if_neg (by omega),if_neg (by omega)]
theorem Rotated.one {xs ys:List α} {m i:Int} (hm:i≤m) (hi:0≤i) (h:Swapped xs ys (m-i) m i):Rotated xs ys (m-i) m (m+i):=by
  obtain ⟨h1,h2⟩:=h
  refine ⟨h1,fun p hp=>?_⟩
  rw [h2 p hp]
  by_cases c1:p<m-i∨m+i≤p
  · rw [if_neg (by omega),if_neg (by omega),if_pos c1]
  · rw [if_neg c1]
    by_cases c2:p<m
    · rw [if_pos (by omega),if_pos (by omega)]<;>(congr 1;omega)
    · rw [if_neg (by omega),if_pos (by omega),if_neg (by omega)]<;>(congr 1;omega)
theorem Rotated.left {xs cs ys:List α} {m i j:Int} (hm:i≤m) (hj:0≤j) (hij:j<i) (h:Swapped xs cs (m-i) m j) (hr:Rotated cs ys (m-(i-j)) m (m+j)):Rotated xs ys (m-i) m (m+j):=by
  obtain ⟨h1,h2⟩:=h
  obtain ⟨h3,h4⟩:=hr
  refine ⟨by rw [h3,h1],fun p hp=>?_⟩
  rw [h4 p hp]
  by_cases c1:p<m-i∨m+j≤p
  · rw [if_pos (by omega),if_pos c1,h2 p hp,if_neg (by omega),if_neg (by omega)]
  · rw [if_neg c1]
    by_cases c2:p<m-i+j
    · rw [if_pos (by omega),h2 p hp,if_pos (by omega),if_pos (by omega)]<;>(congr 1;omega)
    · rw [if_neg (by omega)]
      by_cases c3:p<m-(i-j)+j
      · rw [if_pos (by omega),h2 _ (by omega),if_neg (by omega),if_pos (by omega),if_neg (by omega)]<;>(congr 1;omega)
      · rw [if_neg (by omega),h2 _ (by omega),if_neg (by omega),if_neg (by omega),if_neg (by omega)]<;>(congr 1;omega)
theorem Rotated.right {xs cs ys:List α} {m i j:Int} (hm:i≤m) (hi:0≤i) (hij:i<j) (h:Swapped xs cs (m-i) (m+j-i) i) (hr:Rotated cs ys (m-i) m (m+(j-i))):Rotated xs ys (m-i) m (m+j):=by
  obtain ⟨h1,h2⟩:=h
  obtain ⟨h3,h4⟩:=hr
  refine ⟨by rw [h3,h1],fun p hp=>?_⟩
  rw [h4 p hp]
  by_cases c1:p<m-i∨m+j≤p
  · rw [if_pos (by omega),if_pos c1,h2 p hp,if_neg (by omega),if_neg (by omega)]
  · rw [if_neg c1]
    by_cases c2:m+(j-i)≤p
    · rw [if_pos (by omega),h2 p hp,if_neg (by omega),if_pos (by omega),if_neg (by omega)]<;>(congr 1;omega)
    · rw [if_neg (by omega)]
      by_cases c3:p<m-i+(j-i)
      · rw [if_pos (by omega),h2 _ (by omega),if_neg (by omega),if_neg (by omega),if_pos (by omega)]<;>(congr 1;omega)
      · rw [if_neg (by omega),h2 _ (by omega)]
        rw [if_pos (by omega),if_pos (by omega)]<;>(congr 1;omega)
def Rises (key:α→Int) (xs:List α) (a b:Int):Prop:= ∀(p q:Int) (x y:α),0≤p→a≤p→p<q→q<b→atI xs p=some x→atI xs q=some y→key x≤key y
theorem Rises.le {key:α→Int} {xs:List α} {a b:Int} (h:Rises key xs a b) {p q:Int} {x y:α} (h0:0≤p) (h1:a≤p) (h2:p≤q) (h3:q<b) (hx:atI xs p=some x) (hy:atI xs q=some y):key x≤key y:=by
  by_cases e:p=q
  · subst e;rw [hx] at hy;cases hy;exact Int.le_refl _
  · exact h p q x y h0 h1 (by omega) h3 hx hy
theorem SortedSeg.rises {key:α→Int} {xs ys:List α} {a b:Int} (h:SortedSeg key xs ys a b):Rises key ys a b:=by
  intro p q x y h0 h1 h2 h3 hx hy
  obtain ⟨p,rfl⟩:=Int.eq_ofNat_of_zero_le h0
  obtain ⟨q,rfl⟩:=Int.eq_ofNat_of_zero_le (show 0≤q by omega)
  rw [atI_nat] at hx hy
  exact h.2.2.1 p q x y h1 (by omega) h3 hx hy
theorem SortedSeg.out {key:α→Int} {xs ys:List α} {a b:Int} (h:SortedSeg key xs ys a b) {p:Int} (h0:0≤p) (hp:p<a∨b≤p):atI ys p=atI xs p:=by
  obtain ⟨p,rfl⟩:=Int.eq_ofNat_of_zero_le h0
  rw [atI_nat,atI_nat]
  exact h.2.1 p hp
theorem SortedSeg.mk2 {key:α→Int} {xs ys:List α} {a b:Int} (h1:ys.length=xs.length) (h2: ∀p:Int,0≤p→(p<a∨b≤p)→atI ys p=atI xs p) (h3:Rises key ys a b) (h4: ∀c,ys.filter (keyIs key c)=xs.filter (keyIs key c)):SortedSeg key xs ys a b:=
  ⟨h1,fun i hi=>by rw [←atI_nat,←atI_nat];exact h2 i (by omega) hi,fun i j x y ha hij hj hx hy=>h3 i j x y (by omega) ha (by omega) hj (by rw [atI_nat];exact hx) (by rw [atI_nat];exact hy),h4⟩
theorem SortedSeg.same {key:α→Int} {xs:List α} {a b:Int} (h:Rises key xs a b):SortedSeg key xs xs a b:= .mk2 rfl (fun _ _ _=>rfl) h fun _=>rfl
theorem split3 (xs:List α) (a b:Nat) (hab:a≤b):xs=xs.take a++(xs.drop a).take (b-a)++xs.drop b:=by
  have h1:xs.drop b=(xs.drop a).drop (b-a):=by rw [List.drop_drop]<;>(congr 1;omega)
  rw [List.append_assoc,h1,List.take_append_drop,List.take_append_drop]
theorem SortedSeg.mem {key:α→Int} {xs ys:List α} {a b:Nat} (h:SortedSeg key xs ys a b) (hab:a≤b) {i:Nat} {x:α} (hi:a≤i) (hi2:i<b) (hx:ys[i]? =some x): ∃(q:Nat) (y:α),a≤q∧q<b∧xs[q]? =some y∧key y=key x:=by
  obtain ⟨h1,h2,_,h4⟩:=h
  have ht:ys.take a=xs.take a:=by
    apply List.ext_getElem?
    intro p
    by_cases hp:p<a
    · rw [List.getElem?_take_of_lt hp,List.getElem?_take_of_lt hp]
      exact h2 p (by omega)
    · rw [List.getElem?_take_eq_none (by omega),List.getElem?_take_eq_none (by omega)]
  have hd:ys.drop b=xs.drop b:=by
    apply List.ext_getElem?
    intro p
    rw [List.getElem?_drop,List.getElem?_drop]
    exact h2 (b+p) (by omega)
  have hc:(ys.countP (keyIs key (key x)))=xs.countP (keyIs key (key x)):=by
    rw [List.countP_eq_length_filter,List.countP_eq_length_filter,h4]
  rw [split3 ys a b hab,split3 xs a b hab,ht,hd] at hc
  simp only [List.countP_append] at hc
  have hpos:0<((ys.drop a).take (b-a)).countP (keyIs key (key x)):=by
    rw [List.countP_pos_iff]
    refine ⟨x,?_,by simp [keyIs]⟩
    refine List.mem_iff_getElem?.2 ⟨i-a,?_⟩
    rw [List.getElem?_take_of_lt (by omega),List.getElem?_drop,show a+(i-a)=i by omega]
    exact hx
  have hpos2:0<((xs.drop a).take (b-a)).countP (keyIs key (key x)):=by omega
  rw [List.countP_pos_iff] at hpos2
  obtain ⟨y,hy,hk⟩:=hpos2
  obtain ⟨q,hq⟩:=List.mem_iff_getElem?.1 hy
  have hql:=(List.getElem?_eq_some_iff.1 hq).1
  simp only [List.length_take,List.length_drop] at hql
  rw [List.getElem?_take_of_lt (by omega),List.getElem?_drop] at hq
  exact ⟨a+q,y,by omega,by omega,hq,by simpa [keyIs] using hk⟩
theorem Rotated.filter {key:α→Int} {xs ys:List α} {s m e:Nat} (h:Rotated xs ys s m e) (hs:s≤m) (hm:m≤e) (he:e≤xs.length) (hlt: ∀(p q:Nat) (x y:α),s≤p→p<m→m≤q→q<e→xs[p]? =some x→xs[q]? =some y→key y<key x) (c:Int):
    ys.filter (keyIs key c)=xs.filter (keyIs key c):=by
  obtain ⟨h1,h2⟩:=h
  have hx:xs=xs.take s++(((xs.drop s).take (m-s)++(xs.drop m).take (e-m))++xs.drop e):=by
    have e1:=split3 xs s e (by omega)
    have e2:(xs.drop s).take (e-s)=(xs.drop s).take (m-s)++(xs.drop m).take (e-m):=by
      have:=List.take_add (l:=xs.drop s) (i:=m-s) (j:=e-m)
      rw [show m-s+(e-m)=e-s by omega,List.drop_drop,show s+(m-s)=m by omega] at this
      exact this
    rw [e2,List.append_assoc] at e1
    exact e1
  have hy:ys=xs.take s++(((xs.drop m).take (e-m)++(xs.drop s).take (m-s))++xs.drop e):=by
    apply List.ext_getElem?
    intro p
    have hp:=h2 (p:Int) (by omega)
    rw [atI_nat] at hp
    rw [hp]
    simp only [List.getElem?_append,List.length_append,List.length_take,List.length_drop]
    by_cases c1:p<s
    · rw [if_pos (by omega),if_pos (by omega),List.getElem?_take_of_lt c1,atI_nat]
    · rw [if_neg (by omega: ¬ p<min s xs.length)]
      by_cases c2:p<s+(e-m)
      · rw [if_neg (by omega),if_pos (by omega),if_pos (by omega),if_pos (by omega),List.getElem?_take_of_lt (by omega),List.getElem?_drop]
        simp only [atI]<;>(congr 1;omega)
      · by_cases c3:p<e
        · rw [if_neg (by omega),if_neg (by omega),if_pos (by omega),if_neg (by omega),List.getElem?_take_of_lt (by omega),List.getElem?_drop]
          simp only [atI]<;>(congr 1;omega)
        · rw [if_pos (by omega),if_neg (by omega),List.getElem?_drop]
          simp only [atI]<;>(congr 1;omega)
  rw [hy]
  conv=>rhs;rw [hx]
  simp only [List.filter_append]
  congr 1
  congr 1
  have hmem: ∀{l n:Nat} {z:α},z∈(xs.drop l).take n→ ∃q,l≤q∧q<l+n∧xs[q]? =some z:=by
    intro l n z hz
    obtain ⟨q,hq⟩:=List.mem_iff_getElem?.1 hz
    have hql:=(List.getElem?_eq_some_iff.1 hq).1
    simp only [List.length_take,List.length_drop] at hql
    rw [List.getElem?_take_of_lt (by omega),List.getElem?_drop] at hq
    exact ⟨l+q,by omega,by omega,hq⟩
  by_cases hA:((xs.drop s).take (m-s)).filter (keyIs key c)=[]
  · rw [hA];simp
  · have hB:((xs.drop m).take (e-m)).filter (keyIs key c)=[]:=by
      rw [List.filter_eq_nil_iff]
      intro y hy hky
      obtain ⟨x,hx⟩:=List.exists_mem_of_ne_nil _ hA
      obtain ⟨hx1,hx2⟩:=List.mem_filter.1 hx
      obtain ⟨p,p1,p2,p3⟩:=hmem hx1
      obtain ⟨q,q1,q2,q3⟩:=hmem hy
      have:=hlt p q x y p1 (by omega) q1 (by omega) p3 q3
      simp only [keyIs,decide_eq_true_eq] at hx2 hky
      omega
    rw [hB];simp
theorem atI_some {xs:List α} {p:Int} (h0:0≤p) (h:p<xs.length): ∃x,atI xs p=some x:=⟨_,List.getElem?_eq_getElem (by omega)⟩
theorem Rotated.triv {xs:List α} {s m e:Int} (h:s=m∨m=e) (hs:s≤m) (he:m≤e):Rotated xs xs s m e:=by
  refine ⟨rfl,fun p _=>?_⟩
  by_cases c1:p<s∨e≤p
  · rw [if_pos c1]
  · rw [if_neg c1]
    by_cases c2:p<s+(e-m)
    · rw [if_pos c2]<;>(congr 1;omega)
    · rw [if_neg c2]<;>(congr 1;omega)
structure Halves (key:α→Int) (xs ys:List α) (a st mid en b:Int):Prop where
  len:ys.length=xs.length
  out: ∀p:Int,0≤p→(p<a∨b≤p)→atI ys p=atI xs p
  r1:Rises key ys a st
  r2:Rises key ys st mid
  r3:Rises key ys mid en
  r4:Rises key ys en b
  cross: ∀(p q:Int) (x y:α),a≤p→p<mid→mid≤q→q<b→atI ys p=some x→atI ys q=some y→key x≤key y
  fil: ∀c,ys.filter (keyIs key c)=xs.filter (keyIs key c)
theorem halves {key:α→Int} {xs ys:List α} {a m b mid st en lo hi:Int} (h0:0≤a) (ham:a<m) (hmb:m<b) (hbl:b≤xs.length) (hm1:a<mid) (hm2:mid<b)
    (hlh:(mid<m∧lo=mid+m-b∧hi=mid)∨(m≤mid∧lo=a∧hi=m)) (hla:a≤lo) (hst1:lo≤st) (hst2:st≤hi) (hen:en=mid+m-st) (heb:en≤b)
    (s1:Rises key xs a m) (s2:Rises key xs m b)
    (c1: ∀(c:Int) (x y:α),lo≤c→c<st→atI xs c=some x→atI xs (mid+m-1-c)=some y→key x≤key y)
    (c2: ∀(c:Int) (x y:α),st≤c→c<hi→atI xs c=some x→atI xs (mid+m-1-c)=some y→key y<key x)
    (hr:Rotated xs ys st m en):Halves key xs ys a st mid en b:=by
  obtain ⟨hl,hr2⟩:=hr
  have e1: ∀p,0≤p→p<st→atI ys p=atI xs p:=fun p hp h=>by rw [hr2 p hp,if_pos (by omega)]
  have e4: ∀p,0≤p→en≤p→atI ys p=atI xs p:=fun p hp h=>by rw [hr2 p hp,if_pos (by omega)]
  have e2: ∀p,st≤p→p<mid→atI ys p=atI xs (p+(m-st)):=fun p h1 h2=>by rw [hr2 p (by omega),if_neg (by omega),if_pos (by omega)]
  have e3: ∀p,mid≤p→p<en→atI ys p=atI xs (p-(en-m)):=fun p h1 h2=>by rw [hr2 p (by omega),if_neg (by omega),if_neg (by omega)]
  have strict: ∀(p q:Int) (x y:α),st≤p→p<m→m≤q→q<en→atI xs p=some x→atI xs q=some y→key y<key x:=by
    intro p q x y p1 p2 q1 q2 hx hy
    obtain ⟨u,hu⟩:=atI_some (xs:=xs) (p:=st) (by omega) (by omega)
    obtain ⟨v,hv⟩:=atI_some (xs:=xs) (p:=en-1) (by omega) (by omega)
    have hs:=c2 st u v (Int.le_refl _) (by omega) hu (by rw [←hv]<;>(congr 1;omega))
    have l1:=s1.le (by omega) (by omega) p1 p2 hu hx
    have l2:=s2.le (by omega) q1 (by omega:q≤en-1) (by omega) hy hv
    omega
  refine ⟨hl,fun p hp ho=>?_,?_,?_,?_,?_,?_,fun c=>?_⟩
  · rcases ho with ho |ho
    · exact e1 p hp (by omega)
    · exact e4 p hp (by omega)
  · intro p q x y p0 p1 pq q1 hx hy
    rw [e1 p p0 (by omega)] at hx
    rw [e1 q (by omega) q1] at hy
    exact s1 p q x y p0 p1 pq (by omega) hx hy
  · intro p q x y p0 p1 pq q1 hx hy
    rw [e2 p p1 (by omega)] at hx
    rw [e2 q (by omega) q1] at hy
    exact s2 _ _ x y (by omega) (by omega) (by omega) (by omega) hx hy
  · intro p q x y p0 p1 pq q1 hx hy
    rw [e3 p p1 (by omega)] at hx
    rw [e3 q (by omega) q1] at hy
    exact s1 _ _ x y (by omega) (by omega) (by omega) (by omega) hx hy
  · intro p q x y p0 p1 pq q1 hx hy
    rw [e4 p p0 p1] at hx
    rw [e4 q (by omega) (by omega)] at hy
    exact s2 _ _ x y p0 (by omega) pq q1 hx hy
  · intro p q x y p1 p2 q1 q2 hx hy
    by_cases hp:p<st
    · rw [e1 p (by omega) hp] at hx
      by_cases hq:q<en
      · rw [e3 q q1 hq] at hy
        exact s1.le (by omega) p1 (by omega) (by omega) hx hy
      · rw [e4 q (by omega) (by omega)] at hy
        obtain ⟨u,hu⟩:=atI_some (xs:=xs) (p:=st-1) (by omega) (by omega)
        obtain ⟨v,hv⟩:=atI_some (xs:=xs) (p:=en) (by omega) (by omega)
        have hs:=c1 (st-1) u v (by omega) (by omega) hu (by rw [←hv]<;>(congr 1;omega))
        have l1:=s1.le (by omega) p1 (by omega:p≤st-1) (by omega) hx hu
        have l2:=s2.le (by omega) (by omega) (by omega:en≤q) q2 hv hy
        omega
    · rw [e2 p (by omega) p2] at hx
      by_cases hq:q<en
      · rw [e3 q q1 hq] at hy
        have:=strict _ _ y x (by omega) (by omega) (by omega) (by omega) hy hx
        omega
      · rw [e4 q (by omega) (by omega)] at hy
        exact s2.le (by omega) (by omega) (by omega) q2 hx hy
  · obtain ⟨s',rfl⟩:=Int.eq_ofNat_of_zero_le (show 0≤st by omega)
    obtain ⟨m',rfl⟩:=Int.eq_ofNat_of_zero_le (show 0≤m by omega)
    obtain ⟨e',rfl⟩:=Int.eq_ofNat_of_zero_le (show 0≤en by omega)
    refine Rotated.filter ⟨hl,hr2⟩ (by omega) (by omega) (by omega) (fun p q x y p1 p2 q1 q2 hx hy=>?_) c
    exact strict p q x y (by omega) (by omega) (by omega) (by omega) (by rw [atI_nat];exact hx) (by rw [atI_nat];exact hy)
theorem Halves.merge {key:α→Int} {xs ys zs ws:List α} {a st mid en b:Int} (h:Halves key xs ys a st mid en b) (h0:0≤a) (ham:a≤mid) (hmb:mid≤b) (hz:SortedSeg key ys zs a mid) (hw:SortedSeg key zs ws mid b):SortedSeg key xs ws a b:=by
  obtain ⟨a,rfl⟩:=Int.eq_ofNat_of_zero_le h0
  obtain ⟨mid,rfl⟩:=Int.eq_ofNat_of_zero_le (show 0≤mid by omega)
  obtain ⟨b,rfl⟩:=Int.eq_ofNat_of_zero_le (show 0≤b by omega)
  refine .mk2 (by rw [hw.1,hz.1,h.len]) (fun p hp ho=>?_) ?_ fun c=>by rw [hw.2.2.2,hz.2.2.2,h.fil]
  · rw [hw.out hp (by omega),hz.out hp (by omega),h.out p hp ho]
  · intro p q x y p0 p1 pq q1 hx hy
    by_cases hq:q<mid
    · rw [hw.out p0 (by omega)] at hx
      rw [hw.out (by omega) (by omega)] at hy
      exact hz.rises p q x y p0 p1 pq hq hx hy
    · by_cases hp:p<mid
      · rw [hw.out p0 (by omega)] at hx
        obtain ⟨p,rfl⟩:=Int.eq_ofNat_of_zero_le p0
        obtain ⟨q,rfl⟩:=Int.eq_ofNat_of_zero_le (show 0≤q by omega)
        rw [atI_nat] at hx hy
        obtain ⟨p',x',u1,u2,u3,u4⟩:=hz.mem (by omega) (by omega) (by omega) hx
        obtain ⟨q',y',v1,v2,v3,v4⟩:=hw.mem (by omega) (by omega) (by omega) hy
        rw [←atI_nat,hz.out (by omega) (by omega)] at v3
        rw [←u4,←v4]
        exact h.cross p' q' x' y' (by omega) (by omega) (by omega) (by omega) (by rw [atI_nat];exact u3) v3
      · exact hw.rises p q x y p0 (by omega) pq q1 hx hy
end Go.Ax.Law
namespace Go.Ax.Law
def SmallIdsB (xs:List Job):Prop:= ∀c∈xs,-9223372036854775808≤c.Id∧c.Id≤9223372036854775807
def InsPreB (xs:List Job) (a b:Int):Prop:=SmallIdsB xs∧0≤a∧a≤b∧b≤xs.length∧xs.length≤1099511627776
def SwapPreB (xs:List Job) (a b n:Int):Prop:=0≤a∧0≤b∧0≤n∧a+n≤xs.length∧b+n≤xs.length∧(a+n≤b∨b+n≤a)∧xs.length≤1099511627776
def RotPreB (xs:List Job) (a m b:Int):Prop:=0≤a∧a<m∧m<b∧b≤xs.length∧xs.length≤1099511627776
def SymPreB (N:Nat) (xs:List Job) (a m b:Int):Prop:=RotPreB xs a m b∧SmallIdsB xs∧(b-a).toNat<N∧Rises Law.keyJ xs a m∧Rises Law.keyJ xs m b
def StabPreB (xs:List Job):Prop:=SmallIdsB xs∧xs.length≤1099511627776
end Go.Ax.Law
namespace Go.Ax.Sp
def sInsB (f:FuncId):Sig:=⟨[(.row .job,true),(.int .i64,false),(.int .i64,false),(.fn f,false)],[]⟩
def oInsB (f:FuncId):(sInsB f).Out:=fun x k=>Law.InsPreB x.1 x.2.1 x.2.2.1∧ ∀ys,Law.SortedSeg Law.keyJ x.1 ys x.2.1 x.2.2.1→k (ys,()) ()
def lIns1B (f:FuncId):LoopAnn:={X:=List Job × Int × Int × Int,live:=fun x=>[(0,.sl 0 10 0 x.1.length),(1,.int .i64 x.2.1),(2,.int .i64 x.2.2.1),(3,.fn f []),(8,.int .i64 x.2.2.2)],heap:=fun x=>[some (.row .job x.1)]}
def lIns2B (f:FuncId):LoopAnn:={X:=List Job × Int × Int × Int × Int,live:=fun x=>[(0,.sl 0 10 0 x.1.length),(1,.int .i64 x.2.1),(2,.int .i64 x.2.2.1),(3,.fn f []),(8,.int .i64 x.2.2.2.1),(9,.int .i64 x.2.2.2.2)],heap:=fun x=>[some (.row .job x.1)]}
def sSortFB (f:FuncId):Sig:=⟨[(.row .job,true),(.fn f,false)],[]⟩
def sSwapRB (f:FuncId):Sig:=⟨[(.row .job,true),(.int .i64,false),(.int .i64,false),(.int .i64,false),(.fn f,false)],[]⟩
def oSwapRB (f:FuncId):(sSwapRB f).Out:=fun x k=>Law.SwapPreB x.1 x.2.1 x.2.2.1 x.2.2.2.1∧ ∀ys,Law.Swapped x.1 ys x.2.1 x.2.2.1 x.2.2.2.1→k (ys,()) ()
def lSwapRB:LoopAnn:={X:=List Job × Int × Int × Int × Int,live:=fun x=>[(0,.sl 0 10 0 x.1.length),(1,.int .i64 x.2.1),(2,.int .i64 x.2.2.1),(3,.int .i64 x.2.2.2.1),(10,.int .i64 x.2.2.2.2)],heap:=fun x=>[some (.row .job x.1)]}
def oRotB (f:FuncId):(sSwapRB f).Out:=fun x k=>Law.RotPreB x.1 x.2.1 x.2.2.1 x.2.2.2.1∧ ∀ys,Law.Rotated x.1 ys x.2.1 x.2.2.1 x.2.2.2.1→k (ys,()) ()
def lRotB (f:FuncId):LoopAnn:={X:=List Job × Int × Int × Int,live:=fun x=>[(0,.sl 0 10 0 x.1.length),(2,.int .i64 x.2.1),(4,.fn f []),(10,.int .i64 x.2.2.1),(11,.int .i64 x.2.2.2)],heap:=fun x=>[some (.row .job x.1)]}
def oSymB (f:FuncId) (N:Nat):(sSwapRB f).Out:=fun x k=>Law.SymPreB N x.1 x.2.1 x.2.2.1 x.2.2.2.1∧ ∀ys,Law.SortedSeg Law.keyJ x.1 ys x.2.1 x.2.2.2.1→k (ys,()) ()
def lSy1B (f:FuncId):LoopAnn:={X:=List Job × Int × Int × Int,live:=fun x=>[(0,.sl 0 10 0 x.1.length),(1,.int .i64 x.2.1),(4,.fn f []),(10,.int .i64 x.2.2.1),(11,.int .i64 x.2.2.2)],heap:=fun x=>[some (.row .job x.1)]}
def lSy2B:LoopAnn:={X:=List Job × Int × Int,live:=fun x=>[(0,.sl 0 10 0 x.1.length),(10,.int .i64 x.2.1),(13,.int .i64 x.2.2)],heap:=fun x=>[some (.row .job x.1)]}
def lSy3B (f:FuncId):LoopAnn:={X:=List Job × Int × Int × Int,live:=fun x=>[(0,.sl 0 10 0 x.1.length),(2,.int .i64 x.2.1),(4,.fn f []),(14,.int .i64 x.2.2.1),(15,.int .i64 x.2.2.2)],heap:=fun x=>[some (.row .job x.1)]}
def lSy4B:LoopAnn:={X:=List Job × Int × Int,live:=fun x=>[(0,.sl 0 10 0 x.1.length),(14,.int .i64 x.2.1),(17,.int .i64 x.2.2)],heap:=fun x=>[some (.row .job x.1)]}
def lSy5B (f:FuncId):LoopAnn:={X:=List Job × Int × Int × Int × Int × Int × Int × Int × Int,live:=fun x=>[(0,.sl 0 10 0 x.1.length),(1,.int .i64 x.2.1),(2,.int .i64 x.2.2.1),(3,.int .i64 x.2.2.2.1),(4,.fn f []),(18,.int .i64 x.2.2.2.2.1),(19,.int .i64 x.2.2.2.2.2.1),(20,.int .i64 x.2.2.2.2.2.2.1),(21,.int .i64 x.2.2.2.2.2.2.2.1),(22,.int .i64 x.2.2.2.2.2.2.2.2)],heap:=fun x=>[some (.row .job x.1)]}
def sStabB (f:FuncId):Sig:=⟨[(.row .job,true),(.int .i64,false),(.fn f,false)],[]⟩
def oStabB (f:FuncId):(sStabB f).Out:=fun x k=>(Law.StabPreB x.1∧x.2.1=x.1.length)∧ ∀ys,Law.SortedSeg Law.keyJ x.1 ys 0 x.1.length→k (ys,()) ()
def lSt1B (f:FuncId):LoopAnn:={X:=List Job × Int × Int × Int × Int,live:=fun x=>[(0,.sl 0 10 0 x.1.length),(1,.int .i64 x.2.1),(2,.fn f []),(6,.int .i64 x.2.2.1),(7,.int .i64 x.2.2.2.1),(8,.int .i64 x.2.2.2.2)],heap:=fun x=>[some (.row .job x.1)]}
def lSt2B (f:FuncId):LoopAnn:={X:=List Job × Int × Int,live:=fun x=>[(0,.sl 0 10 0 x.1.length),(1,.int .i64 x.2.1),(2,.fn f []),(6,.int .i64 x.2.2)],heap:=fun x=>[some (.row .job x.1)]}
def oStabFB (f:FuncId):(sSortFB f).Out:=fun x k=>Law.StabPreB x.1∧ ∀ys,Law.SortedSeg Law.keyJ x.1 ys 0 x.1.length→k (ys,()) ()
end Go.Ax.Sp
namespace Go.Ax
def cutSpec (k:EK) (n:Nat):SpecT:=fun args H K=>match args with
 | [.imm k' xs]=>if h:k'=k then forceL (List.range H.length) fun T=>K (.imm k ((h▸xs:List k.T).take n)) H T else False
 |_=>False
variable [Surr]
theorem cut_sound {E:LEnv} (hE:E.toEnv.OK) {f:FuncId} {fn:Func} (hf:E.P.funcs[f]? =some fn) {k:EK} {n:Nat}
  (hb: ∀(xs:List k.T) (H:AHeap) (K:AV→AHeap→List Nat→Prop),inlSpec E fn [.imm k xs] H K=forceL (List.range H.length) fun T=>br (decide ((xs.length:Int)>(n:Int))) (((0:Int)≤0∧(0:Int)≤(n:Int)∧(n:Int)≤xs.length)∧K (.imm k ((xs.take (Int.toNat (n:Int))).drop (Int.toNat 0))) H T) (K (.imm k xs) H T)):
  SpecOK E.P f (cutSpec k n):=by
 intro args H K h
 have hi:=inl_sound hE hf
 unfold cutSpec at h
 split at h
 ·rename_i k' xs
  split at h
  ·rename_i hk
   subst hk
   refine hi _ _ _ ?_
   rw [hb]
   simp only [forceL_eq] at h ⊢
   by_cases hl:(xs.length:Int)>(n:Int)
   ·simp only [hl,decide_true,br]
    exact ⟨⟨by decide,by omega,by omega⟩,by simpa using h⟩
   ·simp only [hl,decide_false,br]
    rw [List.take_of_length_le (by omega)] at h
    exact h
  ·exact h.elim
 ·exact h.elim
end Go.Ax
namespace Go.Ax.Law
def wholeF:Nat→Int→Work→Core→Int × Work × Core
 |0,_,w,c=>(0,w,c)
 |f+1,n,w,c=>if (stepW w c).1.done then (n,stepW w c) else wholeF f (n+1) (stepW w c).1 (stepW w c).2
def wholeW (w:Work) (c:Core):Int × Work × Core:=wholeF 1999 1 w c
def deedW (d:Deed):Work:=if d.Commit then newX d.X else newW d.R
def doD (c:Core) (d:Deed):Core:=(wholeW (deedW d) c).2.2
def madeC (n:Int) (l:List Deed):Core:=(l.take 60).foldl doD (newCore n)
def eqJ (a b:Job):Bool:=a.Id==b.Id&&(a.User==b.User&&(a.Width==b.Width&&(a.Limit==b.Limit&&(a.Prio==b.Prio&&(a.State==b.State&&(a.Start==b.Start&&(a.End==b.End&&(a.Plan==b.Plan&&(a.Nodes==b.Nodes&&true)))))))))
def eqS (a b:Step):Bool:=a.At==b.At&&(a.Free==b.Free&&true)
def sameJ:List Job→List Job→Bool
 | [],[]=>true
 |a::l,b::r=>eqJ a b&&sameJ l r
 |_,_=>false
def sameS:List Step→List Step→Bool
 | [],[]=>true
 |a::l,b::r=>eqS a b&&sameS l r
 |_,_=>false
end Go.Ax.Law
namespace Go.Ax.Sp
def sWhole:Sig:=⟨[(.obj .core,true),(.obj .work,true)],[.int .i64]⟩
def PreWh (w:Work) (c:Core):Prop:=Law.CW c∧Law.WW w∧c.P.steps.length≤4294900000
def oWhole:sWhole.Out:=fun x k=>PreWh x.2.1 x.1∧k ((Law.wholeW x.2.1 x.1).2.2,(Law.wholeW x.2.1 x.1).2.1,()) ((Law.wholeW x.2.1 x.1).1,())
def lWhole:LoopAnn:={X:=Core × Work × Int,live:=fun x=>[(0,.ptr ⟨0,0,0,0⟩),(1,.ptr ⟨1,0,0,0⟩),(5,.int .i64 x.2.2)],heap:=fun x=>[some (.obj .core x.1),some (.obj .work x.2.1)],norm:=[.fold 0 .core,.fold 1 .work]}
def sMade:Sig:=⟨[(.int .i64,false),(.imm .deed,false)],[.opt .core]⟩
def oMade:sMade.Out:=fun x k=>((x.1<1∨64<x.1)→k () (none,()))∧(1≤x.1∧x.1≤64→k () (some (Law.madeC x.1 x.2.1),()))
def lMade:LoopAnn:={X:=List Deed × Core × Int,live:=fun x=>[(1,.imm .deed x.1),(5,.ptr ⟨0,0,0,0⟩),(7,.int .i64 x.2.2)],heap:=fun x=>[some (.obj .core x.2.1)],norm:=[.fold 0 .core]}
def sYes:Sig:=⟨[],[.bool]⟩
def oYes:sYes.Out:=fun _ k=>k () (true,())
def sSameJ:Sig:=⟨[(.imm .job,false),(.imm .job,false)],[.bool]⟩
def oSameJ:sSameJ.Out:=fun x k=>(x.1.length≤1099511627776)∧k () (Law.sameJ x.1 x.2.1,())
def lSameJ:LoopAnn:={X:=List Job × List Job × Int,live:=fun x=>[(0,.imm .job x.1),(1,.imm .job x.2.1),(5,.int .i64 x.2.2)],heap:=fun _=>[]}
def sSameS:Sig:=⟨[(.imm .step,false),(.imm .step,false)],[.bool]⟩
def oSameS:sSameS.Out:=fun x k=>(x.1.length≤1099511627776)∧k () (Law.sameS x.1 x.2.1,())
def lSameS:LoopAnn:={X:=List Step × List Step × Int,live:=fun x=>[(0,.imm .step x.1),(1,.imm .step x.2.1),(5,.int .i64 x.2.2)],heap:=fun _=>[]}
def sWants:Sig:=⟨[(.int .i64,false),(.imm .deed,false),(.elem .req,false)],[.bool]⟩
def oWants:sWants.Out:=fun _ k=>k () (true,())
def sTwins:Sig:=⟨[(.int .i64,false),(.imm .deed,false),(.imm .deed,false)],[.bool]⟩
def oTwins:sTwins.Out:=fun _ k=>k () (true,())
def lTwins:LoopAnn:={X:=Core × List Job × List Step × Core × List Deed × Int,live:=fun x=>[(2,.imm .deed x.2.2.2.2.1),(7,.ptr ⟨0,0,0,0⟩),(8,.sl 1 10 0 x.2.1.length),(9,.sl 2 2 0 x.2.2.1.length),(10,.ptr ⟨6,0,0,0⟩),(11,.int .i64 x.2.2.2.2.2)],heap:=fun x=>[some (.obj .core x.1),some (.row .job x.2.1),some (.row .step x.2.2.1),none,none,none,some (.obj .core x.2.2.2.1)],norm:=[.fold 0 .core,.home 8 1,.home 9 2,.fold 6 .core]}
end Go.Ax.Sp
namespace Go.Ax.V
open Go.Ax.Sp Go.Ax.Law List Int IntKind
set_option maxRecDepth 100000
def vAhead (a:Job) (b:Job) (k:Unit→Bool × Unit→Prop):Prop:=
br (decide (a.Prio>b.Prio)) (k () (true,())) (br (a.Prio==b.Prio) (k () (decide (a.Id<b.Id),())) (k () (false,())))
def vBeginM_1 (n:Int) (I:Model × Int × Job × Int × Int × Int × Int→Prop) (m_1:Model × Int × Job × Int × Int × Int × Int→Nat) (x:Model × Int × Job × Int × Int × Int × Int):Prop:=
SH x.2.2.1 fun s0=> ∀(n:Int),n=wrap .u64 (2*x.2.2.2.2.1)→NM (x.2.2.2.2.2.2+1) fun n_1=>NX I m_1 x fun y=>SH y.2.2.1 fun s1=>0+length x.1.Drain≤length x.1.Drain∧0+length x.1.L≤length x.1.L∧(0=0∧x.2.1=y.2.1∧0=0∧x.2.2.2.1=y.2.2.2.1∧n=y.2.2.2.2.1∧x.2.2.2.2.2.1=y.2.2.2.2.2.1∧n_1=y.2.2.2.2.2.2∧True)∧Model.mk x.1.Now (tk x.1.Drain) (tk x.1.L) x.1.Closed=y.1∧(s0.Id=s1.Id∧s0.User=s1.User∧s0.Width=s1.Width∧s0.Limit=s1.Limit∧s0.Prio=s1.Prio∧s0.State=s1.State∧s0.Start=s1.Start∧s0.End=s1.End∧s0.Plan=s1.Plan∧s0.Nodes=s1.Nodes∧True)∧True
def vBeginM (m:Model) (n:Int) (k:Model × Unit→Unit→Prop):Prop:=
AT m.L n fun e=>LP (Model × Int × Job × Int × Int × Int × Int) (fun x=>SH x.2.2.1 fun s0=>0+length m.Drain≤length m.Drain∧0+length m.L≤length m.L∧(0=0∧n=x.2.1∧0=0∧0=x.2.2.2.1∧1=x.2.2.2.2.1∧0=x.2.2.2.2.2.1∧0=x.2.2.2.2.2.2∧True)∧Model.mk m.Now (tk m.Drain) (tk m.L) m.Closed=x.1∧(e.Id=s0.Id∧e.User=s0.User∧e.Width=s0.Width∧e.Limit=s0.Limit∧e.Prio=s0.Prio∧e.State=s0.State∧e.Start=s0.Start∧e.End=s0.End∧e.Plan=s0.Plan∧e.Nodes=s0.Nodes∧True)∧True) fun I m x=>SH x.2.2.1 fun s0=>SH x.1.Drain fun s1=>SH (length x.1.L) fun s2=>SH x.2.2.2 fun s3=>SH (Model.mk x.1.Now (tk s1) (tk x.1.L) x.1.Closed) fun s4=>SH (0+toNat x.2.1) fun s5=>SH (length s1) fun s6=>br (decide (s3.2.2.2<LN s1)) (br (decide (s3.2.2.1<s0.Width)) (0+s6≤s6∧0+s2≤s2∧MW s4∧br (stateM s4 s3.2.2.2==1) (∀(n:Int),n=wrap .u64 (s3.1+s3.2.1)→NM (s3.2.2.1+1) fun n_1=> ∀(n_2:Int),n_2=wrap .u64 (2*s3.2.1)→NM (s3.2.2.2+1) fun n_3=>NX I m x fun y=>SH y.2.2.1 fun s7=>0+s6≤s6∧0+s2≤s2∧(0=0∧x.2.1=y.2.1∧0=0∧n=y.2.2.2.1∧n_2=y.2.2.2.2.1∧n_1=y.2.2.2.2.2.1∧n_3=y.2.2.2.2.2.2∧True)∧s4=y.1∧(s0.Id=s7.Id∧s0.User=s7.User∧s0.Width=s7.Width∧s0.Limit=s7.Limit∧s0.Prio=s7.Prio∧s0.State=s7.State∧s0.Start=s7.Start∧s0.End=s7.End∧s0.Plan=s7.Plan∧s0.Nodes=s7.Nodes∧True)∧True) (vBeginM_1 n I m x)) (vBeginM_1 n I m x)) (NM (x.1.Now+s0.Limit) fun n=>SH (set x.1.L s5 (Job.mk s0.Id s0.User s0.Width s0.Limit s0.Prio 3 x.1.Now n (-1) s3.1)) fun s7=>((0≤x.2.1∧x.2.1<LN x.1.L)∧(s5<s2∧ ∀(e:Job),x.1.L[s5]? =some e→0+s6≤s6∧0+s2≤length s7∧k (Model.mk x.1.Now (tk s1) (take s2 (drop 0 s7)) x.1.Closed,()) ())∧True)∧True)
def vCommitM (m:Model) (x:Choice) (k:Model × Unit→Bool × Unit→Prop):Prop:=
SH m.Drain fun s0=>SH (length m.L) fun s1=>SH (Model.mk m.Now (tk s0) (tk m.L) m.Closed) fun s2=>MW m∧br (!fitsM m x) (k (m,()) (false,())) (br (x.At==m.Now) (NM (x.Id-1) fun n=>0+length s0≤length s0∧0+s1≤s1∧(MW s2∧0≤n∧n<(↑(length (tk m.L)):VK.T ((fun x=>x.1) (VK.int IntKind.i64,false))))∧k (beginM s2 n,()) (true,())) (NM (x.Id-1) fun n=>AT m.L n fun e=>SH (Job.mk e.Id e.User e.Width e.Limit e.Prio e.State e.Start e.End x.At e.Nodes) fun s3=>((NM (x.Id-1) fun n=>SH (0+toNat n) fun s4=>(0≤n∧n<LN m.L)∧(s4<s1∧ ∀(e_1:Job),m.L[s4]? =some e_1→0+length s0≤length s0∧0+s1≤length (set m.L s4 s3)∧k (Model.mk m.Now (tk s0) (take s1 (drop 0 (set m.L s4 s3))) m.Closed,()) (true,()))∧True)∧True)∧True))
def vCountM_1 (m:Model) (k:Unit→Int × Unit→Prop) (I:Model × Bool × Int × Int × Int × Int→Prop) (x:Model × Bool × Int × Int × Int × Int):Prop:=
LP (Model × Bool × Int × Int × Int × Int) (fun x_1=>((x.1.Now=x_1.1.Now∧x.1.Drain=x_1.1.Drain∧x.1.L=x_1.1.L∧x.1.Closed=x_1.1.Closed∧True)∧x.2.1=x_1.2.1∧x.2.2.1=x_1.2.2.1∧x.2.2.2.1=x_1.2.2.2.1∧x.2.2.2.2.1=x_1.2.2.2.2.1∧0=x_1.2.2.2.2.2∧True)∧True) fun I m x=>SH x.2.2.2 fun s0=>SH (NM (s0.2.1+1) fun n=>NM (s0.2.2+1) fun n_1=>NX I m x fun y=>((x.1.Now=y.1.Now∧x.1.Drain=y.1.Drain∧x.1.L=y.1.L∧x.1.Closed=y.1.Closed∧True)∧x.2.1=y.2.1∧x.2.2.1=y.2.2.1∧s0.1=y.2.2.2.1∧n=y.2.2.2.2.1∧n_1=y.2.2.2.2.2∧True)∧True) fun s1=>br (!x.2.1) (br (decide (s0.2.2<LN x.1.Drain)) (MW x.1∧br (stateM x.1 s0.2.2==x.2.2.1) s1 (MW x.1∧br (stateM x.1 s0.2.2==s0.1) s1 (NM (s0.2.2+1) fun n=>NX I m x fun y=>((x.1.Now=y.1.Now∧x.1.Drain=y.1.Drain∧x.1.L=y.1.L∧x.1.Closed=y.1.Closed∧True)∧x.2.1=y.2.1∧x.2.2.1=y.2.2.1∧s0.1=y.2.2.2.1∧s0.2.1=y.2.2.2.2.1∧n=y.2.2.2.2.2∧True)∧True))) (k () (s0.2.1,()))) (k () (s0.2.1,()))
def vCountM (m:Model) (j:Bool) (a:Int) (b:Int) (k:Unit→Int × Unit→Prop):Prop:=
LP (Model × Bool × Int × Int × Int × Int) (fun x=>((m.Now=x.1.Now∧m.Drain=x.1.Drain∧m.L=x.1.L∧m.Closed=x.1.Closed∧True)∧j=x.2.1∧a=x.2.2.1∧b=x.2.2.2.1∧0=x.2.2.2.2.1∧0=x.2.2.2.2.2∧True)∧True) fun I m_1 x=>SH x.2.2.2 fun s0=>br x.2.1 (br (decide (s0.2.2<LN x.1.L)) (AI x.1.L s0.2.2 fun e=>br (e.State==x.2.2.1) (NM (s0.2.1+1) fun n=>NM (s0.2.2+1) fun n_1=>NX I m_1 x fun y=>((x.1.Now=y.1.Now∧x.1.Drain=y.1.Drain∧x.1.L=y.1.L∧x.1.Closed=y.1.Closed∧True)∧x.2.1=y.2.1∧x.2.2.1=y.2.2.1∧s0.1=y.2.2.2.1∧n=y.2.2.2.2.1∧n_1=y.2.2.2.2.2∧True)∧True) (NM (s0.2.2+1) fun n=>NX I m_1 x fun y=>((x.1.Now=y.1.Now∧x.1.Drain=y.1.Drain∧x.1.L=y.1.L∧x.1.Closed=y.1.Closed∧True)∧x.2.1=y.2.1∧x.2.2.1=y.2.2.1∧s0.1=y.2.2.2.1∧s0.2.1=y.2.2.2.2.1∧n=y.2.2.2.2.2∧True)∧True)) (vCountM_1 m k I x)) (vCountM_1 m k I x)
def vDoM_1 (m:Model) (r:Req) (k:Model × Unit→Reply × Unit→Prop):Prop:=
SH (Model.mk m.Now (tk m.Drain) (tk m.L) m.Closed) fun s0=>0+length m.Drain≤length m.Drain∧0+length m.L≤length m.L∧MW s0∧k ((turnM s0 r).2,()) ((turnM s0 r).1,())
def vDoM_2 (m:Model) (r:Req) (k:Model × Unit→Reply × Unit→Prop):Prop:=
SH (Model.mk m.Now (tk m.Drain) (tk m.L) m.Closed) fun s0=>0+length m.Drain≤length m.Drain∧0+length m.L≤length m.L∧MW s0∧k ((nodeM s0 r).2,()) ((nodeM s0 r).1,())
def vDoM_3 (m:Model) (r:Req) (k:Model × Unit→Reply × Unit→Prop):Prop:=
SH (Model.mk m.Now (tk m.Drain) (tk m.L) m.Closed) fun s0=>0+length m.Drain≤length m.Drain∧0+length m.L≤length m.L∧MW s0∧k ((endM s0 r).2,()) ((endM s0 r).1,())
def vDoM (m:Model) (r:Req) (k:Model × Unit→Reply × Unit→Prop):Prop:=
SH (Model.mk m.Now (tk m.Drain) (tk m.L) m.Closed) fun s0=>SH (length m.Drain) fun s1=>SH (length m.L) fun s2=>SH (0+s1≤s1) fun s3=>SH (0+s2≤s2) fun s4=>br m.Closed (s3∧s4∧k (s0,()) (Reply.mk 12 0 0 0 0 0 0 0 0,())) (br (r.Kind==1) (s3∧s4∧MW s0∧k ((submitM s0 r).2,()) ((submitM s0 r).1,())) (br (r.Kind==2) (vDoM_3 m r k) (br (r.Kind==5) (vDoM_3 m r k) (br (r.Kind==3) (vDoM_1 m r k) (br (r.Kind==4) (vDoM_1 m r k) (br (r.Kind==6) (vDoM_1 m r k) (br (r.Kind==7) (vDoM_2 m r k) (br (r.Kind==8) (vDoM_2 m r k) (br (r.Kind==9) (s3∧s4∧MW s0∧k ((tickM s0 r.By).2,()) ((tickM s0 r.By).1,())) (br (r.Kind==10) (s3∧s4∧MW s0∧s3∧s4∧MW s0∧s3∧s4∧MW s0∧s3∧s4∧k (s0,()) (Reply.mk 0 0 0 0 0 0 (countM s0 false 1 1) (countM s0 false 2 3) (countM s0 false 4 4),())) (br (r.Kind==11) (s3∧s4∧MW s0∧s3∧s4∧MW s0∧s3∧s4∧MW s0∧s3∧s4∧k (s0,()) (Reply.mk 0 0 0 0 0 0 (countM s0 true 1 1) (countM s0 true 2 2) (countM s0 true 3 3),())) (br (r.Kind==12) ((s3∧s4∧MW s0∧(s3∧s4∧k (s0,()) (Reply.mk 0 0 0 m.Now 0 0 (freeM s0 m.Now 0) 0 0,()))∧True)∧True) (br (r.Kind==13) (s3∧s4∧k (Model.mk m.Now (tk m.Drain) (tk m.L) true,()) (Reply.mk 0 0 0 0 0 0 0 0 0,())) (s3∧s4∧k (s0,()) (Reply.mk 4 0 0 0 0 0 0 0 0,())))))))))))))))
def vDropM_1 (I:Model × Job × Int→Prop) (m_1:Model × Job × Int→Nat) (x:Model × Job × Int) (e:Job):Prop:=
SH (set x.1.L (0+toNat x.2.2) (Job.mk e.Id e.User e.Width e.Limit e.Prio e.State e.Start e.End (-1) e.Nodes)) fun s0=>(0≤x.2.2∧x.2.2<LN x.1.L)∧(0+toNat x.2.2<length x.1.L∧ ∀(e_1:Job),x.1.L[0+toNat x.2.2]? =some e_1→NM (x.2.2+1) fun n=>NX I m_1 x fun y=>0+length x.1.Drain≤length x.1.Drain∧0+length x.1.L≤length s0∧(0=0∧0=0∧n=y.2.2∧True)∧Model.mk x.1.Now (tk x.1.Drain) (take (length x.1.L) (drop 0 s0)) x.1.Closed=y.1∧(x.2.1.Id=y.2.1.Id∧x.2.1.User=y.2.1.User∧x.2.1.Width=y.2.1.Width∧x.2.1.Limit=y.2.1.Limit∧x.2.1.Prio=y.2.1.Prio∧x.2.1.State=y.2.1.State∧x.2.1.Start=y.2.1.Start∧x.2.1.End=y.2.1.End∧x.2.1.Plan=y.2.1.Plan∧x.2.1.Nodes=y.2.1.Nodes∧True)∧True)∧True
def vDropM_2 (I:Model × Job × Int→Prop) (m_1:Model × Job × Int→Nat) (x:Model × Job × Int):Prop:=
NM (x.2.2+1) fun n=>NX I m_1 x fun y=>0+length x.1.Drain≤length x.1.Drain∧0+length x.1.L≤length x.1.L∧(0=0∧0=0∧n=y.2.2∧True)∧Model.mk x.1.Now (tk x.1.Drain) (tk x.1.L) x.1.Closed=y.1∧(x.2.1.Id=y.2.1.Id∧x.2.1.User=y.2.1.User∧x.2.1.Width=y.2.1.Width∧x.2.1.Limit=y.2.1.Limit∧x.2.1.Prio=y.2.1.Prio∧x.2.1.State=y.2.1.State∧x.2.1.Start=y.2.1.Start∧x.2.1.End=y.2.1.End∧x.2.1.Plan=y.2.1.Plan∧x.2.1.Nodes=y.2.1.Nodes∧True)∧True
def vDropM (m:Model) (j:Job) (k:Model × Unit→Unit→Prop):Prop:=
LP (Model × Job × Int) (fun x=>(0=0∧0=0∧0=x.2.2∧True)∧m=x.1∧(j.Id=x.2.1.Id∧j.User=x.2.1.User∧j.Width=x.2.1.Width∧j.Limit=x.2.1.Limit∧j.Prio=x.2.1.Prio∧j.State=x.2.1.State∧j.Start=x.2.1.Start∧j.End=x.2.1.End∧j.Plan=x.2.1.Plan∧j.Nodes=x.2.1.Nodes∧True)∧True) fun I m x=>br (decide (x.2.2<LN x.1.L)) (AT x.1.L x.2.2 fun e=>br (plannedJ e) (br (x.2.1.Id==0) (vDropM_1 I m x e) (br (aheadJ x.2.1 e) (vDropM_1 I m x e) (vDropM_2 I m x))) (vDropM_2 I m x)) (0+length x.1.Drain≤length x.1.Drain∧0+length x.1.L≤length x.1.L∧k (Model.mk x.1.Now (tk x.1.Drain) (tk x.1.L) x.1.Closed,()) ())
def vEndM_1 (m:Model) (r:Req) (k:Model × Unit→Reply × Unit→Prop):Prop:=
SH (getM m r.Id).1 fun s0=>SH (length m.L) fun s1=>SH (length m.Drain) fun s2=>SH s0.Start fun s3=>SH s0.Width fun s4=>SH s0.Limit fun s5=>SH s0.Nodes fun s6=>SH (Job.mk s0.Id s0.User s4 s5 s0.Prio 4 s3 s0.End (-1) s6) fun s7=>SH (Job.mk s0.Id s0.User s4 s5 s0.Prio 4 s3 m.Now (-1) s6) fun s8=>SH (Job.mk s0.Id s0.User s4 s5 s0.Prio 5 s3 s0.End (-1) s6) fun s9=>SH (Job.mk s0.Id s0.User s4 s5 s0.Prio 5 s3 m.Now (-1) s6) fun s10=>SH (0+s2≤s2) fun s11=>br (s0.State==3) (br (r.Kind==5) (NM (r.Id-1) fun n=>SH (0+toNat n) fun s12=>(0≤n∧n<LN m.L)∧(s12<s1∧ ∀(e:Job),m.L[s12]? =some e→s11∧0+s1≤length (set m.L s12 s8)∧k (Model.mk m.Now (tk m.Drain) (take s1 (drop 0 (set m.L s12 s8))) m.Closed,()) (Reply.mk 0 s0.Id 4 s3 m.Now (-1) s4 s0.Prio 0,()))∧True) (NM (r.Id-1) fun n=>SH (0+toNat n) fun s12=>(0≤n∧n<LN m.L)∧(s12<s1∧ ∀(e:Job),m.L[s12]? =some e→s11∧0+s1≤length (set m.L s12 s10)∧k (Model.mk m.Now (tk m.Drain) (take s1 (drop 0 (set m.L s12 s10))) m.Closed,()) (Reply.mk 0 s0.Id 5 s3 m.Now (-1) s4 s0.Prio 0,()))∧True)) (br (r.Kind==5) (NM (r.Id-1) fun n=>SH (0+toNat n) fun s12=>(0≤n∧n<LN m.L)∧(s12<s1∧ ∀(e:Job),m.L[s12]? =some e→s11∧0+s1≤length (set m.L s12 s7)∧k (Model.mk m.Now (tk m.Drain) (take s1 (drop 0 (set m.L s12 s7))) m.Closed,()) (Reply.mk 0 s0.Id 4 s3 s0.End (-1) s4 s0.Prio 0,()))∧True) (NM (r.Id-1) fun n=>SH (0+toNat n) fun s12=>(0≤n∧n<LN m.L)∧(s12<s1∧ ∀(e:Job),m.L[s12]? =some e→s11∧0+s1≤length (set m.L s12 s9)∧k (Model.mk m.Now (tk m.Drain) (take s1 (drop 0 (set m.L s12 s9))) m.Closed,()) (Reply.mk 0 s0.Id 5 s3 s0.End (-1) s4 s0.Prio 0,()))∧True))
def vEndM (m:Model) (r:Req) (k:Model × Unit→Reply × Unit→Prop):Prop:=
SH (k (m,()) (Reply.mk 8 0 0 0 0 0 0 0 0,())) fun s0=>MW m∧br (!(getM m r.Id).2) (k (m,()) (Reply.mk 7 0 0 0 0 0 0 0 0,())) (br (decide ((getM m r.Id).1.State>3)) s0 (br (r.Kind==5) (br (!(getM m r.Id).1.State==3) s0 (vEndM_1 m r k)) (vEndM_1 m r k)))
def vFitsM (m:Model) (x:Choice) (k:Unit→Bool × Unit→Prop):Prop:=
SH (getM m x.Id).1 fun s0=>SH (roomM m x.At s0.Limit s0.Width s0.Id,()) fun s1=>SH ((MW m∧0≤x.At∧x.At≤1099511627776∧0≤s0.Limit∧s0.Limit≤1048576)∧k () s1) fun s2=>SH (k () (false,())) fun s3=>MW m∧br m.Closed s3 (br (!(getM m x.Id).2) s3 (br (!s0.State==1) s3 (br (decide (x.At<m.Now)) s3 (br (decide (x.At>1099511627776)) s3 (br (decide (s0.Plan≥0)) (br (decide (x.At≥s0.Plan)) s3 s2) s2)))))
def vFreeM (m:Model) (t:Int) (b:Int) (k:Unit→Int × Unit→Prop):Prop:=
LP (Model × Int × Int × Int × Int) (fun x=>((m.Now=x.1.Now∧m.Drain=x.1.Drain∧m.L=x.1.L∧m.Closed=x.1.Closed∧True)∧t=x.2.1∧b=x.2.2.1∧0=x.2.2.2.1∧0=x.2.2.2.2∧True)∧True) fun I m x=>SH x.2.2.2 fun s0=>SH x.1.Drain fun s1=>SH x.1.Closed fun s2=>SH (NM (s0.1+1) fun n=>NM (s0.2+1) fun n_1=>NX I m x fun y=>((x.1.Now=y.1.Now∧s1=y.1.Drain∧x.1.L=y.1.L∧s2=y.1.Closed∧True)∧x.2.1=y.2.1∧x.2.2.1=y.2.2.1∧n=y.2.2.2.1∧n_1=y.2.2.2.2∧True)∧True) fun s3=>SH (NM (s0.2+1) fun n=>NX I m x fun y=>((x.1.Now=y.1.Now∧s1=y.1.Drain∧x.1.L=y.1.L∧s2=y.1.Closed∧True)∧x.2.1=y.2.1∧x.2.2.1=y.2.2.1∧s0.1=y.2.2.2.1∧n=y.2.2.2.2∧True)∧True) fun s4=>br (decide (s0.2<LN s1)) (AI s1 s0.2 fun e=>br e s4 ((MW x.1∧0≤s0.2∧s0.2≤1000)∧br (decide (holdI x.1.L s0.2<0)) s3 (AI x.1.L (holdI x.1.L s0.2) fun e=>br (decide (e.End≤x.2.1)) s3 s4))) (LP (Model × Int × Int × Int × Int) (fun x_1=>((x.1.Now=x_1.1.Now∧s1=x_1.1.Drain∧x.1.L=x_1.1.L∧s2=x_1.1.Closed∧True)∧x.2.1=x_1.2.1∧x.2.2.1=x_1.2.2.1∧s0.1=x_1.2.2.2.1∧0=x_1.2.2.2.2∧True)∧True) fun I m x=>SH x.2.2.2 fun s5=>SH x.1.Closed fun s6=>SH x.1.Drain fun s7=>SH (NM (s5.2+1) fun n=>NX I m x fun y=>((x.1.Now=y.1.Now∧s7=y.1.Drain∧x.1.L=y.1.L∧s6=y.1.Closed∧True)∧x.2.1=y.2.1∧x.2.2.1=y.2.2.1∧s5.1=y.2.2.2.1∧n=y.2.2.2.2∧True)∧True) fun s8=>br (decide (s5.2<LN x.1.L)) (AI x.1.L s5.2 fun e=>br (plannedJ e) (br (!e.Id==x.2.2.1) (br (decide (e.Plan≤x.2.1)) (NM (e.Plan+e.Limit) fun n=>br (decide (x.2.1<n)) (NM (s5.1-e.Width) fun n=>NM (s5.2+1) fun n_1=>NX I m x fun y=>((x.1.Now=y.1.Now∧s7=y.1.Drain∧x.1.L=y.1.L∧s6=y.1.Closed∧True)∧x.2.1=y.2.1∧x.2.2.1=y.2.2.1∧n=y.2.2.2.1∧n_1=y.2.2.2.2∧True)∧True) s8) s8) s8) s8) (k () (s5.1,())))
def vGetM (m:Model) (n:Int) (k:Unit→Job × Bool × Unit→Prop):Prop:=
SH (Job.mk 0 0 0 0 0 0 0 0 0 0,false,()) fun s0=>br (decide (n<1)) (k () s0) (br (decide (n>LN m.L)) (k () s0) (NM (n-1) fun n_1=>AI m.L n_1 fun e=>k () (e,true,())))
def vHapM_1 (I_1:Model × Int × Int × Int→Prop) (m_2:Model × Int × Int × Int→Nat) (x_3:Model × Int × Int × Int):Prop:=
NM (x_3.2.2.2+1) fun n=>NX I_1 m_2 x_3 fun y=>0+length x_3.1.Drain≤length x_3.1.Drain∧0+length x_3.1.L≤length x_3.1.L∧(0=0∧x_3.2.1=y.2.1∧x_3.2.2.1=y.2.2.1∧n=y.2.2.2∧True)∧Model.mk x_3.1.Now (tk x_3.1.Drain) (tk x_3.1.L) x_3.1.Closed=y.1∧True
def vHapM_2 (I_1:Model × Int × Int × Int→Prop) (m_2:Model × Int × Int × Int→Nat) (x_3:Model × Int × Int × Int):Prop:=
NM (x_3.2.2.2+1) fun n=>NX I_1 m_2 x_3 fun y=>0+length x_3.1.Drain≤length x_3.1.Drain∧0+length x_3.1.L≤length x_3.1.L∧(0=0∧x_3.2.1=y.2.1∧x_3.2.2.2=y.2.2.1∧n=y.2.2.2∧True)∧Model.mk x_3.1.Now (tk x_3.1.Drain) (tk x_3.1.L) x_3.1.Closed=y.1∧True
def vHapM_3 (I:Model × Int→Prop) (m_1:Model × Int→Nat) (x:Model × Int):Prop:=
NM (x.2+1) fun n=>NX I m_1 x fun y=>0+length x.1.Drain≤length x.1.Drain∧0+length x.1.L≤length x.1.L∧(0=0∧n=y.2∧True)∧Model.mk x.1.Now (tk x.1.Drain) (tk x.1.L) x.1.Closed=y.1∧True
def vHapM (m:Model) (k:Model × Unit→Unit→Prop):Prop:=
LP (Model × Int) (fun x=>(0=0∧0=x.2∧True)∧m=x.1∧True) fun I m x=>SH (length x.1.L) fun s0=>SH (length x.1.Drain) fun s1=>SH (0+toNat x.2) fun s2=>br (decide (x.2<LN x.1.L)) (AT x.1.L x.2 fun e=>SH (set x.1.L s2 (Job.mk e.Id e.User e.Width e.Limit e.Prio 6 e.Start e.End e.Plan e.Nodes)) fun s3=>br (e.State==3) (br (e.End==x.1.Now) ((0≤x.2∧x.2<LN x.1.L)∧(s2<s0∧ ∀(e_1:Job),x.1.L[s2]? =some e_1→NM (x.2+1) fun n=>NX I m x fun y=>0+s1≤s1∧0+s0≤length s3∧(0=0∧n=y.2∧True)∧Model.mk x.1.Now (tk x.1.Drain) (take s0 (drop 0 s3)) x.1.Closed=y.1∧True)∧True) (vHapM_3 I m x)) (vHapM_3 I m x)) (LP (Model × Int) (fun x_1=>0+s1≤s1∧0+s0≤s0∧(0=0∧0=x_1.2∧True)∧Model.mk x.1.Now (tk x.1.Drain) (tk x.1.L) x.1.Closed=x_1.1∧True) fun I m x=>SH (length x.1.Drain) fun s3=>SH (Model.mk x.1.Now (tk x.1.Drain) (tk x.1.L) x.1.Closed) fun s4=>SH (length x.1.L) fun s5=>br (decide (x.2<LN x.1.L)) (LP (Model × Int × Int × Int) (fun x_1=>0+s3≤s3∧0+s5≤s5∧(0=0∧x.2=x_1.2.1∧(-1)=x_1.2.2.1∧0=x_1.2.2.2∧True)∧s4=x_1.1∧True) fun I_1 m_1 x_1=>SH (Model.mk x_1.1.Now (tk x_1.1.Drain) (tk x_1.1.L) x_1.1.Closed) fun s6=>SH (length x_1.1.Drain) fun s7=>SH (length x_1.1.L) fun s8=>br (decide (x_1.2.2.2<LN x_1.1.L)) (AT x_1.1.L x_1.2.2.2 fun e=>br (plannedJ e) (AT x_1.1.L x_1.2.2.2 fun e=>br (e.Plan==x_1.1.Now) (br (decide (x_1.2.2.1<0)) (vHapM_2 I_1 m_1 x_1∧True) (AT x_1.1.L x_1.2.2.2 fun e=>AT x_1.1.L x_1.2.2.1 fun e_1=>br (aheadJ e e_1) (vHapM_2 I_1 m_1 x_1) (vHapM_1 I_1 m_1 x_1)∧True)) (vHapM_1 I_1 m_1 x_1∧True)) (vHapM_1 I_1 m_1 x_1∧True)∧True) (br (decide (x_1.2.2.1≥0)) (0+s7≤s7∧0+s8≤s8∧(MW s6∧0≤x_1.2.2.1∧x_1.2.2.1<(↑(length (tk x_1.1.L)):VK.T ((fun x=>x.1) (VK.int IntKind.i64,false))))∧NM (x_1.2.1+1) fun n=>NX I m x fun y=>(0=0∧n=y.2∧True)∧beginM s6 x_1.2.2.1=y.1∧True) (NM (x_1.2.1+1) fun n=>NX I m x fun y=>0+s7≤s7∧0+s8≤s8∧(0=0∧n=y.2∧True)∧s6=y.1∧True))) (0+s3≤s3∧0+s5≤s5∧k (s4,()) ()))
def vHasM (s:Int) (n:Int) (k:Unit→Bool × Unit→Prop):Prop:=
LP (Int × Int × Int) (fun x=>(s=x.1∧n=x.2.1∧0=x.2.2∧True)∧True) fun I m x=>br (decide (x.2.2<x.2.1)) ((2:Int)≠(0:Int)∧ ∀(n:Int),n=wrap .u64 (tdiv x.1 (2:Int))→NM (x.2.2+1) fun n_1=>NX I m x fun y=>(n=y.1∧x.2.1=y.2.1∧n_1=y.2.2∧True)∧True) ((2:Int)≠(0:Int)∧ ∀(n:Int),n=tmod x.1 (2:Int)→k () (n==1,()))
def vHoldM (m:Model) (n:Int) (k:Unit→Int × Unit→Prop):Prop:=
LP (Model × Int × Int) (fun x=>((m.Now=x.1.Now∧m.Drain=x.1.Drain∧m.L=x.1.L∧m.Closed=x.1.Closed∧True)∧n=x.2.1∧0=x.2.2∧True)∧True) fun I m x=>SH (NM (x.2.2+1) fun n=>NX I m x fun y=>((x.1.Now=y.1.Now∧x.1.Drain=y.1.Drain∧x.1.L=y.1.L∧x.1.Closed=y.1.Closed∧True)∧x.2.1=y.2.1∧n=y.2.2∧True)∧True) fun s0=>br (decide (x.2.2<LN x.1.L)) (AI x.1.L x.2.2 fun e=>br (e.State==3) (AI x.1.L x.2.2 fun e=>(U64 e.Nodes∧0≤x.2.1∧x.2.1≤1000)∧br (hasB e.Nodes x.2.1) (k () (x.2.2,())) s0) s0) (k () ((-1),()))
def vLiveM (m:Model) (k:Unit→Int × Unit→Prop):Prop:=
LP (Model × Int × Int) (fun x=>((m.Now=x.1.Now∧m.Drain=x.1.Drain∧m.L=x.1.L∧m.Closed=x.1.Closed∧True)∧0=x.2.1∧0=x.2.2∧True)∧True) fun I m x=>br (decide (x.2.2<LN x.1.L)) (AI x.1.L x.2.2 fun e=>br (decide (e.State<4)) (NM (x.2.1+1) fun n=>NM (x.2.2+1) fun n_1=>NX I m x fun y=>((x.1.Now=y.1.Now∧x.1.Drain=y.1.Drain∧x.1.L=y.1.L∧x.1.Closed=y.1.Closed∧True)∧n=y.2.1∧n_1=y.2.2∧True)∧True) (NM (x.2.2+1) fun n=>NX I m x fun y=>((x.1.Now=y.1.Now∧x.1.Drain=y.1.Drain∧x.1.L=y.1.L∧x.1.Closed=y.1.Closed∧True)∧x.2.1=y.2.1∧n=y.2.2∧True)∧True)) (k () (x.2.1,()))
def vNewM (n:Int) (k:Unit→Model × Unit→Prop):Prop:=
(0≤n∧n≤n∧n≤68719476736)∧0+toNat n≤length (replicate (toNat n) false)∧k () (Model.mk 0 (take (toNat n) (drop 0 (replicate (toNat n) false))) [] false,())
def vNextM (m:Model) (k:Unit→Int × Unit→Prop):Prop:=
LP (Model × Int × Int) (fun x=>((m.Now=x.1.Now∧m.Drain=x.1.Drain∧m.L=x.1.L∧m.Closed=x.1.Closed∧True)∧(-1)=x.2.1∧0=x.2.2∧True)∧True) fun I m x=>SH x.1.Now fun s0=>br (decide (x.2.2<LN x.1.L)) (AI x.1.L x.2.2 fun e=>br (e.State==3) (AI x.1.L x.2.2 fun e=>(AI x.1.L x.2.2 fun e_1=>br (plannedJ e_1) (AI x.1.L x.2.2 fun e_2=>(NM (x.2.2+1) fun n=>NX I m x fun y=>((s0=y.1.Now∧x.1.Drain=y.1.Drain∧x.1.L=y.1.L∧x.1.Closed=y.1.Closed∧True)∧sooner (sooner x.2.1 e.End s0) e_2.Plan s0=y.2.1∧n=y.2.2∧True)∧True)∧True) (NM (x.2.2+1) fun n=>NX I m x fun y=>((s0=y.1.Now∧x.1.Drain=y.1.Drain∧x.1.L=y.1.L∧x.1.Closed=y.1.Closed∧True)∧sooner x.2.1 e.End s0=y.2.1∧n=y.2.2∧True)∧True))∧True) (AI x.1.L x.2.2 fun e=>br (plannedJ e) (AI x.1.L x.2.2 fun e=>(NM (x.2.2+1) fun n=>NX I m x fun y=>((s0=y.1.Now∧x.1.Drain=y.1.Drain∧x.1.L=y.1.L∧x.1.Closed=y.1.Closed∧True)∧sooner x.2.1 e.Plan s0=y.2.1∧n=y.2.2∧True)∧True)∧True) (NM (x.2.2+1) fun n=>NX I m x fun y=>((s0=y.1.Now∧x.1.Drain=y.1.Drain∧x.1.L=y.1.L∧x.1.Closed=y.1.Closed∧True)∧x.2.1=y.2.1∧n=y.2.2∧True)∧True))) (k () (x.2.1,()))
def vNodeM (m:Model) (r:Req) (k:Model × Unit→Reply × Unit→Prop):Prop:=
SH m.Drain fun s0=>SH (Model.mk m.Now (take (length (tk s0)) (drop 0 (set (tk s0) (0+toNat r.Node) (r.Kind==7)))) (tk (map (dropJ (Job.mk 0 0 0 0 0 0 0 0 0 0)) (tk m.L))) m.Closed) fun s1=>SH (0+toNat r.Node) fun s2=>SH (length (map (dropJ (Job.mk 0 0 0 0 0 0 0 0 0 0)) (tk m.L))) fun s3=>SH (Model.mk m.Now (take (length s0) (drop 0 (set s0 s2 (r.Kind==7)))) (tk m.L) m.Closed) fun s4=>SH (length m.L) fun s5=>SH (length s0) fun s6=>SH (r.Kind==7) fun s7=>SH (Model.mk m.Now (tk s0) (tk m.L) m.Closed) fun s8=>SH (0+s5≤s5) fun s9=>SH (0+length (tk s0)≤length (set (tk s0) s2 s7)) fun s10=>br (decide (r.Node<0)) (k (m,()) (Reply.mk 11 0 0 0 0 0 0 0 0,())) (br (decide (r.Node≥LN s0)) (0+s6≤s6∧s9∧k (s8,()) (Reply.mk 11 0 0 0 0 0 0 0 0,())) (AT s0 r.Node fun e=>br (e==s7) (0+s6≤s6∧s9∧k (s8,()) (Reply.mk 8 0 0 0 0 0 0 0 0,())) (br s7 (0+s6≤s6∧s9∧MW s8∧(0≤r.Node∧r.Node<LN (tk s0))∧(s2<length (tk s0)∧ ∀(e:Bool),(tk s0)[s2]? =some e→(s10∧0+s3≤s3∧MW s1∧(s10∧0+s3≤s3∧k (s1,()) (Reply.mk 0 r.Node (stateM s1 r.Node) 0 0 0 0 0 0,()))∧True)∧True)∧True) ((0≤r.Node∧r.Node<LN s0)∧(s2<s6∧ ∀(e:Bool),s0[s2]? =some e→(0+s6≤length (set s0 s2 s7)∧s9∧MW s4∧(0+s6≤length (set s0 s2 s7)∧s9∧k (s4,()) (Reply.mk 0 r.Node (stateM s4 r.Node) 0 0 0 0 0 0,()))∧True)∧True)∧True))))
def vPlanned (j:Job) (k:Unit→Bool × Unit→Prop):Prop:=
br (j.State==1) (k () (decide (j.Plan≥0),())) (k () (false,()))
def vRoomM (m:Model) (a:Int) (l:Int) (w:Int) (b:Int) (k:Unit→Bool × Unit→Prop):Prop:=
MW m∧br (decide (freeM m a b<w)) (k () (false,())) (MW m∧LP (Model × Int × Int × Int × Int × List Int × Int) (fun x=>((m.Now=x.1.Now∧m.Drain=x.1.Drain∧m.L=x.1.L∧m.Closed=x.1.Closed∧True)∧a=x.2.1∧l=x.2.2.1∧w=x.2.2.2.1∧b=x.2.2.2.2.1∧(0=0∧length (timesM m)=length x.2.2.2.2.2.1)∧0=x.2.2.2.2.2.2∧True)∧timesM m=x.2.2.2.2.2.1∧True) fun I m x=>SH x.2.2.2.2 fun s0=>SH (NM (s0.2.2+1) fun n=>NX I m x fun y=>((x.1.Now=y.1.Now∧x.1.Drain=y.1.Drain∧x.1.L=y.1.L∧x.1.Closed=y.1.Closed∧True)∧x.2.1=y.2.1∧x.2.2.1=y.2.2.1∧x.2.2.2.1=y.2.2.2.1∧s0.1=y.2.2.2.2.1∧(0=0∧length s0.2.1=length y.2.2.2.2.2.1)∧n=y.2.2.2.2.2.2∧True)∧s0.2.1=y.2.2.2.2.2.1∧True) fun s1=>br (decide (s0.2.2<LN s0.2.1)) (AT s0.2.1 s0.2.2 fun e=>br (decide (e>x.2.1)) (AT s0.2.1 s0.2.2 fun e=>NM (x.2.1+x.2.2.1) fun n=>br (decide (e<n)) (AT s0.2.1 s0.2.2 fun e=>MW x.1∧br (decide (freeM x.1 e s0.1<x.2.2.2.1)) (k () (false,())) s1) s1) s1) (k () (true,())))
def vSooner (b:Int) (t:Int) (l:Int) (k:Unit→Int × Unit→Prop):Prop:=
br (decide (t>l)) (br (decide (b<0)) (k () (t,())) (br (decide (t<b)) (k () (t,())) (k () (b,())))) (k () (b,()))
def vStateM (m:Model) (n:Int) (k:Unit→Int × Unit→Prop):Prop:=
SH (decide (holdI m.L n≥0)) fun s0=>SH (br s0 (k () (2,())) (AI m.Drain n fun e=>br e (k () (4,())) (k () (1,())))) fun s1=>br (decide (n<0)) (k () (0,())) (br (decide (n≥LN m.Drain)) (k () (0,())) ((MW m∧0≤n∧n≤1000)∧br s0 (AI m.Drain n fun e=>br e (k () (3,())) s1) s1))
def vStepsM (m:Model) (k:Unit→List Step × Unit→Prop):Prop:=
MW m∧LP (Model × List Int × List Step × Int) (fun x=>((m.Now=x.1.Now∧m.Drain=x.1.Drain∧m.L=x.1.L∧m.Closed=x.1.Closed∧True)∧(0=0∧0=length x.2.2.1)∧(0=0∧length (timesM m)=length x.2.1)∧0=x.2.2.2∧True)∧timesM m=x.2.1∧[]=x.2.2.1∧True) fun I m x=>SH (length x.2.2.1) fun s0=>SH x.2.2.1 fun s1=>SH x.2.2.2 fun s2=>br (decide (s2<LN x.2.1)) (AT x.2.1 s2 fun e=>SH (AT x.2.1 s2 fun e_2=>1≤1∧0+s0≤s0∧s0+1≤68719476736∧NM (s2+1) fun n=>NX I m x fun y=>((x.1.Now=y.1.Now∧x.1.Drain=y.1.Drain∧x.1.L=y.1.L∧x.1.Closed=y.1.Closed∧True)∧(0=0∧s0+1=length y.2.2.1)∧(0=0∧length x.2.1=length y.2.1)∧n=y.2.2.2∧True)∧x.2.1=y.2.1∧tk s1++[Step.mk e_2 (freeM x.1 e 0)]=y.2.2.1∧True) fun s3=>MW x.1∧br (LN s1==0) s3 (NM (LN s1-1) fun n=>AT s1 n fun e_1=>br (!e_1.Free==freeM x.1 e 0) s3 (NM (s2+1) fun n=>NX I m x fun y=>((x.1.Now=y.1.Now∧x.1.Drain=y.1.Drain∧x.1.L=y.1.L∧x.1.Closed=y.1.Closed∧True)∧(0=0∧s0=length y.2.2.1)∧(0=0∧length x.2.1=length y.2.1)∧n=y.2.2.2∧True)∧x.2.1=y.2.1∧s1=y.2.2.1∧True))) (s0=s0∧k () (s1,()))
def vSubM (m:Model) (r:Req) (k:Model × Unit→Reply × Unit→Prop):Prop:=
SH (length m.L) fun s0=>SH (length m.Drain) fun s1=>SH (Model.mk m.Now (tk m.Drain) (tk m.L) m.Closed) fun s2=>SH r.Width fun s3=>SH r.Limit fun s4=>SH (Reply.mk 1 0 0 0 0 0 0 0 0,()) fun s5=>SH (tk m.Drain) fun s6=>SH m.Closed fun s7=>SH (0+(s0+1)) fun s8=>SH (0+s1≤s1) fun s9=>SH (0+s0≤s0) fun s10=>SH (s9∧s10∧k (s2,()) (Reply.mk 6 0 0 0 0 0 0 0 0,())) fun s11=>SH (s9∧s10∧k (s2,()) (Reply.mk 10 0 0 0 0 0 0 0 0,())) fun s12=>br (decide (r.User<0)) (k (m,()) s5) (br (decide (r.User>255)) (k (m,()) s5) (br (decide (r.Prio<0)) (k (m,()) s5) (br (decide (r.Prio>1000)) (k (m,()) s5) (br (decide (s3<1)) (k (m,()) (Reply.mk 9 0 0 0 0 0 0 0 0,())) (br (decide (s3>LN m.Drain)) (s9∧s10∧k (s2,()) (Reply.mk 9 0 0 0 0 0 0 0 0,())) (br (decide (s4<1)) s12 (br (decide (s4>1048576)) s12 (s9∧s10∧MW s2∧br (decide (liveN (tk m.L)>63)) s11 (br (decide (LN m.L>1023)) s11 (NM (LN m.L+1) fun n=>SH (tk m.L++[Job.mk n r.User s3 s4 r.Prio 1 (-1) (-1) (-1) 0]) fun s13=>SH (tk m.L++[Job.mk n r.User s3 s4 r.Prio 2 (-1) (-1) (-1) 0]) fun s14=>SH (Model.mk m.Now s6 (take (s0+1) (drop 0 s13)) s7) fun s15=>SH (Model.mk m.Now s6 (take (s0+1) (drop 0 s14)) s7) fun s16=>SH (Reply.mk 0 n 1 (-1) (-1) (-1) s3 r.Prio 0,()) fun s17=>SH (Reply.mk 0 n 2 (-1) (-1) (-1) s3 r.Prio 0,()) fun s18=>(br r.Held (((1≤1∧s10∧s0+1≤68719476736∧br (!r.Held) (s9∧s8≤length s14∧MW s16∧k (dropM s16 (Job.mk n r.User s3 s4 r.Prio 2 (-1) (-1) (-1) 0),()) s18) (s9∧s8≤length s14∧k (s16,()) s18)∧True)∧True)∧True) (((1≤1∧s10∧s0+1≤68719476736∧br (!r.Held) (s9∧s8≤length s13∧MW s15∧k (dropM s15 (Job.mk n r.User s3 s4 r.Prio 1 (-1) (-1) (-1) 0),()) s17) (s9∧s8≤length s13∧k (s15,()) s17)∧True)∧True)∧True)∧True)∧True))))))))))
def vTell (j:Job) (k:Unit→Reply × Unit→Prop):Prop:=
k () (Reply.mk 0 j.Id j.State j.Start j.End j.Plan j.Width j.Prio 0,())
def vTickM_1 (k:Model × Unit→Reply × Unit→Prop) (x:Model × Int × Int):Prop:=
SH (Model.mk x.2.1 (tk x.1.Drain) (tk x.1.L) x.1.Closed) fun s0=>SH (length x.1.Drain) fun s1=>SH (length x.1.L) fun s2=>(0+s1≤s1∧0+s2≤s2∧MW s0∧(0+s1≤s1∧0+s2≤s2∧k (s0,()) (Reply.mk 0 0 0 x.2.1 0 0 (freeM s0 x.2.1 0) 0 0,()))∧True)∧True
def vTickM (m:Model) (n:Int) (k:Model × Unit→Reply × Unit→Prop):Prop:=
SH (length m.Drain) fun s0=>SH (Model.mk m.Now (tk m.Drain) (tk m.L) m.Closed) fun s1=>SH (((0:Int)=0∧(0:Int)=0∧(0:Int)=0∧(0:Int)=0∧(0:Int)=0∧(0:Int)=0∧(0:Int)=0∧(0:Int)=0∧(0:Int)=0∧True)∧True) fun s2=>SH (0+length m.L≤length m.L) fun s3=>br (decide (n<1)) (k (m,()) (Reply.mk (10:Int) (0:Int) (0:Int) (0:Int) (0:Int) (0:Int) (0:Int) (0:Int) (0:Int),())) (NM (1099511627776-m.Now) fun n_1=>br (decide (n>n_1)) (0+s0≤s0∧s3∧k (s1,()) (Reply.mk (10:Int) (0:Int) (0:Int) (0:Int) (0:Int) (0:Int) (0:Int) (0:Int) (0:Int),())) (NM (m.Now+n) fun n_2=>LP (Model × Int × Int) (fun x=>0+s0≤s0∧s3∧((0:Nat)=0∧(0:Nat)=0∧n_2=x.2.1∧0=x.2.2∧True)∧s1=x.1∧s2) fun I m x=>SH (Model.mk x.1.Now (tk x.1.Drain) (tk x.1.L) x.1.Closed) fun s4=>SH (length x.1.Drain) fun s5=>SH (Model.mk (nextM s4) (tk x.1.Drain) (tk x.1.L) x.1.Closed) fun s6=>SH (length x.1.L) fun s7=>NM (2*LN x.1.L) fun n=>br (decide (x.2.2≤n)) (0+s5≤s5∧0+s7≤s7∧MW s4∧br (decide (nextM s4<0)) (vTickM_1 k x) (br (decide (nextM s4>x.2.1)) (vTickM_1 k x) (0+s5≤s5∧0+s7≤s7∧MW s6∧NM (x.2.2+1) fun n=>NX I m x fun y=>((0:Nat)=0∧(0:Nat)=0∧x.2.1=y.2.1∧n=y.2.2∧True)∧happenM s6=y.1∧s2))) (vTickM_1 k x)))
def vTimesM (m:Model) (k:Unit→List Int × Unit→Prop):Prop:=
LP (Model × List Int × Int) (fun x=>((m.Now=x.1.Now∧m.Drain=x.1.Drain∧m.L=x.1.L∧m.Closed=x.1.Closed∧True)∧(0=0∧1=length x.2.1)∧0=x.2.2∧True)∧[m.Now]=x.2.1∧True) fun I m x=>NM (2*LN x.1.L) fun n=>br (decide (x.2.2<n)) (NM (LN x.2.1-1) fun n=>AT x.2.1 n fun e=>LP (Model × List Int × Int × Int × Int × Int) (fun x_1=>((x.1.Now=x_1.1.Now∧x.1.Drain=x_1.1.Drain∧x.1.L=x_1.1.L∧x.1.Closed=x_1.1.Closed∧True)∧(0=0∧length x.2.1=length x_1.2.1)∧x.2.2=x_1.2.2.1∧e=x_1.2.2.2.1∧(-1)=x_1.2.2.2.2.1∧0=x_1.2.2.2.2.2∧True)∧x.2.1=x_1.2.1∧True) fun I_1 m_1 x_1=>SH x_1.2.2.2 fun s0=>SH (length x_1.2.1) fun s1=>SH x_1.1.Closed fun s2=>SH x_1.1.Drain fun s3=>br (decide (s0.2.2<LN x_1.1.L)) (AI x_1.1.L s0.2.2 fun e=>br (e.State==3) (br (plannedJ e) (NM (e.Plan+e.Limit) fun n=>NM (s0.2.2+1) fun n_1=>NX I_1 m_1 x_1 fun y=>((x_1.1.Now=y.1.Now∧s3=y.1.Drain∧x_1.1.L=y.1.L∧s2=y.1.Closed∧True)∧(0=0∧s1=length y.2.1)∧x_1.2.2.1=y.2.2.1∧s0.1=y.2.2.2.1∧sooner (sooner (sooner s0.2.1 e.End s0.1) e.Plan s0.1) n s0.1=y.2.2.2.2.1∧n_1=y.2.2.2.2.2∧True)∧x_1.2.1=y.2.1∧True) (NM (s0.2.2+1) fun n=>NX I_1 m_1 x_1 fun y=>((x_1.1.Now=y.1.Now∧s3=y.1.Drain∧x_1.1.L=y.1.L∧s2=y.1.Closed∧True)∧(0=0∧s1=length y.2.1)∧x_1.2.2.1=y.2.2.1∧s0.1=y.2.2.2.1∧sooner s0.2.1 e.End s0.1=y.2.2.2.2.1∧n=y.2.2.2.2.2∧True)∧x_1.2.1=y.2.1∧True)) (br (plannedJ e) (NM (e.Plan+e.Limit) fun n=>NM (s0.2.2+1) fun n_1=>NX I_1 m_1 x_1 fun y=>((x_1.1.Now=y.1.Now∧s3=y.1.Drain∧x_1.1.L=y.1.L∧s2=y.1.Closed∧True)∧(0=0∧s1=length y.2.1)∧x_1.2.2.1=y.2.2.1∧s0.1=y.2.2.2.1∧sooner (sooner s0.2.1 e.Plan s0.1) n s0.1=y.2.2.2.2.1∧n_1=y.2.2.2.2.2∧True)∧x_1.2.1=y.2.1∧True) (NM (s0.2.2+1) fun n=>NX I_1 m_1 x_1 fun y=>((x_1.1.Now=y.1.Now∧s3=y.1.Drain∧x_1.1.L=y.1.L∧s2=y.1.Closed∧True)∧(0=0∧s1=length y.2.1)∧x_1.2.2.1=y.2.2.1∧s0.1=y.2.2.2.1∧s0.2.1=y.2.2.2.2.1∧n=y.2.2.2.2.2∧True)∧x_1.2.1=y.2.1∧True))) (br (decide (s0.2.1<0)) (s1=s1∧k () (x_1.2.1,())) (1≤1∧0+s1≤s1∧s1+1≤68719476736∧NM (x_1.2.2.1+1) fun n=>NX I m x fun y=>((x_1.1.Now=y.1.Now∧s3=y.1.Drain∧x_1.1.L=y.1.L∧s2=y.1.Closed∧True)∧(0=0∧s1+1=length y.2.1)∧n=y.2.2∧True)∧tk x_1.2.1++[s0.2.1]=y.2.1∧True))) (length x.2.1=length x.2.1∧k () (x.2.1,()))
def vTurnM_1 (m:Model) (r:Req) (k:Model × Unit→Reply × Unit→Prop):Prop:=
SH (getM m r.Id).1 fun s0=>SH (Job.mk s0.Id s0.User s0.Width s0.Limit s0.Prio 1 s0.Start s0.End s0.Plan s0.Nodes) fun s1=>SH (Job.mk s0.Id s0.User s0.Width s0.Limit s0.Prio 1 s0.Start s0.End (-1) s0.Nodes) fun s2=>SH (Job.mk s0.Id s0.User s0.Width s0.Limit s0.Prio 2 s0.Start s0.End (-1) s0.Nodes) fun s3=>SH (length m.L) fun s4=>SH (length m.Drain) fun s5=>SH (tk m.Drain) fun s6=>SH m.Closed fun s7=>SH (Reply.mk 0 s0.Id s0.State s0.Start s0.End s0.Plan s0.Width s0.Prio 0,()) fun s8=>SH (r.Kind==4) fun s9=>SH (Reply.mk 0 s0.Id 1 s0.Start s0.End s0.Plan s0.Width s0.Prio 0,()) fun s10=>SH (Reply.mk 0 s0.Id 1 s0.Start s0.End (-1) s0.Width s0.Prio 0,()) fun s11=>SH (Reply.mk 0 s0.Id 2 s0.Start s0.End (-1) s0.Width s0.Prio 0,()) fun s12=>SH (0+s5≤s5) fun s13=>br (r.Kind==3) (br s9 (NM (r.Id-1) fun n=>SH (Model.mk m.Now s6 (take s4 (drop 0 (set m.L (0+toNat n) s2))) s7) fun s14=>SH (0+toNat n) fun s15=>SH (0+s4≤length (set m.L s15 s2)) fun s16=>(0≤n∧n<LN m.L)∧(s15<s4∧ ∀(e:Job),m.L[s15]? =some e→br s9 (s13∧s16∧MW s14∧k (dropM s14 s2,()) s11) (s13∧s16∧k (s14,()) s11))∧True) (NM (r.Id-1) fun n=>SH (Model.mk m.Now s6 (take s4 (drop 0 (set m.L (0+toNat n) s3))) s7) fun s14=>SH (0+toNat n) fun s15=>SH (0+s4≤length (set m.L s15 s3)) fun s16=>(0≤n∧n<LN m.L)∧(s15<s4∧ ∀(e:Job),m.L[s15]? =some e→br s9 (s13∧s16∧MW s14∧k (dropM s14 s3,()) s12) (s13∧s16∧k (s14,()) s12))∧True)) (br s9 (NM (r.Id-1) fun n=>SH (Model.mk m.Now s6 (take s4 (drop 0 (set m.L (0+toNat n) s1))) s7) fun s14=>SH (0+toNat n) fun s15=>SH (0+s4≤length (set m.L s15 s1)) fun s16=>(0≤n∧n<LN m.L)∧(s15<s4∧ ∀(e:Job),m.L[s15]? =some e→br s9 (s13∧s16∧MW s14∧k (dropM s14 s1,()) s10) (s13∧s16∧k (s14,()) s10))∧True) (NM (r.Id-1) fun n=>SH (Model.mk m.Now s6 (take s4 (drop 0 (set m.L (0+toNat n) s0))) s7) fun s14=>SH (0+toNat n) fun s15=>SH (0+s4≤length (set m.L s15 s0)) fun s16=>(0≤n∧n<LN m.L)∧(s15<s4∧ ∀(e:Job),m.L[s15]? =some e→br s9 (s13∧s16∧MW s14∧k (dropM s14 s0,()) s8) (s13∧s16∧k (s14,()) s8))∧True))
def vTurnM (m:Model) (r:Req) (k:Model × Unit→Reply × Unit→Prop):Prop:=
SH (Reply.mk 8 0 0 0 0 0 0 0 0,()) fun s0=>SH (getM m r.Id).1.State fun s1=>SH (br (r.Kind==4) (br (!s1==2) (k (m,()) s0) (vTurnM_1 m r k)) (vTurnM_1 m r k)) fun s2=>MW m∧br (!(getM m r.Id).2) (k (m,()) (Reply.mk 7 0 0 0 0 0 0 0 0,())) (br (r.Kind==3) (br (!s1==1) (k (m,()) s0) s2) s2)
end Go.Ax.V
