import Derived.Test.YtnoinchifbckcaaGreatDoorAxP10
import Derived.Test.YtnoinchifbckcaaGreatDoorAxP8
set_option linter.all false
namespace Go.Ax
def nilSpec (S1 S2:SpecT):SpecT:=fun args H K=>match args with
 | .nilp::_=>S2 args H K
 |_=>S1 args H K
theorem nil_ok {P:Program} {f:FuncId} [Surr] {S1 S2:SpecT} (h1:SpecOK P f S1) (h2:SpecOK P f S2):SpecOK P f (nilSpec S1 S2):=by
 intro args H K hk
 unfold nilSpec at hk
 split at hk
 ·exact h2 _ H K hk
 ·exact h1 _ H K hk
end Go.Ax
namespace Go.Ax.Law
def isK (k:Int):Bool:=decide (1≤k)&&decide (k≤13)
def doS (c:Core) (r:Req):Reply × Core:=if isK r.Kind then ((wholeW (newW r) c).2.1.reply,(wholeW (newW r) c).2.2) else (failR 4,c)
def comS (c:Core) (x:Choice):Bool × Core:=((wholeW (newX x) c).2.1.ok,(wholeW (newX x) c).2.2)
def deedS (c:Core) (d:Deed):Core:=if d.Commit then (comS c d.X).2 else (doS c d.R).2
def madeS (n:Int) (l:List Deed):Core:=(l.take 60).foldl deedS (newCore n)
def OkS (c:Core):Prop:= ∃n m,Stb n c m
def itemJ (j:Job):Item:=⟨j.Id,j.Width,j.Limit,j.Plan⟩
def waitC (c:Core):List Job:=sortJ (inJ c.J.jobs [1])
def allQ:Core→List Req→List Reply × Core
 |c,[]=>([],c)
 |c,r::l=>((doS c r).1::(allQ (doS c r).2 l).1,(allQ (doS c r).2 l).2)
def noneS:Option Sched→Bool
 |none=>true
 |some s=>noneC (some s.C)
def excused (d:Deed) (j:Job) (was now:List Job):Bool:=
 if d.Commit then false
 else if d.R.Kind=3∨d.R.Kind=2 then decide (d.R.Id=j.Id)
 else if d.R.Kind=7 then true
 else if d.R.Kind=1 then decide (was.length<now.length)&&(match now[now.length-1]? with |some b=>aheadJ b j |none=>false)
 else if d.R.Kind=4 then decide (1≤d.R.Id)&&(decide (d.R.Id≤was.length)&&(match was[(d.R.Id-1).toNat]? with |some b=>aheadJ b j |none=>false))
 else false
end Go.Ax.Law
namespace Go.Ax.Sp
def sIsR:Sig:=⟨[(.int .i64,false)],[.bool]⟩
def oIsR:sIsR.Out:=fun x k=>k () (Law.isK x.1,())
def sNewS:Sig:=⟨[(.int .i64,false)],[.opt .sched,.int .i64]⟩
def oNewS:sNewS.Out:=fun x k=>((x.1<1∨64<x.1)→k () (none,1,()))∧(1≤x.1∧x.1≤64→k () (some ⟨Law.newCore x.1⟩,0,()))
def sNoneS:Sig:=⟨[(.vopt .sched,false)],[.bool]⟩
def oNoneS:sNoneS.Out:=fun x k=>k () (Law.noneS x.1,())
def sRunS:Sig:=⟨[(.obj .sched,true),(.obj .work,true)],[]⟩
def PreRun (w:Work) (c:Core) (j:Nat) (w':Work) (c':Core):Prop:=Law.Ends w c j w' c'∧Law.CW c∧Law.WW w∧c.P.steps.length+4*j≤4294960000
def oRunS:sRunS.Out:=fun x k=> ∃j w' c',PreRun x.2.1 x.1.C j w' c'∧k (⟨c'⟩,w',()) ()
def lRunS:LoopAnn:={X:=Core × Work × Nat,live:=fun _=>[(0,.ptr ⟨0,0,0,0⟩),(1,.ptr ⟨1,0,0,0⟩)],heap:=fun x=>[some (.obj .sched ⟨x.1⟩),some (.obj .work x.2.1)],norm:=[.fold 0 .sched,.fold 1 .work]}
def sDoS:Sig:=⟨[(.obj .sched,true),(.elem .req,false)],[.elem .reply]⟩
def oDoS:sDoS.Out:=fun x k=>Law.OkS x.1.C∧k (⟨(Law.doS x.1.C x.2.1).2⟩,()) ((Law.doS x.1.C x.2.1).1,())
def sComS:Sig:=⟨[(.obj .sched,true),(.elem .choice,false)],[.bool]⟩
def oComS:sComS.Out:=fun x k=>Law.OkS x.1.C∧k (⟨(Law.comS x.1.C x.2.1).2⟩,()) ((Law.comS x.1.C x.2.1).1,())
def sTwinS:Sig:=⟨[(.view .sched,false)],[.opt .sched]⟩
def oTwinS:sTwinS.Out:=fun x k=>Law.CW x.1.C∧k () (some x.1,())
def sItems:Sig:=⟨[(.imm .job,false)],[.row .item]⟩
def oItems:sItems.Out:=fun x k=>(x.1.length≤4294967296)∧k () (x.1.map Law.itemJ,())
def lItems:LoopAnn:={X:=List Job × List Item × Int,live:=fun x=>[(3,.sl 0 4 0 x.2.1.length),(6,.imm .job x.1),(7,.int .i64 x.1.length),(8,.int .i64 x.2.2)],heap:=fun x=>[some (.row .item x.2.1)],norm:=[.row 3 .item,.home 3 0]}
def sItemsS:Sig:=⟨[(.view .sched,false)],[.row .item]⟩
def oItemsS:sItemsS.Out:=fun x k=>Law.CW x.1.C∧k () ((Law.waitC x.1.C).map Law.itemJ,())
def sAllQ:Sig:=⟨[(.obj .sched,true),(.imm .req,false)],[.row .reply]⟩
def oAllQ:sAllQ.Out:=fun x k=>(Law.OkS x.1.C∧x.2.1.length≤4294967296)∧k (⟨(Law.allQ x.1.C x.2.1).2⟩,()) ((Law.allQ x.1.C x.2.1).1,())
def sMadeS:Sig:=⟨[(.int .i64,false),(.imm .deed,false)],[.opt .sched]⟩
def oMadeS:sMadeS.Out:=fun x k=>((x.1<1∨64<x.1)→k () (none,()))∧(1≤x.1∧x.1≤64→k () (some ⟨Law.madeS x.1 x.2.1⟩,()))
def lMadeS:LoopAnn:={X:=List Deed × Core × Int,live:=fun x=>[(1,.imm .deed x.1),(5,.ptr ⟨0,0,0,0⟩),(7,.int .i64 x.2.2)],heap:=fun x=>[some (.obj .sched ⟨x.2.1⟩)],norm:=[.fold 0 .sched]}
def sSeqPlays:Sig:=⟨[(.int .i64,false),(.imm .deed,false)],[.bool]⟩
def lSeqPlays:LoopAnn:={X:=List Deed × Core × Model × Int,live:=fun x=>[(1,.imm .deed x.1),(5,.ptr ⟨0,0,0,0⟩),(7,.ptr ⟨1,0,0,0⟩),(8,.int .i64 x.2.2.2)],heap:=fun x=>[some (.obj .sched ⟨x.2.1⟩),some (.obj .model x.2.2.1)],norm:=[.fold 0 .sched,.fold 1 .model]}
def sExc:Sig:=⟨[(.elem .deed,false),(.elem .job,false),(.imm .job,false),(.imm .job,false)],[.bool]⟩
def oExc:sExc.Out:=fun x k=>(x.2.2.1.length≤1099511627776∧x.2.2.2.1.length≤1099511627776)∧k () (Law.excused x.1 x.2.1 x.2.2.1 x.2.2.2.1,())
def sSeqD:Sig:=⟨[(.int .i64,false),(.imm .deed,false),(.elem .deed,false)],[.bool]⟩
def oSeqD:sSeqD.Out:=fun _ k=>k () (true,())
def lSeqPlans:LoopAnn:={X:=Deed × Core × List Job × List Job × Int,live:=fun x=>[(5,.ptr ⟨0,0,0,0⟩),(7,.ptr ⟨1,0,0,0⟩),(8,.sl 2 10 0 x.2.2.1.length),(9,.sl 3 10 0 x.2.2.2.1.length),(10,.int .i64 x.2.2.2.2)],heap:=fun x=>[some (.raw (EK.enc .deed x.1)),some (.obj .sched ⟨x.2.1⟩),some (.row .job x.2.2.1),some (.row .job x.2.2.2.1)],norm:=[.fold 1 .sched,.home 8 2,.home 9 3]}
def lAllQ (f:FuncId):LoopAnn:={X:=Core × List Req × List Reply × Int,live:=fun x=>[(5,.sl 1 9 0 x.2.2.1.length),(6,.fnb f [.ptr ⟨0,0,0,0⟩]),(11,.imm .req x.2.1),(12,.int .i64 x.2.1.length),(13,.int .i64 x.2.2.2)],heap:=fun x=>[some (.obj .sched ⟨x.1⟩),some (.row .reply x.2.2.1)],norm:=[.fold 0 .sched,.row 5 .reply,.home 5 1]}
def sSeqItems:Sig:=⟨[(.int .i64,false),(.imm .deed,false),(.imm .req,false)],[.bool]⟩
def oSeqItems:sSeqItems.Out:=fun _ k=>k () (true,())
def lItems1:LoopAnn:={X:=List Req × Core × List Job × List Item × List Item × Int,live:=fun x=>[(2,.imm .req x.1),(8,.ptr ⟨3,0,0,0⟩),(9,.sl 4 10 0 x.2.2.1.length),(10,.sl 5 4 0 x.2.2.2.1.length),(11,.sl 6 4 0 x.2.2.2.2.1.length),(12,.int .i64 x.2.2.2.2.2)],heap:=fun x=>[none,none,none,some (.obj .sched ⟨x.2.1⟩),some (.row .job x.2.2.1),some (.row .item x.2.2.2.1),some (.row .item x.2.2.2.2.1)],norm:=[.fold 3 .sched,.home 9 4,.home 10 5,.home 11 6]}
def lItems2:LoopAnn:={X:=List Req × Core × Core × List Reply × Int,live:=fun x=>[(2,.imm .req x.1),(8,.ptr ⟨3,0,0,0⟩),(14,.ptr ⟨7,0,0,0⟩),(15,.sl 8 9 0 x.2.2.2.1.length),(16,.int .i64 x.2.2.2.2)],heap:=fun x=>[none,none,none,some (.obj .sched ⟨x.2.1⟩),none,none,none,some (.obj .sched ⟨x.2.2.1⟩),some (.row .reply x.2.2.2.1)],norm:=[.fold 3 .sched,.fold 7 .sched,.home 15 8]}
end Go.Ax.Sp
