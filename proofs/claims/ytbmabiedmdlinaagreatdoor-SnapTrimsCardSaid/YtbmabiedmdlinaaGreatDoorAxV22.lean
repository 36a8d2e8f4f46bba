import Derived.Test.YtbmabiedmdlinaaGreatDoorAxO28
import Derived.Test.YtbmabiedmdlinaaGreatDoorAxV9
import Derived.Test.YtbmabiedmdlinaaGreatDoorAxG
set_option linter.all false
namespace Go.Ax.Law
def lane0:Lane:=⟨false,false,false⟩
def laneHas (l:Lane) (k:Int):Bool:=if k=0 then l.a0 else if k=1 then l.a1 else if k=2 then l.a2 else false
def laneSet (l:Lane) (k:Int):Lane:=if k=0 then ⟨true,l.a1,l.a2⟩ else if k=1 then ⟨l.a0,true,l.a2⟩ else if k=2 then ⟨l.a0,l.a1,true⟩ else l
def ofL (l:List Int):Lane:=l.foldl laneSet lane0
def needsR (k:Int):Lane:=
 if k=1∨k=3∨k=4 then ⟨true,false,true⟩ else if k=2∨k=5∨k=7∨k=8∨k=9 then ⟨true,true,true⟩
 else if k=6∨k=11 then ⟨true,false,false⟩ else if k=10 then ⟨false,true,false⟩ else if k=12 then ⟨false,false,true⟩ else lane0
def nextL (l:Lane) (n:Int):Int:=if n≤0∧l.a0=true then 0 else if n≤1∧l.a1=true then 1 else if n≤2∧l.a2=true then 2 else 3
def bI (b:Bool):Int:=if b then 1 else 0
def lenL (l:Lane):Int:=bI l.a0+bI l.a1+bI l.a2
def ownL (s:LockSet) (k:Int):Int:=if k=0 then s.o0 else if k=1 then s.o1 else if k=2 then s.o2 else 0
def putL (s:LockSet) (k w:Int):LockSet:=if k=0 then {s with o0:=w} else if k=1 then {s with o1:=w} else if k=2 then {s with o2:=w} else s
def heldL (s:LockSet) (w:Int):Lane:=⟨decide (w≠0)&&decide (s.o0=w),decide (w≠0)&&decide (s.o1=w),decide (w≠0)&&decide (s.o2=w)⟩
def tryL (s:LockSet) (k w:Int):Int × LockSet:=
 if k<0∨3≤k∨w<1 then (1,s) else if nextL (heldL s w) k<3 then (17,s) else if ownL s k≠0 then (18,s)
 else (0,{putL s k w with taken:=wr (s.taken+1)})
def unlockL (s:LockSet) (k w:Int):Int × LockSet:=
 if k<0∨3≤k∨w<1 then (1,s) else if ownL s k≠w then (8,s) else (0,putL s k 0)
def idleL (s:LockSet):Bool:=decide (s.o0=0)&&(decide (s.o1=0)&&decide (s.o2=0))
def laneH (h:Hand):Lane:=⟨h.l0,h.l1,h.l2⟩
def newH (w:Work) (who:Int) (l:Lane):Hand:=⟨w,who,l.a0,l.a1,l.a2,nextL l 0,if nextL l 0=3 then 1 else 0⟩
def skipN (l:Lane) (n:Int):Int:=if 2≤n∧l.a2=true then 2 else if 1≤n∧l.a1=true then 1 else if 0≤n∧l.a0=true then 0 else if n<0 then n else-1
def skipH (h:Hand):Hand:={h with next:=skipN (laneH h) h.next,stage:=if skipN (laneH h) h.next<0 then 4 else h.stage}
def partsH (h:Hand) (c:Core):Hand × Core:=
 if (stepW h.W c).1.done then (skipH {h with W:=(stepW h.W c).1,next:=2,stage:=3},(stepW h.W c).2) else ({h with W:=(stepW h.W c).1,stage:=2},(stepW h.W c).2)
def giveH (h:Hand) (s:LockSet):Hand × LockSet:=(skipH {h with next:=wr (h.next-1)},(unlockL s h.next h.who).2)
def waitsH (h:Hand) (s:LockSet):Bool:=decide (h.stage=0)&&decide (ownL s h.next≠0)
def takeH (h:Hand) (s:LockSet):Hand × LockSet:=
 if (tryL s h.next h.who).1≠0 then (h,(tryL s h.next h.who).2)
 else ({h with next:=nextL (laneH h) (wr (h.next+1)),stage:=if nextL (laneH h) (wr (h.next+1))=3 then 1 else h.stage},(tryL s h.next h.who).2)
def stepH (h:Hand) (c:Core) (s:LockSet):Bool × Hand × Core × LockSet:=
 if h.stage=0 then (false,(takeH h s).1,c,(takeH h s).2)
 else if h.stage=1 then (true,(partsH h c).1,(partsH h c).2,s)
 else if h.stage=2 then (false,(partsH h c).1,(partsH h c).2,s)
 else if h.stage=3 then (false,(giveH h s).1,c,(giveH h s).2)
 else if h.stage=4 then (false,{h with stage:=5},c,s) else (false,h,c,s)
def newO (r:Req) (who:Int):OpD:=⟨newH (newW r) who (needsR r.Kind),cleanR r⟩
def stageO:Option Hand→Int |none=>5 |some h=>h.stage
def PreH (h:Hand) (c:Core):Prop:=CW c∧WW h.W∧c.P.steps.length≤4294967280∧ -2≤h.next∧h.next≤3∧(h.stage=3→0≤h.next∧h.next≤2)
end Go.Ax.Law
namespace Go.Ax.Sp
def sOfL:Sig:=⟨[(.imm .i64,false)],[.elem .lane]⟩
def oOfL:sOfL.Out:=fun x k=>(x.1.length≤1000∧ ∀n∈x.1,0≤n∧n<3)∧k () (Law.ofL x.1,())
def lOfL:LoopAnn:={X:=List Int × Lane × Int,live:=fun x=>[(2,.ptr ⟨0,0,0,0⟩),(3,.ptr ⟨1,0,0,0⟩),(6,.imm .i64 x.1),(7,.int .i64 x.1.length),(8,.int .i64 x.2.2)],heap:=fun x=>[some (.raw (EK.enc .lane Law.lane0)),some (.raw (EK.enc .lane x.2.1))]}
def sEvery:Sig:=⟨[],[.elem .lane]⟩
def oEvery:sEvery.Out:=fun _ k=>k () (⟨true,true,true⟩,())
def sNeeds:Sig:=⟨[(.int .i64,false)],[.elem .lane]⟩
def oNeeds:sNeeds.Out:=fun x k=>k () (Law.needsR x.1,())
def sNextL:Sig:=⟨[(.elem .lane,false),(.int .i64,false)],[.int .i64]⟩
def oNextL:sNextL.Out:=fun x k=>k () (Law.nextL x.1 x.2.1,())
def lNextL:LoopAnn:={X:=Lane × Int,live:=fun x=>[(2,.ptr ⟨0,0,0,0⟩),(4,.int .i64 0),(5,.int .i64 x.2)],heap:=fun x=>[some (.raw (EK.enc .lane x.1))]}
def sLenL:Sig:=⟨[(.elem .lane,false)],[.int .i64]⟩
def oLenL:sLenL.Out:=fun x k=>k () (Law.lenL x.1,())
def lLenL:LoopAnn:={X:=Lane × Int × Int,live:=fun x=>[(3,.int .i64 x.2.1),(6,.agg (EK.enc .lane x.1)),(7,.int .i64 x.2.2)],heap:=fun _=>[]}
def sOwnL:Sig:=⟨[(.obj .lockSet,true),(.int .i64,false)],[.int .i64]⟩
def oOwnL:sOwnL.Out:=fun x k=>k (x.1,()) (Law.ownL x.1 x.2.1,())
def sHeldL:Sig:=⟨[(.obj .lockSet,true),(.int .i64,false)],[.elem .lane]⟩
def oHeldL:sHeldL.Out:=fun x k=>k (x.1,()) (Law.heldL x.1 x.2.1,())
def lHeldL:LoopAnn:={X:=LockSet × Int × Lane × Int,live:=fun x=>[(0,.ptr ⟨0,0,0,0⟩),(1,.int .i64 x.2.1),(4,.ptr ⟨1,0,0,0⟩),(5,.ptr ⟨2,0,0,0⟩),(7,.int .i64 x.2.2.2)],heap:=fun x=>[some (.obj .lockSet x.1),some (.raw (EK.enc .lane Law.lane0)),some (.raw (EK.enc .lane x.2.2.1))]}
def sTryL:Sig:=⟨[(.obj .lockSet,true),(.int .i64,false),(.int .i64,false)],[.int .i64]⟩
def oTryL:sTryL.Out:=fun x k=>k ((Law.tryL x.1 x.2.1 x.2.2.1).2,()) ((Law.tryL x.1 x.2.1 x.2.2.1).1,())
def oUnlockL:sTryL.Out:=fun x k=>k ((Law.unlockL x.1 x.2.1 x.2.2.1).2,()) ((Law.unlockL x.1 x.2.1 x.2.2.1).1,())
def sIdleL:Sig:=⟨[(.obj .lockSet,true)],[.bool]⟩
def oIdleL:sIdleL.Out:=fun x k=>k (x.1,()) (Law.idleL x.1,())
def sNewH:Sig:=⟨[(.obj .work,false),(.int .i64,false),(.elem .lane,false)],[.obj .hand]⟩
def oNewH:sNewH.Out:=fun x k=>k () (Law.newH x.1 x.2.1 x.2.2.1,())
def sStageH:Sig:=⟨[(.vopt .hand,false)],[.int .i64]⟩
def oStageH:sStageH.Out:=fun x k=>k () (Law.stageO x.1,())
def sWaitsH:Sig:=⟨[(.vopt .hand,false),(.obj .lockSet,true)],[.bool]⟩
def oWaitsH:sWaitsH.Out:=fun x k=>k (x.2.1,()) ((match x.1 with |some h=>Law.waitsH h x.2.1 |none=>false),())
def sSkipH:Sig:=⟨[(.obj .hand,true)],[]⟩
def oSkipH:sSkipH.Out:=fun x k=>(-2≤x.1.next∧x.1.next≤2)∧k (Law.skipH x.1,()) ()
def lSkipH:LoopAnn:={X:=Hand,live:=fun _=>[(0,.ptr ⟨0,0,0,0⟩)],heap:=fun x=>[some (.obj .hand x)],norm:=[.fold 0 .hand]}
def sPartsH:Sig:=⟨[(.obj .hand,true),(.obj .core,true)],[]⟩
def oPartsH:sPartsH.Out:=fun x k=>Law.PreH x.1 x.2.1∧k ((Law.partsH x.1 x.2.1).1,(Law.partsH x.1 x.2.1).2,()) ()
def sGiveH:Sig:=⟨[(.obj .hand,true),(.obj .lockSet,true)],[]⟩
def oGiveH:sGiveH.Out:=fun x k=>(0≤x.1.next∧x.1.next≤2)∧k ((Law.giveH x.1 x.2.1).1,(Law.giveH x.1 x.2.1).2,()) ()
def sStepH:Sig:=⟨[(.obj .hand,true),(.obj .core,true),(.obj .lockSet,true)],[.bool]⟩
def oStepH:sStepH.Out:=fun x k=>Law.PreH x.1 x.2.1∧k ((Law.stepH x.1 x.2.1 x.2.2.1).2.1,(Law.stepH x.1 x.2.1 x.2.2.1).2.2.1,(Law.stepH x.1 x.2.1 x.2.2.1).2.2.2,()) ((Law.stepH x.1 x.2.1 x.2.2.1).1,())
def sNewO:Sig:=⟨[(.elem .req,false),(.int .i64,false)],[.obj .opD]⟩
def oNewO:sNewO.Out:=fun x k=>k () (Law.newO x.1 x.2.1,())
def sReqO:Sig:=⟨[(.vopt .opD,false)],[.elem .req]⟩
def oReqO:sReqO.Out:=fun x k=>k () ((match x.1 with |some o=>o.req |none=>Law.req0),())
def sFinO:Sig:=⟨[(.vopt .opD,false)],[.bool]⟩
def oFinO:sFinO.Out:=fun x k=>k () ((match x.1 with |some o=>decide (o.H.stage=5) |none=>true),())
def sStepsO:Sig:=⟨[(.elem .lane,false)],[.int .i64]⟩
def oStepsO:sStepsO.Out:=fun x k=>k () (2*Law.lenL x.1+2,())
end Go.Ax.Sp
namespace Go.Ax.V
open Go.Ax.Sp Go.Ax.Law List Int IntKind
set_option maxRecDepth 100000
def vOfL (l:List Int) (k:Unit→Lane × Unit→Prop):Prop:=
SH (false=false∧false=false∧false=false∧True) fun s0=>LP (List Int × Lane × Int) (fun x=>(0=0∧0=0∧l=x.1∧LN l=LN x.1∧0=x.2.2∧True)∧s0∧(false=x.2.1.a0∧false=x.2.1.a1∧false=x.2.1.a2∧True)∧True) fun I m x=>br (decide (x.2.2<LN x.1)) (AI x.1 x.2.2 fun e=>(0≤e∧e<3)∧(e=0→NM (x.2.2+1) fun n=>NX I m x fun y=>(0=0∧0=0∧x.1=y.1∧LN x.1=LN y.1∧n=y.2.2∧True)∧s0∧(true=y.2.1.a0∧x.2.1.a1=y.2.1.a1∧x.2.1.a2=y.2.1.a2∧True)∧True)∧(e=1→NM (x.2.2+1) fun n=>NX I m x fun y=>(0=0∧0=0∧x.1=y.1∧LN x.1=LN y.1∧n=y.2.2∧True)∧s0∧(x.2.1.a0=y.2.1.a0∧true=y.2.1.a1∧x.2.1.a2=y.2.1.a2∧True)∧True)∧(e=2→NM (x.2.2+1) fun n=>NX I m x fun y=>(0=0∧0=0∧x.1=y.1∧LN x.1=LN y.1∧n=y.2.2∧True)∧s0∧(x.2.1.a0=y.2.1.a0∧x.2.1.a1=y.2.1.a1∧true=y.2.1.a2∧True)∧True)∧True) (k () (x.2.1,()))
def vEvery (u:Unit) (k:Unit→Lane × Unit→Prop):Prop:=
3≤3∧(3≤1000∧ ∀(n:Int),Mem n [0,1,2]→0≤n∧n<3)∧k () (Lane.mk true true true,())
def vNeeds (n:Int) (k:Unit→Lane × Unit→Prop):Prop:=
SH (Lane.mk true true true,()) fun s0=>SH [0,2] fun s1=>SH (2≤2∧(2≤1000∧ ∀(n:Int),Mem n s1→0≤n∧n<3)∧k () (Lane.mk true false true,())) fun s2=>SH (1≤1∧(1≤1000∧ ∀(n:Int),Mem n [0]→0≤n∧n<3)∧k () (Lane.mk true false false,())) fun s3=>br (n==1) s2 (br (n==3) s2 (br (n==4) s2 (br (n==2) (k () s0) (br (n==5) (k () s0) (br (n==7) (k () s0) (br (n==8) (k () s0) (br (n==9) (k () s0) (br (n==6) s3 (br (n==11) s3 (br (n==10) (1≤1∧(1≤1000∧ ∀(n:Int),Mem n [1]→0≤n∧n<3)∧k () (Lane.mk false true false,())) (br (n==12) (1≤1∧(1≤1000∧ ∀(n:Int),Mem n [2]→0≤n∧n<3)∧k () (Lane.mk false false true,())) (k () (Lane.mk false false false,())))))))))))))
def vNextL (l:Lane) (n:Int) (k:Unit→Int × Unit→Prop):Prop:=
LP (Lane × Int) (fun x=>((0:Nat)=0∧(0:Int)=0∧(if 0>n then (0:Int) else n)=x.2∧True)∧(l.a0=x.1.a0∧l.a1=x.1.a1∧l.a2=x.1.a2∧True)∧True) fun I m x=>SH (NM (x.2+1) fun n=>NX I m x fun y=>((0:Nat)=0∧(0:Int)=0∧n=y.2∧True)∧(x.1.a0=y.1.a0∧x.1.a1=y.1.a1∧x.1.a2=y.1.a2∧True)∧True) fun s0=>br (decide (x.2<3)) ((0≤x.2∧x.2<3)∧(x.2=0→br x.1.a0 (k () (x.2,())) s0)∧(x.2=1→br x.1.a1 (k () (x.2,())) s0)∧(x.2=2→br x.1.a2 (k () (x.2,())) s0)∧True) (k () ((3:Int),()))
def vLenL (l:Lane) (k:Unit→Int × Unit→Prop):Prop:=
LP (Lane × Int × Int) (fun x=>(0=x.2.1∧(l.a0=x.1.a0∧l.a1=x.1.a1∧l.a2=x.1.a2∧True)∧0=x.2.2∧True)∧True) fun I m x=>SH (x.2.2+1) fun s0=>SH (NM (x.2.1+1) fun n=>NM s0 fun n_1=>NX I m x fun y=>(n=y.2.1∧(x.1.a0=y.1.a0∧x.1.a1=y.1.a1∧x.1.a2=y.1.a2∧True)∧n_1=y.2.2∧True)∧True) fun s1=>SH (NM s0 fun n=>NX I m x fun y=>(x.2.1=y.2.1∧(x.1.a0=y.1.a0∧x.1.a1=y.1.a1∧x.1.a2=y.1.a2∧True)∧n=y.2.2∧True)∧True) fun s2=>br (decide (x.2.2<3)) ((0≤x.2.2∧x.2.2<3)∧(x.2.2=0→br x.1.a0 s1 s2)∧(x.2.2=1→br x.1.a1 s1 s2)∧(x.2.2=2→br x.1.a2 s1 s2)∧True) (k () (x.2.1,()))
def vOwnL (s:LockSet) (n:Int) (k:LockSet × Unit→Int × Unit→Prop):Prop:=
br (decide (n<0)) (k (s,()) (0,())) (br (decide (n≥3)) (k (s,()) (0,())) ((0≤n∧n<3)∧(n=0→k (s,()) (s.o0,()))∧(n=1→k (s,()) (s.o1,()))∧(n=2→k (s,()) (s.o2,()))∧True))
def vHeldL (s:LockSet) (n:Int) (k:LockSet × Unit→Lane × Unit→Prop):Prop:=
SH (false=false∧false=false∧false=false∧True) fun s0=>LP (LockSet × Int × Lane × Int) (fun x=>(0=0∧n=x.2.1∧0=0∧0=0∧0=x.2.2.2∧True)∧s=x.1∧s0∧(false=x.2.2.1.a0∧false=x.2.2.1.a1∧false=x.2.2.1.a2∧True)∧True) fun I m x=>SH x.2.2.2 fun s1=>SH x.2.2.1 fun s2=>SH (ownL x.1 s1==x.2.1) fun s3=>br (decide (s1<3)) (br (!x.2.1==0) ((0≤s1∧s1<3)∧(s1=0→NM (s1+1) fun n=>NX I m x fun y=>(0=0∧x.2.1=y.2.1∧0=0∧0=0∧n=y.2.2.2∧True)∧x.1=y.1∧s0∧(s3=y.2.2.1.a0∧s2.a1=y.2.2.1.a1∧s2.a2=y.2.2.1.a2∧True)∧True)∧(s1=1→NM (s1+1) fun n=>NX I m x fun y=>(0=0∧x.2.1=y.2.1∧0=0∧0=0∧n=y.2.2.2∧True)∧x.1=y.1∧s0∧(s2.a0=y.2.2.1.a0∧s3=y.2.2.1.a1∧s2.a2=y.2.2.1.a2∧True)∧True)∧(s1=2→NM (s1+1) fun n=>NX I m x fun y=>(0=0∧x.2.1=y.2.1∧0=0∧0=0∧n=y.2.2.2∧True)∧x.1=y.1∧s0∧(s2.a0=y.2.2.1.a0∧s2.a1=y.2.2.1.a1∧s3=y.2.2.1.a2∧True)∧True)∧True) ((0≤s1∧s1<3)∧(s1=0→NM (s1+1) fun n=>NX I m x fun y=>(0=0∧x.2.1=y.2.1∧0=0∧0=0∧n=y.2.2.2∧True)∧x.1=y.1∧s0∧(false=y.2.2.1.a0∧s2.a1=y.2.2.1.a1∧s2.a2=y.2.2.1.a2∧True)∧True)∧(s1=1→NM (s1+1) fun n=>NX I m x fun y=>(0=0∧x.2.1=y.2.1∧0=0∧0=0∧n=y.2.2.2∧True)∧x.1=y.1∧s0∧(s2.a0=y.2.2.1.a0∧false=y.2.2.1.a1∧s2.a2=y.2.2.1.a2∧True)∧True)∧(s1=2→NM (s1+1) fun n=>NX I m x fun y=>(0=0∧x.2.1=y.2.1∧0=0∧0=0∧n=y.2.2.2∧True)∧x.1=y.1∧s0∧(s2.a0=y.2.2.1.a0∧s2.a1=y.2.2.1.a1∧false=y.2.2.1.a2∧True)∧True)∧True)) (k (x.1,()) (s2,()))
def vTryL (s:LockSet) (n:Int) (m:Int) (k:LockSet × Unit→Int × Unit→Prop):Prop:=
SH (s.taken+1) fun s0=>SH ((0≤n∧n<3)∧(n=0→NM s0 fun n=>k (LockSet.mk m s.o1 s.o2 n,()) (0,()))∧(n=1→NM s0 fun n=>k (LockSet.mk s.o0 m s.o2 n,()) (0,()))∧(n=2→NM s0 fun n=>k (LockSet.mk s.o0 s.o1 m n,()) (0,()))∧True) fun s1=>SH (k (s,()) (1,())) fun s2=>SH (k (s,()) (18,())) fun s3=>br (decide (n<0)) s2 (br (decide (n≥3)) s2 (br (decide (m<1)) s2 (br (decide (nextL (Lane.mk (decide (m≠0)&&decide (s.o0=m)) (decide (m≠0)&&decide (s.o1=m)) (decide (m≠0)&&decide (s.o2=m))) n<3)) (k (s,()) (17,())) ((0≤n∧n<3)∧(n=0→br (!s.o0==0) s3 s1)∧(n=1→br (!s.o1==0) s3 s1)∧(n=2→br (!s.o2==0) s3 s1)∧True))))
def vUnlockL (s:LockSet) (n:Int) (m:Int) (k:LockSet × Unit→Int × Unit→Prop):Prop:=
SH s.taken fun s0=>SH (LockSet.mk s.o0 s.o1 0 s0,()) fun s1=>SH (LockSet.mk s.o0 0 s.o2 s0,()) fun s2=>SH (LockSet.mk 0 s.o1 s.o2 s0,()) fun s3=>SH ((0≤n∧n<3)∧(n=0→k s3 (0,()))∧(n=1→k s2 (0,()))∧(n=2→k s1 (0,()))∧True) fun s4=>SH (k (s,()) (1,())) fun s5=>SH (k (s,()) (8,())) fun s6=>br (decide (n<0)) s5 (br (decide (n≥3)) s5 (br (decide (m<1)) s5 ((0≤n∧n<3)∧(n=0→br (!s.o0==m) s6 s4)∧(n=1→br (!s.o1==m) s6 s4)∧(n=2→br (!s.o2==m) s6 s4)∧True)))
def vIdleL (s:LockSet) (k:LockSet × Unit→Bool × Unit→Prop):Prop:=
k (s,()) (s.o0==0&&(s.o1==0&&(s.o2==0&&true)),())
def vNewH (w:Work) (n:Int) (l:Lane) (k:Unit→Hand × Unit→Prop):Prop:=
(br (nextL l 0==3) (k () (Hand.mk w n l.a0 l.a1 l.a2 (nextL l 0) 1,())) (k () (Hand.mk w n l.a0 l.a1 l.a2 (nextL l 0) 0,()))∧True)∧True
def vStageH (h:Hand) (k:Unit→Int × Unit→Prop):Prop:=
k () (h.stage,())
def vStageHN (k:Unit→Int × Unit→Prop):Prop:=
k () (5,())
def vWaitsH (h:Hand) (s:LockSet) (k:LockSet × Unit→Bool × Unit→Prop):Prop:=
br (stageO (some h)==0) (k (s,()) (!ownL s h.next==0,())) (k (s,()) (false,()))
def vWaitsHN (s:LockSet) (k:LockSet × Unit→Bool × Unit→Prop):Prop:=
k (s,()) (false,())
def vSkipH (h:Hand) (k:Hand × Unit→Unit→Prop):Prop:=
SH (0=0∧True) fun s0=>LP Hand (fun x=>s0∧h=x∧True) fun I m x=>SH (Hand.mk x.W x.who x.l0 x.l1 x.l2 x.next 4,()) fun s1=>SH (decide (x.next<0)) fun s2=>SH (NM (x.next-1) fun n=>NX I m x fun y=>s0∧Hand.mk x.W x.who x.l0 x.l1 x.l2 n x.stage=y∧True) fun s3=>SH (br s2 (k s1 ()) (k (x,()) ())) fun s4=>br (decide (x.next≥0)) ((0≤x.next∧x.next<3)∧(x.next=0→br (!x.l0) s3 s4)∧(x.next=1→br (!x.l1) s3 s4)∧(x.next=2→br (!x.l2) s3 s4)∧True) s4
def vPartsH (h:Hand) (c:Core) (k:Hand × Core × Unit→Unit→Prop):Prop:=
SH (stepW h.W c) fun s0=>(CW c∧WW h.W∧length c.P.steps≤4294967280)∧br s0.1.done (((-2:Int)≤2∧(2:Int)≤2)∧k (skipH (Hand.mk s0.1 h.who h.l0 h.l1 h.l2 (2:Int) (3:Int)),s0.2,()) ()) (k (Hand.mk s0.1 h.who h.l0 h.l1 h.l2 h.next (2:Int),s0.2,()) ())
def vGiveH (h:Hand) (s:LockSet) (k:Hand × LockSet × Unit→Unit→Prop):Prop:=
(NM (h.next-1) fun n=>((-2)≤n∧n≤2)∧k (skipH (Hand.mk h.W h.who h.l0 h.l1 h.l2 n h.stage),(unlockL s h.next h.who).2,()) ())∧True
def vStepH (h:Hand) (c:Core) (s:LockSet) (k:Hand × Core × LockSet × Unit→Bool × Unit→Prop):Prop:=
SH (c,(tryL s h.next h.who).2,()) fun s0=>SH (stageO (some h)) fun s1=>SH ((partsH h c).1,(partsH h c).2,s,()) fun s2=>SH (Lane.mk h.l0 h.l1 h.l2) fun s3=>br (s1==0) (br (!(tryL s h.next h.who).1==0) (k (h,s0) (false,())) (NM (h.next+1) fun n=>(br (nextL s3 n==3) (k (Hand.mk h.W h.who h.l0 h.l1 h.l2 (nextL s3 n) 1,s0) (false,())) (k (Hand.mk h.W h.who h.l0 h.l1 h.l2 (nextL s3 n) h.stage,s0) (false,()))∧True)∧True)∧True) (br (s1==1) (PreH h c∧k s2 (true,())) (br (s1==2) (PreH h c∧k s2 (false,())) (br (s1==3) ((0≤h.next∧h.next≤2)∧k (skipH (Hand.mk h.W h.who h.l0 h.l1 h.l2 (wr (h.next-1)) h.stage),c,(unlockL s h.next h.who).2,()) (false,())) (br (s1==4) (k (Hand.mk h.W h.who h.l0 h.l1 h.l2 h.next 5,c,s,()) (false,())) (k (h,c,s,()) (false,()))))))
def vNewO (r:Req) (n:Int) (k:Unit→OpD × Unit→Prop):Prop:=
((((k () (OpD.mk (newH (newW r) n (needsR r.Kind)) (cleanR r),())∧True)∧True)∧True)∧True)∧True
def vReqO (o:OpD) (k:Unit→Req × Unit→Prop):Prop:=
k () (o.req,())
def vReqON (k:Unit→Req × Unit→Prop):Prop:=
k () (Req.mk 0 0 0 0 0 0 false 0 0,())
def vFinO (o:OpD) (k:Unit→Bool × Unit→Prop):Prop:=
k () (stageO (some o.H)==5,())
def vFinON (k:Unit→Bool × Unit→Prop):Prop:=
k () (true,())
def vStepsO (l:Lane) (k:Unit→Int × Unit→Prop):Prop:=
NM (2*lenL l) fun n=>NM (n+2) fun n_1=>k () (n_1,())
end Go.Ax.V
namespace Go.Ax.Law
theorem br_if {b:Bool} {x y:Prop}:br b x y=if b=true then x else y:=by cases b<;>rfl
theorem mem3 {l:List Int} (h:(l.all fun n=>decide (0≤n)&&decide (n<3))=true): ∀n:Int,List.Mem n l→0≤n∧n<3:=fun n hn=>by
 have:=List.all_eq_true.1 h n hn
 simpa using this
end Go.Ax.Law
namespace Go.Ax.O
open Go.Ax.Sp Go.Ax.Law
theorem vOwnL {s:LockSet} {n:Int} {k:LockSet × Unit→Int × Unit→Prop} (h:oOwnL (s,n,()) k):V.vOwnL s n k:=by
 have h:k (s,()) (ownL s n,()):=h
 unfold V.vOwnL
 unfold ownL at h
 simp only [br_if]
 grind
theorem vTryL {s:LockSet} {n m:Int} {k:LockSet × Unit→Int × Unit→Prop} (h:oTryL (s,n,m,()) k):V.vTryL s n m k:=by
 have h:k ((tryL s n m).2,()) ((tryL s n m).1,()):=h
 unfold V.vTryL V.NM V.SH
 unfold tryL heldL ownL putL wr at h
 simp only [br_if]
 have hn:n<0∨n=0∨n=1∨n=2∨3≤n:=by omega
 rcases hn with h1 |rfl |rfl |rfl |h1
 ·simp [h1] at h ⊢;grind
 ·simp at h ⊢;grind
 ·simp at h ⊢;grind
 ·simp at h ⊢;grind
 ·simp [h1] at h ⊢;grind
theorem vUnlockL {s:LockSet} {n m:Int} {k:LockSet × Unit→Int × Unit→Prop} (h:oUnlockL (s,n,m,()) k):V.vUnlockL s n m k:=by
 have h:k ((unlockL s n m).2,()) ((unlockL s n m).1,()):=h
 unfold V.vUnlockL V.SH
 unfold unlockL ownL putL at h
 simp only [br_if]
 grind
theorem vIdleL {s:LockSet} {k:LockSet × Unit→Bool × Unit→Prop} (h:oIdleL (s,()) k):V.vIdleL s k:=by
 have h:k (s,()) (idleL s,()):=h
 unfold V.vIdleL
 unfold idleL at h
 grind
theorem vNewH {w:Work} {n:Int} {l:Lane} {k:Unit→Hand × Unit→Prop} (h:oNewH (w,n,l,()) k):V.vNewH w n l k:=by
 have h:k () (newH w n l,()):=h
 unfold V.vNewH
 unfold newH at h
 simp only [br_if]
 grind
theorem vStageH {a:Hand} {k:Unit→Int × Unit→Prop} (h:oStageH (some a,()) k):V.vStageH a k:=h
theorem vStageHN {k:Unit→Int × Unit→Prop} (h:oStageH (none,()) k):V.vStageHN k:=h
theorem vWaitsH {a:Hand} {s:LockSet} {k:LockSet × Unit→Bool × Unit→Prop} (h:oWaitsH (some a,s,()) k):V.vWaitsH a s k:=by
 have h:k (s,()) (waitsH a s,()):=h
 unfold V.vWaitsH stageO
 unfold waitsH at h
 simp only [br_if]
 grind
theorem vWaitsHN {s:LockSet} {k:LockSet × Unit→Bool × Unit→Prop} (h:oWaitsH (none,s,()) k):V.vWaitsHN s k:=h
theorem vPartsH {h:Hand} {c:Core} {k:Hand × Core × Unit→Unit→Prop} (g:oPartsH (h,c,()) k):V.vPartsH h c k:=by
 obtain ⟨hp,g⟩:=g
 have g:k ((partsH h c).1,(partsH h c).2,()) ():=g
 obtain ⟨p1,p2,p3,_⟩:=hp
 unfold V.vPartsH V.SH
 unfold partsH at g
 simp only [br_if]
 exact ⟨⟨p1,p2,p3⟩,by grind⟩
theorem vGiveH {h:Hand} {s:LockSet} {k:Hand × LockSet × Unit→Unit→Prop} (g:oGiveH (h,s,()) k):V.vGiveH h s k:=by
 obtain ⟨hp,g⟩:=g
 have g:k ((giveH h s).1,(giveH h s).2,()) ():=g
 unfold V.vGiveH V.NM
 unfold giveH wr at g
 simp only [] at hp
 rw [w64 (by omega)] at g
 refine ⟨fun n hn=>?_,trivial⟩
 rw [w64 (by omega)] at hn
 subst hn
 exact ⟨by omega,g⟩
theorem vStepH {h:Hand} {c:Core} {s:LockSet} {k:Hand × Core × LockSet × Unit→Bool × Unit→Prop} (g:oStepH (h,c,s,()) k):V.vStepH h c s k:=by
 obtain ⟨hp,g⟩:=g
 have g:k ((stepH h c s).2.1,(stepH h c s).2.2.1,(stepH h c s).2.2.2,()) ((stepH h c s).1,()):=g
 have hp:PreH h c:=hp
 have hq:=hp.2.2.2.2.2
 unfold V.vStepH V.NM V.SH stageO
 unfold stepH takeH giveH laneH wr at g
 simp only [br_if]
 grind
theorem vNewO {r:Req} {n:Int} {k:Unit→OpD × Unit→Prop} (h:oNewO (r,n,()) k):V.vNewO r n k:=by
 have h:k () (newO r n,()):=h
 exact ⟨⟨⟨⟨⟨h,trivial⟩,trivial⟩,trivial⟩,trivial⟩,trivial⟩
theorem vReqO {o:OpD} {k:Unit→Req × Unit→Prop} (h:oReqO (some o,()) k):V.vReqO o k:=h
theorem vReqON {k:Unit→Req × Unit→Prop} (h:oReqO (none,()) k):V.vReqON k:=h
theorem vFinO {o:OpD} {k:Unit→Bool × Unit→Prop} (h:oFinO (some o,()) k):V.vFinO o k:=by
 have h:k () (decide (o.H.stage=5),()):=h
 unfold V.vFinO stageO
 grind
theorem vFinON {k:Unit→Bool × Unit→Prop} (h:oFinO (none,()) k):V.vFinON k:=h
theorem lenL_le (l:Lane):0≤lenL l∧lenL l≤3:=by
 unfold lenL bI;grind
theorem vStepsO {l:Lane} {k:Unit→Int × Unit→Prop} (h:oStepsO (l,()) k):V.vStepsO l k:=by
 have h:k () (2*lenL l+2,()):=h
 have hl:=lenL_le l
 unfold V.vStepsO V.NM
 intro n hn m hm
 rw [w64 (by omega)] at hn
 subst hn
 rw [w64 (by omega)] at hm
 subst hm
 exact h
theorem vEvery {u:Unit} {k:Unit→Lane × Unit→Prop} (h:oEvery u k):V.vEvery u k:=by
 exact ⟨Nat.le_refl _,⟨by omega,mem3 (by decide)⟩,h⟩
theorem vNeeds {n:Int} {k:Unit→Lane × Unit→Prop} (h:oNeeds (n,()) k):V.vNeeds n k:=by
 have h:k () (needsR n,()):=h
 unfold V.vNeeds V.SH
 unfold needsR lane0 at h
 have m1:=eq_true (mem3 (l:=[0,2]) (by decide))
 have m2:=eq_true (mem3 (l:=[0]) (by decide))
 have m3:=eq_true (mem3 (l:=[1]) (by decide))
 have m4:=eq_true (mem3 (l:=[2]) (by decide))
 simp only [br_if,m1,m2,m3,m4,Nat.le_refl,Nat.reduceLeDiff,true_and,beq_iff_eq]
 grind (splits:=60)
theorem vNextL {l:Lane} {n:Int} {k:Unit→Int × Unit→Prop} (h:oNextL (l,n,()) k):V.vNextL l n k:=by
 have h:k () (nextL l n,()):=h
 unfold V.vNextL V.LP V.NX V.NM V.SH
 refine ⟨fun x=>x.1=l∧0≤x.2∧k () (nextL l x.2,()),fun x=>(3-x.2).toNat,(l,if 0>n then 0 else n),⟨rfl,by grind,by unfold nextL at h ⊢;grind⟩,by simp,?_⟩
 rintro ⟨l',i⟩ ⟨e,hi,hk⟩
 simp only [] at e hi hk
 subst e
 have step: ∀(j:Int),0≤j→j<3→laneHas l' j=false→k () (nextL l' j,())→ ∀n,n=IntKind.i64.wrap (j+1)→ ∃y:Lane × Int,(y.1=l'∧0≤y.2∧k () (nextL l' y.2,()))∧(((0:Nat)=0∧(0:Int)=0∧n=y.2∧True)∧(l'.a0=y.1.a0∧l'.a1=y.1.a1∧l'.a2=y.1.a2∧True)∧True)∧(3-y.2).toNat<(3-j).toNat:=by
  intro j h0 h3 hl hk n hn
  rw [w64 (by omega)] at hn
  subst hn
  refine ⟨(l',j+1),⟨rfl,by simp only [];omega,?_⟩,by simp,by simp only [];omega⟩
  unfold laneHas at hl
  unfold nextL at hk ⊢
  grind
 refine br_dec (fun h3=>⟨⟨hi,h3⟩,fun hj=>?_,fun hj=>?_,fun hj=>?_,trivial⟩) (fun h3=>?_)
 ·simp only [] at hj;subst hj
  exact br_bool (fun (hb:l'.a0=true)=>by unfold nextL at hk;simpa [hb] using hk) (fun (hb:l'.a0=false)=>step _ hi (by omega) (by unfold laneHas;simpa using hb) hk)
 ·simp only [] at hj;subst hj
  exact br_bool (fun (hb:l'.a1=true)=>by unfold nextL at hk;simpa [hb] using hk) (fun (hb:l'.a1=false)=>step _ hi (by omega) (by unfold laneHas;simpa using hb) hk)
 ·simp only [] at hj;subst hj
  exact br_bool (fun (hb:l'.a2=true)=>by unfold nextL at hk;simpa [hb] using hk) (fun (hb:l'.a2=false)=>step _ hi (by omega) (by unfold laneHas;simpa using hb) hk)
 ·have h3: ¬ i<3:=h3
  unfold nextL at hk
  rwa [if_neg (by omega),if_neg (by omega),if_neg (by omega)] at hk
def lenTo (l:Lane) (i:Int):Int:=(if 0<i then bI l.a0 else 0)+(if 1<i then bI l.a1 else 0)+(if 2<i then bI l.a2 else 0)
theorem vLenL {l:Lane} {k:Unit→Int × Unit→Prop} (h:oLenL (l,()) k):V.vLenL l k:=by
 have h:k () (lenL l,()):=h
 unfold V.vLenL V.LP V.NX V.NM V.SH
 refine ⟨fun x=>x.1=l∧0≤x.2.2∧x.2.2≤3∧x.2.1=lenTo l x.2.2,fun x=>(3-x.2.2).toNat,(l,0,0),⟨rfl,by simp,by simp,by simp [lenTo]⟩,by simp,?_⟩
 rintro ⟨l',c,i⟩ ⟨e,hi,hi2,hc⟩
 simp only [] at e hi hi2 hc
 subst e
 have hcb:0≤c∧c≤3:=by rw [hc];unfold lenTo bI;grind
 have step: ∀(b:Bool),i<3→b=laneHas l' i→ ∀(c1:Int),c1=(if b=true then IntKind.i64.wrap (c+1) else c)→ ∀n,n=IntKind.i64.wrap (i+1)→ ∃y:Lane × Int × Int,(y.1=l'∧0≤y.2.2∧y.2.2≤3∧y.2.1=lenTo l' y.2.2)∧((c1=y.2.1∧(l'.a0=y.1.a0∧l'.a1=y.1.a1∧l'.a2=y.1.a2∧True)∧n=y.2.2∧True)∧True)∧(3-y.2.2).toNat<(3-i).toNat:=by
  intro b h3 hb c1 hc1 n hn
  rw [w64 (by omega)] at hn
  rw [w64 (by omega)] at hc1
  subst hn
  refine ⟨(l',c1,i+1),⟨rfl,by simp only [];omega,by simp only [];omega,?_⟩,by simp,by simp only [];omega⟩
  have hi3:i=0∨i=1∨i=2:=by omega
  subst hc1 hb
  rw [hc]
  unfold lenTo laneHas bI
  rcases hi3 with rfl |rfl |rfl<;>simp<;>grind
 refine br_dec (fun h3=>⟨⟨hi,h3⟩,fun hj=>?_,fun hj=>?_,fun hj=>?_,trivial⟩) (fun h3=>?_)
 ·simp only [] at hj;subst hj
  exact br_bool (fun (hb:l'.a0=true) n hn m hm=>step true (by omega) (by unfold laneHas;simp [hb]) n (by simpa using hn) m hm) (fun (hb:l'.a0=false) m hm=>step false (by omega) (by unfold laneHas;simp [hb]) c (by simp) m hm)
 ·simp only [] at hj;subst hj
  exact br_bool (fun (hb:l'.a1=true) n hn m hm=>step true (by omega) (by unfold laneHas;simp [hb]) n (by simpa using hn) m hm) (fun (hb:l'.a1=false) m hm=>step false (by omega) (by unfold laneHas;simp [hb]) c (by simp) m hm)
 ·simp only [] at hj;subst hj
  exact br_bool (fun (hb:l'.a2=true) n hn m hm=>step true (by omega) (by unfold laneHas;simp [hb]) n (by simpa using hn) m hm) (fun (hb:l'.a2=false) m hm=>step false (by omega) (by unfold laneHas;simp [hb]) c (by simp) m hm)
 ·have h3: ¬ i<3:=h3
  obtain rfl:i=3:=by omega
  rw [show c=lenL l' by rw [hc];unfold lenTo lenL;simp]
  exact h
theorem vOfL {l:List Int} {k:Unit→Lane × Unit→Prop} (h:oOfL (l,()) k):V.vOfL l k:=by
 obtain ⟨⟨hl,hm⟩,h⟩:=h
 have h:k () (ofL l,()):=h
 unfold V.vOfL V.LP V.NX V.AI V.NM V.SH V.LN
 refine ⟨fun x=>x.1=l∧0≤x.2.2∧x.2.2≤l.length∧x.2.1=ofL (l.take x.2.2.toNat),fun x=>(l.length-x.2.2).toNat,(l,lane0,0),⟨rfl,by simp,by simp,by simp [ofL]⟩,by simp [lane0],?_⟩
 rintro ⟨l',c,i⟩ ⟨e,hi,hi2,hc⟩
 simp only [] at e hi hi2 hc hm hl
 subst e
 refine br_dec (fun h3=>⟨⟨hi,h3⟩,fun e he=>?_⟩) (fun h3=>?_)
 ·have h3:i<l'.length:=h3
  have hg:laneSet c e=ofL (l'.take (i+1).toNat):=by
   rw [show (i+1).toNat=i.toNat+1 by omega,List.take_add_one,he,hc]
   simp [ofL]
  have step: ∀(d:Lane),d=laneSet c e→ ∀n,n=IntKind.i64.wrap (i+1)→ ∃y:List Int × Lane × Int,(y.1=l'∧0≤y.2.2∧y.2.2≤l'.length∧y.2.1=ofL (l'.take y.2.2.toNat))∧((0=0∧0=0∧l'=y.1∧(l'.length:Int)=y.1.length∧n=y.2.2∧True)∧(false=false∧false=false∧false=false∧True)∧(d.a0=y.2.1.a0∧d.a1=y.2.1.a1∧d.a2=y.2.1.a2∧True)∧True)∧(l'.length-y.2.2).toNat<(l'.length-i).toNat:=by
   intro d hd n hn
   rw [w64 (by omega)] at hn
   subst hn
   exact ⟨(l',d,i+1),⟨rfl,by simp only [];omega,by simp only [];omega,hd.trans hg⟩,by simp,by simp only [];omega⟩
  exact ⟨hm e (List.mem_of_getElem? he),fun h0=>step ⟨true,c.a1,c.a2⟩ (by subst h0;rfl),fun h0=>step ⟨c.a0,true,c.a2⟩ (by subst h0;rfl),fun h0=>step ⟨c.a0,c.a1,true⟩ (by subst h0;rfl),trivial⟩
 ·have h3: ¬ i<l'.length:=h3
  rw [List.take_of_length_le (by omega)] at hc
  rw [show (l',c,i).2.1=ofL l' from hc]
  exact h
def heldTo (s:LockSet) (w i:Int):Lane:=⟨decide (0<i)&&(heldL s w).a0,decide (1<i)&&(heldL s w).a1,decide (2<i)&&(heldL s w).a2⟩
theorem vHeldL {s:LockSet} {n:Int} {k:LockSet × Unit→Lane × Unit→Prop} (h:oHeldL (s,n,()) k):V.vHeldL s n k:=by
 have h:k (s,()) (heldL s n,()):=h
 unfold V.vHeldL V.LP V.NX V.NM V.SH
 refine ⟨fun x=>x.1=s∧x.2.1=n∧0≤x.2.2.2∧x.2.2.2≤3∧x.2.2.1=heldTo s n x.2.2.2,fun x=>(3-x.2.2.2).toNat,(s,n,lane0,0),⟨rfl,rfl,by simp,by simp,by simp [heldTo,lane0]⟩,by simp [lane0],?_⟩
 rintro ⟨s',n',c,i⟩ ⟨e1,e2,hi,hi2,hc⟩
 simp only [] at e1 e2 hi hi2 hc
 subst e1 e2
 have step: ∀(d:Lane),i<3→d=heldTo s' n' (i+1)→ ∀n,n=IntKind.i64.wrap (i+1)→ ∃y:LockSet × Int × Lane × Int,(y.1=s'∧y.2.1=n'∧0≤y.2.2.2∧y.2.2.2≤3∧y.2.2.1=heldTo s' n' y.2.2.2)∧((0=0∧n'=y.2.1∧0=0∧0=0∧n=y.2.2.2∧True)∧s'=y.1∧(false=false∧false=false∧false=false∧True)∧(d.a0=y.2.2.1.a0∧d.a1=y.2.2.1.a1∧d.a2=y.2.2.1.a2∧True)∧True)∧(3-y.2.2.2).toNat<(3-i).toNat:=by
  intro d h3 hd n hn
  rw [w64 (by omega)] at hn
  subst hn
  exact ⟨(s',n',d,i+1),⟨rfl,rfl,by simp only [];omega,by simp only [];omega,hd⟩,by simp,by simp only [];omega⟩
 refine br_dec (fun h3=>br_ne (fun hw=>⟨⟨hi,h3⟩,fun hj=>step ⟨ownL s' i==n',c.a1,c.a2⟩ h3 ?_,fun hj=>step ⟨c.a0,ownL s' i==n',c.a2⟩ h3 ?_,fun hj=>step ⟨c.a0,c.a1,ownL s' i==n'⟩ h3 ?_,trivial⟩) (fun hw=>⟨⟨hi,h3⟩,fun hj=>step ⟨false,c.a1,c.a2⟩ h3 ?_,fun hj=>step ⟨c.a0,false,c.a2⟩ h3 ?_,fun hj=>step ⟨c.a0,c.a1,false⟩ h3 ?_,trivial⟩)) (fun h3=>?_)
 iterate 6 (· simp only [] at hj hw;subst hj hc;simp [heldTo,heldL,ownL,hw];try grind)
 ·have h3: ¬ i<3:=h3
  obtain rfl:i=3:=by omega
  rw [show (s',n',c,(3:Int)).2.2.1=heldL s' n' by simp only [];rw [hc];simp [heldTo]]
  exact h
theorem vSkipH {h:Hand} {k:Hand × Unit→Unit→Prop} (g:oSkipH (h,()) k):V.vSkipH h k:=by
 obtain ⟨hp,g⟩:=g
 have g:k (skipH h,()) ():=g
 simp only [] at hp
 unfold V.vSkipH V.LP V.NX V.NM V.SH
 refine ⟨fun x=> -2≤x.next∧x.next≤2∧skipH x=skipH h,fun x=>(x.next+2).toNat,h,⟨hp.1,hp.2,rfl⟩,by simp,?_⟩
 rintro x ⟨h1,h2,h3⟩
 have step:laneHas (laneH x) x.next=false→0≤x.next→ ∀n,n=IntKind.i64.wrap (x.next-1)→ ∃y:Hand,(-2≤y.next∧y.next≤2∧skipH y=skipH h)∧((0=0∧True)∧Hand.mk x.W x.who x.l0 x.l1 x.l2 n x.stage=y∧True)∧(y.next+2).toNat<(x.next+2).toNat:=by
  intro hl h0 n hn
  rw [w64 (by omega)] at hn
  subst hn
  refine ⟨_,⟨by simp only [];omega,by simp only [];omega,?_⟩,⟨by simp,rfl,trivial⟩,by simp only [];omega⟩
  rw [←h3]
  obtain ⟨W,who,l0,l1,l2,nx,st⟩:=x
  simp only [laneHas,laneH] at hl h1 h2 h0
  unfold skipH skipN laneH
  have:nx=0∨nx=1∨nx=2:=by omega
  rcases this with rfl |rfl |rfl<;>simp at hl<;>simp [hl]
 have stop:(x.next<0∨laneHas (laneH x) x.next=true)→br (decide (x.next<0)) (k (Hand.mk x.W x.who x.l0 x.l1 x.l2 x.next 4,()) ()) (k (x,()) ()):=by
  intro hl
  rw [←h3] at g
  obtain ⟨W,who,l0,l1,l2,nx,st⟩:=x
  simp only [laneHas,laneH] at hl h1 h2
  unfold skipH skipN laneH at g
  refine br_dec (fun hn=>?_) (fun hn=>?_)
  ·have hn:nx<0:=hn
   simpa [show ¬ 2≤nx by omega,show ¬ 1≤nx by omega,show ¬ 0≤nx by omega,hn] using g
  ·have hn: ¬ nx<0:=hn
   have:nx=0∨nx=1∨nx=2:=by omega
   rcases this with rfl |rfl |rfl<;>simp at hl<;>simpa [hl] using g
 refine br_dec (fun h0=>⟨⟨h0,by omega⟩,fun hj=>?_,fun hj=>?_,fun hj=>?_,trivial⟩) (fun h0=>stop (.inl (by omega)))
 ·exact br_not (fun hb=>step (by rw [hj];simpa [laneHas,laneH] using hb) h0) (fun hb=>stop (.inr (by rw [hj];simpa [laneHas,laneH] using hb)))
 ·exact br_not (fun hb=>step (by rw [hj];simpa [laneHas,laneH] using hb) h0) (fun hb=>stop (.inr (by rw [hj];simpa [laneHas,laneH] using hb)))
 ·exact br_not (fun hb=>step (by rw [hj];simpa [laneHas,laneH] using hb) h0) (fun hb=>stop (.inr (by rw [hj];simpa [laneHas,laneH] using hb)))
end Go.Ax.O
namespace Go.Ax
variable [Surr]
def pkA (m:Nat) (as:List AV):List AV:=match m with
 |0=>as
 |m+1=> .agg (as.take (m+1))::as.drop (m+1)
def upA (m:Nat) (as:List AV):Option (List AV):=match m with
 |0=>some as
 |m+1=>match as with
  | .agg xs::r=>match Nat.beq xs.length (m+1) with
   |true=>some (xs++r)
   |false=>none
  |_=>none
def pkV (m:Nat) (vs:List Value):List Value:=match m with
 |0=>vs
 |m+1=> .agg (vs.take (m+1)).toArray::vs.drop (m+1)
def pkR (m:Nat) (a:AV):Option AV:=match m with
 |0=>some a
 |m+1=>match a with
  | .tup as=>some (.tup (pkA (m+1) as))
  |_=>none
def upR (m:Nat) (a:AV):Option AV:=match m with
 |0=>some a
 |m+1=>match a with
  | .tup as=>match upA (m+1) as with
   |some bs=>some (.tup bs)
   |none=>none
  |_=>none
def pkW (m:Nat) (v:Value):Value:=match m with
 |0=>v
 |m+1=>match v with
  | .tuple vs=> .tuple (pkV (m+1) vs.toList).toArray
  |v=>v
def packSpec (a r:Nat) (S:SpecT):SpecT:=fun args H K=>match upA a args with
 |some as=>S as H fun v H T=>match pkR r v with
  |some v=>K v H T
  |none=>False
 |none=>False
variable {G G':Gam} {ρ ρ':List Root} {w w':World}
theorem RVs.split {m:Nat}: ∀{as:List AV} {vs:List Value},RVs G ρ as vs→RVs G ρ (as.take m) (vs.take m)∧RVs G ρ (as.drop m) (vs.drop m):=by
 intro as vs h
 have hl:=h.len
 constructor
 ·refine RVs.of_get (by simp [hl]) fun j x hj=>?_
  rw [List.getElem?_take] at hj
  split at hj
  ·rename_i hlt
   obtain ⟨v,h1,h2⟩:=h.get hj
   exact ⟨v,by rw [List.getElem?_take,if_pos hlt];exact h1,h2⟩
  ·cases hj
 ·refine RVs.of_get (by simp [hl]) fun j x hj=>?_
  rw [List.getElem?_drop] at hj
  obtain ⟨v,h1,h2⟩:=h.get hj
  exact ⟨v,by rw [List.getElem?_drop];exact h1,h2⟩
theorem RVs.app: ∀{as bs:List AV} {vs ws:List Value},RVs G ρ as vs→RVs G ρ bs ws→RVs G ρ (as++bs) (vs++ws)
 | [],_,_,_,h,g=>by simp only [RVs] at h;subst h;simpa using g
 |_::as,_,_,_,h,g=>by
  simp only [RVs] at h
  obtain ⟨v,vs,rfl,h1,h2⟩:=h
  simp only [List.cons_append,RVs]
  exact ⟨v,_,rfl,h1,RVs.app h2 g⟩
theorem pkA_RVs {m:Nat} {as:List AV} {vs:List Value} (h:RVs G ρ as vs):RVs G ρ (pkA m as) (pkV m vs):=by
 cases m with
 |zero=>exact h
 |succ m=>
  obtain ⟨h1,h2⟩:=h.split (m:=m+1)
  simp only [pkA,pkV,RVs,RV]
  exact ⟨_,_,rfl,⟨_,rfl,by simpa using h1⟩,h2⟩
theorem upA_RVs {m:Nat} {as bs:List AV} {vs:List Value} (hu:upA m as=some bs) (h:RVs G ρ as vs): ∃ws,RVs G ρ bs ws∧vs=pkV m ws:=by
 cases m with
 |zero=>simp only [upA,Option.some.injEq] at hu;subst hu;exact ⟨vs,h,rfl⟩
 |succ m=>
  simp only [upA] at hu
  split at hu
  ·rename_i xs r
   split at hu
   ·rename_i hl
    cases hu
    have hl:=Nat.eq_of_beq_eq_true hl
    simp only [RVs,RV] at h
    obtain ⟨v,ws,rfl,⟨us,rfl,h1⟩,h2⟩:=h
    have hu:=h1.len
    refine ⟨us.toList++ws,h1.app h2,?_⟩
    simp only [pkV]
    rw [List.take_append_of_le_length (by omega),List.drop_append_of_le_length (by omega),List.take_of_length_le (by omega),List.drop_of_length_le (by omega)]
    simp
   ·cases hu
  ·cases hu
theorem pkR_RV {m:Nat} {a b:AV} {v:Value} (hp:pkR m a=some b) (h:RV G ρ a v):RV G ρ b (pkW m v):=by
 cases m with
 |zero=>simp only [pkR,Option.some.injEq] at hp;subst hp;exact h
 |succ m=>
  simp only [pkR] at hp
  split at hp
  ·cases hp
   simp only [RV] at h
   obtain ⟨vs,rfl,h1⟩:=h
   simp only [RV,pkW]
   exact ⟨_,rfl,by simpa using pkA_RVs (m:=m+1) h1⟩
  ·cases hp
theorem upR_RV {m:Nat} {a b:AV} {v:Value} (hp:upR m a=some b) (h:RV G ρ a v): ∃u,RV G ρ b u∧v=pkW m u:=by
 cases m with
 |zero=>simp only [upR,Option.some.injEq] at hp;subst hp;exact ⟨v,h,rfl⟩
 |succ m=>
  simp only [upR] at hp
  split at hp
  ·split at hp
   ·rename_i hu
    cases hp
    simp only [RV] at h
    obtain ⟨vs,rfl,h1⟩:=h
    obtain ⟨ws,h2,h3⟩:=upA_RVs hu h1
    refine ⟨.tuple ws.toArray,by simp only [RV];exact ⟨_,rfl,by simpa using h2⟩,?_⟩
    simp only [pkW]
    rw [←h3]
   ·cases hp
  ·cases hp
theorem Sig.soundG {S:Sig} {out:S.Out} (C:List Value→World→(Ending→World→Prop)→Prop)
  (hmono: ∀{vs w Q Q'},C vs w Q→(∀e w',Q e w'→Q' e w')→C vs w Q')
  (B:S.X→(AV→AHeap→Prop)→Prop)
  (hB: ∀(x:S.X) (K:AV→AHeap→Prop) (G:Gam) (ρ:List Root) (w:World) (Fs:Nat→List Nat) (vs:List Value),B x K→SatHF G ρ w ((objsAll (S.args.map (·.1)) x).map some) Fs→RVs G ρ (avs (S.args.map (·.1)) x 0) vs→
   C vs w fun e w'=> ∃v av H' e' Fs',e= .returned v∧K av H'∧RV G (ρ++e') av v∧SatHF G (ρ++e') w' H' Fs')
  (hS:S.ok=true) (h: ∀x k,out x k→B x fun v H=>keepTake S.args x 0 H fun y H=>takeRet S.ret v H fun r _=>k y r)
  {args:List AV} {H:AHeap} {K:AV→AHeap→List Nat→Prop} (hk:S.spec out args H K) {G:Gam} {w:World} {ρ:List Root} {Fs:Nat→List Nat} {vs:List Value} (hH:SatHF G ρ w H Fs) (hr:RVs G ρ args vs):
  C vs w fun e w'=> ∃v av H' T e' Fs',e= .returned v∧K av H' T∧RV G (ρ++e') av v∧SatHF G (ρ++e') w' H' Fs'∧Unt w w' H H' Fs Fs' T:=by
 simp only [Sig.spec,forceL_eq] at hk
 obtain ⟨x,H1,ls,ss,Rb,hout,hT,hS1,hL,hRi,hRb,hcan⟩:=takeVs_sound _ hH hr hk
 have hdead: ∀b,b∈blk ss→ ¬ G.prot b∧b<w.heap.size∧ ∀(l:Nat) (o:AObj),H1[l]? =some (some o)→b∉Fs l:=by
  intro b hb
  obtain ⟨l,o,g1,g2,g3⟩:=hT.out b hb
  obtain ⟨q1,q2⟩:=hH.free l o b g1 g2
  refine ⟨q1,q2,fun l' o' hl' hb'=>?_⟩
  have:=hH.apart l o l' o' b g1 (hT.sub _ _ hl') g2 hb'
  subst this
  rw [g3] at hl';cases hl'
 have hwsz:=hH.wok.size
 have hsub: ∀b,(G.imm b∨b∈Rb)→b<w.heap.size∧b∉blk ss:=by
  intro b hb
  rcases hb with hb |hb
  ·have hp:=G.sub b hb
   have:=(hH.wok.prot b hp).1
   exact ⟨by omega,fun hm=>(hdead b hm).1 hp⟩
  ·obtain ⟨l,o,hl,hbl⟩:=hRb b hb
   exact ⟨(hH.free l o b (hT.sub _ _ hl) hbl).2,fun hm=>(hdead b hm).2.2 l o hl hbl⟩
 have hcell: ∀b o,G.imm b→w.cell? ⟨b,o,none⟩=G.w0.cell? ⟨b,o,none⟩:=fun b o hb=>by
  simp only [World.cell?]
  rw [(hH.wok.prot b (G.sub b hb)).2]
 let G':Gam:=⟨w,fun b=>b<w.heap.size∧b∉blk ss,fun b=>G.imm b∨b∈Rb,hsub,fun b cs hb=>⟨.inl (G.tab b cs hb).1,fun j v hj=>by rw [hcell b j (G.tab b cs hb).1];exact (G.tab b cs hb).2 j v hj⟩⟩
 have hwk:WOK G' w:=⟨fun b hb=>⟨hb.1,rfl⟩,Nat.le_refl _,.rfl,rfl,rfl⟩
 have hCM:CellMap G G':=fun b o v hc=>⟨.inl hc.1,by rw [show G'.w0=w from rfl,hcell b o hc.1];exact hc.2⟩
 have hCR: ∀b∈Rb,∀o v,w.cell? ⟨b,o,none⟩=some v→G'.cell b o v:=fun b hb o v hv=>⟨.inr hb,hv⟩
 have hCB:(S.args.all fun p=>!p.1.isImm)=true→CellMap G' G:=by
  intro hall
  have hRe:Rb=[]:=hRi (by simpa [List.all_map] using hall)
  intro b o v hc
  have hb:G.imm b:=by
   rcases hc.1 with hb |hb
   ·exact hb
   ·rw [hRe] at hb;cases hb
  exact ⟨hb,by rw [←hcell b o hb];exact hc.2⟩
 let ρc:List Root:=ss.map (·.1)
 let Fc:Nat→List Nat:=fun i=>((ss[i]?).map (·.2)).getD []
 have hcs:SatHF G' ρc w ((objsAll _ x).map some) Fc:=by
  refine ⟨by simp [ρc,hS1.len],fun l o hl=>?_,fun l o l' o' b hl hl' hb hb'=>?_,fun l o b hl hb=>?_,hwk⟩
  ·have ho:(objsAll _ x)[l]? =some o:=by
    rw [List.getElem?_map] at hl
    cases hx:(objsAll (S.args.map (·.1)) x)[l]? with
    |none=>simp [hx] at hl
    |some q=>simp [hx] at hl;rw [hl]
   have hlt:l<ss.length:=by rw [hS1.len];exact (List.getElem?_eq_some_iff.1 ho).1
   have hs:ss[l]? =some ss[l]:=List.getElem?_eq_getElem hlt
   obtain ⟨q1,q2⟩:=hS1.sat l o _ ho hs
   refine ⟨ss[l].1,by simp [ρc,hs],?_⟩
   simp only [Fc,hs]
   exact q1.change (fun _=>hCM) q2 fun _ _=>rfl
  ·simp only [Fc] at hb hb'
   cases h1:ss[l]? with
   |none=>simp [h1] at hb
   |some s=>
    cases h2:ss[l']? with
    |none=>simp [h2] at hb'
    |some t=>
     simp [h1] at hb
     simp [h2] at hb'
     exact hS1.apart l l' s t b h1 h2 hb hb'
  ·simp only [Fc] at hb
   cases h1:ss[l]? with
   |none=>simp [h1] at hb
   |some s=>
    simp [h1] at hb
    have hm:b∈blk ss:=mem_blk.2 ⟨s,List.mem_of_getElem? h1,hb⟩
    exact ⟨fun hp=>hp.2 hm,(hdead b hm).2.1⟩
 have hroots: ∀(i:Nat) (s:Slot),ss[i]? =some s→ρc[0+i]? =some s.1:=fun i s hs=>by simp [ρc,hs]
 have hargs:RVs G' ρc (avs _ x 0) vs:=hcan G' ρc 0 (fun _=>hCM) hCR hroots
 have hbody:=hB x _ G' ρc w Fc vs (h x _ hout) hcs hargs
 refine hmono hbody fun e w' he=>?_
 obtain ⟨v,av,H2,e',Fs2,rfl,hK,hrv,hs2⟩:=he
 obtain ⟨y,H3,kss,hK3,hT3,hS3,hkept⟩:=keepTake_sound S.args hs2 hargs.ext hK
 have hok:=hS
 simp only [Sig.ok,Bool.and_eq_true,Bool.or_eq_true] at hok
 obtain ⟨r,H4,rss,hK4,hT4,hS4,hret⟩:=takeRet_sound hok.1 (hs2.fewer hT3) hrv hK3
 have hpoolc: ∀b,b∈blk kss∨b∈blk rss→(w.heap.size≤b∨b∈blk ss)∧b<w'.heap.size:=by
  intro b hb
  have: ∃l o,H2[l]? =some (some o)∧b∈Fs2 l:=by
   rcases hb with hb |hb
   ·obtain ⟨l,o,g1,g2,_⟩:=hT3.out b hb
    exact ⟨l,o,g1,g2⟩
   ·obtain ⟨l,o,g1,g2,_⟩:=hT4.out b hb
    exact ⟨l,o,hT3.sub _ _ g1,g2⟩
  obtain ⟨l,o,g1,g2⟩:=this
  obtain ⟨q1,q2⟩:=hs2.free l o b g1 g2
  refine ⟨?_,q2⟩
  by_cases hlt:b<w.heap.size
  ·right
   apply Classical.byContradiction
   intro hn
   exact q1 ⟨hlt,hn⟩
  ·left;omega
 have hkeep: ∀b,b<w.heap.size→b∉blk ss→w'.heap[b]? =w.heap[b]? :=fun b h1 h2=>(hs2.wok.prot b ⟨h1,h2⟩).2
 have hlive: ∀(l:Nat) (o:AObj) (b:Nat),H1[l]? =some (some o)→b∈Fs l→b<w.heap.size∧b∉blk ss:=fun l o b hl hb=>
  ⟨(hH.free l o b (hT.sub _ _ hl) hb).2,fun hm=>(hdead b hm).2.2 l o hl hb⟩
 have hsz:w.heap.size≤w'.heap.size:=hs2.wok.size
 have hbase:SatHF G ρ w' H1 Fs:=by
  refine ⟨hT.len.trans hH.len,fun l o hl=>?_,fun l o l' o' b h1 h2=>hH.apart l o l' o' b (hT.sub _ _ h1) (hT.sub _ _ h2),fun l o b hl hb=>?_,?_⟩
  ·obtain ⟨t,ht,hsat⟩:=hH.sat l o (hT.sub _ _ hl)
   have:=hsat.mono (e:=[]) (w':=w') fun b hb=>by
    obtain ⟨q1,q2⟩:=hlive l o b hl hb
    exact hkeep b q1 q2
   exact ⟨t,ht,by simpa using this⟩
  ·obtain ⟨q1,q2⟩:=hH.free l o b (hT.sub _ _ hl) hb
   exact ⟨q1,by omega⟩
  ·refine ⟨fun b hb=>?_,by omega,?_,?_,?_⟩
   ·obtain ⟨q1,q2⟩:=hH.wok.prot b hb
    exact ⟨q1,(hkeep b (by omega) (fun hm=>(hdead b hm).1 hb)).trans q2⟩
   ·exact hH.wok.os.trans hs2.wok.os
   ·exact hs2.wok.tape.trans hH.wok.tape
   ·exact hs2.wok.output.trans hH.wok.output
 have hpool: ∀P,(∀b,b∈P→b∈blk kss∨b∈blk rss)→Pool G w' H1 Fs P:=by
  intro P hP b hb
  obtain ⟨q1,q2⟩:=hpoolc b (hP b hb)
  refine ⟨⟨fun hp=>?_,q2⟩,fun l o hl hbl=>?_⟩
  ·rcases q1 with q1 |q1
   ·have:=(hH.wok.prot b hp).1
    omega
   ·exact (hdead b q1).1 hp
  ·obtain ⟨a1,a2⟩:=hlive l o b hl hbl
   rcases q1 with q1 |q1
   ·omega
   ·exact a2 q1
 have hcl: ∀o:AObj,(o∈keptObjs S.args y∨o∈objsAll S.ret r)→o.clean=false→CellMap G' G:=by
  intro o ho hc
  rcases hok.2 with h1 |⟨h1,h2⟩
  ·exact hCB h1
  ·rcases ho with ho |ho
   ·rw [keptObjs_clean h2 y o ho] at hc;cases hc
   ·rw [objsAll_clean h1 r o ho] at hc;cases hc
 have hdisj: ∀b,b∈blk kss→b∉blk rss:=Took.apart hs2 hT3 hT4
 obtain ⟨Fs5,p1,p2,p3⟩:=put_all (ρ:=ρ) (ρc:=ρc++e') (H0:=H) S.args hbase hL (fun i s hs=>getElem?_ext (hroots i s hs)) hkept
  (fun i o s ho hs=>(hS3.sat i o s ho hs).1.change (hcl o (.inl (List.mem_of_getElem? ho))) (hS3.sat i o s ho hs).2 fun _ _=>rfl)
  (hpool _ fun b hb=> .inl hb) hS3.apart
 have hp5:=p3 (blk rss) (hpool _ fun b hb=> .inr hb) fun b hb hb2=>hdisj b hb2 hb
 obtain ⟨Fs6,r1,r2⟩:=push_all (objsAll S.ret r) (ss:=rss) p1 hS4.len
  (fun i o s ho hs ρ=>(hS4.sat i o s ho hs).1.change (hcl o (.inr (List.mem_of_getElem? ho))) (hS4.sat i o s ho hs).2 fun _ _=>rfl) hp5 hS4.apart
 have hlen5:(putKept S.args y ls H1).length=H.length:=by
  have:=p1.len
  have:=hH.len
  omega
 refine ⟨v,_,_,_,rss.map (·.1),Fs6,rfl,hK4,?_,r1,fun l o hl hn=>?_⟩
 ·refine hret G _ H.length (fun hc=>?_) (fun i s hs=>?_)
  ·rcases hok.2 with h1 |⟨h1,h2⟩
   ·exact hCB h1
   ·rw [h1] at hc;cases hc
  ·rw [List.getElem?_append_right (by rw [hH.len];omega),hH.len]
   simp [hs]
 ·obtain ⟨q,hq⟩:=gone_spec (n:=0) hl hT.len (by simpa using hn)
  have hq':=hT.sub l q hq
  rw [hl] at hq';cases hq'
  obtain ⟨a1,a2⟩:=p2 l o hq
  refine ⟨getElem?_ext a1,(r2 l o a1).trans a2,fun b hb=>?_⟩
  obtain ⟨q1,q2⟩:=hlive l o b hq hb
  exact hkeep b q1 q2
def Sig.caseP (S:Sig) (a r:Nat) (E:LEnv) (fn:Func) (x:S.X) (k:keepT S.args→prodT S.ret→Prop):Prop:=
 abody {E with n0:=(objsAll (S.args.map (·.1)) x).length} fn (pkA a (avs (S.args.map (·.1)) x 0)) ((objsAll (S.args.map (·.1)) x).map some) fun v H=>match upR r v with
  |some v=>keepTake S.args x 0 H fun y H=>takeRet S.ret v H fun r _=>k y r
  |none=>False
theorem Sig.soundP {S:Sig} {out:S.Out} (a r:Nat) {E:LEnv} (hE:E.toEnv.OK) {f:FuncId} {fn:Func} (hf:E.P.funcs[f]? =some fn) (hS:S.ok=true) (h: ∀x k,out x k→S.caseP a r E fn x k):SpecOK E.P f (packSpec a r (S.spec out)):=by
 intro args H K hk G w ρ Fs vs hH hr
 unfold packSpec at hk
 split at hk
 ·rename_i as hu
  obtain ⟨ws,hw,rfl⟩:=upA_RVs hu hr
  have:=Sig.soundG (S:=S) (out:=out) (fun vs w Q=>Calls E.P f (pkV a vs).toArray w fun e w'=> ∃u,e= .returned (pkW r u)∧Q (.returned u) w')
   (fun hc hq=>hc.mono fun e w' ⟨u,h1,h2⟩=>⟨u,h1,hq _ _ h2⟩)
   (fun x K=>abody {E with n0:=(objsAll (S.args.map (·.1)) x).length} fn (pkA a (avs (S.args.map (·.1)) x 0)) ((objsAll (S.args.map (·.1)) x).map some) fun v H=>match upR r v with
    |some v=>K v H
    |none=>False)
   (fun x K G ρ w Fs vs hb hH hr=>(abody_sound (E:={E with n0:=(objsAll (S.args.map (·.1)) x).length}) hE hf (by simp) hb hH (pkA_RVs (m:=a) hr)).mono fun e w' ⟨v,av,H',e',Fs',h1,h2,h3,h4⟩=>by
    split at h2
    ·rename_i bv hbv
     obtain ⟨u,g1,rfl⟩:=upR_RV hbv h3
     exact ⟨u,h1,u,bv,H',e',Fs',rfl,h2,g1,h4⟩
    ·exact h2.elim)
   hS h hk hH hw
  refine this.mono fun e w' ⟨u,h1,v,av,H',T,e',Fs',h2,h3,h4,h5,h6⟩=>?_
  cases h2
  split at h3
  ·rename_i bv hbv
   exact ⟨_,bv,H',T,e',Fs',h1,h3,pkR_RV hbv h4,h5,h6⟩
  ·exact h3.elim
 ·exact hk.elim
end Go.Ax
namespace Go.Ax.Law
end Go.Ax.Law
namespace Go.Ax.Sp
end Go.Ax.Sp
namespace Go.Ax.V
open Go.Ax.Sp Go.Ax.Law List Int IntKind
set_option maxRecDepth 100000
end Go.Ax.V
namespace Go.Ax.Law
theorem OkS.com {c:Core} (h:OkS c) (x:Choice):OkS (comS c x).2:=by
  obtain ⟨n,m,h⟩:=h
  exact ⟨_,_,(comS_stb h x).2⟩
end Go.Ax.Law
namespace Go.Ax.O
open Go.Ax.Sp Go.Ax.Law
end Go.Ax.O
namespace Go.Ax.Law
def rightI (x:Item):Bool:=decide (1≤x.Width)&&(decide (x.Width≤64)&&(decide (1≤x.Limit)&&(decide (x.Limit≤1048576)&&(decide (-1≤x.Plan)&&decide (x.Plan≤1099511627776)))))
def spanI (x:Item):Span:=⟨x.Plan,wr (x.Plan+x.Limit),x.Width⟩
def resP (p:Prof) (s:Span):Int × Prof:=addP p s.From s.To (wr (0-s.Width))
def earlG (lg w:Int):List Step→Int→Int × Int
 | [],t=>if 1099511627776<t then (0,16) else (t,0)
 |s::r,t=>if 1099511627776<t then (0,16) else if t+lg≤s.At then (t,0) else if s.Free<w then (match r with
  | []=>(0,16)
  |q::_=>earlG lg w r q.At) else earlG lg w r t
def earlP (l:List Step) (from_ lg w:Int):Int × Int:=
 if lg<1∨1048576<lg∨w<1∨64<w then (0,1) else earlG lg w (l.drop (idxL l (max from_ (nowL l)))) (max from_ (nowL l))
def relI (p:Prof) (x:Item):Int × Prof:=if 0≤x.Plan then addP p x.Plan (wr (x.Plan+x.Limit)) x.Width else (0,p)
def pickI (p:Prof) (x:Item):Int × Int:=earlP p.steps (nowL p.steps) x.Limit x.Width
def oneI (p:Prof) (x:Item):Prof × List Choice:=
 if (relI p x).1≠0 then ((relI p x).2,[])
 else if (pickI (relI p x).2 x).2≠0∨(0≤x.Plan∧x.Plan≤(pickI (relI p x).2 x).1) then (if 0≤x.Plan then (resP (relI p x).2 (spanI x)).2 else (relI p x).2,[])
 else ((resP (relI p x).2 ⟨(pickI (relI p x).2 x).1,wr ((pickI (relI p x).2 x).1+x.Limit),x.Width⟩).2,[⟨x.Id,(pickI (relI p x).2 x).1⟩])
def onePl (p:Planner) (x:Item):Planner:={p with P:=(oneI p.P x).1,out:=p.out++(oneI p.P x).2}
def planF:Prof→List Item→Prof × List Choice
 |p,[]=>(p,[])
 |p,x::l=>((planF (oneI p x).1 l).1,(oneI p x).2++(planF (oneI p x).1 l).2)
def nextPl (p:Planner) (n:Int):Int × Planner:=
 let k:=min n.toNat (p.items.length-p.pos.toNat)
 ((k:Int),⟨(planF p.P ((p.items.drop p.pos.toNat).take k)).1,p.items,p.pos+k,p.out++(planF p.P ((p.items.drop p.pos.toNat).take k)).2⟩)
def planA (P:Prof) (depth:Int) (l:List Item):List Choice × Int:=
 if depth<1∨64<depth then ([],1) else if (l.take depth.toNat).any (fun x=>!rightI x) then ([],5) else ((planF P (l.take depth.toNat)).2,0)
def PreI (p:Prof) (n:Nat):Prop:=PW p∧p.steps.length+16*n≤4294960000∧0≤nowL p.steps
def itemsC (c:Core):List Item:=(waitC c).map itemJ
def passF:Core→Int→List Int→List Choice→Core × Int × List Int
 |c,t,s,[]=>(c,t,s)
 |c,t,s,x::l=>if (comS c x).1=false then passF (comS c x).2 t s l
  else passF (comS c x).2 (t+1) (if (getJ (comS c x).2.J.jobs x.Id).1.State=3 then s++[x.Id] else s) l
def passS (c:Core) (depth:Int):(List Choice × Int × List Int × Int) × Core:=
 if (planA c.P depth (itemsC c)).2≠0 then (([],0,[],(planA c.P depth (itemsC c)).2),c)
 else (((planA c.P depth (itemsC c)).1,(passF c 0 [] (planA c.P depth (itemsC c)).1).2.1,(passF c 0 [] (planA c.P depth (itemsC c)).1).2.2,0),(passF c 0 [] (planA c.P depth (itemsC c)).1).1)
end Go.Ax.Law
namespace Go.Ax.Sp
def sRightI:Sig:=⟨[(.elem .item,false)],[.bool]⟩
def oRightI:sRightI.Out:=fun x k=>k () (Law.rightI x.1,())
def oWrongI:sRightI.Out:=fun x k=>k () (!Law.rightI x.1,())
def sIdxF (f:FuncId):Sig:=⟨[(.imm .item,false),(.fn f,false)],[.int .i64]⟩
def oIdxF (f:FuncId):(sIdxF f).Out:=fun x k=>x.1.length≤1099511627776∧ ∀n:Int,(0≤n)=(x.1.any (fun i=>!Law.rightI i)=true)→k () (n,())
def lIdxF (f:FuncId):LoopAnn:={X:=List Item × Int × Unit,live:=fun x=>[(0,.imm .item x.1),(1,.fn f []),(7,.int .i64 x.1.length),(8,.int .i64 x.2.1)],heap:=fun _=>[]}
def sConF (f:FuncId):Sig:=⟨[(.imm .item,false),(.fn f,false)],[.bool]⟩
def oConF (f:FuncId):(sConF f).Out:=fun x k=>x.1.length≤1099511627776∧k () (x.1.any (fun i=>!Law.rightI i),())
def sCloneI:Sig:=⟨[(.imm .item,false)],[.row .item]⟩
def oCloneI:sCloneI.Out:=fun x k=>x.1.length≤68719476736∧k () (x.1,())
def sCloneX:Sig:=⟨[(.imm .choice,false)],[.row .choice]⟩
def oCloneX:sCloneX.Out:=fun x k=>x.1.length≤68719476736∧k () (x.1,())
def sSpanI:Sig:=⟨[(.elem .item,false)],[.elem .span,.bool]⟩
def oSpanI:sSpanI.Out:=fun x k=>k () (Law.spanI x.1,decide (0≤x.1.Plan),())
def sEarl:Sig:=⟨[(.view .prof,false),(.int .i64,false),(.int .i64,false),(.int .i64,false)],[.int .i64,.int .i64]⟩
def oEarl:sEarl.Out:=fun x k=>(Law.PW x.1∧0≤Law.nowL x.1.steps)∧k () ((Law.earlP x.1.steps x.2.1 x.2.2.1 x.2.2.2.1).1,(Law.earlP x.1.steps x.2.1 x.2.2.1 x.2.2.2.1).2,())
def lEarl:LoopAnn:={X:=Prof × Int × Int × Int × Int,live:=fun x=>[(0,.cptr ((OK.unf .prof x.1).map (viewFld 8)) 0),(2,.int .i64 x.2.1),(3,.int .i64 x.2.2.1),(10,.int .i64 x.2.2.2.1),(11,.int .i64 x.2.2.2.2)],heap:=fun _=>[]}
def sNewPl:Sig:=⟨[(.view .prof,false),(.int .i64,false),(.imm .item,false)],[.opt .planner,.int .i64]⟩
def oNewPl:sNewPl.Out:=fun x k=>(Law.PW x.1∧x.2.2.1.length≤68719476736)∧
 ((x.2.1<1∨64<x.2.1)→k () (none,1,()))∧(1≤x.2.1∧x.2.1≤64→(((x.2.2.1.take x.2.1.toNat).any (fun i=>!Law.rightI i)=true→k () (none,5,()))∧((x.2.2.1.take x.2.1.toNat).any (fun i=>!Law.rightI i)=false→k () (some ⟨x.1,x.2.2.1.take x.2.1.toNat,0,[]⟩,0,()))))
def sNonePl:Sig:=⟨[(.view .planner,false)],[.bool]⟩
def oNonePl:sNonePl.Out:=fun _ k=>k () (false,())
def sLeftPl:Sig:=⟨[(.view .planner,false)],[.int .i64]⟩
def oLeftPl:sLeftPl.Out:=fun x k=>(x.1.items.length≤1000000∧0≤x.1.pos∧x.1.pos≤1000000)∧k () ((x.1.items.length:Int)-x.1.pos,())
def sOnePl:Sig:=⟨[(.obj .planner,true),(.elem .item,false)],[]⟩
def oOnePl:sOnePl.Out:=fun x k=>(Law.PreI x.1.P 1∧x.1.out.length≤1000000∧0≤x.2.1.Limit∧x.2.1.Limit≤1048576∧x.2.1.Plan≤1099511627776∧1≤x.2.1.Width∧x.2.1.Width≤64)∧k (Law.onePl x.1 x.2.1,()) ()
def sNextPl:Sig:=⟨[(.obj .planner,true),(.int .i64,false)],[.int .i64]⟩
def oNextPl:sNextPl.Out:=fun x k=>(Law.PreI x.1.P x.1.items.length∧x.1.out.length≤x.1.pos∧x.1.items.length≤64∧0≤x.1.pos∧x.1.pos≤x.1.items.length∧x.1.items.all Law.rightI=true)∧k ((Law.nextPl x.1 x.2.1).2,()) ((Law.nextPl x.1 x.2.1).1,())
def lNextPl:LoopAnn:={X:=Planner × Int × Int,live:=fun x=>[(0,.ptr ⟨0,0,0,0⟩),(1,.int .i64 x.2.1),(5,.int .i64 x.2.2)],heap:=fun x=>[some (.obj .planner x.1)],norm:=[.fold 0 .planner]}
def sChoPl:Sig:=⟨[(.view .planner,false)],[.row .choice]⟩
def oChoPl:sChoPl.Out:=fun x k=>(x.1.out.length≤1000000)∧k () (x.1.out,())
def sPlanA:Sig:=⟨[(.view .prof,false),(.int .i64,false),(.imm .item,false)],[.row .choice,.int .i64]⟩
def oPlanA:sPlanA.Out:=fun x k=>(Law.PW x.1∧x.1.steps.length≤4294950000∧0≤Law.nowL x.1.steps∧x.2.2.1.length≤68719476736)∧k () ((Law.planA x.1 x.2.1 x.2.2.1).1,(Law.planA x.1 x.2.1 x.2.2.1).2,())
def sPass:Sig:=⟨[(.obj .sched,true),(.int .i64,false)],[.row .choice,.int .i64,.row .i64,.int .i64]⟩
def oPass:sPass.Out:=fun x k=>Law.OkS x.1.C∧k (⟨(Law.passS x.1.C x.2.1).2⟩,()) ((Law.passS x.1.C x.2.1).1.1,(Law.passS x.1.C x.2.1).1.2.1,(Law.passS x.1.C x.2.1).1.2.2.1,(Law.passS x.1.C x.2.1).1.2.2.2,())
def lPass:LoopAnn:={X:=Core × List Choice × Int × List Int × Int,live:=fun x=>[(0,.ptr ⟨0,0,0,0⟩),(4,.ptr ⟨1,0,0,0⟩),(8,.ptr ⟨8,0,0,0⟩),(43,.sl 7 2 0 x.2.1.length),(44,.int .i64 x.2.1.length),(45,.int .i64 x.2.2.2.2)],heap:=fun x=>[some (.obj .sched ⟨x.1⟩),some (.raw [.nils,.int .i64 0,.nils]),none,none,none,none,none,some (.row .choice x.2.1),some (.raw [.sl 7 2 0 x.2.1.length,.int .i64 x.2.2.1,.sl 9 1 0 x.2.2.2.1.length]),some (.row .i64 x.2.2.2.1)],norm:=[.fold 0 .sched,.rowC 8 2 .i64,.homeC 8 2 9]}
end Go.Ax.Sp
namespace Go.Ax.V
open Go.Ax.Sp Go.Ax.Law List Int IntKind
set_option maxRecDepth 100000
def vRightI (x:Ax.Item) (k:Unit→Bool × Unit→Prop):Prop:=
SH (k () (false,())) fun s0=>br (decide (x.Width≥1)) (br (decide (x.Width≤64)) (br (decide (x.Limit≥1)) (br (decide (x.Limit≤1048576)) (br (decide (x.Plan≥(-1))) (k () (decide (x.Plan≤1099511627776),())) s0) s0) s0) s0) s0
def vWrongI (x:Ax.Item) (k:Unit→Bool × Unit→Prop):Prop:=
k () (!rightI x,())
def vIdxF (l:List Ax.Item) (k:Unit→Int × Unit→Prop):Prop:=
LP (List Ax.Item × Int × Unit) (fun x=>(l=x.1∧True∧LN l=LN x.1∧0=x.2.1∧True)∧True) fun I m x=>br (decide (x.2.1<LN x.1)) (AI x.1 x.2.1 fun e=>br (!rightI e) (k () (x.2.1,())) (NM (x.2.1+1) fun n=>NX I m x fun y=>(x.1=y.1∧True∧LN x.1=LN y.1∧n=y.2.1∧True)∧True)) (k () ((-1),()))
def vConF (l:List Ax.Item) (k:Unit→Bool × Unit→Prop):Prop:=
length l≤1099511627776∧ ∀(n:Int),(0≤n)=((any l fun i=>!rightI i)=true)→k () (decide (n≥0),())
def vCloneI (l:List Ax.Item) (k:Unit→List Ax.Item × Unit→Prop):Prop:=
∀(b:Bool),(0<length l→b=false)→br b (k () ([],())) (0≤0∧0+length l≤68719476736∧0+length l=length ([]++l)∧k () ([]++l,()))
def vCloneX (l:List Choice) (k:Unit→List Choice × Unit→Prop):Prop:=
∀(b:Bool),(0<length l→b=false)→br b (k () ([],())) (0≤0∧0+length l≤68719476736∧0+length l=length ([]++l)∧k () ([]++l,()))
def vSpanI (x:Ax.Item) (k:Unit→Span × Bool × Unit→Prop):Prop:=
NM (x.Plan+x.Limit) fun n=>k () (Span.mk x.Plan n x.Width,decide (x.Plan≥0),())∧True
def vEarl (p:Prof) (a:Int) (b:Int) (c:Int) (k:Unit→Int × Int × Unit→Prop):Prop:=
SH (nowL p.steps) fun s0=>SH (0,1,()) fun s1=>SH (0,16,()) fun s2=>br (noneP (some p)) (k () (0,8,())) (br (decide (b<1)) (k () s1) (br (decide (b>1048576)) (k () s1) (br (decide (c<1)) (k () s1) (br (decide (c>64)) (k () s1) (PW p∧PW p∧LP (Prof × Int × Int × Int × Int) (fun x=>((p.steps=x.1.steps∧p.ver=x.1.ver∧True)∧b=x.2.1∧c=x.2.2.1∧(if s0>a then s0 else a)=x.2.2.2.1∧(↑(idxL p.steps (if s0>a then s0 else a)):Int)=x.2.2.2.2∧True)∧True) fun I m x=>SH x.2.2.2 fun s3=>SH x.1.steps fun s4=>SH (decide (s3.1>1099511627776)) fun s5=>SH (br s5 (k () s2) (k () (s3.1,0,()))) fun s6=>br (decide (s3.2<LN s4)) (br (decide (s3.1≤1099511627776)) (AI s4 s3.2 fun e=>NM (s3.1+x.2.1) fun n=>br (decide (e.At≥n)) s6 (br (decide (e.Free<x.2.2.1)) (NM (s3.2+1) fun n=>br (n==LN s4) (k () s2) (NM (s3.2+1) fun n=>AI s4 n fun e=>NM (s3.2+1) fun n=>NX I m x fun y=>((s4=y.1.steps∧x.1.ver=y.1.ver∧True)∧x.2.1=y.2.1∧x.2.2.1=y.2.2.1∧e.At=y.2.2.2.1∧n=y.2.2.2.2∧True)∧True)) (NM (s3.2+1) fun n=>NX I m x fun y=>((s4=y.1.steps∧x.1.ver=y.1.ver∧True)∧x.2.1=y.2.1∧x.2.2.1=y.2.2.1∧s3.1=y.2.2.2.1∧n=y.2.2.2.2∧True)∧True))) s6) s6)))))
def vNewPl (p:Prof) (n:Int) (l:List Ax.Item) (k:Unit→Option Planner × Int × Unit→Prop):Prop:=
SH (drop (toNat (0:Int)) (take (toNat (if n<LN l then n else LN l)) l)) fun s0=>PW p∧br (decide (n<1)) (k () (none,(1:Int),())) (br (decide (n>64)) (k () (none,(1:Int),())) (((0:Int)≤0∧(0≤if n<LN l then n else LN l)∧(if n<LN l then n else LN l)≤LN l)∧length s0≤1099511627776∧br (any s0 fun i=>!rightI i) (k () (none,(5:Int),())) (PW p∧length s0≤68719476736∧0+length s0≤length s0∧k () (some (Planner.mk p (take (length s0) (drop (0:Nat) s0)) (0:Int) []),(0:Int),()))))
def vNonePl (p:Planner) (k:Unit→Bool × Unit→Prop):Prop:=
k () (false,())
def vLeftPl (p:Planner) (k:Unit→Int × Unit→Prop):Prop:=
NM (LN p.items-p.pos) fun n=>k () (n,())
def vOnePl (p:Planner) (x:Ax.Item) (k:Planner × Unit→Unit→Prop):Prop:=
SH (addP p.P x.Plan (wr (x.Plan+x.Limit)) x.Width).2 fun s0=>SH (length p.out) fun s1=>SH (length p.items) fun s2=>SH (earlP p.P.steps (nowL p.P.steps) x.Limit x.Width) fun s3=>SH (earlP s0.steps (nowL s0.steps) x.Limit x.Width) fun s4=>SH (take s1 (drop 0 p.out)) fun s5=>SH (take s2 (drop 0 p.items)) fun s6=>SH (decide (0≤x.Plan)) fun s7=>SH (wr (0-x.Width)) fun s8=>SH (s5++[Choice.mk x.Id s3.1]) fun s9=>SH (s5++[Choice.mk x.Id s4.1]) fun s10=>SH (wr (x.Plan+x.Limit)) fun s11=>SH (length p.P.steps) fun s12=>SH (length s0.steps) fun s13=>SH (Planner.mk s0 s6 p.pos s5,()) fun s14=>SH (Planner.mk (addP p.P x.Plan s11 s8).2 s6 p.pos s5,()) fun s15=>SH (Planner.mk (addP s0 x.Plan s11 s8).2 s6 p.pos s5,()) fun s16=>SH (0+(s1+1)) fun s17=>SH (NM (s3.1+x.Limit) fun n=>((PW p.P∧s12≤4294967290)∧((1≤1∧0+s1≤s1∧s1+1≤68719476736∧(0+s2≤s2∧s17≤length s9∧k (Planner.mk (addP p.P s3.1 n s8).2 s6 p.pos (take (s1+1) (drop 0 s9)),()) ())∧True)∧True)∧True)∧True) fun s18=>SH (NM (s4.1+x.Limit) fun n=>((PW s0∧s13≤4294967290)∧((1≤1∧0+s1≤s1∧s1+1≤68719476736∧(0+s2≤s2∧s17≤length s10∧k (Planner.mk (addP s0 s4.1 n s8).2 s6 p.pos (take (s1+1) (drop 0 s10)),()) ())∧True)∧True)∧True)∧True) fun s19=>SH (br s7 (((PW p.P∧s12≤4294967290)∧0+s2≤s2∧0+s1≤s1∧k s15 ())∧True) (0+s2≤s2∧0+s1≤s1∧k (Planner.mk p.P s6 p.pos s5,()) ())) fun s20=>SH (br s7 (((PW s0∧s13≤4294967290)∧0+s2≤s2∧0+s1≤s1∧k s16 ())∧True) (0+s2≤s2∧0+s1≤s1∧k s14 ())) fun s21=>br s7 (((PW p.P∧s12≤4294967290)∧br (!(addP p.P x.Plan s11 x.Width).1==0) (0+s2≤s2∧0+s1≤s1∧k s14 ()) ((PW s0∧((PW s0∧0≤nowL s0.steps)∧br (!s4.2==0) s21 (br s7 (br (decide (s4.1≥x.Plan)) s21 s19) s19))∧True)∧True))∧True) ((PW p.P∧((PW p.P∧0≤nowL p.P.steps)∧br (!s3.2==0) s20 (br s7 (br (decide (s3.1≥x.Plan)) s20 s18) s18))∧True)∧True)
def vNextPl (p:Planner) (n:Int) (k:Planner × Unit→Int × Unit→Prop):Prop:=
LP (Planner × Int × Int) (fun x=>(0=0∧n=x.2.1∧0=x.2.2∧True)∧p=x.1∧True) fun I m x=>SH (take (length x.1.out) (drop 0 x.1.out)) fun s0=>SH (take (length x.1.items) (drop 0 x.1.items)) fun s1=>SH (length x.1.items) fun s2=>SH (length x.1.out) fun s3=>br (decide (x.2.2<x.2.1)) (br (decide (x.1.pos<LN x.1.items)) (AT x.1.items x.1.pos fun e=>SH (s0++(oneI x.1.P e).2) fun s4=>(0+s2≤s2∧0+s3≤s3∧(PreI x.1.P 1∧length s0≤1000000∧0≤e.Limit∧e.Limit≤1048576∧e.Plan≤1099511627776∧1≤e.Width∧e.Width≤64)∧NM (x.1.pos+1) fun n=>NM (x.2.2+1) fun n_1=>NX I m x fun y=>0+length s1≤length s1∧0+length s4≤length s4∧(0=0∧x.2.1=y.2.1∧n_1=y.2.2∧True)∧Planner.mk (oneI x.1.P e).1 (take (length s1) (drop 0 s1)) n (take (length s4) (drop 0 s4))=y.1∧True)∧True) (0+s2≤s2∧0+s3≤s3∧k (Planner.mk x.1.P s1 x.1.pos s0,()) (x.2.2,()))) (k (x.1,()) (x.2.2,()))
def vChoPl (p:Planner) (k:Unit→List Choice × Unit→Prop):Prop:=
length p.out≤68719476736∧length p.out=length p.out∧k () (p.out,())
def vPlanA (p:Prof) (n:Int) (l:List Ax.Item) (k:Unit→List Choice × Int × Unit→Prop):Prop:=
SH ([]++(planF p (take (min (toNat (LN (take (toNat n) l)-0)) (length (take (toNat n) l)-toNat (0:Int))) (drop (toNat (0:Int)) (take (toNat n) l)))).2) fun s0=>SH (take (toNat n) l) fun s1=>(PW p∧length l≤68719476736)∧(n<1∨64<n→k () ([],(1:Int),()))∧(1≤n∧n≤64→((any s1 fun i=>!rightI i)=true→k () ([],(5:Int),()))∧((any s1 fun i=>!rightI i)=false→(length s1≤1000000∧(0:Int)≤0∧(0:Int)≤1000000)∧(PreI p (length s1)∧(0:Int)≤0∧length s1≤64∧(0:Int)≤0∧0≤LN s1∧all s1 rightI=true)∧length s0≤1000000∧length s0=length s0∧k () (s0,(0:Int),())))
def vPass (s:Sched) (n:Int) (k:Sched × Unit→List Choice × Int × List Int × Int × Unit→Prop):Prop:=
SH (planA s.C.P n (take (length (map itemJ (waitC s.C))) (drop (0:Nat) (map itemJ (waitC s.C))))) fun s0=>SH (map itemJ (waitC s.C)) fun s1=>SH (True∧(0:Int)=0∧True∧True) fun s2=>(CW s.C∧(0+length s1≤length s1∧(PW s.C.P∧length s.C.P.steps≤4294950000∧0≤nowL s.C.P.steps∧length (take (length s1) (drop (0:Nat) s1))≤68719476736)∧br (!s0.2==0) (k (s,()) ([],(0:Int),[],s0.2,())) (LP (Core × List Choice × Int × List Int × Int) (fun x=>SH ((0:Nat)=0∧length s0.1=length x.2.1) fun s3=>((0:Nat)=0∧(0:Nat)=0∧(0:Nat)=0∧s3∧LN s0.1=LN x.2.1∧0=x.2.2.2.2∧True)∧s=Sched.mk x.1∧s2∧s0.1=x.2.1∧(s3∧0=x.2.2.1∧((0:Nat)=0∧0=length x.2.2.2.1)∧True)∧[]=x.2.2.2.1∧True) fun I m x=>SH (length x.2.2.2.1) fun s3=>SH (length x.2.1) fun s4=>SH x.2.2.2 fun s5=>SH (LN x.2.1) fun s6=>br (decide (s5.2<s6)) (AT x.2.1 s5.2 fun e=>SH (wholeW (newX e) x.1).2 fun s7=>SH (take s3 (drop (0:Nat) s5.1)++[e.Id]) fun s8=>SH ((getJ s7.2.J.jobs e.Id).1.State==3) fun s9=>OkS x.1∧br (!s7.1.ok) (NM (s5.2+1) fun n=>NX I m x fun y=>((0:Nat)=0∧(0:Nat)=0∧(0:Nat)=0∧((0:Nat)=0∧s4=length y.2.1)∧s6=LN y.2.1∧n=y.2.2.2.2∧True)∧Sched.mk s7.2=Sched.mk y.1∧s2∧x.2.1=y.2.1∧(((0:Nat)=0∧s4=length y.2.1)∧x.2.2.1=y.2.2.1∧((0:Nat)=0∧s3=length y.2.2.2.1)∧True)∧s5.1=y.2.2.2.1∧True) (NM (x.2.2.1+1) fun n=>SH (br s9 ((1:Nat)≤1∧0+s3≤s3∧s3+1≤68719476736∧NM (s5.2+1) fun n_1=>NX I m x fun y=>((0:Nat)=0∧(0:Nat)=0∧(0:Nat)=0∧((0:Nat)=0∧s4=length y.2.1)∧s6=LN y.2.1∧n_1=y.2.2.2.2∧True)∧Sched.mk s7.2=Sched.mk y.1∧s2∧x.2.1=y.2.1∧(((0:Nat)=0∧s4=length y.2.1)∧n=y.2.2.1∧((0:Nat)=0∧s3+1=length y.2.2.2.1)∧True)∧s8=y.2.2.2.1∧True) (NM (s5.2+1) fun n_1=>NX I m x fun y=>((0:Nat)=0∧(0:Nat)=0∧(0:Nat)=0∧((0:Nat)=0∧s4=length y.2.1)∧s6=LN y.2.1∧n_1=y.2.2.2.2∧True)∧Sched.mk s7.2=Sched.mk y.1∧s2∧x.2.1=y.2.1∧(((0:Nat)=0∧s4=length y.2.1)∧n=y.2.2.1∧((0:Nat)=0∧s3=length y.2.2.2.1)∧True)∧s5.1=y.2.2.2.1∧True)∧True) fun s10=>(JW s7.2.J∧s10∧True)∧((JW s7.2.J∧s10)∧True)∧True)) (s4=s4∧s3=s3∧k (Sched.mk x.1,()) (x.2.1,x.2.2.1,s5.1,(0:Int),()))))∧True)∧True
end Go.Ax.V

