import Derived.Test.YtnoinchifbckcaaGreatDoorAxO28
import Derived.Test.YtnoinchifbckcaaGreatDoorAxP8
set_option linter.all false
namespace Go.Ax.Law
def lane0:Lane:=⟨false,false,false⟩
def laneHas (l:Lane) (k:Int):Bool:=if k=0 then l.a0 else if k=1 then l.a1 else if k=2 then l.a2 else false
def laneSet (l:Lane) (k:Int):Lane:=if k=0 then ⟨true,l.a1,l.a2⟩ else if k=1 then ⟨l.a0,true,l.a2⟩ else if k=2 then ⟨l.a0,l.a1,true⟩ else l
def ofL (l:List Int):Lane:=l.foldl laneSet lane0
def needsR (k:Int):Lane:=
 if k=1∨k=3∨k=4 then ⟨true,false,true⟩ else if k=2∨k=5∨k=7∨k=8∨k=9 then ⟨true,true,true⟩
 else if k=6∨k=11 then ⟨true,false,false⟩ else if k=10 then ⟨false,true,false⟩ else if k=12 then ⟨false,false,true⟩ else lane0
def nextL (l:Lane) (n:Int):Int:=if n≤0∧l.a0=true then 0 else if n≤1∧l.a1=true then 1 else if n≤2∧l.a2=true then 2 else 3
def bI (b:Bool):Int:=if b then 1 else 0
def lenL (l:Lane):Int:=bI l.a0+bI l.a1+bI l.a2
def lock0:LockSet:=⟨0,0,0,0⟩
def ownL (s:LockSet) (k:Int):Int:=if k=0 then s.o0 else if k=1 then s.o1 else if k=2 then s.o2 else 0
def putL (s:LockSet) (k w:Int):LockSet:=if k=0 then {s with o0:=w} else if k=1 then {s with o1:=w} else if k=2 then {s with o2:=w} else s
def heldL (s:LockSet) (w:Int):Lane:=⟨decide (w≠0)&&decide (s.o0=w),decide (w≠0)&&decide (s.o1=w),decide (w≠0)&&decide (s.o2=w)⟩
def tryL (s:LockSet) (k w:Int):Int × LockSet:=
 if k<0∨3≤k∨w<1 then (1,s) else if nextL (heldL s w) k<3 then (17,s) else if ownL s k≠0 then (18,s)
 else (0,{putL s k w with taken:=wr (s.taken+1)})
def unlockL (s:LockSet) (k w:Int):Int × LockSet:=
 if k<0∨3≤k∨w<1 then (1,s) else if ownL s k≠w then (8,s) else (0,putL s k 0)
def idleL (s:LockSet):Bool:=decide (s.o0=0)&&(decide (s.o1=0)&&decide (s.o2=0))
def laneH (h:Hand):Lane:=⟨h.l0,h.l1,h.l2⟩
def newH (w:Work) (who:Int) (l:Lane):Hand:=⟨w,who,l.a0,l.a1,l.a2,nextL l 0,if nextL l 0=3 then 1 else 0⟩
def skipN (l:Lane) (n:Int):Int:=if 2≤n∧l.a2=true then 2 else if 1≤n∧l.a1=true then 1 else if 0≤n∧l.a0=true then 0 else if n<0 then n else-1
def skipH (h:Hand):Hand:={h with next:=skipN (laneH h) h.next,stage:=if skipN (laneH h) h.next<0 then 4 else h.stage}
def partsH (h:Hand) (c:Core):Hand × Core:=
 if (stepW h.W c).1.done then (skipH {h with W:=(stepW h.W c).1,next:=2,stage:=3},(stepW h.W c).2) else ({h with W:=(stepW h.W c).1,stage:=2},(stepW h.W c).2)
def giveH (h:Hand) (s:LockSet):Hand × LockSet:=(skipH {h with next:=wr (h.next-1)},(unlockL s h.next h.who).2)
def waitsH (h:Hand) (s:LockSet):Bool:=decide (h.stage=0)&&decide (ownL s h.next≠0)
def takeH (h:Hand) (s:LockSet):Hand × LockSet:=
 if (tryL s h.next h.who).1≠0 then (h,(tryL s h.next h.who).2)
 else ({h with next:=nextL (laneH h) (wr (h.next+1)),stage:=if nextL (laneH h) (wr (h.next+1))=3 then 1 else h.stage},(tryL s h.next h.who).2)
def stepH (h:Hand) (c:Core) (s:LockSet):Bool × Hand × Core × LockSet:=
 if h.stage=0 then (false,(takeH h s).1,c,(takeH h s).2)
 else if h.stage=1 then (true,(partsH h c).1,(partsH h c).2,s)
 else if h.stage=2 then (false,(partsH h c).1,(partsH h c).2,s)
 else if h.stage=3 then (false,(giveH h s).1,c,(giveH h s).2)
 else if h.stage=4 then (false,{h with stage:=5},c,s) else (false,h,c,s)
def newO (r:Req) (who:Int):OpD:=⟨newH (newW r) who (needsR r.Kind),cleanR r⟩
def stageO:Option Hand→Int |none=>5 |some h=>h.stage
def PreH (h:Hand) (c:Core):Prop:=CW c∧WW h.W∧c.P.steps.length≤4294967280∧ -2≤h.next∧h.next≤3∧(h.stage=3→0≤h.next∧h.next≤2)
end Go.Ax.Law
namespace Go.Ax.Sp
def sOfL:Sig:=⟨[(.imm .i64,false)],[.elem .lane]⟩
def oOfL:sOfL.Out:=fun x k=>(x.1.length≤1000∧ ∀n∈x.1,0≤n∧n<3)∧k () (Law.ofL x.1,())
def lOfL:LoopAnn:={X:=List Int × Lane × Int,live:=fun x=>[(2,.ptr ⟨0,0,0,0⟩),(3,.ptr ⟨1,0,0,0⟩),(6,.imm .i64 x.1),(7,.int .i64 x.1.length),(8,.int .i64 x.2.2)],heap:=fun x=>[some (.raw (EK.enc .lane Law.lane0)),some (.raw (EK.enc .lane x.2.1))]}
def sEvery:Sig:=⟨[],[.elem .lane]⟩
def oEvery:sEvery.Out:=fun _ k=>k () (⟨true,true,true⟩,())
def sNeeds:Sig:=⟨[(.int .i64,false)],[.elem .lane]⟩
def oNeeds:sNeeds.Out:=fun x k=>k () (Law.needsR x.1,())
def sNextL:Sig:=⟨[(.elem .lane,false),(.int .i64,false)],[.int .i64]⟩
def oNextL:sNextL.Out:=fun x k=>k () (Law.nextL x.1 x.2.1,())
def lNextL:LoopAnn:={X:=Lane × Int,live:=fun x=>[(2,.ptr ⟨0,0,0,0⟩),(4,.int .i64 0),(5,.int .i64 x.2)],heap:=fun x=>[some (.raw (EK.enc .lane x.1))]}
def sLenL:Sig:=⟨[(.elem .lane,false)],[.int .i64]⟩
def oLenL:sLenL.Out:=fun x k=>k () (Law.lenL x.1,())
def lLenL:LoopAnn:={X:=Lane × Int × Int,live:=fun x=>[(3,.int .i64 x.2.1),(6,.agg (EK.enc .lane x.1)),(7,.int .i64 x.2.2)],heap:=fun _=>[]}
def sOwnL:Sig:=⟨[(.obj .lockSet,true),(.int .i64,false)],[.int .i64]⟩
def oOwnL:sOwnL.Out:=fun x k=>k (x.1,()) (Law.ownL x.1 x.2.1,())
def sHeldL:Sig:=⟨[(.obj .lockSet,true),(.int .i64,false)],[.elem .lane]⟩
def oHeldL:sHeldL.Out:=fun x k=>k (x.1,()) (Law.heldL x.1 x.2.1,())
def lHeldL:LoopAnn:={X:=LockSet × Int × Lane × Int,live:=fun x=>[(0,.ptr ⟨0,0,0,0⟩),(1,.int .i64 x.2.1),(4,.ptr ⟨1,0,0,0⟩),(5,.ptr ⟨2,0,0,0⟩),(7,.int .i64 x.2.2.2)],heap:=fun x=>[some (.obj .lockSet x.1),some (.raw (EK.enc .lane Law.lane0)),some (.raw (EK.enc .lane x.2.2.1))]}
def sTryL:Sig:=⟨[(.obj .lockSet,true),(.int .i64,false),(.int .i64,false)],[.int .i64]⟩
def oTryL:sTryL.Out:=fun x k=>k ((Law.tryL x.1 x.2.1 x.2.2.1).2,()) ((Law.tryL x.1 x.2.1 x.2.2.1).1,())
def oUnlockL:sTryL.Out:=fun x k=>k ((Law.unlockL x.1 x.2.1 x.2.2.1).2,()) ((Law.unlockL x.1 x.2.1 x.2.2.1).1,())
def sIdleL:Sig:=⟨[(.obj .lockSet,true)],[.bool]⟩
def oIdleL:sIdleL.Out:=fun x k=>k (x.1,()) (Law.idleL x.1,())
def sNewH:Sig:=⟨[(.obj .work,false),(.int .i64,false),(.elem .lane,false)],[.obj .hand]⟩
def oNewH:sNewH.Out:=fun x k=>k () (Law.newH x.1 x.2.1 x.2.2.1,())
def sStageH:Sig:=⟨[(.vopt .hand,false)],[.int .i64]⟩
def oStageH:sStageH.Out:=fun x k=>k () (Law.stageO x.1,())
def sWaitsH:Sig:=⟨[(.vopt .hand,false),(.obj .lockSet,true)],[.bool]⟩
def oWaitsH:sWaitsH.Out:=fun x k=>k (x.2.1,()) ((match x.1 with |some h=>Law.waitsH h x.2.1 |none=>false),())
def sSkipH:Sig:=⟨[(.obj .hand,true)],[]⟩
def oSkipH:sSkipH.Out:=fun x k=>(-2≤x.1.next∧x.1.next≤2)∧k (Law.skipH x.1,()) ()
def lSkipH:LoopAnn:={X:=Hand,live:=fun _=>[(0,.ptr ⟨0,0,0,0⟩)],heap:=fun x=>[some (.obj .hand x)],norm:=[.fold 0 .hand]}
def sPartsH:Sig:=⟨[(.obj .hand,true),(.obj .core,true)],[]⟩
def oPartsH:sPartsH.Out:=fun x k=>Law.PreH x.1 x.2.1∧k ((Law.partsH x.1 x.2.1).1,(Law.partsH x.1 x.2.1).2,()) ()
def sGiveH:Sig:=⟨[(.obj .hand,true),(.obj .lockSet,true)],[]⟩
def oGiveH:sGiveH.Out:=fun x k=>(0≤x.1.next∧x.1.next≤2)∧k ((Law.giveH x.1 x.2.1).1,(Law.giveH x.1 x.2.1).2,()) ()
def sStepH:Sig:=⟨[(.obj .hand,true),(.obj .core,true),(.obj .lockSet,true)],[.bool]⟩
def oStepH:sStepH.Out:=fun x k=>Law.PreH x.1 x.2.1∧k ((Law.stepH x.1 x.2.1 x.2.2.1).2.1,(Law.stepH x.1 x.2.1 x.2.2.1).2.2.1,(Law.stepH x.1 x.2.1 x.2.2.1).2.2.2,()) ((Law.stepH x.1 x.2.1 x.2.2.1).1,())
def sNewO:Sig:=⟨[(.elem .req,false),(.int .i64,false)],[.obj .opD]⟩
def oNewO:sNewO.Out:=fun x k=>k () (Law.newO x.1 x.2.1,())
def sReqO:Sig:=⟨[(.vopt .opD,false)],[.elem .req]⟩
def oReqO:sReqO.Out:=fun x k=>k () ((match x.1 with |some o=>o.req |none=>Law.req0),())
def sFinO:Sig:=⟨[(.vopt .opD,false)],[.bool]⟩
def oFinO:sFinO.Out:=fun x k=>k () ((match x.1 with |some o=>decide (o.H.stage=5) |none=>true),())
def sStepsO:Sig:=⟨[(.elem .lane,false)],[.int .i64]⟩
def oStepsO:sStepsO.Out:=fun x k=>k () (2*Law.lenL x.1+2,())
end Go.Ax.Sp
namespace Go.Ax.V
open Go.Ax.Sp Go.Ax.Law List Int IntKind
set_option maxRecDepth 100000
def vOfL (l:List Int) (k:Unit→Lane × Unit→Prop):Prop:=
SH (false=false∧false=false∧false=false∧True) fun s0=>LP (List Int × Lane × Int) (fun x=>(0=0∧0=0∧l=x.1∧LN l=LN x.1∧0=x.2.2∧True)∧s0∧(false=x.2.1.a0∧false=x.2.1.a1∧false=x.2.1.a2∧True)∧True) fun I m x=>br (decide (x.2.2<LN x.1)) (AI x.1 x.2.2 fun e=>(0≤e∧e<3)∧(e=0→NM (x.2.2+1) fun n=>NX I m x fun y=>(0=0∧0=0∧x.1=y.1∧LN x.1=LN y.1∧n=y.2.2∧True)∧s0∧(true=y.2.1.a0∧x.2.1.a1=y.2.1.a1∧x.2.1.a2=y.2.1.a2∧True)∧True)∧(e=1→NM (x.2.2+1) fun n=>NX I m x fun y=>(0=0∧0=0∧x.1=y.1∧LN x.1=LN y.1∧n=y.2.2∧True)∧s0∧(x.2.1.a0=y.2.1.a0∧true=y.2.1.a1∧x.2.1.a2=y.2.1.a2∧True)∧True)∧(e=2→NM (x.2.2+1) fun n=>NX I m x fun y=>(0=0∧0=0∧x.1=y.1∧LN x.1=LN y.1∧n=y.2.2∧True)∧s0∧(x.2.1.a0=y.2.1.a0∧x.2.1.a1=y.2.1.a1∧true=y.2.1.a2∧True)∧True)∧True) (k () (x.2.1,()))
def vEvery (u:Unit) (k:Unit→Lane × Unit→Prop):Prop:=
3≤3∧(3≤1000∧ ∀(n:Int),Mem n [0,1,2]→0≤n∧n<3)∧k () (Lane.mk true true true,())
def vNeeds (n:Int) (k:Unit→Lane × Unit→Prop):Prop:=
SH (Lane.mk true true true,()) fun s0=>SH [0,2] fun s1=>SH (2≤2∧(2≤1000∧ ∀(n:Int),Mem n s1→0≤n∧n<3)∧k () (Lane.mk true false true,())) fun s2=>SH (1≤1∧(1≤1000∧ ∀(n:Int),Mem n [0]→0≤n∧n<3)∧k () (Lane.mk true false false,())) fun s3=>br (n==1) s2 (br (n==3) s2 (br (n==4) s2 (br (n==2) (k () s0) (br (n==5) (k () s0) (br (n==7) (k () s0) (br (n==8) (k () s0) (br (n==9) (k () s0) (br (n==6) s3 (br (n==11) s3 (br (n==10) (1≤1∧(1≤1000∧ ∀(n:Int),Mem n [1]→0≤n∧n<3)∧k () (Lane.mk false true false,())) (br (n==12) (1≤1∧(1≤1000∧ ∀(n:Int),Mem n [2]→0≤n∧n<3)∧k () (Lane.mk false false true,())) (k () (Lane.mk false false false,())))))))))))))
def vNextL (l:Lane) (n:Int) (k:Unit→Int × Unit→Prop):Prop:=
LP (Lane × Int) (fun x=>((0:Nat)=0∧(0:Int)=0∧(if 0>n then (0:Int) else n)=x.2∧True)∧(l.a0=x.1.a0∧l.a1=x.1.a1∧l.a2=x.1.a2∧True)∧True) fun I m x=>SH (NM (x.2+1) fun n=>NX I m x fun y=>((0:Nat)=0∧(0:Int)=0∧n=y.2∧True)∧(x.1.a0=y.1.a0∧x.1.a1=y.1.a1∧x.1.a2=y.1.a2∧True)∧True) fun s0=>br (decide (x.2<3)) ((0≤x.2∧x.2<3)∧(x.2=0→br x.1.a0 (k () (x.2,())) s0)∧(x.2=1→br x.1.a1 (k () (x.2,())) s0)∧(x.2=2→br x.1.a2 (k () (x.2,())) s0)∧True) (k () ((3:Int),()))
def vLenL (l:Lane) (k:Unit→Int × Unit→Prop):Prop:=
LP (Lane × Int × Int) (fun x=>(0=x.2.1∧(l.a0=x.1.a0∧l.a1=x.1.a1∧l.a2=x.1.a2∧True)∧0=x.2.2∧True)∧True) fun I m x=>SH (x.2.2+1) fun s0=>SH (NM (x.2.1+1) fun n=>NM s0 fun n_1=>NX I m x fun y=>(n=y.2.1∧(x.1.a0=y.1.a0∧x.1.a1=y.1.a1∧x.1.a2=y.1.a2∧True)∧n_1=y.2.2∧True)∧True) fun s1=>SH (NM s0 fun n=>NX I m x fun y=>(x.2.1=y.2.1∧(x.1.a0=y.1.a0∧x.1.a1=y.1.a1∧x.1.a2=y.1.a2∧True)∧n=y.2.2∧True)∧True) fun s2=>br (decide (x.2.2<3)) ((0≤x.2.2∧x.2.2<3)∧(x.2.2=0→br x.1.a0 s1 s2)∧(x.2.2=1→br x.1.a1 s1 s2)∧(x.2.2=2→br x.1.a2 s1 s2)∧True) (k () (x.2.1,()))
def vOwnL (s:LockSet) (n:Int) (k:LockSet × Unit→Int × Unit→Prop):Prop:=
br (decide (n<0)) (k (s,()) (0,())) (br (decide (n≥3)) (k (s,()) (0,())) ((0≤n∧n<3)∧(n=0→k (s,()) (s.o0,()))∧(n=1→k (s,()) (s.o1,()))∧(n=2→k (s,()) (s.o2,()))∧True))
def vHeldL (s:LockSet) (n:Int) (k:LockSet × Unit→Lane × Unit→Prop):Prop:=
SH (false=false∧false=false∧false=false∧True) fun s0=>LP (LockSet × Int × Lane × Int) (fun x=>(0=0∧n=x.2.1∧0=0∧0=0∧0=x.2.2.2∧True)∧s=x.1∧s0∧(false=x.2.2.1.a0∧false=x.2.2.1.a1∧false=x.2.2.1.a2∧True)∧True) fun I m x=>SH x.2.2.2 fun s1=>SH x.2.2.1 fun s2=>SH (ownL x.1 s1==x.2.1) fun s3=>br (decide (s1<3)) (br (!x.2.1==0) ((0≤s1∧s1<3)∧(s1=0→NM (s1+1) fun n=>NX I m x fun y=>(0=0∧x.2.1=y.2.1∧0=0∧0=0∧n=y.2.2.2∧True)∧x.1=y.1∧s0∧(s3=y.2.2.1.a0∧s2.a1=y.2.2.1.a1∧s2.a2=y.2.2.1.a2∧True)∧True)∧(s1=1→NM (s1+1) fun n=>NX I m x fun y=>(0=0∧x.2.1=y.2.1∧0=0∧0=0∧n=y.2.2.2∧True)∧x.1=y.1∧s0∧(s2.a0=y.2.2.1.a0∧s3=y.2.2.1.a1∧s2.a2=y.2.2.1.a2∧True)∧True)∧(s1=2→NM (s1+1) fun n=>NX I m x fun y=>(0=0∧x.2.1=y.2.1∧0=0∧0=0∧n=y.2.2.2∧True)∧x.1=y.1∧s0∧(s2.a0=y.2.2.1.a0∧s2.a1=y.2.2.1.a1∧s3=y.2.2.1.a2∧True)∧True)∧True) ((0≤s1∧s1<3)∧(s1=0→NM (s1+1) fun n=>NX I m x fun y=>(0=0∧x.2.1=y.2.1∧0=0∧0=0∧n=y.2.2.2∧True)∧x.1=y.1∧s0∧(false=y.2.2.1.a0∧s2.a1=y.2.2.1.a1∧s2.a2=y.2.2.1.a2∧True)∧True)∧(s1=1→NM (s1+1) fun n=>NX I m x fun y=>(0=0∧x.2.1=y.2.1∧0=0∧0=0∧n=y.2.2.2∧True)∧x.1=y.1∧s0∧(s2.a0=y.2.2.1.a0∧false=y.2.2.1.a1∧s2.a2=y.2.2.1.a2∧True)∧True)∧(s1=2→NM (s1+1) fun n=>NX I m x fun y=>(0=0∧x.2.1=y.2.1∧0=0∧0=0∧n=y.2.2.2∧True)∧x.1=y.1∧s0∧(s2.a0=y.2.2.1.a0∧s2.a1=y.2.2.1.a1∧false=y.2.2.1.a2∧True)∧True)∧True)) (k (x.1,()) (s2,()))
def vTryL (s:LockSet) (n:Int) (m:Int) (k:LockSet × Unit→Int × Unit→Prop):Prop:=
SH (s.taken+1) fun s0=>SH ((0≤n∧n<3)∧(n=0→NM s0 fun n=>k (LockSet.mk m s.o1 s.o2 n,()) (0,()))∧(n=1→NM s0 fun n=>k (LockSet.mk s.o0 m s.o2 n,()) (0,()))∧(n=2→NM s0 fun n=>k (LockSet.mk s.o0 s.o1 m n,()) (0,()))∧True) fun s1=>SH (k (s,()) (1,())) fun s2=>SH (k (s,()) (18,())) fun s3=>br (decide (n<0)) s2 (br (decide (n≥3)) s2 (br (decide (m<1)) s2 (br (decide (nextL (Lane.mk (decide (m≠0)&&decide (s.o0=m)) (decide (m≠0)&&decide (s.o1=m)) (decide (m≠0)&&decide (s.o2=m))) n<3)) (k (s,()) (17,())) ((0≤n∧n<3)∧(n=0→br (!s.o0==0) s3 s1)∧(n=1→br (!s.o1==0) s3 s1)∧(n=2→br (!s.o2==0) s3 s1)∧True))))
def vUnlockL (s:LockSet) (n:Int) (m:Int) (k:LockSet × Unit→Int × Unit→Prop):Prop:=
SH s.taken fun s0=>SH (LockSet.mk s.o0 s.o1 0 s0,()) fun s1=>SH (LockSet.mk s.o0 0 s.o2 s0,()) fun s2=>SH (LockSet.mk 0 s.o1 s.o2 s0,()) fun s3=>SH ((0≤n∧n<3)∧(n=0→k s3 (0,()))∧(n=1→k s2 (0,()))∧(n=2→k s1 (0,()))∧True) fun s4=>SH (k (s,()) (1,())) fun s5=>SH (k (s,()) (8,())) fun s6=>br (decide (n<0)) s5 (br (decide (n≥3)) s5 (br (decide (m<1)) s5 ((0≤n∧n<3)∧(n=0→br (!s.o0==m) s6 s4)∧(n=1→br (!s.o1==m) s6 s4)∧(n=2→br (!s.o2==m) s6 s4)∧True)))
def vIdleL (s:LockSet) (k:LockSet × Unit→Bool × Unit→Prop):Prop:=
k (s,()) (s.o0==0&&(s.o1==0&&(s.o2==0&&true)),())
def vNewH (w:Work) (n:Int) (l:Lane) (k:Unit→Hand × Unit→Prop):Prop:=
(br (nextL l 0==3) (k () (Hand.mk w n l.a0 l.a1 l.a2 (nextL l 0) 1,())) (k () (Hand.mk w n l.a0 l.a1 l.a2 (nextL l 0) 0,()))∧True)∧True
def vStageH (h:Hand) (k:Unit→Int × Unit→Prop):Prop:=
k () (h.stage,())
def vStageHN (k:Unit→Int × Unit→Prop):Prop:=
k () (5,())
def vWaitsH (h:Hand) (s:LockSet) (k:LockSet × Unit→Bool × Unit→Prop):Prop:=
br (stageO (some h)==0) (k (s,()) (!ownL s h.next==0,())) (k (s,()) (false,()))
def vWaitsHN (s:LockSet) (k:LockSet × Unit→Bool × Unit→Prop):Prop:=
k (s,()) (false,())
def vSkipH (h:Hand) (k:Hand × Unit→Unit→Prop):Prop:=
SH (0=0∧True) fun s0=>LP Hand (fun x=>s0∧h=x∧True) fun I m x=>SH (Hand.mk x.W x.who x.l0 x.l1 x.l2 x.next 4,()) fun s1=>SH (decide (x.next<0)) fun s2=>SH (NM (x.next-1) fun n=>NX I m x fun y=>s0∧Hand.mk x.W x.who x.l0 x.l1 x.l2 n x.stage=y∧True) fun s3=>SH (br s2 (k s1 ()) (k (x,()) ())) fun s4=>br (decide (x.next≥0)) ((0≤x.next∧x.next<3)∧(x.next=0→br (!x.l0) s3 s4)∧(x.next=1→br (!x.l1) s3 s4)∧(x.next=2→br (!x.l2) s3 s4)∧True) s4
def vPartsH (h:Hand) (c:Core) (k:Hand × Core × Unit→Unit→Prop):Prop:=
SH (stepW h.W c) fun s0=>(CW c∧WW h.W∧length c.P.steps≤4294967280)∧br s0.1.done (((-2:Int)≤2∧(2:Int)≤2)∧k (skipH (Hand.mk s0.1 h.who h.l0 h.l1 h.l2 (2:Int) (3:Int)),s0.2,()) ()) (k (Hand.mk s0.1 h.who h.l0 h.l1 h.l2 h.next (2:Int),s0.2,()) ())
def vGiveH (h:Hand) (s:LockSet) (k:Hand × LockSet × Unit→Unit→Prop):Prop:=
(NM (h.next-1) fun n=>((-2)≤n∧n≤2)∧k (skipH (Hand.mk h.W h.who h.l0 h.l1 h.l2 n h.stage),(unlockL s h.next h.who).2,()) ())∧True
def vStepH (h:Hand) (c:Core) (s:LockSet) (k:Hand × Core × LockSet × Unit→Bool × Unit→Prop):Prop:=
SH (c,(tryL s h.next h.who).2,()) fun s0=>SH (stageO (some h)) fun s1=>SH ((partsH h c).1,(partsH h c).2,s,()) fun s2=>SH (Lane.mk h.l0 h.l1 h.l2) fun s3=>br (s1==0) (br (!(tryL s h.next h.who).1==0) (k (h,s0) (false,())) (NM (h.next+1) fun n=>(br (nextL s3 n==3) (k (Hand.mk h.W h.who h.l0 h.l1 h.l2 (nextL s3 n) 1,s0) (false,())) (k (Hand.mk h.W h.who h.l0 h.l1 h.l2 (nextL s3 n) h.stage,s0) (false,()))∧True)∧True)∧True) (br (s1==1) (PreH h c∧k s2 (true,())) (br (s1==2) (PreH h c∧k s2 (false,())) (br (s1==3) ((0≤h.next∧h.next≤2)∧k (skipH (Hand.mk h.W h.who h.l0 h.l1 h.l2 (wr (h.next-1)) h.stage),c,(unlockL s h.next h.who).2,()) (false,())) (br (s1==4) (k (Hand.mk h.W h.who h.l0 h.l1 h.l2 h.next 5,c,s,()) (false,())) (k (h,c,s,()) (false,()))))))
def vNewO (r:Req) (n:Int) (k:Unit→OpD × Unit→Prop):Prop:=
((((k () (OpD.mk (newH (newW r) n (needsR r.Kind)) (cleanR r),())∧True)∧True)∧True)∧True)∧True
def vReqO (o:OpD) (k:Unit→Req × Unit→Prop):Prop:=
k () (o.req,())
def vReqON (k:Unit→Req × Unit→Prop):Prop:=
k () (Req.mk 0 0 0 0 0 0 false 0 0,())
def vFinO (o:OpD) (k:Unit→Bool × Unit→Prop):Prop:=
k () (stageO (some o.H)==5,())
def vFinON (k:Unit→Bool × Unit→Prop):Prop:=
k () (true,())
def vStepsO (l:Lane) (k:Unit→Int × Unit→Prop):Prop:=
NM (2*lenL l) fun n=>NM (n+2) fun n_1=>k () (n_1,())
end Go.Ax.V
namespace Go.Ax.Law
theorem br_if {b:Bool} {x y:Prop}:br b x y=if b=true then x else y:=by cases b<;>rfl
theorem wr1 {n:Int} (h: -1000≤n∧n≤1000):IntKind.i64.wrap n=n:=w64 (by omega)
theorem mem3 {l:List Int} (h:(l.all fun n=>decide (0≤n)&&decide (n<3))=true): ∀n:Int,List.Mem n l→0≤n∧n<3:=fun n hn=>by
 have:=List.all_eq_true.1 h n hn
 simpa using this
end Go.Ax.Law
namespace Go.Ax.O
open Go.Ax.Sp Go.Ax.Law
theorem vOwnL {s:LockSet} {n:Int} {k:LockSet × Unit→Int × Unit→Prop} (h:oOwnL (s,n,()) k):V.vOwnL s n k:=by
 have h:k (s,()) (ownL s n,()):=h
 unfold V.vOwnL
 unfold ownL at h
 simp only [br_if]
 grind
theorem vTryL {s:LockSet} {n m:Int} {k:LockSet × Unit→Int × Unit→Prop} (h:oTryL (s,n,m,()) k):V.vTryL s n m k:=by
 have h:k ((tryL s n m).2,()) ((tryL s n m).1,()):=h
 unfold V.vTryL V.NM V.SH
 unfold tryL heldL ownL putL wr at h
 simp only [br_if]
 have hn:n<0∨n=0∨n=1∨n=2∨3≤n:=by omega
 rcases hn with h1 |rfl |rfl |rfl |h1
 ·simp [h1] at h ⊢;grind
 ·simp at h ⊢;grind
 ·simp at h ⊢;grind
 ·simp at h ⊢;grind
 ·simp [h1] at h ⊢;grind
theorem vUnlockL {s:LockSet} {n m:Int} {k:LockSet × Unit→Int × Unit→Prop} (h:oUnlockL (s,n,m,()) k):V.vUnlockL s n m k:=by
 have h:k ((unlockL s n m).2,()) ((unlockL s n m).1,()):=h
 unfold V.vUnlockL V.SH
 unfold unlockL ownL putL at h
 simp only [br_if]
 grind
theorem vIdleL {s:LockSet} {k:LockSet × Unit→Bool × Unit→Prop} (h:oIdleL (s,()) k):V.vIdleL s k:=by
 have h:k (s,()) (idleL s,()):=h
 unfold V.vIdleL
 unfold idleL at h
 grind
theorem vNewH {w:Work} {n:Int} {l:Lane} {k:Unit→Hand × Unit→Prop} (h:oNewH (w,n,l,()) k):V.vNewH w n l k:=by
 have h:k () (newH w n l,()):=h
 unfold V.vNewH
 unfold newH at h
 simp only [br_if]
 grind
theorem vStageH {a:Hand} {k:Unit→Int × Unit→Prop} (h:oStageH (some a,()) k):V.vStageH a k:=h
theorem vStageHN {k:Unit→Int × Unit→Prop} (h:oStageH (none,()) k):V.vStageHN k:=h
theorem vWaitsH {a:Hand} {s:LockSet} {k:LockSet × Unit→Bool × Unit→Prop} (h:oWaitsH (some a,s,()) k):V.vWaitsH a s k:=by
 have h:k (s,()) (waitsH a s,()):=h
 unfold V.vWaitsH stageO
 unfold waitsH at h
 simp only [br_if]
 grind
theorem vWaitsHN {s:LockSet} {k:LockSet × Unit→Bool × Unit→Prop} (h:oWaitsH (none,s,()) k):V.vWaitsHN s k:=h
theorem vPartsH {h:Hand} {c:Core} {k:Hand × Core × Unit→Unit→Prop} (g:oPartsH (h,c,()) k):V.vPartsH h c k:=by
 obtain ⟨hp,g⟩:=g
 have g:k ((partsH h c).1,(partsH h c).2,()) ():=g
 obtain ⟨p1,p2,p3,_⟩:=hp
 unfold V.vPartsH V.SH
 unfold partsH at g
 simp only [br_if]
 exact ⟨⟨p1,p2,p3⟩,by grind⟩
theorem vGiveH {h:Hand} {s:LockSet} {k:Hand × LockSet × Unit→Unit→Prop} (g:oGiveH (h,s,()) k):V.vGiveH h s k:=by
 obtain ⟨hp,g⟩:=g
 have g:k ((giveH h s).1,(giveH h s).2,()) ():=g
 unfold V.vGiveH V.NM
 unfold giveH wr at g
 simp only [] at hp
 rw [w64 (by omega)] at g
 refine ⟨fun n hn=>?_,trivial⟩
 rw [w64 (by omega)] at hn
 subst hn
 exact ⟨by omega,g⟩
theorem vStepH {h:Hand} {c:Core} {s:LockSet} {k:Hand × Core × LockSet × Unit→Bool × Unit→Prop} (g:oStepH (h,c,s,()) k):V.vStepH h c s k:=by
 obtain ⟨hp,g⟩:=g
 have g:k ((stepH h c s).2.1,(stepH h c s).2.2.1,(stepH h c s).2.2.2,()) ((stepH h c s).1,()):=g
 have hp:PreH h c:=hp
 have hq:=hp.2.2.2.2.2
 unfold V.vStepH V.NM V.SH stageO
 unfold stepH takeH giveH laneH wr at g
 simp only [br_if]
 grind
theorem vNewO {r:Req} {n:Int} {k:Unit→OpD × Unit→Prop} (h:oNewO (r,n,()) k):V.vNewO r n k:=by
 have h:k () (newO r n,()):=h
 exact ⟨⟨⟨⟨⟨h,trivial⟩,trivial⟩,trivial⟩,trivial⟩,trivial⟩
theorem vReqO {o:OpD} {k:Unit→Req × Unit→Prop} (h:oReqO (some o,()) k):V.vReqO o k:=h
theorem vReqON {k:Unit→Req × Unit→Prop} (h:oReqO (none,()) k):V.vReqON k:=h
theorem vFinO {o:OpD} {k:Unit→Bool × Unit→Prop} (h:oFinO (some o,()) k):V.vFinO o k:=by
 have h:k () (decide (o.H.stage=5),()):=h
 unfold V.vFinO stageO
 grind
theorem vFinON {k:Unit→Bool × Unit→Prop} (h:oFinO (none,()) k):V.vFinON k:=h
theorem lenL_le (l:Lane):0≤lenL l∧lenL l≤3:=by
 unfold lenL bI;grind
theorem vStepsO {l:Lane} {k:Unit→Int × Unit→Prop} (h:oStepsO (l,()) k):V.vStepsO l k:=by
 have h:k () (2*lenL l+2,()):=h
 have hl:=lenL_le l
 unfold V.vStepsO V.NM
 intro n hn m hm
 rw [w64 (by omega)] at hn
 subst hn
 rw [w64 (by omega)] at hm
 subst hm
 exact h
theorem vEvery {u:Unit} {k:Unit→Lane × Unit→Prop} (h:oEvery u k):V.vEvery u k:=by
 exact ⟨Nat.le_refl _,⟨by omega,mem3 (by decide)⟩,h⟩
theorem vNeeds {n:Int} {k:Unit→Lane × Unit→Prop} (h:oNeeds (n,()) k):V.vNeeds n k:=by
 have h:k () (needsR n,()):=h
 unfold V.vNeeds V.SH
 unfold needsR lane0 at h
 have m1:=eq_true (mem3 (l:=[0,2]) (by decide))
 have m2:=eq_true (mem3 (l:=[0]) (by decide))
 have m3:=eq_true (mem3 (l:=[1]) (by decide))
 have m4:=eq_true (mem3 (l:=[2]) (by decide))
 simp only [br_if,m1,m2,m3,m4,Nat.le_refl,Nat.reduceLeDiff,true_and,beq_iff_eq]
 grind (splits:=60)
theorem vNextL {l:Lane} {n:Int} {k:Unit→Int × Unit→Prop} (h:oNextL (l,n,()) k):V.vNextL l n k:=by
 have h:k () (nextL l n,()):=h
 unfold V.vNextL V.LP V.NX V.NM V.SH
 refine ⟨fun x=>x.1=l∧0≤x.2∧k () (nextL l x.2,()),fun x=>(3-x.2).toNat,(l,if 0>n then 0 else n),⟨rfl,by grind,by unfold nextL at h ⊢;grind⟩,by simp,?_⟩
 rintro ⟨l',i⟩ ⟨e,hi,hk⟩
 simp only [] at e hi hk
 subst e
 have step: ∀(j:Int),0≤j→j<3→laneHas l' j=false→k () (nextL l' j,())→ ∀n,n=IntKind.i64.wrap (j+1)→ ∃y:Lane × Int,(y.1=l'∧0≤y.2∧k () (nextL l' y.2,()))∧(((0:Nat)=0∧(0:Int)=0∧n=y.2∧True)∧(l'.a0=y.1.a0∧l'.a1=y.1.a1∧l'.a2=y.1.a2∧True)∧True)∧(3-y.2).toNat<(3-j).toNat:=by
  intro j h0 h3 hl hk n hn
  rw [w64 (by omega)] at hn
  subst hn
  refine ⟨(l',j+1),⟨rfl,by simp only [];omega,?_⟩,by simp,by simp only [];omega⟩
  unfold laneHas at hl
  unfold nextL at hk ⊢
  grind
 refine br_dec (fun h3=>⟨⟨hi,h3⟩,fun hj=>?_,fun hj=>?_,fun hj=>?_,trivial⟩) (fun h3=>?_)
 ·simp only [] at hj;subst hj
  exact br_bool (fun (hb:l'.a0=true)=>by unfold nextL at hk;simpa [hb] using hk) (fun (hb:l'.a0=false)=>step _ hi (by omega) (by unfold laneHas;simpa using hb) hk)
 ·simp only [] at hj;subst hj
  exact br_bool (fun (hb:l'.a1=true)=>by unfold nextL at hk;simpa [hb] using hk) (fun (hb:l'.a1=false)=>step _ hi (by omega) (by unfold laneHas;simpa using hb) hk)
 ·simp only [] at hj;subst hj
  exact br_bool (fun (hb:l'.a2=true)=>by unfold nextL at hk;simpa [hb] using hk) (fun (hb:l'.a2=false)=>step _ hi (by omega) (by unfold laneHas;simpa using hb) hk)
 ·have h3: ¬ i<3:=h3
  unfold nextL at hk
  rwa [if_neg (by omega),if_neg (by omega),if_neg (by omega)] at hk
def lenTo (l:Lane) (i:Int):Int:=(if 0<i then bI l.a0 else 0)+(if 1<i then bI l.a1 else 0)+(if 2<i then bI l.a2 else 0)
theorem vLenL {l:Lane} {k:Unit→Int × Unit→Prop} (h:oLenL (l,()) k):V.vLenL l k:=by
 have h:k () (lenL l,()):=h
 unfold V.vLenL V.LP V.NX V.NM V.SH
 refine ⟨fun x=>x.1=l∧0≤x.2.2∧x.2.2≤3∧x.2.1=lenTo l x.2.2,fun x=>(3-x.2.2).toNat,(l,0,0),⟨rfl,by simp,by simp,by simp [lenTo]⟩,by simp,?_⟩
 rintro ⟨l',c,i⟩ ⟨e,hi,hi2,hc⟩
 simp only [] at e hi hi2 hc
 subst e
 have hcb:0≤c∧c≤3:=by rw [hc];unfold lenTo bI;grind
 have step: ∀(b:Bool),i<3→b=laneHas l' i→ ∀(c1:Int),c1=(if b=true then IntKind.i64.wrap (c+1) else c)→ ∀n,n=IntKind.i64.wrap (i+1)→ ∃y:Lane × Int × Int,(y.1=l'∧0≤y.2.2∧y.2.2≤3∧y.2.1=lenTo l' y.2.2)∧((c1=y.2.1∧(l'.a0=y.1.a0∧l'.a1=y.1.a1∧l'.a2=y.1.a2∧True)∧n=y.2.2∧True)∧True)∧(3-y.2.2).toNat<(3-i).toNat:=by
  intro b h3 hb c1 hc1 n hn
  rw [w64 (by omega)] at hn
  rw [w64 (by omega)] at hc1
  subst hn
  refine ⟨(l',c1,i+1),⟨rfl,by simp only [];omega,by simp only [];omega,?_⟩,by simp,by simp only [];omega⟩
  have hi3:i=0∨i=1∨i=2:=by omega
  subst hc1 hb
  rw [hc]
  unfold lenTo laneHas bI
  rcases hi3 with rfl |rfl |rfl<;>simp<;>grind
 refine br_dec (fun h3=>⟨⟨hi,h3⟩,fun hj=>?_,fun hj=>?_,fun hj=>?_,trivial⟩) (fun h3=>?_)
 ·simp only [] at hj;subst hj
  exact br_bool (fun (hb:l'.a0=true) n hn m hm=>step true (by omega) (by unfold laneHas;simp [hb]) n (by simpa using hn) m hm) (fun (hb:l'.a0=false) m hm=>step false (by omega) (by unfold laneHas;simp [hb]) c (by simp) m hm)
 ·simp only [] at hj;subst hj
  exact br_bool (fun (hb:l'.a1=true) n hn m hm=>step true (by omega) (by unfold laneHas;simp [hb]) n (by simpa using hn) m hm) (fun (hb:l'.a1=false) m hm=>step false (by omega) (by unfold laneHas;simp [hb]) c (by simp) m hm)
 ·simp only [] at hj;subst hj
  exact br_bool (fun (hb:l'.a2=true) n hn m hm=>step true (by omega) (by unfold laneHas;simp [hb]) n (by simpa using hn) m hm) (fun (hb:l'.a2=false) m hm=>step false (by omega) (by unfold laneHas;simp [hb]) c (by simp) m hm)
 ·have h3: ¬ i<3:=h3
  obtain rfl:i=3:=by omega
  rw [show c=lenL l' by rw [hc];unfold lenTo lenL;simp]
  exact h
theorem vOfL {l:List Int} {k:Unit→Lane × Unit→Prop} (h:oOfL (l,()) k):V.vOfL l k:=by
 obtain ⟨⟨hl,hm⟩,h⟩:=h
 have h:k () (ofL l,()):=h
 unfold V.vOfL V.LP V.NX V.AI V.NM V.SH V.LN
 refine ⟨fun x=>x.1=l∧0≤x.2.2∧x.2.2≤l.length∧x.2.1=ofL (l.take x.2.2.toNat),fun x=>(l.length-x.2.2).toNat,(l,lane0,0),⟨rfl,by simp,by simp,by simp [ofL]⟩,by simp [lane0],?_⟩
 rintro ⟨l',c,i⟩ ⟨e,hi,hi2,hc⟩
 simp only [] at e hi hi2 hc hm hl
 subst e
 refine br_dec (fun h3=>⟨⟨hi,h3⟩,fun e he=>?_⟩) (fun h3=>?_)
 ·have h3:i<l'.length:=h3
  have hg:laneSet c e=ofL (l'.take (i+1).toNat):=by
   rw [show (i+1).toNat=i.toNat+1 by omega,List.take_add_one,he,hc]
   simp [ofL]
  have step: ∀(d:Lane),d=laneSet c e→ ∀n,n=IntKind.i64.wrap (i+1)→ ∃y:List Int × Lane × Int,(y.1=l'∧0≤y.2.2∧y.2.2≤l'.length∧y.2.1=ofL (l'.take y.2.2.toNat))∧((0=0∧0=0∧l'=y.1∧(l'.length:Int)=y.1.length∧n=y.2.2∧True)∧(false=false∧false=false∧false=false∧True)∧(d.a0=y.2.1.a0∧d.a1=y.2.1.a1∧d.a2=y.2.1.a2∧True)∧True)∧(l'.length-y.2.2).toNat<(l'.length-i).toNat:=by
   intro d hd n hn
   rw [w64 (by omega)] at hn
   subst hn
   exact ⟨(l',d,i+1),⟨rfl,by simp only [];omega,by simp only [];omega,hd.trans hg⟩,by simp,by simp only [];omega⟩
  exact ⟨hm e (List.mem_of_getElem? he),fun h0=>step ⟨true,c.a1,c.a2⟩ (by subst h0;rfl),fun h0=>step ⟨c.a0,true,c.a2⟩ (by subst h0;rfl),fun h0=>step ⟨c.a0,c.a1,true⟩ (by subst h0;rfl),trivial⟩
 ·have h3: ¬ i<l'.length:=h3
  rw [List.take_of_length_le (by omega)] at hc
  rw [show (l',c,i).2.1=ofL l' from hc]
  exact h
def heldTo (s:LockSet) (w i:Int):Lane:=⟨decide (0<i)&&(heldL s w).a0,decide (1<i)&&(heldL s w).a1,decide (2<i)&&(heldL s w).a2⟩
theorem vHeldL {s:LockSet} {n:Int} {k:LockSet × Unit→Lane × Unit→Prop} (h:oHeldL (s,n,()) k):V.vHeldL s n k:=by
 have h:k (s,()) (heldL s n,()):=h
 unfold V.vHeldL V.LP V.NX V.NM V.SH
 refine ⟨fun x=>x.1=s∧x.2.1=n∧0≤x.2.2.2∧x.2.2.2≤3∧x.2.2.1=heldTo s n x.2.2.2,fun x=>(3-x.2.2.2).toNat,(s,n,lane0,0),⟨rfl,rfl,by simp,by simp,by simp [heldTo,lane0]⟩,by simp [lane0],?_⟩
 rintro ⟨s',n',c,i⟩ ⟨e1,e2,hi,hi2,hc⟩
 simp only [] at e1 e2 hi hi2 hc
 subst e1 e2
 have step: ∀(d:Lane),i<3→d=heldTo s' n' (i+1)→ ∀n,n=IntKind.i64.wrap (i+1)→ ∃y:LockSet × Int × Lane × Int,(y.1=s'∧y.2.1=n'∧0≤y.2.2.2∧y.2.2.2≤3∧y.2.2.1=heldTo s' n' y.2.2.2)∧((0=0∧n'=y.2.1∧0=0∧0=0∧n=y.2.2.2∧True)∧s'=y.1∧(false=false∧false=false∧false=false∧True)∧(d.a0=y.2.2.1.a0∧d.a1=y.2.2.1.a1∧d.a2=y.2.2.1.a2∧True)∧True)∧(3-y.2.2.2).toNat<(3-i).toNat:=by
  intro d h3 hd n hn
  rw [w64 (by omega)] at hn
  subst hn
  exact ⟨(s',n',d,i+1),⟨rfl,rfl,by simp only [];omega,by simp only [];omega,hd⟩,by simp,by simp only [];omega⟩
 refine br_dec (fun h3=>br_ne (fun hw=>⟨⟨hi,h3⟩,fun hj=>step ⟨ownL s' i==n',c.a1,c.a2⟩ h3 ?_,fun hj=>step ⟨c.a0,ownL s' i==n',c.a2⟩ h3 ?_,fun hj=>step ⟨c.a0,c.a1,ownL s' i==n'⟩ h3 ?_,trivial⟩) (fun hw=>⟨⟨hi,h3⟩,fun hj=>step ⟨false,c.a1,c.a2⟩ h3 ?_,fun hj=>step ⟨c.a0,false,c.a2⟩ h3 ?_,fun hj=>step ⟨c.a0,c.a1,false⟩ h3 ?_,trivial⟩)) (fun h3=>?_)
 iterate 6 (· simp only [] at hj hw;subst hj hc;simp [heldTo,heldL,ownL,hw];try grind)
 ·have h3: ¬ i<3:=h3
  obtain rfl:i=3:=by omega
  rw [show (s',n',c,(3:Int)).2.2.1=heldL s' n' by simp only [];rw [hc];simp [heldTo]]
  exact h
theorem vSkipH {h:Hand} {k:Hand × Unit→Unit→Prop} (g:oSkipH (h,()) k):V.vSkipH h k:=by
 obtain ⟨hp,g⟩:=g
 have g:k (skipH h,()) ():=g
 simp only [] at hp
 unfold V.vSkipH V.LP V.NX V.NM V.SH
 refine ⟨fun x=> -2≤x.next∧x.next≤2∧skipH x=skipH h,fun x=>(x.next+2).toNat,h,⟨hp.1,hp.2,rfl⟩,by simp,?_⟩
 rintro x ⟨h1,h2,h3⟩
 have step:laneHas (laneH x) x.next=false→0≤x.next→ ∀n,n=IntKind.i64.wrap (x.next-1)→ ∃y:Hand,(-2≤y.next∧y.next≤2∧skipH y=skipH h)∧((0=0∧True)∧Hand.mk x.W x.who x.l0 x.l1 x.l2 n x.stage=y∧True)∧(y.next+2).toNat<(x.next+2).toNat:=by
  intro hl h0 n hn
  rw [w64 (by omega)] at hn
  subst hn
  refine ⟨_,⟨by simp only [];omega,by simp only [];omega,?_⟩,⟨by simp,rfl,trivial⟩,by simp only [];omega⟩
  rw [←h3]
  obtain ⟨W,who,l0,l1,l2,nx,st⟩:=x
  simp only [laneHas,laneH] at hl h1 h2 h0
  unfold skipH skipN laneH
  have:nx=0∨nx=1∨nx=2:=by omega
  rcases this with rfl |rfl |rfl<;>simp at hl<;>simp [hl]
 have stop:(x.next<0∨laneHas (laneH x) x.next=true)→br (decide (x.next<0)) (k (Hand.mk x.W x.who x.l0 x.l1 x.l2 x.next 4,()) ()) (k (x,()) ()):=by
  intro hl
  rw [←h3] at g
  obtain ⟨W,who,l0,l1,l2,nx,st⟩:=x
  simp only [laneHas,laneH] at hl h1 h2
  unfold skipH skipN laneH at g
  refine br_dec (fun hn=>?_) (fun hn=>?_)
  ·have hn:nx<0:=hn
   simpa [show ¬ 2≤nx by omega,show ¬ 1≤nx by omega,show ¬ 0≤nx by omega,hn] using g
  ·have hn: ¬ nx<0:=hn
   have:nx=0∨nx=1∨nx=2:=by omega
   rcases this with rfl |rfl |rfl<;>simp at hl<;>simpa [hl] using g
 refine br_dec (fun h0=>⟨⟨h0,by omega⟩,fun hj=>?_,fun hj=>?_,fun hj=>?_,trivial⟩) (fun h0=>stop (.inl (by omega)))
 ·exact br_not (fun hb=>step (by rw [hj];simpa [laneHas,laneH] using hb) h0) (fun hb=>stop (.inr (by rw [hj];simpa [laneHas,laneH] using hb)))
 ·exact br_not (fun hb=>step (by rw [hj];simpa [laneHas,laneH] using hb) h0) (fun hb=>stop (.inr (by rw [hj];simpa [laneHas,laneH] using hb)))
 ·exact br_not (fun hb=>step (by rw [hj];simpa [laneHas,laneH] using hb) h0) (fun hb=>stop (.inr (by rw [hj];simpa [laneHas,laneH] using hb)))
end Go.Ax.O
