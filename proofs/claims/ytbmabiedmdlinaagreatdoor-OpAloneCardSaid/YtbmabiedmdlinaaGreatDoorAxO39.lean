import Derived.Test.YtbmabiedmdlinaaGreatDoorAxV22
import Derived.Test.YtbmabiedmdlinaaGreatDoorAxV9
import Derived.KernelRfl
set_option linter.all false
namespace Go.Ax.Sp
def lAwO:LoopAnn:={X:=Core × LockSet × OpD × Int × Int,live:=fun x=>[(1,.ptr ⟨0,0,0,0⟩),(3,.ptr ⟨1,0,0,0⟩),(4,.ptr ⟨2,0,0,0⟩),(5,.int .i64 x.2.2.2.1),(6,.int .i64 x.2.2.2.2)],heap:=fun x=>[some (.obj .core x.1),some (.obj .lockSet x.2.1),some (.obj .opD x.2.2.1)],norm:=[.fold 0 .core,.fold 1 .lockSet,.fold 2 .opD]}
def sOpNob:Sig:=⟨[(.elem .req,false)],[.bool]⟩
def oOpNob:sOpNob.Out:=fun _ k=>k () (true,())
end Go.Ax.Sp
namespace Go.Ax.V
open Go.Ax.Sp Go.Ax.Law List Int IntKind
set_option maxRecDepth 100000
def vAwakeO (u:Unit) (k:Unit→Bool × Unit→Prop):Prop:=
SH (k () (false,())) fun s0=>((3:Int)<1∨(64:Int)<3→s0)∧((1:Int)≤3∧(3:Int)≤64→LP (Core × LockSet × OpD × Int × Int) (fun x=>((0:Nat)=0∧(0:Nat)=0∧(0:Nat)=0∧0=x.2.2.2.1∧0=x.2.2.2.2∧True)∧newCore 3=x.1∧LockSet.mk (0:Int) (0:Int) (0:Int) 0=x.2.1∧newO (Req.mk (12:Int) (0:Int) (0:Int) (0:Int) (0:Int) (0:Int) false (0:Int) (0:Int)) 1=x.2.2.1∧True) fun I m x=>SH (stepH x.2.2.1.H x.1 x.2.1) fun s1=>br (decide (x.2.2.2.2<4)) (br (decide (x.2.2.1.H.stage=5)) s0 (PreH x.2.2.1.H x.1∧br s1.1 (NM (x.2.2.2.1+1) fun n=>NM (x.2.2.2.2+1) fun n_1=>NX I m x fun y=>((0:Nat)=0∧(0:Nat)=0∧(0:Nat)=0∧n=y.2.2.2.1∧n_1=y.2.2.2.2∧True)∧s1.2.2.1=y.1∧s1.2.2.2=y.2.1∧OpD.mk s1.2.1 x.2.2.1.req=y.2.2.1∧True) (NM (x.2.2.2.2+1) fun n=>NX I m x fun y=>((0:Nat)=0∧(0:Nat)=0∧(0:Nat)=0∧x.2.2.2.1=y.2.2.2.1∧n=y.2.2.2.2∧True)∧s1.2.2.1=y.1∧s1.2.2.2=y.2.1∧OpD.mk s1.2.1 x.2.2.1.req=y.2.2.1∧True))) (br (decide (x.2.2.1.H.stage=5)) (br (x.2.2.2.1==1) (br (x.2.2.1.H.W.reply.A==3) (br (idleL x.2.1) (k () (true,())) s0) s0) s0) s0))
def vOpNob (r:Req) (k:Unit→Bool × Unit→Prop):Prop:=
SH (stageO (some (newH (newW r) 1 (needsR r.Kind)))) fun s0=>(br (lenL (needsR r.Kind)==0) (br (s0==1) (k () (true,())) (k () (false,()))) (br (s0==0) (k () (true,())) (k () (false,())))∧True)∧True
end Go.Ax.V
namespace Go.Ax.Law
def awO:Nat→Core × LockSet × OpD × Int
 |0=>(newCore 3,lock0,newO ⟨12,0,0,0,0,0,false,0,0⟩ 1,0)
 |n+1=>let r:=stepH (awO n).2.2.1.H (awO n).1 (awO n).2.1
  (r.2.2.1,r.2.2.2,⟨r.2.1,(awO n).2.2.1.req⟩,if r.1 then (awO n).2.2.2+1 else (awO n).2.2.2)
def okH (s:Core × LockSet × OpD × Int):Bool:=
 let h:=s.2.2.1.H
 decide (h.stage≠5)&&(decide (h.W.job.Nodes=0)&&(decide (-2≤h.next)&&(decide (h.next≤3)&&((decide (h.stage≠3)||(decide (0≤h.next)&&decide (h.next≤2)))&&(decide (0≤s.2.2.2)&&decide (s.2.2.2≤4))))))
theorem awO_core: ∀n,n<5→(awO n).1=newCore 3
 |0,_=>by kernel_rfl
 |1,_=>by kernel_rfl
 |2,_=>by kernel_rfl
 |3,_=>by kernel_rfl
 |4,_=>by kernel_rfl
theorem awO_ok: ∀n,n<4→okH (awO n)=true
 |0,_=>by kernel_rfl
 |1,_=>by kernel_rfl
 |2,_=>by kernel_rfl
 |3,_=>by kernel_rfl
theorem awO_pre {n:Nat} (hn:n<4):(awO n).2.2.1.H.stage≠5∧PreH (awO n).2.2.1.H (awO n).1∧0≤(awO n).2.2.2∧(awO n).2.2.2≤4:=by
 have h:=awO_ok n hn
 have hc:=awO_core n (by omega)
 unfold okH at h
 simp only [Bool.and_eq_true,Bool.or_eq_true,decide_eq_true_eq] at h
 obtain ⟨h1,h2,h3,h4,h5,h6,h7⟩:=h
 rw [hc]
 refine ⟨h1,⟨newCore_ok (by decide) (by decide),?_,?_,h3,h4,fun h=>?_⟩,h6,h7⟩
 ·unfold WW;rw [h2];exact U64.zero
 ·simp [newCore,newP]
 ·rcases h5 with h5 |h5
  ·exact absurd h h5
  ·exact h5
theorem next_len (l:Lane):(lenL l=0)=(nextL l 0=3):=by
 obtain ⟨a,b,c⟩:=l
 cases a<;>cases b<;>cases c<;>decide
end Go.Ax.Law
namespace Go.Ax.O
open Go.Ax.Sp Go.Ax.Law
theorem vAwakeO {u:Unit} {k:Unit→Bool × Unit→Prop} (h:oYes u k):V.vAwakeO u k:=by
 have h:k () (true,()):=h
 unfold V.vAwakeO V.LP V.NX V.NM V.SH
 refine ⟨fun hn=>by omega,fun _=>⟨fun x=> ∃n:Nat,n≤4∧x.2.2.2.2=n∧awO n=(x.1,x.2.1,x.2.2.1,x.2.2.2.1),fun x=>(4-x.2.2.2.2).toNat,(newCore 3,lock0,newO ⟨12,0,0,0,0,0,false,0,0⟩ 1,0,0),⟨0,by omega,rfl,rfl⟩,⟨⟨rfl,rfl,rfl,rfl,rfl,trivial⟩,rfl,rfl,rfl,trivial⟩,?_⟩⟩
 rintro ⟨c,s,o,t,i⟩ ⟨n,hn,hi,he⟩
 simp only [] at hi he
 subst hi
 have e1:(awO n).1=c:=by rw [he]
 have e2:(awO n).2.1=s:=by rw [he]
 have e3:(awO n).2.2.1=o:=by rw [he]
 have e4:(awO n).2.2.2=t:=by rw [he]
 refine br_dec (fun hl=>?_) (fun hl=>?_)
 ·have hl:(n:Int)<4:=hl
  obtain ⟨p1,p2,p3,p4⟩:=awO_pre (n:=n) (by omega)
  rw [e3] at p1 p2;rw [e1] at p2;rw [e4] at p3 p4
  have hs:awO (n+1)=((stepH o.H c s).2.2.1,(stepH o.H c s).2.2.2,⟨(stepH o.H c s).2.1,o.req⟩,if (stepH o.H c s).1 then t+1 else t):=by
   rw [awO,e1,e2,e3,e4]
  refine br_dec (fun hh=>absurd hh p1) (fun _=>⟨p2,br_bool (fun hb a ha b hb2=>?_) (fun hb b hb2=>?_)⟩)
  ·replace ha:a=IntKind.i64.wrap (t+1):=ha
   replace hb2:b=IntKind.i64.wrap (n+1):=hb2
   rw [w64 (by omega)] at ha hb2
   subst ha hb2
   exact ⟨((stepH o.H c s).2.2.1,(stepH o.H c s).2.2.2,⟨(stepH o.H c s).2.1,o.req⟩,t+1,n+1),⟨n+1,by omega,rfl,by rw [hs];rw [if_pos hb]⟩,⟨⟨rfl,rfl,rfl,rfl,rfl,trivial⟩,rfl,rfl,rfl,trivial⟩,by simp only [];omega⟩
  ·replace hb2:b=IntKind.i64.wrap (n+1):=hb2
   rw [w64 (by omega)] at hb2
   subst hb2
   have hb:(stepH o.H c s).1=false:=hb
   exact ⟨((stepH o.H c s).2.2.1,(stepH o.H c s).2.2.2,⟨(stepH o.H c s).2.1,o.req⟩,t,n+1),⟨n+1,by omega,rfl,by rw [hs];rw [if_neg (by rw [hb];decide)]⟩,⟨⟨rfl,rfl,rfl,rfl,rfl,trivial⟩,rfl,rfl,rfl,trivial⟩,by simp only [];omega⟩
 ·have hl: ¬ (n:Int)<4:=hl
  obtain rfl:n=4:=by omega
  have f1:(awO 4).2.2.1.H.stage=5:=by kernel_rfl
  have f2:(awO 4).2.2.2=1:=by kernel_rfl
  have f3:(awO 4).2.2.1.H.W.reply.A=3:=by kernel_rfl
  have f4:idleL (awO 4).2.1=true:=by kernel_rfl
  rw [e3] at f1 f3;rw [e4] at f2;rw [e2] at f4
  exact br_dec (fun _=>br_eq (fun _=>br_eq (fun _=>br_bool (fun _=>h) (fun hh=>by rw [show idleL s=false from hh] at f4;cases f4)) (fun hh=>absurd f3 hh)) (fun hh=>absurd f2 hh)) (fun hh=>absurd f1 hh)
theorem vOpNob {r:Req} {k:Unit→Bool × Unit→Prop} (h:oOpNob (r,()) k):V.vOpNob r k:=by
 have h:k () (true,()):=h
 unfold V.vOpNob V.SH
 have e:stageO (some (newH (newW r) 1 (needsR r.Kind)))=if nextL (needsR r.Kind) 0=3 then 1 else 0:=rfl
 rw [e]
 have hl:=next_len (needsR r.Kind)
 refine ⟨⟨br_eq (fun h0=>?_) (fun h0=>?_),trivial⟩,trivial⟩
 ·rw [if_pos (hl▸h0)];exact h
 ·rw [if_neg (fun hh=>h0 (by rw [hl];exact hh))];exact h
end Go.Ax.O
