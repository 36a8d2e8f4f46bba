import Derived.Test.YtbmabiedmdlinaaGreatDoorAxV9
import Derived.Test.YtbmabiedmdlinaaGreatDoorAxO53
set_option linter.all false
namespace Go.Ax.V
open Go.Ax.Sp Go.Ax.Law List Int IntKind
set_option maxRecDepth 100000
def vFillW (n:Int) (l:List Deed) (d:Int) (k:Unit→Bool × Unit→Prop):Prop:=
SH (k () (false,())) fun s0=>SH (k () (true,())) fun s1=>SH ((1:Int)≤2∧(1:Int)≤3∧(3:Int)≤64∧(1:Int)≤64∧(64:Int)≤64) fun s2=>SH ((2:Int)<1∨(3:Int)<1∨(64:Int)<3∨(64:Int)<1∨(64:Int)<64) fun s3=>(n<1∨64<n→(s3→s1)∧(s2→s1))∧(1≤n∧n≤64→(s3→s1)∧(s2→br (decide (d<0)) s1 (br (decide (d>2)) s1 (br (!(tryL (LockSet.mk (0:Int) (0:Int) (0:Int) (0:Int)) d (9:Int)).1==0) s0 (CT (Int × Core × Fill × LockSet × Int) (fun J=>LP (Int × Core × Fill × LockSet × Int) (fun x=>(d=x.1∧(0:Nat)=0∧(0:Nat)=0∧(0:Nat)=0∧0=x.2.2.2.2∧True)∧Sched.mk (madeS n l)=Sched.mk x.2.1∧fill0 (2:Int) (3:Int) 64=x.2.2.1∧(tryL (LockSet.mk (0:Int) (0:Int) (0:Int) (0:Int)) d (9:Int)).2=x.2.2.2.1∧True) fun I m x=>SH x.2.2.2 fun s4=>SH x.2.2.1 fun s5=>SH (stepF s5 x.2.1 s4.1).2 fun s6=>SH (EN J fun y=>(x.1=y.1∧(0:Nat)=0∧(0:Nat)=0∧(0:Nat)=0∧s4.2=y.2.2.2.2∧True)∧Sched.mk x.2.1=Sched.mk y.2.1∧s5=y.2.2.1∧s4.1=y.2.2.2.1∧True) fun s7=>br (decide (s4.2<3000)) (br (!stageF (some s5)==8) (br (!waitsF s5 s4.1) (PreF s5 x.2.1∧NM (s4.2+1) fun n=>NX I m x fun y=>(x.1=y.1∧(0:Nat)=0∧(0:Nat)=0∧(0:Nat)=0∧n=y.2.2.2.2∧True)∧Sched.mk s6.2.1=Sched.mk y.2.1∧s6.1=y.2.2.1∧s6.2.2=y.2.2.2.1∧True) s7) s7) s7) fun x=>SH (stepF x.2.2.1 x.2.1 x.2.2.2.1) fun s4=>br (stageF (some x.2.2.1)==8) (br (x.1==1) (br (x.2.2.1.taken==0) s1 s0) s0) (PreF x.2.2.1 x.2.1∧br (waitsF s4.2.1 s4.2.2.2) (br (stageF (some s4.2.1)==stageF (some x.2.2.1)) (br (!s4.1.2.1) (br (!s4.1.2.2) (br ((unlockL s4.2.2.2 x.1 (9:Int)).1==0) (br (!waitsF s4.2.1 (unlockL s4.2.2.2 x.1 (9:Int)).2) s1 s0) s0) s0) s0) s0) s0))))))
end Go.Ax.V
namespace Go.Ax.O
open Go.Ax.Sp Go.Ax.Law
theorem vFillW {n:Int} {l:List Deed} {d:Int} {k:Unit→Bool × Unit→Prop} (h:oPassD (n,l,d,()) k):V.vFillW n l d k:=by
 have h:k () (true,()):=h
 unfold V.vFillW V.CT V.EN V.LP V.NX V.NM V.SH
 refine ⟨fun _=>⟨fun _=>h,fun _=>h⟩,fun hn=>⟨fun hh=>absurd hh (by decide),fun _=>br_dec (fun _=>h) fun hd1=>br_dec (fun _=>h) fun hd2=>?_⟩⟩
 have hd:0≤d∧d≤2:=by omega
 obtain ⟨ht,hb⟩:=one_try hd
 rw [show (LockSet.mk 0 0 0 0)=lock0 from rfl]
 refine br_ne (fun hh=>absurd ht hh) (fun _=>?_)
 obtain ⟨nn,m,hs⟩:=(show OkS (madeS n l) from ⟨_,_,madeS_stb hn.1 hn.2 l⟩)
 generalize madeS n l=c0 at hs ⊢
 generalize (tryL lock0 d 9).2=b at hb ⊢
 refine ⟨fun x=>x.1=d∧x.2.1=c0∧(∃rem,PhW b c0 rem x.2.2.1 x.2.2.2.1)∧(x.2.2.1.stage=8∨waitsF x.2.2.1 x.2.2.2.1=true),?_,?_⟩
 ·refine ⟨fun x=>x.1=d∧x.2.1=c0∧0≤x.2.2.2.2∧ ∃rem,PhW b c0 rem x.2.2.1 x.2.2.2.1∧x.2.2.2.2+rem≤1000,fun x=>(3000-x.2.2.2.2).toNat,(d,c0,fill0 2 3 64,b,0),⟨rfl,rfl,Int.le_refl _,1000,.pa (.lj ⟨rfl,rfl,rfl⟩),by simp⟩,by simp,?_⟩
  rintro ⟨d',c,f,s,i⟩ ⟨e0,e1,hi,rem,hp,hr⟩
  simp only [] at e0 e1 hi hp hr
  subst e0 e1
  have hrem:=hp.rem
  refine br_dec (fun h3=>br_ne (fun h8=>br_not (fun hw=>?_) (fun hw=>?_)) (fun h8=>?_)) (fun h3=>absurd (show i<3000 by omega) h3)
  ·have h8:f.stage≠8:=h8
   obtain ⟨g1,g2,r,r1,r2⟩:=PhW.step hs hb hp h8 hw
   refine ⟨g1,fun a ha=>?_⟩
   rw [w64 (by simp only [];omega)] at ha
   replace ha:a=i+1:=ha
   subst ha
   exact ⟨(d',c,(stepF f c s).2.1,(stepF f c s).2.2.2,i+1),⟨rfl,rfl,by simp only [];omega,r,r2,by simp only [];omega⟩,by simp [g2],by simp only [];omega⟩
  ·exact ⟨(d',c,f,s,i),⟨rfl,rfl,⟨rem,hp⟩,.inr hw⟩,by simp⟩
  ·exact ⟨(d',c,f,s,i),⟨rfl,rfl,⟨rem,hp⟩,.inl h8⟩,by simp⟩
 ·rintro ⟨d',c,f,s,i⟩ ⟨e0,e1,⟨rem,hp⟩,hc⟩
  simp only [] at e0 e1 hp hc
  subst e0 e1
  refine br_eq (fun h8=>?_) (fun h8=>?_)
  ·have h8:f.stage=8:=h8
   have hd1:d'=1:=by
    cases hp with
    |pa ha=>have:=ha.stage;omega
    |hd=>simp [fillC] at h8
    |ov _ hb0=>unfold One9 at hb;omega
   exact br_eq (fun _=>br_eq (fun _=>h) (fun hh=>absurd hp.rem.2 hh)) (fun hh=>absurd hd1 hh)
  ·have h8:f.stage≠8:=h8
   have hw:waitsF f s=true:=hc.resolve_left h8
   obtain ⟨g1,g2,g3,g4,_⟩:=PhW.wait hs hb hp hw
   rw [g2]
   refine ⟨g1,br_bool (fun _=>br_eq (fun _=>br_bool (fun _=>br_bool (fun _=>br_eq (fun _=>br_bool (fun _=>h) (fun hh=>?_)) (fun hh=>absurd g3 hh)) (fun hh=>by cases hh)) (fun hh=>by cases hh)) (fun hh=>absurd rfl hh)) (fun hh=>by rw [hw] at hh;cases hh)⟩
   have hh:(!waitsF f (unlockL s d' 9).2)=false:=hh
   rw [g4] at hh;cases hh
end Go.Ax.O
