import Derived.Test.YtbmabiedmdlinaaGreatDoorAxV9
import Derived.Test.YtbmabiedmdlinaaGreatDoorAxO61
set_option linter.all false
namespace Go.Ax.V
open Go.Ax.Sp Go.Ax.Law List Int IntKind
set_option maxRecDepth 100000
def vSimP (n:Int) (d:Int) (l:List Entry) (m:Int) (k:Unit→Bool × Unit→Prop):Prop:=
SH (take (length (someE l)) (drop 0 (someE l))) fun s0=>SH (length (someE l)) fun s1=>SH (k () (false,())) fun s2=>SH (k () (true,())) fun s3=>SH ((n<1∨64<n→s2)∧(1≤n∧n≤64→s2)) fun s4=>length l≤9223372036854775807∧0+s1≤s1∧length s0≤1000000∧(n<1∨64<n∨d<1∨64<d∨1024<length s0→br (decide (n<1)) s3 (br (decide (n>64)) s3 (br (decide (d<1)) s3 (br (decide (d>64)) s3 s4))))∧(1≤n∧n≤64∧1≤d∧d≤64∧length s0≤1024→((any s0 fun e=>!rightE e)=true→br (decide (n<1)) s2 (br (decide (n>64)) s2 (br (decide (d<1)) s2 (br (decide (d>64)) s2 s4))))∧((any s0 fun e=>!rightE e)=false→br (decide (n<1)) s2 (br (decide (n>64)) s2 (br (decide (d<1)) s2 (br (decide (d>64)) s2 ((n<1∨64<n→s2)∧(1≤n∧n≤64→0+s1≤s1∧SmallEs s0∧LP (Int × Sim × Plain28 × Int) (fun x=>0+length (sortE s0)≤length (sortE s0)∧(m=x.1∧0=0∧0=0∧0=x.2.2.2∧True)∧Sim.mk (Sched.mk (newCore n)) d (sortE s0) 0 [] [] [] 0 0=x.2.1∧Plain28.mk (Sched.mk (newCore n)) d (take (length (sortE s0)) (drop 0 (sortE s0))) 0 [] [] 0=x.2.2.1∧True) fun I m x=>SH (stepM x.2.1).2 fun s5=>SH (take (length s5.tentry) (drop 0 s5.tentry)) fun s6=>SH (stepM (toSim x.2.2.1)) fun s7=>SH (length s5.tentry) fun s8=>SH (length s5.S.C.J.jobs) fun s9=>br (decide (x.2.2.2<x.1)) (br (decide (x.2.2.2<100)) ((SimOK (toSim x.2.2.1)∧1≤x.2.2.1.depth∧x.2.2.1.depth≤64)∧(SimOK x.2.1∧1≤x.2.1.depth∧x.2.1.depth≤64)∧br (!(stepM x.2.1).1==s7.1) s2 ((JW s5.S.C.J∧(PW s5.S.C.P∧((0+s8≤s8∧length s6≤68719476736∧0+length s6≤length s6∧0+s9≤s9∧(SimOK (toSim (ofSim x.2.2.1 s7.2))∧take s9 (drop 0 s5.S.C.J.jobs)=s7.2.S.C.J.jobs∧take (length s6) (drop 0 s6)=s7.2.tentry∧s5.lost=s7.2.lost∧nowL s5.S.C.P.steps=nowC s7.2.S.C)∧br (!s7.1) s3 (NM (x.2.2.2+1) fun n=>NX I m x fun y=>0+length s5.load≤length s5.load∧0+length s5.run≤length s5.run∧0+length s5.tjobs≤length s5.tjobs∧0+s8≤s8∧(x.1=y.1∧0=0∧0=0∧n=y.2.2.2∧True)∧Sim.mk s5.S s5.depth (take (length s5.load) (drop 0 s5.load)) s5.pos (take (length s5.run) (drop 0 s5.run)) (take (length s5.tjobs) (drop 0 s5.tjobs)) s6 s5.lost s5.endd=y.2.1∧ofSim x.2.2.1 s7.2=y.2.2.1∧True))∧True)∧True)∧True)∧True)) s3) s3)))))))
end Go.Ax.V
namespace Go.Ax.Law
theorem someE_len (l:List Entry):(someE l).length≤15:=by unfold someE;rw [List.length_take];omega
theorem someE_right {l:List Entry} {e:Entry} (h:e∈someE l):rightE e=true:=by
 have:=(List.mem_filter.1 (List.mem_of_mem_take h)).2
 simp only [Bool.and_eq_true] at this
 exact this.1
end Go.Ax.Law
namespace Go.Ax.O
open Go.Ax.Sp Go.Ax.Law
theorem vSimP {n d:Int} {l:List Entry} {m:Int} {k:Unit→Bool × Unit→Prop} (h:oSimP (n,d,l,m,()) k):V.vSimP n d l m k:=by
 obtain ⟨hl,h⟩:=h
 replace hl:l.length≤9223372036854775807:=hl
 replace h:k () (true,()):=h
 have hsl:=someE_len l
 have hany:(someE l).any (fun e=>!rightE e)=false:=by
  rw [Bool.eq_false_iff]
  intro hh
  obtain ⟨e,he,hr⟩:=List.any_eq_true.1 hh
  rw [someE_right he] at hr;cases hr
 have hrt: ∀e∈someE l,rightE e=true:=fun e he=>someE_right he
 unfold V.vSimP V.LP V.NX V.NM V.SH
 simp only [tklS,Nat.zero_add,Nat.le_refl,true_and,and_true]
 generalize someE l=s0 at hsl hany hrt ⊢
 refine ⟨hl,by omega,fun g=>?_,fun g=>⟨fun ha=>?_,fun _=>?_⟩⟩
 ·exact br_dec (fun _=>h) fun g1=>br_dec (fun _=>h) fun g2=>br_dec (fun _=>h) fun g3=>br_dec (fun _=>h) fun g4=>absurd g (by omega)
 ·rw [hany] at ha;cases ha
 refine br_dec (fun g1=>absurd g (by omega)) fun g1=>br_dec (fun g1=>absurd g (by omega)) fun g2=>br_dec (fun g1=>absurd g (by omega)) fun g3=>br_dec (fun g1=>absurd g (by omega)) fun g4=>⟨fun g1=>absurd g (by omega),fun _=>⟨⟨fun e he=>?_,by omega⟩,?_⟩⟩
 ·have:=right_iff.1 (hrt e he)
  omega
 have hnew:SimOK ⟨⟨newCore n⟩,d,sortE s0,0,[],[],[],0,0⟩:=new_sim ⟨g.1,g.2.1⟩ (by rw [sortE_len];omega) (fun e he=>hrt e (sortE_mem he))
 refine ⟨fun x=>x.1=m∧0≤x.2.2.2∧SimOK x.2.1∧x.2.1.depth=d∧x.2.1=toSim x.2.2.1,fun x=>(100-x.2.2.2).toNat,(m,⟨⟨newCore n⟩,d,sortE s0,0,[],[],[],0,0⟩,⟨⟨newCore n⟩,d,sortE s0,0,[],[],0⟩,0),⟨rfl,Int.le_refl _,hnew,rfl,rfl⟩,by simp,?_⟩
 rintro ⟨m',s,p,i⟩ ⟨e0,p1,hs,hd,ep⟩
 simp only [] at e0 p1 hs hd ep
 subst e0 ep
 have hst:=hs.step
 have hk:=kp_step (toSim p)
 have hto:=to_of hk
 have hdp:p.depth=d:=hd
 refine br_dec (fun hi=>br_dec (fun hj=>?_) (fun _=>h)) (fun _=>h)
 have hi:i<m':=hi
 have hj:i<100:=hj
 have hen:=hst.1.en
 refine ⟨⟨hs,by simp only [];omega,by simp only [];omega⟩,⟨hs,by simp only [];omega,by simp only [];omega⟩,br_not (fun hh=>?_) (fun _=>⟨hst.1.ok.cw.1,hst.1.ok.cw.2.2,?_⟩)⟩
 ·simp at hh
 refine ⟨by simp only [];omega,⟨by simp only [hto];exact hst.1,rfl,rfl,rfl,?_⟩,br_not (fun _=>h) (fun _ q hq=>?_)⟩
 ·rfl
 ·rw [w64 (by simp only [];omega)] at hq
  replace hq:q=i+1:=hq
  subst hq
  refine ⟨(m',(stepM (toSim p)).2,ofSim p (stepM (toSim p)).2,i+1),⟨rfl,by simp only [];omega,hst.1,hst.2.trans hd,hto.symm⟩,?_,by simp only [];omega⟩
  simp
end Go.Ax.O
