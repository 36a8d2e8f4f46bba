import Derived.Test.YtnoinchifbckcaaGreatDoorAxD15
import Derived.Test.YtnoinchifbckcaaGreatDoorAxV12
set_option linter.all false
namespace Go.Ax.O
open Go.Ax.Sp Go.Ax.Law
theorem br_nd {p:Prop} [Decidable p] {A B:Prop} (h1: ¬ p→A) (h2:p→B):br (!decide p) A B:=br_not (fun h=>h1 (of_decide_eq_false h)) (fun h=>h2 (of_decide_eq_true h))
theorem plans_one {n:Int} {k:Unit→Bool × Unit→Prop} {I:Deed × Core × List Job × List Job × Int→Prop} {m:Deed × Core × List Job × List Job × Int→Nat} {x:Deed × Core × List Job × List Job × Int} {e e1:Job}
  (hP:PW x.2.1.P) (hl1:x.2.2.1.length≤1024) (hl2:x.2.2.2.1.length≤1024)
  (kp:e.State=1→0≤e.Plan→excused x.1 e x.2.2.1 x.2.2.2.1=false→(e1.State=1∧0≤e1.Plan∧e1.Plan≤e.Plan∧nowL x.2.1.P.steps<e1.Plan)∨(0≤e1.Start∧e1.Start≤e.Plan∧3≤e1.State∧(e1.Start=e.Plan∨x.1.Commit=true)))
  (T:V.vSeqPlans_1 n I m x):V.vSeqPlans_2 n k I m x e e1:=by
 unfold V.vSeqPlans_2
 simp only [tk_eq,Nat.zero_add,Nat.le_refl,true_and,and_true]
 refine br_ne (fun _=>T) (fun h1=>br_dec (fun _=>T) (fun h2=>⟨⟨by omega,by omega⟩,br_bool (fun _=>T) (fun h3=>?_)⟩))
 have kp:=kp h1 (by omega) h3
 clear h3
 have kc:x.1.Commit=false→(e1.State=1∧0≤e1.Plan∧e1.Plan≤e.Plan∧nowL x.2.1.P.steps<e1.Plan)∨(0≤e1.Start∧e1.Start≤e.Plan∧3≤e1.State∧e1.Start=e.Plan):=by
  intro hc
  rw [hc] at kp
  simpa using kp
 repeat' first
  |exact T
  |omega
  |refine ⟨hP,?_⟩
  |refine br_eq (fun _=>?_) (fun _=>?_)
  |refine br_dec (fun _=>?_) (fun _=>?_)
  |refine br_nd (fun _=>?_) (fun _=>?_)
  |(refine br_not (fun hh=>?_) (fun _=>?_);have kc:=kc hh;omega)
theorem plans_loop {n N:Nat} {k:Unit→Bool × Unit→Prop} {nn:Int} {d:Deed} {c2:Core} {m m2:Model} {L:List Job} (hs2:Stb N c2 m2) (hk:k () (true,())) (hL:L=m.L) (hl:L.length≤1024) (hkp:Law.Kept d.Commit d m.L m2.L):
  ∃(I:Deed × Core × List Job × List Job × Int→Prop),∃(m:Deed × Core × List Job × List Job × Int→Nat),∃(x:Deed × Core × List Job × List Job × Int),I x∧((L.length=x.2.2.1.length∧c2.J.jobs.length=x.2.2.2.1.length∧0=x.2.2.2.2)∧V.vSeqPlans_4 d x∧Sched.mk c2=Sched.mk x.2.1∧L=x.2.2.1∧c2.J.jobs=x.2.2.2.1)∧ ∀(x:Deed × Core × List Job × List Job × Int),I x→br (decide (x.2.2.2.2<(x.2.2.1.length:Int))) (V.vSeqPlans_3 nn k I m x) (k () (true,())):=by
 subst hL
 have hj2:m2.L=c2.J.jobs:=hs2.rep.jobs
 have hl2:=hs2.cw.1.2.1
 refine ⟨fun x=>x.1=d∧x.2.1=c2∧x.2.2.1=m.L∧x.2.2.2.1=m2.L∧0≤x.2.2.2.2∧x.2.2.2.2≤m.L.length,fun x=>(m.L.length-x.2.2.2.2).toNat,(d,c2,m.L,m2.L,0),⟨rfl,rfl,rfl,rfl,Int.le_refl _,by simp⟩,⟨⟨rfl,by rw [hj2],rfl⟩,by simp [V.vSeqPlans_4],rfl,rfl,by rw [hj2]⟩,?_⟩
 rintro ⟨d',c',l1,l2,i⟩ ⟨g1,g2,g3,g4,g5,g6⟩
 simp only [] at g1 g2 g3 g4 g5 g6
 subst g1 g2 g3 g4
 refine br_dec (fun hi=>?_) (fun _=>hk)
 have hi:i<(m.L.length:Int):=hi
 obtain ⟨i,rfl⟩:=Int.eq_ofNat_of_zero_le g5
 have hi2:i<m2.L.length:=by have:=hkp.1;omega
 unfold V.vSeqPlans_3
 simp only [Nat.zero_add,and_true,Int.toNat_natCast]
 refine ⟨⟨g5,hi⟩,by omega,fun e he=>⟨⟨g5,by omega⟩,hi2,fun e1 he1=>?_⟩⟩
 have T:V.vSeqPlans_1 nn (fun x=>x.1=d'∧x.2.1=c'∧x.2.2.1=m.L∧x.2.2.2.1=m2.L∧0≤x.2.2.2.2∧x.2.2.2.2≤m.L.length) (fun x=>(m.L.length-x.2.2.2.2).toNat) (d',c',m.L,m2.L,(i:Int)):=by
  intro q hq
  have hq:q=IntKind.i64.wrap ((i:Int)+1):=hq
  rw [w64 (by omega)] at hq
  subst hq
  exact ⟨(d',c',m.L,m2.L,(i:Int)+1),⟨rfl,rfl,rfl,rfl,by simp only [];omega,by simp only [];omega⟩,by simp,by simp only [];omega⟩
 have one:=plans_one (k:=k) (e:=e) (e1:=e1) hs2.cw.2.2 hl (by rw [hj2];exact hl2) (fun h1 h2 h3=>by
  rcases hkp.2 i e e1 he he1 h1 h2 h3 with ⟨a1,a2,a3⟩ |a
  ·have hf:=hs2.fp e1 (by rw [←hj2];exact List.mem_of_getElem? he1) (by unfold plannedJ;simp [a1,a2])
   exact .inl ⟨a1,a2,a3,hf⟩
  ·exact .inr a) T
 exact ⟨one,one⟩
theorem vSeqPlans {n:Int} {l:List Deed} {d:Deed} {k:Unit→Bool × Unit→Prop} (h:oSeqD (n,l,d,()) k):V.vSeqPlans n l d k:=by
 have hk:k () (true,()):=h
 unfold V.vSeqPlans
 simp only [true_and,and_true]
 refine ⟨fun _=>hk,fun hn=>?_⟩
 have hs:=madeS_stb hn.1 hn.2 l
 generalize madeS n l=c at*
 generalize madeSM n l=m at*
 have hj:m.L=c.J.jobs:=hs.rep.jobs
 have hl:=hs.cw.1.2.1
 have hkp:=deed_kept hs d
 have hok:OkS c:=⟨_,_,hs⟩
 refine ⟨hs.cw.1,br_bool (fun hb=>?_) (fun hb=>?_)⟩
 ·have hx:=(comS_stb hs d.X).2
  have hd:deedSM m d=(commitM m d.X).2:=by unfold deedSM;rw [if_pos hb]
  rw [hd] at hkp
  have hx:Stb n.toNat (wholeW (newX d.X) c).2.2 (commitM m d.X).2:=hx
  refine ⟨hok,hx.cw.1,br_dec (fun hh=>?_) (fun _=>plans_loop (n:=0) hx hk hj.symm hl hkp)⟩
  have:=hkp.1
  rw [hj,hx.rep.jobs] at this
  omega
 ·have hx:=(doS_stb hs d.R).2
  have hd:deedSM m d=(doSM m d.R).2:=by unfold deedSM;rw [if_neg (by rw [hb];decide)]
  rw [hd] at hkp
  refine ⟨hok,hx.cw.1,br_dec (fun hh=>?_) (fun _=>plans_loop (n:=0) hx hk hj.symm hl hkp)⟩
  have:=hkp.1
  rw [hj,hx.rep.jobs] at this
  omega
end Go.Ax.O
