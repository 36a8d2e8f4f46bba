import Derived.Test.YtidfnpddheobdaaGreatDoorAxV9
import Derived.Test.YtidfnpddheobdaaGreatDoorAxO45
set_option linter.all false
namespace Go.Ax.V
open Go.Ax.Sp Go.Ax.Law List Int IntKind
set_option maxRecDepth 100000
def vPassO (n:Int) (l:List Deed) (d:Int) (k:Unit→Bool × Unit→Prop):Prop:=
SH (madeS n l) fun s0=>SH (k () (false,())) fun s1=>(n<1∨64<n→k () (true,()))∧(1≤n∧n≤64→CW s0∧OkS s0∧LP (Int × Core × List Ax.Item × List Choice × Int × Int × Int) (fun x=>(d=x.1∧0=0∧(0=0∧length (map itemJ (waitC s0))=length x.2.2.1)∧(0=0∧length (openC s0)=length x.2.2.2.1)∧(-1)=x.2.2.2.2.1∧0=x.2.2.2.2.2.1∧0=x.2.2.2.2.2.2∧True)∧Sched.mk s0=Sched.mk x.2.1∧map itemJ (waitC s0)=x.2.2.1∧openC s0=x.2.2.2.1∧True) fun I m x=>SH x.2.2.2 fun s2=>SH x.2.2.1 fun s3=>SH s2.2.2.2 fun s4=>SH x.2.1.P fun s5=>SH s2.2.2.1 fun s6=>SH (length s2.1) fun s7=>SH (Sched.mk x.2.1) fun s8=>SH (length s3) fun s9=>br (decide (s4<LN s3)) (AT s3 s4 fun e=>SH (planA s5 1 [e]) fun s10=>SH (AT s10.1 0 fun e_5=>NM (s6+1) fun n=>NM (s4+1) fun n_1=>NX I m x fun y=>(x.1=y.1∧0=0∧(0=0∧s9=length y.2.2.1)∧(0=0∧s7=length y.2.2.2.1)∧e_5.At=y.2.2.2.2.1∧n=y.2.2.2.2.2.1∧n_1=y.2.2.2.2.2.2∧True)∧s8=Sched.mk y.2.1∧s3=y.2.2.1∧s2.1=y.2.2.2.1∧True) fun s11=>((1≤1∧(PW s5∧length s5.steps≤4294950000∧0≤nowL s5.steps∧1≤68719476736)∧br (!s10.2==0) s1 (br (decide (LN s10.1>1)) s1 (AT s3 s4 fun e_1=>br (e_1.Id==x.1) (AT s3 s4 fun e_2=>br (LN s10.1==0) (NM (s4+1) fun n=>NX I m x fun y=>(x.1=y.1∧0=0∧(0=0∧s9=length y.2.2.1)∧(0=0∧s7=length y.2.2.2.1)∧e_2.Plan=y.2.2.2.2.1∧s6=y.2.2.2.2.2.1∧n=y.2.2.2.2.2.2∧True)∧s8=Sched.mk y.2.1∧s3=y.2.2.1∧s2.1=y.2.2.2.1∧True) (br (decide (s6≥LN s2.1)) s1 (AT s2.1 s6 fun e_3=>AT s10.1 0 fun e_4=>br (!(e_3.Id==e_4.Id&&(e_3.At==e_4.At&&true))) s1 (AT s3 s4 fun e_5=>br (e_5.Id==x.1) s11 (NM (s6+1) fun n=>NM (s4+1) fun n_1=>NX I m x fun y=>(x.1=y.1∧0=0∧(0=0∧s9=length y.2.2.1)∧(0=0∧s7=length y.2.2.2.1)∧e_2.Plan=y.2.2.2.2.1∧n=y.2.2.2.2.2.1∧n_1=y.2.2.2.2.2.2∧True)∧s8=Sched.mk y.2.1∧s3=y.2.2.1∧s2.1=y.2.2.2.1∧True))))) (br (LN s10.1==0) (NM (s4+1) fun n=>NX I m x fun y=>(x.1=y.1∧0=0∧(0=0∧s9=length y.2.2.1)∧(0=0∧s7=length y.2.2.2.1)∧s2.2.1=y.2.2.2.2.1∧s6=y.2.2.2.2.2.1∧n=y.2.2.2.2.2.2∧True)∧s8=Sched.mk y.2.1∧s3=y.2.2.1∧s2.1=y.2.2.2.1∧True) (br (decide (s6≥LN s2.1)) s1 (AT s2.1 s6 fun e_2=>AT s10.1 0 fun e_3=>br (!(e_2.Id==e_3.Id&&(e_2.At==e_3.At&&true))) s1 (AT s3 s4 fun e_4=>br (e_4.Id==x.1) s11 (NM (s6+1) fun n=>NM (s4+1) fun n_1=>NX I m x fun y=>(x.1=y.1∧0=0∧(0=0∧s9=length y.2.2.1)∧(0=0∧s7=length y.2.2.2.1)∧s2.2.1=y.2.2.2.2.1∧n=y.2.2.2.2.2.1∧n_1=y.2.2.2.2.2.2∧True)∧s8=Sched.mk y.2.1∧s3=y.2.2.1∧s2.1=y.2.2.2.1∧True))))))))∧True)∧True) (br (s6==LN s2.1) (OkS x.2.1∧br (firstC x.2.1 x.1==s2.2.1) (k () (true,())) s1) s1))
end Go.Ax.V
namespace Go.Ax.Law
def stO (c:Core) (d:Int) (r:Int) (x:Go.Ax.Item):Int:=if x.Id=d then (match (planA c.P 1 [x]).1 with | []=>x.Plan |y::_=>y.At) else r
def OneJ (c:Core) (j:Job):Prop:=(planA c.P 1 [itemJ j]).1=[]∨ ∃t,(planA c.P 1 [itemJ j]).1=[⟨j.Id,t⟩]
theorem first_none {c:Core} {d:Int}: ∀(l:List Job) (r:Int),(∀j∈l,OneJ c j)→(∀j∈l,j.Id≠d)→
  (l.map itemJ).foldl (stO c d) r=r∧((l.map itemJ).flatMap fun x=>(planA c.P 1 [x]).1).find? (fun x=>decide (x.Id=d))=none
 | [],r,_,_=>⟨rfl,rfl⟩
 |j::l,r,h,hd=>by
  have hj:=hd j (by simp)
  obtain ⟨i1,i2⟩:=first_none l r (fun q hq=>h q (by simp [hq])) (fun q hq=>hd q (by simp [hq]))
  have hst:stO c d r (itemJ j)=r:=by unfold stO;rw [if_neg (by exact hj)]
  refine ⟨by simp only [List.map_cons,List.foldl_cons,hst];exact i1,?_⟩
  simp only [List.map_cons,List.flatMap_cons,List.find?_append,i2,Option.or_none]
  rcases h j (by simp) with e |⟨t,e⟩<;>rw [e]<;>simp [hj]
theorem first_some {c:Core} {d:Int}: ∀(l:List Job) (r:Int) (j:Job),(∀j∈l,OneJ c j)→l.Pairwise (fun a b=>a.Id≠b.Id)→j∈l→j.Id=d→
  (l.map itemJ).foldl (stO c d) r=match ((l.map itemJ).flatMap fun x=>(planA c.P 1 [x]).1).find? (fun x=>decide (x.Id=d)) with |some x=>x.At |none=>j.Plan
 | [],r,j,_,_,hj,_=>by cases hj
 |a::l,r,j,h,hp,hj,hd=>by
  have hp2:=List.pairwise_cons.1 hp
  by_cases ha:a.Id=d
  ·have hja:j=a:=by
    rcases List.mem_cons.1 hj with e |e
    ·exact e
    ·exact absurd (ha.trans hd.symm) (hp2.1 j e)
   subst hja
   have hne: ∀q∈l,q.Id≠d:=fun q hq hh=>hp2.1 q hq (hd.trans hh.symm)
   obtain ⟨i1,i2⟩:=first_none l (stO c d r (itemJ j)) (fun q hq=>h q (by simp [hq])) hne
   simp only [List.map_cons,List.foldl_cons,List.flatMap_cons,List.find?_append,i2,Option.or_none]
   rw [i1]
   unfold stO
   rw [if_pos (by exact hd)]
   rcases h j (by simp) with e |⟨t,e⟩<;>rw [e]<;>simp [hd,itemJ]
  ·have hjl:j∈l:=by
    rcases List.mem_cons.1 hj with e |e
    ·subst e;exact absurd hd ha
    ·exact e
   have hst:stO c d r (itemJ a)=r:=by unfold stO;rw [if_neg (by exact ha)]
   have ih:=first_some l r j (fun q hq=>h q (by simp [hq])) hp2.2 hjl hd
   simp only [List.map_cons,List.foldl_cons,List.flatMap_cons,List.find?_append,hst]
   rw [ih]
   rcases h a (by simp) with e |⟨t,e⟩<;>rw [e]<;>simp [ha]
theorem one_J {c:Core} (h:OkS c) {j:Job} (hj:j∈waitC c):OneJ c j:=by
 obtain ⟨n,m,h⟩:=h
 unfold OneJ
 rw [plan_one h.rep.deep hj]
 exact one_le h hj
theorem first_fold {c:Core} (h:OkS c) (d:Int):firstC c d=(itemsC c).foldl (stO c d) (-1):=by
 have hcw:=h.cw
 unfold firstC openC itemsC
 by_cases hg:(getJ c.J.jobs d).2≠0∨(getJ c.J.jobs d).1.State≠1
 ·rw [if_pos hg]
  refine (first_none (waitC c) (-1) (fun j hj=>one_J h hj) (fun j hj hd=>?_)).1.symm
  obtain ⟨h1,h2⟩:=wait_mem hj
  obtain ⟨i,hi⟩:=List.getElem?_of_mem h1
  have:=getJ_job hcw hi
  rw [hd] at this
  rw [this] at hg
  rcases hg with g |g
  ·exact g rfl
  ·exact g h2
 ·rw [if_neg hg]
  have hg1:(getJ c.J.jobs d).2=0:=by
   by_cases hh:(getJ c.J.jobs d).2=0
   ·exact hh
   ·exact absurd (.inl hh) hg
  have hg2:(getJ c.J.jobs d).1.State=1:=by
   by_cases hh:(getJ c.J.jobs d).1.State=1
   ·exact hh
   ·exact absurd (.inr hh) hg
  obtain ⟨i,j,hi,hid,hj⟩: ∃(i:Nat) (j:Job),c.J.jobs[i]? =some j∧j.Id=d∧(getJ c.J.jobs d).1=j:=by
   rcases getJ_cases c.J.jobs d with ⟨_,e⟩ |⟨i,j,e1,e2,e3⟩
   ·rw [e] at hg1;cases hg1
   ·exact ⟨i,j,e2,by rw [id_at hcw e2,e1],by rw [e3]⟩
  rw [hj] at hg2 ⊢
  have hw:j∈waitC c:=by
   refine (sort_perm _).mem_iff.2 ?_
   unfold inJ
   rw [List.mem_filter]
   exact ⟨List.mem_of_getElem? hi,by simp [hg2]⟩
  exact (first_some (waitC c) (-1) j (fun j hj=>one_J h hj) (wait_nodup hcw) hw hid).symm
end Go.Ax.Law
namespace Go.Ax.O
open Go.Ax.Sp Go.Ax.Law
theorem vPassO {n:Int} {l:List Deed} {d:Int} {k:Unit→Bool × Unit→Prop} (h:oPassD (n,l,d,()) k):V.vPassO n l d k:=by
 have h:k () (true,()):=h
 unfold V.vPassO V.LP V.NX V.AT V.NM V.SH V.LN
 refine ⟨fun _=>h,fun hn=>?_⟩
 have hs:=madeS_ok hn.1 hn.2 l
 generalize madeS n l=c at hs ⊢
 have hff:=first_fold hs d
 have h64:=items_len hs
 have hl3:=hs.len
 have hone: ∀(i:Nat) (e:Go.Ax.Item),(itemsC c)[i]? =some e→((planA c.P 1 [e]).2=0∧((planA c.P 1 [e]).1=[]∨ ∃t,(planA c.P 1 [e]).1=[⟨e.Id,t⟩])):=fun i e he=>by
  refine ⟨(one_len hs he).2,?_⟩
  obtain ⟨j,hj,rfl⟩:=item_of he
  exact one_J hs (List.mem_of_getElem? hj)
 have hlen: ∀l:List Go.Ax.Item,(∀e∈l,(planA c.P 1 [e]).1.length≤1)→(l.flatMap fun x=>(planA c.P 1 [x]).1).length≤l.length:=by
  intro l;induction l with
  |nil=>intro _;simp
  |cons a r ih=>intro hl;have:=ih (fun e he=>hl e (by simp [he]));have:=hl a (by simp);simp only [List.flatMap_cons,List.length_append,List.length_cons];omega
 have hop:openC c=(itemsC c).flatMap fun x=>(planA c.P 1 [x]).1:=rfl
 refine ⟨hs.cw,hs,fun x=>x.1=d∧x.2.1=c∧x.2.2.1=itemsC c∧x.2.2.2.1=openC c∧0≤x.2.2.2.2.2.2∧x.2.2.2.2.2.2≤(itemsC c).length∧x.2.2.2.2.1=((itemsC c).take x.2.2.2.2.2.2.toNat).foldl (stO c d) (-1)∧x.2.2.2.2.2.1=((((itemsC c).take x.2.2.2.2.2.2.toNat).flatMap fun x=>(planA c.P 1 [x]).1).length:Int),
  fun x=>((itemsC c).length-x.2.2.2.2.2.2).toNat,(d,c,itemsC c,openC c,-1,0,0),⟨rfl,rfl,rfl,rfl,by simp,by simp only [];omega,by simp,by simp⟩,⟨⟨rfl,rfl,⟨rfl,rfl⟩,⟨rfl,rfl⟩,rfl,rfl,rfl,trivial⟩,rfl,rfl,rfl,trivial⟩,?_⟩
 rintro ⟨d',c',it,op,fi,q,i⟩ ⟨e0,e1,e2,e3,g1,g2,e4,e5⟩
 simp only [] at e0 e1 e2 e3 g1 g2 e4 e5
 subst e0 e1 e2 e3
 refine br_dec (fun hl=>?_) (fun hl=>?_)
 ·have hl:i<((itemsC c').length:Int):=hl
  refine ⟨⟨g1,hl⟩,by simp only [];omega,fun e he=>?_⟩
  have he:(itemsC c')[i.toNat]? =some e:=by rw [←he];simp
  obtain ⟨o1,o2⟩:=hone _ e he
  have htk:(itemsC c').take (i.toNat+1)=(itemsC c').take i.toNat++[e]:=by rw [List.take_add_one,he];simp
  have hcut:itemsC c'=(itemsC c').take i.toNat++e::(itemsC c').drop (i.toNat+1):=by
   conv=>lhs;rw [←List.take_append_drop i.toNat (itemsC c')]
   rw [List.drop_eq_getElem_cons (by omega)]
   rw [List.getElem?_eq_getElem (by omega)] at he
   simp at he;rw [he]
  have hq64:q≤64:=by
   have:=hlen ((itemsC c').take i.toNat) (fun a ha=>by
    obtain ⟨p,hp⟩:=List.getElem?_of_mem (List.mem_of_mem_take ha)
    exact (one_len hs hp).1)
   rw [List.length_take] at this;omega
  have same: ∀{P:Go.Ax.Item→Prop},P e→((0≤i∧i<((itemsC c').length:Int))∧0+i.toNat<(itemsC c').length∧ ∀e',(itemsC c')[0+i.toNat]? =some e'→P e'):=fun {P} hP=>
   ⟨⟨g1,hl⟩,by omega,fun e' he'=>by rw [Nat.zero_add,he] at he';cases he';exact hP⟩
  have nx: ∀fi' q' i',fi'=stO c' d' fi e→q'=q+((planA c'.P 1 [e]).1.length:Int)→i'=i+1→ ∃y:Int × Core × List Go.Ax.Item × List Choice × Int × Int × Int,
    (y.1=d'∧y.2.1=c'∧y.2.2.1=itemsC c'∧y.2.2.2.1=openC c'∧0≤y.2.2.2.2.2.2∧y.2.2.2.2.2.2≤(itemsC c').length∧y.2.2.2.2.1=((itemsC c').take y.2.2.2.2.2.2.toNat).foldl (stO c' d') (-1)∧y.2.2.2.2.2.1=((((itemsC c').take y.2.2.2.2.2.2.toNat).flatMap fun x=>(planA c'.P 1 [x]).1).length:Int))∧
    y=(d',c',itemsC c',openC c',fi',q',i')∧((itemsC c').length-y.2.2.2.2.2.2).toNat<((itemsC c').length-i).toNat:=fun fi' q' i' h1 h2 h3=>by
   subst h1 h2 h3
   refine ⟨_,⟨rfl,rfl,rfl,rfl,by simp only [];omega,by simp only [];omega,?_,?_⟩,rfl,by simp only [];omega⟩
   ·simp only [];rw [show (i+1).toNat=i.toNat+1 by omega,htk,e4];simp [List.foldl_append]
   ·simp only [];rw [show (i+1).toNat=i.toNat+1 by omega,htk,e5];simp
  refine ⟨⟨⟨Nat.le_refl _,⟨hs.cw.2.2,by simp only [];omega,hs.now.1,by omega⟩,br_ne (fun hh=>absurd o1 hh) (fun _=>br_dec (fun hh=>?_) (fun _=>same ?_))⟩,trivial⟩,trivial⟩
  ·exfalso;have:=(one_len hs he).1;simp only [] at hh;omega
  rcases o2 with o2 |⟨t,o2⟩
  ·
   have hz:((planA c'.P 1 [e]).1.length:Int)=0:=by rw [o2];rfl
   refine br_eq (fun hi=>same (br_eq (fun _ p hp=>?_) (fun hh=>absurd hz hh))) (fun hi=>br_eq (fun _ p hp=>?_) (fun hh=>absurd hz hh))
   ·rw [w64 (by simp only [];omega)] at hp
    obtain ⟨y,hy,he',hm⟩:=nx e.Plan q (i+1) (by unfold stO;rw [if_pos (by exact hi),o2]) (by omega) rfl
    replace hp:p=i+1:=hp
    exact ⟨y,hy,by rw [he',hp];simp,hm⟩
   ·rw [w64 (by simp only [];omega)] at hp
    obtain ⟨y,hy,he',hm⟩:=nx fi q (i+1) (by unfold stO;rw [if_neg (by exact hi)]) (by omega) rfl
    replace hp:p=i+1:=hp
    exact ⟨y,hy,by rw [he',hp];simp,hm⟩
  ·have hz:((planA c'.P 1 [e]).1.length:Int)=1:=by rw [o2];rfl
   have hqn:q.toNat=(((itemsC c').take i.toNat).flatMap fun x=>(planA c'.P 1 [x]).1).length:=by omega
   have hopq:openC c'=(((itemsC c').take i.toNat).flatMap fun x=>(planA c'.P 1 [x]).1)++⟨e.Id,t⟩::(((itemsC c').drop (i.toNat+1)).flatMap fun x=>(planA c'.P 1 [x]).1):=by
    rw [hop];conv=>lhs;rw [hcut]
    rw [List.flatMap_append,List.flatMap_cons,o2];rfl
   have hoq:(openC c')[q.toNat]? =some ⟨e.Id,t⟩:=by
    rw [hopq,hqn,List.getElem?_append_right (Nat.le_refl _)];simp
   have hlq:q.toNat<(openC c').length:=(List.getElem?_eq_some_iff.1 hoq).1
   have atq: ∀{P:Choice→Prop},P ⟨e.Id,t⟩→((0≤q∧q<((openC c').length:Int))∧0+q.toNat<(openC c').length∧ ∀e',(openC c')[0+q.toNat]? =some e'→P e'):=fun {P} hP=>
    ⟨⟨by omega,by omega⟩,by omega,fun e' he'=>by rw [Nat.zero_add,hoq] at he';cases he';exact hP⟩
   have at0: ∀{P:Choice→Prop},P ⟨e.Id,t⟩→(((0:Int)≤0∧(0:Int)<((planA c'.P 1 [e]).1.length:Int))∧0+(0:Int).toNat<(planA c'.P 1 [e]).1.length∧ ∀e',(planA c'.P 1 [e]).1[0+(0:Int).toNat]? =some e'→P e'):=fun {P} hP=>
    ⟨⟨by omega,by omega⟩,by omega,fun e' he'=>by rw [o2] at he';simp at he';subst he';exact hP⟩
   refine br_eq (fun hi=>same (br_eq (fun hh=>by simp only [] at hh;omega) (fun _=>br_dec (fun hh=>by simp only [] at hh;omega) (fun _=>atq (at0 (br_not (fun hh=>?_) (fun _=>same (br_eq (fun _=>at0 (fun p hp p2 hp2=>?_)) (fun hh=>absurd hi hh))))))))) (fun hi=>br_eq (fun hh=>by simp only [] at hh;omega) (fun _=>br_dec (fun hh=>by simp only [] at hh;omega) (fun _=>atq (at0 (br_not (fun hh=>?_) (fun _=>same (br_eq (fun hh=>absurd hh hi) (fun _ p hp p2 hp2=>?_))))))))
   ·simp at hh
   ·rw [w64 (by simp only [];omega)] at hp hp2
    replace hp:p=q+1:=hp
    replace hp2:p2=i+1:=hp2
    obtain ⟨y,hy,he',hm⟩:=nx t (q+1) (i+1) (by unfold stO;rw [if_pos (by exact hi),o2]) (by omega) rfl
    exact ⟨y,hy,by rw [he',hp,hp2];simp,hm⟩
   ·simp at hh
   ·rw [w64 (by simp only [];omega)] at hp hp2
    replace hp:p=q+1:=hp
    replace hp2:p2=i+1:=hp2
    obtain ⟨y,hy,he',hm⟩:=nx fi (q+1) (i+1) (by unfold stO;rw [if_neg (by exact hi)]) (by omega) rfl
    exact ⟨y,hy,by rw [he',hp,hp2];simp,hm⟩
 ·have hl: ¬ i<((itemsC c').length:Int):=hl
  rw [List.take_of_length_le (by omega)] at e4 e5
  rw [←hff] at e4
  rw [←hop] at e5
  exact br_eq (fun _=>⟨hs,br_eq (fun _=>h) (fun hh=>absurd e4.symm hh)⟩) (fun hh=>absurd e5 hh)
end Go.Ax.O
