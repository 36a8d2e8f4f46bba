import Derived.Test.YtidfnpddheobdaaGreatDoorAxV9
import Derived.Test.YtidfnpddheobdaaGreatDoorAxO49
set_option linter.all false
namespace Go.Ax.V
open Go.Ax.Sp Go.Ax.Law List Int IntKind
set_option maxRecDepth 100000
def vForeSt (n:Int) (l:List Deed) (k:Unit→Bool × Unit→Prop):Prop:=
SH (madeS n l) fun s0=>SH (k () (false,())) fun s1=>(n<1∨64<n→k () (true,()))∧(1≤n∧n≤64→JW s0.J∧PW s0.P∧OkS s0∧OkS s0∧br (!LN (foreC s0)==LN (foreC s0)) s1 (PW s0.P∧LP (Core × List Job × List Step × List Told37 × List Told37 × Int × Int) (fun x=>(0=0∧(0=0∧length s0.J.jobs=length x.2.1)∧(0=0∧length s0.P.steps=length x.2.2.1)∧(0=0∧length (foreC s0)=length x.2.2.2.1)∧(0=0∧length (foreC s0)=length x.2.2.2.2.1)∧nowL s0.P.steps=x.2.2.2.2.2.1∧0=x.2.2.2.2.2.2∧True)∧Sched.mk s0=Sched.mk x.1∧s0.J.jobs=x.2.1∧s0.P.steps=x.2.2.1∧foreC s0=x.2.2.2.1∧foreC s0=x.2.2.2.2.1∧True) fun I m x=>SH x.2.2.2 fun s2=>SH s2.2.2.2 fun s3=>br (decide (s3<LN s2.1)) (AT s2.1 s3 fun e=>AT s2.2.1 s3 fun e_1=>br (!(e.Id==e_1.Id&&(e.Start==e_1.Start&&(e.End==e_1.End&&true)))) (s1∧True) (AT s2.1 s3 fun e=>(PW x.1.P∧br (decide (e.Start<nowL x.1.P.steps)) s1 (AT s2.1 s3 fun e=>br (decide (e.End>s2.2.2.1)) (AT s2.1 s3 fun e=>NM (s3+1) fun n=>NX I m x fun y=>(0=0∧(0=0∧length x.2.1=length y.2.1)∧(0=0∧length x.2.2.1=length y.2.2.1)∧(0=0∧length s2.1=length y.2.2.2.1)∧(0=0∧length s2.2.1=length y.2.2.2.2.1)∧e.End=y.2.2.2.2.2.1∧n=y.2.2.2.2.2.2∧True)∧Sched.mk x.1=Sched.mk y.1∧x.2.1=y.2.1∧x.2.2.1=y.2.2.1∧s2.1=y.2.2.2.1∧s2.2.1=y.2.2.2.2.1∧True) (NM (s3+1) fun n=>NX I m x fun y=>(0=0∧(0=0∧length x.2.1=length y.2.1)∧(0=0∧length x.2.2.1=length y.2.2.1)∧(0=0∧length s2.1=length y.2.2.2.1)∧(0=0∧length s2.2.1=length y.2.2.2.2.1)∧s2.2.2.1=y.2.2.2.2.2.1∧n=y.2.2.2.2.2.2∧True)∧Sched.mk x.1=Sched.mk y.1∧x.2.1=y.2.1∧x.2.2.1=y.2.2.1∧s2.1=y.2.2.2.1∧s2.2.1=y.2.2.2.2.1∧True)))∧True)) (1≤1∧(JW x.1.J∧1≤1000)∧LP (Core × List Job × List Step × List Told37 × Int × List Job × Int) (fun x_1=>(0=0∧(0=0∧length x.2.1=length x_1.2.1)∧(0=0∧length x.2.2.1=length x_1.2.2.1)∧(0=0∧length s2.1=length x_1.2.2.2.1)∧s2.2.2.1=x_1.2.2.2.2.1∧(0=0∧length (inJ x.1.J.jobs [3])=length x_1.2.2.2.2.2.1)∧0=x_1.2.2.2.2.2.2∧True)∧Sched.mk x.1=Sched.mk x_1.1∧x.2.1=x_1.2.1∧x.2.2.1=x_1.2.2.1∧s2.1=x_1.2.2.2.1∧inJ x.1.J.jobs [3]=x_1.2.2.2.2.2.1∧True) fun I m x=>SH x.2.2.2 fun s4=>SH (length x.1.P.steps) fun s5=>SH x.1.J.jobs fun s6=>SH (length x.2.2.1) fun s7=>SH (length x.2.1) fun s8=>SH (take s5 (drop 0 x.1.P.steps)) fun s9=>SH (take (length s6) (drop 0 s6)) fun s10=>SH s4.2.2.1 fun s11=>SH (sameS s9 (take s7 (drop 0 x.2.2.1))) fun s12=>SH (JW x.1.J∧0+s8≤s8∧0+length s6≤length s6∧length s10≤1099511627776∧br (sameJ s10 (take s8 (drop 0 x.2.1))) (PW x.1.P∧0+s7≤s7∧0+s5≤s5∧length s9≤1099511627776∧br s12 (k () (true,())) s1) s1) fun s13=>br (decide (s4.2.2.2<LN s11)) (AT s11 s4.2.2.2 fun e=>br (decide (e.End>s4.2.1)) (AT s11 s4.2.2.2 fun e=>NM (s4.2.2.2+1) fun n=>NX I m x fun y=>(0=0∧(0=0∧s8=length y.2.1)∧(0=0∧s7=length y.2.2.1)∧(0=0∧length s4.1=length y.2.2.2.1)∧e.End=y.2.2.2.2.1∧(0=0∧length s11=length y.2.2.2.2.2.1)∧n=y.2.2.2.2.2.2∧True)∧Sched.mk x.1=Sched.mk y.1∧x.2.1=y.2.1∧x.2.2.1=y.2.2.1∧s4.1=y.2.2.2.1∧s11=y.2.2.2.2.2.1∧True) (NM (s4.2.2.2+1) fun n=>NX I m x fun y=>(0=0∧(0=0∧s8=length y.2.1)∧(0=0∧s7=length y.2.2.1)∧(0=0∧length s4.1=length y.2.2.2.1)∧s4.2.1=y.2.2.2.2.1∧(0=0∧length s11=length y.2.2.2.2.2.1)∧n=y.2.2.2.2.2.2∧True)∧Sched.mk x.1=Sched.mk y.1∧x.2.1=y.2.1∧x.2.2.1=y.2.2.1∧s4.1=y.2.2.2.1∧s11=y.2.2.2.2.2.1∧True)) (JW x.1.J∧br (decide (LN s4.1<LN (sortJ (inJ s6 [1])))) (OkS x.1∧br (emptyC x.1==(-1)) s13 s1) (OkS x.1∧br (emptyC x.1==s4.2.1) s13 s1)))))
end Go.Ax.V
namespace Go.Ax.O
open Go.Ax.Sp Go.Ax.Law
theorem vForeSt {n:Int} {l:List Deed} {k:Unit→Bool × Unit→Prop} (h:oForeD (n,l,()) k):V.vForeSt n l k:=by
 have h:k () (true,()):=h
 unfold V.vForeSt V.LP V.NX V.AT V.NM V.SH V.LN
 refine ⟨fun _=>h,fun hn=>?_⟩
 have hs:=madeS_ok hn.1 hn.2 l
 generalize madeS n l=c at hs ⊢
 have h64:=fore_len hs
 have hst:=fore_start hs
 have hjl:=hs.cw.1.2.1
 have hul:=hs.len
 have hem:emptyC c=if (foreC c).length<(waitC c).length then-1 else (inJ c.J.jobs [3]).foldl (fun t j=>max t j.End) ((foreC c).foldl (fun t x=>max t x.End) (nowC c)):=rfl
 have hss: ∀(l:List Job),sameJ (List.take l.length (List.drop 0 l)) (List.take l.length (List.drop 0 l))=true:=fun l=>sameJ_iff.2 rfl
 have hsst: ∀(l:List Step),sameS (List.take l.length (List.drop 0 l)) (List.take l.length (List.drop 0 l))=true:=fun l=>sameS_iff.2 rfl
 refine ⟨hs.cw.1,hs.cw.2.2,hs,hs,br_ne (fun hh=>absurd rfl hh) (fun _=>⟨hs.cw.2.2,?_⟩)⟩
 refine ⟨fun x=>x.1=c∧x.2.1=c.J.jobs∧x.2.2.1=c.P.steps∧x.2.2.2.1=foreC c∧x.2.2.2.2.1=foreC c∧0≤x.2.2.2.2.2.2∧x.2.2.2.2.2.2≤(foreC c).length∧x.2.2.2.2.2.1=((foreC c).take x.2.2.2.2.2.2.toNat).foldl (fun t x=>max t x.End) (nowC c),fun x=>((foreC c).length-x.2.2.2.2.2.2).toNat,
  (c,c.J.jobs,c.P.steps,foreC c,foreC c,nowC c,0),⟨rfl,rfl,rfl,rfl,rfl,by simp,by simp only [];omega,by simp⟩,⟨⟨rfl,⟨rfl,rfl⟩,⟨rfl,rfl⟩,⟨rfl,rfl⟩,⟨rfl,rfl⟩,rfl,rfl,trivial⟩,rfl,rfl,rfl,rfl,rfl,trivial⟩,?_⟩
 rintro ⟨c',js,ss,f1,f2,t,i⟩ ⟨e0,e1,e2,e3,e4,g1,g2,e5⟩
 simp only [] at e0 e1 e2 e3 e4 g1 g2 e5
 subst e0 e1 e2 e3 e4
 refine br_dec (fun hi=>?_) (fun hi=>?_)
 ·have hi:i<((foreC c').length:Int):=hi
  obtain ⟨e,he⟩: ∃e,(foreC c')[i.toNat]? =some e:=⟨_,List.getElem?_eq_getElem (by omega)⟩
  have same: ∀{P:Told37→Prop},P e→((0≤i∧i<((foreC c').length:Int))∧0+i.toNat<(foreC c').length∧ ∀e',(foreC c')[0+i.toNat]? =some e'→P e'):=fun {P} hP=>
   ⟨⟨g1,hi⟩,by omega,fun e' he'=>by rw [Nat.zero_add,he] at he';cases he';exact hP⟩
  have hge:=hst e (List.mem_of_getElem? he)
  have nx: ∀a b,a=i+1→b=max t e.End→ ∃y:Core × List Job × List Step × List Told37 × List Told37 × Int × Int,(y.1=c'∧y.2.1=c'.J.jobs∧y.2.2.1=c'.P.steps∧y.2.2.2.1=foreC c'∧y.2.2.2.2.1=foreC c'∧0≤y.2.2.2.2.2.2∧y.2.2.2.2.2.2≤(foreC c').length∧y.2.2.2.2.2.1=((foreC c').take y.2.2.2.2.2.2.toNat).foldl (fun t x=>max t x.End) (nowC c'))∧
    y=(c',c'.J.jobs,c'.P.steps,foreC c',foreC c',b,a)∧((foreC c').length-y.2.2.2.2.2.2).toNat<((foreC c').length-i).toNat:=fun a b h1 h2=>by
   subst h1 h2
   exact ⟨_,⟨rfl,rfl,rfl,rfl,rfl,by simp only [];omega,by simp only [];omega,by simp only [];rw [fold_step g1 he,←e5]⟩,rfl,by simp only [];omega⟩
  refine same (same (br_not (fun hh=>by simp at hh) (fun _=>same ⟨⟨hs.cw.2.2,br_dec (fun hh=>?_) (fun _=>same (br_dec (fun hm=>same fun q hq=>?_) (fun hm q hq=>?_)))⟩,trivial⟩)))
  ·exfalso
   have hge:nowL c'.P.steps≤e.Start:=hge
   simp only [] at hh;omega
  ·rw [w64 (by simp only [];omega)] at hq
   replace hq:q=i+1:=hq
   replace hm:e.End>t:=hm
   obtain ⟨y,hy,hye,hme⟩:=nx q e.End hq (by omega)
   exact ⟨y,hy,by rw [hye];simp,hme⟩
  ·rw [w64 (by simp only [];omega)] at hq
   replace hq:q=i+1:=hq
   replace hm: ¬ e.End>t:=hm
   obtain ⟨y,hy,hye,hme⟩:=nx q t hq (by omega)
   exact ⟨y,hy,by rw [hye];simp,hme⟩
 ·have hi: ¬ i<((foreC c').length:Int):=hi
  rw [List.take_of_length_le (by omega)] at e5
  have hil:(inJ c'.J.jobs [3]).length≤1024:=by unfold inJ;exact Nat.le_trans (List.length_filter_le _ _) hjl
  refine ⟨Nat.le_refl _,⟨hs.cw.1,by omega⟩,fun x=>x.1=c'∧x.2.1=c'.J.jobs∧x.2.2.1=c'.P.steps∧x.2.2.2.1=foreC c'∧x.2.2.2.2.2.1=inJ c'.J.jobs [3]∧0≤x.2.2.2.2.2.2∧x.2.2.2.2.2.2≤(inJ c'.J.jobs [3]).length∧x.2.2.2.2.1=((inJ c'.J.jobs [3]).take x.2.2.2.2.2.2.toNat).foldl (fun t x=>max t x.End) t,fun x=>((inJ c'.J.jobs [3]).length-x.2.2.2.2.2.2).toNat,
   (c',c'.J.jobs,c'.P.steps,foreC c',t,inJ c'.J.jobs [3],0),⟨rfl,rfl,rfl,rfl,rfl,by simp,by simp only [];omega,by simp⟩,⟨⟨rfl,⟨rfl,rfl⟩,⟨rfl,rfl⟩,⟨rfl,rfl⟩,rfl,⟨rfl,rfl⟩,rfl,trivial⟩,rfl,rfl,rfl,rfl,rfl,trivial⟩,?_⟩
  rintro ⟨c2,js,ss,f1,t2,l2,j⟩ ⟨e0,e1,e2,e3,e4,g4,g5,e6⟩
  simp only [] at e0 e1 e2 e3 e4 g4 g5 e6
  subst e0 e1 e2 e3 e4
  refine br_dec (fun hj=>?_) (fun hj=>?_)
  ·have hj:j<((inJ c2.J.jobs [3]).length:Int):=hj
   obtain ⟨e,he⟩: ∃e,(inJ c2.J.jobs [3])[j.toNat]? =some e:=⟨_,List.getElem?_eq_getElem (by omega)⟩
   have same: ∀{P:Job→Prop},P e→((0≤j∧j<((inJ c2.J.jobs [3]).length:Int))∧0+j.toNat<(inJ c2.J.jobs [3]).length∧ ∀e',(inJ c2.J.jobs [3])[0+j.toNat]? =some e'→P e'):=fun {P} hP=>
    ⟨⟨g4,hj⟩,by omega,fun e' he'=>by rw [Nat.zero_add,he] at he';cases he';exact hP⟩
   have nx: ∀a b,a=j+1→b=max t2 e.End→ ∃y:Core × List Job × List Step × List Told37 × Int × List Job × Int,(y.1=c2∧y.2.1=c2.J.jobs∧y.2.2.1=c2.P.steps∧y.2.2.2.1=foreC c2∧y.2.2.2.2.2.1=inJ c2.J.jobs [3]∧0≤y.2.2.2.2.2.2∧y.2.2.2.2.2.2≤(inJ c2.J.jobs [3]).length∧y.2.2.2.2.1=((inJ c2.J.jobs [3]).take y.2.2.2.2.2.2.toNat).foldl (fun t x=>max t x.End) t)∧
     y=(c2,c2.J.jobs,c2.P.steps,foreC c2,b,inJ c2.J.jobs [3],a)∧((inJ c2.J.jobs [3]).length-y.2.2.2.2.2.2).toNat<((inJ c2.J.jobs [3]).length-j).toNat:=fun a b h1 h2=>by
    subst h1 h2
    exact ⟨_,⟨rfl,rfl,rfl,rfl,rfl,by simp only [];omega,by simp only [];omega,by simp only [];rw [fold_step g4 he,←e6]⟩,rfl,by simp only [];omega⟩
   refine same (br_dec (fun hm=>same fun q hq=>?_) (fun hm q hq=>?_))
   ·rw [w64 (by simp only [];omega)] at hq
    replace hq:q=j+1:=hq
    replace hm:e.End>t2:=hm
    obtain ⟨y,hy,hye,hme⟩:=nx q e.End hq (by omega)
    exact ⟨y,hy,by rw [hye];simp,hme⟩
   ·rw [w64 (by simp only [];omega)] at hq
    replace hq:q=j+1:=hq
    replace hm: ¬ e.End>t2:=hm
    obtain ⟨y,hy,hye,hme⟩:=nx q t2 hq (by omega)
    exact ⟨y,hy,by rw [hye];simp,hme⟩
  ·have hj: ¬ j<((inJ c2.J.jobs [3]).length:Int):=hj
   rw [List.take_of_length_le (by omega)] at e6
   have fin:JW c2.J∧0+c2.J.jobs.length≤c2.J.jobs.length∧0+c2.J.jobs.length≤c2.J.jobs.length∧(List.take c2.J.jobs.length (List.drop 0 c2.J.jobs)).length≤1099511627776∧br (sameJ (List.take c2.J.jobs.length (List.drop 0 c2.J.jobs)) (List.take c2.J.jobs.length (List.drop 0 c2.J.jobs))) (PW c2.P∧0+c2.P.steps.length≤c2.P.steps.length∧0+c2.P.steps.length≤c2.P.steps.length∧(List.take c2.P.steps.length (List.drop 0 c2.P.steps)).length≤1099511627776∧br (sameS (List.take c2.P.steps.length (List.drop 0 c2.P.steps)) (List.take c2.P.steps.length (List.drop 0 c2.P.steps))) (k () (true,())) (k () (false,()))) (k () (false,())):=
    ⟨hs.cw.1,by omega,by omega,by rw [List.length_take];omega,br_bool (fun _=>⟨hs.cw.2.2,by omega,by omega,by rw [List.length_take];omega,br_bool (fun _=>h) (fun hh=>absurd ((hsst _).symm.trans hh) (by simp))⟩) (fun hh=>absurd ((hss _).symm.trans hh) (by simp))⟩
   refine ⟨hs.cw.1,br_dec (fun hw=>⟨hs,br_eq (fun _=>fin) (fun hh=>?_)⟩) (fun hw=>⟨hs,br_eq (fun _=>fin) (fun hh=>?_)⟩)⟩
   ·have hw:((foreC c2).length:Int)<((waitC c2).length:Int):=hw
    exact absurd (by show emptyC c2= -1;rw [hem,if_pos (by omega)]) hh
   ·have hw: ¬ ((foreC c2).length:Int)<((waitC c2).length:Int):=hw
    exact absurd (by show emptyC c2=t2;rw [hem,if_neg (by omega),e6,e5]) hh
end Go.Ax.O
