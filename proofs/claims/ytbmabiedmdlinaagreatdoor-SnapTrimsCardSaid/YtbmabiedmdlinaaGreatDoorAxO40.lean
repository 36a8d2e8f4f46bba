import Derived.Test.YtbmabiedmdlinaaGreatDoorAxV22
set_option linter.all false
namespace Go.Ax.Law
theorem OkS.now {c:Core} (h:OkS c):0≤nowC c∧nowC c≤1099511627776:=by
 obtain ⟨n,m,h⟩:=h
 exact h.rep.deep.nw
theorem PreI.less {p:Prof} {n m:Nat} (h:PreI p n) (hm:m≤n):PreI p m:=⟨h.1,by have:=h.2.1;omega,h.2.2⟩
theorem PreI.add {p:Prof} {n:Nat} (h:PreI p n) (f t d:Int):PW (addP p f t d).2∧(addP p f t d).2.steps.length≤p.steps.length+2∧nowL (addP p f t d).2.steps=nowL p.steps:=
 addP_ok h.1 (by have:=h.2.1;omega)
theorem relI_ok {p:Prof} {n:Nat} (h:PreI p n) (x:Go.Ax.Item):PW (relI p x).2∧(relI p x).2.steps.length≤p.steps.length+2∧nowL (relI p x).2.steps=nowL p.steps:=by
 unfold relI
 split
 ·exact h.add _ _ _
 ·exact ⟨h.1,by simp,rfl⟩
theorem oneI_ok {p:Prof} {n:Nat} (h:PreI p n) (x:Go.Ax.Item):PW (oneI p x).1∧(oneI p x).1.steps.length≤p.steps.length+4∧nowL (oneI p x).1.steps=nowL p.steps∧(oneI p x).2.length≤1:=by
 obtain ⟨h1,h2,h3⟩:=relI_ok h x
 have hr: ∀(f t d:Int),PW (addP (relI p x).2 f t d).2∧(addP (relI p x).2 f t d).2.steps.length≤p.steps.length+4∧nowL (addP (relI p x).2 f t d).2.steps=nowL p.steps:=by
  intro f t d
  have hl:=h.2.1
  obtain ⟨g1,g2,g3⟩:=addP_ok (f:=f) (t:=t) (n:=d) h1 (by omega)
  exact ⟨g1,by omega,g3.trans h3⟩
 unfold oneI resP
 split
 ·exact ⟨h1,by simp only [];omega,h3,by simp⟩
 ·split
  ·split
   ·exact ⟨(hr _ _ _).1,(hr _ _ _).2.1,(hr _ _ _).2.2,by simp⟩
   ·exact ⟨h1,by simp only [];omega,h3,by simp⟩
  ·exact ⟨(hr _ _ _).1,(hr _ _ _).2.1,(hr _ _ _).2.2,by simp⟩
theorem PreI.one {p:Prof} {n:Nat} (h:PreI p (n+1)) (x:Go.Ax.Item):PreI (oneI p x).1 n:=by
 obtain ⟨h1,h2,h3,_⟩:=oneI_ok h x
 have hl:=h.2.1
 exact ⟨h1,by omega,by rw [h3];exact h.2.2⟩
theorem planF_snoc (x:Go.Ax.Item): ∀(l:List Go.Ax.Item) (p:Prof),planF p (l++[x])=((oneI (planF p l).1 x).1,(planF p l).2++(oneI (planF p l).1 x).2)
 | [],p=>by simp [planF]
 |y::l,p=>by simp [planF,planF_snoc x l]
theorem planF_ok: ∀(l:List Go.Ax.Item) {p:Prof} {n:Nat},PreI p (n+l.length)→PreI (planF p l).1 n∧(planF p l).2.length≤l.length
 | [],p,n,h=>⟨h,Nat.le_refl _⟩
 |x::l,p,n,h=>by
  have h':PreI p (n+l.length+1):=h
  obtain ⟨g1,g2⟩:=planF_ok l (h'.one x)
  have:=(oneI_ok h' x).2.2.2
  exact ⟨g1,by simp only [planF,List.length_append,List.length_cons];omega⟩
theorem earlG_cons (lg w t:Int) (s:Step) (r:List Step):earlG lg w (s::r) t=if 1099511627776<t then (0,16) else if t+lg≤s.At then (t,0) else if s.Free<w then (match r with
  | []=>(0,16)
  |q::_=>earlG lg w r q.At) else earlG lg w r t:=by cases r<;>simp only [earlG]
theorem rightI_of {x:Go.Ax.Item} (h:rightI x=true):1≤x.Width∧x.Width≤64∧1≤x.Limit∧x.Limit≤1048576∧ -1≤x.Plan∧x.Plan≤1099511627776:=by
 unfold rightI at h
 simpa only [Bool.and_eq_true,decide_eq_true_eq] using h
end Go.Ax.Law
namespace Go.Ax.O
open Go.Ax.Sp Go.Ax.Law
theorem vRightI {x:Go.Ax.Item} {k:Unit→Bool × Unit→Prop} (h:oRightI (x,()) k):V.vRightI x k:=by
 have h:k () (rightI x,()):=h
 unfold V.vRightI V.SH
 unfold rightI at h
 refine br_dec (fun h1=>br_dec (fun h2=>br_dec (fun h3=>br_dec (fun h4=>br_dec (fun h5=>?_) (fun h5=>?_)) (fun h4=>?_)) (fun h3=>?_)) (fun h2=>?_)) (fun h1=>?_)
 ·rwa [decide_eq_true h1,decide_eq_true h2,decide_eq_true h3,decide_eq_true h4,decide_eq_true h5] at h
 ·rwa [decide_eq_true h1,decide_eq_true h2,decide_eq_true h3,decide_eq_true h4,decide_eq_false h5] at h
 ·rwa [decide_eq_true h1,decide_eq_true h2,decide_eq_true h3,decide_eq_false h4] at h
 ·rwa [decide_eq_true h1,decide_eq_true h2,decide_eq_false h3] at h
 ·rwa [decide_eq_true h1,decide_eq_false h2] at h
 ·rwa [decide_eq_false h1] at h
theorem vWrongI {x:Go.Ax.Item} {k:Unit→Bool × Unit→Prop} (h:oWrongI (x,()) k):V.vWrongI x k:=h
theorem vIdxF {f:FuncId} {l:List Go.Ax.Item} {k:Unit→Int × Unit→Prop} (h:oIdxF f (l,(),()) k):V.vIdxF l k:=by
 obtain ⟨hl,hk⟩:=h
 simp only [] at hl hk
 unfold V.vIdxF V.LP V.NX V.AI V.NM V.LN
 refine ⟨fun x=>x.1=l∧0≤x.2.1∧x.2.1≤l.length∧(l.take x.2.1.toNat).any (fun i=>!rightI i)=false,fun x=>(l.length-x.2.1).toNat,(l,0,()),⟨rfl,by simp,by simp,by simp⟩,by simp,?_⟩
 rintro ⟨l',i,u⟩ ⟨e,hi,hi2,ha⟩
 simp only [] at e hi hi2 ha
 subst e
 refine br_dec (fun h3=>⟨⟨hi,h3⟩,fun e he=>br_not (fun hb=>?_) (fun hb n hn=>?_)⟩) (fun h3=>?_)
 ·refine hk i ?_
  rw [eq_true hi,eq_comm]
  exact eq_true (List.any_eq_true.2 ⟨e,List.mem_of_getElem? he,by rw [hb];rfl⟩)
 ·replace hn:n=IntKind.i64.wrap (i+1):=hn
  replace h3:i<l'.length:=h3
  rw [w64 (by omega)] at hn
  subst hn
  refine ⟨(l',i+1,()),⟨rfl,by simp only [];omega,by simp only [];omega,?_⟩,by simp,by simp only [];omega⟩
  simp only []
  rw [show (i+1).toNat=i.toNat+1 by omega,List.take_add_one,he]
  simp only [List.any_append,ha,Option.toList,List.any_cons,List.any_nil,hb,Bool.not_true,Bool.or_false]
 ·replace h3: ¬ i<l'.length:=h3
  rw [List.take_of_length_le (by omega)] at ha
  refine hk (-1) ?_
  rw [ha]
  simp
theorem vConF {f:FuncId} {l:List Go.Ax.Item} {k:Unit→Bool × Unit→Prop} (h:oConF f (l,(),()) k):V.vConF l k:=by
 obtain ⟨hl,hk⟩:=h
 simp only [] at hl hk
 refine ⟨hl,fun n hn=>?_⟩
 have h2:(0≤n)↔l.any (fun i=>!rightI i)=true:=iff_of_eq hn
 have:decide (n≥0)=l.any (fun i=>!rightI i):=by
  cases hb:l.any (fun i=>!rightI i) with
  |true=>exact decide_eq_true (h2.2 hb)
  |false=>exact decide_eq_false fun h=>by rw [h2.1 h] at hb;cases hb
 rw [this];exact hk
theorem vCloneI {l:List Go.Ax.Item} {k:Unit→List Go.Ax.Item × Unit→Prop} (h:oCloneI (l,()) k):V.vCloneI l k:=by
 obtain ⟨hl,hk⟩:=h
 simp only [] at hl hk
 refine fun b hb=>br_bool (fun hb2=>?_) (fun _=>⟨Nat.le_refl _,by omega,by simp,by simpa using hk⟩)
 have h0:l=[]:=List.eq_nil_of_length_eq_zero (Nat.eq_zero_of_not_pos fun h=>by rw [hb h] at hb2;cases hb2)
 rw [h0] at hk;exact hk
theorem vCloneX {l:List Choice} {k:Unit→List Choice × Unit→Prop} (h:oCloneX (l,()) k):V.vCloneX l k:=by
 obtain ⟨hl,hk⟩:=h
 simp only [] at hl hk
 refine fun b hb=>br_bool (fun hb2=>?_) (fun _=>⟨Nat.le_refl _,by omega,by simp,by simpa using hk⟩)
 have h0:l=[]:=List.eq_nil_of_length_eq_zero (Nat.eq_zero_of_not_pos fun h=>by rw [hb h] at hb2;cases hb2)
 rw [h0] at hk;exact hk
theorem vSpanI {x:Go.Ax.Item} {k:Unit→Span × Bool × Unit→Prop} (h:oSpanI (x,()) k):V.vSpanI x k:=by
 have h:k () (spanI x,decide (0≤x.Plan),()):=h
 unfold V.vSpanI V.NM
 exact fun n hn=>by subst hn;exact ⟨h,trivial⟩
theorem vEarl {p:Prof} {a b c:Int} {k:Unit→Int × Int × Unit→Prop} (h:oEarl (p,a,b,c,()) k):V.vEarl p a b c k:=by
 obtain ⟨⟨hp,h0⟩,hk⟩:=h
 have hk:k () ((earlP p.steps a b c).1,(earlP p.steps a b c).2,()):=hk
 simp only [] at hp h0
 unfold V.vEarl V.LP V.NX V.AI V.NM V.SH V.LN
 have he:(b<1∨1048576<b∨c<1∨64<c)→k () (0,1,()):=fun h=>by unfold earlP at hk;rw [if_pos h] at hk;exact hk
 refine br_f (noneP_no hp) (br_dec (fun h1=>he (.inl h1)) (fun h1=>br_dec (fun h2=>he (.inr (.inl h2))) (fun h2=>br_dec (fun h3=>he (.inr (.inr (.inl h3)))) (fun h3=>br_dec (fun h4=>he (.inr (.inr (.inr h4)))) (fun h4=>⟨hp,hp,?_⟩)))))
 unfold earlP at hk
 rw [if_neg (by omega)] at hk
 rw [max_if]
 refine ⟨fun x=>x.1=p∧x.2.1=b∧x.2.2.1=c∧0≤x.2.2.2.1∧0≤x.2.2.2.2∧x.2.2.2.2≤p.steps.length∧k () ((earlG b c (p.steps.drop x.2.2.2.2.toNat) x.2.2.2.1).1,(earlG b c (p.steps.drop x.2.2.2.2.toNat) x.2.2.2.1).2,()),fun x=>(p.steps.length-x.2.2.2.2).toNat,(p,b,c,max a (nowL p.steps),((idxL p.steps (max a (nowL p.steps)):Nat):Int)),⟨rfl,rfl,rfl,by simp only [];omega,by simp only [];omega,?_,by simpa using hk⟩,by simp,?_⟩
 ·have:=idx_lt hp.1 (max a (nowL p.steps))
  simp only [];omega
 rintro ⟨p',b',c',t,i⟩ ⟨e1,e2,e3,ht,hi,hi2,hg⟩
 simp only [] at e1 e2 e3 ht hi hi2 hg
 subst e1 e2 e3
 have hlen:=hp.2.2
 have stop:t>1099511627776→(earlG b' c' (p'.steps.drop i.toNat) t)=(0,16):=fun h=>by
  cases hd:p'.steps.drop i.toNat with
  |nil=>rw [earlG,if_pos h]
  |cons s r=>rw [earlG_cons,if_pos h]
 have fin:(t>1099511627776∨earlG b' c' (p'.steps.drop i.toNat) t=(t,0))→br (decide (t>1099511627776)) (k () (0,16,())) (k () (t,0,())):=by
  intro h
  refine br_dec (fun h5=>?_) (fun h5=>?_)
  ·rw [stop h5] at hg;exact hg
  ·rcases h with h |h
   ·exact absurd h h5
   ·rw [h] at hg;exact hg
 refine br_dec (fun h5=>br_dec (fun h6=>⟨⟨hi,h5⟩,fun e hge n hn=>?_⟩) (fun h6=>fin (.inl (by replace h6: ¬ t≤1099511627776:=h6;omega)))) (fun h5=>fin ?_)
 ·replace h5:i<p'.steps.length:=h5
  replace h6:t≤1099511627776:=h6
  replace hn:n=IntKind.i64.wrap (t+b'):=hn
  rw [w64 (by omega)] at hn
  subst hn
  have hd:=drop_cons hge
  rw [hd,earlG_cons,if_neg (by omega)] at hg
  refine br_dec (fun h7=>?_) (fun h7=>?_)
  ·replace h7:e.At≥t+b':=h7
   exact fin (.inr (by rw [hd,earlG_cons,if_neg (by omega),if_pos h7]))
  ·replace h7: ¬ e.At≥t+b':=h7
   rw [if_neg (by omega)] at hg
   have hn1: ∀n,n=IntKind.i64.wrap (i+1)→n=i+1:=fun n hn=>by rw [hn,w64 (by omega)]
   refine br_dec (fun h8=>fun n hn=>?_) (fun h8=>fun n hn=>?_)
   ·replace h8:e.Free<c':=h8
    rw [if_pos h8] at hg
    have hn:=hn1 n hn;subst hn
    refine br_eq (fun h9=>?_) (fun h9=>fun n hn=>?_)
    ·replace h9:i+1=(p'.steps.length:Int):=h9
     have hz:p'.steps.length≤i.toNat+1:=by omega
     rw [List.drop_of_length_le hz] at hg
     exact hg
    ·replace h9:i+1≠(p'.steps.length:Int):=h9
     have hn:=hn1 n hn;subst hn
     refine ⟨(show 0≤i+1∧i+1<(p'.steps.length:Int) by omega),fun q hq n hn=>?_⟩
     have hn:=hn1 n hn;subst hn
     have hq':p'.steps[i.toNat+1]? =some q:=by rw [←hq];congr 1;omega
     rw [drop_cons hq'] at hg
     simp only [] at hg
     have hnow:=now_le_get hp.2.1 hq
     refine ⟨(p',b',c',q.At,i+1),⟨rfl,rfl,rfl,by simp only [];omega,by simp only [];omega,by simp only [];omega,?_⟩,by simp,by simp only [];omega⟩
     simp only []
     rw [show (i+1).toNat=i.toNat+1 by omega,drop_cons hq']
     exact hg
   ·replace h8: ¬ e.Free<c':=h8
    rw [if_neg h8] at hg
    have hn:=hn1 n hn;subst hn
    refine ⟨(p',b',c',t,i+1),⟨rfl,rfl,rfl,ht,by simp only [];omega,by simp only [];omega,?_⟩,by simp,by simp only [];omega⟩
    simp only []
    rw [show (i+1).toNat=i.toNat+1 by omega]
    exact hg
 ·replace h5: ¬ i<p'.steps.length:=h5
  rw [List.drop_of_length_le (by omega),earlG]
  by_cases h9:t>1099511627776
  ·exact .inl h9
  ·exact .inr (if_neg h9)
theorem vNewPl {p:Prof} {n:Int} {l:List Go.Ax.Item} {k:Unit→Option Planner × Int × Unit→Prop} (h:oNewPl (p,n,l,()) k):V.vNewPl p n l k:=by
 obtain ⟨⟨hp,hl⟩,h1,h2⟩:=h
 simp only [] at hp hl h1 h2
 unfold V.vNewPl V.SH V.LN
 refine ⟨hp,br_dec (fun g1=>h1 (.inl g1)) (fun g1=>br_dec (fun g2=>h1 (.inr g2)) (fun g2=>?_))⟩
 have hn:1≤n∧n≤64:=by omega
 obtain ⟨h3,h4⟩:=h2 hn
 have e:List.drop (Int.toNat 0) (List.take (Int.toNat (min (l.length:Int) n)) l)=l.take n.toNat:=by
  rw [show Int.toNat 0=0 from rfl,List.drop_zero]
  by_cases hh:n<(l.length:Int)
  ·rw [show min (l.length:Int) n=n by omega]
  ·rw [List.take_of_length_le (by omega),List.take_of_length_le (by omega)]
 rw [min_if,e]
 have hlt:(l.take n.toNat).length≤64:=by simp;omega
 refine ⟨⟨Int.le_refl _,by omega,by omega⟩,by omega,br_bool (fun hb=>h3 hb) (fun hb=>⟨hp,by omega,by omega,?_⟩)⟩
 rw [td];exact h4 hb
theorem vNonePl {p:Planner} {k:Unit→Bool × Unit→Prop} (h:oNonePl (p,()) k):V.vNonePl p k:=h
theorem vLeftPl {p:Planner} {k:Unit→Int × Unit→Prop} (h:oLeftPl (p,()) k):V.vLeftPl p k:=by
 obtain ⟨⟨h1,h2,h3⟩,hk⟩:=h
 simp only [] at h1 h2 h3 hk
 unfold V.vLeftPl V.NM V.LN
 intro n hn
 rw [w64 (by omega)] at hn
 subst hn;exact hk
theorem vChoPl {p:Planner} {k:Unit→List Choice × Unit→Prop} (h:oChoPl (p,()) k):V.vChoPl p k:=⟨by have:=h.1;simp only [] at this;omega,rfl,h.2⟩
theorem vOnePl {p:Planner} {x:Go.Ax.Item} {k:Planner × Unit→Unit→Prop} (h:oOnePl (p,x,()) k):V.vOnePl p x k:=by
 obtain ⟨⟨hp,ho,l1,l2,l3,l4,l5⟩,hk⟩:=h
 have hk:k (onePl p x,()) ():=hk
 simp only [] at hp ho l1 l2 l3 l4 l5
 have hr:=relI_ok hp x
 have hlen:=hp.2.1
 unfold onePl oneI resP pickI spanI at hk
 unfold V.vOnePl V.NM V.SH
 simp only [td,true_and,and_true,Nat.zero_add,Nat.le_refl]
 have hin:p.out.length+1≤68719476736:=by omega
 have e1: ∀(c:Choice),List.take (p.out.length+1) (List.drop 0 (p.out++[c]))=p.out++[c]:=fun c=>by rw [List.drop_zero,List.take_of_length_le (by simp)]
 simp only [e1,List.length_append,List.length_singleton,Nat.le_refl,true_and,hin]
 refine br_dec (fun h1=>?_) (fun h1=>?_)
 ·have er:relI p.P x=addP p.P x.Plan (wr (x.Plan+x.Limit)) x.Width:=if_pos h1
  rw [er] at hk hr
  simp only [if_pos h1,h1,true_and] at hk
  refine ⟨⟨hp.1,by omega⟩,br_ne (fun h2=>?_) (fun h2=>⟨hr.1,⟨hr.1,by rw [hr.2.2];exact hp.2.2⟩,br_ne (fun h3=>?_) (fun h3=>?_)⟩)⟩
  ·rw [if_pos h2] at hk;simpa using hk
  ·rw [if_neg (by omega),if_pos (.inl h3)] at hk
   refine br_dec (fun _=>⟨⟨hr.1,by omega⟩,by simpa using hk⟩) (fun hn=>absurd h1 hn)
  ·refine br_dec (fun _=>br_dec (fun h4=>?_) (fun h4=>?_)) (fun hn=>absurd h1 hn)
   ·rw [if_neg (by omega),if_pos (.inr h4)] at hk
    exact br_dec (fun _=>⟨⟨hr.1,by omega⟩,by simpa using hk⟩) (fun hn=>absurd h1 hn)
   ·replace h4: ¬ _≥x.Plan:=h4
    rw [if_neg (by omega),if_neg (by omega)] at hk
    intro n hn;subst hn
    exact ⟨⟨hr.1,by omega⟩,hk⟩
 ·have er:relI p.P x=(0,p.P):=if_neg h1
  rw [er] at hk hr
  simp only [if_neg h1,h1,false_and,or_false,ne_eq,not_true_eq_false,if_false] at hk
  refine ⟨hp.1,⟨hp.1,hp.2.2⟩,br_ne (fun h3=>?_) (fun h3=>?_)⟩
  ·rw [if_pos h3] at hk
   exact br_dec (fun hn=>absurd hn h1) (fun _=>by simpa using hk)
  ·rw [if_neg (by omega)] at hk
   refine br_dec (fun hn=>absurd hn h1) (fun _ n hn=>?_)
   subst hn
   exact ⟨⟨hp.1,by omega⟩,hk⟩
theorem vNextPl {p:Planner} {n:Int} {k:Planner × Unit→Int × Unit→Prop} (h:oNextPl (p,n,()) k):V.vNextPl p n k:=by
 obtain ⟨⟨hp,ho,hl,hp0,hpl,hr⟩,hk⟩:=h
 have hk:k ((nextPl p n).2,()) ((nextPl p n).1,()):=hk
 simp only [] at hp ho hl hp0 hpl hr
 unfold V.vNextPl V.LP V.NX V.AT V.NM V.SH V.LN
 obtain ⟨P,items,pos,out⟩:=p
 simp only [] at hp ho hl hp0 hpl hr
 obtain ⟨pos,rfl⟩:=Int.eq_ofNat_of_zero_le hp0
 have hpl:pos≤items.length:=by omega
 have ho:out.length≤pos:=by omega
 refine ⟨fun x=> ∃j:Nat,j≤items.length-pos∧(j:Int)≤max n 0∧x.2.1=n∧x.2.2=j∧x.1=⟨(planF P ((items.drop pos).take j)).1,items,(pos:Int)+j,out++(planF P ((items.drop pos).take j)).2⟩,fun x=>(items.length-x.1.pos).toNat,(⟨P,items,pos,out⟩,n,0),⟨0,by omega,by omega,rfl,rfl,by simp [planF]⟩,by simp,?_⟩
 rintro ⟨x,n',i⟩ ⟨j,hj,hjn,e1,e2,e3⟩
 simp only [] at e1 e2 e3
 subst e1 e2 e3
 have stop:(j:Int)=(min n'.toNat (items.length-pos):Nat)→k (⟨(planF P ((items.drop pos).take j)).1,items,(pos:Int)+j,out++(planF P ((items.drop pos).take j)).2⟩,()) ((j:Int),()):=by
  intro hh
  unfold nextPl at hk
  simp only [Int.toNat_natCast] at hk
  rw [←show j=min n'.toNat (items.length-pos) by omega] at hk
  exact hk
 simp only [td,true_and,and_true,Nat.zero_add,Nat.le_refl]
 refine br_dec (fun h1=>br_dec (fun h2=>?_) (fun h2=>stop ?_)) (fun h1=>stop ?_)
 ·have h1:(j:Int)<n':=h1
  have h2:(pos:Int)+j<(items.length:Int):=h2
  refine ⟨⟨by omega,h2⟩,by omega,fun e he=>?_⟩
  have he':items[pos+j]? =some e:=by rw [←he];congr 1<;>omega
  have hd:(items.drop pos).take (j+1)=(items.drop pos).take j++[e]:=by rw [List.take_add_one,List.getElem?_drop,he'];rfl
  have hjl:((items.drop pos).take j).length=j:=by rw [List.length_take,List.length_drop];omega
  obtain ⟨g1,g2⟩:=planF_ok ((items.drop pos).take j) (p:=P) (n:=1) (hp.less (by omega))
  have hre:=rightI_of (List.all_eq_true.1 hr e (List.mem_of_getElem? he'))
  refine ⟨⟨g1,by simp only [List.length_append];omega,by omega,hre.2.2.2.1,hre.2.2.2.2.2,hre.1,hre.2.1⟩,fun a ha b hb=>?_⟩
  replace ha:a=IntKind.i64.wrap ((pos:Int)+j+1):=ha
  replace hb:b=IntKind.i64.wrap ((j:Int)+1):=hb
  rw [w64 (by omega)] at ha hb
  subst ha hb
  refine ⟨(⟨(planF P ((items.drop pos).take (j+1))).1,items,(pos:Int)+j+1,out++(planF P ((items.drop pos).take (j+1))).2⟩,n',(j:Int)+1),⟨j+1,by omega,by omega,rfl,by simp,by simp [Int.add_assoc]⟩,⟨⟨rfl,rfl⟩,?_⟩,by simp only [];omega⟩
  rw [hd,planF_snoc]
  simp only [List.append_assoc]
 ·have h2: ¬ (pos:Int)+j<(items.length:Int):=h2
  have h1:(j:Int)<n':=h1
  omega
 ·have h1: ¬ (j:Int)<n':=h1
  omega
theorem vPlanA {p:Prof} {n:Int} {l:List Go.Ax.Item} {k:Unit→List Choice × Int × Unit→Prop} (h:oPlanA (p,n,l,()) k):V.vPlanA p n l k:=by
 obtain ⟨⟨hp,hl,h0,hl2⟩,hk⟩:=h
 have hk:k () ((planA p n l).1,(planA p n l).2,()):=hk
 simp only [] at hp hl h0 hl2
 unfold planA at hk
 unfold V.vPlanA V.SH V.LN
 refine ⟨⟨hp,hl2⟩,fun h1=>by rw [if_pos h1] at hk;exact hk,fun h1=>?_⟩
 rw [if_neg (by omega)] at hk
 have hlt:(l.take n.toNat).length≤64:=by simp;omega
 refine ⟨fun h2=>by rw [if_pos h2] at hk;exact hk,fun h2=>?_⟩
 rw [if_neg (by rw [h2];decide)] at hk
 have e:List.take (min (Int.toNat (((l.take n.toNat).length:Int)-0)) ((l.take n.toNat).length-Int.toNat 0)) (List.drop (Int.toNat 0) (l.take n.toNat))=l.take n.toNat:=by
  rw [show Int.toNat 0=0 from rfl,List.drop_zero,List.take_of_length_le (by omega)]
 rw [e,List.nil_append]
 have hpi:PreI p (0+(l.take n.toNat).length):=⟨hp,by omega,h0⟩
 have hg:=(planF_ok _ hpi).2
 refine ⟨⟨by omega,Int.le_refl _,by decide⟩,⟨⟨hp,by omega,h0⟩,Int.le_refl _,hlt,Int.le_refl _,by omega,?_⟩,by omega,rfl,hk⟩
 rw [List.all_eq_true]
 intro x hx
 cases hb:rightI x with
 |true=>rfl
 |false=>rw [List.any_eq_true.2 ⟨x,hx,by rw [hb];rfl⟩] at h2;cases h2
theorem planA_len (p:Prof) (n:Int) (l:List Go.Ax.Item) (hp:PW p) (hl:p.steps.length≤4294950000) (h0:0≤nowL p.steps):(planA p n l).1.length≤64:=by
 unfold planA
 split
 ·simp
 ·split
  ·simp
  ·have hlt:(l.take n.toNat).length≤64:=by simp;omega
   have hpi:PreI p (0+(l.take n.toNat).length):=⟨hp,by omega,h0⟩
   have:=(planF_ok _ hpi).2
   simp only [];omega
theorem vPass {s:Sched} {n:Int} {k:Sched × Unit→List Choice × Int × List Int × Int × Unit→Prop} (h:oPass (s,n,()) k):V.vPass s n k:=by
 obtain ⟨hs,hk⟩:=h
 obtain ⟨c⟩:=s
 have hs:OkS c:=hs
 have hk:k (⟨(passS c n).2⟩,()) ((passS c n).1.1,(passS c n).1.2.1,(passS c n).1.2.2.1,(passS c n).1.2.2.2,()):=hk
 have hcw:=hs.cw
 have hlen:=hs.len
 have hnow:=hs.now
 have hw:(waitC c).length≤1024:=by
  have a1:=hcw.1.2.1
  have a2:(inJ c.J.jobs [1]).length≤c.J.jobs.length:=List.length_filter_le _ _
  unfold waitC;rw [sort_len];omega
 unfold V.vPass V.LP V.NX V.AT V.NM V.SH V.LN
 simp only [td,true_and,and_true,Nat.zero_add,Nat.le_refl]
 have hpl:=planA_len c.P n (itemsC c) hcw.2.2 (by omega) hnow.1
 have he:List.map itemJ (waitC c)=itemsC c:=rfl
 rw [he]
 have hil:(itemsC c).length≤1024:=by unfold itemsC;rw [List.length_map];exact hw
 refine ⟨hcw,⟨hcw.2.2,by omega,hnow.1,by omega⟩,?_⟩
 generalize hp:planA c.P n (itemsC c)=p at hpl
 unfold passS at hk
 rw [hp] at hk
 refine br_ne (fun h1=>by rw [if_pos h1] at hk;exact hk) (fun h1=>?_)
 rw [if_neg (by omega)] at hk
 obtain ⟨L,e⟩:=p
 simp only [] at hpl h1 hk
 refine ⟨fun x=>x.2.1=L∧OkS x.1∧0≤x.2.2.2.2∧x.2.2.2.2≤L.length∧0≤x.2.2.1∧x.2.2.1≤x.2.2.2.2∧(x.2.2.2.1.length:Int)≤x.2.2.2.2∧passF x.1 x.2.2.1 x.2.2.2.1 (L.drop x.2.2.2.2.toNat)=passF c 0 [] L,fun x=>(L.length-x.2.2.2.2).toNat,(c,L,0,[],0),⟨rfl,hs,by simp,by simp,by simp,by simp,by simp,by simp⟩,by simp,?_⟩
 rintro ⟨c',L',t,st,i⟩ ⟨e1,ho,hi,hi2,ht,ht2,hst,hf⟩
 simp only [] at e1 ho hi hi2 ht ht2 hst hf
 subst e1
 refine br_dec (fun h2=>?_) (fun h2=>?_)
 ·replace h2:i<(L'.length:Int):=h2
  refine ⟨⟨hi,h2⟩,by simp only [];omega,fun x hx=>⟨ho,?_⟩⟩
  replace hx:L'[i.toNat]? =some x:=hx
  have hd:L'.drop i.toNat=x::L'.drop (i.toNat+1):=by
   rw [List.drop_eq_getElem_cons (by omega)]
   rw [List.getElem?_eq_getElem (by omega)] at hx
   cases hx;rfl
  rw [hd,passF] at hf
  have hoc:=ho.com x
  have hjw:=hoc.cw.1
  have hn1: ∀n,n=IntKind.i64.wrap (i+1)→n=i+1:=fun n hn=>by rw [hn,w64 (by omega)]
  have hti:(i+1).toNat=i.toNat+1:=by omega
  refine br_not (fun hb=>fun n hn=>?_) (fun hb=>fun n hn=>?_)
  ·have hn:=hn1 n hn;subst hn
   have hb:(comS c' x).1=false:=hb
   rw [if_pos hb] at hf
   exact ⟨((comS c' x).2,L',t,st,i+1),⟨rfl,hoc,by simp only [];omega,by simp only [];omega,ht,by simp only [];omega,by simp only [];omega,by simp only [hti];exact hf⟩,by simp;rfl,by simp only [];omega⟩
  ·have hb:(comS c' x).1=true:=hb
   rw [if_neg (by rw [hb];decide)] at hf
   replace hn:n=IntKind.i64.wrap (t+1):=hn
   rw [w64 (by omega)] at hn
   subst hn
   have key:br ((getJ (comS c' x).2.J.jobs x.Id).1.State==3) (st.length+1≤68719476736∧ ∀n,n=IntKind.i64.wrap (i+1)→ ∃y:Core × List Choice × Int × List Int × Int,(y.2.1=L'∧OkS y.1∧0≤y.2.2.2.2∧y.2.2.2.2≤L'.length∧0≤y.2.2.1∧y.2.2.1≤y.2.2.2.2∧(y.2.2.2.1.length:Int)≤y.2.2.2.2∧passF y.1 y.2.2.1 y.2.2.2.1 (L'.drop y.2.2.2.2.toNat)=passF c 0 [] L')∧((L'.length=y.2.1.length∧(L'.length:Int)=(y.2.1.length:Int)∧n=y.2.2.2.2)∧Sched.mk (comS c' x).2=Sched.mk y.1∧L'=y.2.1∧(L'.length=y.2.1.length∧t+1=y.2.2.1∧st.length+1=y.2.2.2.1.length)∧st++[x.Id]=y.2.2.2.1)∧(L'.length-y.2.2.2.2).toNat<(L'.length-i).toNat)
     (∀n,n=IntKind.i64.wrap (i+1)→ ∃y:Core × List Choice × Int × List Int × Int,(y.2.1=L'∧OkS y.1∧0≤y.2.2.2.2∧y.2.2.2.2≤L'.length∧0≤y.2.2.1∧y.2.2.1≤y.2.2.2.2∧(y.2.2.2.1.length:Int)≤y.2.2.2.2∧passF y.1 y.2.2.1 y.2.2.2.1 (L'.drop y.2.2.2.2.toNat)=passF c 0 [] L')∧((L'.length=y.2.1.length∧(L'.length:Int)=(y.2.1.length:Int)∧n=y.2.2.2.2)∧Sched.mk (comS c' x).2=Sched.mk y.1∧L'=y.2.1∧(L'.length=y.2.1.length∧t+1=y.2.2.1∧st.length=y.2.2.2.1.length)∧st=y.2.2.2.1)∧(L'.length-y.2.2.2.2).toNat<(L'.length-i).toNat):=by
    refine br_eq (fun h3=>⟨by omega,fun n hn=>?_⟩) (fun h3=>fun n hn=>?_)
    ·have hn:=hn1 n hn;subst hn
     rw [if_pos h3] at hf
     exact ⟨((comS c' x).2,L',t+1,st++[x.Id],i+1),⟨rfl,hoc,by simp only [];omega,by simp only [];omega,by simp only [];omega,by simp only [];omega,by simp;omega,by simp only [hti];exact hf⟩,by simp,by simp only [];omega⟩
    ·have hn:=hn1 n hn;subst hn
     rw [if_neg h3] at hf
     exact ⟨((comS c' x).2,L',t+1,st,i+1),⟨rfl,hoc,by simp only [];omega,by simp only [];omega,by simp only [];omega,by simp only [];omega,by simp only [];omega,by simp only [hti];exact hf⟩,by simp,by simp only [];omega⟩
   exact ⟨⟨hjw,key⟩,hjw,key⟩
 ·replace h2: ¬ i<(L'.length:Int):=h2
  rw [List.drop_of_length_le (by omega),passF] at hf
  rw [←hf] at hk
  exact hk
end Go.Ax.O
