import Derived.Test.YtidfnpddheobdaaGreatDoorAxO23
import Derived.Test.YtidfnpddheobdaaGreatDoorAxV9
set_option linter.all false
namespace Go.Ax.O
open Go.Ax.Sp Go.Ax.Law
theorem vTimesM {m:Model} {k:Unit→List Int × Unit→Prop} (h:oTimesM (m,()) k):V.vTimesM m k:=by
  unfold V.vTimesM V.LP V.NX V.AT V.AI V.NM V.SH V.LN
  obtain ⟨hm,hk⟩:=h
  simp only [] at hm hk
  have hl:=hm.1
  have hM: ∃R,timesM m=R:=⟨_,rfl⟩
  obtain ⟨R,hR⟩:=hM
  rw [hR] at hk
  refine ⟨fun x=>x.1=m∧0≤x.2.2∧x.2.2≤2*m.L.length∧x.2.1.length=x.2.2.toNat+1∧ ∃last,x.2.1.getLast?=some last∧x.2.1++timesF m.L (2*m.L.length-x.2.2.toNat) last=R,fun x=>(2*m.L.length-x.2.2).toNat,(m,[m.Now],0),⟨rfl,Int.le_refl _,by simp only [];omega,rfl,m.Now,rfl,by simpa [timesM] using hR⟩,⟨⟨⟨rfl,rfl,rfl,rfl,trivial⟩,⟨rfl,rfl⟩,rfl,trivial⟩,rfl,trivial⟩,?_⟩
  rintro ⟨m',out,c⟩ ⟨g1,g2,g3,g4,last,g5,g6⟩
  simp only [] at g1 g2 g3 g4 g5 g6
  subst g1
  obtain ⟨c,rfl⟩:=Int.eq_ofNat_of_zero_le g2
  rw [Int.toNat_natCast] at g4 g6
  dsimp only
  intro n hn
  rw [w64 (by omega)] at hn
  subst hn
  refine br_dec (fun hc n hn=>?_) (fun hc=>⟨rfl,?_⟩)
  · rw [w64 (by omega)] at hn
    subst hn
    have hnn:((out.length:Int)-1).toNat=c:=by omega
    rw [Nat.zero_add,hnn]
    refine ⟨⟨by omega,by omega⟩,by omega,fun e he=>?_⟩
    have hel:e=last:=by
      rw [List.getLast?_eq_getElem?,g4] at g5
      simp at g5
      rw [he] at g5;cases g5;rfl
    subst hel
    refine ⟨fun y=>y.1=m'∧y.2.1=out∧y.2.2.1=(c:Int)∧y.2.2.2.1=e∧0≤y.2.2.2.2.2∧y.2.2.2.2.2≤m'.L.length∧y.2.2.2.2.1=(m'.L.take y.2.2.2.2.2.toNat).foldl (best1 e) (-1),fun y=>(m'.L.length-y.2.2.2.2.2).toNat,(m',out,(c:Int),e,-1,0),⟨rfl,rfl,rfl,rfl,Int.le_refl _,by simp,by simp⟩,⟨⟨⟨rfl,rfl,rfl,rfl,trivial⟩,⟨rfl,rfl⟩,rfl,rfl,rfl,rfl,trivial⟩,rfl,trivial⟩,?_⟩
    rintro ⟨m2,o2,c2,l2,b,i⟩ ⟨k1,k2,k3,k4,k5,k6,k7⟩
    simp only [] at k1 k2 k3 k4 k5 k6 k7
    subst k1 k2 k3 k4
    obtain ⟨i,rfl⟩:=Int.eq_ofNat_of_zero_le k5
    rw [Int.toNat_natCast] at k7
    dsimp only
    rw [Int.toNat_natCast]
    have nx: ∀j,m2.L[i]? =some j→ ∀b2,b2=best1 l2 b j→ ∀q,q=IntKind.i64.wrap ((i:Int)+1)→ ∃y:Model × List Int × Int × Int × Int × Int,(y.1=m2∧y.2.1=o2∧y.2.2.1=(c:Int)∧y.2.2.2.1=l2∧0≤y.2.2.2.2.2∧y.2.2.2.2.2≤m2.L.length∧y.2.2.2.2.1=(m2.L.take y.2.2.2.2.2.toNat).foldl (best1 l2) (-1))∧(((m2.Now=y.1.Now∧m2.Drain=y.1.Drain∧m2.L=y.1.L∧m2.Closed=y.1.Closed∧True)∧(0=0∧o2.length=y.2.1.length)∧(c:Int)=y.2.2.1∧l2=y.2.2.2.1∧b2=y.2.2.2.2.1∧q=y.2.2.2.2.2∧True)∧o2=y.2.1∧True)∧(m2.L.length-y.2.2.2.2.2).toNat<(m2.L.length-(i:Int)).toNat:=by
      intro j hj b2 hb2 q hq
      have hil:=(List.getElem?_eq_some_iff.1 hj).1
      rw [w64 (by omega)] at hq
      subst hq
      refine ⟨(m2,o2,(c:Int),l2,b2,(i:Int)+1),⟨rfl,rfl,rfl,rfl,by simp only [];omega,by simp only [];omega,?_⟩,⟨⟨⟨rfl,rfl,rfl,rfl,trivial⟩,⟨rfl,rfl⟩,rfl,rfl,rfl,rfl,trivial⟩,rfl,trivial⟩,by simp only [];omega⟩
      simp only []
      rw [show ((i:Int)+1).toNat=i+1 by omega,fold_snoc' hj,←k7];exact hb2
    refine br_dec (fun hi=>⟨⟨k5,hi⟩,fun j hj=>?_⟩) (fun hi=>?_)
    · have hs:=(hm.job hj).sum
      refine br_eq (fun h3=>br_bool (fun hp n hn=>?_) (fun hp=>?_)) (fun h3=>br_bool (fun hp n hn=>?_) (fun hp=>?_))
      · rw [hs] at hn;subst hn
        exact nx j hj _ (by unfold best1;simp [h3,hp])
      · exact nx j hj _ (by unfold best1;simp [h3,hp])
      · rw [hs] at hn;subst hn
        exact nx j hj _ (by unfold best1;simp [h3,hp])
      · exact nx j hj _ (by unfold best1;simp [h3,hp])
    · have hil:i=m2.L.length:=by omega
      rw [hil,List.take_of_length_le (Nat.le_refl _)] at k7
      have hbt:b=bestT m2.L l2:=k7
      have htf:timesF m2.L (2*m2.L.length-c) l2=if b<0 then [] else b::timesF m2.L (2*m2.L.length-(c+1)) b:=by
        rw [show 2*m2.L.length-c=(2*m2.L.length-(c+1))+1 by omega]
        simp only [timesF];rw [hbt]
      rw [htf] at g6
      refine br_dec (fun hb=>⟨rfl,?_⟩) (fun hb=>⟨Nat.le_refl _,by omega,by omega,fun n hn=>?_⟩)
      · rw [if_pos hb,List.append_nil] at g6
        rw [←g6] at hk;exact hk
      · rw [if_neg hb] at g6
        rw [w64 (by omega)] at hn
        subst hn
        rw [tk_eq]
        refine ⟨(m2,o2++[b],(c:Int)+1),⟨rfl,by simp only [];omega,by simp only [];omega,?_,b,by simp,?_⟩,⟨⟨⟨rfl,rfl,rfl,rfl,trivial⟩,⟨rfl,by simp⟩,rfl,trivial⟩,rfl,trivial⟩,by simp only [];omega⟩
        · simp only [List.length_append,List.length_singleton];omega
        · simp only []
          rw [show ((c:Int)+1).toNat=c+1 by omega,List.append_assoc];exact g6
  · have:2*m'.L.length-c=0:=by omega
    rw [this] at g6
    simp only [timesF,List.append_nil] at g6
    rw [←g6] at hk;exact hk
theorem vStepsM {m:Model} {k:Unit→List Step × Unit→Prop} (h:oStepsM (m,()) k):V.vStepsM m k:=by
  unfold V.vStepsM V.LP V.NX V.AT V.NM V.SH V.LN
  obtain ⟨hm,hk⟩:=h
  simp only [] at hm hk
  have hl:=hm.1
  have htl:=times_len m
  unfold stepsM at hk
  refine ⟨hm,fun x=>x.1=m∧x.2.1=timesM m∧0≤x.2.2.2∧x.2.2.2≤(timesM m).length∧x.2.2.1=((timesM m).take x.2.2.2.toNat).foldl (step1 m) []∧x.2.2.1.length≤x.2.2.2.toNat,fun x=>((timesM m).length-x.2.2.2).toNat,(m,timesM m,[],0),⟨rfl,rfl,Int.le_refl _,by simp,by simp,by simp⟩,⟨⟨⟨rfl,rfl,rfl,rfl,trivial⟩,⟨rfl,rfl⟩,⟨rfl,rfl⟩,rfl,trivial⟩,rfl,rfl,trivial⟩,?_⟩
  rintro ⟨m',T,out,i⟩ ⟨g1,g2,g3,g4,g5,g6⟩
  simp only [] at g1 g2 g3 g4 g5 g6
  subst g1 g2
  obtain ⟨i,rfl⟩:=Int.eq_ofNat_of_zero_le g3
  rw [Int.toNat_natCast] at g5 g6
  dsimp only
  rw [Nat.zero_add,Int.toNat_natCast]
  have nx: ∀e,(timesM m')[i]? =some e→ ∀o2,o2=step1 m' out e→o2.length≤i+1→ ∀q,q=IntKind.i64.wrap ((i:Int)+1)→ ∃y:Model × List Int × List Step × Int,(y.1=m'∧y.2.1=timesM m'∧0≤y.2.2.2∧y.2.2.2≤(timesM m').length∧y.2.2.1=((timesM m').take y.2.2.2.toNat).foldl (step1 m') []∧y.2.2.1.length≤y.2.2.2.toNat)∧(((m'.Now=y.1.Now∧m'.Drain=y.1.Drain∧m'.L=y.1.L∧m'.Closed=y.1.Closed∧True)∧(0=0∧o2.length=y.2.2.1.length)∧(0=0∧(timesM m').length=y.2.1.length)∧q=y.2.2.2∧True)∧timesM m'=y.2.1∧o2=y.2.2.1∧True)∧((timesM m').length-y.2.2.2).toNat<((timesM m').length-(i:Int)).toNat:=by
    intro e he o2 ho2 hol q hq
    have hil:=(List.getElem?_eq_some_iff.1 he).1
    rw [w64 (by omega)] at hq
    subst hq
    refine ⟨(m',timesM m',o2,(i:Int)+1),⟨rfl,rfl,by simp only [];omega,by simp only [];omega,?_,by simp only [];omega⟩,⟨⟨⟨rfl,rfl,rfl,rfl,trivial⟩,⟨rfl,rfl⟩,⟨rfl,rfl⟩,rfl,trivial⟩,rfl,rfl,trivial⟩,by simp only [];omega⟩
    simp only []
    rw [show ((i:Int)+1).toNat=i+1 by omega,fold_snoc' he,←g5];exact ho2
  refine br_dec (fun hi=>⟨⟨g3,hi⟩,by omega,fun e he=>⟨hm,br_eq (fun h0=>?_) (fun h0=>?_)⟩⟩) (fun hi=>⟨rfl,?_⟩)
  · have ho:out=[]:=List.eq_nil_of_length_eq_zero (by omega)
    refine ⟨⟨g3,hi⟩,by omega,fun e1 he1=>⟨Nat.le_refl _,by omega,by omega,fun n hn=>?_⟩⟩
    rw [he] at he1;cases he1
    have:=nx e he (out++[⟨e,freeM m' e 0⟩]) (by rw [ho];rfl) (by rw [ho];simp) n hn
    rw [tk_eq]
    simpa using this
  · have hne:out≠[]:=fun e=>by rw [e] at h0;simp at h0
    have hpos:0<out.length:=List.length_pos_iff.2 hne
    intro n hn
    rw [w64 (by omega)] at hn
    subst hn
    have hnn:((out.length:Int)-1).toNat=out.length-1:=by omega
    rw [Nat.zero_add,hnn]
    refine ⟨⟨by omega,by omega⟩,by omega,fun s hs=>?_⟩
    have hgl:out.getLast?=some s:=by rw [List.getLast?_eq_getElem?];exact hs
    have hst:step1 m' out e=if s.Free=freeM m' e 0 then out else out++[⟨e,freeM m' e 0⟩]:=by unfold step1;rw [hgl]
    refine br_ne (fun hf=>?_) (fun hf=>?_)
    · refine ⟨⟨g3,hi⟩,by omega,fun e2 he2=>⟨Nat.le_refl _,by omega,by omega,fun n hn=>?_⟩⟩
      rw [he] at he2;cases he2
      have:=nx e he (out++[⟨e,freeM m' e 0⟩]) (by rw [hst,if_neg hf]) (by simp;omega) n hn
      rw [tk_eq]
      simpa using this
    · exact nx e he out (by rw [hst,if_pos hf]) (by omega)
  · rw [List.take_of_length_le (by omega)] at g5
    rw [←g5] at hk;exact hk
theorem vRoomM {m:Model} {a l w b:Int} {k:Unit→Bool × Unit→Prop} (h:oRoomM (m,a,l,w,b,()) k):V.vRoomM m a l w b k:=by
  unfold V.vRoomM V.LP V.NX V.AT V.NM V.SH V.LN
  obtain ⟨⟨hm,h1,h2,h3,h4⟩,hk⟩:=h
  have hm:MW m:=hm
  have h1:0≤a:=h1
  have h2:a≤1099511627776:=h2
  have h3:0≤l:=h3
  have h4:l≤1048576:=h4
  have hk:k () (roomM m a l w b,()):=hk
  have hl:=hm.1
  have htl:=times_len m
  unfold roomM at hk
  refine ⟨hm,br_dec (fun hc=>by rw [if_pos hc] at hk;exact hk) (fun hc=>?_)⟩
  rw [if_neg hc] at hk
  refine ⟨hm,fun x=>x.1=m∧x.2.1=a∧x.2.2.1=l∧x.2.2.2.1=w∧x.2.2.2.2.1=b∧x.2.2.2.2.2.1=timesM m∧0≤x.2.2.2.2.2.2∧x.2.2.2.2.2.2≤(timesM m).length∧ ∀(p:Nat) (t:Int),(p:Int)<x.2.2.2.2.2.2→(timesM m)[p]? =some t→roomOK m a l w b t=true,fun x=>((timesM m).length-x.2.2.2.2.2.2).toNat,(m,a,l,w,b,timesM m,0),⟨rfl,rfl,rfl,rfl,rfl,rfl,Int.le_refl _,by simp,fun p t hp=>by simp at hp;omega⟩,⟨⟨⟨rfl,rfl,rfl,rfl,trivial⟩,rfl,rfl,rfl,rfl,⟨rfl,rfl⟩,rfl,trivial⟩,rfl,trivial⟩,?_⟩
  rintro ⟨m',a',l',w',b',T,i⟩ ⟨g1,g2,g3,g4,g5,g6,g7,g8,g9⟩
  simp only [] at g1 g2 g3 g4 g5 g6 g7 g8 g9
  subst g1 g2 g3 g4 g5 g6
  obtain ⟨i,rfl⟩:=Int.eq_ofNat_of_zero_le g7
  dsimp only
  rw [Nat.zero_add,Int.toNat_natCast]
  have nx: ∀e,(timesM m')[i]? =some e→roomOK m' a' l' w' b' e=true→ ∀q,q=IntKind.i64.wrap ((i:Int)+1)→ ∃y:Model × Int × Int × Int × Int × List Int × Int,(y.1=m'∧y.2.1=a'∧y.2.2.1=l'∧y.2.2.2.1=w'∧y.2.2.2.2.1=b'∧y.2.2.2.2.2.1=timesM m'∧0≤y.2.2.2.2.2.2∧y.2.2.2.2.2.2≤(timesM m').length∧ ∀(p:Nat) (t:Int),(p:Int)<y.2.2.2.2.2.2→(timesM m')[p]? =some t→roomOK m' a' l' w' b' t=true)∧(((m'.Now=y.1.Now∧m'.Drain=y.1.Drain∧m'.L=y.1.L∧m'.Closed=y.1.Closed∧True)∧a'=y.2.1∧l'=y.2.2.1∧w'=y.2.2.2.1∧b'=y.2.2.2.2.1∧(0=0∧(timesM m').length=y.2.2.2.2.2.1.length)∧q=y.2.2.2.2.2.2∧True)∧timesM m'=y.2.2.2.2.2.1∧True)∧((timesM m').length-y.2.2.2.2.2.2).toNat<((timesM m').length-(i:Int)).toNat:=by
    intro e he hr q hq
    have hil:=(List.getElem?_eq_some_iff.1 he).1
    rw [w64 (by omega)] at hq
    subst hq
    refine ⟨(m',a',l',w',b',timesM m',(i:Int)+1),⟨rfl,rfl,rfl,rfl,rfl,rfl,by simp only [];omega,by simp only [];omega,fun p t hp ht=>?_⟩,⟨⟨⟨rfl,rfl,rfl,rfl,trivial⟩,rfl,rfl,rfl,rfl,⟨rfl,rfl⟩,rfl,trivial⟩,rfl,trivial⟩,by simp only [];omega⟩
    simp only [] at hp
    by_cases hpi:p=i
    · subst hpi;rw [he] at ht;cases ht;exact hr
    · exact g9 p t (by omega) ht
  refine br_dec (fun hi=>⟨⟨g7,hi⟩,by omega,fun e he=>br_dec (fun c1=>⟨⟨g7,hi⟩,by omega,fun e1 he1 n hn=>?_⟩) (fun c1=>nx e he (by unfold roomOK;simp [c1]))⟩) (fun hi=>?_)
  · rw [he] at he1;cases he1
    rw [w64 (by omega)] at hn
    subst hn
    refine br_dec (fun c2=>⟨⟨g7,hi⟩,by omega,fun e2 he2=>⟨hm,?_⟩⟩) (fun c2=>nx e he (by unfold roomOK;simp [c2]))
    rw [he] at he2;cases he2
    refine br_dec (fun c3=>?_) (fun c3=>nx e he (by unfold roomOK;simp [c3]))
    have:((timesM m').all (roomOK m' a' l' w' b'))=false:=by
      rw [List.all_eq_false]
      refine ⟨e,List.mem_of_getElem? he,?_⟩
      have c1:a'<e:=c1
      unfold roomOK;simp [c1,c2,c3]
    rw [this] at hk;exact hk
  · have:((timesM m').all (roomOK m' a' l' w' b'))=true:=by
      rw [List.all_eq_true]
      intro t ht
      obtain ⟨p,hp⟩:=List.getElem?_of_mem ht
      exact g9 p t (by have:=(List.getElem?_eq_some_iff.1 hp).1;omega) hp
    rw [this] at hk;exact hk
theorem getM_cases (m:Model) (n:Int):((n<1∨(m.L.length:Int)<n)∧getM m n=(job0,false))∨ ∃(i:Nat) (j:Job),n=(i:Int)+1∧m.L[i]? =some j∧getM m n=(j,true):=by
  by_cases h:n<1∨(m.L.length:Int)<n
  · left;exact ⟨h,by unfold getM;rw [if_pos h]⟩
  · right
    obtain ⟨i,hi⟩:=Int.eq_ofNat_of_zero_le (show 0≤n-1 by omega)
    have hl:i<m.L.length:=by omega
    refine ⟨i,m.L[i],by omega,List.getElem?_eq_getElem hl,?_⟩
    unfold getM
    rw [if_neg h,show (n-1).toNat=i by omega,List.getElem?_eq_getElem hl]
theorem vGetM {m:Model} {n:Int} {k:Unit→Job × Bool × Unit→Prop} (h:oGetM (m,n,()) k):V.vGetM m n k:=by
  unfold V.vGetM V.AI V.NM V.SH V.LN
  obtain ⟨hm,hk⟩:=h
  simp only [] at hm hk
  have hl:=hm.1
  rcases getM_cases m n with ⟨c,e⟩ |⟨i,j,c,hj,e⟩
  · rw [e] at hk
    refine br_dec (fun _=>hk) (fun h1=>br_dec (fun _=>hk) (fun h2=>by omega))
  · rw [e] at hk
    have hil:=(List.getElem?_eq_some_iff.1 hj).1
    refine br_dec (fun _=>by omega) (fun h1=>br_dec (fun _=>by omega) (fun h2 q hq=>?_))
    rw [w64 (by omega)] at hq
    subst hq
    refine ⟨⟨by omega,by omega⟩,fun x hx=>?_⟩
    rw [show (n-1).toNat=i by omega,hj] at hx;cases hx
    exact hk
theorem vFitsM {m:Model} {x:Choice} {k:Unit→Bool × Unit→Prop} (h:oFitsM (m,x,()) k):V.vFitsM m x k:=by
  unfold V.vFitsM V.SH
  obtain ⟨hm,hk⟩:=h
  simp only [] at hm hk
  unfold fitsM at hk
  simp only [] at hk
  have no: ∀{P:Prop},P→P=(m.Closed=true∨(getM m x.Id).2=false∨(getM m x.Id).1.State≠1∨x.At<m.Now∨1099511627776<x.At∨(0≤(getM m x.Id).1.Plan∧(getM m x.Id).1.Plan≤x.At))→k () (false,()):=fun hp e=>by
    rw [if_pos (e▸hp)] at hk;exact hk
  have no:(m.Closed=true∨(getM m x.Id).2=false∨(getM m x.Id).1.State≠1∨x.At<m.Now∨1099511627776<x.At∨(0≤(getM m x.Id).1.Plan∧(getM m x.Id).1.Plan≤x.At))→k () (false,()):=fun hp=>no hp rfl
  have hn:=hm.2.2.2
  have hj:(getM m x.Id).2=true→MJ (getM m x.Id).1:=fun hg=>by
    rcases getM_cases m x.Id with ⟨c,e⟩ |⟨i,j,c,hj,e⟩
    · rw [e] at hg;cases hg
    · rw [e];exact hm.job hj
  refine ⟨hm,br_bool (fun c1=>no (.inl c1)) (fun c1=>br_not (fun c2=>no (.inr (.inl c2))) (fun c2=>br_ne (fun c3=>no (.inr (.inr (.inl c3)))) (fun c3=>br_dec (fun c4=>no (.inr (.inr (.inr (.inl c4))))) (fun c4=>br_dec (fun c5=>no (.inr (.inr (.inr (.inr (.inl c5)))))) (fun c5=>?_)))))⟩
  have hJ:=hj c2
  have fin: ¬ (0≤(getM m x.Id).1.Plan∧(getM m x.Id).1.Plan≤x.At)→(MW m∧0≤x.At∧x.At≤1099511627776∧0≤(getM m x.Id).1.Limit∧(getM m x.Id).1.Limit≤1048576)∧k () (roomM m x.At (getM m x.Id).1.Limit (getM m x.Id).1.Width (getM m x.Id).1.Id,()):=fun c6=>by
    rw [if_neg (fun g=>by
      rcases g with g |g |g |g |g |g
      · rw [c1] at g;cases g
      · rw [c2] at g;cases g
      · exact g c3
      · exact c4 g
      · exact c5 g
      · exact c6 g)] at hk
    exact ⟨⟨hm,by omega,by omega,hJ.2.2.2.2.2.1,hJ.2.2.2.2.2.2.1⟩,hk⟩
  exact br_dec (fun c6=>br_dec (fun c7=>no (.inr (.inr (.inr (.inr (.inr ⟨c6,c7⟩)))))) (fun c7=>fin (fun g=>c7 g.2))) (fun c6=>fin (fun g=>c6 g.1))
theorem vAhead {a b:Job} {k:Unit→Bool × Unit→Prop} (h:oAhead (a,b,()) k):V.vAhead a b k:=by
  have h:k () (aheadJ a b,()):=h
  unfold aheadJ at h
  refine br_dec (fun h1=>?_) (fun h1=>br_eq (fun h2=>?_) (fun h2=>?_))
  · have h1:b.Prio<a.Prio:=h1
    simpa [h1] using h
  · have h1: ¬ b.Prio<a.Prio:=h1
    simpa [h2] using h
  · have h1: ¬ b.Prio<a.Prio:=h1
    simpa [h1,h2] using h
theorem vTell {j:Job} {k:Unit→Reply × Unit→Prop} (h:oTell (j,()) k):V.vTell j k:=h
theorem vNewM {n:Int} {k:Unit→Model × Unit→Prop} (h:oNewM (n,()) k):V.vNewM n k:=by
  obtain ⟨⟨h0,h1⟩,hk⟩:=h
  have h0:0≤n:=h0
  have h1:n≤1000:=h1
  have hk:k () (newM n,()):=hk
  refine ⟨⟨h0,Int.le_refl _,by omega⟩,by simp,?_⟩
  rw [List.drop_zero,List.take_of_length_le (by simp)]
  exact hk
theorem vLiveM {m:Model} {k:Unit→Int × Unit→Prop} (h:oLiveM (m,()) k):V.vLiveM m k:=by
  unfold V.vLiveM V.LP V.NX V.AI V.NM V.LN
  obtain ⟨hm,hk⟩:=h
  simp only [] at hm hk
  have hl:=hm.1
  have hb: ∀q,0≤liveN (m.L.take q)∧liveN (m.L.take q)≤1024:=fun q=>by
    have h1:(m.L.take q).countP liveJ≤(m.L.take q).length:=List.countP_le_length
    have h2:(m.L.take q).length≤m.L.length:=by simp;omega
    unfold liveN;omega
  refine ⟨fun x=>x.1=m∧0≤x.2.2∧x.2.2≤m.L.length∧x.2.1=liveN (m.L.take x.2.2.toNat),fun x=>(m.L.length-x.2.2).toNat,(m,0,0),⟨rfl,Int.le_refl _,by simp,by simp [liveN]⟩,⟨⟨⟨rfl,rfl,rfl,rfl,trivial⟩,rfl,rfl,trivial⟩,trivial⟩,?_⟩
  rintro ⟨m',c,i⟩ ⟨g1,g2,g3,g4⟩
  simp only [] at g1 g2 g3 g4
  subst g1
  obtain ⟨i,rfl⟩:=Int.eq_ofNat_of_zero_le g2
  rw [Int.toNat_natCast] at g4
  have hb1:=hb i
  dsimp only
  rw [Int.toNat_natCast]
  have nx: ∀e,m'.L[i]? =some e→ ∀c2,c2=c+(if liveJ e then 1 else 0)→ ∀q,q=IntKind.i64.wrap ((i:Int)+1)→ ∃y:Model × Int × Int,(y.1=m'∧0≤y.2.2∧y.2.2≤m'.L.length∧y.2.1=liveN (m'.L.take y.2.2.toNat))∧(((m'.Now=y.1.Now∧m'.Drain=y.1.Drain∧m'.L=y.1.L∧m'.Closed=y.1.Closed∧True)∧c2=y.2.1∧q=y.2.2∧True)∧True)∧(m'.L.length-y.2.2).toNat<(m'.L.length-(i:Int)).toNat:=by
    intro e he c2 hc2 q hq
    have hil:=(List.getElem?_eq_some_iff.1 he).1
    rw [w64 (by omega)] at hq
    subst hq
    refine ⟨(m',c2,(i:Int)+1),⟨rfl,by simp only [];omega,by simp only [];omega,?_⟩,⟨⟨⟨rfl,rfl,rfl,rfl,trivial⟩,rfl,rfl,trivial⟩,trivial⟩,by simp only [];omega⟩
    simp only []
    rw [show ((i:Int)+1).toNat=i+1 by omega,take_snoc' he,liveN_append,hc2,g4]
  refine br_dec (fun hi=>⟨⟨g2,hi⟩,fun e he=>br_dec (fun h4 q hq=>?_) (fun h4=>nx e he c (by simp [liveJ,h4]))⟩) (fun hi=>?_)
  · rw [w64 (by omega)] at hq
    subst hq
    exact nx e he _ (by simp [liveJ,h4])
  · rw [List.take_of_length_le (by omega)] at g4
    rw [←g4] at hk;exact hk
theorem vNextM {m:Model} {k:Unit→Int × Unit→Prop} (h:oNextM (m,()) k):V.vNextM m k:=by
  unfold V.vNextM V.LP V.NX V.AI V.NM V.SH V.LN
  obtain ⟨hm,hk⟩:=h
  simp only [] at hm hk
  have hl:=hm.1
  unfold nextM at hk
  refine ⟨fun x=>x.1=m∧0≤x.2.2∧x.2.2≤m.L.length∧x.2.1=(m.L.take x.2.2.toNat).foldl (next1 m.Now) (-1),fun x=>(m.L.length-x.2.2).toNat,(m,-1,0),⟨rfl,Int.le_refl _,by simp,by simp⟩,⟨⟨⟨rfl,rfl,rfl,rfl,trivial⟩,rfl,rfl,trivial⟩,trivial⟩,?_⟩
  rintro ⟨m',c,i⟩ ⟨g1,g2,g3,g4⟩
  simp only [] at g1 g2 g3 g4
  subst g1
  obtain ⟨i,rfl⟩:=Int.eq_ofNat_of_zero_le g2
  rw [Int.toNat_natCast] at g4
  dsimp only
  rw [Int.toNat_natCast]
  have nx: ∀e,m'.L[i]? =some e→ ∀c2,c2=next1 m'.Now c e→ ∀q,q=IntKind.i64.wrap ((i:Int)+1)→ ∃y:Model × Int × Int,(y.1=m'∧0≤y.2.2∧y.2.2≤m'.L.length∧y.2.1=(m'.L.take y.2.2.toNat).foldl (next1 m'.Now) (-1))∧(((m'.Now=y.1.Now∧m'.Drain=y.1.Drain∧m'.L=y.1.L∧m'.Closed=y.1.Closed∧True)∧c2=y.2.1∧q=y.2.2∧True)∧True)∧(m'.L.length-y.2.2).toNat<(m'.L.length-(i:Int)).toNat:=by
    intro e he c2 hc2 q hq
    have hil:=(List.getElem?_eq_some_iff.1 he).1
    rw [w64 (by omega)] at hq
    subst hq
    refine ⟨(m',c2,(i:Int)+1),⟨rfl,by simp only [];omega,by simp only [];omega,?_⟩,⟨⟨⟨rfl,rfl,rfl,rfl,trivial⟩,rfl,rfl,trivial⟩,trivial⟩,by simp only [];omega⟩
    simp only []
    rw [show ((i:Int)+1).toNat=i+1 by omega,fold_snoc' he,←g4];exact hc2
  refine br_dec (fun hi=>⟨⟨g2,hi⟩,fun e he=>br_eq (fun h3=>⟨⟨g2,hi⟩,fun e1 he1=>⟨⟨⟨g2,hi⟩,fun e2 he2=>?_⟩,trivial⟩⟩) (fun h3=>⟨⟨g2,hi⟩,fun e1 he1=>?_⟩)⟩) (fun hi=>?_)
  · rw [he] at he1 he2;cases he1;cases he2
    refine br_bool (fun hp=>⟨⟨g2,hi⟩,fun e3 he3=>⟨?_,trivial⟩⟩) (fun hp=>nx e he _ (by unfold next1;simp [h3,hp]))
    rw [he] at he3;cases he3
    exact nx e he _ (by unfold next1;simp [h3,hp])
  · rw [he] at he1;cases he1
    refine br_bool (fun hp=>⟨⟨g2,hi⟩,fun e3 he3=>⟨?_,trivial⟩⟩) (fun hp=>nx e he _ (by unfold next1;simp [h3,hp]))
    rw [he] at he3;cases he3
    exact nx e he _ (by unfold next1;simp [h3,hp])
  · rw [List.take_of_length_le (by omega)] at g4
    rw [←g4] at hk;exact hk
end Go.Ax.O
namespace Go.Ax.Law
theorem MW.now {m:Model} (h:MW m) {t:Int} (h0:0≤t) (h1:t≤1099511627776):MW {m with Now:=t}:=⟨h.1,h.2.1,h.2.2.1,h0,h1,h.2.2.2.2.2⟩
theorem MW.map {m:Model} (h:MW m) {f:Job→Job} (hf: ∀j,MJ j→MJ (f j)):MW {m with L:=m.L.map f}:=
  ⟨by simpa using h.1,h.2.1,h.2.2.1,h.2.2.2.1,h.2.2.2.2.1,fun j hj=>by
    obtain ⟨x,hx,rfl⟩:=List.mem_map.1 hj
    exact hf x (h.2.2.2.2.2 x hx)⟩
theorem MJ.drop {j:Job} (h:MJ j) (a:Job):MJ (dropJ a j):=by
  unfold dropJ
  split
  · obtain ⟨h1,h2,h3,h4,h5,h6⟩:=h
    exact ⟨h1,h2,h3,by simp,by simp,h6⟩
  · exact h
theorem MJ.over {j:Job} (h:MJ j) (t:Int):MJ (overJ t j):=by
  unfold overJ
  split
  · obtain ⟨h1,h2,h3,h6⟩:=h
    exact ⟨h1,by simp,by simp,h6⟩
  · exact h
theorem MW.drain {m:Model} (h:MW m) (i:Nat) (b:Bool):MW {m with Drain:=m.Drain.set i b}:=⟨h.1,by simpa using h.2.1,by simpa using h.2.2.1,h.2.2.2⟩
theorem pick_U64 {p:Nat→Bool} {w:Int} (hw:0≤w) {n:Nat} (hn:n≤64):U64 (pickN p w n).1:=by
  obtain ⟨_,a,h1,h2,_⟩:=pickN_bits (p:=p) hw n hn
  rw [h2]
  have:(2:Nat)^n≤2^64:=Nat.pow_le_pow_right (by decide) hn
  have e:(2:Nat)^64=18446744073709551616:=by decide
  exact U64.nat (by omega)
theorem MW.begin {m:Model} (h:MW m) (i:Int):MW (beginM m i):=by
  unfold beginM
  split
  · rename_i j hj
    have hJ:=h.job hj
    obtain ⟨h1,h2,h3,h4,h5,h6,h7,h8,h9,h10⟩:=hJ
    have hn:=h.2.2.2
    refine h.set _ ⟨pick_U64 h8 h.2.2.1,by simp [beginJm],by simp [beginJm],by simp [beginJm],by simp [beginJm],h6,h7,h8,h9,?_⟩
    simp only [beginJm];omega
  · exact h
theorem begin_now (m:Model) (i:Int):(beginM m i).Now=m.Now∧(beginM m i).L.length=m.L.length:=by
  unfold beginM;split<;>simp
theorem MW.beginF: ∀(f:Nat) {m:Model},MW m→MW (Law.beginF f m)∧(Law.beginF f m).L.length=m.L.length
  |0,_,h=>⟨h,rfl⟩
  |f+1,m,h=>by
    simp only [Law.beginF]
    split
    · obtain ⟨a,b⟩:=MW.beginF f (h.begin (selN m.Now m.L m.L.length))
      exact ⟨a,b.trans (begin_now _ _).2⟩
    · exact MW.beginF f h
theorem MW.happen {m:Model} (h:MW m):MW (happenM m)∧(happenM m).L.length=m.L.length:=by
  obtain ⟨a,b⟩:=MW.beginF m.L.length (h.map (f:=overJ m.Now) fun j hj=>hj.over m.Now)
  exact ⟨a,b.trans (by simp)⟩
theorem MW.dropM {m:Model} (h:MW m) (j:Job):MW (Law.dropM m j):=h.map fun _ hx=>hx.drop j
def upTo {α:Type} (f:α→α) (l:List α) (i:Nat):List α:=(l.take i).map f++l.drop i
theorem upTo_len {α:Type} (f:α→α) (l:List α) (i:Nat):(upTo f l i).length=l.length:=by simp [upTo];omega
theorem upTo_get {α:Type} {f:α→α} {l:List α} {i:Nat}:(upTo f l i)[i]? =l[i]? :=by
  unfold upTo
  by_cases hi:i≤l.length
  · rw [List.getElem?_append_right (by simp;omega)]
    simp [show min i l.length=i by omega]
  · rw [List.getElem?_eq_none (by simp;omega),List.getElem?_eq_none (by omega)]
theorem upTo_set {α:Type} {f:α→α} {l:List α} {i:Nat} {e:α} (he:l[i]? =some e):(upTo f l i).set i (f e)=upTo f l (i+1):=by
  have hi:=(List.getElem?_eq_some_iff.1 he).1
  unfold upTo
  rw [Go.Ax.O.take_snoc' he,List.map_append,List.append_assoc,List.set_append_right _ _ (by simp;omega)]
  congr 1
  have:i-((l.take i).map f).length=0:=by simp;omega
  rw [this,List.drop_eq_getElem_cons hi]
  rfl
theorem upTo_same {α:Type} {f:α→α} {l:List α} {i:Nat} {e:α} (he:l[i]? =some e) (hf:f e=e):upTo f l i=upTo f l (i+1):=by
  rw [←upTo_set he,hf]
  apply List.ext_getElem?
  intro p
  rw [List.getElem?_set]
  split
  · rename_i hp;subst hp
    rw [upTo_get,he,if_pos (by rw [upTo_len];exact (List.getElem?_eq_some_iff.1 he).1)]
  · rfl
theorem upTo_all {α:Type} (f:α→α) (l:List α):upTo f l l.length=l.map f:=by simp [upTo]
theorem upTo_zero {α:Type} (f:α→α) (l:List α):upTo f l 0=l:=by simp [upTo]
end Go.Ax.Law
namespace Go.Ax.O
open Go.Ax.Sp Go.Ax.Law
theorem vDropM {m:Model} {j:Job} {k:Model × Unit→Unit→Prop} (h:oDropM (m,j,()) k):V.vDropM m j k:=by
  obtain ⟨hm,hk⟩:=h
  have hm:MW m:=hm
  have hk:k (dropM m j,()) ():=hk
  have hl:=hm.1
  unfold V.vDropM V.vDropM_2 V.vDropM_1 V.LP V.NX V.AT V.NM V.SH V.LN
  simp only [tk_eq,tkset,Nat.zero_add,Nat.le_refl,true_and,and_true,List.length_set]
  refine ⟨fun x=>x.2.1=j∧0≤x.2.2∧x.2.2≤m.L.length∧x.1={m with L:=upTo (dropJ j) m.L x.2.2.toNat},fun x=>(m.L.length-x.2.2).toNat,(m,j,0),⟨rfl,Int.le_refl _,by simp,by simp [upTo_zero]⟩,by simp,?_⟩
  rintro ⟨m',j',i⟩ ⟨g1,g2,g3,g4⟩
  simp only [] at g1 g2 g3 g4
  subst g1
  obtain ⟨i,rfl⟩:=Int.eq_ofNat_of_zero_le g2
  rw [Int.toNat_natCast] at g4
  subst g4
  dsimp only
  rw [Int.toNat_natCast,upTo_len]
  have nx: ∀L2,L2=upTo (dropJ j') m.L (i+1)→(i:Int)<m.L.length→ ∀q,q=IntKind.i64.wrap ((i:Int)+1)→ ∃y:Model × Job × Int,(y.2.1=j'∧0≤y.2.2∧y.2.2≤m.L.length∧y.1={m with L:=upTo (dropJ j') m.L y.2.2.toNat})∧(q=y.2.2∧{m with L:=L2}=y.1∧(j'.Id=y.2.1.Id∧j'.User=y.2.1.User∧j'.Width=y.2.1.Width∧j'.Limit=y.2.1.Limit∧j'.Prio=y.2.1.Prio∧j'.State=y.2.1.State∧j'.Start=y.2.1.Start∧j'.End=y.2.1.End∧j'.Plan=y.2.1.Plan∧j'.Nodes=y.2.1.Nodes))∧(m.L.length-y.2.2).toNat<(m.L.length-(i:Int)).toNat:=by
    intro L2 hL2 hi q hq
    rw [w64 (by omega)] at hq
    subst hq hL2
    exact ⟨({m with L:=upTo (dropJ j') m.L (i+1)},j',(i:Int)+1),⟨rfl,by simp only [];omega,by simp only [];omega,by simp only [];rw [show ((i:Int)+1).toNat=i+1 by omega]⟩,by simp,by simp only [];omega⟩
  refine br_dec (fun hi=>⟨⟨g2,hi⟩,by omega,fun e he=>?_⟩) (fun hi=>?_)
  · rw [upTo_get] at he
    refine br_bool (fun hp=>br_eq (fun h0=>⟨⟨g2,hi⟩,by omega,fun e1 he1=>?_⟩) (fun h0=>br_bool (fun ha=>⟨⟨g2,hi⟩,by omega,fun e1 he1=>?_⟩) (fun ha=>?_))) (fun hp=>?_)
    · exact nx _ (by rw [←upTo_set he];unfold dropJ;rw [if_pos (by simp [hp,h0])]) hi
    · exact nx _ (by rw [←upTo_set he];unfold dropJ;rw [if_pos (by simp [hp,ha])]) hi
    · exact nx _ (upTo_same he (by unfold dropJ;rw [if_neg (by simp [hp,h0,ha])])) hi
    · exact nx _ (upTo_same he (by unfold dropJ;rw [if_neg (by simp [hp])])) hi
  · have:i=m.L.length:=by omega
    rw [this,upTo_all];exact hk
theorem vBeginM {m:Model} {n:Int} {k:Model × Unit→Unit→Prop} (h:oBeginM (m,n,()) k):V.vBeginM m n k:=by
  obtain ⟨⟨hm,h0,h1⟩,hk⟩:=h
  have hm:MW m:=hm
  have h0:0≤n:=h0
  have h1:n<m.L.length:=h1
  have hk:k (beginM m n,()) ():=hk
  have hd:=hm.2.2.1
  have hnow:=hm.2.2.2
  unfold V.vBeginM V.vBeginM_1 V.LP V.NX V.AT V.NM V.SH V.LN
  simp only [tk_eq,tkset,Nat.zero_add,Nat.le_refl,true_and,and_true,List.length_set]
  refine ⟨⟨h0,h1⟩,by omega,fun e he=>?_⟩
  have hJ:=hm.job he
  have hw:=hJ.2.2.2.2.2.2.2
  have hlm:=hJ.2.2.2.2.2
  unfold beginM at hk
  rw [he] at hk
  simp only [beginJm] at hk
  refine ⟨fun x=>x.1=m∧x.2.1=n∧x.2.2.1=e∧0≤x.2.2.2.2.2.2∧x.2.2.2.2.2.2≤m.Drain.length∧(x.2.2.2.1,x.2.2.2.2.2.1)=pickN (idleM m) e.Width x.2.2.2.2.2.2.toNat∧(x.2.2.2.2.2.2<64→x.2.2.2.2.1=((2^x.2.2.2.2.2.2.toNat:Nat):Int)),fun x=>(m.Drain.length-x.2.2.2.2.2.2).toNat,(m,n,e,0,1,0,0),⟨rfl,rfl,rfl,Int.le_refl _,by simp,rfl,fun _=>rfl⟩,by simp,?_⟩
  rintro ⟨m',n',e',s,u,c,i⟩ ⟨g1,g2,g3,g4,g5,g6,g7⟩
  simp only [] at g1 g2 g3 g4 g5 g6 g7
  subst g1 g2 g3
  obtain ⟨i,rfl⟩:=Int.eq_ofNat_of_zero_le g4
  rw [Int.toNat_natCast] at g6 g7
  obtain ⟨p1,a,p2,p3,p4⟩:=pickN_bits (p:=idleM m') (w:=e'.Width) hw.1 i (by omega)
  have hs:s=(pickN (idleM m') e'.Width i).1:=congrArg Prod.fst g6
  have hc:c=(pickN (idleM m') e'.Width i).2:=congrArg Prod.snd g6
  have hcb:=cntN_le (idleM m') i
  have hcn:=cntN_nonneg (idleM m') i
  dsimp only
  have nx: ∀s2 c2,(s2,c2)=pickN (idleM m') e'.Width (i+1)→(i:Int)<m'.Drain.length→ ∀u2,u2=IntKind.u64.wrap (2*u)→ ∀q,q=IntKind.i64.wrap ((i:Int)+1)→ ∃y:Model × Int × Job × Int × Int × Int × Int,(y.1=m'∧y.2.1=n'∧y.2.2.1=e'∧0≤y.2.2.2.2.2.2∧y.2.2.2.2.2.2≤m'.Drain.length∧(y.2.2.2.1,y.2.2.2.2.2.1)=pickN (idleM m') e'.Width y.2.2.2.2.2.2.toNat∧(y.2.2.2.2.2.2<64→y.2.2.2.2.1=((2^y.2.2.2.2.2.2.toNat:Nat):Int)))∧((n'=y.2.1∧s2=y.2.2.2.1∧u2=y.2.2.2.2.1∧c2=y.2.2.2.2.2.1∧q=y.2.2.2.2.2.2)∧{Now:=m'.Now,Drain:=m'.Drain,L:=m'.L,Closed:=m'.Closed}=y.1∧(e'.Id=y.2.2.1.Id∧e'.User=y.2.2.1.User∧e'.Width=y.2.2.1.Width∧e'.Limit=y.2.2.1.Limit∧e'.Prio=y.2.2.1.Prio∧e'.State=y.2.2.1.State∧e'.Start=y.2.2.1.Start∧e'.End=y.2.2.1.End∧e'.Plan=y.2.2.1.Plan∧e'.Nodes=y.2.2.1.Nodes))∧(m'.Drain.length-y.2.2.2.2.2.2).toNat<(m'.Drain.length-(i:Int)).toNat:=by
    intro s2 c2 hsc hi u2 hu2 q hq
    rw [w64 (by omega)] at hq
    subst hq
    refine ⟨(m',n',e',s2,u2,c2,(i:Int)+1),⟨rfl,rfl,rfl,by simp only [];omega,by simp only [];omega,?_,fun h64=>?_⟩,by simp,by simp only [];omega⟩
    · simp only [];rw [show ((i:Int)+1).toNat=i+1 by omega];exact hsc
    · simp only [] at h64 ⊢
      rw [g7 (by omega)] at hu2
      rw [show ((i:Int)+1).toNat=i+1 by omega,hu2]
      have hp:(2:Nat)^(i+1)≤2^63:=Nat.pow_le_pow_right (by decide) (by omega)
      have e63:(2:Nat)^63=9223372036854775808:=by decide
      have ep:(2:Nat)^(i+1)=2*2^i:=by rw [Nat.pow_succ];omega
      rw [show (2:Int)*((2^i:Nat):Int)=((2^(i+1):Nat):Int) by rw [ep];omega,wuN (by omega)]
  have hpick:pickN (idleM m') e'.Width (i+1)=if c<e'.Width∧idleM m' i=true then (s+((2^i:Nat):Int),c+1) else (s,c):=by
    simp only [pickN]
    rw [←hc,←hs]
    split
    · rfl
    · rw [hs,hc]
  refine br_dec (fun hi=>br_dec (fun hcw=>⟨hm,br_eq (fun hst v hv v2 hv2 u2 hu2 q hq=>?_) (fun hst u2 hu2 q hq=>?_)⟩) (fun hcw u2 hu2 q hq=>?_)) (fun hi v hv=>?_)
  · have hu:=g7 (by omega)
    have hp:(2:Nat)^i≤2^63:=Nat.pow_le_pow_right (by decide) (by omega)
    have e63:(2:Nat)^63=9223372036854775808:=by decide
    rw [hs,p3,hu,show ((a:Nat):Int)+((2^i:Nat):Int)=((a+2^i:Nat):Int) by omega,wuN (by omega)] at hv
    rw [w64 (by omega)] at hv2
    subst hv hv2
    refine nx _ _ ?_ hi u2 hu2 q hq
    rw [hpick,if_pos ⟨hcw,by unfold idleM;exact decide_eq_true hst⟩,hs,p3]
    congr 1
  · exact nx s c (by rw [hpick,if_neg (fun g=>hst (by have:=g.2;unfold idleM at this;exact of_decide_eq_true this))]) hi u2 hu2 q hq
  · exact nx s c (by rw [hpick,if_neg (fun g=>hcw g.1)]) hi u2 hu2 q hq
  · rw [w64 (by omega)] at hv
    subst hv
    refine ⟨⟨h0,h1⟩,by omega,fun e2 he2=>?_⟩
    have hid:i=m'.Drain.length:=by omega
    rw [hs,hid]
    exact hk
theorem vHapM {m:Model} {k:Model × Unit→Unit→Prop} (h:oHapM (m,()) k):V.vHapM m k:=by
  obtain ⟨hm,hk⟩:=h
  have hm:MW m:=hm
  have hk:k (happenM m,()) ():=hk
  have hl:=hm.1
  unfold happenM at hk
  unfold V.vHapM V.vHapM_3 V.vHapM_2 V.vHapM_1 V.LP V.NX V.AT V.NM V.SH V.LN
  simp only [tk_eq,tkset,Nat.zero_add,Nat.le_refl,true_and,and_true,List.length_set]
  refine ⟨fun x=>0≤x.2∧x.2≤m.L.length∧x.1={m with L:=upTo (overJ m.Now) m.L x.2.toNat},fun x=>(m.L.length-x.2).toNat,(m,0),⟨Int.le_refl _,by simp,by simp [upTo_zero]⟩,by simp,?_⟩
  rintro ⟨m',i⟩ ⟨g2,g3,g4⟩
  simp only [] at g2 g3 g4
  obtain ⟨i,rfl⟩:=Int.eq_ofNat_of_zero_le g2
  rw [Int.toNat_natCast] at g4
  subst g4
  dsimp only
  rw [Int.toNat_natCast,upTo_len]
  have nx: ∀L2,L2=upTo (overJ m.Now) m.L (i+1)→(i:Int)<m.L.length→ ∀q,q=IntKind.i64.wrap ((i:Int)+1)→ ∃y:Model × Int,(0≤y.2∧y.2≤m.L.length∧y.1={m with L:=upTo (overJ m.Now) m.L y.2.toNat})∧(q=y.2∧{m with L:=L2}=y.1)∧(m.L.length-y.2).toNat<(m.L.length-(i:Int)).toNat:=by
    intro L2 hL2 hi q hq
    rw [w64 (by omega)] at hq
    subst hq hL2
    exact ⟨({m with L:=upTo (overJ m.Now) m.L (i+1)},(i:Int)+1),⟨by simp only [];omega,by simp only [];omega,by simp only [];rw [show ((i:Int)+1).toNat=i+1 by omega]⟩,by simp,by simp only [];omega⟩
  refine br_dec (fun hi=>⟨⟨g2,hi⟩,by omega,fun e he=>?_⟩) (fun hi=>?_)
  · rw [upTo_get] at he
    refine br_eq (fun h3=>br_eq (fun hen=>⟨⟨g2,hi⟩,by omega,fun e1 he1=>?_⟩) (fun hen=>?_)) (fun h3=>?_)
    · exact nx _ (by rw [←upTo_set he];unfold overJ;rw [if_pos ⟨h3,hen⟩]) hi
    · exact nx _ (upTo_same he (by unfold overJ;rw [if_neg (fun g=>hen g.2)])) hi
    · exact nx _ (upTo_same he (by unfold overJ;rw [if_neg (fun g=>h3 g.1)])) hi
  · have hil:i=m.L.length:=by omega
    rw [hil,upTo_all]
    have hm1:=hm.map (f:=overJ m.Now) fun j hj=>hj.over m.Now
    generalize hM1:({m with L:=m.L.map (overJ m.Now)}:Model)=M1 at hk hm1
    have hlen:M1.L.length=m.L.length:=by rw [←hM1];simp
    generalize hR:beginF m.L.length M1=R at hk
    refine ⟨fun x=>MW x.1∧x.1.L.length=m.L.length∧0≤x.2∧x.2≤m.L.length∧beginF (m.L.length-x.2.toNat) x.1=R,fun x=>(m.L.length-x.2).toNat,(M1,0),⟨hm1,hlen,Int.le_refl _,by simp,by simpa using hR⟩,by simp,?_⟩
    rintro ⟨m2,c⟩ ⟨k1,k2,k3,k4,k5⟩
    simp only [] at k1 k2 k3 k4 k5
    obtain ⟨c,rfl⟩:=Int.eq_ofNat_of_zero_le k3
    rw [Int.toNat_natCast] at k5
    dsimp only
    refine br_dec (fun hc=>?_) (fun hc=>?_)
    · refine ⟨fun y=>y.1=m2∧y.2.1=(c:Int)∧0≤y.2.2.2∧y.2.2.2≤m2.L.length∧y.2.2.1=selN m2.Now m2.L y.2.2.2.toNat,fun y=>(m2.L.length-y.2.2.2).toNat,(m2,(c:Int),-1,0),⟨rfl,rfl,Int.le_refl _,by simp,rfl⟩,by simp,?_⟩
      rintro ⟨m3,c3,f,p⟩ ⟨q1,q2,q3,q4,q5⟩
      simp only [] at q1 q2 q3 q4 q5
      subst q1 q2
      obtain ⟨p,rfl⟩:=Int.eq_ofNat_of_zero_le q3
      rw [Int.toNat_natCast] at q5
      have hsel: ∀z,z≤m3.L.length→selN m3.Now m3.L z= -1∨ ∃i:Nat,i<z∧selN m3.Now m3.L z=(i:Int):=by
        intro z
        induction z with
        |zero=>intro _;exact .inl rfl
        |succ z ih=>
          intro hz
          simp only [selN]
          split
          · split
            · exact .inr ⟨z,by omega,rfl⟩
            · rcases ih (by omega) with e |⟨i,h1,h2⟩
              · exact .inl e
              · exact .inr ⟨i,by omega,h2⟩
          · rcases ih (by omega) with e |⟨i,h1,h2⟩
            · exact .inl e
            · exact .inr ⟨i,by omega,h2⟩
      dsimp only
      rw [Int.toNat_natCast]
      have nx2: ∀f2,f2=selN m3.Now m3.L (p+1)→(p:Int)<m3.L.length→ ∀q,q=IntKind.i64.wrap ((p:Int)+1)→ ∃y:Model × Int × Int × Int,(y.1=m3∧y.2.1=(c:Int)∧0≤y.2.2.2∧y.2.2.2≤m3.L.length∧y.2.2.1=selN m3.Now m3.L y.2.2.2.toNat)∧(((c:Int)=y.2.1∧f2=y.2.2.1∧q=y.2.2.2)∧{Now:=m3.Now,Drain:=m3.Drain,L:=m3.L,Closed:=m3.Closed}=y.1)∧(m3.L.length-y.2.2.2).toNat<(m3.L.length-(p:Int)).toNat:=by
        intro f2 hf2 hp q hq
        rw [w64 (by omega)] at hq
        subst hq
        exact ⟨(m3,(c:Int),f2,(p:Int)+1),⟨rfl,rfl,by simp only [];omega,by simp only [];omega,by simp only [];rw [show ((p:Int)+1).toNat=p+1 by omega];exact hf2⟩,by simp,by simp only [];omega⟩
      refine br_dec (fun hp=>⟨⟨q3,hp⟩,by omega,fun e he=>?_⟩) (fun hp=>?_)
      · have hs1:selN m3.Now m3.L (p+1)=if dueJ m3.Now e=true∧(f<0∨aheadJ e (m3.L.getD f.toNat job0)=true) then (p:Int) else f:=by
          simp only [selN];rw [he,←q5]
        refine br_bool (fun hpl=>⟨⟨q3,hp⟩,by omega,fun e1 he1=>br_eq (fun hpn=>br_dec (fun hf=>?_) (fun hf=>⟨⟨q3,hp⟩,by omega,fun e2 he2=>?_⟩)) (fun hpn=>?_)⟩) (fun hpl=>?_)
        · rw [he] at he1;cases he1
          exact nx2 _ (by rw [hs1,if_pos ⟨by unfold dueJ;simp [hpl,hpn],.inl hf⟩]) hp
        · rw [he] at he1 he2;cases he1;cases he2
          rcases hsel p (by omega) with e9 |⟨i9,h91,h92⟩
          · rw [e9] at q5;omega
          · have hf9:f=(i9:Int):=q5.trans h92
            rw [hf9,Int.toNat_natCast]
            refine ⟨⟨by omega,by omega⟩,by omega,fun e3 he3=>?_⟩
            have hg:m3.L.getD f.toNat job0=e3:=by rw [hf9,Int.toNat_natCast,List.getD_eq_getElem?_getD,he3];rfl
            rw [hg] at hs1
            refine br_bool (fun ha=>?_) (fun ha=>?_)
            · exact nx2 _ (by rw [hs1,if_pos ⟨by unfold dueJ;simp [hpl,hpn],.inr ha⟩]) hp
            · have:=nx2 f (by rw [hs1,if_neg (fun g=>Or.elim g.2 hf (fun g=>by rw [ha] at g;cases g))]) hp
              rw [hf9] at this;exact this
        · rw [he] at he1;cases he1
          exact nx2 _ (by rw [hs1,if_neg (fun g=>by have:=g.1;unfold dueJ at this;simp [hpn] at this)]) hp
        · exact nx2 _ (by rw [hs1,if_neg (fun g=>by have:=g.1;unfold dueJ at this;simp [hpl] at this)]) hp
      · have hpl:p=m3.L.length:=by omega
        rw [hpl] at q5
        rw [show m.L.length-c=(m.L.length-(c+1))+1 by omega] at k5
        simp only [beginF] at k5
        rw [←q5] at k5
        refine br_dec (fun hf=>⟨⟨k1,hf,?_⟩,fun q hq=>?_⟩) (fun hf q hq=>?_)
        · rcases hsel m3.L.length (Nat.le_refl _) with e9 |⟨i9,h91,h92⟩
          · omega
          · have:f=(i9:Int):=q5.trans h92
            show f<((m3.L.length:Nat):Int)
            omega
        · rw [w64 (by omega)] at hq
          subst hq
          rw [if_pos hf] at k5
          refine ⟨(beginM m3 f,(c:Int)+1),⟨k1.begin f,(begin_now _ _).2.trans k2,by simp only [];omega,by simp only [];omega,?_⟩,by simp,by simp only [];omega⟩
          simp only []
          rw [show ((c:Int)+1).toNat=c+1 by omega];exact k5
        · rw [w64 (by omega)] at hq
          subst hq
          rw [if_neg hf] at k5
          refine ⟨(m3,(c:Int)+1),⟨k1,k2,by simp only [];omega,by simp only [];omega,?_⟩,by simp,by simp only [];omega⟩
          simp only []
          rw [show ((c:Int)+1).toNat=c+1 by omega];exact k5
    · rw [show m.L.length-c=0 by omega] at k5
      simp only [beginF] at k5
      rw [←k5] at hk;exact hk
end Go.Ax.O
namespace Go.Ax.O
open Go.Ax.Sp Go.Ax.Law
theorem bt {a b:Int} (h:(a==b)=true):a=b:=eq_of_beq h
theorem bf {a b:Int} (h:(a==b)=false):a≠b:=fun e=>by subst e;simp at h
theorem dt {p:Prop} [Decidable p] (h:decide p=true):p:=of_decide_eq_true h
theorem df {p:Prop} [Decidable p] (h:decide p=false): ¬ p:=of_decide_eq_false h
theorem vCommitM {m:Model} {x:Choice} {k:Model × Unit→Bool × Unit→Prop} (h:oCommitM (m,x,()) k):V.vCommitM m x k:=by
  obtain ⟨hm,hk⟩:=h
  have hm:MW m:=hm
  have hk:k ((commitM m x).2,()) ((commitM m x).1,()):=hk
  have hl:=hm.1
  unfold V.vCommitM V.AT V.NM V.SH V.LN
  simp only [tk_eq,tkset,Nat.zero_add,Nat.le_refl,true_and,and_true,List.length_set]
  unfold commitM at hk
  refine ⟨hm,br_not (fun hf=>?_) (fun hf=>?_)⟩
  · rw [if_pos hf] at hk;exact hk
  · rw [if_neg (by rw [hf];decide)] at hk
    rcases getM_cases m x.Id with ⟨c,e⟩ |⟨i,j,c,hj,e⟩
    · exfalso
      unfold fitsM at hf
      rw [e] at hf
      simp at hf
    · have hil:=(List.getElem?_eq_some_iff.1 hj).1
      refine br_eq (fun hn n hq=>?_) (fun hn n hq=>?_)
      · rw [if_pos hn] at hk
        rw [w64 (by omega)] at hq
        subst hq
        exact ⟨⟨hm,by omega,by show x.Id-1<((m.L.length:Nat):Int);omega⟩,hk⟩
      · rw [if_neg hn] at hk
        rw [w64 (by omega)] at hq
        subst hq
        have ht:(x.Id-1).toNat=i:=by omega
        rw [ht,e] at hk
        rw [ht]
        refine ⟨⟨by omega,by omega⟩,hil,fun e1 he1 n hn2=>?_⟩
        rw [hj] at he1;cases he1
        rw [w64 (by omega)] at hn2
        subst hn2
        rw [ht]
        exact ⟨⟨by omega,by omega⟩,hil,fun e2 he2=>hk⟩
theorem vSubM {m:Model} {r:Req} {k:Model × Unit→Reply × Unit→Prop} (h:oReqM Law.submitM (m,r,()) k):V.vSubM m r k:=by
  obtain ⟨hm,hk⟩:=h
  have hm:MW m:=hm
  have hk:k ((submitM m r).2,()) ((submitM m r).1,()):=hk
  have hl:=hm.1
  unfold V.vSubM V.NM V.SH V.LN
  simp only [tk_eq,tkset,Nat.zero_add,Nat.le_refl,true_and,and_true,List.length_set]
  unfold submitM at hk
  by_cases c1:r.User<0∨255<r.User∨r.Prio<0∨1000<r.Prio
  · rw [if_pos c1] at hk
    exact br_dec (fun _=>hk) (fun a=>br_dec (fun _=>hk) (fun b=>br_dec (fun _=>hk) (fun c=>br_dec (fun _=>hk) (fun d=>by omega))))
  rw [if_neg c1] at hk
  refine br_dec (fun a=>by omega) (fun _=>br_dec (fun a=>by omega) (fun _=>br_dec (fun a=>by omega) (fun _=>br_dec (fun a=>by omega) (fun _=>?_))))
  by_cases c2:r.Width<1∨(m.Drain.length:Int)<r.Width
  · rw [if_pos c2] at hk
    exact br_dec (fun _=>hk) (fun a=>br_dec (fun _=>hk) (fun b=>by omega))
  rw [if_neg c2] at hk
  refine br_dec (fun a=>by omega) (fun _=>br_dec (fun a=>by omega) (fun _=>?_))
  by_cases c3:r.Limit<1∨1048576<r.Limit
  · rw [if_pos c3] at hk
    exact br_dec (fun _=>hk) (fun a=>br_dec (fun _=>hk) (fun b=>by omega))
  rw [if_neg c3] at hk
  refine br_dec (fun a=>by omega) (fun _=>br_dec (fun a=>by omega) (fun _=>⟨hm,?_⟩))
  by_cases c4:63<liveN m.L∨1023<(m.L.length:Int)
  · rw [if_pos c4] at hk
    exact br_dec (fun _=>hk) (fun a=>br_dec (fun _=>hk) (fun b=>by omega))
  rw [if_neg c4] at hk
  refine br_dec (fun a=>by omega) (fun _=>br_dec (fun a=>by omega) (fun _ n hn=>?_))
  rw [w64 (by omega)] at hn
  subst hn
  have htk: ∀j:Job,List.take (m.L.length+1) (List.drop 0 (m.L++[j]))=m.L++[j]:=fun j=>by rw [List.drop_zero,List.take_of_length_le (by simp)]
  have hd:=hm.2.2.1
  have hMW: ∀j,MJ j→MW {m with L:=m.L++[j]}:=fun j hj=>⟨by simp;omega,hm.2.1,hm.2.2.1,hm.2.2.2.1,hm.2.2.2.2.1,fun y hy=>by
    rcases List.mem_append.1 hy with hy |hy
    · exact hm.2.2.2.2.2 y hy
    · simp at hy;subst hy;exact hj⟩
  simp only [htk]
  have hnew:newJ m.L r=⟨(m.L.length:Int)+1,r.User,r.Width,r.Limit,r.Prio,if r.Held then 2 else 1,-1,-1,-1,0⟩:=rfl
  simp only [hnew] at hk
  cases hh:r.Held with
  |true=>
    rw [hh] at hk
    simp only [br,Bool.not_true]
    exact ⟨by omega,by simp,hk⟩
  |false=>
    rw [hh] at hk
    simp only [br,Bool.not_false]
    refine ⟨by omega,by simp,hMW _ ⟨U64.zero,by simp,by simp,by simp,by simp,?_,?_,?_,?_,by simp,by simp⟩,hk⟩
    · simp only [];omega
    · simp only [];omega
    · simp only [];omega
    · simp only [];omega
theorem vNodeM {m:Model} {r:Req} {k:Model × Unit→Reply × Unit→Prop} (h:oReqM Law.nodeM (m,r,()) k):V.vNodeM m r k:=by
  obtain ⟨hm,hk⟩:=h
  have hm:MW m:=hm
  have hk:k ((nodeM m r).2,()) ((nodeM m r).1,()):=hk
  unfold V.vNodeM V.AT V.SH V.LN
  simp only [tk_eq,tkset,Nat.zero_add,Nat.le_refl,true_and,and_true,List.length_set]
  unfold nodeM at hk
  by_cases c1:r.Node<0∨(m.Drain.length:Int)≤r.Node
  · rw [if_pos c1] at hk
    exact br_dec (fun _=>hk) (fun a=>br_dec (fun _=>hk) (fun b=>by omega))
  rw [if_neg c1] at hk
  refine br_dec (fun a=>by omega) (fun _=>br_dec (fun a=>by omega) (fun _=>⟨⟨by omega,by omega⟩,by omega,fun e he=>?_⟩))
  have hdr:drainB m r.Node.toNat=e:=by unfold drainB;rw [List.getD_eq_getElem?_getD,he];rfl
  rw [hdr] at hk
  have hkk:(r.Kind==7)=decide (r.Kind=7):=rfl
  rw [hkk]
  cases h7:decide (r.Kind=7) with
  |true=>
    have h7':=dt h7
    rw [h7] at hk
    cases e with
    |true=>rw [if_pos rfl] at hk;exact hk
    |false=>
      rw [if_neg (by decide)] at hk
      simp only [h7',if_true] at hk
      refine ⟨hm,⟨by omega,by omega⟩,by omega,fun e1 he1=>⟨(hm.dropM job0).drain _ _,hk⟩⟩
  |false=>
    have h7':=df h7
    rw [h7] at hk
    cases e with
    |false=>rw [if_pos rfl] at hk;exact hk
    |true=>
      rw [if_neg (by decide)] at hk
      simp only [h7',if_false] at hk
      exact ⟨⟨by omega,by omega⟩,by omega,fun e1 he1=>⟨hm.drain _ _,hk⟩⟩
theorem vEndM {m:Model} {r:Req} {k:Model × Unit→Reply × Unit→Prop} (h:oReqM Law.endM (m,r,()) k):V.vEndM m r k:=by
  obtain ⟨hm,hk⟩:=h
  have hm:MW m:=hm
  have hk:k ((endM m r).2,()) ((endM m r).1,()):=hk
  have hl:=hm.1
  unfold V.vEndM V.vEndM_1 V.NM V.SH V.LN
  simp only [tk_eq,tkset,Nat.zero_add,Nat.le_refl,true_and,and_true,List.length_set]
  unfold endM at hk
  rcases getM_cases m r.Id with ⟨c,e⟩ |⟨i,j,c,hj,e⟩
  · rw [e] at hk
    rw [if_pos rfl] at hk
    simp only [e,br,Bool.not_false]
    exact ⟨hm,hk⟩
  · have hil:=(List.getElem?_eq_some_iff.1 hj).1
    have ht:(r.Id-1).toNat=i:=by omega
    simp only [e,Bool.not_true]
    rw [e,ht] at hk
    simp only [Bool.true_eq_false,if_false] at hk
    cases b5:(r.Kind==5)<;>cases b3:(j.State==3)<;>cases b4:decide (j.State>3)<;>simp only [br,Bool.not_true,Bool.not_false]
    all_goals refine ⟨hm,?_⟩
    · have b5:=bf b5;have b3:=bf b3;have b4:=df b4
      rw [if_neg (by omega)] at hk
      simp only [b5,b3,if_false] at hk
      intro n hn
      rw [w64 (by omega)] at hn
      subst hn
      rw [ht]
      exact ⟨⟨by omega,by omega⟩,hil,fun e1 he1=>hk⟩
    · have b4:=dt b4
      rw [if_pos (.inl b4)] at hk
      exact hk
    · have b5:=bf b5;have b3:=bt b3;have b4:=df b4
      rw [if_neg (by omega)] at hk
      simp only [b5,b3,if_false,if_true] at hk
      intro n hn
      rw [w64 (by omega)] at hn
      subst hn
      rw [ht]
      exact ⟨⟨by omega,by omega⟩,hil,fun e1 he1=>hk⟩
    · have b4:=dt b4
      rw [if_pos (.inl b4)] at hk
      exact hk
    · have b5:=bt b5;have b3:=bf b3;have b4:=df b4
      rw [if_pos (.inr ⟨b5,b3⟩)] at hk
      exact hk
    · have b4:=dt b4
      rw [if_pos (.inl b4)] at hk
      exact hk
    · have b5:=bt b5;have b3:=bt b3;have b4:=df b4
      rw [if_neg (by omega)] at hk
      simp only [b5,b3,if_true] at hk
      intro n hn
      rw [w64 (by omega)] at hn
      subst hn
      rw [ht]
      exact ⟨⟨by omega,by omega⟩,hil,fun e1 he1=>hk⟩
    · have b4:=dt b4
      rw [if_pos (.inl b4)] at hk
      exact hk
theorem vTurnM {m:Model} {r:Req} {k:Model × Unit→Reply × Unit→Prop} (h:oReqM Law.turnM (m,r,()) k):V.vTurnM m r k:=by
  obtain ⟨hm,hk⟩:=h
  have hm:MW m:=hm
  have hk:k ((turnM m r).2,()) ((turnM m r).1,()):=hk
  have hl:=hm.1
  unfold V.vTurnM V.vTurnM_1 V.NM V.SH V.LN
  simp only [tk_eq,tkset,Nat.zero_add,Nat.le_refl,true_and,and_true,List.length_set]
  unfold turnM at hk
  rcases getM_cases m r.Id with ⟨c,e⟩ |⟨i,j,c,hj,e⟩
  · rw [e] at hk
    rw [if_pos rfl] at hk
    simp only [e,br,Bool.not_false]
    exact ⟨hm,hk⟩
  · have hil:=(List.getElem?_eq_some_iff.1 hj).1
    have ht:(r.Id-1).toNat=i:=by omega
    have hJ:=hm.job hj
    simp only [e,Bool.not_true]
    rw [e,ht] at hk
    simp only [Bool.true_eq_false,if_false] at hk
    cases b3:(r.Kind==3)<;>cases b4:(r.Kind==4)
    · have k3:=bf b3;have k4:=bf b4
      simp only [br]
      rw [if_neg (by omega),if_neg k3,if_neg k4,if_neg k4] at hk
      refine ⟨hm,fun n hn=>?_⟩
      rw [w64 (by omega)] at hn
      subst hn
      rw [ht]
      exact ⟨⟨by omega,by omega⟩,hil,fun e1 he1=>hk⟩
    · have k3:=bf b3;have k4:=bt b4
      cases s2:(j.State==2)
      · have s2:=bf s2
        simp only [br,Bool.not_false]
        rw [if_pos (.inr ⟨k4,s2⟩)] at hk
        exact ⟨hm,hk⟩
      · have s2:=bt s2
        simp only [br,Bool.not_true]
        rw [if_neg (by omega),if_neg k3,if_pos k4,if_pos k4] at hk
        refine ⟨hm,fun n hn=>?_⟩
        rw [w64 (by omega)] at hn
        subst hn
        rw [ht]
        refine ⟨⟨by omega,by omega⟩,hil,fun e1 he1=>⟨hm.set i ?_,hk⟩⟩
        obtain ⟨u1,u2,u3,u4⟩:=hJ
        exact ⟨u1,by simp,by simp,u4⟩
    · have k3:=bt b3;have k4:=bf b4
      cases s1:(j.State==1)
      · have s1:=bf s1
        simp only [br,Bool.not_false]
        rw [if_pos (.inl ⟨k3,s1⟩)] at hk
        exact ⟨hm,hk⟩
      · have s1:=bt s1
        simp only [br,Bool.not_true]
        rw [if_neg (by omega),if_pos k3,if_neg k4] at hk
        refine ⟨hm,fun n hn=>?_⟩
        rw [w64 (by omega)] at hn
        subst hn
        rw [ht]
        exact ⟨⟨by omega,by omega⟩,hil,fun e1 he1=>hk⟩
    · have k3:=bt b3;have k4:=bt b4;omega
theorem vTickM {m:Model} {n:Int} {k:Model × Unit→Reply × Unit→Prop} (h:oTickM (m,n,()) k):V.vTickM m n k:=by
  obtain ⟨hm,hk⟩:=h
  have hm:MW m:=hm
  have hk:k ((tickM m n).2,()) ((tickM m n).1,()):=hk
  have hl:=hm.1
  have hnow:=hm.2.2.2
  unfold V.vTickM V.vTickM_1 V.LP V.NX V.NM V.SH V.LN
  simp only [tk_eq,tkset,Nat.zero_add,Nat.le_refl,true_and,and_true,List.length_set]
  unfold tickM at hk
  refine br_dec (fun h1=>by rw [if_pos (.inl h1)] at hk;exact hk) (fun h1 q hq=>?_)
  rw [w64 (by omega)] at hq
  subst hq
  refine br_dec (fun h2=>by rw [if_pos (.inr h2)] at hk;exact hk) (fun h2 q hq=>?_)
  rw [w64 (by omega)] at hq
  subst hq
  rw [if_neg (by omega)] at hk
  simp only [] at hk
  generalize hR:tickF (2*m.L.length+1) (m.Now+n) m=R at hk
  have ht0:0≤m.Now+n∧m.Now+n≤1099511627776:=by omega
  generalize hto:m.Now+n=to at*
  refine ⟨fun x=>MW x.1∧x.1.L.length=m.L.length∧x.2.1=to∧0≤x.2.2∧x.2.2≤2*m.L.length+1∧tickF (2*m.L.length+1-x.2.2.toNat) to x.1=R,fun x=>(2*m.L.length+1-x.2.2).toNat,(m,to,0),⟨hm,rfl,rfl,Int.le_refl _,by simp only [];omega,by simpa using hR⟩,by simp,?_⟩
  rintro ⟨m',to',i⟩ ⟨g1,g2,g3,g4,g5,g6⟩
  simp only [] at g1 g2 g3 g4 g5 g6
  subst g3
  obtain ⟨i,rfl⟩:=Int.eq_ofNat_of_zero_le g4
  rw [Int.toNat_natCast] at g6
  dsimp only
  intro q hq
  rw [w64 (by omega)] at hq
  subst hq
  have fin:m'=R→MW {Now:=to',Drain:=m'.Drain,L:=m'.L,Closed:=m'.Closed}∧k ({Now:=to',Drain:=m'.Drain,L:=m'.L,Closed:=m'.Closed},()) ({Err:=0,Id:=0,State:=0,Start:=to',End:=0,Plan:=0,A:=freeM {Now:=to',Drain:=m'.Drain,L:=m'.L,Closed:=m'.Closed} to' 0,B:=0,C:=0},()):=fun e=>by
    subst e
    exact ⟨g1.now ht0.1 ht0.2,hk⟩
  refine br_dec (fun hi=>⟨g1,?_⟩) (fun hi=>?_)
  · rw [show 2*m.L.length+1-i=(2*m.L.length-i)+1 by omega] at g6
    simp only [tickF] at g6
    refine br_dec (fun c1=>?_) (fun c1=>br_dec (fun c2=>?_) (fun c2=>?_))
    · rw [if_pos (.inl c1)] at g6;exact fin g6
    · rw [if_pos (.inr c2)] at g6;exact fin g6
    · have c1: ¬ nextM m'<0:=c1
      have c2: ¬ nextM m'>to':=c2
      rw [if_neg (fun g=>Or.elim g c1 c2)] at g6
      have hmn:=g1.now (t:=nextM m') (by omega) (by omega)
      refine ⟨hmn,fun q hq=>?_⟩
      rw [w64 (by omega)] at hq
      subst hq
      refine ⟨(happenM {m' with Now:=nextM m'},to',(i:Int)+1),⟨hmn.happen.1,hmn.happen.2.trans g2,rfl,by simp only [];omega,by simp only [];omega,?_⟩,by simp,by simp only [];omega⟩
      simp only []
      rw [show ((i:Int)+1).toNat=i+1 by omega,show 2*m.L.length+1-(i+1)=2*m.L.length-i by omega];exact g6
  · have:2*m.L.length+1-i=0:=by omega
    rw [this] at g6
    exact fin g6
theorem vCountM {m:Model} {j:Bool} {a b:Int} {k:Unit→Int × Unit→Prop} (h:oCountM (m,j,a,b,()) k):V.vCountM m j a b k:=by
  obtain ⟨hm,hk⟩:=h
  have hm:MW m:=hm
  have hk:k () (countM m j a b,()):=hk
  have hl:=hm.1
  have hdl:=hm.2.2.1
  unfold V.vCountM V.vCountM_1 V.LP V.NX V.AI V.NM V.SH V.LN
  simp only [true_and,and_true]
  unfold countM at hk
  cases j with
  |true=>
    rw [if_pos rfl] at hk
    have hcb: ∀q,0≤cntJ (m.L.take q) a∧cntJ (m.L.take q) a≤1024:=fun q=>by
      have h1:=inJ_len (m.L.take q) [a]
      have h2:(m.L.take q).length≤m.L.length:=by simp;omega
      unfold cntJ;omega
    refine ⟨fun x=>x.1=m∧x.2.1=true∧x.2.2.1=a∧x.2.2.2.1=b∧0≤x.2.2.2.2.2∧x.2.2.2.2.2≤m.L.length∧x.2.2.2.2.1=cntJ (m.L.take x.2.2.2.2.2.toNat) a,fun x=>(m.L.length-x.2.2.2.2.2).toNat,(m,true,a,b,0,0),⟨rfl,rfl,rfl,rfl,Int.le_refl _,by simp,by simp [cntJ,inJ]⟩,by simp,?_⟩
    rintro ⟨m',j',a',b',c,i⟩ ⟨g1,g2,g3,g4,g5,g6,g7⟩
    simp only [] at g1 g2 g3 g4 g5 g6 g7
    subst g1 g2 g3 g4
    obtain ⟨i,rfl⟩:=Int.eq_ofNat_of_zero_le g5
    rw [Int.toNat_natCast] at g7
    have hb1:=hcb i
    dsimp only
    rw [Int.toNat_natCast]
    simp only [br]
    have nx: ∀e,m'.L[i]? =some e→ ∀c2,c2=c+(if e.State=a' then 1 else 0)→ ∀q,q=IntKind.i64.wrap ((i:Int)+1)→ ∃y:Model × Bool × Int × Int × Int × Int,(y.1=m'∧y.2.1=true∧y.2.2.1=a'∧y.2.2.2.1=b'∧0≤y.2.2.2.2.2∧y.2.2.2.2.2≤m'.L.length∧y.2.2.2.2.1=cntJ (m'.L.take y.2.2.2.2.2.toNat) a')∧((m'.Now=y.1.Now∧m'.Drain=y.1.Drain∧m'.L=y.1.L∧m'.Closed=y.1.Closed)∧true=y.2.1∧a'=y.2.2.1∧b'=y.2.2.2.1∧c2=y.2.2.2.2.1∧q=y.2.2.2.2.2)∧(m'.L.length-y.2.2.2.2.2).toNat<(m'.L.length-(i:Int)).toNat:=by
      intro e he c2 hc2 q hq
      have hil:=(List.getElem?_eq_some_iff.1 he).1
      rw [w64 (by omega)] at hq
      subst hq
      refine ⟨(m',true,a',b',c2,(i:Int)+1),⟨rfl,rfl,rfl,rfl,by simp only [];omega,by simp only [];omega,?_⟩,by simp,by simp only [];omega⟩
      simp only []
      rw [show ((i:Int)+1).toNat=i+1 by omega,take_snoc' he,hc2,g7]
      unfold cntJ inJ
      rw [List.filter_append]
      by_cases hs:e.State=a'
      · simp [hs]
      · simp [hs]
    by_cases hi:(i:Int)<m'.L.length
    · simp only [hi,decide_true]
      refine ⟨⟨g5,trivial⟩,fun e he=>?_⟩
      cases hs:(e.State==a')
      · exact nx e he c (by rw [if_neg (bf hs)];omega)
      · intro q hq q2 hq2
        rw [w64 (by omega)] at hq
        subst hq
        exact nx e he _ (by rw [if_pos (bt hs)]) q2 hq2
    · simp only [hi,decide_false]
      rw [List.take_of_length_le (by omega)] at g7
      refine ⟨fun x=>x.2.1=true∧x.2.2.2.2.1=c,fun _=>0,(m',true,a',b',c,0),⟨rfl,rfl⟩,by simp,?_⟩
      rintro ⟨m2,j2,a2,b2,c2,p⟩ ⟨q1,q2⟩
      simp only [] at q1 q2
      subst q1 q2
      simp only [Bool.not_true]
      rw [g7];exact hk
  |false=>
    rw [if_neg (by decide)] at hk
    refine ⟨fun x=>x=(m,false,a,b,0,0),fun _=>0,(m,false,a,b,0,0),rfl,by simp,?_⟩
    rintro x rfl
    simp only [br]
    refine ⟨fun x=>x.1=m∧x.2.1=false∧x.2.2.1=a∧x.2.2.2.1=b∧0≤x.2.2.2.2.2∧x.2.2.2.2.2≤m.Drain.length∧x.2.2.2.2.1=cntN (fun k=>decide (stateM m (k:Int)=a)||decide (stateM m (k:Int)=b)) x.2.2.2.2.2.toNat,fun x=>(m.Drain.length-x.2.2.2.2.2).toNat,(m,false,a,b,0,0),⟨rfl,rfl,rfl,rfl,Int.le_refl _,by simp,by simp [cntN]⟩,by simp,?_⟩
    rintro ⟨m',j',a',b',c,i⟩ ⟨g1,g2,g3,g4,g5,g6,g7⟩
    simp only [] at g1 g2 g3 g4 g5 g6 g7
    subst g1 g2 g3 g4
    obtain ⟨i,rfl⟩:=Int.eq_ofNat_of_zero_le g5
    rw [Int.toNat_natCast] at g7
    have hb1:=cntN_nonneg (fun k=>decide (stateM m' (k:Int)=a')||decide (stateM m' (k:Int)=b')) i
    have hb2:=cntN_le (fun k=>decide (stateM m' (k:Int)=a')||decide (stateM m' (k:Int)=b')) i
    dsimp only
    have nx: ∀c2,c2=cntN (fun k=>decide (stateM m' (k:Int)=a')||decide (stateM m' (k:Int)=b')) (i+1)→(i:Int)<m'.Drain.length→ ∀q,q=IntKind.i64.wrap ((i:Int)+1)→ ∃y:Model × Bool × Int × Int × Int × Int,(y.1=m'∧y.2.1=false∧y.2.2.1=a'∧y.2.2.2.1=b'∧0≤y.2.2.2.2.2∧y.2.2.2.2.2≤m'.Drain.length∧y.2.2.2.2.1=cntN (fun k=>decide (stateM m' (k:Int)=a')||decide (stateM m' (k:Int)=b')) y.2.2.2.2.2.toNat)∧((m'.Now=y.1.Now∧m'.Drain=y.1.Drain∧m'.L=y.1.L∧m'.Closed=y.1.Closed)∧false=y.2.1∧a'=y.2.2.1∧b'=y.2.2.2.1∧c2=y.2.2.2.2.1∧q=y.2.2.2.2.2)∧(m'.Drain.length-y.2.2.2.2.2).toNat<(m'.Drain.length-(i:Int)).toNat:=by
      intro c2 hc2 hi q hq
      rw [w64 (by omega)] at hq
      subst hq
      refine ⟨(m',false,a',b',c2,(i:Int)+1),⟨rfl,rfl,rfl,rfl,by simp only [];omega,by simp only [];omega,?_⟩,by simp,by simp only [];omega⟩
      simp only []
      rw [show ((i:Int)+1).toNat=i+1 by omega];exact hc2
    have hst:cntN (fun k=>decide (stateM m' (k:Int)=a')||decide (stateM m' (k:Int)=b')) (i+1)=cntN (fun k=>decide (stateM m' (k:Int)=a')||decide (stateM m' (k:Int)=b')) i+(if (decide (stateM m' (i:Int)=a')||decide (stateM m' (i:Int)=b'))=true then 1 else 0):=rfl
    simp only [Bool.not_false]
    by_cases hi:(i:Int)<m'.Drain.length
    · simp only [hi,decide_true]
      refine ⟨hm,?_⟩
      cases hs:(stateM m' (i:Int)==a')
      · refine ⟨hm,?_⟩
        cases hs2:(stateM m' (i:Int)==b')
        · exact nx c (by rw [hst,if_neg (by simp [bf hs,bf hs2]),g7];omega) hi
        · intro q hq q2 hq2
          rw [w64 (by omega)] at hq
          subst hq
          exact nx _ (by rw [hst,if_pos (by simp [bt hs2]),g7]) hi q2 hq2
      · intro q hq q2 hq2
        rw [w64 (by omega)] at hq
        subst hq
        exact nx _ (by rw [hst,if_pos (by simp [bt hs]),g7]) hi q2 hq2
    · simp only [hi,decide_false]
      rw [show i=m'.Drain.length by omega] at g7
      rw [g7];exact hk
theorem vDoM {m:Model} {r:Req} {k:Model × Unit→Reply × Unit→Prop} (h:oReqM Law.doM (m,r,()) k):V.vDoM m r k:=by
  obtain ⟨hm,hk⟩:=h
  have hm:MW m:=hm
  have hk:k ((doM m r).2,()) ((doM m r).1,()):=hk
  unfold V.vDoM V.vDoM_3 V.vDoM_2 V.vDoM_1 V.SH
  simp only [tk_eq,tkset,Nat.zero_add,Nat.le_refl,true_and,and_true,List.length_set]
  unfold doM at hk
  refine br_bool (fun hc=>by rw [if_pos hc] at hk;exact hk) (fun hc=>?_)
  rw [if_neg (by rw [hc];decide)] at hk
  refine br_eq (fun h1=>by rw [if_pos h1] at hk;exact ⟨hm,hk⟩) (fun h1=>?_)
  rw [if_neg h1] at hk
  refine br_eq (fun h2=>by rw [if_pos (.inl h2)] at hk;exact ⟨hm,hk⟩) (fun h2=>br_eq (fun h5=>by rw [if_pos (.inr h5)] at hk;exact ⟨hm,hk⟩) (fun h5=>?_))
  rw [if_neg (by omega)] at hk
  refine br_eq (fun h3=>by rw [if_pos (.inl h3)] at hk;exact ⟨hm,hk⟩) (fun h3=>br_eq (fun h4=>by rw [if_pos (.inr (.inl h4))] at hk;exact ⟨hm,hk⟩) (fun h4=>br_eq (fun h6=>by rw [if_pos (.inr (.inr h6))] at hk;exact ⟨hm,hk⟩) (fun h6=>?_)))
  rw [if_neg (by omega)] at hk
  refine br_eq (fun h7=>by rw [if_pos (.inl h7)] at hk;exact ⟨hm,hk⟩) (fun h7=>br_eq (fun h8=>by rw [if_pos (.inr h8)] at hk;exact ⟨hm,hk⟩) (fun h8=>?_))
  rw [if_neg (by omega)] at hk
  refine br_eq (fun h9=>by rw [if_pos h9] at hk;exact ⟨hm,hk⟩) (fun h9=>?_)
  rw [if_neg h9] at hk
  refine br_eq (fun h10=>?_) (fun h10=>?_)
  · rw [if_pos h10] at hk
    repeat' first |exact hm |exact hk |apply And.intro
  rw [if_neg h10] at hk
  refine br_eq (fun h11=>?_) (fun h11=>?_)
  · rw [if_pos h11] at hk
    repeat' first |exact hm |exact hk |apply And.intro
  rw [if_neg h11] at hk
  refine br_eq (fun h12=>?_) (fun h12=>?_)
  · rw [if_pos h12] at hk
    repeat' first |exact hm |exact hk |apply And.intro
  rw [if_neg h12] at hk
  refine br_eq (fun h13=>?_) (fun h13=>?_)
  · rw [if_pos h13] at hk
    exact hk
  rw [if_neg h13] at hk
  exact hk
end Go.Ax.O
namespace Go.Ax.Sp
abbrev cv (c:Core):AV:= .cptr ((OK.unf .core c).map (viewFld 8)) 0
def sDoP:Sig:=⟨[(.obj .core,true),(.obj .model,true),(.elem .deed,false)],[.bool]⟩
def oDoP:sDoP.Out:=fun x k=>(∃n,Law.Stb n x.1 x.2.1)∧k (Law.doD x.1 x.2.2.1,Law.doDM x.2.1 x.2.2.1,()) (true,())
def sUnlike:Sig:=⟨[(.view .core,false),(.view .model,false)],[.int .i64]⟩
def oUnlike:sUnlike.Out:=fun x k=>(∃n,Law.Stb n x.1 x.2.1)∧k () (0,())
def lUnlike:LoopAnn:={X:=Core × Model × Int × Int,live:=fun x=>[(0,cv x.1),(1,mv x.2.1),(5,.int .i64 x.2.2.1),(6,.int .i64 x.2.2.2)],heap:=fun _=>[]}
def sPlays:Sig:=⟨[(.int .i64,false),(.imm .deed,false)],[.bool]⟩
def oPlays:sPlays.Out:=fun _ k=>k () (true,())
def lPlays:LoopAnn:={X:=List Deed × Core × Model × Int,live:=fun x=>[(1,.imm .deed x.1),(5,.ptr ⟨0,0,0,0⟩),(7,.ptr ⟨1,0,0,0⟩),(8,.int .i64 x.2.2.2)],heap:=fun x=>[some (.obj .core x.2.1),some (.obj .model x.2.2.1)],norm:=[.fold 0 .core,.fold 1 .model]}
end Go.Ax.Sp
namespace Go.Ax.V
open Go.Ax.Sp Go.Ax.Law List Int IntKind
set_option maxRecDepth 100000
def vUnlike_1 (x:Core × Model × Int × Int) (y:Core × Model × Int × Int):Prop:=
(x.1.J.jobs=y.1.J.jobs∧x.1.J.live=y.1.J.live∧x.1.J.made=y.1.J.made∧True)∧(x.1.N.all=y.1.N.all∧x.1.N.used=y.1.N.used∧x.1.N.drain=y.1.N.drain∧True)∧(x.1.P.steps=y.1.P.steps∧x.1.P.ver=y.1.P.ver∧True)∧x.1.closed=y.1.closed∧True
def vUnlike (c:Core) (m:Model) (k:Unit→Int × Unit→Prop):Prop:=
SH (LN m.Drain+1) fun s0=>SH c.P.steps fun s1=>SH ((((NM s0 fun n=>k () (n,()))∧True)∧True)∧True) fun s2=>((PW c.P∧br (!nowL s1==m.Now) ((((s2∧True)∧True)∧True)∧True) (br (!closedC (some c)==m.Closed) (((s2∧True)∧True)∧True) ((NW c.N∧br (!lenS c.N.all==LN m.Drain) ((s2∧True)∧True) ((JW c.J∧(0+length c.J.jobs≤length c.J.jobs∧length (tk c.J.jobs)≤1099511627776∧br (!sameJ (tk c.J.jobs) m.L) s2 ((PW c.P∧(MW m∧(0+length (stepsM m)≤length (stepsM m)∧0+length s1≤length s1∧length (tk s1)≤1099511627776∧br (!sameS (tk s1) (tk (stepsM m))) (NM s0 fun n=>k () (n,())) (LP (Core × Model × Int × Int) (fun x=>(((c.J.jobs=x.1.J.jobs∧c.J.live=x.1.J.live∧c.J.made=x.1.J.made∧True)∧(c.N.all=x.1.N.all∧c.N.used=x.1.N.used∧c.N.drain=x.1.N.drain∧True)∧(s1=x.1.P.steps∧c.P.ver=x.1.P.ver∧True)∧c.closed=x.1.closed∧True)∧(m.Now=x.2.1.Now∧m.Drain=x.2.1.Drain∧m.L=x.2.1.L∧m.Closed=x.2.1.Closed∧True)∧0=x.2.2.1∧0=x.2.2.2∧True)∧True) fun I m x=>br (decide (x.2.2.2<LN x.2.1.Drain)) (NW x.1.N∧MW x.2.1∧br (!stateN x.1.N x.2.2.2==stateM x.2.1 x.2.2.2) (NM (x.2.2.1+1) fun n=>NM (x.2.2.2+1) fun n_1=>NX I m x fun y=>(vUnlike_1 x y∧(x.2.1.Now=y.2.1.Now∧x.2.1.Drain=y.2.1.Drain∧x.2.1.L=y.2.1.L∧x.2.1.Closed=y.2.1.Closed∧True)∧n=y.2.2.1∧n_1=y.2.2.2∧True)∧True) (NM (x.2.2.2+1) fun n=>NX I m x fun y=>(vUnlike_1 x y∧(x.2.1.Now=y.2.1.Now∧x.2.1.Drain=y.2.1.Drain∧x.2.1.L=y.2.1.L∧x.2.1.Closed=y.2.1.Closed∧True)∧x.2.2.1=y.2.2.1∧n=y.2.2.2∧True)∧True)) (k () (x.2.2.1,()))))∧True)∧True)∧True))∧True)∧True))∧True)∧True))∧True)∧True
end Go.Ax.V
namespace Go.Ax.Law
theorem Stb.mw {n:Nat} {c:Core} {m:Model} (h:Stb n c m):MW m:=by
 have hd:=h.rep.deep
 have hL:=h.rep.jobs
 have hn:=h.rep.now
 have hl:=h.rep.len
 refine ⟨by rw [hL];exact hd.cw.1.2.1,by have:=hd.n1;omega,by have:=hd.n64;omega,by rw [hn];exact hd.nw.1,by rw [hn];exact hd.nw.2,fun j hj=>?_⟩
 rw [hL] at hj
 have hok:=hd.jobs j hj
 have h1:=hok.st;have h2:=hok.wd;have h3:=hok.lm;have h4:=hok.pl;have h5:=hok.en;have h6:=hd.nw;have h7:=hd.n64
 exact ⟨hok.un,h1.1,h1.2,by omega,by omega,by omega,by omega,by omega,by omega,h5.1,h5.2⟩
theorem Stb.cw {n:Nat} {c:Core} {m:Model} (h:Stb n c m):CW c:=h.rep.deep.cw
theorem Stb.len {n:Nat} {c:Core} {m:Model} (h:Stb n c m):c.P.steps.length≤3073:=h.rep.deep.len
theorem whole_do {n:Nat} {c:Core} {m:Model} (h:Stb n c m) (r:Req):1≤(wholeW (newW r) c).1∧(wholeW (newW r) c).2.1.done=true∧(wholeW (newW r) c).2.1.ok=false∧(wholeW (newW r) c).2.1.reply=(doM m r).1∧Stb n (wholeW (newW r) c).2.2 (doM m r).2:=by
 obtain ⟨k,w',c',h1,h2,h3,h4,_,h5⟩:=do_done h r
 have hw:=h2.whole 1999 1 (by omega)
 unfold wholeW
 rw [hw]
 have:=h2.pos
 exact ⟨by simp only [];omega,h2.done,h3,h4,h5⟩
theorem whole_commit {n:Nat} {c:Core} {m:Model} (h:Stb n c m) (x:Choice):1≤(wholeW (newX x) c).1∧(wholeW (newX x) c).2.1.done=true∧(wholeW (newX x) c).2.1.ok=(commitM m x).1∧Stb n (wholeW (newX x) c).2.2 (commitM m x).2∧fitsC c x=(commitM m x).1∧((commitM m x).1=true→ProfX c x (wholeW (newX x) c).2.2):=by
 obtain ⟨⟨k,w',c',h1,h2,h3,_,h5,h7⟩,h6⟩:=commit_done h x
 have hw:=h2.whole 1999 1 (by omega)
 unfold wholeW
 rw [hw]
 have:=h2.pos
 exact ⟨by simp only [];omega,h2.done,h3,h5,h6,h7⟩
end Go.Ax.Law
namespace Go.Ax.O
open Go.Ax.Sp Go.Ax.Law
theorem vUnlike {c:Core} {m:Model} {k:Unit→Int × Unit→Prop} (h:oUnlike (c,m,()) k):V.vUnlike c m k:=by
 obtain ⟨⟨n,hs⟩,hk⟩:=h
 have hs:Stb n c m:=hs
 have hk:k () (0,()):=hk
 have hl:=hs.len
 have hcw:=hs.cw
 have hm:=hs.mw
 have hd:=hs.rep.deep
 unfold V.vUnlike V.vUnlike_1 V.LP V.NX V.NM V.SH V.LN
 simp only [tk_eq,tkset,Nat.zero_add,Nat.le_refl,true_and,and_true,List.length_set]
 have hjl:=hcw.1.2.1
 have hn:nowL c.P.steps=m.Now:=hs.rep.now.symm
 have hsz:lenS c.N.all=m.Drain.length:=by rw [hd.size,hs.rep.len]
 refine ⟨hcw.2.2,br_ne (fun hh=>absurd hn hh) (fun _=>br_not (fun hh=>?_) (fun _=>⟨hcw.2.1,br_ne (fun hh=>absurd hsz hh) (fun _=>⟨hcw.1,by omega,br_not (fun hh=>?_) (fun _=>⟨hcw.2.2,hm,by omega,br_not (fun hh=>?_) (fun _=>?_)⟩)⟩)⟩))⟩
 ·have:closedC (some c)=m.Closed:=hs.rep.closed.symm
  rw [this] at hh;simp at hh
 ·rw [←hs.rep.jobs,sameJ_iff.2 rfl] at hh;cases hh
 ·rw [hs.rep.steps,sameS_iff.2 rfl] at hh;cases hh
 ·have hdl:=hm.2.2.1
  refine ⟨fun x=>x.1=c∧x.2.1=m∧x.2.2.1=0∧0≤x.2.2.2∧x.2.2.2≤m.Drain.length,fun x=>(m.Drain.length-x.2.2.2).toNat,(c,m,0,0),⟨rfl,rfl,rfl,Int.le_refl _,by simp⟩,by simp,?_⟩
  rintro ⟨c',m',b,i⟩ ⟨g1,g2,g3,g4,g5⟩
  simp only [] at g1 g2 g3 g4 g5
  subst g1 g2 g3
  dsimp only
  refine br_dec (fun hi=>⟨hcw.2.1,hm,br_ne (fun hh=>absurd (hs.rep.state i).symm hh) (fun _ q hq=>?_)⟩) (fun _=>hk)
  rw [w64 (by omega)] at hq
  subst hq
  exact ⟨(c',m',0,i+1),⟨rfl,rfl,rfl,by simp only [];omega,by simp only [];omega⟩,by simp,by simp only [];omega⟩
end Go.Ax.O
namespace Go.Ax
def nilSpec (S1 S2:SpecT):SpecT:=fun args H K=>match args with
 | .nilp::_=>S2 args H K
 |_=>S1 args H K
theorem nil_ok {P:Program} {f:FuncId} [Surr] {S1 S2:SpecT} (h1:SpecOK P f S1) (h2:SpecOK P f S2):SpecOK P f (nilSpec S1 S2):=by
 intro args H K hk
 unfold nilSpec at hk
 split at hk
 ·exact h2 _ H K hk
 ·exact h1 _ H K hk
end Go.Ax
namespace Go.Ax.Law
def isK (k:Int):Bool:=decide (1≤k)&&decide (k≤13)
def doS (c:Core) (r:Req):Reply × Core:=if isK r.Kind then ((wholeW (newW r) c).2.1.reply,(wholeW (newW r) c).2.2) else (failR 4,c)
def comS (c:Core) (x:Choice):Bool × Core:=((wholeW (newX x) c).2.1.ok,(wholeW (newX x) c).2.2)
def deedS (c:Core) (d:Deed):Core:=if d.Commit then (comS c d.X).2 else (doS c d.R).2
def madeS (n:Int) (l:List Deed):Core:=(l.take 60).foldl deedS (newCore n)
def OkS (c:Core):Prop:= ∃n m,Stb n c m
def itemJ (j:Job):Item:=⟨j.Id,j.Width,j.Limit,j.Plan⟩
def waitC (c:Core):List Job:=sortJ (inJ c.J.jobs [1])
def allQ:Core→List Req→List Reply × Core
 |c,[]=>([],c)
 |c,r::l=>((doS c r).1::(allQ (doS c r).2 l).1,(allQ (doS c r).2 l).2)
def noneS:Option Sched→Bool
 |none=>true
 |some s=>noneC (some s.C)
def excused (d:Deed) (j:Job) (was now:List Job):Bool:=
 if d.Commit then false
 else if d.R.Kind=3∨d.R.Kind=2 then decide (d.R.Id=j.Id)
 else if d.R.Kind=7 then true
 else if d.R.Kind=1 then decide (was.length<now.length)&&(match now[now.length-1]? with |some b=>aheadJ b j |none=>false)
 else if d.R.Kind=4 then decide (1≤d.R.Id)&&(decide (d.R.Id≤was.length)&&(match was[(d.R.Id-1).toNat]? with |some b=>aheadJ b j |none=>false))
 else false
end Go.Ax.Law
namespace Go.Ax.Sp
def sIsR:Sig:=⟨[(.int .i64,false)],[.bool]⟩
def oIsR:sIsR.Out:=fun x k=>k () (Law.isK x.1,())
def sNewS:Sig:=⟨[(.int .i64,false)],[.opt .sched,.int .i64]⟩
def oNewS:sNewS.Out:=fun x k=>((x.1<1∨64<x.1)→k () (none,1,()))∧(1≤x.1∧x.1≤64→k () (some ⟨Law.newCore x.1⟩,0,()))
def sNoneS:Sig:=⟨[(.vopt .sched,false)],[.bool]⟩
def oNoneS:sNoneS.Out:=fun x k=>k () (Law.noneS x.1,())
def sRunS:Sig:=⟨[(.obj .sched,true),(.obj .work,true)],[]⟩
def PreRun (w:Work) (c:Core) (j:Nat) (w':Work) (c':Core):Prop:=Law.Ends w c j w' c'∧Law.CW c∧Law.WW w∧c.P.steps.length+4*j≤4294960000
def oRunS:sRunS.Out:=fun x k=> ∃j w' c',PreRun x.2.1 x.1.C j w' c'∧k (⟨c'⟩,w',()) ()
def lRunS:LoopAnn:={X:=Core × Work × Nat,live:=fun _=>[(0,.ptr ⟨0,0,0,0⟩),(1,.ptr ⟨1,0,0,0⟩)],heap:=fun x=>[some (.obj .sched ⟨x.1⟩),some (.obj .work x.2.1)],norm:=[.fold 0 .sched,.fold 1 .work]}
def sDoS:Sig:=⟨[(.obj .sched,true),(.elem .req,false)],[.elem .reply]⟩
def oDoS:sDoS.Out:=fun x k=>Law.OkS x.1.C∧k (⟨(Law.doS x.1.C x.2.1).2⟩,()) ((Law.doS x.1.C x.2.1).1,())
def sComS:Sig:=⟨[(.obj .sched,true),(.elem .choice,false)],[.bool]⟩
def oComS:sComS.Out:=fun x k=>Law.OkS x.1.C∧k (⟨(Law.comS x.1.C x.2.1).2⟩,()) ((Law.comS x.1.C x.2.1).1,())
def sTwinS:Sig:=⟨[(.view .sched,false)],[.opt .sched]⟩
def oTwinS:sTwinS.Out:=fun x k=>Law.CW x.1.C∧k () (some x.1,())
def sItems:Sig:=⟨[(.imm .job,false)],[.row .item]⟩
def oItems:sItems.Out:=fun x k=>(x.1.length≤4294967296)∧k () (x.1.map Law.itemJ,())
def lItems:LoopAnn:={X:=List Job × List Item × Int,live:=fun x=>[(3,.sl 0 4 0 x.2.1.length),(6,.imm .job x.1),(7,.int .i64 x.1.length),(8,.int .i64 x.2.2)],heap:=fun x=>[some (.row .item x.2.1)],norm:=[.row 3 .item,.home 3 0]}
def sItemsS:Sig:=⟨[(.view .sched,false)],[.row .item]⟩
def oItemsS:sItemsS.Out:=fun x k=>Law.CW x.1.C∧k () ((Law.waitC x.1.C).map Law.itemJ,())
def sAllQ:Sig:=⟨[(.obj .sched,true),(.imm .req,false)],[.row .reply]⟩
def oAllQ:sAllQ.Out:=fun x k=>(Law.OkS x.1.C∧x.2.1.length≤4294967296)∧k (⟨(Law.allQ x.1.C x.2.1).2⟩,()) ((Law.allQ x.1.C x.2.1).1,())
def sMadeS:Sig:=⟨[(.int .i64,false),(.imm .deed,false)],[.opt .sched]⟩
def oMadeS:sMadeS.Out:=fun x k=>((x.1<1∨64<x.1)→k () (none,()))∧(1≤x.1∧x.1≤64→k () (some ⟨Law.madeS x.1 x.2.1⟩,()))
def lMadeS:LoopAnn:={X:=List Deed × Core × Int,live:=fun x=>[(1,.imm .deed x.1),(5,.ptr ⟨0,0,0,0⟩),(7,.int .i64 x.2.2)],heap:=fun x=>[some (.obj .sched ⟨x.2.1⟩)],norm:=[.fold 0 .sched]}
def sSeqPlays:Sig:=⟨[(.int .i64,false),(.imm .deed,false)],[.bool]⟩
def lSeqPlays:LoopAnn:={X:=List Deed × Core × Model × Int,live:=fun x=>[(1,.imm .deed x.1),(5,.ptr ⟨0,0,0,0⟩),(7,.ptr ⟨1,0,0,0⟩),(8,.int .i64 x.2.2.2)],heap:=fun x=>[some (.obj .sched ⟨x.2.1⟩),some (.obj .model x.2.2.1)],norm:=[.fold 0 .sched,.fold 1 .model]}
def sExc:Sig:=⟨[(.elem .deed,false),(.elem .job,false),(.imm .job,false),(.imm .job,false)],[.bool]⟩
def oExc:sExc.Out:=fun x k=>(x.2.2.1.length≤1099511627776∧x.2.2.2.1.length≤1099511627776)∧k () (Law.excused x.1 x.2.1 x.2.2.1 x.2.2.2.1,())
def sSeqD:Sig:=⟨[(.int .i64,false),(.imm .deed,false),(.elem .deed,false)],[.bool]⟩
def oSeqD:sSeqD.Out:=fun _ k=>k () (true,())
def lSeqPlans:LoopAnn:={X:=Deed × Core × List Job × List Job × Int,live:=fun x=>[(5,.ptr ⟨0,0,0,0⟩),(7,.ptr ⟨1,0,0,0⟩),(8,.sl 2 10 0 x.2.2.1.length),(9,.sl 3 10 0 x.2.2.2.1.length),(10,.int .i64 x.2.2.2.2)],heap:=fun x=>[some (.raw (EK.enc .deed x.1)),some (.obj .sched ⟨x.2.1⟩),some (.row .job x.2.2.1),some (.row .job x.2.2.2.1)],norm:=[.fold 1 .sched,.home 8 2,.home 9 3]}
def lAllQ (f:FuncId):LoopAnn:={X:=Core × List Req × List Reply × Int,live:=fun x=>[(5,.sl 1 9 0 x.2.2.1.length),(6,.fnb f [.ptr ⟨0,0,0,0⟩]),(11,.imm .req x.2.1),(12,.int .i64 x.2.1.length),(13,.int .i64 x.2.2.2)],heap:=fun x=>[some (.obj .sched ⟨x.1⟩),some (.row .reply x.2.2.1)],norm:=[.fold 0 .sched,.row 5 .reply,.home 5 1]}
def sSeqItems:Sig:=⟨[(.int .i64,false),(.imm .deed,false),(.imm .req,false)],[.bool]⟩
def oSeqItems:sSeqItems.Out:=fun _ k=>k () (true,())
def lItems1:LoopAnn:={X:=List Req × Core × List Job × List Item × List Item × Int,live:=fun x=>[(2,.imm .req x.1),(8,.ptr ⟨3,0,0,0⟩),(9,.sl 4 10 0 x.2.2.1.length),(10,.sl 5 4 0 x.2.2.2.1.length),(11,.sl 6 4 0 x.2.2.2.2.1.length),(12,.int .i64 x.2.2.2.2.2)],heap:=fun x=>[none,none,none,some (.obj .sched ⟨x.2.1⟩),some (.row .job x.2.2.1),some (.row .item x.2.2.2.1),some (.row .item x.2.2.2.2.1)],norm:=[.fold 3 .sched,.home 9 4,.home 10 5,.home 11 6]}
def lItems2:LoopAnn:={X:=List Req × Core × Core × List Reply × Int,live:=fun x=>[(2,.imm .req x.1),(8,.ptr ⟨3,0,0,0⟩),(14,.ptr ⟨7,0,0,0⟩),(15,.sl 8 9 0 x.2.2.2.1.length),(16,.int .i64 x.2.2.2.2)],heap:=fun x=>[none,none,none,some (.obj .sched ⟨x.2.1⟩),none,none,none,some (.obj .sched ⟨x.2.2.1⟩),some (.row .reply x.2.2.2.1)],norm:=[.fold 3 .sched,.fold 7 .sched,.home 15 8]}
end Go.Ax.Sp
namespace Go.Ax.V
open Go.Ax.Sp Go.Ax.Law List Int IntKind
set_option maxRecDepth 100000
def vAwakeS (u:Unit) (k:Unit→Bool × Unit→Prop):Prop:=
SH (wholeW (newX (Choice.mk (1:Int) (5:Int))) (wholeW (newW (Req.mk (1:Int) (0:Int) (0:Int) (2:Int) (10:Int) (0:Int) false (0:Int) (0:Int))) (newCore (2:Int))).2.2).2 fun s0=>SH (wholeW (newW (Req.mk (9:Int) (0:Int) (0:Int) (0:Int) (0:Int) (0:Int) false (0:Int) (5:Int))) s0.2).2.2.J fun s1=>((2:Int)<1∨(64:Int)<2→k () (false,()))∧((1:Int)≤2∧(2:Int)≤64→OkS (newCore (2:Int))∧OkS (wholeW (newW (Req.mk (1:Int) (0:Int) (0:Int) (2:Int) (10:Int) (0:Int) false (0:Int) (0:Int))) (newCore (2:Int))).2.2∧OkS s0.2∧JW s1∧br s0.1.ok (br ((getJ s1.jobs (1:Int)).2==0) (br ((getJ s1.jobs (1:Int)).1.State==3) (k () ((getJ s1.jobs (1:Int)).1.Start==5,())) (k () (false,()))) (k () (false,()))) (k () (false,())))
def vComS (s:Sched) (x:Choice) (k:Sched × Unit→Bool × Unit→Prop):Prop:=
∃j w' c',(Law.Ends (newX x) s.C j w' c'∧CW s.C∧WW (newX x)∧length s.C.P.steps+4*j≤4294960000)∧k (Sched.mk c',()) (w'.ok,())
def vDoS (s:Sched) (r:Req) (k:Sched × Unit→Reply × Unit→Prop):Prop:=
br (!isK r.Kind) (k (s,()) (Reply.mk 4 0 0 0 0 0 0 0 0,())) (∃j w' c',(Law.Ends (newW r) s.C j w' c'∧CW s.C∧WW (newW r)∧length s.C.P.steps+4*j≤4294960000)∧k (Sched.mk c',()) (w'.reply,()))
def vIsR (q:Int) (k:Unit→Bool × Unit→Prop):Prop:=
br (decide (q≥1)) (k () (decide (q≤13),())) (k () (false,()))
def vItems (l:List Job) (k:Unit→List Ax.Item × Unit→Prop):Prop:=
LP (List Job × List Ax.Item × Int) (fun x=>((0=0∧0=length x.2.1)∧l=x.1∧LN l=LN x.1∧0=x.2.2∧True)∧[]=x.2.1∧True) fun I m x=>SH (length x.2.1) fun s0=>br (decide (x.2.2<LN x.1)) (AI x.1 x.2.2 fun e=>1≤1∧0+s0≤s0∧s0+1≤68719476736∧NM (x.2.2+1) fun n=>NX I m x fun y=>((0=0∧s0+1=length y.2.1)∧x.1=y.1∧LN x.1=LN y.1∧n=y.2.2∧True)∧tk x.2.1++[Item.mk e.Id e.Width e.Limit e.Plan]=y.2.1∧True) (s0=s0∧k () (x.2.1,()))
def vItemsS (s:Sched) (k:Unit→List Ax.Item × Unit→Prop):Prop:=
SH (sortJ (inJ s.C.J.jobs [1])) fun s0=>JW s.C.J∧0+length s0≤length s0∧length (tk s0)≤4294967296∧length (map itemJ (tk s0))=length (map itemJ (tk s0))∧k () (map itemJ (tk s0),())
def vMadeS (n:Int) (l:List Deed) (k:Unit→Option Sched × Unit→Prop):Prop:=
(n<1∨64<n→k () (none,()))∧(1≤n∧n≤64→LP (List Deed × Core × Int) (fun x=>(take 60 l=x.1∧0=0∧0=x.2.2∧True)∧Sched.mk (newCore n)=Sched.mk x.2.1∧True) fun I m x=>br (decide (x.2.2<LN x.1)) (AI x.1 x.2.2 fun e=>br e.Commit (AI x.1 x.2.2 fun e=>OkS x.2.1∧NM (x.2.2+1) fun n=>NX I m x fun y=>(x.1=y.1∧0=0∧n=y.2.2∧True)∧Sched.mk (wholeW (newX e.X) x.2.1).2.2=Sched.mk y.2.1∧True) (AI x.1 x.2.2 fun e=>OkS x.2.1∧NM (x.2.2+1) fun n=>NX I m x fun y=>(x.1=y.1∧0=0∧n=y.2.2∧True)∧Sched.mk (doS x.2.1 e.R).2=Sched.mk y.2.1∧True)) (k () (some (Sched.mk x.2.1),())))
def vNewS (n:Int) (k:Unit→Option Sched × Int × Unit→Prop):Prop:=
(n<1∨64<n→k () (none,1,()))∧(1≤n∧n≤64→k () (some (Sched.mk (newCore n)),0,()))
def vNoneS (s:Sched) (k:Unit→Bool × Unit→Prop):Prop:=
k () (noneC (some s.C),())
def vNoneSN (k:Unit→Bool × Unit→Prop):Prop:=
k () (true,())
def vRunS (s:Sched) (w:Work) (k:Sched × Work × Unit→Unit→Prop):Prop:=
LP (Core × Work × Nat) (fun x=>(0=0∧0=0∧True)∧s=Sched.mk x.1∧w=x.2.1∧True) fun I m x=>SH (stepW x.2.1 x.1) fun s0=>(CW x.1∧WW x.2.1∧length x.1.P.steps≤4294967280)∧br (!s0.1.done) (NX I m x fun y=>(0=0∧0=0∧True)∧Sched.mk s0.2=Sched.mk y.1∧s0.1=y.2.1∧True) (k (Sched.mk s0.2,s0.1,()) ())
def vTwinS (s:Sched) (k:Unit→Option Sched × Unit→Prop):Prop:=
CW s.C∧k () (some s,())
end Go.Ax.V
namespace Go.Ax.Law
def doSM (m:Model) (r:Req):Reply × Model:=if isK r.Kind then doM m r else (failR 4,m)
def deedSM (m:Model) (d:Deed):Model:=if d.Commit then (commitM m d.X).2 else (doSM m d.R).2
def madeSM (n:Int) (l:List Deed):Model:=(l.take 60).foldl deedSM (newM n)
theorem doS_stb {n:Nat} {c:Core} {m:Model} (h:Stb n c m) (r:Req):(doS c r).1=(doSM m r).1∧Stb n (doS c r).2 (doSM m r).2:=by
 unfold doS doSM
 cases isK r.Kind with
 |true=>obtain ⟨_,_,_,a4,a5⟩:=whole_do h r;exact ⟨a4,a5⟩
 |false=>exact ⟨rfl,h⟩
theorem comS_stb {n:Nat} {c:Core} {m:Model} (h:Stb n c m) (x:Choice):(comS c x).1=(commitM m x).1∧Stb n (comS c x).2 (commitM m x).2:=by
 obtain ⟨_,_,a3,a4,_⟩:=whole_commit h x
 exact ⟨a3,a4⟩
theorem deedS_stb {n:Nat} {c:Core} {m:Model} (h:Stb n c m) (d:Deed):Stb n (deedS c d) (deedSM m d):=by
 unfold deedS deedSM
 cases d.Commit with
 |true=>exact (comS_stb h d.X).2
 |false=>exact (doS_stb h d.R).2
theorem foldS_stb {n:Nat}: ∀(l:List Deed) {c:Core} {m:Model},Stb n c m→Stb n (l.foldl deedS c) (l.foldl deedSM m)
 | [],_,_,h=>h
 |d::l,_,_,h=>foldS_stb l (deedS_stb h d)
theorem madeS_stb {n:Int} (h1:1≤n) (h2:n≤64) (l:List Deed):Stb n.toNat (madeS n l) (madeSM n l):=by
 have:=new_stb (n:=n.toNat) (by omega) (by omega)
 rw [Int.toNat_of_nonneg (by omega)] at this
 exact foldS_stb _ this
theorem Stb.same {n:Nat} {c c':Core} {m:Model} (h:Stb n c m) (h':Stb n c' m):c'.J.jobs=c.J.jobs∧c'.P.steps=c.P.steps∧c'.N=c.N∧c'.closed=c.closed:=by
 have hj:c'.J.jobs=c.J.jobs:=h'.rep.jobs.symm.trans h.rep.jobs
 have hd:=h.rep.deep
 have hd':=h'.rep.deep
 refine ⟨hj,h'.rep.steps.symm.trans h.rep.steps,?_,h'.rep.closed.symm.trans h.rep.closed⟩
 have e1:c'.N.all=c.N.all:=by rw [hd.all,hd'.all]
 have e2:c'.N.used=c.N.used:=bits_ext hd'.cw.2.1.2.1 hd.cw.2.1.2.1 fun k _=>by rw [hd.us,hd'.us,hj]
 have e3:c'.N.drain=c.N.drain:=bits_ext hd'.cw.2.1.2.2.1 hd.cw.2.1.2.2.1 fun k _=>by
  by_cases hk:k<n
  ·exact (h'.rep.dr k hk).symm.trans (h.rep.dr k hk)
  ·have a1:=hd.dn k
   have a2:=hd'.dn k
   cases b1:hasB c.N.drain (k:Int)<;>cases b2:hasB c'.N.drain (k:Int)<;>simp only [b1,b2] at a1 a2<;>first |rfl |exact absurd (a1 trivial) hk |exact absurd (a2 trivial) hk
 cases hc:c.N;cases hc':c'.N
 simp only [hc,hc'] at e1 e2 e3
 rw [e1,e2,e3]
theorem ends_do {n:Nat} {c:Core} {m:Model} (h:Stb n c m) (r:Req): ∃j,j≤140∧Ends (newW r) c j (wholeW (newW r) c).2.1 (wholeW (newW r) c).2.2:=by
 obtain ⟨k,w',c',h1,h2,_⟩:=do_done h r
 refine ⟨k,h1,?_⟩
 unfold wholeW
 rw [h2.whole 1999 1 (by omega)];exact h2
theorem ends_com {n:Nat} {c:Core} {m:Model} (h:Stb n c m) (x:Choice): ∃j,j≤4∧Ends (newX x) c j (wholeW (newX x) c).2.1 (wholeW (newX x) c).2.2:=by
 obtain ⟨⟨k,w',c',h1,h2,_⟩,_⟩:=commit_done h x
 refine ⟨k,h1,?_⟩
 unfold wholeW
 rw [h2.whole 1999 1 (by omega)];exact h2
theorem wait_len {c:Core} (h:CW c):(sortJ (inJ c.J.jobs [1])).length≤4294967296:=by
 have a1:=h.1.2.1
 have a2:(inJ c.J.jobs [1]).length≤c.J.jobs.length:=List.length_filter_le _ _
 rw [sort_len];omega
def Ref (m:Model) (p:Reply × Model):Prop:=p.1.Err≠0→p=(failR p.1.Err,m)
theorem Ref.fail {m:Model} {e:Int}:Ref m (failR e,m):=fun _=>rfl
theorem Ref.fine {m:Model} {p:Reply × Model} (h:p.1.Err=0):Ref m p:=fun g=>absurd h g
theorem Ref.ite {m:Model} {c:Prop} [Decidable c] {a b:Reply × Model} (h1:Ref m a) (h2:Ref m b):Ref m (if c then a else b):=by
 split
 ·exact h1
 ·exact h2
theorem doM_refuses (m:Model) (r:Req):Ref m (doM m r):=by
 unfold doM
 refine .ite .fail (.ite ?_ (.ite ?_ (.ite ?_ (.ite ?_ (.ite ?_ (.ite (.fine rfl) (.ite (.fine rfl) (.ite (.fine rfl) (.ite (.fine rfl) .fail)))))))))
 ·unfold submitM
  exact .ite .fail (.ite .fail (.ite .fail (.ite .fail (.fine rfl))))
 ·unfold endM
  exact .ite .fail (.ite .fail (.fine rfl))
 ·unfold turnM
  exact .ite .fail (.ite .fail (.fine rfl))
 ·unfold nodeM
  exact .ite .fail (.ite .fail (.fine rfl))
 ·unfold tickM
  exact .ite .fail (.fine rfl)
theorem doSM_refuses (m:Model) (r:Req):(doSM m r).1.Err≠0→doSM m r=(failR (doSM m r).1.Err,m):=by
 unfold doSM
 split
 ·exact doM_refuses m r
 ·intro _;rfl
theorem commitM_refuses (m:Model) (x:Choice):(commitM m x).1=false→(commitM m x).2=m:=by
 unfold commitM
 split
 ·intro _;rfl
 ·split<;>(intro h;cases h)
theorem OkS.step {c:Core} (h:OkS c) (r:Req):OkS (doS c r).2:=by
 obtain ⟨n,m,h⟩:=h
 exact ⟨_,_,(doS_stb h r).2⟩
theorem OkS.cw {c:Core} (h:OkS c):CW c:=by obtain ⟨n,m,h⟩:=h;exact h.cw
theorem OkS.len {c:Core} (h:OkS c):c.P.steps.length≤3073:=by obtain ⟨n,m,h⟩:=h;exact h.len
end Go.Ax.Law
namespace Go.Ax.O
open Go.Ax.Sp Go.Ax.Law
theorem vIsR {q:Int} {k:Unit→Bool × Unit→Prop} (h:oIsR (q,()) k):V.vIsR q k:=by
 have h:k () (isK q,()):=h
 unfold isK at h
 unfold V.vIsR
 refine br_dec (fun h1=>?_) (fun h1=>?_)
 ·rw [show decide (1≤q)=true from decide_eq_true h1,Bool.true_and] at h;exact h
 ·rw [show decide (1≤q)=false from decide_eq_false h1,Bool.false_and] at h;exact h
theorem vNewS {n:Int} {k:Unit→Option Sched × Int × Unit→Prop} (h:oNewS (n,()) k):V.vNewS n k:=h
theorem vNoneS {s:Sched} {k:Unit→Bool × Unit→Prop} (h:oNoneS (some s,()) k):V.vNoneS s k:=h
theorem vNoneSN {k:Unit→Bool × Unit→Prop} (h:oNoneS (none,()) k):V.vNoneSN k:=h
theorem vRunS {s:Sched} {w:Work} {k:Sched × Work × Unit→Unit→Prop} (h:oRunS (s,w,()) k):V.vRunS s w k:=by
 obtain ⟨j,w',c',⟨h1,h2,h3,h4⟩,hk⟩:=h
 have hk:k (⟨c'⟩,w',()) ():=hk
 unfold V.vRunS V.LP V.NX V.SH
 simp only [true_and,and_true]
 refine ⟨fun x=>Law.Ends x.2.1 x.1 x.2.2 w' c'∧CW x.1∧WW x.2.1∧x.1.P.steps.length+4*x.2.2≤4294960000,fun x=>x.2.2,(s.C,w,j),⟨h1,h2,h3,h4⟩,by simp,?_⟩
 rintro ⟨c,v,i⟩ ⟨g1,g2,g3,g4⟩
 simp only [] at g1 g2 g3 g4
 dsimp only
 have:=g1.pos
 obtain ⟨s1,s2,s3⟩:=stepW_ok g2 g3 (by omega)
 refine ⟨⟨g2,g3,by omega⟩,br_not (fun hd=>?_) (fun hd=>?_)⟩
 ·cases g1 with
  |one h=>rw [h] at hd;cases hd
  | @more _ _ i _ _ _ he=>exact ⟨((stepW v c).2,(stepW v c).1,i),⟨he,s1,s2,by simp only [];omega⟩,by simp,by simp only [];omega⟩
 ·cases g1 with
  |one h=>exact hk
  |more h _=>rw [h] at hd;cases hd
theorem vDoS {s:Sched} {r:Req} {k:Sched × Unit→Reply × Unit→Prop} (h:oDoS (s,r,()) k):V.vDoS s r k:=by
 obtain ⟨⟨n,m,hs⟩,hk⟩:=h
 have hs:Stb n s.C m:=hs
 have hk:k (⟨(doS s.C r).2⟩,()) ((doS s.C r).1,()):=hk
 have hl:=hs.len
 unfold doS at hk
 unfold V.vDoS
 refine br_not (fun hb=>?_) (fun hb=>?_)
 ·rw [if_neg (by rw [hb];decide)] at hk;exact hk
 ·rw [if_pos hb] at hk
  obtain ⟨j,h1,h2⟩:=ends_do hs r
  exact ⟨j,_,_,⟨h2,hs.cw,newW_WW _,by omega⟩,hk⟩
theorem vComS {s:Sched} {x:Choice} {k:Sched × Unit→Bool × Unit→Prop} (h:oComS (s,x,()) k):V.vComS s x k:=by
 obtain ⟨⟨n,m,hs⟩,hk⟩:=h
 have hs:Stb n s.C m:=hs
 have hl:=hs.len
 obtain ⟨j,h1,h2⟩:=ends_com hs x
 exact ⟨j,_,_,⟨h2,hs.cw,newX_WW _,by omega⟩,hk⟩
theorem vTwinS {s:Sched} {k:Unit→Option Sched × Unit→Prop} (h:oTwinS (s,()) k):V.vTwinS s k:=h
theorem vItems {l:List Job} {k:Unit→List Go.Ax.Item × Unit→Prop} (h:oItems (l,()) k):V.vItems l k:=by
 obtain ⟨hl,hk⟩:=h
 have hl:l.length≤4294967296:=hl
 have hk:k () (l.map itemJ,()):=hk
 unfold V.vItems V.LP V.NX V.AI V.NM V.SH V.LN
 simp only [tk_eq,tkset,Nat.zero_add,Nat.le_refl,true_and,and_true,List.length_set]
 refine ⟨fun x=>x.1=l∧0≤x.2.2∧x.2.2≤l.length∧x.2.1=(l.take x.2.2.toNat).map itemJ,fun x=>(l.length-x.2.2).toNat,(l,[],0),⟨rfl,Int.le_refl _,by simp,by simp⟩,by simp,?_⟩
 rintro ⟨l',o,i⟩ ⟨g1,g2,g3,g4⟩
 simp only [] at g1 g2 g3 g4
 subst g1 g4
 obtain ⟨i,rfl⟩:=Int.eq_ofNat_of_zero_le g2
 simp only [Int.toNat_natCast]
 have hlen:((l'.take i).map itemJ).length≤l'.length:=by simp;omega
 refine br_dec (fun hi=>⟨⟨g2,hi⟩,fun e he=>⟨by omega,fun q hq=>?_⟩⟩) (fun hi=>?_)
 ·rw [w64 (by omega)] at hq
  subst hq
  refine ⟨(l',(l'.take (i+1)).map itemJ,i+1),⟨rfl,by simp only [];omega,by simp only [];omega,by simp only [show ((i:Int)+1).toNat=i+1 by omega]⟩,?_,by simp only [];omega⟩
  rw [List.take_add_one,he]
  simp [itemJ]
 ·rw [List.take_of_length_le (by omega)];exact hk
theorem vItemsS {s:Sched} {k:Unit→List Go.Ax.Item × Unit→Prop} (h:oItemsS (s,()) k):V.vItemsS s k:=by
 obtain ⟨hc,hk⟩:=h
 have hc:CW s.C:=hc
 have hk:k () ((waitC s.C).map itemJ,()):=hk
 unfold V.vItemsS V.SH
 simp only [tk_eq,tkset,Nat.zero_add,Nat.le_refl,true_and,and_true,List.length_set]
 exact ⟨hc.1,wait_len hc,hk⟩
theorem awake13:(wholeW (newX ⟨1,5⟩) (wholeW (newW ⟨1,0,0,2,10,0,false,0,0⟩) (newCore 2)).2.2).2.1.ok=true∧
  (getJ (wholeW (newW ⟨9,0,0,0,0,0,false,0,5⟩) (wholeW (newX ⟨1,5⟩) (wholeW (newW ⟨1,0,0,2,10,0,false,0,0⟩) (newCore 2)).2.2).2.2).2.2.J.jobs 1).2=0∧
  (getJ (wholeW (newW ⟨9,0,0,0,0,0,false,0,5⟩) (wholeW (newX ⟨1,5⟩) (wholeW (newW ⟨1,0,0,2,10,0,false,0,0⟩) (newCore 2)).2.2).2.2).2.2.J.jobs 1).1.State=3∧
  (getJ (wholeW (newW ⟨9,0,0,0,0,0,false,0,5⟩) (wholeW (newX ⟨1,5⟩) (wholeW (newW ⟨1,0,0,2,10,0,false,0,0⟩) (newCore 2)).2.2).2.2).2.2.J.jobs 1).1.Start=5:=by
 refine ⟨?_,?_,?_,?_⟩<;>kernel_rfl
theorem vAwakeS {u:Unit} {k:Unit→Bool × Unit→Prop} (h:oYes u k):V.vAwakeS u k:=by
 unfold V.vAwakeS V.SH
 have h:k () (true,()):=h
 obtain ⟨a1,a2,a3,a4⟩:=awake13
 have s0:=new_stb (n:=2) (by decide) (by decide)
 have s1:=(whole_do s0 ⟨1,0,0,2,10,0,false,0,0⟩).2.2.2.2
 have s2:=(whole_commit s1 ⟨1,5⟩).2.2.2.1
 have s3:=(whole_do s2 ⟨9,0,0,0,0,0,false,0,5⟩).2.2.2.2
 refine ⟨fun hn=>by omega,fun _=>⟨⟨_,_,s0⟩,⟨_,_,s1⟩,⟨_,_,s2⟩,s3.cw.1,br_bool (fun _=>br_eq (fun _=>br_eq (fun _=>?_) (fun hh=>absurd a3 hh)) (fun hh=>absurd a2 hh)) (fun hh=>?_)⟩⟩
 ·rw [a4];exact h
 ·have hh:(wholeW (newX ⟨1,5⟩) (wholeW (newW ⟨1,0,0,2,10,0,false,0,0⟩) (newCore 2)).2.2).2.1.ok=false:=hh
  rw [a1] at hh;cases hh
theorem vMadeS {n:Int} {l:List Deed} {k:Unit→Option Sched × Unit→Prop} (h:oMadeS (n,l,()) k):V.vMadeS n l k:=by
 obtain ⟨hk1,hk2⟩:=h
 unfold V.vMadeS V.LP V.NX V.AI V.NM V.LN
 simp only [tk_eq,tkset,Nat.zero_add,Nat.le_refl,true_and,and_true,List.length_set]
 refine ⟨hk1,fun hn=>?_⟩
 obtain ⟨n1,n2⟩:=hn
 have hk:k () (some ⟨madeS n l⟩,()):=hk2 ⟨n1,n2⟩
 unfold madeS at hk
 have hs:=new_stb (n:=n.toNat) (by omega) (by omega)
 rw [Int.toNat_of_nonneg (by omega)] at hs
 have ht:=List.length_take_le 60 l
 generalize List.take 60 l=L at*
 refine ⟨fun x=>x.1=L∧OkS x.2.1∧0≤x.2.2∧x.2.2≤L.length∧x.2.1=(L.take x.2.2.toNat).foldl deedS (newCore n),fun x=>(L.length-x.2.2).toNat,(L,newCore n,0),⟨rfl,⟨_,_,hs⟩,Int.le_refl _,by simp,by simp⟩,by simp,?_⟩
 rintro ⟨L',d,i⟩ ⟨g1,g2,g3,g4,g5⟩
 simp only [] at g1 g2 g3 g4 g5
 subst g1
 obtain ⟨i,rfl⟩:=Int.eq_ofNat_of_zero_le g3
 simp only [Int.toNat_natCast] at g5 ⊢
 refine br_dec (fun hi=>⟨⟨g3,hi⟩,fun e he=>?_⟩) (fun hi=>?_)
 ·have nx: ∀d2,d2=deedS d e→ ∀q,q=IntKind.i64.wrap ((i:Int)+1)→ ∃y:List Deed × Core × Int,(y.1=L'∧OkS y.2.1∧0≤y.2.2∧y.2.2≤L'.length∧y.2.1=(L'.take y.2.2.toNat).foldl deedS (newCore n))∧((L'=y.1∧q=y.2.2)∧Sched.mk d2=Sched.mk y.2.1)∧(L'.length-y.2.2).toNat<(L'.length-(i:Int)).toNat:=by
   intro d2 hd2 q hq
   rw [w64 (by omega)] at hq
   subst hq hd2
   obtain ⟨n',m',g2⟩:=g2
   refine ⟨(L',deedS d e,i+1),⟨rfl,⟨_,_,deedS_stb g2 e⟩,by simp only [];omega,by simp only [];omega,?_⟩,by simp,by simp only [];omega⟩
   have:((i:Int)+1).toNat=i+1:=by omega
   simp only [this]
   rw [List.take_add_one,he,List.foldl_append,←g5]
   rfl
  refine br_bool (fun hb=>⟨⟨g3,hi⟩,fun e1 he1=>?_⟩) (fun hb=>⟨⟨g3,hi⟩,fun e1 he1=>?_⟩)<;>(rw [he] at he1;cases he1)
  ·exact ⟨g2,nx _ (by unfold deedS comS;rw [if_pos hb])⟩
  ·exact ⟨g2,nx _ (by unfold deedS;rw [if_neg (by rw [hb];decide)])⟩
 ·rw [List.take_of_length_le (by omega)] at g5
  rw [g5];exact hk
end Go.Ax.O
