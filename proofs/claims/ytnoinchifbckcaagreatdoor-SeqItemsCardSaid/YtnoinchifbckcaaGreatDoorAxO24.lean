import Derived.Test.YtnoinchifbckcaaGreatDoorAxO23
set_option linter.all false
namespace Go.Ax.O
open Go.Ax.Sp Go.Ax.Law
theorem vTimesM {m:Model} {k:Unit→List Int × Unit→Prop} (h:oTimesM (m,()) k):V.vTimesM m k:=by
  obtain ⟨hm,hk⟩:=h
  simp only [] at hm hk
  have hl:=hm.1
  have hM: ∃R,timesM m=R:=⟨_,rfl⟩
  obtain ⟨R,hR⟩:=hM
  rw [hR] at hk
  refine ⟨fun x=>x.1=m∧0≤x.2.2∧x.2.2≤2*m.L.length∧x.2.1.length=x.2.2.toNat+1∧ ∃last,x.2.1.getLast?=some last∧x.2.1++timesF m.L (2*m.L.length-x.2.2.toNat) last=R,fun x=>(2*m.L.length-x.2.2).toNat,(m,[m.Now],0),⟨rfl,Int.le_refl _,by simp only [];omega,rfl,m.Now,rfl,by simpa [timesM] using hR⟩,⟨⟨⟨rfl,rfl,rfl,rfl,trivial⟩,⟨rfl,rfl⟩,rfl,trivial⟩,rfl,trivial⟩,?_⟩
  rintro ⟨m',out,c⟩ ⟨g1,g2,g3,g4,last,g5,g6⟩
  simp only [] at g1 g2 g3 g4 g5 g6
  subst g1
  obtain ⟨c,rfl⟩:=Int.eq_ofNat_of_zero_le g2
  rw [Int.toNat_natCast] at g4 g6
  dsimp only
  intro n hn
  rw [w64 (by omega)] at hn
  subst hn
  refine br_dec (fun hc n hn=>?_) (fun hc=>⟨rfl,?_⟩)
  · rw [w64 (by omega)] at hn
    subst hn
    have hnn:((out.length:Int)-1).toNat=c:=by omega
    rw [Nat.zero_add,hnn]
    refine ⟨⟨by omega,by omega⟩,by omega,fun e he=>?_⟩
    have hel:e=last:=by
      rw [List.getLast?_eq_getElem?,g4] at g5
      simp at g5
      rw [he] at g5;cases g5;rfl
    subst hel
    refine ⟨fun y=>y.1=m'∧y.2.1=out∧y.2.2.1=(c:Int)∧y.2.2.2.1=e∧0≤y.2.2.2.2.2∧y.2.2.2.2.2≤m'.L.length∧y.2.2.2.2.1=(m'.L.take y.2.2.2.2.2.toNat).foldl (best1 e) (-1),fun y=>(m'.L.length-y.2.2.2.2.2).toNat,(m',out,(c:Int),e,-1,0),⟨rfl,rfl,rfl,rfl,Int.le_refl _,by simp,by simp⟩,⟨⟨⟨rfl,rfl,rfl,rfl,trivial⟩,⟨rfl,rfl⟩,rfl,rfl,rfl,rfl,trivial⟩,rfl,trivial⟩,?_⟩
    rintro ⟨m2,o2,c2,l2,b,i⟩ ⟨k1,k2,k3,k4,k5,k6,k7⟩
    simp only [] at k1 k2 k3 k4 k5 k6 k7
    subst k1 k2 k3 k4
    obtain ⟨i,rfl⟩:=Int.eq_ofNat_of_zero_le k5
    rw [Int.toNat_natCast] at k7
    dsimp only
    rw [Int.toNat_natCast]
    have nx: ∀j,m2.L[i]? =some j→ ∀b2,b2=best1 l2 b j→ ∀q,q=IntKind.i64.wrap ((i:Int)+1)→ ∃y:Model × List Int × Int × Int × Int × Int,(y.1=m2∧y.2.1=o2∧y.2.2.1=(c:Int)∧y.2.2.2.1=l2∧0≤y.2.2.2.2.2∧y.2.2.2.2.2≤m2.L.length∧y.2.2.2.2.1=(m2.L.take y.2.2.2.2.2.toNat).foldl (best1 l2) (-1))∧(((m2.Now=y.1.Now∧m2.Drain=y.1.Drain∧m2.L=y.1.L∧m2.Closed=y.1.Closed∧True)∧(0=0∧o2.length=y.2.1.length)∧(c:Int)=y.2.2.1∧l2=y.2.2.2.1∧b2=y.2.2.2.2.1∧q=y.2.2.2.2.2∧True)∧o2=y.2.1∧True)∧(m2.L.length-y.2.2.2.2.2).toNat<(m2.L.length-(i:Int)).toNat:=by
      intro j hj b2 hb2 q hq
      have hil:=(List.getElem?_eq_some_iff.1 hj).1
      rw [w64 (by omega)] at hq
      subst hq
      refine ⟨(m2,o2,(c:Int),l2,b2,(i:Int)+1),⟨rfl,rfl,rfl,rfl,by simp only [];omega,by simp only [];omega,?_⟩,⟨⟨⟨rfl,rfl,rfl,rfl,trivial⟩,⟨rfl,rfl⟩,rfl,rfl,rfl,rfl,trivial⟩,rfl,trivial⟩,by simp only [];omega⟩
      simp only []
      rw [show ((i:Int)+1).toNat=i+1 by omega,fold_snoc' hj,←k7];exact hb2
    refine br_dec (fun hi=>⟨⟨k5,hi⟩,fun j hj=>?_⟩) (fun hi=>?_)
    · have hs:=(hm.job hj).sum
      refine br_eq (fun h3=>br_bool (fun hp n hn=>?_) (fun hp=>?_)) (fun h3=>br_bool (fun hp n hn=>?_) (fun hp=>?_))
      · rw [hs] at hn;subst hn
        exact nx j hj _ (by unfold best1;simp [h3,hp])
      · exact nx j hj _ (by unfold best1;simp [h3,hp])
      · rw [hs] at hn;subst hn
        exact nx j hj _ (by unfold best1;simp [h3,hp])
      · exact nx j hj _ (by unfold best1;simp [h3,hp])
    · have hil:i=m2.L.length:=by omega
      rw [hil,List.take_of_length_le (Nat.le_refl _)] at k7
      have hbt:b=bestT m2.L l2:=k7
      have htf:timesF m2.L (2*m2.L.length-c) l2=if b<0 then [] else b::timesF m2.L (2*m2.L.length-(c+1)) b:=by
        rw [show 2*m2.L.length-c=(2*m2.L.length-(c+1))+1 by omega]
        simp only [timesF];rw [hbt]
      rw [htf] at g6
      refine br_dec (fun hb=>⟨rfl,?_⟩) (fun hb=>⟨Nat.le_refl _,by omega,by omega,fun n hn=>?_⟩)
      · rw [if_pos hb,List.append_nil] at g6
        rw [←g6] at hk;exact hk
      · rw [if_neg hb] at g6
        rw [w64 (by omega)] at hn
        subst hn
        rw [tk_eq]
        refine ⟨(m2,o2++[b],(c:Int)+1),⟨rfl,by simp only [];omega,by simp only [];omega,?_,b,by simp,?_⟩,⟨⟨⟨rfl,rfl,rfl,rfl,trivial⟩,⟨rfl,by simp⟩,rfl,trivial⟩,rfl,trivial⟩,by simp only [];omega⟩
        · simp only [List.length_append,List.length_singleton];omega
        · simp only []
          rw [show ((c:Int)+1).toNat=c+1 by omega,List.append_assoc];exact g6
  · have:2*m'.L.length-c=0:=by omega
    rw [this] at g6
    simp only [timesF,List.append_nil] at g6
    rw [←g6] at hk;exact hk
theorem vStepsM {m:Model} {k:Unit→List Step × Unit→Prop} (h:oStepsM (m,()) k):V.vStepsM m k:=by
  obtain ⟨hm,hk⟩:=h
  simp only [] at hm hk
  have hl:=hm.1
  have htl:=times_len m
  unfold stepsM at hk
  refine ⟨hm,fun x=>x.1=m∧x.2.1=timesM m∧0≤x.2.2.2∧x.2.2.2≤(timesM m).length∧x.2.2.1=((timesM m).take x.2.2.2.toNat).foldl (step1 m) []∧x.2.2.1.length≤x.2.2.2.toNat,fun x=>((timesM m).length-x.2.2.2).toNat,(m,timesM m,[],0),⟨rfl,rfl,Int.le_refl _,by simp,by simp,by simp⟩,⟨⟨⟨rfl,rfl,rfl,rfl,trivial⟩,⟨rfl,rfl⟩,⟨rfl,rfl⟩,rfl,trivial⟩,rfl,rfl,trivial⟩,?_⟩
  rintro ⟨m',T,out,i⟩ ⟨g1,g2,g3,g4,g5,g6⟩
  simp only [] at g1 g2 g3 g4 g5 g6
  subst g1 g2
  obtain ⟨i,rfl⟩:=Int.eq_ofNat_of_zero_le g3
  rw [Int.toNat_natCast] at g5 g6
  dsimp only
  rw [Nat.zero_add,Int.toNat_natCast]
  have nx: ∀e,(timesM m')[i]? =some e→ ∀o2,o2=step1 m' out e→o2.length≤i+1→ ∀q,q=IntKind.i64.wrap ((i:Int)+1)→ ∃y:Model × List Int × List Step × Int,(y.1=m'∧y.2.1=timesM m'∧0≤y.2.2.2∧y.2.2.2≤(timesM m').length∧y.2.2.1=((timesM m').take y.2.2.2.toNat).foldl (step1 m') []∧y.2.2.1.length≤y.2.2.2.toNat)∧(((m'.Now=y.1.Now∧m'.Drain=y.1.Drain∧m'.L=y.1.L∧m'.Closed=y.1.Closed∧True)∧(0=0∧o2.length=y.2.2.1.length)∧(0=0∧(timesM m').length=y.2.1.length)∧q=y.2.2.2∧True)∧timesM m'=y.2.1∧o2=y.2.2.1∧True)∧((timesM m').length-y.2.2.2).toNat<((timesM m').length-(i:Int)).toNat:=by
    intro e he o2 ho2 hol q hq
    have hil:=(List.getElem?_eq_some_iff.1 he).1
    rw [w64 (by omega)] at hq
    subst hq
    refine ⟨(m',timesM m',o2,(i:Int)+1),⟨rfl,rfl,by simp only [];omega,by simp only [];omega,?_,by simp only [];omega⟩,⟨⟨⟨rfl,rfl,rfl,rfl,trivial⟩,⟨rfl,rfl⟩,⟨rfl,rfl⟩,rfl,trivial⟩,rfl,rfl,trivial⟩,by simp only [];omega⟩
    simp only []
    rw [show ((i:Int)+1).toNat=i+1 by omega,fold_snoc' he,←g5];exact ho2
  refine br_dec (fun hi=>⟨⟨g3,hi⟩,by omega,fun e he=>⟨hm,br_eq (fun h0=>?_) (fun h0=>?_)⟩⟩) (fun hi=>⟨rfl,?_⟩)
  · have ho:out=[]:=List.eq_nil_of_length_eq_zero (by omega)
    refine ⟨⟨g3,hi⟩,by omega,fun e1 he1=>⟨Nat.le_refl _,by omega,by omega,fun n hn=>?_⟩⟩
    rw [he] at he1;cases he1
    have:=nx e he (out++[⟨e,freeM m' e 0⟩]) (by rw [ho];rfl) (by rw [ho];simp) n hn
    rw [tk_eq]
    simpa using this
  · have hne:out≠[]:=fun e=>by rw [e] at h0;simp at h0
    have hpos:0<out.length:=List.length_pos_iff.2 hne
    intro n hn
    rw [w64 (by omega)] at hn
    subst hn
    have hnn:((out.length:Int)-1).toNat=out.length-1:=by omega
    rw [Nat.zero_add,hnn]
    refine ⟨⟨by omega,by omega⟩,by omega,fun s hs=>?_⟩
    have hgl:out.getLast?=some s:=by rw [List.getLast?_eq_getElem?];exact hs
    have hst:step1 m' out e=if s.Free=freeM m' e 0 then out else out++[⟨e,freeM m' e 0⟩]:=by unfold step1;rw [hgl]
    refine br_ne (fun hf=>?_) (fun hf=>?_)
    · refine ⟨⟨g3,hi⟩,by omega,fun e2 he2=>⟨Nat.le_refl _,by omega,by omega,fun n hn=>?_⟩⟩
      rw [he] at he2;cases he2
      have:=nx e he (out++[⟨e,freeM m' e 0⟩]) (by rw [hst,if_neg hf]) (by simp;omega) n hn
      rw [tk_eq]
      simpa using this
    · exact nx e he out (by rw [hst,if_pos hf]) (by omega)
  · rw [List.take_of_length_le (by omega)] at g5
    rw [←g5] at hk;exact hk
theorem vRoomM {m:Model} {a l w b:Int} {k:Unit→Bool × Unit→Prop} (h:oRoomM (m,a,l,w,b,()) k):V.vRoomM m a l w b k:=by
  obtain ⟨⟨hm,h1,h2,h3,h4⟩,hk⟩:=h
  have hm:MW m:=hm
  have h1:0≤a:=h1
  have h2:a≤1099511627776:=h2
  have h3:0≤l:=h3
  have h4:l≤1048576:=h4
  have hk:k () (roomM m a l w b,()):=hk
  have hl:=hm.1
  have htl:=times_len m
  unfold roomM at hk
  refine ⟨hm,br_dec (fun hc=>by rw [if_pos hc] at hk;exact hk) (fun hc=>?_)⟩
  rw [if_neg hc] at hk
  refine ⟨hm,fun x=>x.1=m∧x.2.1=a∧x.2.2.1=l∧x.2.2.2.1=w∧x.2.2.2.2.1=b∧x.2.2.2.2.2.1=timesM m∧0≤x.2.2.2.2.2.2∧x.2.2.2.2.2.2≤(timesM m).length∧ ∀(p:Nat) (t:Int),(p:Int)<x.2.2.2.2.2.2→(timesM m)[p]? =some t→roomOK m a l w b t=true,fun x=>((timesM m).length-x.2.2.2.2.2.2).toNat,(m,a,l,w,b,timesM m,0),⟨rfl,rfl,rfl,rfl,rfl,rfl,Int.le_refl _,by simp,fun p t hp=>by simp at hp;omega⟩,⟨⟨⟨rfl,rfl,rfl,rfl,trivial⟩,rfl,rfl,rfl,rfl,⟨rfl,rfl⟩,rfl,trivial⟩,rfl,trivial⟩,?_⟩
  rintro ⟨m',a',l',w',b',T,i⟩ ⟨g1,g2,g3,g4,g5,g6,g7,g8,g9⟩
  simp only [] at g1 g2 g3 g4 g5 g6 g7 g8 g9
  subst g1 g2 g3 g4 g5 g6
  obtain ⟨i,rfl⟩:=Int.eq_ofNat_of_zero_le g7
  dsimp only
  rw [Nat.zero_add,Int.toNat_natCast]
  have nx: ∀e,(timesM m')[i]? =some e→roomOK m' a' l' w' b' e=true→ ∀q,q=IntKind.i64.wrap ((i:Int)+1)→ ∃y:Model × Int × Int × Int × Int × List Int × Int,(y.1=m'∧y.2.1=a'∧y.2.2.1=l'∧y.2.2.2.1=w'∧y.2.2.2.2.1=b'∧y.2.2.2.2.2.1=timesM m'∧0≤y.2.2.2.2.2.2∧y.2.2.2.2.2.2≤(timesM m').length∧ ∀(p:Nat) (t:Int),(p:Int)<y.2.2.2.2.2.2→(timesM m')[p]? =some t→roomOK m' a' l' w' b' t=true)∧(((m'.Now=y.1.Now∧m'.Drain=y.1.Drain∧m'.L=y.1.L∧m'.Closed=y.1.Closed∧True)∧a'=y.2.1∧l'=y.2.2.1∧w'=y.2.2.2.1∧b'=y.2.2.2.2.1∧(0=0∧(timesM m').length=y.2.2.2.2.2.1.length)∧q=y.2.2.2.2.2.2∧True)∧timesM m'=y.2.2.2.2.2.1∧True)∧((timesM m').length-y.2.2.2.2.2.2).toNat<((timesM m').length-(i:Int)).toNat:=by
    intro e he hr q hq
    have hil:=(List.getElem?_eq_some_iff.1 he).1
    rw [w64 (by omega)] at hq
    subst hq
    refine ⟨(m',a',l',w',b',timesM m',(i:Int)+1),⟨rfl,rfl,rfl,rfl,rfl,rfl,by simp only [];omega,by simp only [];omega,fun p t hp ht=>?_⟩,⟨⟨⟨rfl,rfl,rfl,rfl,trivial⟩,rfl,rfl,rfl,rfl,⟨rfl,rfl⟩,rfl,trivial⟩,rfl,trivial⟩,by simp only [];omega⟩
    simp only [] at hp
    by_cases hpi:p=i
    · subst hpi;rw [he] at ht;cases ht;exact hr
    · exact g9 p t (by omega) ht
  refine br_dec (fun hi=>⟨⟨g7,hi⟩,by omega,fun e he=>br_dec (fun c1=>⟨⟨g7,hi⟩,by omega,fun e1 he1 n hn=>?_⟩) (fun c1=>nx e he (by unfold roomOK;simp [c1]))⟩) (fun hi=>?_)
  · rw [he] at he1;cases he1
    rw [w64 (by omega)] at hn
    subst hn
    refine br_dec (fun c2=>⟨⟨g7,hi⟩,by omega,fun e2 he2=>⟨hm,?_⟩⟩) (fun c2=>nx e he (by unfold roomOK;simp [c2]))
    rw [he] at he2;cases he2
    refine br_dec (fun c3=>?_) (fun c3=>nx e he (by unfold roomOK;simp [c3]))
    have:((timesM m').all (roomOK m' a' l' w' b'))=false:=by
      rw [List.all_eq_false]
      refine ⟨e,List.mem_of_getElem? he,?_⟩
      have c1:a'<e:=c1
      unfold roomOK;simp [c1,c2,c3]
    rw [this] at hk;exact hk
  · have:((timesM m').all (roomOK m' a' l' w' b'))=true:=by
      rw [List.all_eq_true]
      intro t ht
      obtain ⟨p,hp⟩:=List.getElem?_of_mem ht
      exact g9 p t (by have:=(List.getElem?_eq_some_iff.1 hp).1;omega) hp
    rw [this] at hk;exact hk
theorem getM_cases (m:Model) (n:Int):((n<1∨(m.L.length:Int)<n)∧getM m n=(job0,false))∨ ∃(i:Nat) (j:Job),n=(i:Int)+1∧m.L[i]? =some j∧getM m n=(j,true):=by
  by_cases h:n<1∨(m.L.length:Int)<n
  · left;exact ⟨h,by unfold getM;rw [if_pos h]⟩
  · right
    obtain ⟨i,hi⟩:=Int.eq_ofNat_of_zero_le (show 0≤n-1 by omega)
    have hl:i<m.L.length:=by omega
    refine ⟨i,m.L[i],by omega,List.getElem?_eq_getElem hl,?_⟩
    unfold getM
    rw [if_neg h,show (n-1).toNat=i by omega,List.getElem?_eq_getElem hl]
theorem vGetM {m:Model} {n:Int} {k:Unit→Job × Bool × Unit→Prop} (h:oGetM (m,n,()) k):V.vGetM m n k:=by
  obtain ⟨hm,hk⟩:=h
  simp only [] at hm hk
  have hl:=hm.1
  rcases getM_cases m n with ⟨c,e⟩ |⟨i,j,c,hj,e⟩
  · rw [e] at hk
    refine br_dec (fun _=>hk) (fun h1=>br_dec (fun _=>hk) (fun h2=>by omega))
  · rw [e] at hk
    have hil:=(List.getElem?_eq_some_iff.1 hj).1
    refine br_dec (fun _=>by omega) (fun h1=>br_dec (fun _=>by omega) (fun h2 q hq=>?_))
    rw [w64 (by omega)] at hq
    subst hq
    refine ⟨⟨by omega,by omega⟩,fun x hx=>?_⟩
    rw [show (n-1).toNat=i by omega,hj] at hx;cases hx
    exact hk
theorem vFitsM {m:Model} {x:Choice} {k:Unit→Bool × Unit→Prop} (h:oFitsM (m,x,()) k):V.vFitsM m x k:=by
  obtain ⟨hm,hk⟩:=h
  simp only [] at hm hk
  unfold fitsM at hk
  simp only [] at hk
  have no: ∀{P:Prop},P→P=(m.Closed=true∨(getM m x.Id).2=false∨(getM m x.Id).1.State≠1∨x.At<m.Now∨1099511627776<x.At∨(0≤(getM m x.Id).1.Plan∧(getM m x.Id).1.Plan≤x.At))→k () (false,()):=fun hp e=>by
    rw [if_pos (e▸hp)] at hk;exact hk
  have no:(m.Closed=true∨(getM m x.Id).2=false∨(getM m x.Id).1.State≠1∨x.At<m.Now∨1099511627776<x.At∨(0≤(getM m x.Id).1.Plan∧(getM m x.Id).1.Plan≤x.At))→k () (false,()):=fun hp=>no hp rfl
  have hn:=hm.2.2.2
  have hj:(getM m x.Id).2=true→MJ (getM m x.Id).1:=fun hg=>by
    rcases getM_cases m x.Id with ⟨c,e⟩ |⟨i,j,c,hj,e⟩
    · rw [e] at hg;cases hg
    · rw [e];exact hm.job hj
  refine ⟨hm,br_bool (fun c1=>no (.inl c1)) (fun c1=>br_not (fun c2=>no (.inr (.inl c2))) (fun c2=>br_ne (fun c3=>no (.inr (.inr (.inl c3)))) (fun c3=>br_dec (fun c4=>no (.inr (.inr (.inr (.inl c4))))) (fun c4=>br_dec (fun c5=>no (.inr (.inr (.inr (.inr (.inl c5)))))) (fun c5=>?_)))))⟩
  have hJ:=hj c2
  have fin: ¬ (0≤(getM m x.Id).1.Plan∧(getM m x.Id).1.Plan≤x.At)→(MW m∧0≤x.At∧x.At≤1099511627776∧0≤(getM m x.Id).1.Limit∧(getM m x.Id).1.Limit≤1048576)∧k () (roomM m x.At (getM m x.Id).1.Limit (getM m x.Id).1.Width (getM m x.Id).1.Id,()):=fun c6=>by
    rw [if_neg (fun g=>by
      rcases g with g |g |g |g |g |g
      · rw [c1] at g;cases g
      · rw [c2] at g;cases g
      · exact g c3
      · exact c4 g
      · exact c5 g
      · exact c6 g)] at hk
    exact ⟨⟨hm,by omega,by omega,hJ.2.2.2.2.2.1,hJ.2.2.2.2.2.2.1⟩,hk⟩
  exact br_dec (fun c6=>br_dec (fun c7=>no (.inr (.inr (.inr (.inr (.inr ⟨c6,c7⟩)))))) (fun c7=>fin (fun g=>c7 g.2))) (fun c6=>fin (fun g=>c6 g.1))
theorem vAhead {a b:Job} {k:Unit→Bool × Unit→Prop} (h:oAhead (a,b,()) k):V.vAhead a b k:=by
  have h:k () (aheadJ a b,()):=h
  unfold aheadJ at h
  refine br_dec (fun h1=>?_) (fun h1=>br_eq (fun h2=>?_) (fun h2=>?_))
  · have h1:b.Prio<a.Prio:=h1
    simpa [h1] using h
  · have h1: ¬ b.Prio<a.Prio:=h1
    simpa [h2] using h
  · have h1: ¬ b.Prio<a.Prio:=h1
    simpa [h1,h2] using h
theorem vTell {j:Job} {k:Unit→Reply × Unit→Prop} (h:oTell (j,()) k):V.vTell j k:=h
theorem vNewM {n:Int} {k:Unit→Model × Unit→Prop} (h:oNewM (n,()) k):V.vNewM n k:=by
  obtain ⟨⟨h0,h1⟩,hk⟩:=h
  have h0:0≤n:=h0
  have h1:n≤1000:=h1
  have hk:k () (newM n,()):=hk
  refine ⟨⟨h0,Int.le_refl _,by omega⟩,by simp,?_⟩
  rw [List.drop_zero,List.take_of_length_le (by simp)]
  exact hk
theorem vLiveM {m:Model} {k:Unit→Int × Unit→Prop} (h:oLiveM (m,()) k):V.vLiveM m k:=by
  obtain ⟨hm,hk⟩:=h
  simp only [] at hm hk
  have hl:=hm.1
  have hb: ∀q,0≤liveN (m.L.take q)∧liveN (m.L.take q)≤1024:=fun q=>by
    have h1:(m.L.take q).countP liveJ≤(m.L.take q).length:=List.countP_le_length
    have h2:(m.L.take q).length≤m.L.length:=by simp;omega
    unfold liveN;omega
  refine ⟨fun x=>x.1=m∧0≤x.2.2∧x.2.2≤m.L.length∧x.2.1=liveN (m.L.take x.2.2.toNat),fun x=>(m.L.length-x.2.2).toNat,(m,0,0),⟨rfl,Int.le_refl _,by simp,by simp [liveN]⟩,⟨⟨⟨rfl,rfl,rfl,rfl,trivial⟩,rfl,rfl,trivial⟩,trivial⟩,?_⟩
  rintro ⟨m',c,i⟩ ⟨g1,g2,g3,g4⟩
  simp only [] at g1 g2 g3 g4
  subst g1
  obtain ⟨i,rfl⟩:=Int.eq_ofNat_of_zero_le g2
  rw [Int.toNat_natCast] at g4
  have hb1:=hb i
  dsimp only
  rw [Int.toNat_natCast]
  have nx: ∀e,m'.L[i]? =some e→ ∀c2,c2=c+(if liveJ e then 1 else 0)→ ∀q,q=IntKind.i64.wrap ((i:Int)+1)→ ∃y:Model × Int × Int,(y.1=m'∧0≤y.2.2∧y.2.2≤m'.L.length∧y.2.1=liveN (m'.L.take y.2.2.toNat))∧(((m'.Now=y.1.Now∧m'.Drain=y.1.Drain∧m'.L=y.1.L∧m'.Closed=y.1.Closed∧True)∧c2=y.2.1∧q=y.2.2∧True)∧True)∧(m'.L.length-y.2.2).toNat<(m'.L.length-(i:Int)).toNat:=by
    intro e he c2 hc2 q hq
    have hil:=(List.getElem?_eq_some_iff.1 he).1
    rw [w64 (by omega)] at hq
    subst hq
    refine ⟨(m',c2,(i:Int)+1),⟨rfl,by simp only [];omega,by simp only [];omega,?_⟩,⟨⟨⟨rfl,rfl,rfl,rfl,trivial⟩,rfl,rfl,trivial⟩,trivial⟩,by simp only [];omega⟩
    simp only []
    rw [show ((i:Int)+1).toNat=i+1 by omega,take_snoc' he,liveN_append,hc2,g4]
  refine br_dec (fun hi=>⟨⟨g2,hi⟩,fun e he=>br_dec (fun h4 q hq=>?_) (fun h4=>nx e he c (by simp [liveJ,h4]))⟩) (fun hi=>?_)
  · rw [w64 (by omega)] at hq
    subst hq
    exact nx e he _ (by simp [liveJ,h4])
  · rw [List.take_of_length_le (by omega)] at g4
    rw [←g4] at hk;exact hk
theorem vNextM {m:Model} {k:Unit→Int × Unit→Prop} (h:oNextM (m,()) k):V.vNextM m k:=by
  obtain ⟨hm,hk⟩:=h
  simp only [] at hm hk
  have hl:=hm.1
  unfold nextM at hk
  refine ⟨fun x=>x.1=m∧0≤x.2.2∧x.2.2≤m.L.length∧x.2.1=(m.L.take x.2.2.toNat).foldl (next1 m.Now) (-1),fun x=>(m.L.length-x.2.2).toNat,(m,-1,0),⟨rfl,Int.le_refl _,by simp,by simp⟩,⟨⟨⟨rfl,rfl,rfl,rfl,trivial⟩,rfl,rfl,trivial⟩,trivial⟩,?_⟩
  rintro ⟨m',c,i⟩ ⟨g1,g2,g3,g4⟩
  simp only [] at g1 g2 g3 g4
  subst g1
  obtain ⟨i,rfl⟩:=Int.eq_ofNat_of_zero_le g2
  rw [Int.toNat_natCast] at g4
  dsimp only
  rw [Int.toNat_natCast]
  have nx: ∀e,m'.L[i]? =some e→ ∀c2,c2=next1 m'.Now c e→ ∀q,q=IntKind.i64.wrap ((i:Int)+1)→ ∃y:Model × Int × Int,(y.1=m'∧0≤y.2.2∧y.2.2≤m'.L.length∧y.2.1=(m'.L.take y.2.2.toNat).foldl (next1 m'.Now) (-1))∧(((m'.Now=y.1.Now∧m'.Drain=y.1.Drain∧m'.L=y.1.L∧m'.Closed=y.1.Closed∧True)∧c2=y.2.1∧q=y.2.2∧True)∧True)∧(m'.L.length-y.2.2).toNat<(m'.L.length-(i:Int)).toNat:=by
    intro e he c2 hc2 q hq
    have hil:=(List.getElem?_eq_some_iff.1 he).1
    rw [w64 (by omega)] at hq
    subst hq
    refine ⟨(m',c2,(i:Int)+1),⟨rfl,by simp only [];omega,by simp only [];omega,?_⟩,⟨⟨⟨rfl,rfl,rfl,rfl,trivial⟩,rfl,rfl,trivial⟩,trivial⟩,by simp only [];omega⟩
    simp only []
    rw [show ((i:Int)+1).toNat=i+1 by omega,fold_snoc' he,←g4];exact hc2
  refine br_dec (fun hi=>⟨⟨g2,hi⟩,fun e he=>br_eq (fun h3=>⟨⟨g2,hi⟩,fun e1 he1=>⟨⟨⟨g2,hi⟩,fun e2 he2=>?_⟩,trivial⟩⟩) (fun h3=>⟨⟨g2,hi⟩,fun e1 he1=>?_⟩)⟩) (fun hi=>?_)
  · rw [he] at he1 he2;cases he1;cases he2
    refine br_bool (fun hp=>⟨⟨g2,hi⟩,fun e3 he3=>⟨?_,trivial⟩⟩) (fun hp=>nx e he _ (by unfold next1;simp [h3,hp]))
    rw [he] at he3;cases he3
    exact nx e he _ (by unfold next1;simp [h3,hp])
  · rw [he] at he1;cases he1
    refine br_bool (fun hp=>⟨⟨g2,hi⟩,fun e3 he3=>⟨?_,trivial⟩⟩) (fun hp=>nx e he _ (by unfold next1;simp [h3,hp]))
    rw [he] at he3;cases he3
    exact nx e he _ (by unfold next1;simp [h3,hp])
  · rw [List.take_of_length_le (by omega)] at g4
    rw [←g4] at hk;exact hk
end Go.Ax.O
