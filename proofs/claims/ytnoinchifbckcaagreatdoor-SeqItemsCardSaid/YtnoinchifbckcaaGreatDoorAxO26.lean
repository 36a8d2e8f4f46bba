import Derived.Test.YtnoinchifbckcaaGreatDoorAxO25
set_option linter.all false
namespace Go.Ax.O
open Go.Ax.Sp Go.Ax.Law
theorem bt {a b:Int} (h:(a==b)=true):a=b:=eq_of_beq h
theorem bf {a b:Int} (h:(a==b)=false):a≠b:=fun e=>by subst e;simp at h
theorem dt {p:Prop} [Decidable p] (h:decide p=true):p:=of_decide_eq_true h
theorem df {p:Prop} [Decidable p] (h:decide p=false): ¬ p:=of_decide_eq_false h
theorem vCommitM {m:Model} {x:Choice} {k:Model × Unit→Bool × Unit→Prop} (h:oCommitM (m,x,()) k):V.vCommitM m x k:=by
  obtain ⟨hm,hk⟩:=h
  have hm:MW m:=hm
  have hk:k ((commitM m x).2,()) ((commitM m x).1,()):=hk
  have hl:=hm.1
  unfold V.vCommitM
  simp only [tk_eq,tkset,Nat.zero_add,Nat.le_refl,true_and,and_true,List.length_set]
  unfold commitM at hk
  refine ⟨hm,br_not (fun hf=>?_) (fun hf=>?_)⟩
  · rw [if_pos hf] at hk;exact hk
  · rw [if_neg (by rw [hf];decide)] at hk
    rcases getM_cases m x.Id with ⟨c,e⟩ |⟨i,j,c,hj,e⟩
    · exfalso
      unfold fitsM at hf
      rw [e] at hf
      simp at hf
    · have hil:=(List.getElem?_eq_some_iff.1 hj).1
      refine br_eq (fun hn n hq=>?_) (fun hn n hq=>?_)
      · rw [if_pos hn] at hk
        rw [w64 (by omega)] at hq
        subst hq
        exact ⟨⟨hm,by omega,by show x.Id-1<((m.L.length:Nat):Int);omega⟩,hk⟩
      · rw [if_neg hn] at hk
        rw [w64 (by omega)] at hq
        subst hq
        have ht:(x.Id-1).toNat=i:=by omega
        rw [ht,e] at hk
        rw [ht]
        refine ⟨⟨by omega,by omega⟩,hil,fun e1 he1 n hn2=>?_⟩
        rw [hj] at he1;cases he1
        rw [w64 (by omega)] at hn2
        subst hn2
        rw [ht]
        exact ⟨⟨by omega,by omega⟩,hil,fun e2 he2=>hk⟩
theorem vSubM {m:Model} {r:Req} {k:Model × Unit→Reply × Unit→Prop} (h:oReqM Law.submitM (m,r,()) k):V.vSubM m r k:=by
  obtain ⟨hm,hk⟩:=h
  have hm:MW m:=hm
  have hk:k ((submitM m r).2,()) ((submitM m r).1,()):=hk
  have hl:=hm.1
  unfold V.vSubM
  simp only [tk_eq,tkset,Nat.zero_add,Nat.le_refl,true_and,and_true,List.length_set]
  unfold submitM at hk
  by_cases c1:r.User<0∨255<r.User∨r.Prio<0∨1000<r.Prio
  · rw [if_pos c1] at hk
    exact br_dec (fun _=>hk) (fun a=>br_dec (fun _=>hk) (fun b=>br_dec (fun _=>hk) (fun c=>br_dec (fun _=>hk) (fun d=>by omega))))
  rw [if_neg c1] at hk
  refine br_dec (fun a=>by omega) (fun _=>br_dec (fun a=>by omega) (fun _=>br_dec (fun a=>by omega) (fun _=>br_dec (fun a=>by omega) (fun _=>?_))))
  by_cases c2:r.Width<1∨(m.Drain.length:Int)<r.Width
  · rw [if_pos c2] at hk
    exact br_dec (fun _=>hk) (fun a=>br_dec (fun _=>hk) (fun b=>by omega))
  rw [if_neg c2] at hk
  refine br_dec (fun a=>by omega) (fun _=>br_dec (fun a=>by omega) (fun _=>?_))
  by_cases c3:r.Limit<1∨1048576<r.Limit
  · rw [if_pos c3] at hk
    exact br_dec (fun _=>hk) (fun a=>br_dec (fun _=>hk) (fun b=>by omega))
  rw [if_neg c3] at hk
  refine br_dec (fun a=>by omega) (fun _=>br_dec (fun a=>by omega) (fun _=>⟨hm,?_⟩))
  by_cases c4:63<liveN m.L∨1023<(m.L.length:Int)
  · rw [if_pos c4] at hk
    exact br_dec (fun _=>hk) (fun a=>br_dec (fun _=>hk) (fun b=>by omega))
  rw [if_neg c4] at hk
  refine br_dec (fun a=>by omega) (fun _=>br_dec (fun a=>by omega) (fun _ n hn=>?_))
  rw [w64 (by omega)] at hn
  subst hn
  have htk: ∀j:Job,List.take (m.L.length+1) (List.drop 0 (m.L++[j]))=m.L++[j]:=fun j=>by rw [List.drop_zero,List.take_of_length_le (by simp)]
  have hd:=hm.2.2.1
  have hMW: ∀j,MJ j→MW {m with L:=m.L++[j]}:=fun j hj=>⟨by simp;omega,hm.2.1,hm.2.2.1,hm.2.2.2.1,hm.2.2.2.2.1,fun y hy=>by
    rcases List.mem_append.1 hy with hy |hy
    · exact hm.2.2.2.2.2 y hy
    · simp at hy;subst hy;exact hj⟩
  simp only [htk]
  have hnew:newJ m.L r=⟨(m.L.length:Int)+1,r.User,r.Width,r.Limit,r.Prio,if r.Held then 2 else 1,-1,-1,-1,0⟩:=rfl
  simp only [hnew] at hk
  cases hh:r.Held with
  |true=>
    rw [hh] at hk
    simp only [br,Bool.not_true]
    exact ⟨by omega,by simp,hk⟩
  |false=>
    rw [hh] at hk
    simp only [br,Bool.not_false]
    refine ⟨by omega,by simp,hMW _ ⟨U64.zero,by simp,by simp,by simp,by simp,?_,?_,?_,?_,by simp,by simp⟩,hk⟩
    · simp only [];omega
    · simp only [];omega
    · simp only [];omega
    · simp only [];omega
theorem vNodeM {m:Model} {r:Req} {k:Model × Unit→Reply × Unit→Prop} (h:oReqM Law.nodeM (m,r,()) k):V.vNodeM m r k:=by
  obtain ⟨hm,hk⟩:=h
  have hm:MW m:=hm
  have hk:k ((nodeM m r).2,()) ((nodeM m r).1,()):=hk
  unfold V.vNodeM
  simp only [tk_eq,tkset,Nat.zero_add,Nat.le_refl,true_and,and_true,List.length_set]
  unfold nodeM at hk
  by_cases c1:r.Node<0∨(m.Drain.length:Int)≤r.Node
  · rw [if_pos c1] at hk
    exact br_dec (fun _=>hk) (fun a=>br_dec (fun _=>hk) (fun b=>by omega))
  rw [if_neg c1] at hk
  refine br_dec (fun a=>by omega) (fun _=>br_dec (fun a=>by omega) (fun _=>⟨⟨by omega,by omega⟩,by omega,fun e he=>?_⟩))
  have hdr:drainB m r.Node.toNat=e:=by unfold drainB;rw [List.getD_eq_getElem?_getD,he];rfl
  rw [hdr] at hk
  have hkk:(r.Kind==7)=decide (r.Kind=7):=rfl
  rw [hkk]
  cases h7:decide (r.Kind=7) with
  |true=>
    have h7':=dt h7
    rw [h7] at hk
    cases e with
    |true=>rw [if_pos rfl] at hk;exact hk
    |false=>
      rw [if_neg (by decide)] at hk
      simp only [h7',if_true] at hk
      refine ⟨hm,⟨by omega,by omega⟩,by omega,fun e1 he1=>⟨(hm.dropM job0).drain _ _,hk⟩⟩
  |false=>
    have h7':=df h7
    rw [h7] at hk
    cases e with
    |false=>rw [if_pos rfl] at hk;exact hk
    |true=>
      rw [if_neg (by decide)] at hk
      simp only [h7',if_false] at hk
      exact ⟨⟨by omega,by omega⟩,by omega,fun e1 he1=>⟨hm.drain _ _,hk⟩⟩
theorem vEndM {m:Model} {r:Req} {k:Model × Unit→Reply × Unit→Prop} (h:oReqM Law.endM (m,r,()) k):V.vEndM m r k:=by
  obtain ⟨hm,hk⟩:=h
  have hm:MW m:=hm
  have hk:k ((endM m r).2,()) ((endM m r).1,()):=hk
  have hl:=hm.1
  unfold V.vEndM V.vEndM_1
  simp only [tk_eq,tkset,Nat.zero_add,Nat.le_refl,true_and,and_true,List.length_set]
  unfold endM at hk
  rcases getM_cases m r.Id with ⟨c,e⟩ |⟨i,j,c,hj,e⟩
  · rw [e] at hk
    rw [if_pos rfl] at hk
    simp only [e,br,Bool.not_false]
    exact ⟨hm,hk⟩
  · have hil:=(List.getElem?_eq_some_iff.1 hj).1
    have ht:(r.Id-1).toNat=i:=by omega
    simp only [e,Bool.not_true]
    rw [e,ht] at hk
    simp only [Bool.true_eq_false,if_false] at hk
    cases b5:(r.Kind==5)<;>cases b3:(j.State==3)<;>cases b4:decide (j.State>3)<;>simp only [br,Bool.not_true,Bool.not_false]
    all_goals refine ⟨hm,?_⟩
    · have b5:=bf b5;have b3:=bf b3;have b4:=df b4
      rw [if_neg (by omega)] at hk
      simp only [b5,b3,if_false] at hk
      intro n hn
      rw [w64 (by omega)] at hn
      subst hn
      rw [ht]
      exact ⟨⟨by omega,by omega⟩,hil,fun e1 he1=>hk⟩
    · have b4:=dt b4
      rw [if_pos (.inl b4)] at hk
      exact hk
    · have b5:=bf b5;have b3:=bt b3;have b4:=df b4
      rw [if_neg (by omega)] at hk
      simp only [b5,b3,if_false,if_true] at hk
      intro n hn
      rw [w64 (by omega)] at hn
      subst hn
      rw [ht]
      exact ⟨⟨by omega,by omega⟩,hil,fun e1 he1=>hk⟩
    · have b4:=dt b4
      rw [if_pos (.inl b4)] at hk
      exact hk
    · have b5:=bt b5;have b3:=bf b3;have b4:=df b4
      rw [if_pos (.inr ⟨b5,b3⟩)] at hk
      exact hk
    · have b4:=dt b4
      rw [if_pos (.inl b4)] at hk
      exact hk
    · have b5:=bt b5;have b3:=bt b3;have b4:=df b4
      rw [if_neg (by omega)] at hk
      simp only [b5,b3,if_true] at hk
      intro n hn
      rw [w64 (by omega)] at hn
      subst hn
      rw [ht]
      exact ⟨⟨by omega,by omega⟩,hil,fun e1 he1=>hk⟩
    · have b4:=dt b4
      rw [if_pos (.inl b4)] at hk
      exact hk
theorem vTurnM {m:Model} {r:Req} {k:Model × Unit→Reply × Unit→Prop} (h:oReqM Law.turnM (m,r,()) k):V.vTurnM m r k:=by
  obtain ⟨hm,hk⟩:=h
  have hm:MW m:=hm
  have hk:k ((turnM m r).2,()) ((turnM m r).1,()):=hk
  have hl:=hm.1
  unfold V.vTurnM V.vTurnM_1
  simp only [tk_eq,tkset,Nat.zero_add,Nat.le_refl,true_and,and_true,List.length_set]
  unfold turnM at hk
  rcases getM_cases m r.Id with ⟨c,e⟩ |⟨i,j,c,hj,e⟩
  · rw [e] at hk
    rw [if_pos rfl] at hk
    simp only [e,br,Bool.not_false]
    exact ⟨hm,hk⟩
  · have hil:=(List.getElem?_eq_some_iff.1 hj).1
    have ht:(r.Id-1).toNat=i:=by omega
    have hJ:=hm.job hj
    simp only [e,Bool.not_true]
    rw [e,ht] at hk
    simp only [Bool.true_eq_false,if_false] at hk
    cases b3:(r.Kind==3)<;>cases b4:(r.Kind==4)
    · have k3:=bf b3;have k4:=bf b4
      simp only [br]
      rw [if_neg (by omega),if_neg k3,if_neg k4,if_neg k4] at hk
      refine ⟨hm,fun n hn=>?_⟩
      rw [w64 (by omega)] at hn
      subst hn
      rw [ht]
      exact ⟨⟨by omega,by omega⟩,hil,fun e1 he1=>hk⟩
    · have k3:=bf b3;have k4:=bt b4
      cases s2:(j.State==2)
      · have s2:=bf s2
        simp only [br,Bool.not_false]
        rw [if_pos (.inr ⟨k4,s2⟩)] at hk
        exact ⟨hm,hk⟩
      · have s2:=bt s2
        simp only [br,Bool.not_true]
        rw [if_neg (by omega),if_neg k3,if_pos k4,if_pos k4] at hk
        refine ⟨hm,fun n hn=>?_⟩
        rw [w64 (by omega)] at hn
        subst hn
        rw [ht]
        refine ⟨⟨by omega,by omega⟩,hil,fun e1 he1=>⟨hm.set i ?_,hk⟩⟩
        obtain ⟨u1,u2,u3,u4⟩:=hJ
        exact ⟨u1,by simp,by simp,u4⟩
    · have k3:=bt b3;have k4:=bf b4
      cases s1:(j.State==1)
      · have s1:=bf s1
        simp only [br,Bool.not_false]
        rw [if_pos (.inl ⟨k3,s1⟩)] at hk
        exact ⟨hm,hk⟩
      · have s1:=bt s1
        simp only [br,Bool.not_true]
        rw [if_neg (by omega),if_pos k3,if_neg k4] at hk
        refine ⟨hm,fun n hn=>?_⟩
        rw [w64 (by omega)] at hn
        subst hn
        rw [ht]
        exact ⟨⟨by omega,by omega⟩,hil,fun e1 he1=>hk⟩
    · have k3:=bt b3;have k4:=bt b4;omega
theorem vTickM {m:Model} {n:Int} {k:Model × Unit→Reply × Unit→Prop} (h:oTickM (m,n,()) k):V.vTickM m n k:=by
  obtain ⟨hm,hk⟩:=h
  have hm:MW m:=hm
  have hk:k ((tickM m n).2,()) ((tickM m n).1,()):=hk
  have hl:=hm.1
  have hnow:=hm.2.2.2
  unfold V.vTickM V.vTickM_1
  simp only [tk_eq,tkset,Nat.zero_add,Nat.le_refl,true_and,and_true,List.length_set]
  unfold tickM at hk
  refine br_dec (fun h1=>by rw [if_pos (.inl h1)] at hk;exact hk) (fun h1 q hq=>?_)
  rw [w64 (by omega)] at hq
  subst hq
  refine br_dec (fun h2=>by rw [if_pos (.inr h2)] at hk;exact hk) (fun h2 q hq=>?_)
  rw [w64 (by omega)] at hq
  subst hq
  rw [if_neg (by omega)] at hk
  simp only [] at hk
  generalize hR:tickF (2*m.L.length+1) (m.Now+n) m=R at hk
  have ht0:0≤m.Now+n∧m.Now+n≤1099511627776:=by omega
  generalize hto:m.Now+n=to at*
  refine ⟨fun x=>MW x.1∧x.1.L.length=m.L.length∧x.2.1=to∧0≤x.2.2∧x.2.2≤2*m.L.length+1∧tickF (2*m.L.length+1-x.2.2.toNat) to x.1=R,fun x=>(2*m.L.length+1-x.2.2).toNat,(m,to,0),⟨hm,rfl,rfl,Int.le_refl _,by simp only [];omega,by simpa using hR⟩,by simp,?_⟩
  rintro ⟨m',to',i⟩ ⟨g1,g2,g3,g4,g5,g6⟩
  simp only [] at g1 g2 g3 g4 g5 g6
  subst g3
  obtain ⟨i,rfl⟩:=Int.eq_ofNat_of_zero_le g4
  rw [Int.toNat_natCast] at g6
  dsimp only
  intro q hq
  rw [w64 (by omega)] at hq
  subst hq
  have fin:m'=R→MW {Now:=to',Drain:=m'.Drain,L:=m'.L,Closed:=m'.Closed}∧k ({Now:=to',Drain:=m'.Drain,L:=m'.L,Closed:=m'.Closed},()) ({Err:=0,Id:=0,State:=0,Start:=to',End:=0,Plan:=0,A:=freeM {Now:=to',Drain:=m'.Drain,L:=m'.L,Closed:=m'.Closed} to' 0,B:=0,C:=0},()):=fun e=>by
    subst e
    exact ⟨g1.now ht0.1 ht0.2,hk⟩
  refine br_dec (fun hi=>⟨g1,?_⟩) (fun hi=>?_)
  · rw [show 2*m.L.length+1-i=(2*m.L.length-i)+1 by omega] at g6
    simp only [tickF] at g6
    refine br_dec (fun c1=>?_) (fun c1=>br_dec (fun c2=>?_) (fun c2=>?_))
    · rw [if_pos (.inl c1)] at g6;exact fin g6
    · rw [if_pos (.inr c2)] at g6;exact fin g6
    · have c1: ¬ nextM m'<0:=c1
      have c2: ¬ nextM m'>to':=c2
      rw [if_neg (fun g=>Or.elim g c1 c2)] at g6
      have hmn:=g1.now (t:=nextM m') (by omega) (by omega)
      refine ⟨hmn,fun q hq=>?_⟩
      rw [w64 (by omega)] at hq
      subst hq
      refine ⟨(happenM {m' with Now:=nextM m'},to',(i:Int)+1),⟨hmn.happen.1,hmn.happen.2.trans g2,rfl,by simp only [];omega,by simp only [];omega,?_⟩,by simp,by simp only [];omega⟩
      simp only []
      rw [show ((i:Int)+1).toNat=i+1 by omega,show 2*m.L.length+1-(i+1)=2*m.L.length-i by omega];exact g6
  · have:2*m.L.length+1-i=0:=by omega
    rw [this] at g6
    exact fin g6
theorem vCountM {m:Model} {j:Bool} {a b:Int} {k:Unit→Int × Unit→Prop} (h:oCountM (m,j,a,b,()) k):V.vCountM m j a b k:=by
  obtain ⟨hm,hk⟩:=h
  have hm:MW m:=hm
  have hk:k () (countM m j a b,()):=hk
  have hl:=hm.1
  have hdl:=hm.2.2.1
  unfold V.vCountM V.vCountM_1
  simp only [true_and,and_true]
  unfold countM at hk
  cases j with
  |true=>
    rw [if_pos rfl] at hk
    have hcb: ∀q,0≤cntJ (m.L.take q) a∧cntJ (m.L.take q) a≤1024:=fun q=>by
      have h1:=inJ_len (m.L.take q) [a]
      have h2:(m.L.take q).length≤m.L.length:=by simp;omega
      unfold cntJ;omega
    refine ⟨fun x=>x.1=m∧x.2.1=true∧x.2.2.1=a∧x.2.2.2.1=b∧0≤x.2.2.2.2.2∧x.2.2.2.2.2≤m.L.length∧x.2.2.2.2.1=cntJ (m.L.take x.2.2.2.2.2.toNat) a,fun x=>(m.L.length-x.2.2.2.2.2).toNat,(m,true,a,b,0,0),⟨rfl,rfl,rfl,rfl,Int.le_refl _,by simp,by simp [cntJ,inJ]⟩,by simp,?_⟩
    rintro ⟨m',j',a',b',c,i⟩ ⟨g1,g2,g3,g4,g5,g6,g7⟩
    simp only [] at g1 g2 g3 g4 g5 g6 g7
    subst g1 g2 g3 g4
    obtain ⟨i,rfl⟩:=Int.eq_ofNat_of_zero_le g5
    rw [Int.toNat_natCast] at g7
    have hb1:=hcb i
    dsimp only
    rw [Int.toNat_natCast]
    simp only [br]
    have nx: ∀e,m'.L[i]? =some e→ ∀c2,c2=c+(if e.State=a' then 1 else 0)→ ∀q,q=IntKind.i64.wrap ((i:Int)+1)→ ∃y:Model × Bool × Int × Int × Int × Int,(y.1=m'∧y.2.1=true∧y.2.2.1=a'∧y.2.2.2.1=b'∧0≤y.2.2.2.2.2∧y.2.2.2.2.2≤m'.L.length∧y.2.2.2.2.1=cntJ (m'.L.take y.2.2.2.2.2.toNat) a')∧((m'.Now=y.1.Now∧m'.Drain=y.1.Drain∧m'.L=y.1.L∧m'.Closed=y.1.Closed)∧true=y.2.1∧a'=y.2.2.1∧b'=y.2.2.2.1∧c2=y.2.2.2.2.1∧q=y.2.2.2.2.2)∧(m'.L.length-y.2.2.2.2.2).toNat<(m'.L.length-(i:Int)).toNat:=by
      intro e he c2 hc2 q hq
      have hil:=(List.getElem?_eq_some_iff.1 he).1
      rw [w64 (by omega)] at hq
      subst hq
      refine ⟨(m',true,a',b',c2,(i:Int)+1),⟨rfl,rfl,rfl,rfl,by simp only [];omega,by simp only [];omega,?_⟩,by simp,by simp only [];omega⟩
      simp only []
      rw [show ((i:Int)+1).toNat=i+1 by omega,take_snoc' he,hc2,g7]
      unfold cntJ inJ
      rw [List.filter_append]
      by_cases hs:e.State=a'
      · simp [hs]
      · simp [hs]
    by_cases hi:(i:Int)<m'.L.length
    · simp only [hi,decide_true]
      refine ⟨⟨g5,trivial⟩,fun e he=>?_⟩
      cases hs:(e.State==a')
      · exact nx e he c (by rw [if_neg (bf hs)];omega)
      · intro q hq q2 hq2
        rw [w64 (by omega)] at hq
        subst hq
        exact nx e he _ (by rw [if_pos (bt hs)]) q2 hq2
    · simp only [hi,decide_false]
      rw [List.take_of_length_le (by omega)] at g7
      refine ⟨fun x=>x.2.1=true∧x.2.2.2.2.1=c,fun _=>0,(m',true,a',b',c,0),⟨rfl,rfl⟩,by simp,?_⟩
      rintro ⟨m2,j2,a2,b2,c2,p⟩ ⟨q1,q2⟩
      simp only [] at q1 q2
      subst q1 q2
      simp only [Bool.not_true]
      rw [g7];exact hk
  |false=>
    rw [if_neg (by decide)] at hk
    refine ⟨fun x=>x=(m,false,a,b,0,0),fun _=>0,(m,false,a,b,0,0),rfl,by simp,?_⟩
    rintro x rfl
    simp only [br]
    refine ⟨fun x=>x.1=m∧x.2.1=false∧x.2.2.1=a∧x.2.2.2.1=b∧0≤x.2.2.2.2.2∧x.2.2.2.2.2≤m.Drain.length∧x.2.2.2.2.1=cntN (fun k=>decide (stateM m (k:Int)=a)||decide (stateM m (k:Int)=b)) x.2.2.2.2.2.toNat,fun x=>(m.Drain.length-x.2.2.2.2.2).toNat,(m,false,a,b,0,0),⟨rfl,rfl,rfl,rfl,Int.le_refl _,by simp,by simp [cntN]⟩,by simp,?_⟩
    rintro ⟨m',j',a',b',c,i⟩ ⟨g1,g2,g3,g4,g5,g6,g7⟩
    simp only [] at g1 g2 g3 g4 g5 g6 g7
    subst g1 g2 g3 g4
    obtain ⟨i,rfl⟩:=Int.eq_ofNat_of_zero_le g5
    rw [Int.toNat_natCast] at g7
    have hb1:=cntN_nonneg (fun k=>decide (stateM m' (k:Int)=a')||decide (stateM m' (k:Int)=b')) i
    have hb2:=cntN_le (fun k=>decide (stateM m' (k:Int)=a')||decide (stateM m' (k:Int)=b')) i
    dsimp only
    have nx: ∀c2,c2=cntN (fun k=>decide (stateM m' (k:Int)=a')||decide (stateM m' (k:Int)=b')) (i+1)→(i:Int)<m'.Drain.length→ ∀q,q=IntKind.i64.wrap ((i:Int)+1)→ ∃y:Model × Bool × Int × Int × Int × Int,(y.1=m'∧y.2.1=false∧y.2.2.1=a'∧y.2.2.2.1=b'∧0≤y.2.2.2.2.2∧y.2.2.2.2.2≤m'.Drain.length∧y.2.2.2.2.1=cntN (fun k=>decide (stateM m' (k:Int)=a')||decide (stateM m' (k:Int)=b')) y.2.2.2.2.2.toNat)∧((m'.Now=y.1.Now∧m'.Drain=y.1.Drain∧m'.L=y.1.L∧m'.Closed=y.1.Closed)∧false=y.2.1∧a'=y.2.2.1∧b'=y.2.2.2.1∧c2=y.2.2.2.2.1∧q=y.2.2.2.2.2)∧(m'.Drain.length-y.2.2.2.2.2).toNat<(m'.Drain.length-(i:Int)).toNat:=by
      intro c2 hc2 hi q hq
      rw [w64 (by omega)] at hq
      subst hq
      refine ⟨(m',false,a',b',c2,(i:Int)+1),⟨rfl,rfl,rfl,rfl,by simp only [];omega,by simp only [];omega,?_⟩,by simp,by simp only [];omega⟩
      simp only []
      rw [show ((i:Int)+1).toNat=i+1 by omega];exact hc2
    have hst:cntN (fun k=>decide (stateM m' (k:Int)=a')||decide (stateM m' (k:Int)=b')) (i+1)=cntN (fun k=>decide (stateM m' (k:Int)=a')||decide (stateM m' (k:Int)=b')) i+(if (decide (stateM m' (i:Int)=a')||decide (stateM m' (i:Int)=b'))=true then 1 else 0):=rfl
    simp only [Bool.not_false]
    by_cases hi:(i:Int)<m'.Drain.length
    · simp only [hi,decide_true]
      refine ⟨hm,?_⟩
      cases hs:(stateM m' (i:Int)==a')
      · refine ⟨hm,?_⟩
        cases hs2:(stateM m' (i:Int)==b')
        · exact nx c (by rw [hst,if_neg (by simp [bf hs,bf hs2]),g7];omega) hi
        · intro q hq q2 hq2
          rw [w64 (by omega)] at hq
          subst hq
          exact nx _ (by rw [hst,if_pos (by simp [bt hs2]),g7]) hi q2 hq2
      · intro q hq q2 hq2
        rw [w64 (by omega)] at hq
        subst hq
        exact nx _ (by rw [hst,if_pos (by simp [bt hs]),g7]) hi q2 hq2
    · simp only [hi,decide_false]
      rw [show i=m'.Drain.length by omega] at g7
      rw [g7];exact hk
theorem vDoM {m:Model} {r:Req} {k:Model × Unit→Reply × Unit→Prop} (h:oReqM Law.doM (m,r,()) k):V.vDoM m r k:=by
  obtain ⟨hm,hk⟩:=h
  have hm:MW m:=hm
  have hk:k ((doM m r).2,()) ((doM m r).1,()):=hk
  unfold V.vDoM V.vDoM_3 V.vDoM_2 V.vDoM_1
  simp only [tk_eq,tkset,Nat.zero_add,Nat.le_refl,true_and,and_true,List.length_set]
  unfold doM at hk
  refine br_bool (fun hc=>by rw [if_pos hc] at hk;exact hk) (fun hc=>?_)
  rw [if_neg (by rw [hc];decide)] at hk
  refine br_eq (fun h1=>by rw [if_pos h1] at hk;exact ⟨hm,hk⟩) (fun h1=>?_)
  rw [if_neg h1] at hk
  refine br_eq (fun h2=>by rw [if_pos (.inl h2)] at hk;exact ⟨hm,hk⟩) (fun h2=>br_eq (fun h5=>by rw [if_pos (.inr h5)] at hk;exact ⟨hm,hk⟩) (fun h5=>?_))
  rw [if_neg (by omega)] at hk
  refine br_eq (fun h3=>by rw [if_pos (.inl h3)] at hk;exact ⟨hm,hk⟩) (fun h3=>br_eq (fun h4=>by rw [if_pos (.inr (.inl h4))] at hk;exact ⟨hm,hk⟩) (fun h4=>br_eq (fun h6=>by rw [if_pos (.inr (.inr h6))] at hk;exact ⟨hm,hk⟩) (fun h6=>?_)))
  rw [if_neg (by omega)] at hk
  refine br_eq (fun h7=>by rw [if_pos (.inl h7)] at hk;exact ⟨hm,hk⟩) (fun h7=>br_eq (fun h8=>by rw [if_pos (.inr h8)] at hk;exact ⟨hm,hk⟩) (fun h8=>?_))
  rw [if_neg (by omega)] at hk
  refine br_eq (fun h9=>by rw [if_pos h9] at hk;exact ⟨hm,hk⟩) (fun h9=>?_)
  rw [if_neg h9] at hk
  refine br_eq (fun h10=>?_) (fun h10=>?_)
  · rw [if_pos h10] at hk
    repeat' first |exact hm |exact hk |apply And.intro
  rw [if_neg h10] at hk
  refine br_eq (fun h11=>?_) (fun h11=>?_)
  · rw [if_pos h11] at hk
    repeat' first |exact hm |exact hk |apply And.intro
  rw [if_neg h11] at hk
  refine br_eq (fun h12=>?_) (fun h12=>?_)
  · rw [if_pos h12] at hk
    repeat' first |exact hm |exact hk |apply And.intro
  rw [if_neg h12] at hk
  refine br_eq (fun h13=>?_) (fun h13=>?_)
  · rw [if_pos h13] at hk
    exact hk
  rw [if_neg h13] at hk
  exact hk
end Go.Ax.O
