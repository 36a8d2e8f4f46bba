import Derived.Test.YtnoinchifbckcaaGreatDoorAxV9
import Derived.Test.YtnoinchifbckcaaGreatDoorAxD14
import Derived.Test.YtnoinchifbckcaaGreatDoorAxO22
set_option linter.all false
namespace Go.Ax.Law
theorem MW.job {m:Model} (h:MW m) {i:Nat} {j:Job} (hj:m.L[i]? =some j):MJ j:=h.2.2.2.2.2 j (List.mem_of_getElem? hj)
theorem MW.set {m:Model} (h:MW m) (i:Nat) {b:Job} (hb:MJ b):MW {m with L:=m.L.set i b}:=
  ⟨by simpa using h.1,h.2.1,h.2.2.1,h.2.2.2.1,h.2.2.2.2.1,fun j hj=>by
    rcases List.mem_or_eq_of_mem_set hj with hj |rfl
    · exact h.2.2.2.2.2 j hj
    · exact hb⟩
theorem holdI_neg {l:List Job} {k:Int} (h:holdI l k<0):l.find? (runsOn k)=none:=by
  unfold holdI at h
  split at h
  · omega
  · rename_i hf
    rw [List.findIdx?_eq_none_iff] at hf
    rw [List.find?_eq_none]
    intro x hx;rw [hf x hx];decide
theorem holdI_nat {l:List Job} {k:Int} (h: ¬ holdI l k<0): ∃(i:Nat) (j:Job),holdI l k=(i:Int)∧l[i]? =some j∧l.find? (runsOn k)=some j:=by
  unfold holdI at h ⊢
  cases hf:l.findIdx? (runsOn k) with
  |none=>rw [hf] at h;simp at h
  |some i=>
    have hf2:=hf
    rw [List.findIdx?_eq_some_iff_getElem] at hf2
    obtain ⟨hi,h1,h2⟩:=hf2
    refine ⟨i,l[i],rfl,List.getElem?_eq_getElem hi,?_⟩
    rw [List.find?_eq_some_iff_append]
    refine ⟨h1,l.take i,l.drop (i+1),?_,fun a ha=>?_⟩
    · rw [←List.drop_eq_getElem_cons hi,List.take_append_drop]
    · obtain ⟨p,hp⟩:=List.getElem?_of_mem ha
      have hpi:p<i:=by
        have:=(List.getElem?_eq_some_iff.1 hp).1
        simp at this;omega
      rw [List.getElem?_take_of_lt hpi] at hp
      have:=h2 p hpi
      rw [List.getElem?_eq_getElem (by omega)] at hp
      cases hp
      simpa using this
theorem planSum_snoc {t b:Int} {j:Job}: ∀{l:List Job},planSum t b (l++[j])=planSum t b l+planAt t b j
  | []=>by simp [planSum]
  |x::r=>by simp only [List.cons_append,planSum,planSum_snoc (l:=r)];omega
theorem planSum_bound {t b:Int}: ∀{l:List Job},(∀j∈l,MJ j)→0≤planSum t b l∧planSum t b l≤64*l.length
  | [],_=>by simp [planSum]
  |j::r,h=>by
    have h1:=planSum_bound (t:=t) (b:=b) fun x hx=>h x (List.mem_cons_of_mem _ hx)
    have h2:=h j (by simp)
    have h3:=h2.2.2.2.2.2.2.2
    have:0≤planAt t b j∧planAt t b j≤64:=by unfold planAt;split<;>omega
    simp only [planSum,List.length_cons];omega
theorem MJ.sum {j:Job} (h:MJ j):IntKind.i64.wrap (j.Plan+j.Limit)=j.Plan+j.Limit:=by
  obtain ⟨_,_,_,h1,h2,h3,h4,_⟩:=h
  exact w64 (by omega)
theorem timesF_len (l:List Job): ∀f last,(timesF l f last).length≤f
  |0,_=>Nat.le_refl _
  |f+1,last=>by
    simp only [timesF]
    split
    · simp
    · have:=timesF_len l f (bestT l last);simp;omega
theorem times_len (m:Model):(timesM m).length≤2*m.L.length+1:=by
  have:=timesF_len m.L (2*m.L.length) m.Now
  unfold timesM;simp;omega
theorem fold_snoc' {α β:Type} {l:List α} {i:Nat} {e:α} (h:l[i]? =some e) (f:β→α→β) (b:β):(l.take (i+1)).foldl f b=f ((l.take i).foldl f b) e:=by
  rw [Go.Ax.O.take_snoc' h,List.foldl_append];rfl
theorem tkset {α:Type} (l:List α) (i:Nat) (a:α):List.take l.length (List.drop 0 (l.set i a))=l.set i a:=by
  rw [List.drop_zero,List.take_of_length_le (by simp)]
end Go.Ax.Law
namespace Go.Ax.O
open Go.Ax.Sp Go.Ax.Law
theorem vHasM {s n:Int} {k:Unit→Bool × Unit→Prop} (h:oHasM (s,n,()) k):V.vHasM s n k:=by
  obtain ⟨⟨hs,h0,h1⟩,hk⟩:=h
  have hs:U64 s:=hs
  have h0:0≤n:=h0
  have h1:n≤1000:=h1
  have hk:k () (hasB s n,()):=hk
  obtain ⟨a,ha,rfl⟩:=hs.ex
  refine ⟨fun x=>x.2.1=n∧0≤x.2.2∧x.2.2≤n∧x.1=((a/2^x.2.2.toNat:Nat):Int),fun x=>(n-x.2.2).toNat,(a,n,0),⟨rfl,Int.le_refl _,h0,by simp⟩,⟨⟨rfl,rfl,rfl,trivial⟩,trivial⟩,?_⟩
  rintro ⟨s',n',i⟩ ⟨g1,g2,g3,g4⟩
  simp only [] at g1 g2 g3 g4
  subst g1
  obtain ⟨i,rfl⟩:=Int.eq_ofNat_of_zero_le g2
  rw [Int.toNat_natCast] at g4
  subst g4
  dsimp only
  have hle:a/2^i≤a:=Nat.div_le_self _ _
  refine br_dec (fun hi=>⟨by decide,fun q hq q2 hq2=>?_⟩) (fun hi=>⟨by decide,fun q hq=>?_⟩)
  · have e:Int.tdiv ((a/2^i:Nat):Int) 2=((a/2^(i+1):Nat):Int):=by
      rw [Int.tdiv_eq_ediv_of_nonneg (Int.natCast_nonneg _),Nat.pow_succ,←Nat.div_div_eq_div_mul];omega
    rw [e,wuN (Nat.lt_of_le_of_lt (Nat.div_le_self _ _) ha)] at hq
    rw [w64 (by omega)] at hq2
    subst hq hq2
    refine ⟨(_,n',(i:Int)+1),⟨rfl,by simp only [];omega,by simp only [];omega,by simp only [];rw [show ((i:Int)+1).toNat=i+1 by omega]⟩,⟨⟨rfl,rfl,rfl,trivial⟩,trivial⟩,by simp only [];omega⟩
  · have hin:n'=(i:Int):=by omega
    subst hin
    have:(q==1)=hasB (a:Int) (i:Int):=by
      rw [hasB_nat,Int.toNat_natCast]
      have hq:q=((a/2^i%2:Nat):Int):=by rw [hq,Int.tmod_eq_emod_of_nonneg (Int.natCast_nonneg _)];omega
      rw [Nat.testBit_eq_decide_div_mod_eq]
      by_cases hi64:i<64
      · by_cases hb:a/2^i%2=1
        · simp [hq,hb,hi64]
        · have: ¬ q=1:=by omega
          simp [this,hb]
      · have hp:(2:Nat)^64≤2^i:=Nat.pow_le_pow_right (by decide) (by omega)
        have e64:(2:Nat)^64=18446744073709551616:=by decide
        have:a/2^i=0:=Nat.div_eq_of_lt (by omega)
        rw [this] at hq
        simp [hq,hi64]
    rw [this];exact hk
theorem vHoldM {m:Model} {n:Int} {k:Unit→Int × Unit→Prop} (h:oHoldM (m,n,()) k):V.vHoldM m n k:=by
  obtain ⟨⟨hm,h0,h1⟩,hk⟩:=h
  simp only [] at hm h0 h1 hk
  have hl:=hm.1
  refine ⟨fun x=>x.1=m∧x.2.1=n∧0≤x.2.2∧x.2.2≤m.L.length∧ ∀(p:Nat) (y:Job),(p:Int)<x.2.2→m.L[p]? =some y→runsOn n y=false,fun x=>(m.L.length-x.2.2).toNat,(m,n,0),⟨rfl,rfl,Int.le_refl _,by simp,fun p y hp=>by simp at hp;omega⟩,⟨⟨⟨rfl,rfl,rfl,rfl,trivial⟩,rfl,rfl,trivial⟩,trivial⟩,?_⟩
  rintro ⟨m',n',i⟩ ⟨g1,g2,g3,g4,g5⟩
  simp only [] at g1 g2 g3 g4 g5
  subst g1 g2
  obtain ⟨i,rfl⟩:=Int.eq_ofNat_of_zero_le g3
  dsimp only
  rw [Int.toNat_natCast]
  have nx: ∀e,m'.L[i]? =some e→runsOn n' e=false→ ∀q,q=IntKind.i64.wrap ((i:Int)+1)→ ∃y:Model × Int × Int,(y.1=m'∧y.2.1=n'∧0≤y.2.2∧y.2.2≤m'.L.length∧ ∀(p:Nat) (z:Job),(p:Int)<y.2.2→m'.L[p]? =some z→runsOn n' z=false)∧(((m'.Now=y.1.Now∧m'.Drain=y.1.Drain∧m'.L=y.1.L∧m'.Closed=y.1.Closed∧True)∧n'=y.2.1∧q=y.2.2∧True)∧True)∧(m'.L.length-y.2.2).toNat<(m'.L.length-(i:Int)).toNat:=by
    intro e he hr q hq
    have hil:=(List.getElem?_eq_some_iff.1 he).1
    rw [w64 (by omega)] at hq
    subst hq
    refine ⟨(m',n',(i:Int)+1),⟨rfl,rfl,by simp only [];omega,by simp only [];omega,fun p z hp hz=>?_⟩,⟨⟨⟨rfl,rfl,rfl,rfl,trivial⟩,rfl,rfl,trivial⟩,trivial⟩,by simp only [];omega⟩
    simp only [] at hp
    by_cases hpi:p=i
    · subst hpi;rw [he] at hz;cases hz;exact hr
    · exact g5 p z (by omega) hz
  refine br_dec (fun hi=>⟨⟨g3,hi⟩,fun e he=>br_eq (fun h3=>⟨⟨g3,hi⟩,fun e1 he1=>?_⟩) (fun h3=>nx e he (by unfold runsOn;simp [h3]))⟩) (fun hi=>?_)
  · rw [he] at he1;cases he1
    refine ⟨⟨(hm.job he).1,h0,h1⟩,br_bool (fun hb=>?_) (fun hb=>nx e he (by unfold runsOn;simp [hb]))⟩
    have hil:=(List.getElem?_eq_some_iff.1 he).1
    have:m'.L.findIdx? (runsOn n')=some i:=by
      rw [List.findIdx?_eq_some_iff_getElem]
      refine ⟨hil,?_,fun j hj=>?_⟩
      · rw [(List.getElem?_eq_some_iff.1 he).2];unfold runsOn;simp [h3,hb]
      · have:=g5 j _ (by omega) (List.getElem?_eq_getElem (by omega))
        simp [this]
    have e:holdI m'.L n'=(i:Int):=by unfold holdI;rw [this]
    rw [e] at hk;exact hk
  · have:m'.L.findIdx? (runsOn n')=none:=by
      rw [List.findIdx?_eq_none_iff]
      intro x hx
      obtain ⟨p,hp⟩:=List.getElem?_of_mem hx
      exact g5 p x (by have:=(List.getElem?_eq_some_iff.1 hp).1;omega) hp
    have e:holdI m'.L n'= -1:=by unfold holdI;rw [this]
    rw [e] at hk;exact hk
theorem vStateM {m:Model} {n:Int} {k:Unit→Int × Unit→Prop} (h:oStateM (m,n,()) k):V.vStateM m n k:=by
  obtain ⟨hm,hk⟩:=h
  simp only [] at hm hk
  unfold stateM at hk
  have hd:=hm.2.2.1
  refine br_dec (fun h1=>?_) (fun h1=>br_dec (fun h2=>?_) (fun h2=>?_))
  · rw [if_pos (.inl h1)] at hk;exact hk
  · rw [if_pos (.inr h2)] at hk;exact hk
  · rw [if_neg (by omega)] at hk
    have hdr: ∀e,m.Drain[n.toNat]? =some e→drainB m n.toNat=e:=fun e he=>by unfold drainB;rw [List.getD_eq_getElem?_getD,he];rfl
    refine ⟨⟨hm,by omega,by omega⟩,br_dec (fun hh=>⟨⟨by omega,by omega⟩,fun e he=>br_bool (fun hb=>?_) (fun hb=>br_dec (fun _=>?_) (fun h=>absurd hh h))⟩) (fun hh=>br_dec (fun h=>absurd h hh) (fun _=>⟨⟨by omega,by omega⟩,fun e he=>br_bool (fun hb=>?_) (fun hb=>?_)⟩))⟩
    · rw [hdr e he,hb] at hk
      have:0≤holdI m.L n:=hh
      simpa [this] using hk
    · rw [hdr e he,hb] at hk
      have:0≤holdI m.L n:=hh
      simpa [this] using hk
    · rw [hdr e he,hb] at hk
      have: ¬ 0≤holdI m.L n:=hh
      simpa [this] using hk
    · rw [hdr e he,hb] at hk
      have: ¬ 0≤holdI m.L n:=hh
      simpa [this] using hk
theorem vPlanned {j:Job} {k:Unit→Bool × Unit→Prop} (h:oPlanned (j,()) k):V.vPlanned j k:=by
  have h:k () (plannedJ j,()):=h
  unfold plannedJ at h
  refine br_eq (fun h1=>?_) (fun h1=>?_)
  · simpa [h1] using h
  · simpa [h1] using h
theorem vSooner {b t l:Int} {k:Unit→Int × Unit→Prop} (h:oSooner (b,t,l,()) k):V.vSooner b t l k:=by
  have h:k () (sooner b t l,()):=h
  unfold sooner at h
  refine br_dec (fun h1=>br_dec (fun h2=>?_) (fun h2=>br_dec (fun h3=>?_) (fun h3=>?_))) (fun h1=>?_)
  · rw [if_pos ⟨h1,.inl h2⟩] at h;exact h
  · rw [if_pos ⟨h1,.inr h3⟩] at h;exact h
  · rw [if_neg (by omega)] at h;exact h
  · rw [if_neg (fun g=>h1 g.1)] at h;exact h
theorem vFreeM {m:Model} {t b:Int} {k:Unit→Int × Unit→Prop} (h:oFreeM (m,t,b,()) k):V.vFreeM m t b k:=by
  obtain ⟨hm,hk⟩:=h
  simp only [] at hm hk
  have hl:=hm.1
  have hdl:=hm.2.2.1
  refine ⟨fun x=>x.1=m∧x.2.1=t∧x.2.2.1=b∧0≤x.2.2.2.2∧x.2.2.2.2≤m.Drain.length∧x.2.2.2.1=cntN (openM m t) x.2.2.2.2.toNat,fun x=>(m.Drain.length-x.2.2.2.2).toNat,(m,t,b,0,0),⟨rfl,rfl,rfl,Int.le_refl _,by simp,rfl⟩,⟨⟨⟨rfl,rfl,rfl,rfl,trivial⟩,rfl,rfl,rfl,rfl,trivial⟩,trivial⟩,?_⟩
  rintro ⟨m',t',b',c,i⟩ ⟨g1,g2,g3,g4,g5,g6⟩
  simp only [] at g1 g2 g3 g4 g5 g6
  subst g1 g2 g3
  obtain ⟨i,rfl⟩:=Int.eq_ofNat_of_zero_le g4
  rw [Int.toNat_natCast] at g6
  have hc0:=cntN_nonneg (openM m' t') i
  have hc1:=cntN_le (openM m' t') i
  dsimp only
  rw [Int.toNat_natCast]
  have nx: ∀c2,c2=cntN (openM m' t') (i+1)→(i:Int)<m'.Drain.length→ ∀q,q=IntKind.i64.wrap ((i:Int)+1)→ ∃y:Model × Int × Int × Int × Int,(y.1=m'∧y.2.1=t'∧y.2.2.1=b'∧0≤y.2.2.2.2∧y.2.2.2.2≤m'.Drain.length∧y.2.2.2.1=cntN (openM m' t') y.2.2.2.2.toNat)∧(((m'.Now=y.1.Now∧m'.Drain=y.1.Drain∧m'.L=y.1.L∧m'.Closed=y.1.Closed∧True)∧t'=y.2.1∧b'=y.2.2.1∧c2=y.2.2.2.1∧q=y.2.2.2.2∧True)∧True)∧(m'.Drain.length-y.2.2.2.2).toNat<(m'.Drain.length-(i:Int)).toNat:=by
    intro c2 hc2 hi q hq
    rw [w64 (by omega)] at hq
    subst hq
    exact ⟨(m',t',b',c2,(i:Int)+1),⟨rfl,rfl,rfl,by simp only [];omega,by simp only [];omega,by simp only [];rw [show ((i:Int)+1).toNat=i+1 by omega];exact hc2⟩,⟨⟨⟨rfl,rfl,rfl,rfl,trivial⟩,rfl,rfl,rfl,rfl,trivial⟩,trivial⟩,by simp only [];omega⟩
  refine br_dec (fun hi=>⟨⟨g4,hi⟩,fun e he=>?_⟩) (fun hi=>?_)
  · have hdr:drainB m' i=e:=by unfold drainB;rw [List.getD_eq_getElem?_getD,he];rfl
    have hs:cntN (openM m' t') (i+1)=cntN (openM m' t') i+(if openM m' t' i then 1 else 0):=rfl
    refine br_bool (fun hb=>?_) (fun hb=>⟨⟨hm,g4,by omega⟩,br_dec (fun hh q hq q2 hq2=>?_) (fun hh=>?_)⟩)
    · exact nx c (by rw [g6,hs];unfold openM;rw [hdr,hb];simp) hi
    · rw [w64 (by omega)] at hq
      subst hq
      refine nx _ ?_ hi q2 hq2
      rw [g6,hs];unfold openM;rw [hdr,hb,holdI_neg hh];simp
    · obtain ⟨p,j,e1,e2,e3⟩:=holdI_nat hh
      have hpl:=(List.getElem?_eq_some_iff.1 e2).1
      rw [e1,Int.toNat_natCast]
      refine ⟨⟨by omega,by omega⟩,fun e4 he4=>?_⟩
      rw [e2] at he4;cases he4
      refine br_dec (fun hle q hq q2 hq2=>?_) (fun hle=>?_)
      · rw [w64 (by omega)] at hq
        subst hq
        refine nx _ ?_ hi q2 hq2
        rw [g6,hs];unfold openM;rw [hdr,hb,e3];simp [hle]
      · exact nx c (by rw [g6,hs];unfold openM;rw [hdr,hb,e3];simp [hle]) hi
  · have hin:i=m'.Drain.length:=by omega
    rw [hin] at g6 hc0 hc1
    have hpb: ∀q,0≤planSum t' b' (m'.L.take q)∧planSum t' b' (m'.L.take q)≤65536:=fun q=>by
      have:=planSum_bound (t:=t') (b:=b') (l:=m'.L.take q) fun j hj=>hm.2.2.2.2.2 j (List.mem_of_mem_take hj)
      have:=List.length_take_le q m'.L
      have:(m'.L.take q).length≤m'.L.length:=by simp;omega
      omega
    refine ⟨fun x=>x.1=m'∧x.2.1=t'∧x.2.2.1=b'∧0≤x.2.2.2.2∧x.2.2.2.2≤m'.L.length∧x.2.2.2.1=c-planSum t' b' (m'.L.take x.2.2.2.2.toNat),fun x=>(m'.L.length-x.2.2.2.2).toNat,(m',t',b',c,0),⟨rfl,rfl,rfl,Int.le_refl _,by simp,by simp [planSum]⟩,⟨⟨⟨rfl,rfl,rfl,rfl,trivial⟩,rfl,rfl,rfl,rfl,trivial⟩,trivial⟩,?_⟩
    rintro ⟨m2,t2,b2,c2,p⟩ ⟨k1,k2,k3,k4,k5,k6⟩
    simp only [] at k1 k2 k3 k4 k5 k6
    subst k1 k2 k3
    obtain ⟨p,rfl⟩:=Int.eq_ofNat_of_zero_le k4
    rw [Int.toNat_natCast] at k6
    have hb1:=hpb p
    dsimp only
    rw [Int.toNat_natCast]
    have nx2: ∀e,m2.L[p]? =some e→ ∀c3,c3=c2-planAt t2 b2 e→ ∀q,q=IntKind.i64.wrap ((p:Int)+1)→ ∃y:Model × Int × Int × Int × Int,(y.1=m2∧y.2.1=t2∧y.2.2.1=b2∧0≤y.2.2.2.2∧y.2.2.2.2≤m2.L.length∧y.2.2.2.1=c-planSum t2 b2 (m2.L.take y.2.2.2.2.toNat))∧(((m2.Now=y.1.Now∧m2.Drain=y.1.Drain∧m2.L=y.1.L∧m2.Closed=y.1.Closed∧True)∧t2=y.2.1∧b2=y.2.2.1∧c3=y.2.2.2.1∧q=y.2.2.2.2∧True)∧True)∧(m2.L.length-y.2.2.2.2).toNat<(m2.L.length-(p:Int)).toNat:=by
      intro e he c3 hc3 q hq
      have hil:=(List.getElem?_eq_some_iff.1 he).1
      rw [w64 (by omega)] at hq
      subst hq
      refine ⟨(m2,t2,b2,c3,(p:Int)+1),⟨rfl,rfl,rfl,by simp only [];omega,by simp only [];omega,?_⟩,⟨⟨⟨rfl,rfl,rfl,rfl,trivial⟩,rfl,rfl,rfl,rfl,trivial⟩,trivial⟩,by simp only [];omega⟩
      simp only []
      rw [show ((p:Int)+1).toNat=p+1 by omega,take_snoc' he,planSum_snoc,hc3,k6];omega
    refine br_dec (fun hi2=>⟨⟨k4,hi2⟩,fun e he=>?_⟩) (fun hi2=>?_)
    · have hj:=hm.job he
      have hjw:=hj.2.2.2.2.2.2.2
      refine br_bool (fun q1=>br_ne (fun q2=>br_dec (fun q3 n hn=>?_) (fun q3=>?_)) (fun q2=>?_)) (fun q1=>?_)
      · rw [hj.sum] at hn
        subst hn
        refine br_dec (fun q4 w hw q hq=>?_) (fun q4=>?_)
        · rw [w64 (by omega)] at hw
          subst hw
          exact nx2 e he _ (by unfold planAt;rw [if_pos ⟨q1,q2,q3,q4⟩]) q hq
        · exact nx2 e he _ (by unfold planAt;rw [if_neg (fun g=>q4 g.2.2.2)];omega)
      · exact nx2 e he _ (by unfold planAt;rw [if_neg (fun g=>q3 g.2.2.1)];omega)
      · exact nx2 e he _ (by unfold planAt;rw [if_neg (fun g=>g.2.1 q2)];omega)
      · exact nx2 e he _ (by unfold planAt;rw [if_neg (fun g=>by rw [g.1] at q1;cases q1)];omega)
    · have hp:p=m2.L.length:=by omega
      rw [hp,List.take_of_length_le (Nat.le_refl _)] at k6
      have:c2=freeM m2 t2 b2:=by unfold freeM;rw [k6,g6]
      rw [this];exact hk
end Go.Ax.O
