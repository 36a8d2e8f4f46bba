import Derived.Test.YtnoinchifbckcaaGreatDoorAxO24
set_option linter.all false
namespace Go.Ax.Law
theorem MW.now {m:Model} (h:MW m) {t:Int} (h0:0≤t) (h1:t≤1099511627776):MW {m with Now:=t}:=⟨h.1,h.2.1,h.2.2.1,h0,h1,h.2.2.2.2.2⟩
theorem MW.map {m:Model} (h:MW m) {f:Job→Job} (hf: ∀j,MJ j→MJ (f j)):MW {m with L:=m.L.map f}:=
  ⟨by simpa using h.1,h.2.1,h.2.2.1,h.2.2.2.1,h.2.2.2.2.1,fun j hj=>by
    obtain ⟨x,hx,rfl⟩:=List.mem_map.1 hj
    exact hf x (h.2.2.2.2.2 x hx)⟩
theorem MJ.drop {j:Job} (h:MJ j) (a:Job):MJ (dropJ a j):=by
  unfold dropJ
  split
  · obtain ⟨h1,h2,h3,h4,h5,h6⟩:=h
    exact ⟨h1,h2,h3,by simp,by simp,h6⟩
  · exact h
theorem MJ.over {j:Job} (h:MJ j) (t:Int):MJ (overJ t j):=by
  unfold overJ
  split
  · obtain ⟨h1,h2,h3,h6⟩:=h
    exact ⟨h1,by simp,by simp,h6⟩
  · exact h
theorem MW.drain {m:Model} (h:MW m) (i:Nat) (b:Bool):MW {m with Drain:=m.Drain.set i b}:=⟨h.1,by simpa using h.2.1,by simpa using h.2.2.1,h.2.2.2⟩
theorem pick_U64 {p:Nat→Bool} {w:Int} (hw:0≤w) {n:Nat} (hn:n≤64):U64 (pickN p w n).1:=by
  obtain ⟨_,a,h1,h2,_⟩:=pickN_bits (p:=p) hw n hn
  rw [h2]
  have:(2:Nat)^n≤2^64:=Nat.pow_le_pow_right (by decide) hn
  have e:(2:Nat)^64=18446744073709551616:=by decide
  exact U64.nat (by omega)
theorem MW.begin {m:Model} (h:MW m) (i:Int):MW (beginM m i):=by
  unfold beginM
  split
  · rename_i j hj
    have hJ:=h.job hj
    obtain ⟨h1,h2,h3,h4,h5,h6,h7,h8,h9,h10⟩:=hJ
    have hn:=h.2.2.2
    refine h.set _ ⟨pick_U64 h8 h.2.2.1,by simp [beginJm],by simp [beginJm],by simp [beginJm],by simp [beginJm],h6,h7,h8,h9,?_⟩
    simp only [beginJm];omega
  · exact h
theorem begin_now (m:Model) (i:Int):(beginM m i).Now=m.Now∧(beginM m i).L.length=m.L.length:=by
  unfold beginM;split<;>simp
theorem MW.beginF: ∀(f:Nat) {m:Model},MW m→MW (Law.beginF f m)∧(Law.beginF f m).L.length=m.L.length
  |0,_,h=>⟨h,rfl⟩
  |f+1,m,h=>by
    simp only [Law.beginF]
    split
    · obtain ⟨a,b⟩:=MW.beginF f (h.begin (selN m.Now m.L m.L.length))
      exact ⟨a,b.trans (begin_now _ _).2⟩
    · exact MW.beginF f h
theorem MW.happen {m:Model} (h:MW m):MW (happenM m)∧(happenM m).L.length=m.L.length:=by
  obtain ⟨a,b⟩:=MW.beginF m.L.length (h.map (f:=overJ m.Now) fun j hj=>hj.over m.Now)
  exact ⟨a,b.trans (by simp)⟩
theorem MW.dropM {m:Model} (h:MW m) (j:Job):MW (Law.dropM m j):=h.map fun _ hx=>hx.drop j
def upTo {α:Type} (f:α→α) (l:List α) (i:Nat):List α:=(l.take i).map f++l.drop i
theorem upTo_len {α:Type} (f:α→α) (l:List α) (i:Nat):(upTo f l i).length=l.length:=by simp [upTo];omega
theorem upTo_get {α:Type} {f:α→α} {l:List α} {i:Nat}:(upTo f l i)[i]? =l[i]? :=by
  unfold upTo
  by_cases hi:i≤l.length
  · rw [List.getElem?_append_right (by simp;omega)]
    simp [show min i l.length=i by omega]
  · rw [List.getElem?_eq_none (by simp;omega),List.getElem?_eq_none (by omega)]
theorem upTo_set {α:Type} {f:α→α} {l:List α} {i:Nat} {e:α} (he:l[i]? =some e):(upTo f l i).set i (f e)=upTo f l (i+1):=by
  have hi:=(List.getElem?_eq_some_iff.1 he).1
  unfold upTo
  rw [Go.Ax.O.take_snoc' he,List.map_append,List.append_assoc,List.set_append_right _ _ (by simp;omega)]
  congr 1
  have:i-((l.take i).map f).length=0:=by simp;omega
  rw [this,List.drop_eq_getElem_cons hi]
  rfl
theorem upTo_same {α:Type} {f:α→α} {l:List α} {i:Nat} {e:α} (he:l[i]? =some e) (hf:f e=e):upTo f l i=upTo f l (i+1):=by
  rw [←upTo_set he,hf]
  apply List.ext_getElem?
  intro p
  rw [List.getElem?_set]
  split
  · rename_i hp;subst hp
    rw [upTo_get,he,if_pos (by rw [upTo_len];exact (List.getElem?_eq_some_iff.1 he).1)]
  · rfl
theorem upTo_all {α:Type} (f:α→α) (l:List α):upTo f l l.length=l.map f:=by simp [upTo]
theorem upTo_zero {α:Type} (f:α→α) (l:List α):upTo f l 0=l:=by simp [upTo]
end Go.Ax.Law
namespace Go.Ax.O
open Go.Ax.Sp Go.Ax.Law
theorem vDropM {m:Model} {j:Job} {k:Model × Unit→Unit→Prop} (h:oDropM (m,j,()) k):V.vDropM m j k:=by
  obtain ⟨hm,hk⟩:=h
  have hm:MW m:=hm
  have hk:k (dropM m j,()) ():=hk
  have hl:=hm.1
  unfold V.vDropM V.vDropM_2 V.vDropM_1
  simp only [tk_eq,tkset,Nat.zero_add,Nat.le_refl,true_and,and_true,List.length_set]
  refine ⟨fun x=>x.2.1=j∧0≤x.2.2∧x.2.2≤m.L.length∧x.1={m with L:=upTo (dropJ j) m.L x.2.2.toNat},fun x=>(m.L.length-x.2.2).toNat,(m,j,0),⟨rfl,Int.le_refl _,by simp,by simp [upTo_zero]⟩,by simp,?_⟩
  rintro ⟨m',j',i⟩ ⟨g1,g2,g3,g4⟩
  simp only [] at g1 g2 g3 g4
  subst g1
  obtain ⟨i,rfl⟩:=Int.eq_ofNat_of_zero_le g2
  rw [Int.toNat_natCast] at g4
  subst g4
  dsimp only
  rw [Int.toNat_natCast,upTo_len]
  have nx: ∀L2,L2=upTo (dropJ j') m.L (i+1)→(i:Int)<m.L.length→ ∀q,q=IntKind.i64.wrap ((i:Int)+1)→ ∃y:Model × Job × Int,(y.2.1=j'∧0≤y.2.2∧y.2.2≤m.L.length∧y.1={m with L:=upTo (dropJ j') m.L y.2.2.toNat})∧(q=y.2.2∧{m with L:=L2}=y.1∧(j'.Id=y.2.1.Id∧j'.User=y.2.1.User∧j'.Width=y.2.1.Width∧j'.Limit=y.2.1.Limit∧j'.Prio=y.2.1.Prio∧j'.State=y.2.1.State∧j'.Start=y.2.1.Start∧j'.End=y.2.1.End∧j'.Plan=y.2.1.Plan∧j'.Nodes=y.2.1.Nodes))∧(m.L.length-y.2.2).toNat<(m.L.length-(i:Int)).toNat:=by
    intro L2 hL2 hi q hq
    rw [w64 (by omega)] at hq
    subst hq hL2
    exact ⟨({m with L:=upTo (dropJ j') m.L (i+1)},j',(i:Int)+1),⟨rfl,by simp only [];omega,by simp only [];omega,by simp only [];rw [show ((i:Int)+1).toNat=i+1 by omega]⟩,by simp,by simp only [];omega⟩
  refine br_dec (fun hi=>⟨⟨g2,hi⟩,by omega,fun e he=>?_⟩) (fun hi=>?_)
  · rw [upTo_get] at he
    refine br_bool (fun hp=>br_eq (fun h0=>⟨⟨g2,hi⟩,by omega,fun e1 he1=>?_⟩) (fun h0=>br_bool (fun ha=>⟨⟨g2,hi⟩,by omega,fun e1 he1=>?_⟩) (fun ha=>?_))) (fun hp=>?_)
    · exact nx _ (by rw [←upTo_set he];unfold dropJ;rw [if_pos (by simp [hp,h0])]) hi
    · exact nx _ (by rw [←upTo_set he];unfold dropJ;rw [if_pos (by simp [hp,ha])]) hi
    · exact nx _ (upTo_same he (by unfold dropJ;rw [if_neg (by simp [hp,h0,ha])])) hi
    · exact nx _ (upTo_same he (by unfold dropJ;rw [if_neg (by simp [hp])])) hi
  · have:i=m.L.length:=by omega
    rw [this,upTo_all];exact hk
theorem vBeginM {m:Model} {n:Int} {k:Model × Unit→Unit→Prop} (h:oBeginM (m,n,()) k):V.vBeginM m n k:=by
  obtain ⟨⟨hm,h0,h1⟩,hk⟩:=h
  have hm:MW m:=hm
  have h0:0≤n:=h0
  have h1:n<m.L.length:=h1
  have hk:k (beginM m n,()) ():=hk
  have hd:=hm.2.2.1
  have hnow:=hm.2.2.2
  unfold V.vBeginM V.vBeginM_1
  simp only [tk_eq,tkset,Nat.zero_add,Nat.le_refl,true_and,and_true,List.length_set]
  refine ⟨⟨h0,h1⟩,by omega,fun e he=>?_⟩
  have hJ:=hm.job he
  have hw:=hJ.2.2.2.2.2.2.2
  have hlm:=hJ.2.2.2.2.2
  unfold beginM at hk
  rw [he] at hk
  simp only [beginJm] at hk
  refine ⟨fun x=>x.1=m∧x.2.1=n∧x.2.2.1=e∧0≤x.2.2.2.2.2.2∧x.2.2.2.2.2.2≤m.Drain.length∧(x.2.2.2.1,x.2.2.2.2.2.1)=pickN (idleM m) e.Width x.2.2.2.2.2.2.toNat∧(x.2.2.2.2.2.2<64→x.2.2.2.2.1=((2^x.2.2.2.2.2.2.toNat:Nat):Int)),fun x=>(m.Drain.length-x.2.2.2.2.2.2).toNat,(m,n,e,0,1,0,0),⟨rfl,rfl,rfl,Int.le_refl _,by simp,rfl,fun _=>rfl⟩,by simp,?_⟩
  rintro ⟨m',n',e',s,u,c,i⟩ ⟨g1,g2,g3,g4,g5,g6,g7⟩
  simp only [] at g1 g2 g3 g4 g5 g6 g7
  subst g1 g2 g3
  obtain ⟨i,rfl⟩:=Int.eq_ofNat_of_zero_le g4
  rw [Int.toNat_natCast] at g6 g7
  obtain ⟨p1,a,p2,p3,p4⟩:=pickN_bits (p:=idleM m') (w:=e'.Width) hw.1 i (by omega)
  have hs:s=(pickN (idleM m') e'.Width i).1:=congrArg Prod.fst g6
  have hc:c=(pickN (idleM m') e'.Width i).2:=congrArg Prod.snd g6
  have hcb:=cntN_le (idleM m') i
  have hcn:=cntN_nonneg (idleM m') i
  dsimp only
  have nx: ∀s2 c2,(s2,c2)=pickN (idleM m') e'.Width (i+1)→(i:Int)<m'.Drain.length→ ∀u2,u2=IntKind.u64.wrap (2*u)→ ∀q,q=IntKind.i64.wrap ((i:Int)+1)→ ∃y:Model × Int × Job × Int × Int × Int × Int,(y.1=m'∧y.2.1=n'∧y.2.2.1=e'∧0≤y.2.2.2.2.2.2∧y.2.2.2.2.2.2≤m'.Drain.length∧(y.2.2.2.1,y.2.2.2.2.2.1)=pickN (idleM m') e'.Width y.2.2.2.2.2.2.toNat∧(y.2.2.2.2.2.2<64→y.2.2.2.2.1=((2^y.2.2.2.2.2.2.toNat:Nat):Int)))∧((n'=y.2.1∧s2=y.2.2.2.1∧u2=y.2.2.2.2.1∧c2=y.2.2.2.2.2.1∧q=y.2.2.2.2.2.2)∧{Now:=m'.Now,Drain:=m'.Drain,L:=m'.L,Closed:=m'.Closed}=y.1∧(e'.Id=y.2.2.1.Id∧e'.User=y.2.2.1.User∧e'.Width=y.2.2.1.Width∧e'.Limit=y.2.2.1.Limit∧e'.Prio=y.2.2.1.Prio∧e'.State=y.2.2.1.State∧e'.Start=y.2.2.1.Start∧e'.End=y.2.2.1.End∧e'.Plan=y.2.2.1.Plan∧e'.Nodes=y.2.2.1.Nodes))∧(m'.Drain.length-y.2.2.2.2.2.2).toNat<(m'.Drain.length-(i:Int)).toNat:=by
    intro s2 c2 hsc hi u2 hu2 q hq
    rw [w64 (by omega)] at hq
    subst hq
    refine ⟨(m',n',e',s2,u2,c2,(i:Int)+1),⟨rfl,rfl,rfl,by simp only [];omega,by simp only [];omega,?_,fun h64=>?_⟩,by simp,by simp only [];omega⟩
    · simp only [];rw [show ((i:Int)+1).toNat=i+1 by omega];exact hsc
    · simp only [] at h64 ⊢
      rw [g7 (by omega)] at hu2
      rw [show ((i:Int)+1).toNat=i+1 by omega,hu2]
      have hp:(2:Nat)^(i+1)≤2^63:=Nat.pow_le_pow_right (by decide) (by omega)
      have e63:(2:Nat)^63=9223372036854775808:=by decide
      have ep:(2:Nat)^(i+1)=2*2^i:=by rw [Nat.pow_succ];omega
      rw [show (2:Int)*((2^i:Nat):Int)=((2^(i+1):Nat):Int) by rw [ep];omega,wuN (by omega)]
  have hpick:pickN (idleM m') e'.Width (i+1)=if c<e'.Width∧idleM m' i=true then (s+((2^i:Nat):Int),c+1) else (s,c):=by
    simp only [pickN]
    rw [←hc,←hs]
    split
    · rfl
    · rw [hs,hc]
  refine br_dec (fun hi=>br_dec (fun hcw=>⟨hm,br_eq (fun hst v hv v2 hv2 u2 hu2 q hq=>?_) (fun hst u2 hu2 q hq=>?_)⟩) (fun hcw u2 hu2 q hq=>?_)) (fun hi v hv=>?_)
  · have hu:=g7 (by omega)
    have hp:(2:Nat)^i≤2^63:=Nat.pow_le_pow_right (by decide) (by omega)
    have e63:(2:Nat)^63=9223372036854775808:=by decide
    rw [hs,p3,hu,show ((a:Nat):Int)+((2^i:Nat):Int)=((a+2^i:Nat):Int) by omega,wuN (by omega)] at hv
    rw [w64 (by omega)] at hv2
    subst hv hv2
    refine nx _ _ ?_ hi u2 hu2 q hq
    rw [hpick,if_pos ⟨hcw,by unfold idleM;exact decide_eq_true hst⟩,hs,p3]
    congr 1
  · exact nx s c (by rw [hpick,if_neg (fun g=>hst (by have:=g.2;unfold idleM at this;exact of_decide_eq_true this))]) hi u2 hu2 q hq
  · exact nx s c (by rw [hpick,if_neg (fun g=>hcw g.1)]) hi u2 hu2 q hq
  · rw [w64 (by omega)] at hv
    subst hv
    refine ⟨⟨h0,h1⟩,by omega,fun e2 he2=>?_⟩
    have hid:i=m'.Drain.length:=by omega
    rw [hs,hid]
    exact hk
theorem vHapM {m:Model} {k:Model × Unit→Unit→Prop} (h:oHapM (m,()) k):V.vHapM m k:=by
  obtain ⟨hm,hk⟩:=h
  have hm:MW m:=hm
  have hk:k (happenM m,()) ():=hk
  have hl:=hm.1
  unfold happenM at hk
  unfold V.vHapM V.vHapM_3 V.vHapM_2 V.vHapM_1
  simp only [tk_eq,tkset,Nat.zero_add,Nat.le_refl,true_and,and_true,List.length_set]
  refine ⟨fun x=>0≤x.2∧x.2≤m.L.length∧x.1={m with L:=upTo (overJ m.Now) m.L x.2.toNat},fun x=>(m.L.length-x.2).toNat,(m,0),⟨Int.le_refl _,by simp,by simp [upTo_zero]⟩,by simp,?_⟩
  rintro ⟨m',i⟩ ⟨g2,g3,g4⟩
  simp only [] at g2 g3 g4
  obtain ⟨i,rfl⟩:=Int.eq_ofNat_of_zero_le g2
  rw [Int.toNat_natCast] at g4
  subst g4
  dsimp only
  rw [Int.toNat_natCast,upTo_len]
  have nx: ∀L2,L2=upTo (overJ m.Now) m.L (i+1)→(i:Int)<m.L.length→ ∀q,q=IntKind.i64.wrap ((i:Int)+1)→ ∃y:Model × Int,(0≤y.2∧y.2≤m.L.length∧y.1={m with L:=upTo (overJ m.Now) m.L y.2.toNat})∧(q=y.2∧{m with L:=L2}=y.1)∧(m.L.length-y.2).toNat<(m.L.length-(i:Int)).toNat:=by
    intro L2 hL2 hi q hq
    rw [w64 (by omega)] at hq
    subst hq hL2
    exact ⟨({m with L:=upTo (overJ m.Now) m.L (i+1)},(i:Int)+1),⟨by simp only [];omega,by simp only [];omega,by simp only [];rw [show ((i:Int)+1).toNat=i+1 by omega]⟩,by simp,by simp only [];omega⟩
  refine br_dec (fun hi=>⟨⟨g2,hi⟩,by omega,fun e he=>?_⟩) (fun hi=>?_)
  · rw [upTo_get] at he
    refine br_eq (fun h3=>br_eq (fun hen=>⟨⟨g2,hi⟩,by omega,fun e1 he1=>?_⟩) (fun hen=>?_)) (fun h3=>?_)
    · exact nx _ (by rw [←upTo_set he];unfold overJ;rw [if_pos ⟨h3,hen⟩]) hi
    · exact nx _ (upTo_same he (by unfold overJ;rw [if_neg (fun g=>hen g.2)])) hi
    · exact nx _ (upTo_same he (by unfold overJ;rw [if_neg (fun g=>h3 g.1)])) hi
  · have hil:i=m.L.length:=by omega
    rw [hil,upTo_all]
    have hm1:=hm.map (f:=overJ m.Now) fun j hj=>hj.over m.Now
    generalize hM1:({m with L:=m.L.map (overJ m.Now)}:Model)=M1 at hk hm1
    have hlen:M1.L.length=m.L.length:=by rw [←hM1];simp
    generalize hR:beginF m.L.length M1=R at hk
    refine ⟨fun x=>MW x.1∧x.1.L.length=m.L.length∧0≤x.2∧x.2≤m.L.length∧beginF (m.L.length-x.2.toNat) x.1=R,fun x=>(m.L.length-x.2).toNat,(M1,0),⟨hm1,hlen,Int.le_refl _,by simp,by simpa using hR⟩,by simp,?_⟩
    rintro ⟨m2,c⟩ ⟨k1,k2,k3,k4,k5⟩
    simp only [] at k1 k2 k3 k4 k5
    obtain ⟨c,rfl⟩:=Int.eq_ofNat_of_zero_le k3
    rw [Int.toNat_natCast] at k5
    dsimp only
    refine br_dec (fun hc=>?_) (fun hc=>?_)
    · refine ⟨fun y=>y.1=m2∧y.2.1=(c:Int)∧0≤y.2.2.2∧y.2.2.2≤m2.L.length∧y.2.2.1=selN m2.Now m2.L y.2.2.2.toNat,fun y=>(m2.L.length-y.2.2.2).toNat,(m2,(c:Int),-1,0),⟨rfl,rfl,Int.le_refl _,by simp,rfl⟩,by simp,?_⟩
      rintro ⟨m3,c3,f,p⟩ ⟨q1,q2,q3,q4,q5⟩
      simp only [] at q1 q2 q3 q4 q5
      subst q1 q2
      obtain ⟨p,rfl⟩:=Int.eq_ofNat_of_zero_le q3
      rw [Int.toNat_natCast] at q5
      have hsel: ∀z,z≤m3.L.length→selN m3.Now m3.L z= -1∨ ∃i:Nat,i<z∧selN m3.Now m3.L z=(i:Int):=by
        intro z
        induction z with
        |zero=>intro _;exact .inl rfl
        |succ z ih=>
          intro hz
          simp only [selN]
          split
          · split
            · exact .inr ⟨z,by omega,rfl⟩
            · rcases ih (by omega) with e |⟨i,h1,h2⟩
              · exact .inl e
              · exact .inr ⟨i,by omega,h2⟩
          · rcases ih (by omega) with e |⟨i,h1,h2⟩
            · exact .inl e
            · exact .inr ⟨i,by omega,h2⟩
      dsimp only
      rw [Int.toNat_natCast]
      have nx2: ∀f2,f2=selN m3.Now m3.L (p+1)→(p:Int)<m3.L.length→ ∀q,q=IntKind.i64.wrap ((p:Int)+1)→ ∃y:Model × Int × Int × Int,(y.1=m3∧y.2.1=(c:Int)∧0≤y.2.2.2∧y.2.2.2≤m3.L.length∧y.2.2.1=selN m3.Now m3.L y.2.2.2.toNat)∧(((c:Int)=y.2.1∧f2=y.2.2.1∧q=y.2.2.2)∧{Now:=m3.Now,Drain:=m3.Drain,L:=m3.L,Closed:=m3.Closed}=y.1)∧(m3.L.length-y.2.2.2).toNat<(m3.L.length-(p:Int)).toNat:=by
        intro f2 hf2 hp q hq
        rw [w64 (by omega)] at hq
        subst hq
        exact ⟨(m3,(c:Int),f2,(p:Int)+1),⟨rfl,rfl,by simp only [];omega,by simp only [];omega,by simp only [];rw [show ((p:Int)+1).toNat=p+1 by omega];exact hf2⟩,by simp,by simp only [];omega⟩
      refine br_dec (fun hp=>⟨⟨q3,hp⟩,by omega,fun e he=>?_⟩) (fun hp=>?_)
      · have hs1:selN m3.Now m3.L (p+1)=if dueJ m3.Now e=true∧(f<0∨aheadJ e (m3.L.getD f.toNat job0)=true) then (p:Int) else f:=by
          simp only [selN];rw [he,←q5]
        refine br_bool (fun hpl=>⟨⟨q3,hp⟩,by omega,fun e1 he1=>br_eq (fun hpn=>br_dec (fun hf=>?_) (fun hf=>⟨⟨q3,hp⟩,by omega,fun e2 he2=>?_⟩)) (fun hpn=>?_)⟩) (fun hpl=>?_)
        · rw [he] at he1;cases he1
          exact nx2 _ (by rw [hs1,if_pos ⟨by unfold dueJ;simp [hpl,hpn],.inl hf⟩]) hp
        · rw [he] at he1 he2;cases he1;cases he2
          rcases hsel p (by omega) with e9 |⟨i9,h91,h92⟩
          · rw [e9] at q5;omega
          · have hf9:f=(i9:Int):=q5.trans h92
            rw [hf9,Int.toNat_natCast]
            refine ⟨⟨by omega,by omega⟩,by omega,fun e3 he3=>?_⟩
            have hg:m3.L.getD f.toNat job0=e3:=by rw [hf9,Int.toNat_natCast,List.getD_eq_getElem?_getD,he3];rfl
            rw [hg] at hs1
            refine br_bool (fun ha=>?_) (fun ha=>?_)
            · exact nx2 _ (by rw [hs1,if_pos ⟨by unfold dueJ;simp [hpl,hpn],.inr ha⟩]) hp
            · have:=nx2 f (by rw [hs1,if_neg (fun g=>Or.elim g.2 hf (fun g=>by rw [ha] at g;cases g))]) hp
              rw [hf9] at this;exact this
        · rw [he] at he1;cases he1
          exact nx2 _ (by rw [hs1,if_neg (fun g=>by have:=g.1;unfold dueJ at this;simp [hpn] at this)]) hp
        · exact nx2 _ (by rw [hs1,if_neg (fun g=>by have:=g.1;unfold dueJ at this;simp [hpl] at this)]) hp
      · have hpl:p=m3.L.length:=by omega
        rw [hpl] at q5
        rw [show m.L.length-c=(m.L.length-(c+1))+1 by omega] at k5
        simp only [beginF] at k5
        rw [←q5] at k5
        refine br_dec (fun hf=>⟨⟨k1,hf,?_⟩,fun q hq=>?_⟩) (fun hf q hq=>?_)
        · rcases hsel m3.L.length (Nat.le_refl _) with e9 |⟨i9,h91,h92⟩
          · omega
          · have:f=(i9:Int):=q5.trans h92
            show f<((m3.L.length:Nat):Int)
            omega
        · rw [w64 (by omega)] at hq
          subst hq
          rw [if_pos hf] at k5
          refine ⟨(beginM m3 f,(c:Int)+1),⟨k1.begin f,(begin_now _ _).2.trans k2,by simp only [];omega,by simp only [];omega,?_⟩,by simp,by simp only [];omega⟩
          simp only []
          rw [show ((c:Int)+1).toNat=c+1 by omega];exact k5
        · rw [w64 (by omega)] at hq
          subst hq
          rw [if_neg hf] at k5
          refine ⟨(m3,(c:Int)+1),⟨k1,k2,by simp only [];omega,by simp only [];omega,?_⟩,by simp,by simp only [];omega⟩
          simp only []
          rw [show ((c:Int)+1).toNat=c+1 by omega];exact k5
    · rw [show m.L.length-c=0 by omega] at k5
      simp only [beginF] at k5
      rw [←k5] at hk;exact hk
end Go.Ax.O
