import Derived.Test.YtnoinchifbckcaaGreatDoorAxD11
set_option linter.all false
namespace Go.Ax.Law
open Go.Ax.O
def heldN (k:Nat) (t:Int):List Job→Int
  | []=>0
  |j::r=>(if runsOn (k:Int) j=true∧t<j.End then 1 else 0)+heldN k t r
theorem runs_iff {k:Nat} {j:Job}:runsOn (k:Int) j=true↔j.State=3∧hasB j.Nodes k=true:=by simp [runsOn]
theorem take_drain {n:Nat} {d d':Nat→Bool} {k:Nat} (hk:k<n) (hdk:d k=false) (hd': ∀q,d' q=(d q||decide (q=k))) (t:Int) (j:Job):
    takeJ n d t j=takeJ n d' t j+(if runsOn (k:Int) j=true∧t<j.End then 1 else 0):=by
  unfold takeJ
  by_cases h3:j.State=3
  · rw [if_pos h3,if_pos h3]
    by_cases he:t<j.End
    · rw [if_pos he,if_pos he]
      have:cntN (fun q=>hasB j.Nodes q&&!d q) n=cntN (fun q=>hasB j.Nodes q&&!d' q) n+cntN (fun q=>decide (q=k)&&hasB j.Nodes k) n:=by
        refine cntN_add fun q _=>?_
        rw [hd']
        by_cases hq:q=k
        · subst hq;rw [hdk];cases hasB j.Nodes q<;>simp
        · simp [hq]
      rw [this]
      congr 1
      cases hb:hasB j.Nodes k with
      |false=>
        rw [cntN_none (fun q _=>by simp),if_neg (fun g=>by rw [(runs_iff.1 g.1).2] at hb;cases hb)]
      |true=>
        rw [cntN_congr (q:=fun q=>decide (q=k)) (fun q _=>by simp),cntN_one,if_pos hk,if_pos ⟨runs_iff.2 ⟨h3,hb⟩,he⟩]
    · rw [if_neg he,if_neg he,if_neg (fun g=>he g.2)];rfl
  · rw [if_neg h3,if_neg h3,if_neg (fun g=>h3 (runs_iff.1 g.1).1)];omega
theorem sum_drain {n:Nat} {d d':Nat→Bool} {k:Nat} (hk:k<n) (hdk:d k=false) (hd': ∀q,d' q=(d q||decide (q=k))) (t:Int): ∀l,sumT n d t l=sumT n d' t l+heldN k t l
  | []=>rfl
  |j::r=>by
    simp only [sumT,heldN,sum_drain hk hdk hd' t r,take_drain hk hdk hd' t j];omega
theorem cnt_drain {n:Nat} {d d':Nat→Bool} {k:Nat} (hk:k<n) (hdk:d k=false) (hd': ∀q,d' q=(d q||decide (q=k))):cntN (fun q=>!d q) n=cntN (fun q=>!d' q) n+1:=by
  have:=cntN_add (p:=fun q=>!d q) (q:=fun q=>!d' q) (r:=fun q=>decide (q=k)) (n:=n) (fun q _=>by
    rw [hd']
    by_cases hq:q=k
    · subst hq;rw [hdk];simp
    · simp [hq])
  rw [cntN_one,if_pos hk] at this
  exact this
theorem req_drain {n:Nat} {d d':Nat→Bool} {k:Nat} (hk:k<n) (hdk:d k=false) (hd': ∀q,d' q=(d q||decide (q=k))) (t:Int) (l:List Job):reqF n d l t=reqF n d' l t+1-heldN k t l:=by
  unfold reqF
  rw [cnt_drain hk hdk hd',sum_drain hk hdk hd' t l];omega
theorem held_eq {l:List Job} (h:ApartL l) (k:Nat) (t:Int):heldN k t l=match l.find? (runsOn (k:Int)) with |some j=>if t<j.End then 1 else 0 |none=>0:=by
  have key: ∀(l:List Job),AllApart l→heldN k t l=match l.find? (runsOn (k:Int)) with |some j=>if t<j.End then 1 else 0 |none=>0:=by
    intro l
    induction l with
    |nil=>intro _;rfl
    |cons j r ih=>
      intro h
      have ih:=ih (List.pairwise_cons.1 h).2
      have hj:=(List.pairwise_cons.1 h).1
      simp only [heldN]
      cases hr:runsOn (k:Int) j with
      |false=>rw [List.find?_cons_of_neg (by rw [hr];decide),ih];simp
      |true=>
        rw [List.find?_cons_of_pos hr]
        have:heldN k t r=0:=by
          rw [ih]
          cases hf:r.find? (runsOn (k:Int)) with
          |none=>rfl
          |some x=>
            have hx:=runs_iff.1 (List.find?_some hf)
            have:=hj x (List.mem_of_find?_eq_some hf) (runs_iff.1 hr).1 hx.1 k (runs_iff.1 hr).2
            rw [hx.2] at this;cases this
        rw [this];simp
  exact key l h.all
theorem holder_eq (l:List Job) (k:Int):holderJ l k=match l.find? (runsOn k) with |some j=>j |none=>job0:=by
  unfold holderJ inJ
  rw [List.find?_filter]
  have:(fun a:Job=>decide ([3].contains a.State=true∧hasB a.Nodes k=true))=runsOn k:=by
    funext a
    unfold runsOn
    by_cases h:a.State=3
    · simp [h]
    · simp [h]
  rw [this]
  rfl
theorem until_eq {n:Nat} {c:Core} (h:Deep n c) (hE:FreshE c.J.jobs (nowC c)) (k:Nat):nowC c≤untilC c k∧untilC c k≤1099512676352∧ ∀t,nowC c≤t→(1-heldN k t c.J.jobs=if untilC c k≤t then 1 else 0):=by
  have hnw:=h.nw
  unfold untilC
  rw [holder_eq]
  have hh:=fun t=>held_eq h.ap k t
  cases hf:c.J.jobs.find? (runsOn (k:Int)) with
  |none=>
    simp only [hf] at hh
    simp only []
    rw [if_neg (by decide)]
    refine ⟨Int.le_refl _,by omega,fun t ht=>?_⟩
    rw [hh,if_pos ht];rfl
  |some j=>
    simp only [hf] at hh
    simp only []
    have hj:=List.mem_of_find?_eq_some hf
    obtain ⟨i,hi⟩:=List.getElem?_of_mem hj
    have hid:=id_at h.cw hi
    have hr:=runs_iff.1 (List.find?_some hf)
    have hlt:=hE j hj hr.1
    have hen:=(h.jobs j hj).en
    rw [if_pos (by omega),wr_in (by omega)]
    refine ⟨by omega,by omega,fun t ht=>?_⟩
    rw [hh]
    by_cases hc:t<j.End
    · rw [if_pos hc,if_neg (by omega)];rfl
    · rw [if_neg hc,if_pos (by omega)];rfl
theorem Deep.nodes_set {n:Nat} {c:Core} (h:Deep n c) {dn':Int} {P':Prof} {cl:Bool} (hu:U64 dn') (hdn: ∀k:Nat,hasB dn' k=true→k<n) {d':Nat→Bool} (hd': ∀k:Nat,hasB dn' k=d' k) (hm:Match P' (nowC c) (reqF n d' c.J.jobs)) (hnn: ∀t,nowC c≤t→0≤reqF n d' c.J.jobs t):
    Deep n ⟨c.J,{c.N with drain:=dn'},P',cl⟩:=by
  have hd:dr (⟨c.J,{c.N with drain:=dn'},P',cl⟩:Core)=d':=by funext k;exact hd' k
  have hn:nowC (⟨c.J,{c.N with drain:=dn'},P',cl⟩:Core)=nowC c:=hm.nw
  refine ⟨h.n1,h.n64,⟨h.cw.1,⟨h.cw.2.1.1,h.cw.2.1.2.1,hu,h.cw.2.1.2.2.2⟩,hm.pw⟩,h.all,hdn,h.us,?_,h.ap,?_,?_,h.lv,h.l64,by rw [hn];exact h.nw⟩
  · rw [hn];exact h.jobs
  · rw [hn,hd];exact hm
  · rw [hn,hd];exact hnn
theorem planSum_zero {t b:Int}: ∀{l:List Job},(∀j∈l,plannedJ j=false)→planSum t b l=0
  | [],_=>rfl
  |j::r,h=>by
    simp only [planSum,planSum_zero fun x hx=>h x (List.mem_cons_of_mem _ hx)]
    unfold planAt;rw [if_neg (by rw [h j (by simp)];simp)];rfl
theorem req_nonneg {n:Nat} {d:Nat→Bool} {l:List Job} (h:ApartL l) (hp: ∀j∈l,plannedJ j=false) (t:Int):0≤reqF n d l t:=by
  unfold reqF
  rw [sumT_split,planSum_zero hp]
  have:=cnt_open (n:=n) (d:=d) (act:=fun j=>decide (t<j.End)) h.all
  have:=cntN_nonneg (fun k=>!d k&&!l.any fun j=>runsOn (k:Int) j&&decide (t<j.End)) n
  omega
theorem Deep.drain {n:Nat} {c:Core} (h:Deep n c) (hE:FreshE c.J.jobs (nowC c)) (hp: ∀j∈c.J.jobs,plannedJ j=false) {k:Nat} (hk:k<n) (hdk:dr c k=false):
    ∃c',addC {c with N:=(drainN c.N k).2} (untilC {c with N:=(drainN c.N k).2} k) 1152921504606846976 (-1)=c'∧c'.J=c.J∧c'.closed=c.closed∧nowC c'=nowC c∧Deep n c'∧ ∀q:Nat,dr c' q=(dr c q||decide (q=k)):=by
  have h64:=h.n64
  have hall:hasB c.N.all k=true:=by rw [h.all,hasB_all h.n1 h64];simpa using hk
  have hdn:(drainN c.N k).2={c.N with drain:=withS c.N.drain k}:=by
    unfold drainN
    rw [if_neg (by rw [hall];decide),if_neg (by unfold dr at hdk;rw [hdk];decide)]
  have hun:untilC {c with N:=(drainN c.N k).2} k=untilC c k:=rfl
  obtain ⟨u1,u2,u3⟩:=until_eq h hE k
  have hbits: ∀q:Nat,hasB (withS c.N.drain k) q=(dr c q||decide (q=k)):=fun q=>by
    rw [hasB_with h.cw.2.1.2.2.1 (by omega)]
    unfold dr
    by_cases e:q=k
    · subst e;simp
    · have: ¬ (q:Int)=(k:Int):=by omega
      simp [e,this]
  have hreq:=fun t=>req_drain (n:=n) (d:=dr c) (d':=fun q=>dr c q||decide (q=k)) hk hdk (fun q=>rfl) t c.J.jobs
  have hnn: ∀t,nowC c≤t→0≤reqF n (fun q=>dr c q||decide (q=k)) c.J.jobs t:=fun t _=>req_nonneg h.ap hp t
  have hle: ∀t,reqF n (fun q=>dr c q||decide (q=k)) c.J.jobs t≤n:=fun t=>reqF_le h.jobs
  have hm:=(h.mt.add (by have:=h.len;omega) u1 (by omega) (Int.le_refl _) (n:= -1) (by omega) h.bound (fun t ht=>⟨hnn t ht,by have:=hle t;omega⟩) (g:=reqF n (fun q=>dr c q||decide (q=k)) c.J.jobs) fun t ht=>by
    have h1:=hreq t
    have h2:=u3 t ht
    by_cases hc:untilC c k≤t
    · rw [if_pos hc] at h2;rw [if_pos ⟨hc,.inr (Int.le_refl _)⟩];omega
    · rw [if_neg hc] at h2;rw [if_neg (fun g=>hc g.1)];omega).1
  refine ⟨_,rfl,rfl,rfl,hm.nw,?_,fun q=>?_⟩
  · have:=h.nodes_set (cl:=c.closed) (withS_U64 (n:=(k:Int)) h.cw.2.1.2.2.1) (fun q hq=>by
      rw [hbits] at hq
      simp only [Bool.or_eq_true,decide_eq_true_eq] at hq
      rcases hq with hq |rfl
      · exact h.dn q hq
      · exact hk) hbits hm hnn
    unfold addC;rw [hun,hdn];exact this
  · unfold addC dr;simp only [hdn];exact hbits q
theorem Deep.resume {n:Nat} {c:Core} (h:Deep n c) (hE:FreshE c.J.jobs (nowC c)) {k:Nat} (hk:k<n) (hdk:dr c k=true):
    ∃c',addC {c with N:=(resumeN c.N k).2} (untilC {c with N:=(resumeN c.N k).2} k) 1152921504606846976 1=c'∧(resumeN c.N k).1=0∧c'.J=c.J∧c'.closed=c.closed∧nowC c'=nowC c∧Deep n c'∧ ∀q:Nat,dr c' q=(dr c q&&!decide (q=k)):=by
  have h64:=h.n64
  have hall:hasB c.N.all k=true:=by rw [h.all,hasB_all h.n1 h64];simpa using hk
  have hdn:resumeN c.N k=(0,{c.N with drain:=withoutS c.N.drain k}):=by
    unfold resumeN
    rw [if_neg (by rw [hall];decide),if_neg (by unfold dr at hdk;rw [hdk];decide)]
  have hun:untilC {c with N:=(resumeN c.N k).2} k=untilC c k:=rfl
  obtain ⟨u1,u2,u3⟩:=until_eq h hE k
  have hbits: ∀q:Nat,hasB (withoutS c.N.drain k) q=(dr c q&&!decide (q=k)):=fun q=>by
    rw [hasB_without h.cw.2.1.2.2.1 (by omega)]
    unfold dr
    by_cases e:q=k
    · subst e;simp
    · have: ¬ (q:Int)=(k:Int):=by omega
      simp [e,this]
  have hreq:=fun t=>req_drain (n:=n) (d:=fun q=>dr c q&&!decide (q=k)) (d':=dr c) hk (by simp) (fun q=>by
    by_cases e:q=k
    · subst e;simp [hdk]
    · simp [e]) t c.J.jobs
  have hnn: ∀t,nowC c≤t→0≤reqF n (fun q=>dr c q&&!decide (q=k)) c.J.jobs t:=fun t ht=>by
    have:=h.nn t ht
    have h1:=hreq t
    have h2:=u3 t ht
    rw [h1]
    split at h2<;>omega
  have hle: ∀t,reqF n (fun q=>dr c q&&!decide (q=k)) c.J.jobs t≤n:=fun t=>reqF_le h.jobs
  have hm:=(h.mt.add (by have:=h.len;omega) u1 (by omega) (Int.le_refl _) (n:=1) (by omega) h.bound (fun t ht=>⟨hnn t ht,by have:=hle t;omega⟩) (g:=reqF n (fun q=>dr c q&&!decide (q=k)) c.J.jobs) fun t ht=>by
    have h1:=hreq t
    have h2:=u3 t ht
    by_cases hc:untilC c k≤t
    · rw [if_pos hc] at h2;rw [if_pos ⟨hc,.inr (Int.le_refl _)⟩];omega
    · rw [if_neg hc] at h2;rw [if_neg (fun g=>hc g.1)];omega).1
  refine ⟨_,rfl,by rw [hdn],rfl,rfl,hm.nw,?_,fun q=>?_⟩
  · have:=h.nodes_set (cl:=c.closed) (withoutS_U64 (n:=(k:Int)) h.cw.2.1.2.2.1) (fun q hq=>by
      rw [hbits] at hq
      simp only [Bool.and_eq_true] at hq
      exact h.dn q hq.1) hbits hm hnn
    unfold addC;rw [hun,hdn];exact this
  · unfold addC dr;simp only [hdn];exact hbits q
def drainGo (w:Work) (c:Core):Work × Core:=
  if (dropW w c).1 then (dropW w c).2 else
    let c1:={(dropW w c).2.2 with N:=(drainN (dropW w c).2.2.N (dropW w c).2.1.req.Node).2}
    let c2:=addC c1 (untilC c1 (dropW w c).2.1.req.Node) 1152921504606846976 (-1)
    (endW (dropW w c).2.1 (nodeR c2 (dropW w c).2.1.req.Node),c2)
theorem drains_ends {n:Nat} {k:Nat} (hk:k<n): ∀(N:Nat) {c:Core} {m:Model} {w:Work},Stb n c m→w.done=false→w.commit=false→0≤w.part→w.part+N≤1000→w.req.Kind=7→w.req.Node=k→w.job=job0→w.ok=false→dr c k=false→c.J.jobs.countP (dropAt w)=N→
    stepW w c=bump (drainGo w c)→
    ∃q w' c',q≤N+1∧Ends w c q w' c'∧w'.ok=false∧w'.reply={reply0 with Id:=(k:Int),State:=stateM {dropM m job0 with Drain:=m.Drain.set k true} k}∧w'.part≤w.part+N+1∧Stb n c' {dropM m job0 with Drain:=m.Drain.set k true}:=by
  intro N
  induction N with
  |zero=>
    intro c m w h hd hc hp hs hkk hnode hjob hok hdk hn hst
    have hno: ∀x∈c.J.jobs,dropAt w x=false:=fun x hx=>by
      have:=List.countP_eq_zero.1 hn x hx
      simpa using this
    have hnp: ∀x∈c.J.jobs,plannedJ x=false:=fun x hx=>by
      have:=hno x hx
      rw [dropAt_eq,hjob] at this
      simpa [job0] using this
    have hf:(inJ c.J.jobs [1]).find? (dropAt w)=none:=by
      rw [drop_find,List.find?_eq_none]
      intro x hx;rw [hno x hx];decide
    have hdw:dropW w c=(false,{w with done:=decide (w.job.Id≠0)},c):=by unfold dropW;rw [hf]
    obtain ⟨c',e1,e2,e3,e4,e5,e6⟩:=h.rep.deep.drain h.fe hnp hk hdk
    have hg:drainGo w c=(endW {w with done:=decide (w.job.Id≠0)} (nodeR c' k),c'):=by
      unfold drainGo
      rw [hdw]
      simp only [hnode]
      rw [if_neg (by decide),e1]
    rw [hg] at hst
    have hm:dropM m job0=m:=by
      unfold dropM
      have:m.L.map (dropJ job0)=m.L:=by
        rw [h.rep.jobs]
        conv=>rhs;rw [←List.map_id c.J.jobs]
        exact List.map_congr_left fun x hx=>by unfold dropJ;rw [hnp x hx];rfl
      rw [this]
    rw [hm]
    have hrep:Stb n c' {m with Drain:=m.Drain.set k true}:=by
      refine ⟨⟨e5,by simp only [List.length_set];exact h.rep.len,by simp only [];rw [e2];exact h.rep.jobs,by simp only [];rw [e4];exact h.rep.now,by simp only [];rw [e3];exact h.rep.closed,fun q hq=>?_⟩,by rw [e2,e4];exact h.fe,by rw [e2,e4];exact h.fp⟩
      rw [e6]
      have:=h.rep.dr q hq
      unfold drainB at this ⊢
      simp only [List.getD_eq_getElem?_getD,List.getElem?_set] at this ⊢
      by_cases hqk:k=q
      · subst hqk
        rw [if_pos rfl,if_pos (by rw [h.rep.len];exact hk)]
        simp
      · rw [if_neg hqk,this]
        have: ¬ q=k:=fun e=>hqk e.symm
        simp [this]
    refine ⟨1,_,_,Nat.le_refl _,Ends.first hst rfl,hok,?_,?_,hrep⟩
    · show nodeR c' k=_
      unfold nodeR
      rw [hrep.rep.state]
    · show wr (w.part+1)≤w.part+(0:Nat)+1
      rw [wr_in (by omega)];omega
  |succ N ih=>
    intro c m w h hd hc hp hs hkk hnode hjob hok hdk hn hst
    cases hf:(inJ c.J.jobs [1]).find? (dropAt w) with
    |none=>
      exfalso
      rw [drop_find,List.find?_eq_none] at hf
      have:c.J.jobs.countP (dropAt w)=0:=List.countP_eq_zero.2 fun x hx=>hf x hx
      omega
    |some j=>
      have hf':=hf
      rw [drop_find] at hf'
      have hat:=List.find?_some hf'
      obtain ⟨i,hi⟩:=List.getElem?_of_mem (List.mem_of_find?_eq_some hf')
      have hpj:plannedJ j=true:=by rw [dropAt_eq] at hat;simp only [Bool.and_eq_true] at hat;exact hat.1
      obtain ⟨P1,e0,e1,h1⟩:=h.rep.deep.unplan hi hpj
      have hdw:dropW w c=(true,w,setPlanC (releaseC c (planS j).1) j.Id (-1)):=by unfold dropW;rw [hf]
      have hg:drainGo w c=(w,⟨⟨c.J.jobs.set i {j with Plan:= -1},c.J.live,c.J.made⟩,c.N,P1,c.closed⟩):=by
        unfold drainGo;rw [hdw];simp only [if_true,e1]
      rw [hg] at hst
      have hst1:=hst.trans (bump_eq ⟨hp,by omega⟩)
      have hoff:dropAt w {j with Plan:= -1}=false:=by rw [dropAt_eq];simp [plannedJ]
      have hcnt:=count_set (b:={j with Plan:= -1}) hi hat hoff
      have hoffp:plannedJ {j with Plan:= -1}=false:=by simp [plannedJ]
      have hj3:j.State≠3:=by have:=(planned_iff.1 hpj).1;omega
      obtain ⟨f1,f2⟩:=fresh_set (i:=i) (b:={j with Plan:= -1}) h.fe h.fp (by simpa using hj3) hoffp
      have hrep:Stb n ⟨⟨c.J.jobs.set i {j with Plan:= -1},c.J.live,c.J.made⟩,c.N,P1,c.closed⟩ {m with L:=m.L.set i {j with Plan:= -1}}:=by
        refine ⟨⟨h1,h.rep.len,by simp only [h.rep.jobs],?_,h.rep.closed,h.rep.dr⟩,?_,?_⟩
        · show m.Now=nowL P1.steps
          rw [e0];exact h.rep.now
        · show FreshE _ (nowL P1.steps)
          rw [e0];exact f1
        · show FreshP _ (nowL P1.steps)
          rw [e0];exact f2
      have hst2:stepW {w with part:=w.part+1} ⟨⟨c.J.jobs.set i {j with Plan:= -1},c.J.live,c.J.made⟩,c.N,P1,c.closed⟩=bump (drainGo {w with part:=w.part+1} ⟨⟨c.J.jobs.set i {j with Plan:= -1},c.J.live,c.J.made⟩,c.N,P1,c.closed⟩):=by
        have e:=step_next (w:={w with part:=w.part+1}) (c:=⟨⟨c.J.jobs.set i {j with Plan:= -1},c.J.live,c.J.made⟩,c.N,P1,c.closed⟩) hd hc (by simp only [];omega)
        rw [serve7 (w:={w with part:=w.part+1}) hkk] at e
        rw [e]
        unfold drainW
        rw [if_neg (by simp only [];omega),if_neg (by simp only [];omega)]
        rfl
      obtain ⟨q,w',c',b1,b2,b3,b4,b5,b6⟩:=ih (w:={w with part:=w.part+1}) hrep hd hc (by simp only [];omega) (by simp only [];omega) hkk hnode hjob hok hdk (by show List.countP (dropAt w) _=N;simp only [];omega) hst2
      have hm:dropM {m with L:=m.L.set i {j with Plan:= -1}} job0=dropM m job0:=by
        unfold dropM
        simp only []
        rw [map_set_same (by rw [h.rep.jobs];exact hi)]
        rw [dropJ_off]
        unfold dropJ;rw [if_pos (by rw [hpj];simp [job0])]
      rw [hm] at b4 b6
      exact ⟨q+1,w',c',by omega,Ends.next hst1 hd b2,b3,b4,by simp only [] at b5;omega,b6⟩
theorem node_done {n:Nat} {c:Core} {m:Model} (h:Stb n c m) (hc:c.closed=false) {r:Req} (hk:r.Kind=7):Done n (newW r) c (nodeM m r):=by
  have hd:=h.rep.deep
  have hst:=step_new (r:=r) hc
  have hk2:(newW r).req.Kind=7:=(clean_kind r).trans hk
  have hnode:(newW r).req.Node=r.Node:=cleanNode (by omega)
  rw [serve7 hk2] at hst
  have hstate:=h.rep.state r.Node
  have hlen:=h.rep.len
  unfold drainW at hst
  rw [hnode,←hstate] at hst
  unfold nodeM
  by_cases c1:r.Node<0∨(m.Drain.length:Int)≤r.Node
  · rw [if_pos c1]
    have:stateM m r.Node=0:=by unfold stateM;rw [if_pos c1]
    rw [if_pos ⟨rfl,this⟩] at hst
    exact Done.fail h rfl rfl ⟨rfl,rfl⟩ hst
  · rw [if_neg c1]
    obtain ⟨k,hkk⟩:=Int.eq_ofNat_of_zero_le (show 0≤r.Node by omega)
    have hkn:k<n:=by omega
    have hdr:=h.rep.dr k hkn
    have hst0:stateM m r.Node≠0:=by
      unfold stateM;rw [if_neg c1]
      split
      · omega
      · split
        · omega
        · split<;>omega
    rw [if_neg (fun g=>hst0 g.2)] at hst
    have h34:(stateM m r.Node=3∨stateM m r.Node=4)↔drainB m r.Node.toNat=true:=by
      unfold stateM;rw [if_neg c1]
      cases drainB m r.Node.toNat<;>by_cases hh:0≤holdI m.L r.Node<;>simp [hh]
    by_cases c2:drainB m r.Node.toNat=true
    · rw [if_pos (by rw [c2];simp [hk])]
      rw [if_pos ⟨rfl,h34.2 c2⟩] at hst
      exact Done.fail h rfl rfl ⟨rfl,rfl⟩ hst
    · have hfalse:drainB m r.Node.toNat=false:=by simpa using c2
      rw [if_neg (by rw [hfalse];simp [hk])]
      rw [if_neg (fun g=>c2 (h34.1 g.2))] at hst
      have hkt:r.Node.toNat=k:=by omega
      have hdk:dr c k=false:=by rw [←hdr,←hkt];exact hfalse
      have hcnt:=count_live (newW r) c.J.jobs
      have hl:=h.rep.deep.l64
      obtain ⟨q,w',c',b1,b2,b3,b4,b5,b6⟩:=drains_ends hkn _ h (w:=newW r) rfl rfl (by show (0:Int)≤0;decide) (by show (0:Int)+_≤1000;omega) hk2 (by rw [hnode,hkk]) rfl rfl hdk rfl (by rw [hst];unfold drainGo;simp only [hnode])
      simp only [hk,if_true,decide_true]
      rw [hkk]
      simp only [Int.toNat_natCast]
      have hp0:(newW r).part=0:=rfl
      exact ⟨q,w',c',by omega,b2,b3,b4,by omega,b6⟩
theorem resume_done {n:Nat} {c:Core} {m:Model} (h:Stb n c m) (hc:c.closed=false) {r:Req} (hk:r.Kind=8):Done n (newW r) c (nodeM m r):=by
  have hd:=h.rep.deep
  have hst:=step_new (r:=r) hc
  have hk2:(newW r).req.Kind=8:=(clean_kind r).trans hk
  have hnode:(newW r).req.Node=r.Node:=cleanNode (by omega)
  rw [serve8 hk2] at hst
  have hlen:=h.rep.len
  have h64:=hd.n64
  unfold resumeW at hst
  rw [hnode] at hst
  simp only [] at hst
  unfold nodeM
  by_cases c1:r.Node<0∨(m.Drain.length:Int)≤r.Node
  · rw [if_pos c1]
    have hall:hasB c.N.all r.Node=false:=by
      rcases c1 with c1 |c1
      · exact hasB_neg c1
      · obtain ⟨q,hq⟩:=Int.eq_ofNat_of_zero_le (show 0≤r.Node by omega)
        rw [hq,hd.all,hasB_all hd.n1 h64]
        simp;omega
    have hf:resumeN c.N r.Node=(11,c.N):=by unfold resumeN;rw [if_pos hall]
    rw [hf] at hst
    simp only [] at hst
    rw [if_pos (by decide)] at hst
    exact Done.fail h rfl rfl ⟨rfl,rfl⟩ hst
  · rw [if_neg c1]
    obtain ⟨k,hkk⟩:=Int.eq_ofNat_of_zero_le (show 0≤r.Node by omega)
    have hkn:k<n:=by omega
    have hdr:=h.rep.dr k hkn
    have hkt:r.Node.toNat=k:=by omega
    rw [hkt,hdr]
    have hall:hasB c.N.all r.Node=true:=by rw [hkk,hd.all,hasB_all hd.n1 h64];simpa using hkn
    cases hdk:dr c k with
    |false=>
      rw [if_pos (by simp [hk])]
      have hf:resumeN c.N r.Node=(8,c.N):=by
        unfold resumeN;rw [if_neg (by rw [hall];decide),if_pos (by rw [hkk];exact hdk)]
      rw [hf] at hst
      simp only [] at hst
      rw [if_pos (by decide)] at hst
      exact Done.fail h rfl rfl ⟨rfl,rfl⟩ hst
    |true=>
      rw [if_neg (by simp [hk])]
      obtain ⟨c',e1,e0,e2,e3,e4,e5,e6⟩:=hd.resume h.fe hkn hdk
      rw [hkk] at hst
      rw [e1,e0] at hst
      rw [if_neg (by decide)] at hst
      have h7: ¬ r.Kind=7:=by omega
      simp only [h7,if_false,decide_false]
      have hrep:Stb n c' {m with Drain:=m.Drain.set k false}:=by
        refine ⟨⟨e5,by simp only [List.length_set];exact h.rep.len,by simp only [];rw [e2];exact h.rep.jobs,by simp only [];rw [e4];exact h.rep.now,by simp only [];rw [e3];exact h.rep.closed,fun q hq=>?_⟩,by rw [e2,e4];exact h.fe,by rw [e2,e4];exact h.fp⟩
        rw [e6]
        have:=h.rep.dr q hq
        unfold drainB at this ⊢
        simp only [List.getD_eq_getElem?_getD,List.getElem?_set] at this ⊢
        by_cases hqk:k=q
        · subst hqk
          rw [if_pos rfl,if_pos (by rw [h.rep.len];exact hkn)]
          simp
        · rw [if_neg hqk,this]
          have: ¬ q=k:=fun e=>hqk e.symm
          simp [this]
      have hn:nodeR c' k={reply0 with Id:=(k:Int),State:=stateM {m with Drain:=m.Drain.set k false} k}:=by
        unfold nodeR;rw [hrep.rep.state]
      rw [hn] at hst
      rw [hkk]
      exact Done.once rfl rfl hst hrep
theorem tick_done {n:Nat} {c:Core} {m:Model} (h:Stb n c m) (hc:c.closed=false) {r:Req} (hk:r.Kind=9):Done n (newW r) c (tickM m r.By):=by
  have hd:=h.rep.deep
  have hnw:=hd.nw
  have hst:=step_new (r:=r) hc
  have hk2:(newW r).req.Kind=9:=(clean_kind r).trans hk
  have hby:(newW r).req.By=r.By:=cleanBy hk
  rw [serve9 hk2] at hst
  unfold tickW at hst
  rw [if_pos (show (newW r).part=0 from rfl),hby,wr_in (by omega)] at hst
  unfold tickM
  have hnow:=h.rep.now
  by_cases c1:r.By<1∨1099511627776-m.Now<r.By
  · rw [if_pos c1]
    rw [if_pos (by omega)] at hst
    exact Done.fail h rfl rfl ⟨rfl,rfl⟩ hst
  · rw [if_neg c1]
    rw [if_neg (by omega),wr_in (by omega)] at hst
    have hpot:=pot_live c.J.jobs
    have hpl:=pot_len c.J.jobs
    have hl:=hd.l64
    have hL:m.L.length=c.J.jobs.length:=by rw [h.rep.jobs]
    have hp0:(newW r).part=0:=rfl
    obtain ⟨k,c',b1,b2,b3,b4,b5,b6⟩:=tick_ends (n:=n) (to:=nowC c+r.By) (by omega) (pot c.J.jobs) (w:=newW r) (w1:={newW r with to:=nowC c+r.By}) (f:=2*m.L.length+1) h.rep h.fe h.fp (Nat.le_refl _) (by omega) (by omega) rfl rfl rfl hk2 (by show (0:Int)≤0;decide) (by simp only [];omega) hst
    rw [hnow]
    refine ⟨k,_,c',by omega,b2,rfl,?_,by simp only [];omega,⟨b3,by rw [b6];exact b4,by rw [b6];exact b5⟩⟩
    show clockR c'=_
    rw [b3.clock]
    rfl
theorem used_sub {n:Nat} {c:Core} (h:Deep n c) {k:Nat} (hk:usedL c.J.jobs k=true):k<n:=by
  unfold usedL at hk
  rw [List.any_eq_true] at hk
  obtain ⟨j,hj,hr⟩:=hk
  have hr:=runs_iff.1 hr
  exact ((h.jobs j hj).rn hr.1).2.2 k hr.2
theorem info_eq {n:Nat} {c:Core} {m:Model} (h:Rep n c m):threeR (lenS (idleN c.N)) (lenS c.N.used) (lenS (minusS c.N.drain c.N.used))=threeR (countM m false 1 1) (countM m false 2 3) (countM m false 4 4):=by
  have hd:=h.deep
  have h64:=hd.n64
  have st: ∀k:Nat,k<n→stateM m k=if usedL c.J.jobs k=true then (if dr c k=true then 3 else 2) else if dr c k=true then 4 else 1:=fun k hk=>by
    rw [h.state]
    have hall:hasB c.N.all k=true:=by rw [hd.all,hasB_all hd.n1 h64];simpa using hk
    unfold stateN dr
    rw [hall,hd.us];simp
  have e1:lenS (idleN c.N)=countM m false 1 1:=by
    rw [hd.idle_len]
    unfold countM
    rw [if_neg (by decide),h.len]
    refine cntN_congr fun k hk=>?_
    rw [st k hk]
    cases usedL c.J.jobs k<;>cases dr c k<;>rfl
  have e2:lenS c.N.used=countM m false 2 3:=by
    rw [lenS_cut hd.cw.2.1.2.1 h64 fun k hk=>used_sub hd (by rw [←hd.us];exact hk)]
    unfold countM
    rw [if_neg (by decide),h.len]
    refine cntN_congr fun k hk=>?_
    rw [st k hk,hd.us]
    cases usedL c.J.jobs k<;>cases dr c k<;>rfl
  have e3:lenS (minusS c.N.drain c.N.used)=countM m false 4 4:=by
    rw [lenS_cut (U64_minus hd.cw.2.1.2.2.1) h64 fun k hk=>hd.dn k (by
      rw [hasB_minus hd.cw.2.1.2.2.1 hd.cw.2.1.2.1] at hk
      simp only [Bool.and_eq_true] at hk
      exact hk.1)]
    unfold countM
    rw [if_neg (by decide),h.len]
    refine cntN_congr fun k hk=>?_
    rw [st k hk,hasB_minus hd.cw.2.1.2.2.1 hd.cw.2.1.2.1,hd.us]
    show (dr c k&&_)=_
    cases usedL c.J.jobs k<;>cases dr c k<;>rfl
  rw [e1,e2,e3]
theorem Deep.close {n:Nat} {c:Core} (h:Deep n c) (cl:Bool):Deep n {c with closed:=cl}:=
  ⟨h.n1,h.n64,h.cw,h.all,h.dn,h.us,h.jobs,h.ap,h.mt,h.nn,h.lv,h.l64,h.nw⟩
theorem count_done {n:Nat} {c:Core} {m:Model} (h:Stb n c m) (hc:c.closed=false) {r:Req} (hk:r.Kind<1∨9<r.Kind):Done n (newW r) c (doM m r):=by
  have hd:=h.rep.deep
  have hst:=step_new (r:=r) hc
  have hk2:(newW r).req.Kind=r.Kind:=clean_kind r
  have hmc:m.Closed=false:=h.rep.closed.trans hc
  rw [serveR (by omega)] at hst
  unfold countW at hst
  rw [hk2] at hst
  unfold doM
  rw [hmc,if_neg (by decide),if_neg (by omega),if_neg (by omega),if_neg (by omega),if_neg (by omega),if_neg (by omega)]
  by_cases c1:r.Kind=10
  · rw [if_pos c1] at hst ⊢
    rw [info_eq h.rep] at hst
    exact Done.once rfl rfl hst h
  rw [if_neg c1] at hst ⊢
  by_cases c2:r.Kind=11
  · rw [if_pos c2] at hst ⊢
    have: ∀a b,cntJ c.J.jobs a=countM m true a b:=fun a b=>by unfold countM;rw [if_pos rfl,h.rep.jobs]
    rw [this 1 1,this 2 2,this 3 3] at hst
    exact Done.once rfl rfl hst h
  rw [if_neg c2] at hst ⊢
  by_cases c3:r.Kind=12
  · rw [if_pos c3] at hst ⊢
    rw [h.rep.clock] at hst
    exact Done.once rfl rfl hst h
  rw [if_neg c3] at hst ⊢
  by_cases c4:r.Kind=13
  · rw [if_pos c4] at hst ⊢
    exact Done.once rfl rfl hst ⟨⟨hd.close true,h.rep.len,h.rep.jobs,h.rep.now,rfl,h.rep.dr⟩,h.fe,h.fp⟩
  rw [if_neg c4] at hst ⊢
  exact Done.fail h rfl rfl ⟨rfl,rfl⟩ hst
theorem do_done {n:Nat} {c:Core} {m:Model} (h:Stb n c m) (r:Req):Done n (newW r) c (doM m r):=by
  cases hc:c.closed with
  |true=>
    have hmc:m.Closed=true:=h.rep.closed.trans hc
    have hst:stepW (newW r) c=bump (failW (newW r) 12,c):=by
      unfold stepW bump
      rw [if_neg (show ¬ (newW r).done=true by show ¬ false=true;decide)]
      simp only []
      rw [if_pos ⟨rfl,hc⟩]
    have:doM m r=(failR 12,m):=by unfold doM;rw [if_pos hmc]
    rw [this]
    exact Done.fail h rfl rfl ⟨rfl,rfl⟩ hst
  |false=>
    have hmc:m.Closed=false:=h.rep.closed.trans hc
    by_cases hr:r.Kind<1∨9<r.Kind
    · exact count_done h hc hr
    have hd: ∀x,(if m.Closed=true then (failR 12,m) else x)=x:=fun x=>by rw [hmc];rfl
    unfold doM
    rw [hd]
    by_cases k1:r.Kind=1
    · rw [if_pos k1];exact submit_done h hc k1
    rw [if_neg k1]
    by_cases k2:r.Kind=2∨r.Kind=5
    · rw [if_pos k2];exact finish_done h hc k2
    rw [if_neg k2]
    by_cases k3:r.Kind=3∨r.Kind=4∨r.Kind=6
    · rw [if_pos k3]
      rcases k3 with k3 |k3 |k3
      · exact hold_done h hc k3
      · exact free_done h hc k3
      · exact query_done h hc k3
    rw [if_neg k3]
    by_cases k4:r.Kind=7∨r.Kind=8
    · rw [if_pos k4]
      rcases k4 with k4 |k4
      · exact node_done h hc k4
      · exact resume_done h hc k4
    rw [if_neg k4,if_pos (by omega)]
    exact tick_done h hc (by omega)
end Go.Ax.Law
