import Derived.Test.YtbmabiedmdlinaaGreatDoorAxD11
import Derived.Test.YtbmabiedmdlinaaGreatDoorAxV9
import Derived.Test.YtbmabiedmdlinaaGreatDoorAxD5
import Derived.KernelRfl
set_option linter.all false
namespace Go.Ax.Law
open Go.Ax.O
def heldN (k:Nat) (t:Int):List Job→Int
  | []=>0
  |j::r=>(if runsOn (k:Int) j=true∧t<j.End then 1 else 0)+heldN k t r
theorem runs_iff {k:Nat} {j:Job}:runsOn (k:Int) j=true↔j.State=3∧hasB j.Nodes k=true:=by simp [runsOn]
theorem take_drain {n:Nat} {d d':Nat→Bool} {k:Nat} (hk:k<n) (hdk:d k=false) (hd': ∀q,d' q=(d q||decide (q=k))) (t:Int) (j:Job):
    takeJ n d t j=takeJ n d' t j+(if runsOn (k:Int) j=true∧t<j.End then 1 else 0):=by
  unfold takeJ
  by_cases h3:j.State=3
  · rw [if_pos h3,if_pos h3]
    by_cases he:t<j.End
    · rw [if_pos he,if_pos he]
      have:cntN (fun q=>hasB j.Nodes q&&!d q) n=cntN (fun q=>hasB j.Nodes q&&!d' q) n+cntN (fun q=>decide (q=k)&&hasB j.Nodes k) n:=by
        refine cntN_add fun q _=>?_
        rw [hd']
        by_cases hq:q=k
        · subst hq;rw [hdk];cases hasB j.Nodes q<;>simp
        · simp [hq]
      rw [this]
      congr 1
      cases hb:hasB j.Nodes k with
      |false=>
        rw [cntN_none (fun q _=>by simp),if_neg (fun g=>by rw [(runs_iff.1 g.1).2] at hb;cases hb)]
      |true=>
        rw [cntN_congr (q:=fun q=>decide (q=k)) (fun q _=>by simp),cntN_one,if_pos hk,if_pos ⟨runs_iff.2 ⟨h3,hb⟩,he⟩]
    · rw [if_neg he,if_neg he,if_neg (fun g=>he g.2)];rfl
  · rw [if_neg h3,if_neg h3,if_neg (fun g=>h3 (runs_iff.1 g.1).1)];omega
theorem sum_drain {n:Nat} {d d':Nat→Bool} {k:Nat} (hk:k<n) (hdk:d k=false) (hd': ∀q,d' q=(d q||decide (q=k))) (t:Int): ∀l,sumT n d t l=sumT n d' t l+heldN k t l
  | []=>rfl
  |j::r=>by
    simp only [sumT,heldN,sum_drain hk hdk hd' t r,take_drain hk hdk hd' t j];omega
theorem cnt_drain {n:Nat} {d d':Nat→Bool} {k:Nat} (hk:k<n) (hdk:d k=false) (hd': ∀q,d' q=(d q||decide (q=k))):cntN (fun q=>!d q) n=cntN (fun q=>!d' q) n+1:=by
  have:=cntN_add (p:=fun q=>!d q) (q:=fun q=>!d' q) (r:=fun q=>decide (q=k)) (n:=n) (fun q _=>by
    rw [hd']
    by_cases hq:q=k
    · subst hq;rw [hdk];simp
    · simp [hq])
  rw [cntN_one,if_pos hk] at this
  exact this
theorem req_drain {n:Nat} {d d':Nat→Bool} {k:Nat} (hk:k<n) (hdk:d k=false) (hd': ∀q,d' q=(d q||decide (q=k))) (t:Int) (l:List Job):reqF n d l t=reqF n d' l t+1-heldN k t l:=by
  unfold reqF
  rw [cnt_drain hk hdk hd',sum_drain hk hdk hd' t l];omega
theorem held_eq {l:List Job} (h:ApartL l) (k:Nat) (t:Int):heldN k t l=match l.find? (runsOn (k:Int)) with |some j=>if t<j.End then 1 else 0 |none=>0:=by
  have key: ∀(l:List Job),AllApart l→heldN k t l=match l.find? (runsOn (k:Int)) with |some j=>if t<j.End then 1 else 0 |none=>0:=by
    intro l
    induction l with
    |nil=>intro _;rfl
    |cons j r ih=>
      intro h
      have ih:=ih (List.pairwise_cons.1 h).2
      have hj:=(List.pairwise_cons.1 h).1
      simp only [heldN]
      cases hr:runsOn (k:Int) j with
      |false=>rw [List.find?_cons_of_neg (by rw [hr];decide),ih];simp
      |true=>
        rw [List.find?_cons_of_pos hr]
        have:heldN k t r=0:=by
          rw [ih]
          cases hf:r.find? (runsOn (k:Int)) with
          |none=>rfl
          |some x=>
            have hx:=runs_iff.1 (List.find?_some hf)
            have:=hj x (List.mem_of_find?_eq_some hf) (runs_iff.1 hr).1 hx.1 k (runs_iff.1 hr).2
            rw [hx.2] at this;cases this
        rw [this];simp
  exact key l h.all
theorem holder_eq (l:List Job) (k:Int):holderJ l k=match l.find? (runsOn k) with |some j=>j |none=>job0:=by
  unfold holderJ inJ
  rw [List.find?_filter]
  have:(fun a:Job=>decide ([3].contains a.State=true∧hasB a.Nodes k=true))=runsOn k:=by
    funext a
    unfold runsOn
    by_cases h:a.State=3
    · simp [h]
    · simp [h]
  rw [this]
  rfl
theorem until_eq {n:Nat} {c:Core} (h:Deep n c) (hE:FreshE c.J.jobs (nowC c)) (k:Nat):nowC c≤untilC c k∧untilC c k≤1099512676352∧ ∀t,nowC c≤t→(1-heldN k t c.J.jobs=if untilC c k≤t then 1 else 0):=by
  have hnw:=h.nw
  unfold untilC
  rw [holder_eq]
  have hh:=fun t=>held_eq h.ap k t
  cases hf:c.J.jobs.find? (runsOn (k:Int)) with
  |none=>
    simp only [hf] at hh
    simp only []
    rw [if_neg (by decide)]
    refine ⟨Int.le_refl _,by omega,fun t ht=>?_⟩
    rw [hh,if_pos ht];rfl
  |some j=>
    simp only [hf] at hh
    simp only []
    have hj:=List.mem_of_find?_eq_some hf
    obtain ⟨i,hi⟩:=List.getElem?_of_mem hj
    have hid:=id_at h.cw hi
    have hr:=runs_iff.1 (List.find?_some hf)
    have hlt:=hE j hj hr.1
    have hen:=(h.jobs j hj).en
    rw [if_pos (by omega),wr_in (by omega)]
    refine ⟨by omega,by omega,fun t ht=>?_⟩
    rw [hh]
    by_cases hc:t<j.End
    · rw [if_pos hc,if_neg (by omega)];rfl
    · rw [if_neg hc,if_pos (by omega)];rfl
theorem Deep.nodes_set {n:Nat} {c:Core} (h:Deep n c) {dn':Int} {P':Prof} {cl:Bool} (hu:U64 dn') (hdn: ∀k:Nat,hasB dn' k=true→k<n) {d':Nat→Bool} (hd': ∀k:Nat,hasB dn' k=d' k) (hm:Match P' (nowC c) (reqF n d' c.J.jobs)) (hnn: ∀t,nowC c≤t→0≤reqF n d' c.J.jobs t):
    Deep n ⟨c.J,{c.N with drain:=dn'},P',cl⟩:=by
  have hd:dr (⟨c.J,{c.N with drain:=dn'},P',cl⟩:Core)=d':=by funext k;exact hd' k
  have hn:nowC (⟨c.J,{c.N with drain:=dn'},P',cl⟩:Core)=nowC c:=hm.nw
  refine ⟨h.n1,h.n64,⟨h.cw.1,⟨h.cw.2.1.1,h.cw.2.1.2.1,hu,h.cw.2.1.2.2.2⟩,hm.pw⟩,h.all,hdn,h.us,?_,h.ap,?_,?_,h.lv,h.l64,by rw [hn];exact h.nw⟩
  · rw [hn];exact h.jobs
  · rw [hn,hd];exact hm
  · rw [hn,hd];exact hnn
theorem planSum_zero {t b:Int}: ∀{l:List Job},(∀j∈l,plannedJ j=false)→planSum t b l=0
  | [],_=>rfl
  |j::r,h=>by
    simp only [planSum,planSum_zero fun x hx=>h x (List.mem_cons_of_mem _ hx)]
    unfold planAt;rw [if_neg (by rw [h j (by simp)];simp)];rfl
theorem req_nonneg {n:Nat} {d:Nat→Bool} {l:List Job} (h:ApartL l) (hp: ∀j∈l,plannedJ j=false) (t:Int):0≤reqF n d l t:=by
  unfold reqF
  rw [sumT_split,planSum_zero hp]
  have:=cnt_open (n:=n) (d:=d) (act:=fun j=>decide (t<j.End)) h.all
  have:=cntN_nonneg (fun k=>!d k&&!l.any fun j=>runsOn (k:Int) j&&decide (t<j.End)) n
  omega
theorem Deep.drain {n:Nat} {c:Core} (h:Deep n c) (hE:FreshE c.J.jobs (nowC c)) (hp: ∀j∈c.J.jobs,plannedJ j=false) {k:Nat} (hk:k<n) (hdk:dr c k=false):
    ∃c',addC {c with N:=(drainN c.N k).2} (untilC {c with N:=(drainN c.N k).2} k) 1152921504606846976 (-1)=c'∧c'.J=c.J∧c'.closed=c.closed∧nowC c'=nowC c∧Deep n c'∧ ∀q:Nat,dr c' q=(dr c q||decide (q=k)):=by
  have h64:=h.n64
  have hall:hasB c.N.all k=true:=by rw [h.all,hasB_all h.n1 h64];simpa using hk
  have hdn:(drainN c.N k).2={c.N with drain:=withS c.N.drain k}:=by
    unfold drainN
    rw [if_neg (by rw [hall];decide),if_neg (by unfold dr at hdk;rw [hdk];decide)]
  have hun:untilC {c with N:=(drainN c.N k).2} k=untilC c k:=rfl
  obtain ⟨u1,u2,u3⟩:=until_eq h hE k
  have hbits: ∀q:Nat,hasB (withS c.N.drain k) q=(dr c q||decide (q=k)):=fun q=>by
    rw [hasB_with h.cw.2.1.2.2.1 (by omega)]
    unfold dr
    by_cases e:q=k
    · subst e;simp
    · have: ¬ (q:Int)=(k:Int):=by omega
      simp [e,this]
  have hreq:=fun t=>req_drain (n:=n) (d:=dr c) (d':=fun q=>dr c q||decide (q=k)) hk hdk (fun q=>rfl) t c.J.jobs
  have hnn: ∀t,nowC c≤t→0≤reqF n (fun q=>dr c q||decide (q=k)) c.J.jobs t:=fun t _=>req_nonneg h.ap hp t
  have hle: ∀t,reqF n (fun q=>dr c q||decide (q=k)) c.J.jobs t≤n:=fun t=>reqF_le h.jobs
  have hm:=(h.mt.add (by have:=h.len;omega) u1 (by omega) (Int.le_refl _) (n:= -1) (by omega) h.bound (fun t ht=>⟨hnn t ht,by have:=hle t;omega⟩) (g:=reqF n (fun q=>dr c q||decide (q=k)) c.J.jobs) fun t ht=>by
    have h1:=hreq t
    have h2:=u3 t ht
    by_cases hc:untilC c k≤t
    · rw [if_pos hc] at h2;rw [if_pos ⟨hc,.inr (Int.le_refl _)⟩];omega
    · rw [if_neg hc] at h2;rw [if_neg (fun g=>hc g.1)];omega).1
  refine ⟨_,rfl,rfl,rfl,hm.nw,?_,fun q=>?_⟩
  · have:=h.nodes_set (cl:=c.closed) (withS_U64 (n:=(k:Int)) h.cw.2.1.2.2.1) (fun q hq=>by
      rw [hbits] at hq
      simp only [Bool.or_eq_true,decide_eq_true_eq] at hq
      rcases hq with hq |rfl
      · exact h.dn q hq
      · exact hk) hbits hm hnn
    unfold addC;rw [hun,hdn];exact this
  · unfold addC dr;simp only [hdn];exact hbits q
theorem Deep.resume {n:Nat} {c:Core} (h:Deep n c) (hE:FreshE c.J.jobs (nowC c)) {k:Nat} (hk:k<n) (hdk:dr c k=true):
    ∃c',addC {c with N:=(resumeN c.N k).2} (untilC {c with N:=(resumeN c.N k).2} k) 1152921504606846976 1=c'∧(resumeN c.N k).1=0∧c'.J=c.J∧c'.closed=c.closed∧nowC c'=nowC c∧Deep n c'∧ ∀q:Nat,dr c' q=(dr c q&&!decide (q=k)):=by
  have h64:=h.n64
  have hall:hasB c.N.all k=true:=by rw [h.all,hasB_all h.n1 h64];simpa using hk
  have hdn:resumeN c.N k=(0,{c.N with drain:=withoutS c.N.drain k}):=by
    unfold resumeN
    rw [if_neg (by rw [hall];decide),if_neg (by unfold dr at hdk;rw [hdk];decide)]
  have hun:untilC {c with N:=(resumeN c.N k).2} k=untilC c k:=rfl
  obtain ⟨u1,u2,u3⟩:=until_eq h hE k
  have hbits: ∀q:Nat,hasB (withoutS c.N.drain k) q=(dr c q&&!decide (q=k)):=fun q=>by
    rw [hasB_without h.cw.2.1.2.2.1 (by omega)]
    unfold dr
    by_cases e:q=k
    · subst e;simp
    · have: ¬ (q:Int)=(k:Int):=by omega
      simp [e,this]
  have hreq:=fun t=>req_drain (n:=n) (d:=fun q=>dr c q&&!decide (q=k)) (d':=dr c) hk (by simp) (fun q=>by
    by_cases e:q=k
    · subst e;simp [hdk]
    · simp [e]) t c.J.jobs
  have hnn: ∀t,nowC c≤t→0≤reqF n (fun q=>dr c q&&!decide (q=k)) c.J.jobs t:=fun t ht=>by
    have:=h.nn t ht
    have h1:=hreq t
    have h2:=u3 t ht
    rw [h1]
    split at h2<;>omega
  have hle: ∀t,reqF n (fun q=>dr c q&&!decide (q=k)) c.J.jobs t≤n:=fun t=>reqF_le h.jobs
  have hm:=(h.mt.add (by have:=h.len;omega) u1 (by omega) (Int.le_refl _) (n:=1) (by omega) h.bound (fun t ht=>⟨hnn t ht,by have:=hle t;omega⟩) (g:=reqF n (fun q=>dr c q&&!decide (q=k)) c.J.jobs) fun t ht=>by
    have h1:=hreq t
    have h2:=u3 t ht
    by_cases hc:untilC c k≤t
    · rw [if_pos hc] at h2;rw [if_pos ⟨hc,.inr (Int.le_refl _)⟩];omega
    · rw [if_neg hc] at h2;rw [if_neg (fun g=>hc g.1)];omega).1
  refine ⟨_,rfl,by rw [hdn],rfl,rfl,hm.nw,?_,fun q=>?_⟩
  · have:=h.nodes_set (cl:=c.closed) (withoutS_U64 (n:=(k:Int)) h.cw.2.1.2.2.1) (fun q hq=>by
      rw [hbits] at hq
      simp only [Bool.and_eq_true] at hq
      exact h.dn q hq.1) hbits hm hnn
    unfold addC;rw [hun,hdn];exact this
  · unfold addC dr;simp only [hdn];exact hbits q
def drainGo (w:Work) (c:Core):Work × Core:=
  if (dropW w c).1 then (dropW w c).2 else
    let c1:={(dropW w c).2.2 with N:=(drainN (dropW w c).2.2.N (dropW w c).2.1.req.Node).2}
    let c2:=addC c1 (untilC c1 (dropW w c).2.1.req.Node) 1152921504606846976 (-1)
    (endW (dropW w c).2.1 (nodeR c2 (dropW w c).2.1.req.Node),c2)
theorem drains_ends {n:Nat} {k:Nat} (hk:k<n): ∀(N:Nat) {c:Core} {m:Model} {w:Work},Stb n c m→w.done=false→w.commit=false→0≤w.part→w.part+N≤1000→w.req.Kind=7→w.req.Node=k→w.job=job0→w.ok=false→dr c k=false→c.J.jobs.countP (dropAt w)=N→
    stepW w c=bump (drainGo w c)→
    ∃q w' c',q≤N+1∧Ends w c q w' c'∧w'.ok=false∧w'.reply={reply0 with Id:=(k:Int),State:=stateM {dropM m job0 with Drain:=m.Drain.set k true} k}∧w'.part≤w.part+N+1∧Stb n c' {dropM m job0 with Drain:=m.Drain.set k true}:=by
  intro N
  induction N with
  |zero=>
    intro c m w h hd hc hp hs hkk hnode hjob hok hdk hn hst
    have hno: ∀x∈c.J.jobs,dropAt w x=false:=fun x hx=>by
      have:=List.countP_eq_zero.1 hn x hx
      simpa using this
    have hnp: ∀x∈c.J.jobs,plannedJ x=false:=fun x hx=>by
      have:=hno x hx
      rw [dropAt_eq,hjob] at this
      simpa [job0] using this
    have hf:(inJ c.J.jobs [1]).find? (dropAt w)=none:=by
      rw [drop_find,List.find?_eq_none]
      intro x hx;rw [hno x hx];decide
    have hdw:dropW w c=(false,{w with done:=decide (w.job.Id≠0)},c):=by unfold dropW;rw [hf]
    obtain ⟨c',e1,e2,e3,e4,e5,e6⟩:=h.rep.deep.drain h.fe hnp hk hdk
    have hg:drainGo w c=(endW {w with done:=decide (w.job.Id≠0)} (nodeR c' k),c'):=by
      unfold drainGo
      rw [hdw]
      simp only [hnode]
      rw [if_neg (by decide),e1]
    rw [hg] at hst
    have hm:dropM m job0=m:=by
      unfold dropM
      have:m.L.map (dropJ job0)=m.L:=by
        rw [h.rep.jobs]
        conv=>rhs;rw [←List.map_id c.J.jobs]
        exact List.map_congr_left fun x hx=>by unfold dropJ;rw [hnp x hx];rfl
      rw [this]
    rw [hm]
    have hrep:Stb n c' {m with Drain:=m.Drain.set k true}:=by
      refine ⟨⟨e5,by simp only [List.length_set];exact h.rep.len,by simp only [];rw [e2];exact h.rep.jobs,by simp only [];rw [e4];exact h.rep.now,by simp only [];rw [e3];exact h.rep.closed,fun q hq=>?_⟩,by rw [e2,e4];exact h.fe,by rw [e2,e4];exact h.fp⟩
      rw [e6]
      have:=h.rep.dr q hq
      unfold drainB at this ⊢
      simp only [List.getD_eq_getElem?_getD,List.getElem?_set] at this ⊢
      by_cases hqk:k=q
      · subst hqk
        rw [if_pos rfl,if_pos (by rw [h.rep.len];exact hk)]
        simp
      · rw [if_neg hqk,this]
        have: ¬ q=k:=fun e=>hqk e.symm
        simp [this]
    refine ⟨1,_,_,Nat.le_refl _,Ends.first hst rfl,hok,?_,?_,hrep⟩
    · show nodeR c' k=_
      unfold nodeR
      rw [hrep.rep.state]
    · show wr (w.part+1)≤w.part+(0:Nat)+1
      rw [wr_in (by omega)];omega
  |succ N ih=>
    intro c m w h hd hc hp hs hkk hnode hjob hok hdk hn hst
    cases hf:(inJ c.J.jobs [1]).find? (dropAt w) with
    |none=>
      exfalso
      rw [drop_find,List.find?_eq_none] at hf
      have:c.J.jobs.countP (dropAt w)=0:=List.countP_eq_zero.2 fun x hx=>hf x hx
      omega
    |some j=>
      have hf':=hf
      rw [drop_find] at hf'
      have hat:=List.find?_some hf'
      obtain ⟨i,hi⟩:=List.getElem?_of_mem (List.mem_of_find?_eq_some hf')
      have hpj:plannedJ j=true:=by rw [dropAt_eq] at hat;simp only [Bool.and_eq_true] at hat;exact hat.1
      obtain ⟨P1,e0,e1,h1⟩:=h.rep.deep.unplan hi hpj
      have hdw:dropW w c=(true,w,setPlanC (releaseC c (planS j).1) j.Id (-1)):=by unfold dropW;rw [hf]
      have hg:drainGo w c=(w,⟨⟨c.J.jobs.set i {j with Plan:= -1},c.J.live,c.J.made⟩,c.N,P1,c.closed⟩):=by
        unfold drainGo;rw [hdw];simp only [if_true,e1]
      rw [hg] at hst
      have hst1:=hst.trans (bump_eq ⟨hp,by omega⟩)
      have hoff:dropAt w {j with Plan:= -1}=false:=by rw [dropAt_eq];simp [plannedJ]
      have hcnt:=count_set (b:={j with Plan:= -1}) hi hat hoff
      have hoffp:plannedJ {j with Plan:= -1}=false:=by simp [plannedJ]
      have hj3:j.State≠3:=by have:=(planned_iff.1 hpj).1;omega
      obtain ⟨f1,f2⟩:=fresh_set (i:=i) (b:={j with Plan:= -1}) h.fe h.fp (by simpa using hj3) hoffp
      have hrep:Stb n ⟨⟨c.J.jobs.set i {j with Plan:= -1},c.J.live,c.J.made⟩,c.N,P1,c.closed⟩ {m with L:=m.L.set i {j with Plan:= -1}}:=by
        refine ⟨⟨h1,h.rep.len,by simp only [h.rep.jobs],?_,h.rep.closed,h.rep.dr⟩,?_,?_⟩
        · show m.Now=nowL P1.steps
          rw [e0];exact h.rep.now
        · show FreshE _ (nowL P1.steps)
          rw [e0];exact f1
        · show FreshP _ (nowL P1.steps)
          rw [e0];exact f2
      have hst2:stepW {w with part:=w.part+1} ⟨⟨c.J.jobs.set i {j with Plan:= -1},c.J.live,c.J.made⟩,c.N,P1,c.closed⟩=bump (drainGo {w with part:=w.part+1} ⟨⟨c.J.jobs.set i {j with Plan:= -1},c.J.live,c.J.made⟩,c.N,P1,c.closed⟩):=by
        have e:=step_next (w:={w with part:=w.part+1}) (c:=⟨⟨c.J.jobs.set i {j with Plan:= -1},c.J.live,c.J.made⟩,c.N,P1,c.closed⟩) hd hc (by simp only [];omega)
        rw [serve7 (w:={w with part:=w.part+1}) hkk] at e
        rw [e]
        unfold drainW
        rw [if_neg (by simp only [];omega),if_neg (by simp only [];omega)]
        rfl
      obtain ⟨q,w',c',b1,b2,b3,b4,b5,b6⟩:=ih (w:={w with part:=w.part+1}) hrep hd hc (by simp only [];omega) (by simp only [];omega) hkk hnode hjob hok hdk (by show List.countP (dropAt w) _=N;simp only [];omega) hst2
      have hm:dropM {m with L:=m.L.set i {j with Plan:= -1}} job0=dropM m job0:=by
        unfold dropM
        simp only []
        rw [map_set_same (by rw [h.rep.jobs];exact hi)]
        rw [dropJ_off]
        unfold dropJ;rw [if_pos (by rw [hpj];simp [job0])]
      rw [hm] at b4 b6
      exact ⟨q+1,w',c',by omega,Ends.next hst1 hd b2,b3,b4,by simp only [] at b5;omega,b6⟩
theorem node_done {n:Nat} {c:Core} {m:Model} (h:Stb n c m) (hc:c.closed=false) {r:Req} (hk:r.Kind=7):Done n (newW r) c (nodeM m r):=by
  have hd:=h.rep.deep
  have hst:=step_new (r:=r) hc
  have hk2:(newW r).req.Kind=7:=(clean_kind r).trans hk
  have hnode:(newW r).req.Node=r.Node:=cleanNode (by omega)
  rw [serve7 hk2] at hst
  have hstate:=h.rep.state r.Node
  have hlen:=h.rep.len
  unfold drainW at hst
  rw [hnode,←hstate] at hst
  unfold nodeM
  by_cases c1:r.Node<0∨(m.Drain.length:Int)≤r.Node
  · rw [if_pos c1]
    have:stateM m r.Node=0:=by unfold stateM;rw [if_pos c1]
    rw [if_pos ⟨rfl,this⟩] at hst
    exact Done.fail h rfl rfl ⟨rfl,rfl⟩ hst
  · rw [if_neg c1]
    obtain ⟨k,hkk⟩:=Int.eq_ofNat_of_zero_le (show 0≤r.Node by omega)
    have hkn:k<n:=by omega
    have hdr:=h.rep.dr k hkn
    have hst0:stateM m r.Node≠0:=by
      unfold stateM;rw [if_neg c1]
      split
      · omega
      · split
        · omega
        · split<;>omega
    rw [if_neg (fun g=>hst0 g.2)] at hst
    have h34:(stateM m r.Node=3∨stateM m r.Node=4)↔drainB m r.Node.toNat=true:=by
      unfold stateM;rw [if_neg c1]
      cases drainB m r.Node.toNat<;>by_cases hh:0≤holdI m.L r.Node<;>simp [hh]
    by_cases c2:drainB m r.Node.toNat=true
    · rw [if_pos (by rw [c2];simp [hk])]
      rw [if_pos ⟨rfl,h34.2 c2⟩] at hst
      exact Done.fail h rfl rfl ⟨rfl,rfl⟩ hst
    · have hfalse:drainB m r.Node.toNat=false:=by simpa using c2
      rw [if_neg (by rw [hfalse];simp [hk])]
      rw [if_neg (fun g=>c2 (h34.1 g.2))] at hst
      have hkt:r.Node.toNat=k:=by omega
      have hdk:dr c k=false:=by rw [←hdr,←hkt];exact hfalse
      have hcnt:=count_live (newW r) c.J.jobs
      have hl:=h.rep.deep.l64
      obtain ⟨q,w',c',b1,b2,b3,b4,b5,b6⟩:=drains_ends hkn _ h (w:=newW r) rfl rfl (by show (0:Int)≤0;decide) (by show (0:Int)+_≤1000;omega) hk2 (by rw [hnode,hkk]) rfl rfl hdk rfl (by rw [hst];unfold drainGo;simp only [hnode])
      simp only [hk,if_true,decide_true]
      rw [hkk]
      simp only [Int.toNat_natCast]
      have hp0:(newW r).part=0:=rfl
      exact ⟨q,w',c',by omega,b2,b3,b4,by omega,b6⟩
theorem resume_done {n:Nat} {c:Core} {m:Model} (h:Stb n c m) (hc:c.closed=false) {r:Req} (hk:r.Kind=8):Done n (newW r) c (nodeM m r):=by
  have hd:=h.rep.deep
  have hst:=step_new (r:=r) hc
  have hk2:(newW r).req.Kind=8:=(clean_kind r).trans hk
  have hnode:(newW r).req.Node=r.Node:=cleanNode (by omega)
  rw [serve8 hk2] at hst
  have hlen:=h.rep.len
  have h64:=hd.n64
  unfold resumeW at hst
  rw [hnode] at hst
  simp only [] at hst
  unfold nodeM
  by_cases c1:r.Node<0∨(m.Drain.length:Int)≤r.Node
  · rw [if_pos c1]
    have hall:hasB c.N.all r.Node=false:=by
      rcases c1 with c1 |c1
      · exact hasB_neg c1
      · obtain ⟨q,hq⟩:=Int.eq_ofNat_of_zero_le (show 0≤r.Node by omega)
        rw [hq,hd.all,hasB_all hd.n1 h64]
        simp;omega
    have hf:resumeN c.N r.Node=(11,c.N):=by unfold resumeN;rw [if_pos hall]
    rw [hf] at hst
    simp only [] at hst
    rw [if_pos (by decide)] at hst
    exact Done.fail h rfl rfl ⟨rfl,rfl⟩ hst
  · rw [if_neg c1]
    obtain ⟨k,hkk⟩:=Int.eq_ofNat_of_zero_le (show 0≤r.Node by omega)
    have hkn:k<n:=by omega
    have hdr:=h.rep.dr k hkn
    have hkt:r.Node.toNat=k:=by omega
    rw [hkt,hdr]
    have hall:hasB c.N.all r.Node=true:=by rw [hkk,hd.all,hasB_all hd.n1 h64];simpa using hkn
    cases hdk:dr c k with
    |false=>
      rw [if_pos (by simp [hk])]
      have hf:resumeN c.N r.Node=(8,c.N):=by
        unfold resumeN;rw [if_neg (by rw [hall];decide),if_pos (by rw [hkk];exact hdk)]
      rw [hf] at hst
      simp only [] at hst
      rw [if_pos (by decide)] at hst
      exact Done.fail h rfl rfl ⟨rfl,rfl⟩ hst
    |true=>
      rw [if_neg (by simp [hk])]
      obtain ⟨c',e1,e0,e2,e3,e4,e5,e6⟩:=hd.resume h.fe hkn hdk
      rw [hkk] at hst
      rw [e1,e0] at hst
      rw [if_neg (by decide)] at hst
      have h7: ¬ r.Kind=7:=by omega
      simp only [h7,if_false,decide_false]
      have hrep:Stb n c' {m with Drain:=m.Drain.set k false}:=by
        refine ⟨⟨e5,by simp only [List.length_set];exact h.rep.len,by simp only [];rw [e2];exact h.rep.jobs,by simp only [];rw [e4];exact h.rep.now,by simp only [];rw [e3];exact h.rep.closed,fun q hq=>?_⟩,by rw [e2,e4];exact h.fe,by rw [e2,e4];exact h.fp⟩
        rw [e6]
        have:=h.rep.dr q hq
        unfold drainB at this ⊢
        simp only [List.getD_eq_getElem?_getD,List.getElem?_set] at this ⊢
        by_cases hqk:k=q
        · subst hqk
          rw [if_pos rfl,if_pos (by rw [h.rep.len];exact hkn)]
          simp
        · rw [if_neg hqk,this]
          have: ¬ q=k:=fun e=>hqk e.symm
          simp [this]
      have hn:nodeR c' k={reply0 with Id:=(k:Int),State:=stateM {m with Drain:=m.Drain.set k false} k}:=by
        unfold nodeR;rw [hrep.rep.state]
      rw [hn] at hst
      rw [hkk]
      exact Done.once rfl rfl hst hrep
theorem tick_done {n:Nat} {c:Core} {m:Model} (h:Stb n c m) (hc:c.closed=false) {r:Req} (hk:r.Kind=9):Done n (newW r) c (tickM m r.By):=by
  have hd:=h.rep.deep
  have hnw:=hd.nw
  have hst:=step_new (r:=r) hc
  have hk2:(newW r).req.Kind=9:=(clean_kind r).trans hk
  have hby:(newW r).req.By=r.By:=cleanBy hk
  rw [serve9 hk2] at hst
  unfold tickW at hst
  rw [if_pos (show (newW r).part=0 from rfl),hby,wr_in (by omega)] at hst
  unfold tickM
  have hnow:=h.rep.now
  by_cases c1:r.By<1∨1099511627776-m.Now<r.By
  · rw [if_pos c1]
    rw [if_pos (by omega)] at hst
    exact Done.fail h rfl rfl ⟨rfl,rfl⟩ hst
  · rw [if_neg c1]
    rw [if_neg (by omega),wr_in (by omega)] at hst
    have hpot:=pot_live c.J.jobs
    have hpl:=pot_len c.J.jobs
    have hl:=hd.l64
    have hL:m.L.length=c.J.jobs.length:=by rw [h.rep.jobs]
    have hp0:(newW r).part=0:=rfl
    obtain ⟨k,c',b1,b2,b3,b4,b5,b6⟩:=tick_ends (n:=n) (to:=nowC c+r.By) (by omega) (pot c.J.jobs) (w:=newW r) (w1:={newW r with to:=nowC c+r.By}) (f:=2*m.L.length+1) h.rep h.fe h.fp (Nat.le_refl _) (by omega) (by omega) rfl rfl rfl hk2 (by show (0:Int)≤0;decide) (by simp only [];omega) hst
    rw [hnow]
    refine ⟨k,_,c',by omega,b2,rfl,?_,by simp only [];omega,⟨b3,by rw [b6];exact b4,by rw [b6];exact b5⟩⟩
    show clockR c'=_
    rw [b3.clock]
    rfl
theorem used_sub {n:Nat} {c:Core} (h:Deep n c) {k:Nat} (hk:usedL c.J.jobs k=true):k<n:=by
  unfold usedL at hk
  rw [List.any_eq_true] at hk
  obtain ⟨j,hj,hr⟩:=hk
  have hr:=runs_iff.1 hr
  exact ((h.jobs j hj).rn hr.1).2.2 k hr.2
theorem info_eq {n:Nat} {c:Core} {m:Model} (h:Rep n c m):threeR (lenS (idleN c.N)) (lenS c.N.used) (lenS (minusS c.N.drain c.N.used))=threeR (countM m false 1 1) (countM m false 2 3) (countM m false 4 4):=by
  have hd:=h.deep
  have h64:=hd.n64
  have st: ∀k:Nat,k<n→stateM m k=if usedL c.J.jobs k=true then (if dr c k=true then 3 else 2) else if dr c k=true then 4 else 1:=fun k hk=>by
    rw [h.state]
    have hall:hasB c.N.all k=true:=by rw [hd.all,hasB_all hd.n1 h64];simpa using hk
    unfold stateN dr
    rw [hall,hd.us];simp
  have e1:lenS (idleN c.N)=countM m false 1 1:=by
    rw [hd.idle_len]
    unfold countM
    rw [if_neg (by decide),h.len]
    refine cntN_congr fun k hk=>?_
    rw [st k hk]
    cases usedL c.J.jobs k<;>cases dr c k<;>rfl
  have e2:lenS c.N.used=countM m false 2 3:=by
    rw [lenS_cut hd.cw.2.1.2.1 h64 fun k hk=>used_sub hd (by rw [←hd.us];exact hk)]
    unfold countM
    rw [if_neg (by decide),h.len]
    refine cntN_congr fun k hk=>?_
    rw [st k hk,hd.us]
    cases usedL c.J.jobs k<;>cases dr c k<;>rfl
  have e3:lenS (minusS c.N.drain c.N.used)=countM m false 4 4:=by
    rw [lenS_cut (U64_minus hd.cw.2.1.2.2.1) h64 fun k hk=>hd.dn k (by
      rw [hasB_minus hd.cw.2.1.2.2.1 hd.cw.2.1.2.1] at hk
      simp only [Bool.and_eq_true] at hk
      exact hk.1)]
    unfold countM
    rw [if_neg (by decide),h.len]
    refine cntN_congr fun k hk=>?_
    rw [st k hk,hasB_minus hd.cw.2.1.2.2.1 hd.cw.2.1.2.1,hd.us]
    show (dr c k&&_)=_
    cases usedL c.J.jobs k<;>cases dr c k<;>rfl
  rw [e1,e2,e3]
theorem Deep.close {n:Nat} {c:Core} (h:Deep n c) (cl:Bool):Deep n {c with closed:=cl}:=
  ⟨h.n1,h.n64,h.cw,h.all,h.dn,h.us,h.jobs,h.ap,h.mt,h.nn,h.lv,h.l64,h.nw⟩
theorem count_done {n:Nat} {c:Core} {m:Model} (h:Stb n c m) (hc:c.closed=false) {r:Req} (hk:r.Kind<1∨9<r.Kind):Done n (newW r) c (doM m r):=by
  have hd:=h.rep.deep
  have hst:=step_new (r:=r) hc
  have hk2:(newW r).req.Kind=r.Kind:=clean_kind r
  have hmc:m.Closed=false:=h.rep.closed.trans hc
  rw [serveR (by omega)] at hst
  unfold countW at hst
  rw [hk2] at hst
  unfold doM
  rw [hmc,if_neg (by decide),if_neg (by omega),if_neg (by omega),if_neg (by omega),if_neg (by omega),if_neg (by omega)]
  by_cases c1:r.Kind=10
  · rw [if_pos c1] at hst ⊢
    rw [info_eq h.rep] at hst
    exact Done.once rfl rfl hst h
  rw [if_neg c1] at hst ⊢
  by_cases c2:r.Kind=11
  · rw [if_pos c2] at hst ⊢
    have: ∀a b,cntJ c.J.jobs a=countM m true a b:=fun a b=>by unfold countM;rw [if_pos rfl,h.rep.jobs]
    rw [this 1 1,this 2 2,this 3 3] at hst
    exact Done.once rfl rfl hst h
  rw [if_neg c2] at hst ⊢
  by_cases c3:r.Kind=12
  · rw [if_pos c3] at hst ⊢
    rw [h.rep.clock] at hst
    exact Done.once rfl rfl hst h
  rw [if_neg c3] at hst ⊢
  by_cases c4:r.Kind=13
  · rw [if_pos c4] at hst ⊢
    exact Done.once rfl rfl hst ⟨⟨hd.close true,h.rep.len,h.rep.jobs,h.rep.now,rfl,h.rep.dr⟩,h.fe,h.fp⟩
  rw [if_neg c4] at hst ⊢
  exact Done.fail h rfl rfl ⟨rfl,rfl⟩ hst
theorem do_done {n:Nat} {c:Core} {m:Model} (h:Stb n c m) (r:Req):Done n (newW r) c (doM m r):=by
  cases hc:c.closed with
  |true=>
    have hmc:m.Closed=true:=h.rep.closed.trans hc
    have hst:stepW (newW r) c=bump (failW (newW r) 12,c):=by
      unfold stepW bump
      rw [if_neg (show ¬ (newW r).done=true by show ¬ false=true;decide)]
      simp only []
      rw [if_pos ⟨rfl,hc⟩]
    have:doM m r=(failR 12,m):=by unfold doM;rw [if_pos hmc]
    rw [this]
    exact Done.fail h rfl rfl ⟨rfl,rfl⟩ hst
  |false=>
    have hmc:m.Closed=false:=h.rep.closed.trans hc
    by_cases hr:r.Kind<1∨9<r.Kind
    · exact count_done h hc hr
    have hd: ∀x,(if m.Closed=true then (failR 12,m) else x)=x:=fun x=>by rw [hmc];rfl
    unfold doM
    rw [hd]
    by_cases k1:r.Kind=1
    · rw [if_pos k1];exact submit_done h hc k1
    rw [if_neg k1]
    by_cases k2:r.Kind=2∨r.Kind=5
    · rw [if_pos k2];exact finish_done h hc k2
    rw [if_neg k2]
    by_cases k3:r.Kind=3∨r.Kind=4∨r.Kind=6
    · rw [if_pos k3]
      rcases k3 with k3 |k3 |k3
      · exact hold_done h hc k3
      · exact free_done h hc k3
      · exact query_done h hc k3
    rw [if_neg k3]
    by_cases k4:r.Kind=7∨r.Kind=8
    · rw [if_pos k4]
      rcases k4 with k4 |k4
      · exact node_done h hc k4
      · exact resume_done h hc k4
    rw [if_neg k4,if_pos (by omega)]
    exact tick_done h hc (by omega)
end Go.Ax.Law
namespace Go.Ax.Law
open Go.Ax.O
def evsJ (j:Job):List Int:=if j.State=3 then [j.End] else if plannedJ j then [j.Plan,j.Plan+j.Limit] else []
def evs (l:List Job):List Int:=l.flatMap evsJ
theorem evs_len (l:List Job):(evs l).length≤2*l.length:=by
  unfold evs
  induction l with
  |nil=>simp
  |cons j r ih=>
    simp only [List.flatMap_cons,List.length_append,List.length_cons]
    have:(evsJ j).length≤2:=by
      unfold evsJ
      split
      · simp
      · split<;>simp
    omega
theorem take_same {n:Nat} {d:Nat→Bool} {t u:Int} {j:Job} (htu:t≤u) (h: ∀e∈evsJ j,¬(t<e∧e≤u)):takeJ n d u j=takeJ n d t j:=by
  unfold takeJ planAt
  unfold evsJ at h
  by_cases h3:j.State=3
  · rw [if_pos h3] at h ⊢
    rw [if_pos h3]
    have:=h j.End (by simp)
    by_cases he:t<j.End
    · rw [if_pos he,if_pos (by omega)]
    · rw [if_neg he,if_neg (by omega)]
  · rw [if_neg h3] at h ⊢
    rw [if_neg h3]
    by_cases hp:plannedJ j=true
    · rw [if_pos hp] at h
      have h1:=h j.Plan (by simp)
      have h2:=h (j.Plan+j.Limit) (by simp)
      by_cases h0:j.Id≠0
      · by_cases hc:j.Plan≤t∧t<j.Plan+j.Limit
        · rw [if_pos ⟨hp,h0,by omega,by omega⟩,if_pos ⟨hp,h0,hc.1,hc.2⟩]
        · rw [if_neg (fun g=>by have:=g.2.2.1;have:=g.2.2.2;omega),if_neg (fun g=>hc ⟨g.2.2.1,g.2.2.2⟩)]
      · rw [if_neg (fun g=>h0 g.2.1),if_neg (fun g=>h0 g.2.1)]
    · rw [if_neg (fun g=>hp g.1),if_neg (fun g=>hp g.1)]
theorem req_same {n:Nat} {d:Nat→Bool} {t u:Int} (htu:t≤u): ∀{l:List Job},(∀e∈evs l,¬(t<e∧e≤u))→reqF n d l u=reqF n d l t:=by
  intro l h
  unfold reqF
  have:sumT n d u l=sumT n d t l:=by
    induction l with
    |nil=>rfl
    |cons j r ih=>
      simp only [sumT]
      rw [take_same htu fun e he=>h e (by unfold evs;simp only [List.flatMap_cons,List.mem_append];exact .inl he),ih fun e he=>h e (by unfold evs;simp only [List.flatMap_cons,List.mem_append];exact .inr he)]
  rw [this]
theorem sooner_spec {b t last:Int} (h0:0≤last) (P:Int→Prop) (hb:(b= -1∧ ∀e,P e→ ¬ last<e)∨(last<b∧P b∧ ∀e,P e→last<e→b≤e)):
    (sooner b t last= -1∧ ∀e,(P e∨e=t)→ ¬ last<e)∨(last<sooner b t last∧(P (sooner b t last)∨sooner b t last=t)∧ ∀e,(P e∨e=t)→last<e→sooner b t last≤e):=by
  unfold sooner
  rcases hb with ⟨rfl,h1⟩ |⟨h1,h2,h3⟩
  · by_cases hc:last<t
    · rw [if_pos ⟨hc,.inl (by omega)⟩]
      refine .inr ⟨hc,.inr rfl,fun e he hl=>?_⟩
      rcases he with he |rfl
      · exact absurd hl (h1 e he)
      · omega
    · rw [if_neg (fun g=>hc g.1)]
      refine .inl ⟨rfl,fun e he=>?_⟩
      rcases he with he |rfl
      · exact h1 e he
      · exact hc
  · by_cases hc:last<t∧(b<0∨t<b)
    · rw [if_pos hc]
      refine .inr ⟨hc.1,.inr rfl,fun e he hl=>?_⟩
      rcases he with he |rfl
      · have:=h3 e he hl;omega
      · omega
    · rw [if_neg hc]
      refine .inr ⟨h1,.inl h2,fun e he hl=>?_⟩
      rcases he with he |rfl
      · exact h3 e he hl
      · omega
def BestAt (last b:Int) (P:Int→Prop):Prop:=(b= -1∧ ∀e,P e→ ¬ last<e)∨(last<b∧P b∧ ∀e,P e→last<e→b≤e)
theorem BestAt.congr {last b:Int} {P Q:Int→Prop} (h:BestAt last b P) (he: ∀e,P e↔Q e):BestAt last b Q:=by
  rcases h with ⟨h1,h2⟩ |⟨h1,h2,h3⟩
  · exact .inl ⟨h1,fun e hq=>h2 e ((he e).2 hq)⟩
  · exact .inr ⟨h1,(he b).1 h2,fun e hq=>h3 e ((he e).2 hq)⟩
theorem best1_spec {last b:Int} (h0:0≤last) {P:Int→Prop} (hb:BestAt last b P) (j:Job):BestAt last (best1 last b j) (fun e=>P e∨e∈evsJ j):=by
  unfold best1 evsJ
  by_cases h3:j.State=3
  · have hp:plannedJ j=false:=planned_not.2 (.inl (by omega))
    simp only [h3,if_true,hp,if_false,Bool.false_eq_true]
    exact BestAt.congr (sooner_spec h0 P hb) fun e=>by simp
  · simp only [h3,if_false]
    cases hp:plannedJ j with
    |false=>
      simp only [if_false,Bool.false_eq_true]
      exact hb.congr fun e=>by simp
    |true=>
      simp only [if_true]
      have h1:=sooner_spec (t:=j.Plan) h0 P hb
      have h2:=sooner_spec (t:=j.Plan+j.Limit) h0 _ h1
      exact BestAt.congr h2 fun e=>by simp [or_assoc]
theorem bestF_spec {last:Int} (h0:0≤last): ∀(l:List Job) {b:Int} {P:Int→Prop},BestAt last b P→BestAt last (l.foldl (best1 last) b) (fun e=>P e∨e∈evs l)
  | [],b,P,hb=>hb.congr fun e=>by simp [evs]
  |j::r,b,P,hb=>by
    simp only [List.foldl_cons]
    exact (bestF_spec h0 r (best1_spec h0 hb j)).congr fun e=>by simp [evs,or_assoc]
theorem bestT_spec {last:Int} (h0:0≤last) (l:List Job):BestAt last (bestT l last) (fun e=>e∈evs l):=by
  have:=bestF_spec h0 l (b:= -1) (P:=fun _=>False) (.inl ⟨rfl,fun e h=>h.elim⟩)
  exact this.congr fun e=>by simp
theorem timesF_spec {l:List Job}: ∀(f:Nat) {last:Int},0≤last→(evs l).countP (fun e=>decide (last<e))≤f→
    (∀t,t∈timesF l f last↔last<t∧t∈evs l)∧(timesF l f last).Pairwise (fun a b=>a<b)
  |0,last,h0,hf=>by
    refine ⟨fun t=>⟨fun h=>by simp [timesF] at h,fun ⟨h1,h2⟩=>?_⟩,by simp [timesF]⟩
    have:=List.countP_eq_zero.1 (Nat.le_zero.1 hf) t h2
    simp at this;omega
  |f+1,last,h0,hf=>by
    have hb:=bestT_spec h0 l
    simp only [timesF]
    rcases hb with ⟨h1,h2⟩ |⟨h1,h2,h3⟩
    · rw [h1,if_pos (by omega)]
      exact ⟨fun t=>⟨fun h=>by simp at h,fun ⟨a,b⟩=>absurd a (h2 t b)⟩,by simp⟩
    · rw [if_neg (by omega)]
      generalize bestT l last=b at*
      have hcnt:(evs l).countP (fun e=>decide (b<e))<(evs l).countP (fun e=>decide (last<e)):=by
        have hle:(evs l).countP (fun e=>decide (b<e))+(evs l).countP (fun e=>decide (e=b))≤(evs l).countP (fun e=>decide (last<e)):=by
          have gen: ∀(xs:List Int),xs.countP (fun e=>decide (b<e))+xs.countP (fun e=>decide (e=b))≤xs.countP (fun e=>decide (last<e)):=by
            intro xs
            induction xs with
            |nil=>simp
            |cons x r ih=>
              simp only [List.countP_cons,decide_eq_true_eq]
              by_cases c1:b<x
              · rw [if_pos c1,if_neg (by omega),if_pos (by omega)];omega
              · by_cases c2:x=b
                · rw [if_neg c1,if_pos c2,if_pos (by omega)];omega
                · rw [if_neg c1,if_neg c2];omega
          exact gen _
        have:0<(evs l).countP (fun e=>decide (e=b)):=List.countP_pos_iff.2 ⟨b,h2,by simp⟩
        omega
      obtain ⟨i1,i2⟩:=timesF_spec (l:=l) f (last:=b) (by omega) (by omega)
      refine ⟨fun t=>?_,List.pairwise_cons.2 ⟨fun t ht=>((i1 t).1 ht).1,i2⟩⟩
      simp only [List.mem_cons,i1]
      constructor
      · rintro (rfl |⟨a1,a2⟩)
        · exact ⟨h1,h2⟩
        · exact ⟨by omega,a2⟩
      · rintro ⟨a1,a2⟩
        have:=h3 t a2 a1
        by_cases hc:t=b
        · exact .inl hc
        · exact .inr ⟨by omega,a2⟩
theorem times_spec {n:Nat} {c:Core} {m:Model} (h:Rep n c m):(∀t,t∈timesM m↔t=nowC c∨(nowC c<t∧t∈evs c.J.jobs))∧(timesM m).Pairwise (fun a b=>a<b):=by
  have:=timesF_spec (l:=c.J.jobs) (2*c.J.jobs.length) (last:=nowC c) h.deep.nw.1 (Nat.le_trans List.countP_le_length (evs_len _))
  unfold timesM
  rw [h.now,h.jobs]
  refine ⟨fun t=>by simp only [List.mem_cons,this.1],List.pairwise_cons.2 ⟨fun t ht=>((this.1 t).1 ht).1,this.2⟩⟩
theorem atF_append {s:Step}: ∀{l:List Step} {v t:Int},(∀x∈l,x.At<s.At)→atF v (l++[s]) t=if s.At≤t then s.Free else atF v l t
  | [],v,t,_=>rfl
  |a::r,v,t,h=>by
    have ha:=h a (by simp)
    simp only [List.cons_append,atF]
    rw [atF_append fun x hx=>h x (by simp [hx])]
    by_cases hs:s.At≤t
    · rw [if_pos hs,if_pos (by omega),if_pos hs]
    · rw [if_neg hs,if_neg hs]
theorem free_append {l:List Step} {s:Step} (hr:Rising (l++[s])) (hne:l≠[]) (t:Int):freeL (l++[s]) t=if s.At≤t then s.Free else freeL l t:=by
  cases l with
  |nil=>exact absurd rfl hne
  |cons a r=>
    have h1:Rising (a::r):=List.Pairwise.sublist (List.sublist_append_left _ _) hr
    have hs: ∀x∈a::r,x.At<s.At:=fun x hx=>(List.pairwise_append.1 hr).2.2 x hx s (by simp)
    rw [free_atF h1]
    simp only [List.cons_append] at hr ⊢
    rw [free_atF hr,atF_append fun x hx=>hs x (by simp [hx])]
theorem canon_append {l:List Step} {s q:Step} (h:Canon l) (hl:l.getLast?=some q) (hne:q.Free≠s.Free):Canon (l++[s]):=by
  induction l with
  |nil=>trivial
  |cons a r ih=>
    cases r with
    |nil=>
      simp at hl;subst hl
      exact ⟨hne,trivial⟩
    |cons b r=>exact ⟨h.1,ih h.2 (by simpa using hl)⟩
theorem free_last {l:List Step} (hr:Rising l) {q:Step} (hl:l.getLast?=some q) {t:Int} (ht:q.At≤t):freeL l t=q.Free:=by
  rw [List.getLast?_eq_getElem?] at hl
  exact free_get hr hl ht fun s' hs=>by
    have h1:=(List.getElem?_eq_some_iff.1 hs).1
    have h2:=(List.getElem?_eq_some_iff.1 hl).1
    omega
structure Made (F:Int→Int) (now t:Int) (out:List Step):Prop where
  ne:out≠[]
  rise:Rising out
  canon:Canon out
  nw:nowL out=now
  le: ∀s∈out,s.At≤t
  val: ∀u,now≤u→u≤t→freeL out u=F u
theorem Made.step {m:Model} {now t t':Int} {out:List Step} (h:Made (fun u=>freeM m u 0) now t out) (hnt:now≤t) (htt:t<t') (hF: ∀u,t≤u→u<t'→freeM m u 0=freeM m t 0):Made (fun u=>freeM m u 0) now t' (step1 m out t'):=by
  obtain ⟨q,hq⟩: ∃q,out.getLast?=some q:=by
    cases hl:out.getLast? with
    |none=>exact absurd (List.getLast?_eq_none_iff.1 hl) h.ne
    |some q=>exact ⟨q,rfl⟩
  have hqm:=List.mem_of_getLast? hq
  have hqt:=h.le q hqm
  have hqF:q.Free=freeM m t 0:=by rw [←free_last h.rise hq hqt];exact h.val t hnt (Int.le_refl _)
  have mid: ∀u,now≤u→u<t'→freeL out u=freeM m u 0:=fun u h1 h2=>by
    by_cases hc:u≤t
    · exact h.val u h1 hc
    · rw [free_last h.rise hq (by omega),hF u (by omega) h2,hqF]
  unfold step1
  rw [hq]
  simp only []
  by_cases he:q.Free=freeM m t' 0
  · rw [if_pos he]
    refine ⟨h.ne,h.rise,h.canon,h.nw,fun s hs=>by have:=h.le s hs;omega,fun u h1 h2=>?_⟩
    by_cases hc:u<t'
    · exact mid u h1 hc
    · have:u=t':=by omega
      subst this
      rw [free_last h.rise hq (by omega),he]
  · rw [if_neg he]
    have hr:Rising (out++[⟨t',freeM m t' 0⟩]):=List.pairwise_append.2 ⟨h.rise,by simp,fun a ha b hb=>by
      simp at hb;subst hb
      have:=h.le a ha
      simp only [];omega⟩
    refine ⟨by simp,hr,canon_append h.canon hq he,?_,fun s hs=>?_,fun u h1 h2=>?_⟩
    · cases ho:out with
      |nil=>exact absurd ho h.ne
      |cons a r=>have:=h.nw;rw [ho] at this;exact this
    · rcases List.mem_append.1 hs with hs |hs
      · have:=h.le s hs;omega
      · simp at hs;subst hs;exact Int.le_refl _
    · rw [free_append hr h.ne]
      simp only []
      by_cases hc:t'≤u
      · have:u=t':=by omega
        subst this
        rw [if_pos (Int.le_refl _)]
      · rw [if_neg hc];exact mid u h1 (by omega)
theorem made_all {m:Model} {now:Int} {E:Int→Prop} (hE: ∀t u,now≤t→t≤u→(∀e,E e→ ¬(t<e∧e≤u))→freeM m u 0=freeM m t 0): ∀(T:List Int) {t:Int} {out:List Step},Made (fun u=>freeM m u 0) now t out→now≤t→(∀e,E e→t<e→e∈T)→(t::T).Pairwise (fun a b=>a<b)→
    Rising (T.foldl (step1 m) out)∧Canon (T.foldl (step1 m) out)∧T.foldl (step1 m) out≠[]∧nowL (T.foldl (step1 m) out)=now∧ ∀u,now≤u→freeL (T.foldl (step1 m) out) u=freeM m u 0
  | [],t,out,h,hnt,hin,_=>by
    refine ⟨h.rise,h.canon,h.ne,h.nw,fun u hu=>?_⟩
    by_cases hc:u≤t
    · exact h.val u hu hc
    · obtain ⟨q,hq⟩: ∃q,out.getLast?=some q:=by
        cases hl:out.getLast? with
        |none=>exact absurd (List.getLast?_eq_none_iff.1 hl) h.ne
        |some q=>exact ⟨q,rfl⟩
      have hqt:=h.le q (List.mem_of_getLast? hq)
      show freeL out u=_
      rw [free_last h.rise hq (by omega),←free_last h.rise hq hqt,h.val t hnt (Int.le_refl _)]
      exact (hE t u hnt (by omega) fun e he g=>by have:=hin e he g.1;cases this).symm
  |t'::T,t,out,h,hnt,hin,hp=>by
    have hp1:=List.pairwise_cons.1 hp
    have htt:=hp1.1 t' (by simp)
    simp only [List.foldl_cons]
    refine made_all hE T (h.step hnt htt fun u h1 h2=>hE t u hnt h1 fun e he g=>?_) (by omega) (fun e he hl=>?_) hp1.2
    · have:=hin e he g.1
      rcases List.mem_cons.1 this with rfl |hm
      · omega
      · have:=(List.pairwise_cons.1 hp1.2).1 e hm;omega
    · rcases List.mem_cons.1 (hin e he (by omega)) with rfl |hm
      · omega
      · exact hm
theorem Rep.steps {n:Nat} {c:Core} {m:Model} (h:Rep n c m):stepsM m=c.P.steps:=by
  obtain ⟨t1,t2⟩:=times_spec h
  have hm:=h.deep.mt
  unfold stepsM timesM at*
  rw [h.now] at*
  have h0:Made (fun u=>freeM m u 0) (nowC c) (nowC c) (step1 m [] (nowC c)):=by
    unfold step1
    refine ⟨by simp,by simp [Rising],trivial,rfl,fun s hs=>by simp at hs;subst hs;exact Int.le_refl _,fun u h1 h2=>?_⟩
    have:u=nowC c:=by omega
    subst this
    exact free_get (i:=0) (s:=⟨nowC c,freeM m (nowC c) 0⟩) (by simp [Rising]) rfl (Int.le_refl _) (fun s' hs=>by simp at hs)
  have:=made_all (m:=m) (E:=fun e=>e∈evs c.J.jobs) (fun t u h1 h2 h3=>by rw [h.free,h.free];exact req_same h2 h3) (timesF m.L (2*m.L.length) (nowC c)) h0 (Int.le_refl _) (fun e he hl=>by
    rcases List.mem_cons.1 ((t1 e).2 (.inr ⟨hl,he⟩)) with rfl |hx
    · omega
    · exact hx) t2
  simp only [List.foldl_cons]
  obtain ⟨a1,a2,a3,a4,a5⟩:=this
  exact canon_eq a1 hm.pw.2.1 a2 hm.cn a3 hm.pw.1 (a4.trans hm.nw.symm) fun t ht=>by
    rw [a4] at ht
    rw [a5 t ht,h.free,hm.fr t ht]
theorem evs_set_sub {l:List Job} {i:Nat} {j:Job} (hj:l[i]? =some j) {b:Job} (hb:evsJ b=[]) {e:Int} (he:e∈evs (l.set i b)):e∈evs l:=by
  unfold evs at he ⊢
  rw [List.mem_flatMap] at he ⊢
  obtain ⟨x,hx,hex⟩:=he
  rcases List.mem_or_eq_of_mem_set hx with hx |rfl
  · exact ⟨x,hx,hex⟩
  · rw [hb] at hex;cases hex
theorem fits_same {n:Nat} {c:Core} {m:Model} (h:Stb n c m) (x:Choice):fitsC c x=fitsM m x:=by
  have hd:=h.rep.deep
  have hnw:=hd.nw
  have h64:=hd.n64
  unfold fitsC fitsM
  rw [h.rep.closed,h.rep.now]
  simp only []
  cases hcl:c.closed with
  |true=>simp
  |false=>
    simp only [Bool.false_eq_true,if_false,false_or]
    rcases getM_rep h.rep x.Id with ⟨g1,g2,g3,g4⟩ |⟨i,j,hid,hj,g2,g3⟩
    · rw [g1,g2]
      rw [if_pos (.inl (by decide)),if_pos (.inl rfl)]
    · rw [g2,g3]
      simp only []
      have hok:=hd.jobs j (job_mem hj)
      have hwd:=hok.wd
      have hlm:=hok.lm
      by_cases hc:j.State≠1∨x.At<nowC c∨1099511627776<x.At∨(0≤j.Plan∧j.Plan≤x.At)
      · rw [if_pos (.inr hc),if_pos (.inr hc)]
      · rw [if_neg (fun g=>Or.elim g (fun g=>g rfl) hc),if_neg (fun g=>Or.elim g (fun g=>by cases g) hc)]
        have hb:JobOK n (nowC c) {j with Plan:= -1}:=⟨hok.st,hok.wd,hok.lm,.inl rfl,fun h3=>by simp only [] at h3;omega,hok.en,hok.un⟩
        have hnp:plannedJ {j with Plan:= -1}=false:=by simp [plannedJ]
        obtain ⟨P',n3,n4,n6⟩:=hd.turn (b:={j with Plan:= -1}) hj (by omega) (by simp only [];omega) rfl rfl hb rfl hnp
        have hP:(if (planS j).2=true then (addP c.P (planS j).1.From (planS j).1.To (planS j).1.Width).2 else c.P)=P':=by
          rw [planS_snd,←n4]
          by_cases hp:plannedJ j=true
          · rw [if_pos hp,if_pos hp,planS_fst hp,hok.wrp hp]
          · rw [if_neg hp,if_neg hp]
        rw [hP,wr_in (by omega)]
        have hmt:=n6.mt
        have hnn:nowC (⟨⟨c.J.jobs.set i {j with Plan:= -1},c.J.live,c.J.made⟩,c.N,P',c.closed⟩:Core)=nowC c:=n3
        rw [hnn] at hmt
        have hF: ∀t,nowC c≤t→freeL P'.steps t=freeM m t j.Id:=fun t ht=>by
          have:=hmt.fr t ht
          simp only [] at this
          rw [this,h.rep.free_but hj]
          show reqF n (dr c) (c.J.jobs.set i {j with Plan:= -1}) t=_
          rw [reqF_set hj,take_rest hnp (by simp only [];omega)]
          have:takeJ n (dr c) t j=planAt t 0 j:=by unfold takeJ;rw [if_neg (by omega)]
          rw [this];omega
        have hchg: ∀t u,nowC c≤t→t≤u→(∀e∈evs c.J.jobs,¬(t<e∧e≤u))→freeM m u j.Id=freeM m t j.Id:=fun t u h1 h2 h3=>by
          rw [←hF u (by omega),←hF t h1,hmt.fr u (by omega),hmt.fr t h1]
          exact req_same h2 fun e he=>h3 e (evs_set_sub hj (by unfold evsJ;rw [if_neg (by simp only [];omega),if_neg (by rw [hnp];decide)]) he)
        obtain ⟨t1,t2⟩:=times_spec h.rep
        have hle:=least_iff (w:=j.Width) (t:=x.At+j.Limit) hmt.pw.2.1 hmt.pw.1 (f:=x.At) (by rw [hmt.nw];omega) (by omega)
        have key : (j.Width≤leastL P'.steps x.At (x.At+j.Limit))↔roomM m x.At j.Limit j.Width j.Id=true:=by
          rw [hle]
          unfold roomM
          constructor
          · intro hall
            have h0:=hall x.At (Int.le_refl _) (by omega)
            rw [hF _ (by omega)] at h0
            rw [if_neg (by omega),List.all_eq_true]
            intro t ht
            unfold roomOK
            by_cases hc1:x.At<t∧t<x.At+j.Limit
            · have:=hall t (by omega) hc1.2
              rw [hF _ (by omega)] at this
              have: ¬ freeM m t j.Id<j.Width:=by omega
              simp [this]
            · by_cases hc2:x.At<t
              · have: ¬ t<x.At+j.Limit:=fun g=>hc1 ⟨hc2,g⟩
                simp [this]
              · simp [hc2]
          · intro hr u hu1 hu2
            split at hr
            · cases hr
            · rename_i h0
              rw [List.all_eq_true] at hr
              rw [hF _ (by omega)]
              have hex: ∃e,x.At≤e∧e≤u∧(e=x.At∨e∈evs c.J.jobs)∧ ∀f∈evs c.J.jobs,¬(e<f∧f≤u):=by
                have gen: ∀(L:List Int),∃e,x.At≤e∧e≤u∧(e=x.At∨e∈L)∧ ∀f∈L,¬(e<f∧f≤u):=by
                  intro L
                  induction L with
                  |nil=>exact ⟨x.At,Int.le_refl _,hu1,.inl rfl,fun f hf=>by cases hf⟩
                  |cons a L ih=>
                    obtain ⟨e,e1,e2,e3,e4⟩:=ih
                    by_cases hc:e<a∧a≤u
                    · refine ⟨a,by omega,hc.2,.inr (by simp),fun f hf=>?_⟩
                      rcases List.mem_cons.1 hf with rfl |hf
                      · omega
                      · have:=e4 f hf;omega
                    · refine ⟨e,e1,e2,?_,fun f hf=>?_⟩
                      · rcases e3 with e3 |e3
                        · exact .inl e3
                        · exact .inr (by simp [e3])
                      · rcases List.mem_cons.1 hf with rfl |hf
                        · exact hc
                        · exact e4 f hf
                exact gen _
              obtain ⟨e,e1,e2,e3,e4⟩:=hex
              rw [hchg e u (by omega) e2 e4]
              by_cases hc1:e=x.At
              · rw [hc1];omega
              · have hm:=hr e ((t1 e).2 (.inr ⟨by omega,Or.elim e3 (fun e3=>absurd e3 hc1) (fun e3=>e3)⟩))
                unfold roomOK at hm
                have a1:x.At<e:=by omega
                have a2:e<x.At+j.Limit:=by omega
                simp [a1,a2] at hm
                omega
        cases hr:roomM m x.At j.Limit j.Width j.Id with
        |true=>simp [key.2 hr]
        |false=>
          have: ¬ j.Width≤leastL P'.steps x.At (x.At+j.Limit):=fun g=>by rw [key.1 g] at hr;cases hr
          simp [this]
end Go.Ax.Law
namespace Go.Ax.Law
open Go.Ax.O
theorem step_settle {w:Work} {c:Core} (hd:w.done=false) (hc:w.commit=true) (h0: ¬ (w.part=0∧c.closed=true)):stepW w c=bump (settleW w c):=by
  unfold stepW bump
  simp only [hd,hc,h0,if_false,if_true,Bool.false_eq_true]
theorem begin_plain {c:Core} {i:Nat} {a:Job} (ha:c.J.jobs[i]? =some a) (hid:a.Id=(i:Int)+1) (h1:a.State=1) (hw:1≤a.Width) (hl:a.Width≤lenS (idleN c.N)) (hn:0≤nowC c∧nowC c≤1099511627776) (hlm:1≤a.Limit∧a.Limit≤1048576):
    beginC c a=⟨⟨c.J.jobs.set i (beganJ c a),c.J.live,c.J.made⟩,{c.N with used:=unionS c.N.used (nodesFor c a.Width)},c.P,c.closed⟩:=by
  have hf:firstS (idleN c.N) a.Width=(nodesFor c a.Width,true):=by
    unfold firstS nodesFor;rw [if_neg (by omega)]
  have ht:takeN c.N a.Width=((nodesFor c a.Width,0),{c.N with used:=unionS c.N.used (nodesFor c a.Width)}):=by
    unfold takeN;rw [if_neg (by omega),hf];simp
  unfold beginC
  rw [ht]
  simp only [if_true]
  have hb:(beginJ c.J a.Id (nowC c) (nodesFor c a.Width)).2=⟨c.J.jobs.set i (beganJ c a),c.J.live,c.J.made⟩:=by
    unfold beginJ
    rw [if_neg (by omega)]
    simp only []
    rw [atJ_at ha hid,if_pos (by rw [h1];decide),wr_in (by omega)]
    rfl
  rw [hb]
def ProfX (c:Core) (x:Choice) (c':Core):Prop:= ∃j,getJ c.J.jobs x.Id=(j,0)∧c'.P=(addP (if plannedJ j=true then (addP c.P j.Plan (j.Plan+j.Limit) j.Width).2 else c.P) x.At (x.At+j.Limit) (-j.Width)).2
def DoneX (n:Nat) (w:Work) (c:Core) (x:Choice) (r:Bool × Model):Prop:= ∃k w' c',k≤4∧Ends w c k w' c'∧w'.ok=r.1∧w'.part≤1000∧Stb n c' r.2∧(r.1=true→ProfX c x c')
theorem begin_prof (c:Core) (j:Job):(beginC c j).P=c.P:=by unfold beginC;split<;>rfl
theorem commit_done {n:Nat} {c:Core} {m:Model} (h:Stb n c m) (x:Choice):DoneX n (newX x) c x (commitM m x)∧fitsC c x=(commitM m x).1:=by
  have hd:=h.rep.deep
  have hnw:=hd.nw
  have hfs:=fits_same h x
  have hcm1:(commitM m x).1=fitsM m x:=by
    unfold commitM
    cases fitsM m x with
    |false=>rfl
    |true=>simp only [Bool.true_eq_false,if_false];split<;>rfl
  refine ⟨?_,by rw [hcm1];exact hfs⟩
  cases hcl:c.closed with
  |true=>
    have hst:stepW (newX x) c=bump (failW (newX x) 12,c):=by
      unfold stepW bump
      rw [if_neg (show ¬ (newX x).done=true by show ¬ false=true;decide)]
      simp only []
      rw [if_pos ⟨rfl,hcl⟩]
    have hf:fitsM m x=false:=by
      unfold fitsM;simp only [];rw [if_pos (.inl (h.rep.closed.trans hcl))]
    have hcm:commitM m x=(false,m):=by unfold commitM;rw [if_pos hf]
    rw [hcm]
    exact ⟨1,_,_,by omega,Ends.first hst rfl,rfl,by show wr ((0:Int)+1)≤1000;decide,h,fun hh=>by cases hh⟩
  |false=>
    have hst:=step_settle (w:=newX x) (c:=c) rfl rfl (by rw [hcl];simp)
    unfold settleW at hst
    rw [if_pos (show (newX x).part=0 from rfl)] at hst
    have hch:(newX x).choice=x:=rfl
    rw [hch] at hst
    simp only [] at hst
    cases hf:fitsC c x with
    |false=>
      rw [hf] at hst hfs
      rw [if_pos rfl] at hst
      have hcm:commitM m x=(false,m):=by unfold commitM;rw [if_pos hfs.symm]
      rw [hcm]
      exact ⟨1,_,_,by omega,Ends.first hst rfl,rfl,by show wr ((0:Int)+1)≤1000;decide,h,fun hh=>by cases hh⟩
    |true=>
      rw [hf] at hst hfs
      rw [if_neg (by decide)] at hst
      obtain ⟨i,j,hid,hj,g2,g3,h1,hat0,hat1,hpl,hroom⟩: ∃(i:Nat) (j:Job),x.Id=(i:Int)+1∧c.J.jobs[i]? =some j∧getJ c.J.jobs x.Id=(j,0)∧getM m x.Id=(j,true)∧j.State=1∧nowC c≤x.At∧x.At≤1099511627776∧ ¬ (0≤j.Plan∧j.Plan≤x.At)∧
          j.Width≤leastL (if (planS j).2 then (addP c.P (planS j).1.From (planS j).1.To (planS j).1.Width).2 else c.P).steps x.At (wr (x.At+j.Limit)):=by
        rcases getM_rep h.rep x.Id with ⟨g1,g2,g3,g4⟩ |⟨i,j,hid,hj,g2,g3⟩
        · exfalso
          unfold fitsC at hf
          rw [hcl,g2] at hf
          simp at hf
        · unfold fitsC at hf
          rw [hcl,g2] at hf
          simp only [Bool.false_eq_true,if_false] at hf
          split at hf
          · cases hf
          · rename_i hc
            exact ⟨i,j,hid,hj,g2,g3,by omega,by omega,by omega,by omega,by simpa using hf⟩
      have hok:=hd.jobs j (job_mem hj)
      have hwd:=hok.wd
      have hlm:=hok.lm
      have h64:=hd.n64
      have hjid:=id_at hd.cw hj
      have hb:JobOK n (nowC c) {j with Plan:= -1}:=⟨hok.st,hok.wd,hok.lm,.inl rfl,fun h3=>by simp only [] at h3;omega,hok.en,hok.un⟩
      have hnp:plannedJ {j with Plan:= -1}=false:=by simp [plannedJ]
      obtain ⟨P',n3,n4,n6⟩:=hd.turn (b:={j with Plan:= -1}) hj (by omega) (by simp only [];omega) rfl rfl hb rfl hnp
      have hP:(if (planS j).2=true then (addP c.P (planS j).1.From (planS j).1.To (planS j).1.Width).2 else c.P)=P':=by
        rw [planS_snd,←n4]
        by_cases hp:plannedJ j=true
        · rw [if_pos hp,if_pos hp,planS_fst hp,hok.wrp hp]
        · rw [if_neg hp,if_neg hp]
      rw [hP,wr_in (by omega)] at hroom
      have hnow0:nowC (⟨⟨c.J.jobs.set i {j with Plan:= -1},c.J.live,c.J.made⟩,c.N,P',c.closed⟩:Core)=nowC c:=n3
      have hmt:=n6.mt
      rw [hnow0] at hmt
      have hlen0:=n6.len
      simp only [] at hlen0
      have hfree:=(least_iff (w:=j.Width) (t:=x.At+j.Limit) hmt.pw.2.1 hmt.pw.1 (f:=x.At) (by rw [hmt.nw];omega) (by omega)).1 hroom
      have hbb:JobOK n (nowC c) {j with Plan:=x.At}:=⟨hok.st,hok.wd,hok.lm,.inr ⟨h1,hat0,hat1⟩,fun h3=>by simp only [] at h3;omega,hok.en,hok.un⟩
      have hpp:plannedJ {j with Plan:=x.At}=true:=planned_iff.2 ⟨h1,by simp only [];omega⟩
      have hset:(c.J.jobs.set i {j with Plan:= -1}).set i {j with Plan:=x.At}=c.J.jobs.set i {j with Plan:=x.At}:=by simp
      have hr: ∀t,reqF n (dr c) (c.J.jobs.set i {j with Plan:=x.At}) t=reqF n (dr c) (c.J.jobs.set i {j with Plan:= -1}) t-(if x.At≤t∧t<x.At+j.Limit then j.Width else 0):=fun t=>by
        rw [←hset,reqF_set (set_at hj),take_rest hnp (by simp only [];omega),take_planned hpp (by simp only [];omega)]
        simp only [];omega
      have hge: ∀t,nowC c≤t→0≤reqF n (dr c) (c.J.jobs.set i {j with Plan:=x.At}) t:=fun t ht=>by
        rw [hr]
        have h0:=n6.nn t (by rw [hnow0];exact ht)
        simp only [] at h0
        have h0:0≤reqF n (dr c) (c.J.jobs.set i {j with Plan:= -1}) t:=h0
        split
        · rename_i hc
          have:=hfree t hc.1 hc.2
          rw [hmt.fr t ht] at this
          have:j.Width≤reqF n (dr c) (c.J.jobs.set i {j with Plan:= -1}) t:=this
          omega
        · omega
      have hbd: ∀t,nowC c≤t→0≤reqF n (dr c) (c.J.jobs.set i {j with Plan:= -1}) t∧reqF n (dr c) (c.J.jobs.set i {j with Plan:= -1}) t≤64:=fun t ht=>by
        have:=n6.bound t (by rw [hnow0];exact ht)
        exact this
      have hle: ∀t,reqF n (dr c) (c.J.jobs.set i {j with Plan:=x.At}) t≤n:=fun t=>reqF_le (jobs_set hd.jobs hbb)
      have hneg:wr (0-j.Width)= -j.Width:=by rw [wr_in (by omega)];omega
      obtain ⟨hm2,hlen2⟩:=hmt.add (p:=P') (g:=reqF n (dr c) (c.J.jobs.set i {j with Plan:=x.At})) (from_:=x.At) (to:=x.At+j.Limit) (n:= -j.Width) (by omega) hat0 (by omega) (by omega) (by omega) hbd (fun t ht=>⟨hge t ht,by have:=hle t;omega⟩) (fun t ht=>by
        rw [hr]
        show _=reqF n (dr c) (c.J.jobs.set i {j with Plan:= -1}) t+_
        by_cases hc:x.At≤t∧t<x.At+j.Limit
        · rw [if_pos hc,if_pos ⟨hc.1,.inl hc.2⟩];omega
        · rw [if_neg hc,if_neg (by omega)];omega)
      have hlvb:liveN (c.J.jobs.set i {j with Plan:=x.At})=liveN c.J.jobs:=by
        rw [liveN_set hj]
        have:liveJ {j with Plan:=x.At}=liveJ j:=rfl
        rw [this];omega
      have hDv:=hd.set (b:={j with Plan:=x.At}) (cl:=c.closed) (live':=c.J.live) hj rfl hbb rfl rfl hd.cw.2.1.2.1 (fun k=>by
        rw [hd.us];unfold usedL;rw [any_set_same hj];simp [runsOn]) (hd.ap.less hj fun h3=>⟨h3,rfl⟩) hm2 hge (by rw [hlvb];exact hd.lv) (by rw [hlvb];exact hd.l64)
      generalize hP2:(addP P' x.At (x.At+j.Limit) (-j.Width)).2=P2 at*
      have hnow2:nowL P2.steps=nowC c:=hm2.nw
      have hrepv:Rep n ⟨⟨c.J.jobs.set i {j with Plan:=x.At},c.J.live,c.J.made⟩,c.N,P2,c.closed⟩ {m with L:=m.L.set i {j with Plan:=x.At}}:=
        ⟨hDv,h.rep.len,by simp only [h.rep.jobs],by show m.Now=nowL P2.steps;rw [hnow2];exact h.rep.now,h.rep.closed,h.rep.dr⟩
      have hEv:FreshE (c.J.jobs.set i {j with Plan:=x.At}) (nowC c):=fun y hy h3=>by
        rcases List.mem_or_eq_of_mem_set hy with hy |rfl
        · exact h.fe y hy h3
        · simp only [] at h3;omega
      rw [g2] at hst
      have hst1:=hst.trans (bump_eq (w:={newX x with ok:=true,job:=j}) ⟨by show (0:Int)≤0;decide,by show (0:Int)≤1000000;decide⟩)
      simp only [] at hst1
      generalize hw1:({newX x with ok:=true,job:=j,part:=(newX x).part+1}:Work)=w1 at hst1
      have p1:w1.part=1:=by rw [←hw1];rfl
      have j1:w1.job=j:=by rw [←hw1]
      have x1:w1.choice=x:=by rw [←hw1];rfl
      have d1:w1.done=false:=by rw [←hw1];rfl
      have m1:w1.commit=true:=by rw [←hw1];rfl
      have o1:w1.ok=true:=by rw [←hw1]
      have e2:=step_settle (w:=w1) (c:=c) d1 m1 (by omega)
      unfold settleW at e2
      rw [if_neg (by omega),if_pos p1] at e2
      have hun:unplanC w1 c={c with P:=P'}:=by
        unfold unplanC
        rw [j1,planS_snd,←n4]
        by_cases hp:plannedJ j=true
        · rw [if_pos hp,if_pos hp,planS_fst hp,hok.wrp hp];rfl
        · rw [if_neg hp,if_neg hp]
      rw [hun] at e2
      have e2:=e2.trans (bump_eq ⟨by omega,by omega⟩)
      have e3:=step_settle (w:={w1 with part:=w1.part+1}) (c:={c with P:=P'}) d1 m1 (by simp only [];omega)
      unfold settleW at e3
      rw [if_neg (by simp only [];omega),if_neg (by simp only [];omega),if_pos (by simp only [];omega)] at e3
      simp only [j1,x1] at e3
      have hadd:addC {c with P:=P'} x.At (wr (x.At+j.Limit)) (wr (0-j.Width))={c with P:=P2}:=by
        unfold addC
        rw [wr_in (by omega),hneg,←hP2]
      rw [hadd] at e3
      have e3:=e3.trans (bump_eq (w:={w1 with part:=w1.part+1,job:=j,choice:=x}) ⟨by simp only [];omega,by simp only [];omega⟩)
      have hsame:({w1 with part:=w1.part+1}:Work)={w1 with part:=w1.part+1,job:=j,choice:=x}:=by rw [←j1,←x1]
      rw [hsame] at e2
      have e4:=step_settle (w:={w1 with part:=w1.part+1+1,job:=j,choice:=x}) (c:={c with P:=P2}) d1 m1 (by simp only [];omega)
      unfold settleW at e4
      rw [if_neg (by simp only [];omega),if_neg (by simp only [];omega),if_neg (by simp only [];omega)] at e4
      simp only [] at e4
      have hnow3:nowC {c with P:=P2}=nowC c:=hnow2
      rw [hnow3] at e4
      have e4:=e4.trans (bump_eq (w:={w1 with part:=w1.part+1+1,job:=j,choice:=x,done:=true}) ⟨by simp only [];omega,by simp only [];omega⟩)
      have hend:=Ends.next hst1 d1 (Ends.next e2 d1 (Ends.next e3 d1 (Ends.first e4 rfl)))
      have hfm:fitsM m x=true:=hfs.symm
      unfold commitM
      rw [hfm,if_neg (by decide)]
      have hidn:(x.Id-1).toNat=i:=by omega
      by_cases hnow:x.At=nowC c
      · rw [if_pos (by rw [h.rep.now];exact hnow)]
        rw [if_pos hnow] at hend
        have hnv:nowC (⟨⟨c.J.jobs.set i {j with Plan:=x.At},c.J.live,c.J.made⟩,c.N,P2,c.closed⟩:Core)=nowC c:=hnow2
        have hbg:=hrepv.begin (i:=i) (a:={j with Plan:=x.At}) (by rw [hnv];exact hEv) (set_at hj) h1 (by rw [hnv];exact hnow)
        obtain ⟨b1,b2,b3,b4⟩:=hbg
        have hidl:=(hDv.begin (by rw [hnv];exact hEv) (set_at hj) h1 (by rw [hnv];exact hnow)).1
        have q1:=begin_plain (c:={c with P:=P2}) hj hjid h1 hwd.1 hidl (by rw [hnow3];exact hnw) hlm
        have q2:=begin_plain (c:=⟨⟨c.J.jobs.set i {j with Plan:=x.At},c.J.live,c.J.made⟩,c.N,P2,c.closed⟩) (a:={j with Plan:=x.At}) (set_at hj) hjid h1 hwd.1 hidl (by rw [hnv];exact hnw) hlm
        have hsm:beginC {c with P:=P2} j=beginC ⟨⟨c.J.jobs.set i {j with Plan:=x.At},c.J.live,c.J.made⟩,c.N,P2,c.closed⟩ {j with Plan:=x.At}:=by
          rw [q1,q2]
          simp only [List.set_set]
          rfl
        rw [hsm] at hend
        have hmm:beginM {m with L:=m.L.set i {j with Plan:=x.At}} i=beginM m (x.Id-1):=by
          unfold beginM
          rw [Int.toNat_natCast,hidn]
          simp only []
          rw [set_at (by rw [h.rep.jobs];exact hj),h.rep.jobs,hj]
          simp only [List.set_set]
          have him:idleM {m with L:=c.J.jobs.set i {j with Plan:=x.At}}=idleM m:=by
            funext k
            unfold idleM
            have a:=hrepv.state k
            have b:=h.rep.state k
            rw [h.rep.jobs] at a
            rw [a,b]
          unfold beginJm
          simp only [him]
        rw [hmm] at b1
        refine ⟨4,_,_,Nat.le_refl _,hend,o1,by simp only [];omega,⟨b1,?_,?_⟩,fun _=>⟨j,g2,by rw [begin_prof,n4,hP2]⟩⟩
        · rw [b3,hnv,b2]
          simp only [List.set_set]
          intro y hy h3
          rcases List.mem_or_eq_of_mem_set hy with hy |rfl
          · exact h.fe y hy h3
          · simp only [beganJ];rw [hnv];omega
        · rw [b3,hnv,b2]
          simp only [List.set_set]
          intro y hy hp
          rcases List.mem_or_eq_of_mem_set hy with hy |rfl
          · exact h.fp y hy hp
          · simp [plannedJ,beganJ] at hp
      · rw [if_neg (by rw [h.rep.now];exact hnow)]
        rw [if_neg hnow] at hend
        have hsp:setPlanC {c with P:=P2} j.Id x.At=⟨⟨c.J.jobs.set i {j with Plan:=x.At},c.J.live,c.J.made⟩,c.N,P2,c.closed⟩:=by
          unfold setPlanC planJ
          rw [if_neg (by omega)]
          simp only []
          rw [atJ_at hj hjid,if_pos (by rw [h1];decide)]
        rw [hsp] at hend
        rw [g3,hidn]
        refine ⟨4,_,_,Nat.le_refl _,hend,o1,by simp only [];omega,⟨hrepv,?_,?_⟩,fun _=>⟨j,g2,by rw [n4,hP2]⟩⟩
        · show FreshE _ (nowL P2.steps)
          rw [hnow2];exact hEv
        · show FreshP _ (nowL P2.steps)
          rw [hnow2]
          intro y hy hp
          rcases List.mem_or_eq_of_mem_set hy with hy |rfl
          · exact h.fp y hy hp
          · simp only [];omega
theorem new_stb {n:Nat} (h1:1≤n) (h2:n≤64):Stb n (newCore n) (newM n):=by
  have hcw:=newCore_ok (n:=(n:Int)) (by omega) (by omega)
  have hnow:nowC (newCore n)=0:=rfl
  have hdr:dr (newCore n)=fun _=>false:=by funext k;exact hasB_zero k
  have hreq: ∀t,reqF n (dr (newCore n)) [] t=n:=fun t=>by
    rw [hdr]
    unfold reqF sumT
    have:cntN (fun _=>!false) n=n:=by
      clear hcw hdr hnow h1 h2
      induction n with
      |zero=>rfl
      |succ k ih=>simp only [cntN] at ih ⊢;rw [ih];simp
    rw [this];omega
  have hd:Deep n (newCore n):=by
    refine ⟨h1,h2,hcw,rfl,fun k hk=>?_,fun k=>?_,fun j hj=>(by cases hj),fun a b x y _ hx=>by simp [newCore,newJs] at hx,⟨hcw.2.2,rfl,trivial,fun t ht=>?_⟩,fun t ht=>?_,rfl,by show liveN []≤64;decide,by rw [hnow];decide⟩
    · rw [show (newCore n).N.drain=0 from rfl,hasB_zero] at hk;cases hk
    · rw [show (newCore n).N.used=0 from rfl,hasB_zero];rfl
    · rw [show (newCore n).J.jobs=[] from rfl,hreq]
      exact free_get (i:=0) (s:=⟨0,(n:Int)⟩) hcw.2.2.2.1 rfl ht (fun s' hs=>by simp [newCore,newP] at hs)
    · rw [show (newCore n).J.jobs=[] from rfl,hreq];omega
  refine ⟨⟨hd,by simp [newM],rfl,rfl,rfl,fun k hk=>?_⟩,fun j hj=>(by cases hj),fun j hj=>by cases hj⟩
  rw [hdr]
  unfold drainB newM
  simp [List.getD_eq_getElem?_getD,List.getElem?_replicate,hk]
end Go.Ax.Law
namespace Go.Ax.V
open Go.Ax.Sp Go.Ax.Law List Int IntKind
set_option maxRecDepth 100000
def vSameJ (a:List Job) (b:List Job) (k:Unit→Bool × Unit→Prop):Prop:=
br (!LN a==LN b) (k () (false,())) (LP (List Job × List Job × Int) (fun x=>(a=x.1∧b=x.2.1∧0=x.2.2∧True)∧True) fun I m x=>br (decide (x.2.2<LN x.1)) (AI x.1 x.2.2 fun e=>AI x.2.1 x.2.2 fun e_1=>br (!(e.Id==e_1.Id&&(e.User==e_1.User&&(e.Width==e_1.Width&&(e.Limit==e_1.Limit&&(e.Prio==e_1.Prio&&(e.State==e_1.State&&(e.Start==e_1.Start&&(e.End==e_1.End&&(e.Plan==e_1.Plan&&(e.Nodes==e_1.Nodes&&true))))))))))) (k () (false,())) (NM (x.2.2+1) fun n=>NX I m x fun y=>(x.1=y.1∧x.2.1=y.2.1∧n=y.2.2∧True)∧True)) (k () (true,())))
def vSameS (a:List Step) (b:List Step) (k:Unit→Bool × Unit→Prop):Prop:=
br (!LN a==LN b) (k () (false,())) (LP (List Step × List Step × Int) (fun x=>(a=x.1∧b=x.2.1∧0=x.2.2∧True)∧True) fun I m x=>br (decide (x.2.2<LN x.1)) (AI x.1 x.2.2 fun e=>AI x.2.1 x.2.2 fun e_1=>br (!(e.At==e_1.At&&(e.Free==e_1.Free&&true))) (k () (false,())) (NM (x.2.2+1) fun n=>NX I m x fun y=>(x.1=y.1∧x.2.1=y.2.1∧n=y.2.2∧True)∧True)) (k () (true,())))
end Go.Ax.V
namespace Go.Ax.Law
open Go.Ax.O
theorem newW_WW (r:Req):WW (newW r):=U64.zero
theorem newX_WW (x:Choice):WW (newX x):=U64.zero
theorem eqJ_iff {a b:Job}:eqJ a b=true↔a=b:=by
 obtain ⟨a1,a2,a3,a4,a5,a6,a7,a8,a9,a10⟩:=a
 obtain ⟨b1,b2,b3,b4,b5,b6,b7,b8,b9,b10⟩:=b
 simp [eqJ]
theorem eqS_iff {a b:Step}:eqS a b=true↔a=b:=by
 obtain ⟨a1,a2⟩:=a
 obtain ⟨b1,b2⟩:=b
 simp [eqS]
theorem sameJ_iff: ∀{a b:List Job},sameJ a b=true↔a=b
 | [],[]=>by simp [sameJ]
 | [],_::_=>by simp [sameJ]
 |_::_,[]=>by simp [sameJ]
 |x::a,y::b=>by simp [sameJ,eqJ_iff,sameJ_iff (a:=a) (b:=b)]
theorem sameS_iff: ∀{a b:List Step},sameS a b=true↔a=b
 | [],[]=>by simp [sameS]
 | [],_::_=>by simp [sameS]
 |_::_,[]=>by simp [sameS]
 |x::a,y::b=>by simp [sameS,eqS_iff,sameS_iff (a:=a) (b:=b)]
end Go.Ax.Law
namespace Go.Ax.O
open Go.Ax.Sp Go.Ax.Law
theorem vSameJ {a b:List Job} {k:Unit→Bool × Unit→Prop} (h:oSameJ (a,b,()) k):V.vSameJ a b k:=by
 unfold V.vSameJ V.LP V.NX V.AI V.NM V.LN
 obtain ⟨hl,hk⟩:=h
 simp only [] at hl hk
 refine br_ne (fun h1=>?_) (fun h1=>?_)
 ·have:sameJ a b=false:=by
   cases hs:sameJ a b with
   |false=>rfl
   |true=>rw [sameJ_iff.1 hs] at h1;exact absurd rfl h1
  rw [this] at hk;exact hk
 refine ⟨fun x=>x.1=a∧x.2.1=b∧0≤x.2.2∧x.2.2≤a.length∧sameJ (a.drop x.2.2.toNat) (b.drop x.2.2.toNat)=sameJ a b,fun x=>(a.length-x.2.2).toNat,(a,b,0),⟨rfl,rfl,Int.le_refl _,by simp,by simp⟩,⟨⟨rfl,rfl,rfl,trivial⟩,trivial⟩,?_⟩
 rintro ⟨a',b',i⟩ ⟨g1,g2,g3,g4,g5⟩
 simp only [] at g1 g2 g3 g4 g5
 subst g1 g2
 obtain ⟨i,rfl⟩:=Int.eq_ofNat_of_zero_le g3
 rw [Int.toNat_natCast] at g5
 dsimp only
 refine br_dec (fun hi=>⟨⟨g3,hi⟩,fun e he=>⟨⟨g3,by omega⟩,fun e1 he1=>?_⟩⟩) (fun hi=>?_)
 ·rw [Int.toNat_natCast] at he he1
  have d1:a'.drop i=e::a'.drop (i+1):=by rw [List.drop_eq_getElem_cons (List.getElem?_eq_some_iff.1 he).1,(List.getElem?_eq_some_iff.1 he).2]
  have d2:b'.drop i=e1::b'.drop (i+1):=by rw [List.drop_eq_getElem_cons (List.getElem?_eq_some_iff.1 he1).1,(List.getElem?_eq_some_iff.1 he1).2]
  rw [d1,d2] at g5
  simp only [sameJ] at g5
  refine br_not (fun hq=>?_) (fun hq n hn=>?_)
  ·have hq:eqJ e e1=false:=hq
   rw [hq,Bool.false_and] at g5
   rw [←g5] at hk;exact hk
  ·have hq:eqJ e e1=true:=hq
   rw [hq,Bool.true_and] at g5
   rw [w64 (by omega)] at hn
   subst hn
   refine ⟨(a',b',(i:Int)+1),⟨rfl,rfl,by simp only [];omega,by simp only [];omega,?_⟩,⟨⟨rfl,rfl,rfl,trivial⟩,trivial⟩,by simp only [];omega⟩
   simp only []
   rw [show ((i:Int)+1).toNat=i+1 by omega];exact g5
 ·rw [List.drop_of_length_le (by omega),List.drop_of_length_le (by omega)] at g5
  rw [←g5] at hk;exact hk
theorem vSameS {a b:List Step} {k:Unit→Bool × Unit→Prop} (h:oSameS (a,b,()) k):V.vSameS a b k:=by
 unfold V.vSameS V.LP V.NX V.AI V.NM V.LN
 obtain ⟨hl,hk⟩:=h
 simp only [] at hl hk
 refine br_ne (fun h1=>?_) (fun h1=>?_)
 ·have:sameS a b=false:=by
   cases hs:sameS a b with
   |false=>rfl
   |true=>rw [sameS_iff.1 hs] at h1;exact absurd rfl h1
  rw [this] at hk;exact hk
 refine ⟨fun x=>x.1=a∧x.2.1=b∧0≤x.2.2∧x.2.2≤a.length∧sameS (a.drop x.2.2.toNat) (b.drop x.2.2.toNat)=sameS a b,fun x=>(a.length-x.2.2).toNat,(a,b,0),⟨rfl,rfl,Int.le_refl _,by simp,by simp⟩,⟨⟨rfl,rfl,rfl,trivial⟩,trivial⟩,?_⟩
 rintro ⟨a',b',i⟩ ⟨g1,g2,g3,g4,g5⟩
 simp only [] at g1 g2 g3 g4 g5
 subst g1 g2
 obtain ⟨i,rfl⟩:=Int.eq_ofNat_of_zero_le g3
 rw [Int.toNat_natCast] at g5
 dsimp only
 refine br_dec (fun hi=>⟨⟨g3,hi⟩,fun e he=>⟨⟨g3,by omega⟩,fun e1 he1=>?_⟩⟩) (fun hi=>?_)
 ·rw [Int.toNat_natCast] at he he1
  have d1:a'.drop i=e::a'.drop (i+1):=drop_cons he
  have d2:b'.drop i=e1::b'.drop (i+1):=drop_cons he1
  rw [d1,d2] at g5
  simp only [sameS] at g5
  refine br_not (fun hq=>?_) (fun hq n hn=>?_)
  ·have hq:eqS e e1=false:=hq
   rw [hq,Bool.false_and] at g5
   rw [←g5] at hk;exact hk
  ·have hq:eqS e e1=true:=hq
   rw [hq,Bool.true_and] at g5
   rw [w64 (by omega)] at hn
   subst hn
   refine ⟨(a',b',(i:Int)+1),⟨rfl,rfl,by simp only [];omega,by simp only [];omega,?_⟩,⟨⟨rfl,rfl,rfl,trivial⟩,trivial⟩,by simp only [];omega⟩
   simp only []
   rw [show ((i:Int)+1).toNat=i+1 by omega];exact g5
 ·rw [List.drop_of_length_le (by omega),List.drop_of_length_le (by omega)] at g5
  rw [←g5] at hk;exact hk
end Go.Ax.O
namespace Go.Ax.Law
theorem MW.job {m:Model} (h:MW m) {i:Nat} {j:Job} (hj:m.L[i]? =some j):MJ j:=h.2.2.2.2.2 j (List.mem_of_getElem? hj)
theorem MW.set {m:Model} (h:MW m) (i:Nat) {b:Job} (hb:MJ b):MW {m with L:=m.L.set i b}:=
  ⟨by simpa using h.1,h.2.1,h.2.2.1,h.2.2.2.1,h.2.2.2.2.1,fun j hj=>by
    rcases List.mem_or_eq_of_mem_set hj with hj |rfl
    · exact h.2.2.2.2.2 j hj
    · exact hb⟩
theorem MJ.sum {j:Job} (h:MJ j):IntKind.i64.wrap (j.Plan+j.Limit)=j.Plan+j.Limit:=by
  obtain ⟨_,_,_,h1,h2,h3,h4,_⟩:=h
  exact w64 (by omega)
theorem tkset {α:Type} (l:List α) (i:Nat) (a:α):List.take l.length (List.drop 0 (l.set i a))=l.set i a:=by
  rw [List.drop_zero,List.take_of_length_le (by simp)]
end Go.Ax.Law
namespace Go.Ax.O
open Go.Ax.Sp Go.Ax.Law
end Go.Ax.O

