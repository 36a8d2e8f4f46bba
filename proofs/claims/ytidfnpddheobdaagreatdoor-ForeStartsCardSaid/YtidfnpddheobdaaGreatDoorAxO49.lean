import Derived.Test.YtidfnpddheobdaaGreatDoorAxO40
import Derived.Test.YtidfnpddheobdaaGreatDoorAxO28
import Derived.Test.YtidfnpddheobdaaGreatDoorAxV22
import Derived.Test.YtidfnpddheobdaaGreatDoorAxV9
import Derived.KernelRfl
set_option linter.all false
namespace Go.Ax.Law
def EarlOK (l:List Step) (lg w t0 t:Int) (r:Int × Int):Prop:=
  (r.2=0∧t≤r.1∧r.1≤1099511627776∧(∀u,r.1≤u→u<r.1+lg→w≤freeL l u)∧ ∀u,t0≤u→u<r.1→ ∃v,u≤v∧v<u+lg∧freeL l v<w)∨
  (r.2=16∧ ∀u,t0≤u→u≤1099511627776→ ∃v,u≤v∧v<u+lg∧freeL l v<w)
theorem earlG_spec {l:List Step} {lg w t0:Int} (hr:Rising l) (hlg:1≤lg): ∀(d:List Step) (i:Nat) (t:Int),l.drop i=d→t0≤t→
    (∀u,t≤u→(∀s,l[i]? =some s→u<s.At)→w≤freeL l u)→(∀s q,l[i]? =some s→l[i+1]? =some q→s.At≤t→t<q.At)→
    (∀u,t0≤u→u<t→ ∃v,u≤v∧v<u+lg∧freeL l v<w)→EarlOK l lg w t0 t (earlG lg w d t)
  | [],i,t,he,h0,hb,hc,hd=>by
    have hn:l[i]? =none:=by
      have:l.length≤i:=by have:=congrArg List.length he;simp at this;omega
      exact List.getElem?_eq_none this
    unfold earlG
    split
    · exact .inr ⟨rfl,fun u h1 h2=>hd u h1 (by omega)⟩
    · exact .inl ⟨rfl,Int.le_refl _,by simp only [];omega,fun u h1 _=>hb u h1 (fun s hs=>by rw [hn] at hs;cases hs),hd⟩
  |s::r,i,t,he,h0,hb,hc,hd=>by
    have hs:l[i]? =some s:=by
      have:=congrArg (·[0]?) he
      simpa [List.getElem?_drop] using this
    have hr1:l.drop (i+1)=r:=by rw [←List.drop_drop,he];rfl
    rw [earlG_cons]
    split
    · exact .inr ⟨rfl,fun u h1 h2=>hd u h1 (by omega)⟩
    · split
      · rename_i h2
        exact .inl ⟨rfl,Int.le_refl _,by simp only [];omega,fun u h3 h4=>hb u h3 (fun s' hs'=>by rw [hs] at hs';cases hs';simp only [] at h4;omega),hd⟩
      · rename_i h1 h2
        by_cases h3:s.Free<w
        · rw [if_pos h3]
          cases r with
          |nil=>
            have hn:l[i+1]? =none:=List.getElem?_eq_none (by have:=congrArg List.length hr1;simp at this;omega)
            have hf: ∀u,s.At≤u→freeL l u=s.Free:=fun u hu=>free_get hr hs hu fun q hq=>by rw [hn] at hq;cases hq
            refine .inr ⟨rfl,fun u h4 h5=>?_⟩
            by_cases h6:u<t
            · exact hd u h4 h6
            · by_cases h7:s.At≤u
              · exact ⟨u,Int.le_refl _,by omega,by rw [hf u h7];exact h3⟩
              · exact ⟨s.At,by omega,by omega,by rw [hf _ (Int.le_refl _)];exact h3⟩
          |cons q r=>
            have hq:l[i+1]? =some q:=by
              have:=congrArg (·[0]?) hr1
              simpa [List.getElem?_drop] using this
            have hsq:=hr.get hs hq (by omega)
            have hf: ∀u,s.At≤u→u<q.At→freeL l u=s.Free:=fun u hu hv=>free_get hr hs hu fun q' hq'=>by rw [hq] at hq';cases hq';exact hv
            have htq:t<q.At:=by
              by_cases h4:s.At≤t
              · exact hc s q hs hq h4
              · omega
            have ih:=earlG_spec (t0:=t0) (w:=w) hr hlg (q::r) (i+1) q.At hr1 (by omega) (fun u h4 h5=>absurd (h5 q hq) (by omega)) (fun s' q' hs' hq' _=>by rw [hq] at hs';cases hs';exact hr.get hq hq' (by omega)) (fun u h4 h5=>by
              by_cases h6:u<t
              · exact hd u h4 h6
              · by_cases h7:s.At≤u
                · exact ⟨u,Int.le_refl _,by omega,by rw [hf u h7 h5];exact h3⟩
                · exact ⟨s.At,by omega,by omega,by rw [hf _ (Int.le_refl _) hsq];exact h3⟩)
            rcases ih with ⟨g1,g2,g3⟩ |g
            · exact .inl ⟨g1,Int.le_trans (Int.le_of_lt htq) g2,g3⟩
            · exact .inr g
        · rw [if_neg h3]
          refine earlG_spec hr hlg r (i+1) t hr1 h0 (fun u h4 h5=>?_) (fun s' q' hs' hq' h4=>?_) hd
          · by_cases h6:u<s.At
            · exact hb u h4 (fun s' hs'=>by rw [hs] at hs';cases hs';exact h6)
            · rw [free_get hr hs (by omega) h5];omega
          · by_cases h5:s.At≤t
            · have:=hc s s' hs hs' h5;omega
            · have:=hr.get hs hs' (by omega);omega
theorem earl_spec {l:List Step} {lg w:Int} (hr:Rising l) (h0:l≠[]) (hlg:1≤lg∧lg≤1048576) (hw:1≤w∧w≤64):EarlOK l lg w (nowL l) (nowL l) (earlP l (nowL l) lg w):=by
  unfold earlP
  rw [if_neg (by omega),Int.max_self]
  obtain ⟨s,hs,h1,h2⟩:=idx_at hr h0 (t:=nowL l) (Int.le_refl _)
  exact earlG_spec hr hlg.1 _ _ _ rfl (Int.le_refl _) (fun u h3 h4=>absurd (h4 s hs) (by omega)) (fun s' q hs' hq _=>h2 _ q (by omega) hq) (fun u h3 h4=>absurd h3 (by omega))
theorem addP_same {p q:Prof} (h:p.steps=q.steps) (f t n:Int):(addP p f t n).1=(addP q f t n).1∧(addP p f t n).2.steps=(addP q f t n).2.steps:=by
  unfold addP
  rw [h]
  split
  · exact ⟨rfl,h⟩
  · split
    · exact ⟨rfl,h⟩
    · split
      · exact ⟨rfl,h⟩
      · exact ⟨rfl,rfl⟩
theorem getJ_job {c:Core} (h:CW c) {i:Nat} {j:Job} (hj:c.J.jobs[i]? =some j):getJ c.J.jobs j.Id=(j,0):=getJ_at hj (id_at h hj)
theorem comS_prof {n:Nat} {c:Core} {m:Model} (h:Stb n c m) {x:Choice} (hx:(comS c x).1=true):ProfX c x (comS c x).2:=by
  obtain ⟨_,_,a3,_,_,a6⟩:=whole_commit h x
  exact a6 (a3.symm.trans hx)
theorem comS_fits {n:Nat} {c:Core} {m:Model} (h:Stb n c m) (x:Choice):(comS c x).1=fitsC c x:=by
  obtain ⟨_,_,a3,_,a5,_⟩:=whole_commit h x
  exact a3.trans a5.symm
structure Found (c:Core) (j:Job) (p:Prof) (r:Prof × List Choice):Prop where
  none:r.2=[]→r.1.steps=c.P.steps∧ ∀u,nowC c≤u→u≤1099511627776→(0≤j.Plan→u<j.Plan)→fitsC c ⟨j.Id,u⟩=false
  some:r.2≠[]→ ∃t,r.2=[⟨j.Id,t⟩]∧nowC c≤t∧t≤1099511627776∧(0≤j.Plan→t<j.Plan)∧fitsC c ⟨j.Id,t⟩=!c.closed∧(∀u,nowC c≤u→u<t→fitsC c ⟨j.Id,u⟩=false)∧(c.closed=false→r.1.steps=(comS c ⟨j.Id,t⟩).2.P.steps)
theorem found {n:Nat} {c:Core} {m:Model} (h:Stb n c m) {i:Nat} {j:Job} (hj:c.J.jobs[i]? =some j) (h1:j.State=1) {p:Prof} (hp:p.steps=c.P.steps):Found c j p (oneI p (itemJ j)):=by
  have hd:=h.rep.deep
  have hok:=hd.jobs j (job_mem hj)
  have hwd:=hok.wd
  have hlm:=hok.lm
  have h64:=hd.n64
  have hjid:=id_at hd.cw hj
  have hget:=getJ_job hd.cw hj
  have hnw:=hd.nw
  have hlen:=hd.len
  have hb:JobOK n (nowC c) {j with Plan:= -1}:=⟨hok.st,hok.wd,hok.lm,.inl rfl,fun h3=>by simp only [] at h3;omega,hok.en,hok.un⟩
  have hnp:plannedJ {j with Plan:= -1}=false:=by simp [plannedJ]
  obtain ⟨P',n3,n4,n6⟩:=hd.turn (b:={j with Plan:= -1}) hj (by omega) (by simp only [];omega) rfl rfl hb rfl hnp
  have hnow0:nowC (⟨⟨c.J.jobs.set i {j with Plan:= -1},c.J.live,c.J.made⟩,c.N,P',c.closed⟩:Core)=nowC c:=n3
  have hmt:=n6.mt
  rw [hnow0] at hmt
  have hlen0:=n6.len
  simp only [] at hlen0
  have hbd: ∀t,nowC c≤t→0≤reqF n (dr c) (c.J.jobs.set i {j with Plan:= -1}) t∧reqF n (dr c) (c.J.jobs.set i {j with Plan:= -1}) t≤64:=fun t ht=>by
    have:=n6.bound t (by rw [hnow0];exact ht)
    exact this
  have hplan:0≤j.Plan→plannedJ j=true∧nowC c≤j.Plan∧j.Plan≤1099511627776:=fun hp=>by
    have hpj:plannedJ j=true:=planned_iff.2 ⟨h1,hp⟩
    exact ⟨hpj,hok.plan hpj⟩
  have hr: ∀t,reqF n (dr c) (c.J.jobs.set i {j with Plan:= -1}) t=reqF n (dr c) c.J.jobs t+(if plannedJ j=true∧j.Plan≤t∧t<j.Plan+j.Limit then j.Width else 0):=fun t=>by
    rw [reqF_set hj,take_rest hnp (by simp only [];omega)]
    cases hpj:plannedJ j with
    |true=>rw [take_planned hpj (by omega)];simp
    |false=>rw [take_rest hpj (by omega)];simp
  have hneg:wr (0-j.Width)= -j.Width:=by rw [wr_in (by omega)];omega
  have hrel:(relI p (itemJ j)).1=0∧(relI p (itemJ j)).2.steps=P'.steps:=by
    unfold relI itemJ
    simp only []
    by_cases hpl:0≤j.Plan
    · obtain ⟨hpj,g1,g2⟩:=hplan hpl
      rw [if_pos hpl,hok.wrp hpj]
      obtain ⟨a1,a2⟩:=addP_same hp j.Plan (j.Plan+j.Limit) j.Width
      rw [if_pos hpj] at n4
      have hm:=hd.mt
      have hz:=addP_free (p:=c.P) (f:=j.Plan) (t:=j.Plan+j.Limit) (n:=j.Width) hm.pw.2.1 hm.pw.1 (by rw [hm.nw];exact g1) (by omega) (by omega) (by omega) (fun u hu=>by rw [hm.nw] at hu;rw [hm.fr u hu];exact hd.bound u hu) (fun u hu hv=>by
        have hnu:nowC c≤u:=by omega
        have hb1:=hd.bound u hnu
        have hb2:=hbd u hnu
        rw [hm.fr u hnu]
        rw [hr u,if_pos ⟨hpj,hu,hv⟩] at hb2
        omega)
      exact ⟨a1.trans hz.1,by rw [a2,n4]⟩
    · rw [if_neg hpl]
      have hpj:plannedJ j=false:=planned_not.2 (.inr (by omega))
      rw [if_neg (by rw [hpj];decide)] at n4
      exact ⟨rfl,by rw [←n4];exact hp⟩
  obtain ⟨e1,e2⟩:=hrel
  generalize hq:(relI p (itemJ j))=q at e1 e2
  have hnowP:nowL P'.steps=nowC c:=n3
  have hfit: ∀u,nowC c≤u→u≤1099511627776→(0≤j.Plan→u<j.Plan)→(fitsC c ⟨j.Id,u⟩=true↔c.closed=false∧ ∀v,u≤v→v<u+j.Limit→j.Width≤freeL P'.steps v):=fun u hu1 hu2 hu3=>by
    unfold fitsC
    simp only [hget]
    cases c.closed with
    |true=>simp
    |false=>
      have hP:(if (planS j).2=true then (addP c.P (planS j).1.From (planS j).1.To (planS j).1.Width).2 else c.P)=P':=by
        rw [planS_snd,←n4]
        by_cases hp:plannedJ j=true
        · rw [if_pos hp,if_pos hp,planS_fst hp,hok.wrp hp]
        · rw [if_neg hp,if_neg hp]
      rw [hP,wr_in (by omega)]
      rw [if_neg (show ¬ (false=true) by decide),if_neg (by
        intro hc
        rcases hc with hc |hc |hc |hc |hc
        · exact hc rfl
        · exact hc h1
        · omega
        · omega
        · have:=hu3 hc.1;omega)]
      rw [decide_eq_true_iff,least_iff (w:=j.Width) (t:=u+j.Limit) hmt.pw.2.1 hmt.pw.1 (f:=u) (by rw [hnowP];omega) (by omega)]
      exact ⟨fun hh=>⟨rfl,hh⟩,fun hh=>hh.2⟩
  have hsp:=earl_spec (lg:=j.Limit) (w:=j.Width) hmt.pw.2.1 hmt.pw.1 hlm ⟨hwd.1,by omega⟩
  rw [hnowP] at hsp
  have hpk:pickI q.2 (itemJ j)=earlP P'.steps (nowC c) j.Limit j.Width:=by unfold pickI itemJ;rw [e2,hnowP]
  generalize hE:earlP P'.steps (nowC c) j.Limit j.Width=E at hsp hpk
  have hno: ∀u,nowC c≤u→u≤1099511627776→(0≤j.Plan→u<j.Plan)→(∃v,u≤v∧v<u+j.Limit∧freeL P'.steps v<j.Width)→fitsC c ⟨j.Id,u⟩=false:=fun u g1 g2 g3 g4=>by
    obtain ⟨v,k1,k2,k3⟩:=g4
    cases hb:fitsC c ⟨j.Id,u⟩ with
    |false=>rfl
    |true=>have:=((hfit u g1 g2 g3).1 hb).2 v k1 k2;omega
  unfold oneI
  rw [hq,hpk,if_neg (by omega)]
  by_cases hA:E.2≠0∨(0≤(itemJ j).Plan∧(itemJ j).Plan≤E.1)
  · rw [if_pos hA]
    refine ⟨fun _=>⟨?_,fun u g1 g2 g3=>hno u g1 g2 g3 ?_⟩,fun hh=>absurd rfl hh⟩
    · simp only []
      by_cases hpl:0≤(itemJ j).Plan
      · rw [if_pos hpl]
        have hpl:0≤j.Plan:=hpl
        obtain ⟨hpj,g1,g2⟩:=hplan hpl
        unfold resP spanI itemJ
        simp only []
        rw [hok.wrp hpj,hneg,(addP_same e2 j.Plan (j.Plan+j.Limit) (-j.Width)).2]
        have hm:=hd.mt
        obtain ⟨hm2,_⟩:=hmt.add (p:=P') (g:=reqF n (dr c) c.J.jobs) (from_:=j.Plan) (to:=j.Plan+j.Limit) (n:= -j.Width) (by omega) g1 (by omega) (by omega) (by omega) hbd (fun t ht=>hd.bound t ht) (fun t ht=>by
          show _=reqF n (dr c) (c.J.jobs.set i {j with Plan:= -1}) t+_
          rw [hr]
          by_cases hc:j.Plan≤t∧t<j.Plan+j.Limit
          · rw [if_pos ⟨hpj,hc⟩,if_pos ⟨hc.1,.inl hc.2⟩];omega
          · rw [if_neg (fun hh=>hc hh.2),if_neg (by omega)];omega)
        exact canon_eq hm2.pw.2.1 hm.pw.2.1 hm2.cn hm.cn hm2.pw.1 hm.pw.1 (hm2.nw.trans hm.nw.symm) (fun t ht=>by rw [hm2.nw] at ht;rw [hm2.fr t ht,hm.fr t ht])
      · rw [if_neg hpl]
        have hpl: ¬ 0≤j.Plan:=hpl
        have hpj:plannedJ j=false:=planned_not.2 (.inr (by omega))
        rw [if_neg (by rw [hpj];decide)] at n4
        rw [e2,←n4]
    · rcases hsp with ⟨k1,k2,k3,k4,k5⟩ |⟨k1,k2⟩
      · rcases hA with hA |hA
        · exact absurd k1 hA
        · have hA:0≤j.Plan∧j.Plan≤E.1:=hA
          exact k5 u g1 (by have:=g3 hA.1;omega)
      · exact k2 u g1 g2
  · rw [if_neg hA]
    refine ⟨fun hh=>by simp at hh,fun _=>?_⟩
    rcases hsp with ⟨k1,k2,k3,k4,k5⟩ |⟨k1,k2⟩
    · have hlt:0≤j.Plan→E.1<j.Plan:=fun hp=>by
        have: ¬ (0≤j.Plan∧j.Plan≤E.1):=fun hh=>hA (.inr hh)
        omega
      have hff:fitsC c ⟨j.Id,E.1⟩=!c.closed:=by
        have hf:=hfit E.1 k2 k3 hlt
        cases hcl:c.closed with
        |false=>exact hf.2 ⟨hcl,k4⟩
        |true=>
          cases hb:fitsC c ⟨j.Id,E.1⟩ with
          |false=>rfl
          |true=>rw [(hf.1 hb).1] at hcl;cases hcl
      refine ⟨E.1,rfl,k2,k3,hlt,hff,fun u g1 g2=>hno u g1 (by omega) (fun hp=>by have:=hlt hp;omega) (k5 u g1 g2),fun hcl=>?_⟩
      have hcx:(comS c ⟨j.Id,E.1⟩).1=true:=by rw [comS_fits h,hff,hcl];rfl
      obtain ⟨j',q1,q2⟩:=comS_prof h hcx
      rw [hget] at q1
      cases q1
      rw [q2,n4]
      unfold resP itemJ
      simp only []
      rw [wr_in (by omega),hneg]
      exact (addP_same e2 E.1 (E.1+j.Limit) (-j.Width)).2
    · exact absurd k1 (fun hh=>hA (.inl (by omega)))
end Go.Ax.Law
namespace Go.Ax.Law
def KeepP (com:Bool) (a b:Job):Prop:=(b.State=1∧0≤b.Plan∧b.Plan≤a.Plan)∨(0≤b.Start∧b.Start≤a.Plan∧3≤b.State∧(b.Start=a.Plan∨com=true))
theorem KeepP.refl {com:Bool} {a:Job} (h1:a.State=1) (h2:0≤a.Plan):KeepP com a a:= .inl ⟨h1,h2,Int.le_refl _⟩
def Kept (com:Bool) (d:Deed) (l r:List Job):Prop:=l.length≤r.length∧ ∀(i:Nat) (a b:Job),l[i]? =some a→r[i]? =some b→a.State=1→0≤a.Plan→excused d a l r=false→KeepP com a b
theorem Kept.refl {com:Bool} {d:Deed} (l:List Job):Kept com d l l:=⟨Nat.le_refl _,fun i a b h1 h2 h3 h4 _=>by rw [h1] at h2;cases h2;exact .refl h3 h4⟩
theorem Kept.set {com:Bool} {d:Deed} {l:List Job} {n:Nat} {y:Job} (h: ∀a,l[n]? =some a→a.State=1→0≤a.Plan→excused d a l (l.set n y)=false→KeepP com a y):Kept com d l (l.set n y):=by
 refine ⟨by simp,fun i a b h1 h2 h3 h4 h5=>?_⟩
 by_cases hi:n=i
 ·subst hi
  have hl:n<l.length:=(List.getElem?_eq_some_iff.1 h1).1
  rw [List.getElem?_set_self hl] at h2
  cases h2
  exact h a h1 h3 h4 h5
 ·rw [List.getElem?_set_ne hi,h1] at h2
  cases h2;exact .refl h3 h4
theorem selN_due {now:Int} {l:List Job}: ∀n,n≤l.length→0≤selN now l n→ ∃a,l[(selN now l n).toNat]? =some a∧dueJ now a=true
 |0,_,h=>by simp only [selN] at h;omega
 |n+1,hn,h=>by
  have ih:=selN_due (now:=now) (l:=l) n (by omega)
  have hj:l[n]? =some l[n]:=List.getElem?_eq_getElem (by omega)
  simp only [selN,hj] at h ⊢
  split
  ·rename_i hc
   exact ⟨l[n],by simpa using hj,hc.1⟩
  ·rename_i hc
   rw [if_neg hc] at h
   exact ih h
def TickI (L0 l:List Job):Prop:=l.length=L0.length∧ ∀(i:Nat) (a b:Job),L0[i]? =some a→l[i]? =some b→a.State=1→0≤a.Plan→(b=a∨(b.Start=a.Plan∧3≤b.State))
theorem TickI.over {L0 l:List Job} (h:TickI L0 l) (now:Int):TickI L0 (l.map (overJ now)):=by
 refine ⟨by simpa using h.1,fun i a b h1 h2 h3 h4=>?_⟩
 rw [List.getElem?_map,Option.map_eq_some_iff] at h2
 obtain ⟨y,h2,rfl⟩:=h2
 unfold overJ
 rcases h.2 i a y h1 h2 h3 h4 with rfl |⟨g1,g2⟩
 ·rw [if_neg (by omega)];exact .inl rfl
 ·split
  ·exact .inr ⟨g1,by simp⟩
  ·exact .inr ⟨g1,g2⟩
theorem TickI.begin {L0:List Job} {m:Model} (h:TickI L0 m.L) (h0:0≤selN m.Now m.L m.L.length):TickI L0 (beginM m (selN m.Now m.L m.L.length)).L:=by
 obtain ⟨y,e1,e2⟩:=selN_due (now:=m.Now) (l:=m.L) _ (Nat.le_refl _) h0
 unfold beginM
 rw [e1]
 have hy:y.State=1∧0≤y.Plan∧y.Plan=m.Now:=by
  unfold dueJ plannedJ at e2
  simp at e2
  omega
 refine ⟨by simpa using h.1,fun i a b h1 h2 h3 h4=>?_⟩
 simp only [] at h2
 by_cases hi:(selN m.Now m.L m.L.length).toNat=i
 ·subst hi
  have hl:=(List.getElem?_eq_some_iff.1 e1).1
  rw [List.getElem?_set_self hl] at h2
  cases h2
  rcases h.2 _ a y h1 e1 h3 h4 with rfl |⟨g1,g2⟩
  ·exact .inr ⟨hy.2.2.symm,by simp [beginJm]⟩
  ·omega
 ·rw [List.getElem?_set_ne hi] at h2
  exact h.2 i a b h1 h2 h3 h4
theorem TickI.beginF {L0:List Job}: ∀(f:Nat) {m:Model},TickI L0 m.L→TickI L0 (beginF f m).L
 |0,_,h=>h
 |f+1,m,h=>by
  simp only [Law.beginF]
  split
  ·rename_i h0;exact TickI.beginF f (h.begin h0)
  ·exact TickI.beginF f h
theorem TickI.happen {L0:List Job} {m:Model} (h:TickI L0 m.L):TickI L0 (happenM m).L:=TickI.beginF _ (m:={m with L:=m.L.map (overJ m.Now)}) (h.over _)
theorem TickI.tickF {L0:List Job} (to:Int): ∀(f:Nat) {m:Model},TickI L0 m.L→TickI L0 (tickF f to m).L
 |0,_,h=>h
 |f+1,m,h=>by
  simp only [Law.tickF]
  split
  ·exact h
  ·exact TickI.tickF to f (TickI.happen (m:={m with Now:=nextM m}) h)
theorem TickI.kept {com:Bool} {d:Deed} {L0 l:List Job} (h:TickI L0 l):Kept com d L0 l:=by
 refine ⟨Nat.le_of_eq h.1.symm,fun i a b h1 h2 h3 h4 _=>?_⟩
 rcases h.2 i a b h1 h2 h3 h4 with rfl |⟨g1,g2⟩
 ·exact .refl h3 h4
 ·exact .inr ⟨by omega,by omega,g2,.inl g1⟩
theorem TickI.refl (l:List Job):TickI l l:=⟨rfl,fun i a b h1 h2 _ _=>by rw [h1] at h2;cases h2;exact .inl rfl⟩
theorem getM_some {m:Model} {id:Int} (h:(getM m id).2=true):1≤id∧id≤m.L.length∧m.L[(id-1).toNat]? =some (getM m id).1:=by
 unfold getM at h ⊢
 split at h
 ·cases h
 ·rename_i hc
  rw [if_neg hc]
  have:(id-1).toNat<m.L.length:=by omega
  rw [List.getElem?_eq_getElem this]
  exact ⟨by omega,by omega,rfl⟩
theorem drop_kept {com:Bool} {l:List Job} {j:Job} {b:Job} {i:Nat} {a:Job} (h1:l[i]? =some a) (h2:(l.map (dropJ j))[i]? =some b) (h3:a.State=1) (h4:0≤a.Plan) (h5:j.Id≠0) (h6:aheadJ j a=false):KeepP com a b:=by
 rw [List.getElem?_map,h1] at h2
 cases h2
 unfold dropJ
 rw [h6,decide_eq_false h5]
 simpa using KeepP.refl h3 h4
theorem commit_kept {n:Nat} {c:Core} {m:Model} (h:Stb n c m) (d:Deed) (hc:d.Commit=true):Kept d.Commit d m.L (commitM m d.X).2.L:=by
 unfold commitM
 split
 ·exact .refl _
 ·rename_i hf
  have hf:fitsM m d.X=true:=by simpa using hf
  have hnw:=h.rep.deep.nw
  have hnow:m.Now=nowC c:=h.rep.now
  have hg:(getM m d.X.Id).2=true∧m.Now≤d.X.At∧ ¬ (0≤(getM m d.X.Id).1.Plan∧(getM m d.X.Id).1.Plan≤d.X.At)∧(getM m d.X.Id).1.State=1:=by
   unfold fitsM at hf
   dsimp only at hf
   split at hf
   ·cases hf
   ·rename_i hn
    refine ⟨?_,by omega,by omega,by omega⟩
    cases hh:(getM m d.X.Id).2 with
    |true=>rfl
    |false=>exact absurd (.inr (.inl hh)) hn
  obtain ⟨g1,g2,g3,g4⟩:=hg
  obtain ⟨b1,b2,b3⟩:=getM_some g1
  split
  ·rename_i hat
   unfold beginM
   rw [b3]
   refine Kept.set fun a ha h3 h4 _=>?_
   rw [b3] at ha
   cases ha
   have hfp:=h.fp (getM m d.X.Id).1 (by rw [←h.rep.jobs];exact List.mem_of_getElem? b3) (by unfold plannedJ;simp [h3,h4])
   exact .inr ⟨by simp [beginJm];omega,by simp [beginJm];omega,by simp [beginJm],.inr hc⟩
  ·refine Kept.set fun a ha h3 h4 _=>?_
   rw [b3] at ha
   cases ha
   exact .inl ⟨h3,by simp only [];omega,by simp only [];omega⟩
theorem do_kept {n:Nat} {c:Core} {m:Model} (h:Stb n c m) (d:Deed) (hc:d.Commit=false):Kept d.Commit d m.L (doM m d.R).2.L:=by
 unfold doM
 split
 ·exact .refl _
 split
 ·rename_i hk
  unfold submitM
  split
  ·exact .refl _
  split
  ·exact .refl _
  split
  ·exact .refl _
  split
  ·exact .refl _
  ·dsimp only
   split
   ·refine ⟨by simp,fun i a b h1 h2 h3 h4 _=>?_⟩
    rw [List.getElem?_append_left (List.getElem?_eq_some_iff.1 h1).1,h1] at h2
    cases h2;exact .refl h3 h4
   ·refine ⟨by simp [dropM],fun i a b h1 h2 h3 h4 h5=>?_⟩
    have hid:(newJ m.L d.R).Id≠0:=by simp [newJ];omega
    have hl:(dropM {m with L:=m.L++[newJ m.L d.R]} (newJ m.L d.R)).L.length=m.L.length+1:=by simp [dropM]
    have hlast:(dropM {m with L:=m.L++[newJ m.L d.R]} (newJ m.L d.R)).L[(dropM {m with L:=m.L++[newJ m.L d.R]} (newJ m.L d.R)).L.length-1]? =some (dropJ (newJ m.L d.R) (newJ m.L d.R)):=by
     rw [hl]
     simp [dropM]
    have ha:aheadJ (newJ m.L d.R) a=false:=by
     unfold excused at h5
     rw [if_neg (by rw [hc];decide),if_neg (by omega),if_neg (by omega),if_pos hk,hlast,decide_eq_true (by omega),Bool.true_and] at h5
     have: ∀x,aheadJ (dropJ x x) a=aheadJ x a:=by
      intro x;unfold dropJ aheadJ;split<;>rfl
     simp only [this] at h5
     exact h5
    refine drop_kept (l:=m.L++[newJ m.L d.R]) ?_ h2 h3 h4 hid ha
    rw [List.getElem?_append_left (List.getElem?_eq_some_iff.1 h1).1,h1]
 split
 ·rename_i hk1 hk
  unfold endM
  dsimp only
  split
  ·exact .refl _
  split
  ·exact .refl _
  ·rename_i hg hs
   obtain ⟨b1,b2,b3⟩:=getM_some (m:=m) (id:=d.R.Id) (by simpa using hg)
   refine Kept.set fun a ha h3 h4 h5=>?_
   rw [b3] at ha
   cases ha
   have hid:(getM m d.R.Id).1.Id=d.R.Id:=by
    have:=id_at h.rep.deep.cw (i:=(d.R.Id-1).toNat) (j:=(getM m d.R.Id).1) (by rw [←h.rep.jobs];exact b3)
    omega
   unfold excused at h5
   rw [if_neg (by rw [hc];decide),if_pos (by omega)] at h5
   rw [hid] at h5;simp at h5
 split
 ·rename_i hk1 hk2 hk
  unfold turnM
  dsimp only
  split
  ·exact .refl _
  split
  ·exact .refl _
  ·rename_i hg hs
   obtain ⟨b1,b2,b3⟩:=getM_some (m:=m) (id:=d.R.Id) (by simpa using hg)
   have hid:(getM m d.R.Id).1.Id=d.R.Id:=by
    have:=id_at h.rep.deep.cw (i:=(d.R.Id-1).toNat) (j:=(getM m d.R.Id).1) (by rw [←h.rep.jobs];exact b3)
    omega
   by_cases h4k:d.R.Kind=4
   ·rw [if_pos h4k]
    have hn3: ¬ d.R.Kind=3:=by omega
    simp only [if_neg hn3,if_pos h4k]
    refine ⟨by simp [dropM],fun i a b h1 h2 h3 h4 h5=>?_⟩
    by_cases hi:(d.R.Id-1).toNat=i
    ·subst hi
     rw [b3] at h1
     cases h1
     omega
    ·have hx:(m.L.set (d.R.Id-1).toNat {(getM m d.R.Id).1 with State:=1})[i]? =some a:=by rw [List.getElem?_set_ne hi];exact h1
     refine drop_kept hx h2 h3 h4 (by simp only [];omega) ?_
     unfold excused at h5
     rw [if_neg (by rw [hc];decide),if_neg (by omega),if_neg (by omega),if_neg (by omega),if_pos h4k,b3,decide_eq_true b1,decide_eq_true (by omega),Bool.true_and,Bool.true_and] at h5
     exact h5
   ·simp only [if_neg h4k]
    refine Kept.set fun a ha h3 h4 h5=>?_
    rw [b3] at ha
    cases ha
    by_cases h3k:d.R.Kind=3
    ·unfold excused at h5
     rw [if_neg (by rw [hc];decide),if_pos (.inl h3k),hid] at h5
     simp at h5
    ·rw [if_neg h3k];exact .refl h3 h4
 split
 ·rename_i hk1 hk2 hk3 hk
  unfold nodeM
  split
  ·exact .refl _
  split
  ·exact .refl _
  ·by_cases h7:d.R.Kind=7
   ·refine ⟨by simp [h7,dropM],fun i a b h1 h2 h3 h4 h5=>?_⟩
    unfold excused at h5
    rw [if_neg (by rw [hc];decide),if_neg (by omega),if_pos h7] at h5
    cases h5
   ·simp only [if_neg h7]
    exact .refl _
 split
 ·unfold tickM
  split
  ·exact .refl _
  ·exact (TickI.tickF _ _ (.refl _)).kept
 split
 ·exact .refl _
 split
 ·exact .refl _
 split
 ·exact .refl _
 split
 ·exact .refl _
 ·exact .refl _
theorem deed_kept {n:Nat} {c:Core} {m:Model} (h:Stb n c m) (d:Deed):Kept d.Commit d m.L (deedSM m d).L:=by
 unfold deedSM doSM
 cases hc:d.Commit with
 |true=>rw [if_pos rfl,←hc];exact commit_kept h d hc
 |false=>
  rw [if_neg (by decide),←hc]
  split
  ·exact do_kept h d hc
  ·exact .refl _
end Go.Ax.Law
namespace Go.Ax.Law
open Go.Ax.O
def LowJ (now:Int) (a b:Job):Prop:=(a.State≠1→b=a)∧(a.State=1→(b.State=3∧b.Start=now)∨(b.State=1∧(0≤a.Plan→0≤b.Plan∧b.Plan≤a.Plan)))
def LowL (now:Int) (l r:List Job):Prop:=r.length=l.length∧ ∀(i:Nat) (a b:Job),l[i]? =some a→r[i]? =some b→LowJ now a b
theorem LowJ.refl (now:Int) (a:Job):LowJ now a a:=⟨fun _=>rfl,fun h=> .inr ⟨h,fun h2=>⟨h2,Int.le_refl _⟩⟩⟩
theorem LowL.refl (now:Int) (l:List Job):LowL now l l:=⟨rfl,fun i a b h1 h2=>by rw [h1] at h2;cases h2;exact .refl now a⟩
theorem fitsM_some {m:Model} {x:Choice} (h:fitsM m x=true): ∃(i:Nat) (j:Job),x.Id=(i:Int)+1∧m.L[i]? =some j∧(getM m x.Id).1=j∧j.State=1∧m.Now≤x.At∧x.At≤1099511627776∧ ¬ (0≤j.Plan∧j.Plan≤x.At):=by
  unfold fitsM at h
  simp only [] at h
  split at h
  · cases h
  · rename_i hc
    have hg:(getM m x.Id).2=true:=by
      cases hb:(getM m x.Id).2 with
      |true=>rfl
      |false=>exact absurd (.inr (.inl hb)) hc
    obtain ⟨g1,g2,g3⟩:=getM_some hg
    refine ⟨(x.Id-1).toNat,(getM m x.Id).1,by omega,g3,rfl,?_,?_,?_,?_⟩
    · refine Decidable.byContradiction fun hh=>hc ?_
      exact .inr (.inr (.inl hh))
    · refine Decidable.byContradiction fun hh=>hc ?_
      exact .inr (.inr (.inr (.inl (by omega))))
    · refine Decidable.byContradiction fun hh=>hc ?_
      exact .inr (.inr (.inr (.inr (.inl (by omega)))))
    · exact fun hh=>hc (.inr (.inr (.inr (.inr (.inr hh)))))
theorem commit_jobs (m:Model) (x:Choice):(commitM m x).2.Now=m.Now∧(commitM m x).2.Closed=m.Closed∧(commitM m x).2.Drain=m.Drain∧((commitM m x).2.L=m.L∨
    ∃(i:Nat) (j b:Job),x.Id=(i:Int)+1∧m.L[i]? =some j∧j.State=1∧ ¬ (0≤j.Plan∧j.Plan≤x.At)∧m.Now≤x.At∧(commitM m x).2.L=m.L.set i b∧b.Id=j.Id∧((b.State=3∧b.Start=m.Now∧b.End=m.Now+j.Limit∧x.At=m.Now)∨(b={j with Plan:=x.At}∧m.Now<x.At))):=by
  unfold commitM
  cases hf:fitsM m x with
  |false=>exact ⟨rfl,rfl,rfl,.inl rfl⟩
  |true=>
    obtain ⟨i,j,h1,h2,h3,h4,h5,h6,h7⟩:=fitsM_some hf
    have hi:(x.Id-1).toNat=i:=by omega
    rw [if_neg (by decide)]
    by_cases hn:x.At=m.Now
    · rw [if_pos hn]
      have hb:beginM m (x.Id-1)={m with L:=m.L.set i (beginJm m j)}:=by unfold beginM;rw [hi,h2]
      simp only []
      rw [hb]
      exact ⟨rfl,rfl,rfl,.inr ⟨i,j,beginJm m j,h1,h2,h4,h7,h5,rfl,rfl,.inl ⟨rfl,rfl,rfl,hn⟩⟩⟩
    · rw [if_neg hn]
      refine ⟨rfl,rfl,rfl,.inr ⟨i,j,{j with Plan:=x.At},h1,h2,h4,h7,h5,?_,rfl,.inr ⟨rfl,by omega⟩⟩⟩
      simp only []
      rw [hi,h3]
theorem commit_low {m:Model} {L0:List Job} (h:LowL m.Now L0 m.L) (h0:0≤m.Now) (x:Choice):LowL m.Now L0 (commitM m x).2.L:=by
  obtain ⟨_,_,_,h1 |⟨i,j,b,g1,g2,g3,g4,g5,g6,g7,g8⟩⟩:=commit_jobs m x
  · rw [h1];exact h
  · rw [g6]
    refine ⟨by rw [List.length_set];exact h.1,fun k a q ha hq=>?_⟩
    by_cases hk:i=k
    · subst hk
      rw [List.getElem?_set_self (List.getElem?_eq_some_iff.1 g2).1] at hq
      cases hq
      obtain ⟨k1,k2⟩:=h.2 i a j ha g2
      by_cases ha1:a.State=1
      · refine ⟨fun hh=>absurd ha1 hh,fun _=>?_⟩
        rcases g8 with ⟨p1,p2,_⟩ |⟨p1,p2⟩
        · exact .inl ⟨p1,p2⟩
        · refine .inr ⟨by rw [p1];exact g3,fun hp=>?_⟩
          rcases k2 ha1 with ⟨k3,_⟩ |⟨_,k3⟩
          · omega
          · have:=k3 hp
            rw [p1]
            simp only []
            omega
      · rw [k1 ha1] at g3;exact absurd g3 ha1
    · rw [List.getElem?_set_ne hk] at hq
      exact h.2 k a q ha hq
theorem comS_next {n:Nat} {c:Core} {m:Model} (h:Stb n c m) (x:Choice):Stb n (comS c x).2 (commitM m x).2∧nowC (comS c x).2=nowC c∧(comS c x).2.closed=c.closed:=by
  have h1:=(comS_stb h x).2
  obtain ⟨a1,a2,_⟩:=commit_jobs m x
  exact ⟨h1,h1.rep.now.symm.trans (a1.trans h.rep.now),h1.rep.closed.symm.trans (a2.trans h.rep.closed)⟩
theorem pass_low {n:Nat}: ∀(l:List Choice) {c:Core} {m:Model} {L0:List Job} (t:Int) (s:List Int),Stb n c m→LowL (nowC c) L0 c.J.jobs→
    (∃m',Stb n (passF c t s l).1 m')∧nowC (passF c t s l).1=nowC c∧(passF c t s l).1.closed=c.closed∧LowL (nowC c) L0 (passF c t s l).1.J.jobs
  | [],c,m,L0,t,s,h,hl=>⟨⟨m,h⟩,rfl,rfl,hl⟩
  |x::l,c,m,L0,t,s,h,hl=>by
    obtain ⟨h1,h2,h3⟩:=comS_next h x
    have h4:LowL (nowC (comS c x).2) L0 (comS c x).2.J.jobs:=by
      rw [h2,←h1.rep.jobs]
      have:=commit_low (m:=m) (L0:=L0) (by rw [h.rep.now,h.rep.jobs];exact hl) (by rw [h.rep.now];exact h.rep.deep.nw.1) x
      rw [h.rep.now] at this;exact this
    rw [passF]
    split
    · obtain ⟨a1,a2,a3,a4⟩:=pass_low l t s h1 h4
      exact ⟨a1,a2.trans h2,a3.trans h3,by rw [h2] at a4;exact a4⟩
    · obtain ⟨a1,a2,a3,a4⟩:=pass_low l (t+1) (if (getJ (comS c x).2.J.jobs x.Id).1.State=3 then s++[x.Id] else s) h1 h4
      exact ⟨a1,a2.trans h2,a3.trans h3,by rw [h2] at a4;exact a4⟩
theorem pass_all {n:Nat}: ∀(l:List Job) {c:Core} {m:Model} {p:Prof} (t:Int) (s:List Int),Stb n c m→c.closed=false→p.steps=c.P.steps→(∀j∈l,j∈c.J.jobs∧j.State=1)→l.Pairwise (fun a b=>a.Id≠b.Id)→
    (passF c t s (planF p (l.map itemJ)).2).2.1=t+((planF p (l.map itemJ)).2.length:Int)
  | [],c,m,p,t,s,h,hc,hp,hl,hd=>by simp [planF,passF]
  |j::l,c,m,p,t,s,h,hc,hp,hl,hd=>by
    obtain ⟨hj,h1⟩:=hl j (by simp)
    obtain ⟨i,hi⟩:=List.getElem?_of_mem hj
    have hf:=found h hi h1 hp
    have hd2:=List.pairwise_cons.1 hd
    simp only [List.map_cons,planF]
    by_cases hn:(oneI p (itemJ j)).2=[]
    · obtain ⟨g1,_⟩:=hf.none hn
      rw [hn,List.nil_append]
      exact pass_all l t s h hc g1 (fun q hq=>hl q (by simp [hq])) hd2.2
    · obtain ⟨u,g1,g2,g3,g4,g5,g6,g7⟩:=hf.some hn
      rw [g1]
      have hcx:(comS c ⟨j.Id,u⟩).1=true:=by rw [comS_fits h,g5,hc];rfl
      obtain ⟨k1,k2,k3⟩:=comS_next h ⟨j.Id,u⟩
      have hcc:(comS c ⟨j.Id,u⟩).2.closed=false:=k3.trans hc
      have hin: ∀q∈l,q∈(comS c ⟨j.Id,u⟩).2.J.jobs∧q.State=1:=fun q hq=>by
        obtain ⟨q1,q2⟩:=hl q (by simp [hq])
        refine ⟨?_,q2⟩
        rw [←k1.rep.jobs]
        rw [←h.rep.jobs] at q1
        obtain ⟨_,_,_,e |⟨i',j',b,e1,e2,_,_,_,e3,_⟩⟩:=commit_jobs m ⟨j.Id,u⟩
        · rw [e];exact q1
        · rw [e3]
          obtain ⟨k,hk⟩:=List.getElem?_of_mem q1
          have hne:i'≠k:=fun hh=>by
            subst hh
            rw [h.rep.jobs] at hk
            have:=id_at h.rep.deep.cw hk
            have:=hd2.1 q hq
            simp only [] at e1
            omega
          exact List.mem_of_getElem? (by rw [List.getElem?_set_ne hne];exact hk)
      rw [List.singleton_append,passF,if_neg (by rw [hcx];decide)]
      rw [pass_all l (t+1) _ k1 hcc (g7 hc) hin hd2.2]
      simp only [List.length_cons]
      omega
theorem pass_none {n:Nat}: ∀(l:List Job) {c:Core} {m:Model} {p:Prof},Stb n c m→p.steps=c.P.steps→(∀j∈l,j∈c.J.jobs∧j.State=1)→(planF p (l.map itemJ)).2=[]→
    ∀j∈l,∀u,nowC c≤u→u≤1099511627776→(0≤j.Plan→u<j.Plan)→fitsC c ⟨j.Id,u⟩=false
  | [],c,m,p,h,hp,hl,he=>fun j hj=>by cases hj
  |j::l,c,m,p,h,hp,hl,he=>by
    obtain ⟨hj,h1⟩:=hl j (by simp)
    obtain ⟨i,hi⟩:=List.getElem?_of_mem hj
    have hf:=found h hi h1 hp
    simp only [List.map_cons,planF] at he
    obtain ⟨e1,e2⟩:=List.append_eq_nil_iff.1 he
    obtain ⟨g1,g2⟩:=hf.none e1
    intro q hq
    rcases List.mem_cons.1 hq with rfl |hq
    · exact g2
    · exact pass_none l h g1 (fun q hq=>hl q (by simp [hq])) e2 q hq
theorem wait_mem {c:Core} {j:Job} (h:j∈waitC c):j∈c.J.jobs∧j.State=1:=by
  have:=(sort_perm _).mem_iff.1 h
  obtain ⟨h1,h2⟩:=inJ_mem this
  exact ⟨h1,by simpa using h2⟩
theorem wait_nodup {c:Core} (h:CW c):(waitC c).Pairwise (fun a b=>a.Id≠b.Id):=by
  have h1:c.J.jobs.Pairwise (fun a b=>a.Id≠b.Id):=by
    rw [List.pairwise_iff_getElem]
    intro i k hi hk hik
    have a:=id_at h (List.getElem?_eq_getElem hi)
    have b:=id_at h (List.getElem?_eq_getElem hk)
    omega
  have h2:(inJ c.J.jobs [1]).Pairwise (fun a b=>a.Id≠b.Id):=List.Pairwise.sublist List.filter_sublist h1
  exact (sort_perm _).symm.pairwise h2 (fun hab=>Ne.symm hab)
theorem wait_right {n:Nat} {c:Core} (h:Deep n c) {j:Job} (hj:j∈waitC c):rightI (itemJ j)=true:=by
  have hok:=h.jobs j (wait_mem hj).1
  have h1:=hok.wd;have h2:=hok.lm;have h3:=hok.pl;have h4:=h.n64;have h5:=h.nw
  unfold rightI itemJ
  simp only [Bool.and_eq_true,decide_eq_true_eq]
  omega
theorem wait_64 {n:Nat} {c:Core} (h:Deep n c):(waitC c).length≤64:=by
  have h1:=h.l64
  have h2:(inJ c.J.jobs [1]).length≤c.J.jobs.countP liveJ:=by
    unfold inJ
    rw [←List.countP_eq_length_filter]
    refine List.countP_mono_left fun j _ hj=>?_
    unfold liveJ
    simp at hj ⊢;omega
  unfold liveN at h1
  unfold waitC;rw [sort_len];omega
theorem plan_right {n:Nat} {c:Core} (h:Deep n c) {d:Int} (h1:1≤d) (h2:d≤64):planA c.P d (itemsC c)=((planF c.P (((waitC c).take d.toNat).map itemJ)).2,0):=by
  unfold planA itemsC
  rw [if_neg (by omega),←List.map_take,if_neg]
  intro hh
  obtain ⟨x,hx,hb⟩:=List.any_eq_true.1 hh
  obtain ⟨j,hj,rfl⟩:=List.mem_map.1 hx
  rw [wait_right h (List.mem_of_mem_take hj)] at hb
  cases hb
theorem plan_code {n:Nat} {c:Core} (h:Deep n c) (d:Int):(planA c.P d (itemsC c)).2=if d<1∨64<d then 1 else 0:=by
  by_cases hd:d<1∨64<d
  · rw [if_pos hd];unfold planA;rw [if_pos hd]
  · rw [if_neg hd,plan_right h (by omega) (by omega)]
end Go.Ax.Law
namespace Go.Ax.Law
def settleF (depth most:Int):Nat→Int→Core→(Int × Bool) × Core
 |0,_,c=>((max most 0,false),c)
 |f+1,n,c=>if most<n then ((max most 0,false),c)
  else if (passS c depth).1.2.2.2≠0 then ((n,false),(passS c depth).2)
  else if (passS c depth).1.2.1=0 then ((n,true),(passS c depth).2) else settleF depth most f (n+1) (passS c depth).2
def settleS (c:Core) (depth most:Int):(Int × Bool) × Core:=settleF depth most most.toNat 1 c
def openC (c:Core):List Choice:=(itemsC c).flatMap fun x=>(planA c.P 1 [x]).1
def firstC (c:Core) (id:Int):Int:=
 if (getJ c.J.jobs id).2≠0∨(getJ c.J.jobs id).1.State≠1 then-1
 else match (openC c).find? fun x=>decide (x.Id=id) with |some x=>x.At |none=>(getJ c.J.jobs id).1.Plan
def takenJ (at_:Int) (j:Job):Int:=
 if j.State=3 then (if j.Start≤at_∧at_<j.End then j.Width else 0) else if j.State=1∧0≤j.Plan∧j.Plan≤at_∧at_<wr (j.Plan+j.Limit) then j.Width else 0
def takenC (c:Core) (at_:Int):Int:=c.J.jobs.foldl (fun n j=>n+takenJ at_ j) 0
def roomN (c:Core) (at_:Int) (k:Nat):Int:=if stateN c.N k=1∨stateN c.N k=2∨(stateN c.N k=3∧at_<(holderJ c.J.jobs k).End) then 1 else 0
def roomF (c:Core) (at_:Int):Nat→Int
 |0=>0
 |n+1=>roomF c at_ n+roomN c at_ n
def roomC (c:Core) (at_:Int):Int:=roomF c at_ (lenS c.N.all).toNat
def sameC (a b:Core):Bool:=sameJ a.J.jobs b.J.jobs&&(sameS a.P.steps b.P.steps&&((a.closed==b.closed)&&(decide (lenS a.N.all=lenS b.N.all)&&(List.range (lenS a.N.all).toNat).all fun k=>decide (stateN a.N k=stateN b.N k))))
def foreJ (t:Core) (j:Job):List Told37:=
 let x:=(getJ t.J.jobs j.Id).1
 if x.State=3 then [⟨x.Id,x.Start,x.End⟩] else if 0≤x.Plan then [⟨x.Id,x.Plan,wr (x.Plan+x.Limit)⟩] else []
def foreC (c:Core):List Told37:=(waitC c).flatMap (foreJ (passS c 64).2)
def emptyC (c:Core):Int:=
 if (foreC c).length<(waitC c).length then-1 else (inJ c.J.jobs [3]).foldl (fun t j=>max t j.End) ((foreC c).foldl (fun t x=>max t x.End) (nowC c))
end Go.Ax.Law
namespace Go.Ax.Sp
def lAwP:LoopAnn:={X:=Core × List Int × Int,live:=fun x=>[(1,.ptr ⟨0,0,0,0⟩),(3,.sl 1 1 0 x.2.1.length),(4,.int .i64 x.2.2)],heap:=fun x=>[some (.obj .sched ⟨x.1⟩),some (.row .i64 x.2.1)],norm:=[.fold 0 .sched]}
def lPassLow:LoopAnn:={X:=Core × List Job × List Job × Int,live:=fun x=>[(7,.ptr ⟨0,0,0,0⟩),(8,.sl 5 10 0 x.2.1.length),(9,.sl 12 10 0 x.2.2.1.length),(10,.int .i64 x.2.2.2)],heap:=fun x=>[some (.obj .sched ⟨x.1⟩),none,none,none,none,some (.row .job x.2.1),none,none,none,none,none,none,some (.row .job x.2.2.1)],norm:=[.fold 0 .sched]}
def sPassD:Sig:=⟨[(.int .i64,false),(.imm .deed,false),(.int .i64,false)],[.bool]⟩
def oPassD:sPassD.Out:=fun _ k=>k () (true,())
def lOpWait:LoopAnn:={X:=Req × Int × Core × LockSet × OpD × List Job × Int,live:=fun x=>[(3,.int .i64 x.2.1),(6,.ptr ⟨0,0,0,0⟩),(9,.ptr ⟨1,0,0,0⟩),(10,.ptr ⟨2,0,0,0⟩),(11,.ptr ⟨3,0,0,0⟩),(12,.sl 8 10 0 x.2.2.2.2.2.1.length),(13,.int .i64 x.2.2.2.2.2.2)],heap:=fun x=>[some (.raw (EK.enc .req x.1)),some (.obj .sched ⟨x.2.2.1⟩),some (.obj .lockSet x.2.2.2.1),some (.obj .opD x.2.2.2.2.1),none,none,none,none,some (.row .job x.2.2.2.2.2.1)],norm:=[.fold 1 .sched,.fold 2 .lockSet,.fold 3 .opD]}
def sOpWait:Sig:=⟨[(.int .i64,false),(.imm .deed,false),(.elem .req,false),(.int .i64,false)],[.bool]⟩
def oOpWait:sOpWait.Out:=fun _ k=>k () (true,())
def sOpD:Sig:=⟨[(.int .i64,false),(.imm .deed,false),(.elem .req,false)],[.bool]⟩
def oOpD:sOpD.Out:=fun _ k=>k () (true,())
def lOpLock:LoopAnn:={X:=Core × List Job × List Step × LockSet × OpD × Lane × Int,live:=fun x=>[(7,.ptr ⟨1,0,0,0⟩),(8,.sl 6 10 0 x.2.1.length),(9,.sl 7 2 0 x.2.2.1.length),(10,.ptr ⟨8,0,0,0⟩),(11,.ptr ⟨9,0,0,0⟩),(12,.ptr ⟨10,0,0,0⟩),(13,.int .i64 x.2.2.2.2.2.2)],heap:=fun x=>[none,some (.obj .sched ⟨x.1⟩),none,none,none,none,some (.row .job x.2.1),some (.row .step x.2.2.1),some (.obj .lockSet x.2.2.2.1),some (.obj .opD x.2.2.2.2.1),some (.raw (EK.enc .lane x.2.2.2.2.2.1))],norm:=[.fold 1 .sched,.fold 8 .lockSet,.fold 9 .opD]}
def lOpLock2:LoopAnn:={X:=Core × List Job × List Step × LockSet × OpD × Lane × Int × Int × Lane × Bool × Int,live:=fun x=>[(7,.ptr ⟨1,0,0,0⟩),(8,.sl 6 10 0 x.2.1.length),(9,.sl 7 2 0 x.2.2.1.length),(10,.ptr ⟨8,0,0,0⟩),(11,.ptr ⟨9,0,0,0⟩),(12,.ptr ⟨10,0,0,0⟩),(13,.int .i64 x.2.2.2.2.2.2.1),(14,.int .i64 x.2.2.2.2.2.2.2.1),(15,.ptr ⟨12,0,0,0⟩),(16,.bool x.2.2.2.2.2.2.2.2.2.1),(17,.int .i64 x.2.2.2.2.2.2.2.2.2.2)],heap:=fun x=>[none,some (.obj .sched ⟨x.1⟩),none,none,none,none,some (.row .job x.2.1),some (.row .step x.2.2.1),some (.obj .lockSet x.2.2.2.1),some (.obj .opD x.2.2.2.2.1),some (.raw (EK.enc .lane x.2.2.2.2.2.1)),none,some (.raw (EK.enc .lane x.2.2.2.2.2.2.2.2.1))],norm:=[.fold 1 .sched,.fold 8 .lockSet,.fold 9 .opD]}
end Go.Ax.Sp
namespace Go.Ax.V
open Go.Ax.Sp Go.Ax.Law List Int IntKind
set_option maxRecDepth 100000
def vAwakeP (u:Unit) (k:Unit→Bool × Unit→Prop):Prop:=
SH (k () (false,())) fun s0=>((4:Int)<1∨(64:Int)<4→s0)∧((1:Int)≤4∧(4:Int)≤64→LP (Core × List Int × Int) (fun x=>((0:Nat)=0∧((0:Nat)=0∧3=length x.2.1)∧0=x.2.2∧True)∧Sched.mk (newCore (4:Int))=Sched.mk x.1∧[(3:Int),(3:Int),(1:Int)]=x.2.1∧True) fun I m x=>SH (passS x.1 (9:Int)) fun s1=>br (decide (x.2.2<3)) (AT x.2.1 x.2.2 fun e=>OkS x.1∧NM (x.2.2+1) fun n=>NX I m x fun y=>((0:Nat)=0∧((0:Nat)=0∧length x.2.1=length y.2.1)∧n=y.2.2∧True)∧Sched.mk (wholeW (newW (Req.mk (1:Int) (0:Int) (0:Int) e (10:Int) (0:Int) false (0:Int) (0:Int))) x.1).2.2=Sched.mk y.1∧x.2.1=y.2.1∧True) (OkS x.1∧JW s1.2.J∧br (s1.1.2.2.2==0) (br ((getJ s1.2.J.jobs (2:Int)).2==0) (br (s1.1.2.1==3) (br (LN s1.1.2.2.1==2) (AT s1.1.2.2.1 (1:Int) fun e=>br (e==3) (k () ((getJ s1.2.J.jobs (2:Int)).1.Plan==10,())) s0) s0) s0) s0) s0))
end Go.Ax.V
namespace Go.Ax.V
open Go.Ax.Sp Go.Ax.Law List Int IntKind
set_option maxRecDepth 100000
def vPassLow (n:Int) (l:List Deed) (d:Int) (k:Unit→Bool × Unit→Prop):Prop:=
SH (madeS n l) fun s0=>SH (passS s0 d).2 fun s1=>SH (k () (false,())) fun s2=>(n<1∨64<n→k () (true,()))∧(1≤n∧n≤64→JW s0.J∧OkS s0∧JW s1.J∧br (!LN s1.J.jobs==LN s0.J.jobs) s2 (LP (Core × List Job × List Job × Int) (fun x=>(0=0∧(0=0∧length s0.J.jobs=length x.2.1)∧(0=0∧length s1.J.jobs=length x.2.2.1)∧0=x.2.2.2∧True)∧Sched.mk s1=Sched.mk x.1∧s0.J.jobs=x.2.1∧s1.J.jobs=x.2.2.1∧True) fun I m x=>SH x.2.2.1 fun s3=>SH (length x.2.1) fun s4=>SH (x.2.2.2+1) fun s5=>SH (length s3) fun s6=>SH (NM s5 fun n=>NX I m x fun y=>(0=0∧(0=0∧s4=length y.2.1)∧(0=0∧s6=length y.2.2.1)∧n=y.2.2.2∧True)∧Sched.mk x.1=Sched.mk y.1∧x.2.1=y.2.1∧s3=y.2.2.1∧True) fun s7=>br (decide (x.2.2.2<LN x.2.1)) (AT x.2.1 x.2.2.2 fun e=>SH (decide (e.Plan≥0)) fun s8=>AT s3 x.2.2.2 fun e_1=>SH (!(e.Id==e_1.Id&&(e.User==e_1.User&&(e.Width==e_1.Width&&(e.Limit==e_1.Limit&&(e.Prio==e_1.Prio&&(e.State==e_1.State&&(e.Start==e_1.Start&&(e.End==e_1.End&&(e.Plan==e_1.Plan&&(e.Nodes==e_1.Nodes&&true))))))))))) fun s9=>SH (decide (e_1.Plan>e.Plan)) fun s10=>SH (decide (e_1.Plan<0)) fun s11=>SH (!e_1.State==1) fun s12=>SH (SH (br s12 s2 (br s8 (br s11 s2 (br s10 s2 s7)) s7)) fun s14=>((br (!e.State==1) (br s9 s2 s7) (br (e_1.State==3) ((PW x.1.P∧br (e_1.Start==nowL x.1.P.steps) s7 s14)∧True) (s14∧True))∧True)∧True)∧True) fun s13=>s13∧s13∧True) (k () (true,()))))
end Go.Ax.V
namespace Go.Ax.Law
def awP:Nat→Core
 |0=>newCore 4
 |1=>(doS (awP 0) ⟨1,0,0,3,10,0,false,0,0⟩).2
 |2=>(doS (awP 1) ⟨1,0,0,3,10,0,false,0,0⟩).2
 |n+3=>(doS (awP (n+2)) ⟨1,0,0,1,10,0,false,0,0⟩).2
theorem awP_ok: ∀n,n≤3→OkS (awP n)
 |0,_=>⟨_,_,new_stb (n:=4) (by decide) (by decide)⟩
 |1,_=>OkS.step (awP_ok 0 (by decide)) _
 |2,_=>OkS.step (awP_ok 1 (by decide)) _
 |3,_=>OkS.step (awP_ok 2 (by decide)) _
 |n+4,h=>by omega
theorem awP_wait:waitC (awP 3)=inJ (awP 3).J.jobs [1]:=by
 refine List.mergeSort_of_pairwise ?_
 have e:(inJ (awP 3).J.jobs [1])=[⟨1,0,3,10,0,1,-1,-1,-1,0⟩,⟨2,0,3,10,0,1,-1,-1,-1,0⟩,⟨3,0,1,10,0,1,-1,-1,-1,0⟩]:=by kernel_rfl
 rw [e]
 decide
theorem awP_pass:(passS (awP 3) 9).1.2.2.2=0∧(getJ (passS (awP 3) 9).2.J.jobs 2).2=0∧(passS (awP 3) 9).1.2.1=3∧(passS (awP 3) 9).1.2.2.1=[1,3]∧(getJ (passS (awP 3) 9).2.J.jobs 2).1.Plan=10:=by
 unfold passS itemsC
 rw [awP_wait]
 refine ⟨?_,?_,?_,?_,?_⟩<;>kernel_rfl
theorem low_body {a b:Job} {now:Int} {PWp FF NN:Prop} (hp:PWp) (hl:LowJ now a b) (hN:NN):
  br (!a.State==1) (br (!eqJ a b) FF NN) (br (b.State==3) ((PWp∧br (b.Start==now) NN (br (!b.State==1) FF (br (decide (a.Plan≥0)) (br (decide (b.Plan<0)) FF (br (decide (b.Plan>a.Plan)) FF NN)) NN)))∧True)
   (br (!b.State==1) FF (br (decide (a.Plan≥0)) (br (decide (b.Plan<0)) FF (br (decide (b.Plan>a.Plan)) FF NN)) NN)∧True)):=by
 obtain ⟨k1,k2⟩:=hl
 have fin:a.State=1→ ¬ (b.State=3∧b.Start=now)→br (!b.State==1) FF (br (decide (a.Plan≥0)) (br (decide (b.Plan<0)) FF (br (decide (b.Plan>a.Plan)) FF NN)) NN):=by
  intro h1 h2
  rcases k2 h1 with g |⟨g1,g2⟩
  ·exact absurd g h2
  ·exact br_ne (fun hh=>absurd g1 hh) (fun _=>br_dec (fun h3=>br_dec (fun h4=>by have:=(g2 h3).1;omega) (fun _=>br_dec (fun h4=>by have:=(g2 h3).2;omega) (fun _=>hN))) (fun _=>hN))
 refine br_ne (fun h1=>br_not (fun hq=>?_) (fun _=>hN)) (fun h1=>br_eq (fun h2=>⟨⟨hp,br_eq (fun _=>hN) (fun h3=>fin h1 (fun hh=>h3 hh.2))⟩,trivial⟩) (fun h2=>⟨fin h1 (fun hh=>h2 hh.1),trivial⟩))
 rw [k1 h1] at hq
 rw [eqJ_iff.2 rfl] at hq
 cases hq
theorem OkS.pass {c:Core} (h:OkS c) (d:Int):OkS (passS c d).2:=by
 obtain ⟨n,m,h⟩:=h
 unfold passS
 split
 ·exact ⟨n,m,h⟩
 ·obtain ⟨⟨m',h'⟩,_⟩:=pass_low (planA c.P d (itemsC c)).1 0 [] h (LowL.refl _ _)
  exact ⟨n,m',h'⟩
theorem OkS.low {c:Core} (h:OkS c) (d:Int):LowL (nowC c) c.J.jobs (passS c d).2.J.jobs∧nowC (passS c d).2=nowC c:=by
 obtain ⟨n,m,h⟩:=h
 unfold passS
 split
 ·exact ⟨LowL.refl _ _,rfl⟩
 ·obtain ⟨_,h2,_,h4⟩:=pass_low (planA c.P d (itemsC c)).1 0 [] h (LowL.refl _ _)
  exact ⟨h4,h2⟩
theorem madeS_ok {n:Int} (h1:1≤n) (h2:n≤64) (l:List Deed):OkS (madeS n l):=⟨_,_,madeS_stb h1 h2 l⟩
end Go.Ax.Law
namespace Go.Ax.O
open Go.Ax.Sp Go.Ax.Law
theorem vAwakeP {u:Unit} {k:Unit→Bool × Unit→Prop} (h:oYes u k):V.vAwakeP u k:=by
 have h:k () (true,()):=h
 unfold V.vAwakeP V.LP V.NX V.AT V.NM V.SH V.LN
 refine ⟨fun hn=>by omega,fun _=>⟨fun x=> ∃n:Nat,n≤3∧x.2.2=n∧x.2.1=[3,3,1]∧x.1=awP n,fun x=>(3-x.2.2).toNat,(newCore 4,[3,3,1],0),⟨0,by omega,rfl,rfl,rfl⟩,by simp,?_⟩⟩
 rintro ⟨c,l,i⟩ ⟨n,hn,e1,e2,e3⟩
 simp only [] at e1 e2 e3
 subst e1 e2 e3
 refine br_dec (fun hl=>?_) (fun hl=>?_)
 ·have hl:(n:Int)<3:=hl
  refine ⟨⟨by simp,by simpa using hl⟩,by simp;omega,fun e he=>⟨awP_ok n hn,fun a ha=>?_⟩⟩
  replace ha:a=IntKind.i64.wrap ((n:Int)+1):=ha
  rw [w64 (by omega)] at ha
  subst ha
  have hn3:n=0∨n=1∨n=2:=by omega
  refine ⟨(awP (n+1),[3,3,1],(n:Int)+1),⟨n+1,by omega,by simp,rfl,rfl⟩,⟨⟨rfl,⟨rfl,rfl⟩,rfl,trivial⟩,?_,rfl,trivial⟩,by simp only [];omega⟩
  rcases hn3 with rfl |rfl |rfl<;>simp at he<;>subst he<;>rfl
 ·have hl: ¬ (n:Int)<3:=hl
  obtain rfl:n=3:=by omega
  have ho:=awP_ok 3 (by decide)
  obtain ⟨f1,f2,f3,f4,f5⟩:=awP_pass
  refine ⟨ho,(ho.pass 9).cw.1,br_eq (fun _=>br_eq (fun _=>br_eq (fun _=>br_eq (fun _=>?_) (fun hh=>?_)) (fun hh=>absurd f3 hh)) (fun hh=>absurd f2 hh)) (fun hh=>absurd f1 hh)⟩
  ·simp only [f4]
   refine ⟨⟨by decide,by decide⟩,by decide,fun e he=>?_⟩
   simp at he;subst he
   refine br_eq (fun _=>?_) (fun hh=>absurd rfl hh)
   rw [f5];exact h
  ·simp only [f4] at hh;exact absurd rfl hh
theorem vPassLow {n:Int} {l:List Deed} {d:Int} {k:Unit→Bool × Unit→Prop} (h:oPassD (n,l,d,()) k):V.vPassLow n l d k:=by
 have h:k () (true,()):=h
 unfold V.vPassLow V.LP V.NX V.AT V.NM V.SH V.LN
 refine ⟨fun _=>h,fun hn=>?_⟩
 have hs:=madeS_ok hn.1 hn.2 l
 obtain ⟨hlow,hnow⟩:=hs.low d
 have hs2:=hs.pass d
 have hjl:=hs2.cw.1.2.1
 generalize madeS n l=c at hs hlow hnow hs2 hjl ⊢
 generalize (passS c d).2=c2 at hlow hnow hs2 hjl ⊢
 obtain ⟨hlen,hlow⟩:=hlow
 refine ⟨hs.cw.1,hs,hs2.cw.1,br_ne (fun hh=>absurd (by rw [hlen]) hh) (fun _=>?_)⟩
 refine ⟨fun x=>x.1=c2∧x.2.1=c.J.jobs∧x.2.2.1=c2.J.jobs∧0≤x.2.2.2∧x.2.2.2≤c.J.jobs.length,fun x=>(c.J.jobs.length-x.2.2.2).toNat,(c2,c.J.jobs,c2.J.jobs,0),⟨rfl,rfl,rfl,by simp,by simp⟩,by simp,?_⟩
 rintro ⟨c',A,B,i⟩ ⟨e1,e2,e3,hi,hi2⟩
 simp only [] at e1 e2 e3 hi hi2
 subst e1 e2 e3
 refine br_dec (fun hl=>?_) (fun hl=>h)
 have hl:i<(c.J.jobs.length:Int):=hl
 refine ⟨⟨hi,hl⟩,by simp only [];omega,fun a ha=>⟨⟨hi,by simp only [];omega⟩,by simp only [];omega,fun b hb=>?_⟩⟩
 have ha':c.J.jobs[i.toNat]? =some a:=by rw [←ha];simp
 have hb':c'.J.jobs[i.toNat]? =some b:=by rw [←hb];simp
 obtain ⟨k1,k2⟩:=hlow i.toNat a b ha' hb'
 have next: ∀q,q=IntKind.i64.wrap (i+1)→ ∃y:Core × List Job × List Job × Int,(y.1=c'∧y.2.1=c.J.jobs∧y.2.2.1=c'.J.jobs∧0≤y.2.2.2∧y.2.2.2≤c.J.jobs.length)∧(((0:Nat)=0∧((0:Nat)=0∧c.J.jobs.length=y.2.1.length)∧((0:Nat)=0∧c'.J.jobs.length=y.2.2.1.length)∧q=y.2.2.2∧True)∧Sched.mk c'=Sched.mk y.1∧c.J.jobs=y.2.1∧c'.J.jobs=y.2.2.1∧True)∧(c.J.jobs.length-y.2.2.2).toNat<(c.J.jobs.length-i).toNat:=by
  intro q hq
  rw [w64 (by omega)] at hq
  subst hq
  exact ⟨(c',c.J.jobs,c'.J.jobs,i+1),⟨rfl,rfl,rfl,by simp only [];omega,by simp only [];omega⟩,by simp,by simp only [];omega⟩
 have hb2:=low_body (now:=nowL c'.P.steps) (PWp:=PW c'.P) (FF:=k () (false,())) hs2.cw.2.2 (by rw [show nowL c'.P.steps=nowC c from hnow];exact ⟨k1,k2⟩) next
 exact ⟨⟨⟨⟨hb2,trivial⟩,trivial⟩,trivial⟩,⟨⟨⟨hb2,trivial⟩,trivial⟩,trivial⟩,trivial⟩
end Go.Ax.O
namespace Go.Ax.Law
def whatC (c:Core) (r:Req):Int:=
 if r.Kind≠1 then-1 else if (doS c r).1.Err≠0 then-1
 else match (foreC (doS c r).2).find? fun y=>decide (y.Id=(doS c r).1.Id) with |some y=>y.Start |none=> -1
end Go.Ax.Law
namespace Go.Ax.Sp
def sStarts:Sig:=⟨[(.obj .sched,true)],[.row .told37]⟩
def oStarts:sStarts.Out:=fun x k=>Law.OkS x.1.C∧k (x.1,()) (Law.foreC x.1.C,())
def sEmptyF:Sig:=⟨[(.obj .sched,true)],[.int .i64]⟩
def oEmptyF:sEmptyF.Out:=fun x k=>Law.OkS x.1.C∧k (x.1,()) (Law.emptyC x.1.C,())
def sWhat:Sig:=⟨[(.obj .sched,true),(.elem .req,false)],[.int .i64]⟩
def oWhat:sWhat.Out:=fun x k=>Law.OkS x.1.C∧k (x.1,()) (Law.whatC x.1.C x.2.1,())
def sForeD:Sig:=⟨[(.int .i64,false),(.imm .deed,false)],[.bool]⟩
def oForeD:sForeD.Out:=fun _ k=>k () (true,())
def lStarts:LoopAnn:={X:=Core × Core × List Job × List Told37 × Int,live:=fun x=>[(0,.ptr ⟨0,0,0,0⟩),(3,.ptr ⟨1,0,0,0⟩),(4,.sl 9 3 0 x.2.2.2.1.length),(22,.sl 8 10 0 x.2.2.1.length),(23,.int .i64 x.2.2.1.length),(24,.int .i64 x.2.2.2.2)],heap:=fun x=>[some (.obj .sched ⟨x.1⟩),some (.obj .sched ⟨x.2.1⟩),none,none,none,none,none,none,some (.row .job x.2.2.1),some (.row .told37 x.2.2.2.1)],norm:=[.fold 0 .sched,.fold 1 .sched,.row 4 .told37,.home 4 9]}
def lStartL:LoopAnn:={X:=Core × Core × List Job × List Told37 × Int,live:=fun x=>[(0,.ptr ⟨0,0,0,0⟩),(3,.ptr ⟨1,0,0,0⟩),(4,.sl 8 10 0 x.2.2.1.length),(5,.sl 9 3 0 x.2.2.2.1.length),(6,.int .i64 x.2.2.2.2)],heap:=fun x=>[some (.obj .sched ⟨x.1⟩),some (.obj .sched ⟨x.2.1⟩),none,none,none,none,none,none,some (.row .job x.2.2.1),some (.row .told37 x.2.2.2.1)],norm:=[.fold 0 .sched,.fold 1 .sched,.row 5 .told37,.home 5 9]}
def lEmptyF1:LoopAnn:={X:=Core × Int × List Told37 × Int,live:=fun x=>[(0,.ptr ⟨0,0,0,0⟩),(4,.int .i64 x.2.1),(40,.sl 2 3 0 x.2.2.1.length),(41,.int .i64 x.2.2.1.length),(42,.int .i64 x.2.2.2)],heap:=fun x=>[some (.obj .sched ⟨x.1⟩),none,some (.row .told37 x.2.2.1)],norm:=[.fold 0 .sched]}
def lWhat:LoopAnn:={X:=Core × Reply × List Told37 × Int,live:=fun x=>[(0,.ptr ⟨0,0,0,0⟩),(6,.ptr ⟨3,0,0,0⟩),(25,.sl 4 3 0 x.2.2.1.length),(26,.int .i64 x.2.2.1.length),(27,.int .i64 x.2.2.2)],heap:=fun x=>[some (.obj .sched ⟨x.1⟩),none,none,some (.raw (EK.enc .reply x.2.1)),some (.row .told37 x.2.2.1)],norm:=[.fold 0 .sched]}
def lEmptyF2:LoopAnn:={X:=Core × Int × List Job × Int,live:=fun x=>[(0,.ptr ⟨0,0,0,0⟩),(4,.int .i64 x.2.1),(59,.sl 8 10 0 x.2.2.1.length),(60,.int .i64 x.2.2.1.length),(61,.int .i64 x.2.2.2)],heap:=fun x=>[some (.obj .sched ⟨x.1⟩),none,none,none,none,none,none,none,some (.row .job x.2.2.1)],norm:=[.fold 0 .sched]}
def lForeS1:LoopAnn:={X:=Core × List Job × List Step × List Told37 × List Told37 × Int × Int,live:=fun x=>[(5,.ptr ⟨0,0,0,0⟩),(6,.sl 5 10 0 x.2.1.length),(7,.sl 6 2 0 x.2.2.1.length),(8,.sl 7 3 0 x.2.2.2.1.length),(9,.sl 8 3 0 x.2.2.2.2.1.length),(10,.int .i64 x.2.2.2.2.2.1),(11,.int .i64 x.2.2.2.2.2.2)],heap:=fun x=>[some (.obj .sched ⟨x.1⟩),none,none,none,none,some (.row .job x.2.1),some (.row .step x.2.2.1),some (.row .told37 x.2.2.2.1),some (.row .told37 x.2.2.2.2.1)],norm:=[.fold 0 .sched]}
def lForeS2:LoopAnn:={X:=Core × List Job × List Step × List Told37 × Int × List Job × Int,live:=fun x=>[(5,.ptr ⟨0,0,0,0⟩),(6,.sl 5 10 0 x.2.1.length),(7,.sl 6 2 0 x.2.2.1.length),(8,.sl 7 3 0 x.2.2.2.1.length),(10,.int .i64 x.2.2.2.2.1),(12,.sl 14 10 0 x.2.2.2.2.2.1.length),(13,.int .i64 x.2.2.2.2.2.2)],heap:=fun x=>[some (.obj .sched ⟨x.1⟩),none,none,none,none,some (.row .job x.2.1),some (.row .step x.2.2.1),some (.row .told37 x.2.2.2.1),none,none,none,none,none,none,some (.row .job x.2.2.2.2.2.1)],norm:=[.fold 0 .sched]}
end Go.Ax.Sp
namespace Go.Ax.V
open Go.Ax.Sp Go.Ax.Law List Int IntKind
set_option maxRecDepth 100000
def vStarts (s:Sched) (k:Sched × Unit→List Told37 × Unit→Prop):Prop:=
SH (sortJ (inJ s.C.J.jobs [1])) fun s0=>CW s.C∧OkS s.C∧JW s.C.J∧LP (Core × Core × List Job × List Told37 × Int) (fun x=>(0=0∧0=0∧(0=0∧0=length x.2.2.2.1)∧(0=0∧length s0=length x.2.2.1)∧LN s0=LN x.2.2.1∧0=x.2.2.2.2∧True)∧s=Sched.mk x.1∧Sched.mk (passS s.C 64).2=Sched.mk x.2.1∧s0=x.2.2.1∧[]=x.2.2.2.1∧True) fun I m x=>SH (length x.2.2.2.1) fun s1=>SH x.2.1.J.jobs fun s2=>SH x.2.2.1 fun s3=>SH x.2.2.2 fun s4=>SH (take s1 (drop 0 s4.1)) fun s5=>SH (Sched.mk x.2.1) fun s6=>SH (length s3) fun s7=>SH (s4.2+1) fun s8=>SH (NM s8 fun n=>NX I m x fun y=>(0=0∧0=0∧(0=0∧s1=length y.2.2.2.1)∧(0=0∧s7=length y.2.2.1)∧LN s3=LN y.2.2.1∧n=y.2.2.2.2∧True)∧Sched.mk x.1=Sched.mk y.1∧s6=Sched.mk y.2.1∧s3=y.2.2.1∧s4.1=y.2.2.2.1∧True) fun s9=>SH (s1+1≤68719476736) fun s10=>SH (0+s1≤s1) fun s11=>br (decide (s4.2<LN s3)) (AT s3 s4.2 fun e=>SH (getJ s2 e.Id).1 fun s12=>SH (s5++[Told37.mk s12.Id s12.Start s12.End]) fun s13=>SH (br (s12.State==3) (1≤1∧s11∧s10∧NM s8 fun n=>NX I m x fun y=>(0=0∧0=0∧(0=0∧s1+1=length y.2.2.2.1)∧(0=0∧s7=length y.2.2.1)∧LN s3=LN y.2.2.1∧n=y.2.2.2.2∧True)∧Sched.mk x.1=Sched.mk y.1∧s6=Sched.mk y.2.1∧s3=y.2.2.1∧s13=y.2.2.2.1∧True) (br (decide (s12.Plan≥0)) (NM (s12.Plan+s12.Limit) fun n=>1≤1∧s11∧s10∧NM s8 fun n_1=>NX I m x fun y=>(0=0∧0=0∧(0=0∧s1+1=length y.2.2.2.1)∧(0=0∧s7=length y.2.2.1)∧LN s3=LN y.2.2.1∧n_1=y.2.2.2.2∧True)∧Sched.mk x.1=Sched.mk y.1∧s6=Sched.mk y.2.1∧s3=y.2.2.1∧s5++[Told37.mk s12.Id s12.Plan n]=y.2.2.2.1∧True) s9)∧True) fun s14=>(JW x.2.1.J∧s14∧True)∧((JW x.2.1.J∧s14)∧True)∧True) (s1=s1∧k (Sched.mk x.1,()) (s4.1,()))
def vStartL (s:Sched) (k:Sched × Unit→List Told37 × Unit→Prop):Prop:=
SH (sortJ (inJ s.C.J.jobs [1])) fun s0=>CW s.C∧OkS s.C∧JW s.C.J∧LP (Core × Core × List Job × List Told37 × Int) (fun x=>(0=0∧0=0∧(0=0∧length s0=length x.2.2.1)∧(0=0∧0=length x.2.2.2.1)∧0=x.2.2.2.2∧True)∧s=Sched.mk x.1∧Sched.mk (passS s.C 64).2=Sched.mk x.2.1∧s0=x.2.2.1∧[]=x.2.2.2.1∧True) fun I m x=>SH (length x.2.2.2.1) fun s1=>SH x.2.1.J.jobs fun s2=>SH x.2.2.2 fun s3=>SH x.2.2.1 fun s4=>SH (take s1 (drop 0 s3.1)) fun s5=>SH (Sched.mk x.2.1) fun s6=>SH (length s4) fun s7=>SH (s3.2+1) fun s8=>SH (NM s8 fun n=>NX I m x fun y=>(0=0∧0=0∧(0=0∧s7=length y.2.2.1)∧(0=0∧s1=length y.2.2.2.1)∧n=y.2.2.2.2∧True)∧Sched.mk x.1=Sched.mk y.1∧s6=Sched.mk y.2.1∧s4=y.2.2.1∧s3.1=y.2.2.2.1∧True) fun s9=>SH (s1+1≤68719476736) fun s10=>SH (0+s1≤s1) fun s11=>br (decide (s3.2<LN s4)) (AT s4 s3.2 fun e=>SH (getJ s2 e.Id).1 fun s12=>SH (s5++[Told37.mk s12.Id s12.Start s12.End]) fun s13=>SH (br (s12.State==3) (1≤1∧s11∧s10∧NM s8 fun n=>NX I m x fun y=>(0=0∧0=0∧(0=0∧s7=length y.2.2.1)∧(0=0∧s1+1=length y.2.2.2.1)∧n=y.2.2.2.2∧True)∧Sched.mk x.1=Sched.mk y.1∧s6=Sched.mk y.2.1∧s4=y.2.2.1∧s13=y.2.2.2.1∧True) (br (decide (s12.Plan≥0)) (NM (s12.Plan+s12.Limit) fun n=>1≤1∧s11∧s10∧NM s8 fun n_1=>NX I m x fun y=>(0=0∧0=0∧(0=0∧s7=length y.2.2.1)∧(0=0∧s1+1=length y.2.2.2.1)∧n_1=y.2.2.2.2∧True)∧Sched.mk x.1=Sched.mk y.1∧s6=Sched.mk y.2.1∧s4=y.2.2.1∧s5++[Told37.mk s12.Id s12.Plan n]=y.2.2.2.1∧True) s9)∧True) fun s14=>(JW x.2.1.J∧s14∧True)∧((JW x.2.1.J∧s14)∧True)∧True) (s1=s1∧k (Sched.mk x.1,()) (s3.1,()))
def vEmptyF (s:Sched) (k:Sched × Unit→Int × Unit→Prop):Prop:=
OkS s.C∧JW s.C.J∧br (decide (LN (foreC s.C)<LN (sortJ (inJ s.C.J.jobs [1])))) (k (s,()) ((-1),())) (PW s.C.P∧LP (Core × Int × List Told37 × Int) (fun x=>(0=0∧nowL s.C.P.steps=x.2.1∧(0=0∧length (foreC s.C)=length x.2.2.1)∧LN (foreC s.C)=LN x.2.2.1∧0=x.2.2.2∧True)∧s=Sched.mk x.1∧foreC s.C=x.2.2.1∧True) fun I m x=>SH (inJ x.1.J.jobs [3]) fun s0=>br (decide (x.2.2.2<LN x.2.2.1)) (AT x.2.2.1 x.2.2.2 fun e=>NM (x.2.2.2+1) fun n=>NX I m x fun y=>(0=0∧(if e.End>x.2.1 then e.End else x.2.1)=y.2.1∧(0=0∧length x.2.2.1=length y.2.2.1)∧LN x.2.2.1=LN y.2.2.1∧n=y.2.2.2∧True)∧Sched.mk x.1=Sched.mk y.1∧x.2.2.1=y.2.2.1∧True) (1≤1∧(JW x.1.J∧1≤1000)∧LP (Core × Int × List Job × Int) (fun x_1=>(0=0∧x.2.1=x_1.2.1∧(0=0∧length s0=length x_1.2.2.1)∧LN s0=LN x_1.2.2.1∧0=x_1.2.2.2∧True)∧Sched.mk x.1=Sched.mk x_1.1∧s0=x_1.2.2.1∧True) fun I m x=>br (decide (x.2.2.2<LN x.2.2.1)) (AT x.2.2.1 x.2.2.2 fun e=>NM (x.2.2.2+1) fun n=>NX I m x fun y=>(0=0∧(if e.End>x.2.1 then e.End else x.2.1)=y.2.1∧(0=0∧length x.2.2.1=length y.2.2.1)∧LN x.2.2.1=LN y.2.2.1∧n=y.2.2.2∧True)∧Sched.mk x.1=Sched.mk y.1∧x.2.2.1=y.2.2.1∧True) (k (Sched.mk x.1,()) (x.2.1,()))))
def vWhat (s:Sched) (r:Req) (k:Sched × Unit→Int × Unit→Prop):Prop:=
SH (doS s.C r) fun s0=>CW s.C∧br (!r.Kind==1) (k (s,()) ((-1),())) (OkS s.C∧br (!s0.1.Err==0) (k (s,()) ((-1),())) (OkS s0.2∧LP (Core × Reply × List Told37 × Int) (fun x=>(0=0∧0=0∧(0=0∧length (foreC s0.2)=length x.2.2.1)∧LN (foreC s0.2)=LN x.2.2.1∧0=x.2.2.2∧True)∧s=Sched.mk x.1∧(s0.1.Err=x.2.1.Err∧s0.1.Id=x.2.1.Id∧s0.1.State=x.2.1.State∧s0.1.Start=x.2.1.Start∧s0.1.End=x.2.1.End∧s0.1.Plan=x.2.1.Plan∧s0.1.A=x.2.1.A∧s0.1.B=x.2.1.B∧s0.1.C=x.2.1.C∧True)∧foreC s0.2=x.2.2.1∧True) fun I m x=>br (decide (x.2.2.2<LN x.2.2.1)) (AT x.2.2.1 x.2.2.2 fun e=>br (e.Id==x.2.1.Id) (k (Sched.mk x.1,()) (e.Start,())) (NM (x.2.2.2+1) fun n=>NX I m x fun y=>(0=0∧0=0∧(0=0∧length x.2.2.1=length y.2.2.1)∧LN x.2.2.1=LN y.2.2.1∧n=y.2.2.2∧True)∧Sched.mk x.1=Sched.mk y.1∧(x.2.1.Err=y.2.1.Err∧x.2.1.Id=y.2.1.Id∧x.2.1.State=y.2.1.State∧x.2.1.Start=y.2.1.Start∧x.2.1.End=y.2.1.End∧x.2.1.Plan=y.2.1.Plan∧x.2.1.A=y.2.1.A∧x.2.1.B=y.2.1.B∧x.2.1.C=y.2.1.C∧True)∧x.2.2.1=y.2.2.1∧True)) (k (Sched.mk x.1,()) ((-1),()))))
def vAwakeF (u:Unit) (k:Unit→Bool × Unit→Prop):Prop:=
((4:Int)<1∨(64:Int)<4→k () (false,()))∧((1:Int)≤4∧(4:Int)≤64→OkS (newCore (4:Int))∧br (whatC (newCore (4:Int)) (Req.mk (1:Int) (0:Int) (0:Int) (4:Int) (9:Int) (0:Int) false (0:Int) (0:Int))==0) (k () (true,())) (k () (false,())))
end Go.Ax.V
namespace Go.Ax.Law
theorem foreJ_len (t:Core) (j:Job):(foreJ t j).length≤1:=by
 unfold foreJ;simp only [];split
 ·simp
 ·split<;>simp
theorem fore_flat (t:Core): ∀l:List Job,(l.flatMap (foreJ t)).length≤l.length
 | []=>by simp
 |j::l=>by
  have h1:=foreJ_len t j
  have h2:=fore_flat t l
  simp only [List.flatMap_cons,List.length_append,List.length_cons];omega
theorem wait_le64 {c:Core} (h:OkS c):(waitC c).length≤64:=by
 obtain ⟨n,m,h⟩:=h;exact wait_64 h.rep.deep
theorem fore_len {c:Core} (h:OkS c):(foreC c).length≤64:=by
 have h1:=fore_flat (passS c 64).2 (waitC c)
 have h2:=wait_le64 h
 unfold foreC;omega
theorem fore_start {c:Core} (h:OkS c): ∀y∈foreC c,nowC c≤y.Start:=by
 obtain ⟨⟨hl,hlow⟩,hnow⟩:=h.low 64
 have hp:=h.pass 64
 obtain ⟨n,m,hp⟩:=hp
 intro y hy
 unfold foreC at hy
 obtain ⟨j,hj,hy⟩:=List.mem_flatMap.1 hy
 obtain ⟨h1,h2⟩:=wait_mem hj
 obtain ⟨i,hi⟩:=List.getElem?_of_mem h1
 have hil:=(List.getElem?_eq_some_iff.1 hi).1
 have hb:(passS c 64).2.J.jobs[i]? =some (passS c 64).2.J.jobs[i]:=List.getElem?_eq_getElem (by omega)
 have hlo:=hlow i j _ hi hb
 have hid:=id_at h.cw hi
 have hg:getJ (passS c 64).2.J.jobs j.Id=((passS c 64).2.J.jobs[i],0):=getJ_at hb hid
 unfold foreJ at hy
 rw [hg] at hy
 simp only [] at hy
 rcases hlo.2 h2 with ⟨g1,g2⟩ |⟨g1,g2⟩
 ·rw [if_pos g1] at hy
  simp at hy;subst hy
  show nowC c≤_
  rw [g2];exact Int.le_refl _
 ·rw [if_neg (by omega)] at hy
  split at hy
  ·rename_i hpl
   simp at hy;subst hy
   have hd:=hp.rep.deep
   have:=hd.jobs _ (List.getElem_mem (by omega:i<(passS c 64).2.J.jobs.length))
   have:=(this.plan (planned_iff.2 ⟨g1,hpl⟩)).1
   rw [hnow] at this;exact this
  ·cases hy
end Go.Ax.Law
namespace Go.Ax.O
open Go.Ax.Sp Go.Ax.Law
theorem vStarts {s:Sched} {k:Sched × Unit→List Told37 × Unit→Prop} (h:oStarts (s,()) k):V.vStarts s k:=by
 obtain ⟨hs,h⟩:=h
 obtain ⟨c0⟩:=s
 replace hs:OkS c0:=hs
 have h:k (⟨c0⟩,()) (foreC c0,()):=h
 have h64:=wait_le64 hs
 have hp:=hs.pass 64
 unfold V.vStarts V.LP V.NX V.AT V.NM V.SH V.LN
 refine ⟨hs.cw,hs,hs.cw.1,fun x=>x.1=c0∧x.2.1=(passS c0 64).2∧x.2.2.1=waitC c0∧0≤x.2.2.2.2∧x.2.2.2.2≤(waitC c0).length∧x.2.2.2.1=((waitC c0).take x.2.2.2.2.toNat).flatMap (foreJ (passS c0 64).2)∧x.2.2.2.1.length≤x.2.2.2.2,fun x=>((waitC c0).length-x.2.2.2.2).toNat,
  (c0,(passS c0 64).2,waitC c0,[],0),⟨rfl,rfl,rfl,by simp,by simp only [];omega,by simp,by simp⟩,⟨⟨rfl,rfl,⟨rfl,rfl⟩,⟨rfl,rfl⟩,rfl,rfl,trivial⟩,rfl,rfl,rfl,rfl,trivial⟩,?_⟩
 rintro ⟨c,t,ws,out,i⟩ ⟨e0,e1,e2,g1,g2,e3,g3⟩
 simp only [] at e0 e1 e2 g1 g2 e3 g3
 subst e0 e1 e2
 refine br_dec (fun hl=>?_) (fun hl=>?_)
 ·have hl:i<((waitC c).length:Int):=hl
  refine ⟨⟨g1,hl⟩,by simp only [];omega,fun e he=>?_⟩
  have he:(waitC c)[i.toNat]? =some e:=by rw [←he];simp
  have htk:(waitC c).take (i.toNat+1)=(waitC c).take i.toNat++[e]:=by rw [List.take_add_one,he];simp
  have nx: ∀a b,a=i+1→b=out++foreJ (passS c 64).2 e→ ∃y:Core × Core × List Job × List Told37 × Int,(y.1=c∧y.2.1=(passS c 64).2∧y.2.2.1=waitC c∧0≤y.2.2.2.2∧y.2.2.2.2≤(waitC c).length∧y.2.2.2.1=((waitC c).take y.2.2.2.2.toNat).flatMap (foreJ (passS c 64).2)∧y.2.2.2.1.length≤y.2.2.2.2)∧y=(c,(passS c 64).2,waitC c,b,a)∧((waitC c).length-y.2.2.2.2).toNat<((waitC c).length-i).toNat:=fun a b h1 h2=>by
   subst h1 h2
   have:=foreJ_len (passS c 64).2 e
   refine ⟨_,⟨rfl,rfl,rfl,by simp only [];omega,by simp only [];omega,?_,by simp only [List.length_append];omega⟩,rfl,by simp only [];omega⟩
   simp only [];rw [show (i+1).toNat=i.toNat+1 by omega,htk,e3];simp
  have key: ∀{A:Prop},A→(JW (passS c 64).2.J∧(A∧True)∧True)∧((JW (passS c 64).2.J∧A∧True)∧True)∧True:=fun {A} ha=>⟨⟨hp.cw.1,⟨ha,trivial⟩,trivial⟩,⟨⟨hp.cw.1,ha,trivial⟩,trivial⟩,trivial⟩
  have hf:foreJ (passS c 64).2 e=if (getJ (passS c 64).2.J.jobs e.Id).1.State=3 then [⟨(getJ (passS c 64).2.J.jobs e.Id).1.Id,(getJ (passS c 64).2.J.jobs e.Id).1.Start,(getJ (passS c 64).2.J.jobs e.Id).1.End⟩] else if 0≤(getJ (passS c 64).2.J.jobs e.Id).1.Plan then [⟨(getJ (passS c 64).2.J.jobs e.Id).1.Id,(getJ (passS c 64).2.J.jobs e.Id).1.Plan,wr ((getJ (passS c 64).2.J.jobs e.Id).1.Plan+(getJ (passS c 64).2.J.jobs e.Id).1.Limit)⟩] else []:=rfl
  refine key (br_eq (fun h3=>⟨Nat.le_refl _,by simp,by simp only [];omega,fun q hq=>?_⟩) (fun h3=>br_dec (fun h4 p hp=>⟨Nat.le_refl _,by simp,by simp only [];omega,fun q hq=>?_⟩) (fun h4 q hq=>?_)))
  ·rw [w64 (by simp only [];omega)] at hq
   replace hq:q=i+1:=hq
   replace h3:(getJ (passS c 64).2.J.jobs e.Id).1.State=3:=h3
   obtain ⟨y,hy,hye,hm⟩:=nx q _ hq rfl
   rw [hf,if_pos h3] at hye
   exact ⟨y,hy,by rw [hye];simp,hm⟩
  ·rw [w64 (by simp only [];omega)] at hq
   replace hq:q=i+1:=hq
   replace h3: ¬ (getJ (passS c 64).2.J.jobs e.Id).1.State=3:=h3
   replace h4:0≤(getJ (passS c 64).2.J.jobs e.Id).1.Plan:=h4
   obtain ⟨y,hy,hye,hm⟩:=nx q _ hq rfl
   rw [hf,if_neg h3,if_pos h4] at hye
   exact ⟨y,hy,by rw [hye,hp];simp [wr],hm⟩
  ·rw [w64 (by simp only [];omega)] at hq
   replace hq:q=i+1:=hq
   replace h3: ¬ (getJ (passS c 64).2.J.jobs e.Id).1.State=3:=h3
   replace h4: ¬ 0≤(getJ (passS c 64).2.J.jobs e.Id).1.Plan:=h4
   obtain ⟨y,hy,hye,hm⟩:=nx q _ hq rfl
   rw [hf,if_neg h3,if_neg h4,List.append_nil] at hye
   exact ⟨y,hy,by rw [hye];simp,hm⟩
 ·have hl: ¬ i<((waitC c).length:Int):=hl
  rw [List.take_of_length_le (by omega)] at e3
  refine ⟨rfl,?_⟩
  rw [show foreC c=out from e3.symm] at h
  exact h
theorem vStartL {s:Sched} {k:Sched × Unit→List Told37 × Unit→Prop} (h:oStarts (s,()) k):V.vStartL s k:=by
 obtain ⟨hs,h⟩:=h
 obtain ⟨c0⟩:=s
 replace hs:OkS c0:=hs
 have h:k (⟨c0⟩,()) (foreC c0,()):=h
 have h64:=wait_le64 hs
 have hp:=hs.pass 64
 unfold V.vStartL V.LP V.NX V.AT V.NM V.SH V.LN
 refine ⟨hs.cw,hs,hs.cw.1,fun x=>x.1=c0∧x.2.1=(passS c0 64).2∧x.2.2.1=waitC c0∧0≤x.2.2.2.2∧x.2.2.2.2≤(waitC c0).length∧x.2.2.2.1=((waitC c0).take x.2.2.2.2.toNat).flatMap (foreJ (passS c0 64).2)∧x.2.2.2.1.length≤x.2.2.2.2,fun x=>((waitC c0).length-x.2.2.2.2).toNat,
  (c0,(passS c0 64).2,waitC c0,[],0),⟨rfl,rfl,rfl,by simp,by simp only [];omega,by simp,by simp⟩,⟨⟨rfl,rfl,⟨rfl,rfl⟩,⟨rfl,rfl⟩,rfl,trivial⟩,rfl,rfl,rfl,rfl,trivial⟩,?_⟩
 rintro ⟨c,t,ws,out,i⟩ ⟨e0,e1,e2,g1,g2,e3,g3⟩
 simp only [] at e0 e1 e2 g1 g2 e3 g3
 subst e0 e1 e2
 refine br_dec (fun hl=>?_) (fun hl=>?_)
 ·have hl:i<((waitC c).length:Int):=hl
  refine ⟨⟨g1,hl⟩,by simp only [];omega,fun e he=>?_⟩
  have he:(waitC c)[i.toNat]? =some e:=by rw [←he];simp
  have htk:(waitC c).take (i.toNat+1)=(waitC c).take i.toNat++[e]:=by rw [List.take_add_one,he];simp
  have nx: ∀a b,a=i+1→b=out++foreJ (passS c 64).2 e→ ∃y:Core × Core × List Job × List Told37 × Int,(y.1=c∧y.2.1=(passS c 64).2∧y.2.2.1=waitC c∧0≤y.2.2.2.2∧y.2.2.2.2≤(waitC c).length∧y.2.2.2.1=((waitC c).take y.2.2.2.2.toNat).flatMap (foreJ (passS c 64).2)∧y.2.2.2.1.length≤y.2.2.2.2)∧y=(c,(passS c 64).2,waitC c,b,a)∧((waitC c).length-y.2.2.2.2).toNat<((waitC c).length-i).toNat:=fun a b h1 h2=>by
   subst h1 h2
   have:=foreJ_len (passS c 64).2 e
   refine ⟨_,⟨rfl,rfl,rfl,by simp only [];omega,by simp only [];omega,?_,by simp only [List.length_append];omega⟩,rfl,by simp only [];omega⟩
   simp only [];rw [show (i+1).toNat=i.toNat+1 by omega,htk,e3];simp
  have key: ∀{A:Prop},A→(JW (passS c 64).2.J∧(A∧True)∧True)∧((JW (passS c 64).2.J∧A∧True)∧True)∧True:=fun {A} ha=>⟨⟨hp.cw.1,⟨ha,trivial⟩,trivial⟩,⟨⟨hp.cw.1,ha,trivial⟩,trivial⟩,trivial⟩
  have hf:foreJ (passS c 64).2 e=if (getJ (passS c 64).2.J.jobs e.Id).1.State=3 then [⟨(getJ (passS c 64).2.J.jobs e.Id).1.Id,(getJ (passS c 64).2.J.jobs e.Id).1.Start,(getJ (passS c 64).2.J.jobs e.Id).1.End⟩] else if 0≤(getJ (passS c 64).2.J.jobs e.Id).1.Plan then [⟨(getJ (passS c 64).2.J.jobs e.Id).1.Id,(getJ (passS c 64).2.J.jobs e.Id).1.Plan,wr ((getJ (passS c 64).2.J.jobs e.Id).1.Plan+(getJ (passS c 64).2.J.jobs e.Id).1.Limit)⟩] else []:=rfl
  refine key (br_eq (fun h3=>⟨Nat.le_refl _,by simp,by simp only [];omega,fun q hq=>?_⟩) (fun h3=>br_dec (fun h4 p hp=>⟨Nat.le_refl _,by simp,by simp only [];omega,fun q hq=>?_⟩) (fun h4 q hq=>?_)))
  ·rw [w64 (by simp only [];omega)] at hq
   replace hq:q=i+1:=hq
   replace h3:(getJ (passS c 64).2.J.jobs e.Id).1.State=3:=h3
   obtain ⟨y,hy,hye,hm⟩:=nx q _ hq rfl
   rw [hf,if_pos h3] at hye
   exact ⟨y,hy,by rw [hye];simp,hm⟩
  ·rw [w64 (by simp only [];omega)] at hq
   replace hq:q=i+1:=hq
   replace h3: ¬ (getJ (passS c 64).2.J.jobs e.Id).1.State=3:=h3
   replace h4:0≤(getJ (passS c 64).2.J.jobs e.Id).1.Plan:=h4
   obtain ⟨y,hy,hye,hm⟩:=nx q _ hq rfl
   rw [hf,if_neg h3,if_pos h4] at hye
   exact ⟨y,hy,by rw [hye,hp];simp [wr],hm⟩
  ·rw [w64 (by simp only [];omega)] at hq
   replace hq:q=i+1:=hq
   replace h3: ¬ (getJ (passS c 64).2.J.jobs e.Id).1.State=3:=h3
   replace h4: ¬ 0≤(getJ (passS c 64).2.J.jobs e.Id).1.Plan:=h4
   obtain ⟨y,hy,hye,hm⟩:=nx q _ hq rfl
   rw [hf,if_neg h3,if_neg h4,List.append_nil] at hye
   exact ⟨y,hy,by rw [hye];simp,hm⟩
 ·have hl: ¬ i<((waitC c).length:Int):=hl
  rw [List.take_of_length_le (by omega)] at e3
  refine ⟨rfl,?_⟩
  rw [show foreC c=out from e3.symm] at h
  exact h
theorem maxE_if (a b:Int):(if b>a then b else a)=max a b:=by split<;>omega
theorem fold_step {α:Type} {l:List α} {f:Int→α→Int} {i:Int} {e:α} {t0:Int} (h0:0≤i) (he:l[i.toNat]? =some e):(l.take (i+1).toNat).foldl f t0=f ((l.take i.toNat).foldl f t0) e:=by
 rw [show (i+1).toNat=i.toNat+1 by omega,List.take_add_one,he];simp
theorem vEmptyF {s:Sched} {k:Sched × Unit→Int × Unit→Prop} (h:oEmptyF (s,()) k):V.vEmptyF s k:=by
 obtain ⟨hs,h⟩:=h
 obtain ⟨c0⟩:=s
 replace hs:OkS c0:=hs
 have h:k (⟨c0⟩,()) (emptyC c0,()):=h
 have h64:=fore_len hs
 have hjl:=hs.cw.1.2.1
 unfold emptyC at h
 unfold V.vEmptyF V.LP V.NX V.AT V.NM V.SH V.LN
 refine ⟨hs,hs.cw.1,br_dec (fun hl=>?_) (fun hl=>⟨hs.cw.2.2,?_⟩)⟩
 ·have hl:((foreC c0).length:Int)<((waitC c0).length:Int):=hl
  rw [if_pos (by omega)] at h;exact h
 have hl: ¬ ((foreC c0).length:Int)<((waitC c0).length:Int):=hl
 rw [if_neg (by omega)] at h
 refine ⟨fun x=>x.1=c0∧x.2.2.1=foreC c0∧0≤x.2.2.2∧x.2.2.2≤(foreC c0).length∧x.2.1=((foreC c0).take x.2.2.2.toNat).foldl (fun t x=>max t x.End) (nowC c0),fun x=>((foreC c0).length-x.2.2.2).toNat,(c0,nowC c0,foreC c0,0),⟨rfl,rfl,by simp,by simp only [];omega,by simp⟩,⟨⟨rfl,rfl,⟨rfl,rfl⟩,rfl,rfl,trivial⟩,rfl,rfl,trivial⟩,?_⟩
 rintro ⟨c,t,l,i⟩ ⟨e0,e1,g1,g2,e3⟩
 simp only [] at e0 e1 g1 g2 e3
 subst e0 e1
 refine br_dec (fun hi=>?_) (fun hi=>?_)
 ·have hi:i<((foreC c).length:Int):=hi
  refine ⟨⟨g1,hi⟩,by simp only [];omega,fun e he q hq=>?_⟩
  have he:(foreC c)[i.toNat]? =some e:=by rw [←he];simp
  rw [w64 (by simp only [];omega)] at hq
  replace hq:q=i+1:=hq
  subst hq
  exact ⟨(c,max t e.End,foreC c,i+1),⟨rfl,rfl,by simp only [];omega,by simp only [];omega,by simp only [];rw [fold_step g1 he,←e3]⟩,⟨⟨rfl,maxE_if t e.End,⟨rfl,rfl⟩,rfl,rfl,trivial⟩,rfl,rfl,trivial⟩,by simp only [];omega⟩
 ·have hi: ¬ i<((foreC c).length:Int):=hi
  rw [List.take_of_length_le (by omega)] at e3
  have hil:(inJ c.J.jobs [3]).length≤1024:=by unfold inJ;exact Nat.le_trans (List.length_filter_le _ _) hjl
  refine ⟨Nat.le_refl _,⟨hs.cw.1,by omega⟩,fun x=>x.1=c∧x.2.2.1=inJ c.J.jobs [3]∧0≤x.2.2.2∧x.2.2.2≤(inJ c.J.jobs [3]).length∧x.2.1=((inJ c.J.jobs [3]).take x.2.2.2.toNat).foldl (fun t x=>max t x.End) t,fun x=>((inJ c.J.jobs [3]).length-x.2.2.2).toNat,(c,t,inJ c.J.jobs [3],0),⟨rfl,rfl,by simp,by simp only [];omega,by simp⟩,⟨⟨rfl,rfl,⟨rfl,rfl⟩,rfl,rfl,trivial⟩,rfl,rfl,trivial⟩,?_⟩
  rintro ⟨c',t',l',j⟩ ⟨e0,e1,g4,g5,e4⟩
  simp only [] at e0 e1 g4 g5 e4
  subst e0 e1
  refine br_dec (fun hj=>?_) (fun hj=>?_)
  ·have hj:j<((inJ c'.J.jobs [3]).length:Int):=hj
   refine ⟨⟨g4,hj⟩,by simp only [];omega,fun e he q hq=>?_⟩
   have he:(inJ c'.J.jobs [3])[j.toNat]? =some e:=by rw [←he];simp
   rw [w64 (by simp only [];omega)] at hq
   replace hq:q=j+1:=hq
   subst hq
   exact ⟨(c',max t' e.End,inJ c'.J.jobs [3],j+1),⟨rfl,rfl,by simp only [];omega,by simp only [];omega,by simp only [];rw [fold_step g4 he,←e4]⟩,⟨⟨rfl,maxE_if t' e.End,⟨rfl,rfl⟩,rfl,rfl,trivial⟩,rfl,rfl,trivial⟩,by simp only [];omega⟩
  ·have hj: ¬ j<((inJ c'.J.jobs [3]).length:Int):=hj
   rw [List.take_of_length_le (by omega)] at e4
   rw [←e3,←e4] at h;exact h
theorem vWhat {s:Sched} {r:Req} {k:Sched × Unit→Int × Unit→Prop} (h:oWhat (s,r,()) k):V.vWhat s r k:=by
 obtain ⟨hs,h⟩:=h
 obtain ⟨c0⟩:=s
 replace hs:OkS c0:=hs
 have h:k (⟨c0⟩,()) (whatC c0 r,()):=h
 have hd:=hs.step r
 have h64:=fore_len hd
 unfold whatC at h
 unfold V.vWhat V.LP V.NX V.AT V.NM V.SH V.LN
 refine ⟨hs.cw,br_ne (fun hh=>?_) (fun hh=>⟨hs,br_ne (fun h2=>?_) (fun h2=>⟨hd,?_⟩)⟩)⟩
 ·rw [if_pos hh] at h;exact h
 ·rw [if_neg (by simpa using hh),if_pos h2] at h;exact h
 rw [if_neg (by simpa using hh),if_neg (by simpa using h2)] at h
 generalize doS c0 r=d at h hd h64 ⊢
 obtain ⟨rp,c1⟩:=d
 simp only [] at h hd h64 ⊢
 generalize foreC c1=l at h h64 ⊢
 refine ⟨fun x=>x.1=c0∧x.2.1=rp∧x.2.2.1=l∧0≤x.2.2.2∧x.2.2.2≤l.length∧(l.drop x.2.2.2.toNat).find? (fun y=>decide (y.Id=rp.Id))=l.find? (fun y=>decide (y.Id=rp.Id)),fun x=>(l.length-x.2.2.2).toNat,(c0,rp,l,0),⟨rfl,rfl,rfl,by simp,by simp only [];omega,by simp⟩,by simp,?_⟩
 rintro ⟨c,rp',l',i⟩ ⟨e0,e1,e2,g1,g2,e4⟩
 simp only [] at e0 e1 e2 g1 g2 e4
 subst e0 e1 e2
 refine br_dec (fun hl=>?_) (fun hl=>?_)
 ·have hl:i<(l'.length:Int):=hl
  refine ⟨⟨g1,hl⟩,by simp only [];omega,fun e he=>?_⟩
  have he:l'[i.toNat]? =some e:=by rw [←he];simp
  have hdr:l'.drop i.toNat=e::l'.drop (i.toNat+1):=by
   rw [List.drop_eq_getElem_cons (by omega)]
   rw [List.getElem?_eq_getElem (by omega)] at he
   simp at he;rw [he]
  rw [hdr,List.find?_cons] at e4
  refine br_eq (fun hi=>?_) (fun hi=>?_)
  ·have hi:e.Id=rp'.Id:=hi
   simp only [hi,decide_true] at e4
   rw [←e4] at h;exact h
  ·have hi: ¬ e.Id=rp'.Id:=hi
   simp only [hi,decide_false] at e4
   intro q hq
   rw [w64 (by simp only [];omega)] at hq
   replace hq:q=i+1:=hq
   subst hq
   exact ⟨(c,rp',l',i+1),⟨rfl,rfl,rfl,by simp only [];omega,by simp only [];omega,by simp only [];rw [show (i+1).toNat=i.toNat+1 by omega];exact e4⟩,by simp,by simp only [];omega⟩
 ·have hl: ¬ i<(l'.length:Int):=hl
  rw [List.drop_of_length_le (by omega)] at e4
  rw [←e4] at h;exact h
theorem awF_wait:waitC (doS (newCore 4) ⟨1,0,0,4,9,0,false,0,0⟩).2=inJ (doS (newCore 4) ⟨1,0,0,4,9,0,false,0,0⟩).2.J.jobs [1]:=by
 refine List.mergeSort_of_pairwise ?_
 have e:inJ (doS (newCore 4) ⟨1,0,0,4,9,0,false,0,0⟩).2.J.jobs [1]=[⟨1,0,4,9,0,1,-1,-1,-1,0⟩]:=by kernel_rfl
 rw [e]
 decide
theorem awF_what:whatC (newCore 4) ⟨1,0,0,4,9,0,false,0,0⟩=0:=by
 unfold whatC foreC passS itemsC
 rw [awF_wait]
 kernel_rfl
theorem vAwakeF {u:Unit} {k:Unit→Bool × Unit→Prop} (h:oYes u k):V.vAwakeF u k:=by
 have h:k () (true,()):=h
 unfold V.vAwakeF
 exact ⟨fun hn=>by omega,fun _=>⟨⟨_,_,new_stb (n:=4) (by decide) (by decide)⟩,br_eq (fun _=>h) (fun hh=>absurd awF_what hh)⟩⟩
end Go.Ax.O
