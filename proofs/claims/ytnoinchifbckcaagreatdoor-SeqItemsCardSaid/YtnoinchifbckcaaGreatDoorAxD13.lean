import Derived.Test.YtnoinchifbckcaaGreatDoorAxD12
set_option linter.all false
namespace Go.Ax.Law
open Go.Ax.O
def evsJ (j:Job):List Int:=if j.State=3 then [j.End] else if plannedJ j then [j.Plan,j.Plan+j.Limit] else []
def evs (l:List Job):List Int:=l.flatMap evsJ
theorem evs_len (l:List Job):(evs l).length≤2*l.length:=by
  unfold evs
  induction l with
  |nil=>simp
  |cons j r ih=>
    simp only [List.flatMap_cons,List.length_append,List.length_cons]
    have:(evsJ j).length≤2:=by
      unfold evsJ
      split
      · simp
      · split<;>simp
    omega
theorem take_same {n:Nat} {d:Nat→Bool} {t u:Int} {j:Job} (htu:t≤u) (h: ∀e∈evsJ j,¬(t<e∧e≤u)):takeJ n d u j=takeJ n d t j:=by
  unfold takeJ planAt
  unfold evsJ at h
  by_cases h3:j.State=3
  · rw [if_pos h3] at h ⊢
    rw [if_pos h3]
    have:=h j.End (by simp)
    by_cases he:t<j.End
    · rw [if_pos he,if_pos (by omega)]
    · rw [if_neg he,if_neg (by omega)]
  · rw [if_neg h3] at h ⊢
    rw [if_neg h3]
    by_cases hp:plannedJ j=true
    · rw [if_pos hp] at h
      have h1:=h j.Plan (by simp)
      have h2:=h (j.Plan+j.Limit) (by simp)
      by_cases h0:j.Id≠0
      · by_cases hc:j.Plan≤t∧t<j.Plan+j.Limit
        · rw [if_pos ⟨hp,h0,by omega,by omega⟩,if_pos ⟨hp,h0,hc.1,hc.2⟩]
        · rw [if_neg (fun g=>by have:=g.2.2.1;have:=g.2.2.2;omega),if_neg (fun g=>hc ⟨g.2.2.1,g.2.2.2⟩)]
      · rw [if_neg (fun g=>h0 g.2.1),if_neg (fun g=>h0 g.2.1)]
    · rw [if_neg (fun g=>hp g.1),if_neg (fun g=>hp g.1)]
theorem req_same {n:Nat} {d:Nat→Bool} {t u:Int} (htu:t≤u): ∀{l:List Job},(∀e∈evs l,¬(t<e∧e≤u))→reqF n d l u=reqF n d l t:=by
  intro l h
  unfold reqF
  have:sumT n d u l=sumT n d t l:=by
    induction l with
    |nil=>rfl
    |cons j r ih=>
      simp only [sumT]
      rw [take_same htu fun e he=>h e (by unfold evs;simp only [List.flatMap_cons,List.mem_append];exact .inl he),ih fun e he=>h e (by unfold evs;simp only [List.flatMap_cons,List.mem_append];exact .inr he)]
  rw [this]
theorem sooner_spec {b t last:Int} (h0:0≤last) (P:Int→Prop) (hb:(b= -1∧ ∀e,P e→ ¬ last<e)∨(last<b∧P b∧ ∀e,P e→last<e→b≤e)):
    (sooner b t last= -1∧ ∀e,(P e∨e=t)→ ¬ last<e)∨(last<sooner b t last∧(P (sooner b t last)∨sooner b t last=t)∧ ∀e,(P e∨e=t)→last<e→sooner b t last≤e):=by
  unfold sooner
  rcases hb with ⟨rfl,h1⟩ |⟨h1,h2,h3⟩
  · by_cases hc:last<t
    · rw [if_pos ⟨hc,.inl (by omega)⟩]
      refine .inr ⟨hc,.inr rfl,fun e he hl=>?_⟩
      rcases he with he |rfl
      · exact absurd hl (h1 e he)
      · omega
    · rw [if_neg (fun g=>hc g.1)]
      refine .inl ⟨rfl,fun e he=>?_⟩
      rcases he with he |rfl
      · exact h1 e he
      · exact hc
  · by_cases hc:last<t∧(b<0∨t<b)
    · rw [if_pos hc]
      refine .inr ⟨hc.1,.inr rfl,fun e he hl=>?_⟩
      rcases he with he |rfl
      · have:=h3 e he hl;omega
      · omega
    · rw [if_neg hc]
      refine .inr ⟨h1,.inl h2,fun e he hl=>?_⟩
      rcases he with he |rfl
      · exact h3 e he hl
      · omega
def BestAt (last b:Int) (P:Int→Prop):Prop:=(b= -1∧ ∀e,P e→ ¬ last<e)∨(last<b∧P b∧ ∀e,P e→last<e→b≤e)
theorem BestAt.congr {last b:Int} {P Q:Int→Prop} (h:BestAt last b P) (he: ∀e,P e↔Q e):BestAt last b Q:=by
  rcases h with ⟨h1,h2⟩ |⟨h1,h2,h3⟩
  · exact .inl ⟨h1,fun e hq=>h2 e ((he e).2 hq)⟩
  · exact .inr ⟨h1,(he b).1 h2,fun e hq=>h3 e ((he e).2 hq)⟩
theorem best1_spec {last b:Int} (h0:0≤last) {P:Int→Prop} (hb:BestAt last b P) (j:Job):BestAt last (best1 last b j) (fun e=>P e∨e∈evsJ j):=by
  unfold best1 evsJ
  by_cases h3:j.State=3
  · have hp:plannedJ j=false:=planned_not.2 (.inl (by omega))
    simp only [h3,if_true,hp,if_false,Bool.false_eq_true]
    exact BestAt.congr (sooner_spec h0 P hb) fun e=>by simp
  · simp only [h3,if_false]
    cases hp:plannedJ j with
    |false=>
      simp only [if_false,Bool.false_eq_true]
      exact hb.congr fun e=>by simp
    |true=>
      simp only [if_true]
      have h1:=sooner_spec (t:=j.Plan) h0 P hb
      have h2:=sooner_spec (t:=j.Plan+j.Limit) h0 _ h1
      exact BestAt.congr h2 fun e=>by simp [or_assoc]
theorem bestF_spec {last:Int} (h0:0≤last): ∀(l:List Job) {b:Int} {P:Int→Prop},BestAt last b P→BestAt last (l.foldl (best1 last) b) (fun e=>P e∨e∈evs l)
  | [],b,P,hb=>hb.congr fun e=>by simp [evs]
  |j::r,b,P,hb=>by
    simp only [List.foldl_cons]
    exact (bestF_spec h0 r (best1_spec h0 hb j)).congr fun e=>by simp [evs,or_assoc]
theorem bestT_spec {last:Int} (h0:0≤last) (l:List Job):BestAt last (bestT l last) (fun e=>e∈evs l):=by
  have:=bestF_spec h0 l (b:= -1) (P:=fun _=>False) (.inl ⟨rfl,fun e h=>h.elim⟩)
  exact this.congr fun e=>by simp
theorem timesF_spec {l:List Job}: ∀(f:Nat) {last:Int},0≤last→(evs l).countP (fun e=>decide (last<e))≤f→
    (∀t,t∈timesF l f last↔last<t∧t∈evs l)∧(timesF l f last).Pairwise (fun a b=>a<b)
  |0,last,h0,hf=>by
    refine ⟨fun t=>⟨fun h=>by simp [timesF] at h,fun ⟨h1,h2⟩=>?_⟩,by simp [timesF]⟩
    have:=List.countP_eq_zero.1 (Nat.le_zero.1 hf) t h2
    simp at this;omega
  |f+1,last,h0,hf=>by
    have hb:=bestT_spec h0 l
    simp only [timesF]
    rcases hb with ⟨h1,h2⟩ |⟨h1,h2,h3⟩
    · rw [h1,if_pos (by omega)]
      exact ⟨fun t=>⟨fun h=>by simp at h,fun ⟨a,b⟩=>absurd a (h2 t b)⟩,by simp⟩
    · rw [if_neg (by omega)]
      generalize bestT l last=b at*
      have hcnt:(evs l).countP (fun e=>decide (b<e))<(evs l).countP (fun e=>decide (last<e)):=by
        have hle:(evs l).countP (fun e=>decide (b<e))+(evs l).countP (fun e=>decide (e=b))≤(evs l).countP (fun e=>decide (last<e)):=by
          have gen: ∀(xs:List Int),xs.countP (fun e=>decide (b<e))+xs.countP (fun e=>decide (e=b))≤xs.countP (fun e=>decide (last<e)):=by
            intro xs
            induction xs with
            |nil=>simp
            |cons x r ih=>
              simp only [List.countP_cons,decide_eq_true_eq]
              by_cases c1:b<x
              · rw [if_pos c1,if_neg (by omega),if_pos (by omega)];omega
              · by_cases c2:x=b
                · rw [if_neg c1,if_pos c2,if_pos (by omega)];omega
                · rw [if_neg c1,if_neg c2];omega
          exact gen _
        have:0<(evs l).countP (fun e=>decide (e=b)):=List.countP_pos_iff.2 ⟨b,h2,by simp⟩
        omega
      obtain ⟨i1,i2⟩:=timesF_spec (l:=l) f (last:=b) (by omega) (by omega)
      refine ⟨fun t=>?_,List.pairwise_cons.2 ⟨fun t ht=>((i1 t).1 ht).1,i2⟩⟩
      simp only [List.mem_cons,i1]
      constructor
      · rintro (rfl |⟨a1,a2⟩)
        · exact ⟨h1,h2⟩
        · exact ⟨by omega,a2⟩
      · rintro ⟨a1,a2⟩
        have:=h3 t a2 a1
        by_cases hc:t=b
        · exact .inl hc
        · exact .inr ⟨by omega,a2⟩
theorem times_spec {n:Nat} {c:Core} {m:Model} (h:Rep n c m):(∀t,t∈timesM m↔t=nowC c∨(nowC c<t∧t∈evs c.J.jobs))∧(timesM m).Pairwise (fun a b=>a<b):=by
  have:=timesF_spec (l:=c.J.jobs) (2*c.J.jobs.length) (last:=nowC c) h.deep.nw.1 (Nat.le_trans List.countP_le_length (evs_len _))
  unfold timesM
  rw [h.now,h.jobs]
  refine ⟨fun t=>by simp only [List.mem_cons,this.1],List.pairwise_cons.2 ⟨fun t ht=>((this.1 t).1 ht).1,this.2⟩⟩
theorem atF_append {s:Step}: ∀{l:List Step} {v t:Int},(∀x∈l,x.At<s.At)→atF v (l++[s]) t=if s.At≤t then s.Free else atF v l t
  | [],v,t,_=>rfl
  |a::r,v,t,h=>by
    have ha:=h a (by simp)
    simp only [List.cons_append,atF]
    rw [atF_append fun x hx=>h x (by simp [hx])]
    by_cases hs:s.At≤t
    · rw [if_pos hs,if_pos (by omega),if_pos hs]
    · rw [if_neg hs,if_neg hs]
theorem free_append {l:List Step} {s:Step} (hr:Rising (l++[s])) (hne:l≠[]) (t:Int):freeL (l++[s]) t=if s.At≤t then s.Free else freeL l t:=by
  cases l with
  |nil=>exact absurd rfl hne
  |cons a r=>
    have h1:Rising (a::r):=List.Pairwise.sublist (List.sublist_append_left _ _) hr
    have hs: ∀x∈a::r,x.At<s.At:=fun x hx=>(List.pairwise_append.1 hr).2.2 x hx s (by simp)
    rw [free_atF h1]
    simp only [List.cons_append] at hr ⊢
    rw [free_atF hr,atF_append fun x hx=>hs x (by simp [hx])]
theorem canon_append {l:List Step} {s q:Step} (h:Canon l) (hl:l.getLast?=some q) (hne:q.Free≠s.Free):Canon (l++[s]):=by
  induction l with
  |nil=>trivial
  |cons a r ih=>
    cases r with
    |nil=>
      simp at hl;subst hl
      exact ⟨hne,trivial⟩
    |cons b r=>exact ⟨h.1,ih h.2 (by simpa using hl)⟩
theorem free_last {l:List Step} (hr:Rising l) {q:Step} (hl:l.getLast?=some q) {t:Int} (ht:q.At≤t):freeL l t=q.Free:=by
  rw [List.getLast?_eq_getElem?] at hl
  exact free_get hr hl ht fun s' hs=>by
    have h1:=(List.getElem?_eq_some_iff.1 hs).1
    have h2:=(List.getElem?_eq_some_iff.1 hl).1
    omega
structure Made (F:Int→Int) (now t:Int) (out:List Step):Prop where
  ne:out≠[]
  rise:Rising out
  canon:Canon out
  nw:nowL out=now
  le: ∀s∈out,s.At≤t
  val: ∀u,now≤u→u≤t→freeL out u=F u
theorem Made.step {m:Model} {now t t':Int} {out:List Step} (h:Made (fun u=>freeM m u 0) now t out) (hnt:now≤t) (htt:t<t') (hF: ∀u,t≤u→u<t'→freeM m u 0=freeM m t 0):Made (fun u=>freeM m u 0) now t' (step1 m out t'):=by
  obtain ⟨q,hq⟩: ∃q,out.getLast?=some q:=by
    cases hl:out.getLast? with
    |none=>exact absurd (List.getLast?_eq_none_iff.1 hl) h.ne
    |some q=>exact ⟨q,rfl⟩
  have hqm:=List.mem_of_getLast? hq
  have hqt:=h.le q hqm
  have hqF:q.Free=freeM m t 0:=by rw [←free_last h.rise hq hqt];exact h.val t hnt (Int.le_refl _)
  have mid: ∀u,now≤u→u<t'→freeL out u=freeM m u 0:=fun u h1 h2=>by
    by_cases hc:u≤t
    · exact h.val u h1 hc
    · rw [free_last h.rise hq (by omega),hF u (by omega) h2,hqF]
  unfold step1
  rw [hq]
  simp only []
  by_cases he:q.Free=freeM m t' 0
  · rw [if_pos he]
    refine ⟨h.ne,h.rise,h.canon,h.nw,fun s hs=>by have:=h.le s hs;omega,fun u h1 h2=>?_⟩
    by_cases hc:u<t'
    · exact mid u h1 hc
    · have:u=t':=by omega
      subst this
      rw [free_last h.rise hq (by omega),he]
  · rw [if_neg he]
    have hr:Rising (out++[⟨t',freeM m t' 0⟩]):=List.pairwise_append.2 ⟨h.rise,by simp,fun a ha b hb=>by
      simp at hb;subst hb
      have:=h.le a ha
      simp only [];omega⟩
    refine ⟨by simp,hr,canon_append h.canon hq he,?_,fun s hs=>?_,fun u h1 h2=>?_⟩
    · cases ho:out with
      |nil=>exact absurd ho h.ne
      |cons a r=>have:=h.nw;rw [ho] at this;exact this
    · rcases List.mem_append.1 hs with hs |hs
      · have:=h.le s hs;omega
      · simp at hs;subst hs;exact Int.le_refl _
    · rw [free_append hr h.ne]
      simp only []
      by_cases hc:t'≤u
      · have:u=t':=by omega
        subst this
        rw [if_pos (Int.le_refl _)]
      · rw [if_neg hc];exact mid u h1 (by omega)
theorem made_all {m:Model} {now:Int} {E:Int→Prop} (hE: ∀t u,now≤t→t≤u→(∀e,E e→ ¬(t<e∧e≤u))→freeM m u 0=freeM m t 0): ∀(T:List Int) {t:Int} {out:List Step},Made (fun u=>freeM m u 0) now t out→now≤t→(∀e,E e→t<e→e∈T)→(t::T).Pairwise (fun a b=>a<b)→
    Rising (T.foldl (step1 m) out)∧Canon (T.foldl (step1 m) out)∧T.foldl (step1 m) out≠[]∧nowL (T.foldl (step1 m) out)=now∧ ∀u,now≤u→freeL (T.foldl (step1 m) out) u=freeM m u 0
  | [],t,out,h,hnt,hin,_=>by
    refine ⟨h.rise,h.canon,h.ne,h.nw,fun u hu=>?_⟩
    by_cases hc:u≤t
    · exact h.val u hu hc
    · obtain ⟨q,hq⟩: ∃q,out.getLast?=some q:=by
        cases hl:out.getLast? with
        |none=>exact absurd (List.getLast?_eq_none_iff.1 hl) h.ne
        |some q=>exact ⟨q,rfl⟩
      have hqt:=h.le q (List.mem_of_getLast? hq)
      show freeL out u=_
      rw [free_last h.rise hq (by omega),←free_last h.rise hq hqt,h.val t hnt (Int.le_refl _)]
      exact (hE t u hnt (by omega) fun e he g=>by have:=hin e he g.1;cases this).symm
  |t'::T,t,out,h,hnt,hin,hp=>by
    have hp1:=List.pairwise_cons.1 hp
    have htt:=hp1.1 t' (by simp)
    simp only [List.foldl_cons]
    refine made_all hE T (h.step hnt htt fun u h1 h2=>hE t u hnt h1 fun e he g=>?_) (by omega) (fun e he hl=>?_) hp1.2
    · have:=hin e he g.1
      rcases List.mem_cons.1 this with rfl |hm
      · omega
      · have:=(List.pairwise_cons.1 hp1.2).1 e hm;omega
    · rcases List.mem_cons.1 (hin e he (by omega)) with rfl |hm
      · omega
      · exact hm
theorem Rep.steps {n:Nat} {c:Core} {m:Model} (h:Rep n c m):stepsM m=c.P.steps:=by
  obtain ⟨t1,t2⟩:=times_spec h
  have hm:=h.deep.mt
  unfold stepsM timesM at*
  rw [h.now] at*
  have h0:Made (fun u=>freeM m u 0) (nowC c) (nowC c) (step1 m [] (nowC c)):=by
    unfold step1
    refine ⟨by simp,by simp [Rising],trivial,rfl,fun s hs=>by simp at hs;subst hs;exact Int.le_refl _,fun u h1 h2=>?_⟩
    have:u=nowC c:=by omega
    subst this
    exact free_get (i:=0) (s:=⟨nowC c,freeM m (nowC c) 0⟩) (by simp [Rising]) rfl (Int.le_refl _) (fun s' hs=>by simp at hs)
  have:=made_all (m:=m) (E:=fun e=>e∈evs c.J.jobs) (fun t u h1 h2 h3=>by rw [h.free,h.free];exact req_same h2 h3) (timesF m.L (2*m.L.length) (nowC c)) h0 (Int.le_refl _) (fun e he hl=>by
    rcases List.mem_cons.1 ((t1 e).2 (.inr ⟨hl,he⟩)) with rfl |hx
    · omega
    · exact hx) t2
  simp only [List.foldl_cons]
  obtain ⟨a1,a2,a3,a4,a5⟩:=this
  exact canon_eq a1 hm.pw.2.1 a2 hm.cn a3 hm.pw.1 (a4.trans hm.nw.symm) fun t ht=>by
    rw [a4] at ht
    rw [a5 t ht,h.free,hm.fr t ht]
theorem evs_set_sub {l:List Job} {i:Nat} {j:Job} (hj:l[i]? =some j) {b:Job} (hb:evsJ b=[]) {e:Int} (he:e∈evs (l.set i b)):e∈evs l:=by
  unfold evs at he ⊢
  rw [List.mem_flatMap] at he ⊢
  obtain ⟨x,hx,hex⟩:=he
  rcases List.mem_or_eq_of_mem_set hx with hx |rfl
  · exact ⟨x,hx,hex⟩
  · rw [hb] at hex;cases hex
theorem fits_same {n:Nat} {c:Core} {m:Model} (h:Stb n c m) (x:Choice):fitsC c x=fitsM m x:=by
  have hd:=h.rep.deep
  have hnw:=hd.nw
  have h64:=hd.n64
  unfold fitsC fitsM
  rw [h.rep.closed,h.rep.now]
  simp only []
  cases hcl:c.closed with
  |true=>simp
  |false=>
    simp only [Bool.false_eq_true,if_false,false_or]
    rcases getM_rep h.rep x.Id with ⟨g1,g2,g3,g4⟩ |⟨i,j,hid,hj,g2,g3⟩
    · rw [g1,g2]
      rw [if_pos (.inl (by decide)),if_pos (.inl rfl)]
    · rw [g2,g3]
      simp only []
      have hok:=hd.jobs j (job_mem hj)
      have hwd:=hok.wd
      have hlm:=hok.lm
      by_cases hc:j.State≠1∨x.At<nowC c∨1099511627776<x.At∨(0≤j.Plan∧j.Plan≤x.At)
      · rw [if_pos (.inr hc),if_pos (.inr hc)]
      · rw [if_neg (fun g=>Or.elim g (fun g=>g rfl) hc),if_neg (fun g=>Or.elim g (fun g=>by cases g) hc)]
        have hb:JobOK n (nowC c) {j with Plan:= -1}:=⟨hok.st,hok.wd,hok.lm,.inl rfl,fun h3=>by simp only [] at h3;omega,hok.en,hok.un⟩
        have hnp:plannedJ {j with Plan:= -1}=false:=by simp [plannedJ]
        obtain ⟨P',n3,n4,n6⟩:=hd.turn (b:={j with Plan:= -1}) hj (by omega) (by simp only [];omega) rfl rfl hb rfl hnp
        have hP:(if (planS j).2=true then (addP c.P (planS j).1.From (planS j).1.To (planS j).1.Width).2 else c.P)=P':=by
          rw [planS_snd,←n4]
          by_cases hp:plannedJ j=true
          · rw [if_pos hp,if_pos hp,planS_fst hp,hok.wrp hp]
          · rw [if_neg hp,if_neg hp]
        rw [hP,wr_in (by omega)]
        have hmt:=n6.mt
        have hnn:nowC (⟨⟨c.J.jobs.set i {j with Plan:= -1},c.J.live,c.J.made⟩,c.N,P',c.closed⟩:Core)=nowC c:=n3
        rw [hnn] at hmt
        have hF: ∀t,nowC c≤t→freeL P'.steps t=freeM m t j.Id:=fun t ht=>by
          have:=hmt.fr t ht
          simp only [] at this
          rw [this,h.rep.free_but hj]
          show reqF n (dr c) (c.J.jobs.set i {j with Plan:= -1}) t=_
          rw [reqF_set hj,take_rest hnp (by simp only [];omega)]
          have:takeJ n (dr c) t j=planAt t 0 j:=by unfold takeJ;rw [if_neg (by omega)]
          rw [this];omega
        have hchg: ∀t u,nowC c≤t→t≤u→(∀e∈evs c.J.jobs,¬(t<e∧e≤u))→freeM m u j.Id=freeM m t j.Id:=fun t u h1 h2 h3=>by
          rw [←hF u (by omega),←hF t h1,hmt.fr u (by omega),hmt.fr t h1]
          exact req_same h2 fun e he=>h3 e (evs_set_sub hj (by unfold evsJ;rw [if_neg (by simp only [];omega),if_neg (by rw [hnp];decide)]) he)
        obtain ⟨t1,t2⟩:=times_spec h.rep
        have hle:=least_iff (w:=j.Width) (t:=x.At+j.Limit) hmt.pw.2.1 hmt.pw.1 (f:=x.At) (by rw [hmt.nw];omega) (by omega)
        have key : (j.Width≤leastL P'.steps x.At (x.At+j.Limit))↔roomM m x.At j.Limit j.Width j.Id=true:=by
          rw [hle]
          unfold roomM
          constructor
          · intro hall
            have h0:=hall x.At (Int.le_refl _) (by omega)
            rw [hF _ (by omega)] at h0
            rw [if_neg (by omega),List.all_eq_true]
            intro t ht
            unfold roomOK
            by_cases hc1:x.At<t∧t<x.At+j.Limit
            · have:=hall t (by omega) hc1.2
              rw [hF _ (by omega)] at this
              have: ¬ freeM m t j.Id<j.Width:=by omega
              simp [this]
            · by_cases hc2:x.At<t
              · have: ¬ t<x.At+j.Limit:=fun g=>hc1 ⟨hc2,g⟩
                simp [this]
              · simp [hc2]
          · intro hr u hu1 hu2
            split at hr
            · cases hr
            · rename_i h0
              rw [List.all_eq_true] at hr
              rw [hF _ (by omega)]
              have hex: ∃e,x.At≤e∧e≤u∧(e=x.At∨e∈evs c.J.jobs)∧ ∀f∈evs c.J.jobs,¬(e<f∧f≤u):=by
                have gen: ∀(L:List Int),∃e,x.At≤e∧e≤u∧(e=x.At∨e∈L)∧ ∀f∈L,¬(e<f∧f≤u):=by
                  intro L
                  induction L with
                  |nil=>exact ⟨x.At,Int.le_refl _,hu1,.inl rfl,fun f hf=>by cases hf⟩
                  |cons a L ih=>
                    obtain ⟨e,e1,e2,e3,e4⟩:=ih
                    by_cases hc:e<a∧a≤u
                    · refine ⟨a,by omega,hc.2,.inr (by simp),fun f hf=>?_⟩
                      rcases List.mem_cons.1 hf with rfl |hf
                      · omega
                      · have:=e4 f hf;omega
                    · refine ⟨e,e1,e2,?_,fun f hf=>?_⟩
                      · rcases e3 with e3 |e3
                        · exact .inl e3
                        · exact .inr (by simp [e3])
                      · rcases List.mem_cons.1 hf with rfl |hf
                        · exact hc
                        · exact e4 f hf
                exact gen _
              obtain ⟨e,e1,e2,e3,e4⟩:=hex
              rw [hchg e u (by omega) e2 e4]
              by_cases hc1:e=x.At
              · rw [hc1];omega
              · have hm:=hr e ((t1 e).2 (.inr ⟨by omega,Or.elim e3 (fun e3=>absurd e3 hc1) (fun e3=>e3)⟩))
                unfold roomOK at hm
                have a1:x.At<e:=by omega
                have a2:e<x.At+j.Limit:=by omega
                simp [a1,a2] at hm
                omega
        cases hr:roomM m x.At j.Limit j.Width j.Id with
        |true=>simp [key.2 hr]
        |false=>
          have: ¬ j.Width≤leastL P'.steps x.At (x.At+j.Limit):=fun g=>by rw [key.1 g] at hr;cases hr
          simp [this]
end Go.Ax.Law
