import Derived.Test.YtbmabiedmdlinaaGreatDoorAxD5
set_option linter.all false
namespace Go.Ax.Law
open Go.Ax.O
theorem overJ_id (now:Int) (a:Job):(overJ now a).Id=a.Id:=by unfold overJ;split<;>rfl
theorem set_self {l:List Job} {i:Nat} {a:Job} (h:l[i]? =some a):l.set i a=l:=by
  apply List.ext_getElem?
  intro p
  rw [List.getElem?_set]
  split
  · rename_i hp;subst hp
    rw [h,if_pos (List.getElem?_eq_some_iff.1 h).1]
  · rfl
theorem over_pot {now:Int} {a:Job}:overJ now a=a∨potJ (overJ now a)<potJ a:=by
  unfold overJ
  split
  · rename_i h
    right
    unfold potJ
    have h1:plannedJ {a with State:=6}=false:=planned_not.2 (.inl (by simp))
    have h2:plannedJ a=false:=planned_not.2 (.inl (by omega))
    simp [h1,h2,h.1]
  · exact .inl rfl
theorem over_one {n:Nat} {c:Core} (h:Deep n c) {i:Nat} {a:Job} (ha:c.J.jobs[i]? =some a) (h3:a.State=3):
    Deep n (timeout1 c a)∧(timeout1 c a).P=c.P∧(timeout1 c a).closed=c.closed∧(timeout1 c a).N.drain=c.N.drain∧(timeout1 c a).J.jobs=c.J.jobs.set i (overJ (nowC c) a):=by
  have hle:=((h.jobs a (job_mem ha)).rn h3).1
  by_cases he:a.End=nowC c
  · obtain ⟨N',e1,e2,e3,e4⟩:=h.over ha h3 he
    rw [e1]
    refine ⟨e4,rfl,rfl,e3,?_⟩
    unfold overJ;rw [if_pos ⟨h3,he⟩]
  · have:timeout1 c a=c:=by unfold timeout1;rw [if_neg (by omega)]
    rw [this]
    refine ⟨h,rfl,rfl,rfl,?_⟩
    unfold overJ;rw [if_neg (fun g=>he g.2),set_self ha]
def overIn (now:Int) (S:List Job) (x:Job):Job:=if x.Id∈S.map Job.Id then overJ now x else x
theorem overs {n:Nat}: ∀(S:List Job) {c:Core},Deep n c→(∀a∈S,∃i:Nat,c.J.jobs[i]? =some a∧a.State=3)→S.Pairwise (fun a b=>a.Id≠b.Id)→
    Deep n (S.foldl timeout1 c)∧(S.foldl timeout1 c).P=c.P∧(S.foldl timeout1 c).closed=c.closed∧(S.foldl timeout1 c).N.drain=c.N.drain∧(S.foldl timeout1 c).J.jobs=c.J.jobs.map (overIn (nowC c) S)
  | [],c,h,_,_=>by
    refine ⟨h,rfl,rfl,rfl,?_⟩
    have:overIn (nowC c) []=id:=by funext x;simp [overIn]
    simp [this]
  |a::S,c,h,hS,hp=>by
    obtain ⟨i,hi,h3⟩:=hS a (by simp)
    obtain ⟨g1,g2,g3,g4,g5⟩:=over_one h hi h3
    have hn:nowC (timeout1 c a)=nowC c:=by unfold nowC;rw [g2]
    have hpl:Placed c.J.jobs:=fun i j hj=>id_at h.cw hj
    have hp1:=(List.pairwise_cons.1 hp).1
    obtain ⟨k1,k2,k3,k4,k5⟩:=overs S g1 (fun b hb=>by
      obtain ⟨p,hp,hb3⟩:=hS b (by simp [hb])
      refine ⟨p,?_,hb3⟩
      have hne:i≠p:=fun e=>by
        subst e
        rw [hi] at hp;cases hp
        exact hp1 a hb rfl
      rw [g5,List.getElem?_set_ne hne];exact hp) (List.pairwise_cons.1 hp).2
    simp only [List.foldl_cons]
    refine ⟨k1,k2.trans g2,k3.trans g3,k4.trans g4,?_⟩
    rw [k5,hn,g5]
    apply List.ext_getElem?
    intro p
    simp only [List.getElem?_map,List.getElem?_set]
    by_cases hip:i=p
    · subst hip
      have hil:=(List.getElem?_eq_some_iff.1 hi).1
      rw [if_pos rfl,if_pos hil,hi]
      simp only [Option.map_some]
      have e1: ¬ a.Id∈S.map Job.Id:=fun hm=>by
        obtain ⟨b,hb,e⟩:=List.mem_map.1 hm
        exact hp1 b hb e.symm
      have e2:overIn (nowC c) S (overJ (nowC c) a)=overJ (nowC c) a:=by
        unfold overIn;rw [overJ_id,if_neg e1]
      have e3:overIn (nowC c) (a::S) a=overJ (nowC c) a:=by
        unfold overIn;rw [if_pos (by simp)]
      rw [e2,e3]
    · rw [if_neg hip]
      cases hx:c.J.jobs[p]? with
      |none=>rfl
      |some x=>
        simp only [Option.map_some]
        have:x.Id≠a.Id:=by rw [hpl _ _ hx,hpl _ _ hi];omega
        simp [overIn,this]
theorem ids_pair {l:List Job} (h:Placed l):l.Pairwise fun a b=>a.Id≠b.Id:=by
  rw [List.pairwise_iff_getElem]
  intro i j hi hj hij
  rw [h i _ (List.getElem?_eq_getElem hi),h j _ (List.getElem?_eq_getElem hj)]
  omega
theorem Rep.overs {n:Nat} {c:Core} {m:Model} (h:Rep n c m):
    Rep n (timeoutsC c) {m with L:=m.L.map (overJ m.Now)}∧FreshE (timeoutsC c).J.jobs (nowC c)∧nowC (timeoutsC c)=nowC c∧Drops c.J.jobs (timeoutsC c).J.jobs:=by
  have hpl:Placed c.J.jobs:=fun i j hj=>id_at h.deep.cw hj
  obtain ⟨k1,k2,k3,k4,k5⟩:=Law.overs (inJ c.J.jobs [3]) h.deep (fun a ha=>by
    obtain ⟨h1,h2⟩:=List.mem_filter.1 ha
    obtain ⟨i,hi⟩:=List.getElem?_of_mem h1
    exact ⟨i,hi,by simpa using h2⟩) ((ids_pair hpl).sublist List.filter_sublist)
  have hmap:c.J.jobs.map (overIn (nowC c) (inJ c.J.jobs [3]))=c.J.jobs.map (overJ (nowC c)):=List.map_congr_left fun x hx=>by
    unfold overIn
    split
    · rfl
    · rename_i hno
      unfold overJ
      rw [if_neg]
      intro g
      exact hno (List.mem_map.2 ⟨x,List.mem_filter.2 ⟨hx,by simp [g.1]⟩,rfl⟩)
  have hn:nowC (timeoutsC c)=nowC c:=by unfold nowC timeoutsC;rw [k2]
  have hj:(timeoutsC c).J.jobs=c.J.jobs.map (overJ (nowC c)):=by unfold timeoutsC;rw [k5,hmap]
  refine ⟨⟨k1,h.len,?_,?_,h.closed.trans k3.symm,fun k hk=>?_⟩,?_,hn,?_⟩
  · simp only [];rw [hj,h.jobs,h.now]
  · rw [hn];exact h.now
  · have:=h.dr k hk
    unfold Law.dr timeoutsC;rw [k4];exact this
  · rw [hj]
    intro j hj h3
    obtain ⟨x,hx,rfl⟩:=List.mem_map.1 hj
    unfold overJ at h3 ⊢
    split
    · rename_i hc;rw [if_pos hc] at h3;simp at h3
    · rename_i hc
      rw [if_neg hc] at h3
      have:=((h.deep.jobs x hx).rn h3).1
      have:x.End≠nowC c:=fun e=>hc ⟨h3,e⟩
      omega
  · rw [hj]
    refine ⟨by simp,fun i a ha=>⟨_,by rw [List.getElem?_map,ha];rfl,over_pot⟩⟩
theorem begin1_fold: ∀(S:List Job) (c:Core),CW c→S.foldl begin1 c=(S.filter fun j=>decide (0≤j.Plan)&&decide (j.Plan≤nowC c)).foldl beginC c
  | [],c,_=>rfl
  |j::S,c,h=>by
    simp only [List.foldl_cons,List.filter_cons]
    by_cases hc:0≤j.Plan∧j.Plan≤nowC c
    · have e:begin1 c j=beginC c j:=by unfold begin1;rw [if_pos hc]
      obtain ⟨h1,h2⟩:=beginC_ok h j
      rw [e,begin1_fold S _ h1,if_pos (by simp [hc.1,hc.2])]
      have:nowC (beginC c j)=nowC c:=by unfold nowC;rw [h2]
      rw [this];rfl
    · have e:begin1 c j=c:=by unfold begin1;rw [if_neg hc]
      rw [e,begin1_fold S _ h,if_neg (by simpa using hc)]
theorem Rep.happen {n:Nat} {c:Core} {m:Model} (h:Rep n c m):
    Rep n (beginsC (timeoutsC c)) (happenM m)∧FreshE (beginsC (timeoutsC c)).J.jobs (nowC c)∧FreshP (beginsC (timeoutsC c)).J.jobs (nowC c)∧nowC (beginsC (timeoutsC c))=nowC c∧Drops c.J.jobs (beginsC (timeoutsC c)).J.jobs:=by
  obtain ⟨h1,hE,hn,hd⟩:=h.overs
  generalize hc1:timeoutsC c=c1 at*
  rw [←hn] at hE ⊢
  have hpl:Placed c1.J.jobs:=fun i j hj=>id_at h1.deep.cw hj
  have hperm:(sortJ (inJ c1.J.jobs [1])).Perm (inJ c1.J.jobs [1]):=List.mergeSort_perm _ _
  have hlen:(sortJ (inJ c1.J.jobs [1])).length≤c1.J.jobs.length:=by rw [hperm.length_eq];exact inJ_len _ _
  have hbound: ∀x∈sortJ (inJ c1.J.jobs [1]),-9223372036854775808≤x.Id∧x.Id≤9223372036854775807:=fun x hx=>by
    have hx:=(List.mem_filter.1 (hperm.mem_iff.1 hx)).1
    obtain ⟨i,hi⟩:=List.getElem?_of_mem hx
    have:=hpl i x hi
    have:=(List.getElem?_eq_some_iff.1 hi).1
    have:=h1.deep.cw.1.2.1
    omega
  have hids:(sortJ (inJ c1.J.jobs [1])).Pairwise fun a b=>a.Id≠b.Id:=(List.Perm.pairwise_iff (fun h e=>h e.symm) hperm).2 ((ids_pair hpl).sublist List.filter_sublist)
  have hsort:(sortJ (inJ c1.J.jobs [1])).Pairwise fun a b=>keyJ a≤keyJ b:=by
    have:=List.pairwise_mergeSort (le:=fun a b:Job=>decide (keyJ a≤keyJ b)) (fun a b c h1 h2=>by simp only [decide_eq_true_eq] at*;omega) (fun a b=>by simp only [Bool.or_eq_true,decide_eq_true_eq];omega) (inJ c1.J.jobs [1])
    exact this.imp fun h=>by simpa using h
  have hah:(sortJ (inJ c1.J.jobs [1])).Pairwise fun a b=>aheadJ a b=true:=by
    have hall:(sortJ (inJ c1.J.jobs [1])).Pairwise fun a b=>(a.Id≠b.Id∧keyJ a≤keyJ b):=hids.and hsort
    refine List.Pairwise.imp_of_mem (fun {a b} ha hb hab=>?_) hall
    exact ahead_key (hbound a ha) (hbound b hb) hab.1 hab.2
  have hb:=begins_rep (n:=n) ((sortJ (inJ c1.J.jobs [1])).filter fun j=>decide (0≤j.Plan)&&decide (j.Plan≤nowC c1)) (m:={m with L:=m.L.map (overJ m.Now)}) m.L.length h1 hE (hah.sublist List.filter_sublist) (fun x=>by
    rw [List.mem_filter,hperm.mem_iff]
    simp only [inJ,List.mem_filter,Bool.and_eq_true,decide_eq_true_eq]
    constructor
    · rintro ⟨⟨hx,hs⟩,hp0,hp1⟩
      obtain ⟨i,hi⟩:=List.getElem?_of_mem hx
      have hs1:x.State=1:=by simpa using hs
      have:=(h1.deep.jobs x hx).plan (planned_iff.2 ⟨hs1,hp0⟩)
      exact ⟨i,hi,dueJ_iff.2 ⟨hs1,hp0,by omega⟩⟩
    · rintro ⟨i,hi,hdue⟩
      obtain ⟨a1,a2,a3⟩:=dueJ_iff.1 hdue
      exact ⟨⟨job_mem hi,by simp [a1]⟩,a2,by omega⟩) (by
    refine Nat.le_trans (List.length_filter_le _ _) (Nat.le_trans hlen ?_)
    rw [h.jobs,hd.1];exact Nat.le_refl _)
  have he:beginsC c1=((sortJ (inJ c1.J.jobs [1])).filter fun j=>decide (0≤j.Plan)&&decide (j.Plan≤nowC c1)).foldl beginC c1:=by
    unfold beginsC;exact begin1_fold _ _ h1.deep.cw
  rw [he]
  obtain ⟨b1,b2,b3,b4,b5⟩:=hb
  exact ⟨b1,b2,b3,b4,hd.trans b5⟩
def pot:List Job→Nat
  | []=>0
  |j::r=>potJ j+pot r
theorem Drops.tail {a b:Job} {r r':List Job} (h:Drops (a::r) (b::r')):(b=a∨potJ b<potJ a)∧Drops r r':=by
  refine ⟨?_,by simpa using h.1,fun i x hx=>?_⟩
  · obtain ⟨y,hy,e⟩:=h.2 0 a rfl
    simp at hy;subst hy;exact e
  · obtain ⟨y,hy,e⟩:=h.2 (i+1) x (by simpa using hx)
    exact ⟨y,by simpa using hy,e⟩
theorem Drops.le: ∀{l l':List Job},Drops l l'→pot l'≤pot l
  | [],l',h=>by
    have:=h.1;simp at this;subst this;exact Nat.le_refl _
  |a::r,[],h=>by have:=h.1;simp at this
  |a::r,b::r',h=>by
    obtain ⟨h1,h2⟩:=h.tail
    have:=h2.le
    simp only [pot]
    rcases h1 with rfl |h1<;>omega
theorem Drops.lt: ∀{l l':List Job},Drops l l'→ ∀(i:Nat) (a b:Job),l[i]? =some a→l'[i]? =some b→b≠a→pot l'<pot l
  | [],l',h,i,a,b,ha,_,_=>by simp at ha
  |a::r,[],h,_,_,_,_,_,_=>by have:=h.1;simp at this
  |a::r,b::r',h,0,x,y,hx,hy,hne=>by
    obtain ⟨h1,h2⟩:=h.tail
    have:=h2.le
    simp at hx hy;subst hx hy
    simp only [pot]
    rcases h1 with h1 |h1
    · exact absurd h1 hne
    · omega
  |a::r,b::r',h,i+1,x,y,hx,hy,hne=>by
    obtain ⟨h1,h2⟩:=h.tail
    have:=h2.lt i x y (by simpa using hx) (by simpa using hy) hne
    simp only [pot]
    rcases h1 with rfl |h1<;>omega
theorem pot_len: ∀(l:List Job),pot l≤2*l.length
  | []=>Nat.le_refl _
  |j::r=>by
    have:=pot_len r
    have:potJ j≤2:=by
      unfold potJ
      split
      · omega
      · split<;>omega
    simp only [pot,List.length_cons];omega
theorem pot_live: ∀(l:List Job),(pot l:Int)≤2*liveN l
  | []=>by simp [pot,liveN]
  |j::r=>by
    have:=pot_live r
    unfold liveN at this ⊢
    simp only [pot,List.countP_cons]
    have:potJ j≤if liveJ j then 2 else 0:=by
      unfold potJ
      by_cases h1:plannedJ j=true
      · have:=(planned_iff.1 h1).1
        rw [if_pos h1,if_pos (by simp [liveJ,this])];omega
      · rw [if_neg h1]
        by_cases h3:j.State=3
        · rw [if_pos h3,if_pos (by simp [liveJ,h3])];omega
        · rw [if_neg h3];omega
    cases hl:liveJ j<;>simp [hl] at this ⊢ <;>omega
theorem foldmin_iff {α:Type} (f:α→Int) (x:Int): ∀(l:List α) (a:Int),x≤l.foldl (fun t s=>min t (f s)) a↔x≤a∧ ∀s∈l,x≤f s
  | [],a=>by simp
  |s::r,a=>by
    simp only [List.foldl_cons,foldmin_iff f x r,List.mem_cons,forall_eq_or_imp]
    constructor
    · rintro ⟨h1,h2⟩;exact ⟨by omega,by omega,h2⟩
    · rintro ⟨h1,h2,h3⟩;exact ⟨by omega,h3⟩
theorem foldmin_at {α:Type} (f:α→Int): ∀(l:List α) (a:Int),l.foldl (fun t s=>min t (f s)) a=a∨ ∃s∈l,l.foldl (fun t s=>min t (f s)) a=f s
  | [],a=> .inl rfl
  |s::r,a=>by
    simp only [List.foldl_cons]
    rcases foldmin_at f r (min a (f s)) with h |⟨q,hq,h⟩
    · by_cases hc:a≤f s
      · left;rw [h];omega
      · right;exact ⟨s,by simp,by rw [h];omega⟩
    · right;exact ⟨q,by simp [hq],h⟩
theorem span_mem {l:List Job} {s:Span}:s∈spansC l↔ ∃j∈l,plannedJ j=true∧s=(planS j).1:=by
  unfold spansC inJ
  simp only [List.mem_filterMap,List.mem_filter]
  constructor
  · rintro ⟨j,⟨hj,_⟩,h⟩
    split at h
    · rename_i hp;rw [planS_snd] at hp;cases h;exact ⟨j,hj,hp,rfl⟩
    · cases h
  · rintro ⟨j,hj,hp,rfl⟩
    exact ⟨j,⟨hj,by simp [(planned_iff.1 hp).1]⟩,by rw [planS_snd,if_pos hp]⟩
theorem nextC_iff (c:Core) (x:Int):x≤nextC c↔x≤1152921504606846976∧(∀j∈c.J.jobs,j.State=3→x≤j.End)∧ ∀j∈c.J.jobs,plannedJ j=true→x≤j.Plan:=by
  unfold nextC
  rw [foldmin_iff (fun s:Span=>s.From),foldmin_iff (fun j:Job=>j.End)]
  constructor
  · rintro ⟨⟨h1,h2⟩,h3⟩
    refine ⟨h1,fun j hj hs=>h2 j (List.mem_filter.2 ⟨hj,by simp [hs]⟩),fun j hj hp=>?_⟩
    have:=h3 _ (span_mem.2 ⟨j,hj,hp,rfl⟩)
    rwa [planS_fst hp] at this
  · rintro ⟨h1,h2,h3⟩
    refine ⟨⟨h1,fun j hj=>?_⟩,fun s hs=>?_⟩
    · obtain ⟨a,b⟩:=List.mem_filter.1 hj
      exact h2 j a (by simpa using b)
    · obtain ⟨j,hj,hp,rfl⟩:=span_mem.1 hs
      rw [planS_fst hp];exact h3 j hj hp
theorem nextC_at (c:Core):nextC c=1152921504606846976∨(∃j∈c.J.jobs,j.State=3∧nextC c=j.End)∨ ∃j∈c.J.jobs,plannedJ j=true∧nextC c=j.Plan:=by
  unfold nextC
  rcases foldmin_at (fun s:Span=>s.From) (spansC c.J.jobs) ((inJ c.J.jobs [3]).foldl (fun t j=>min t j.End) 1152921504606846976) with h |⟨s,hs,h⟩
  · rw [h]
    rcases foldmin_at (fun j:Job=>j.End) (inJ c.J.jobs [3]) 1152921504606846976 with h |⟨j,hj,h⟩
    · exact .inl h
    · obtain ⟨a,b⟩:=List.mem_filter.1 hj
      exact .inr (.inl ⟨j,a,by simpa using b,h⟩)
  · obtain ⟨j,hj,hp,rfl⟩:=span_mem.1 hs
    refine .inr (.inr ⟨j,hj,hp,?_⟩)
    rw [h,planS_fst hp]
theorem sooner_eq {b t last:Int} (h:last<t):sooner b t last=if b<0∨t<b then t else b:=by
  unfold sooner
  by_cases hc:b<0∨t<b
  · rw [if_pos ⟨h,hc⟩,if_pos hc]
  · rw [if_neg (fun g=>hc g.2),if_neg hc]
def evJ (j:Job):Option Int:=if j.State=3 then some j.End else if plannedJ j then some j.Plan else none
theorem next1_eq {now b:Int} {j:Job}:next1 now b j=match evJ j with |some t=>sooner b t now |none=>b:=by
  unfold next1 evJ
  by_cases h3:j.State=3
  · have:plannedJ j=false:=planned_not.2 (.inl (by omega))
    simp [h3,this]
  · cases hp:plannedJ j with
    |true=>simp [h3]
    |false=>simp [h3]
theorem nextF_spec {now:Int} (h0:0≤now): ∀(l:List Job) (b:Int),(∀j∈l,∀t,evJ j=some t→now<t)→(b= -1∨now<b)→
    (l.foldl (next1 now) b= -1∧b= -1∧ ∀j∈l,evJ j=none)∨(now<l.foldl (next1 now) b∧(l.foldl (next1 now) b=b∨ ∃j∈l,evJ j=some (l.foldl (next1 now) b))∧(b= -1∨l.foldl (next1 now) b≤b)∧ ∀j∈l,∀t,evJ j=some t→l.foldl (next1 now) b≤t)
  | [],b,_,hb=>by
    rcases hb with rfl |hb
    · exact .inl ⟨rfl,rfl,by simp⟩
    · exact .inr ⟨hb,.inl rfl,.inr (Int.le_refl _),by simp⟩
  |j::r,b,he,hb=>by
    simp only [List.foldl_cons]
    have her: ∀j∈r,∀t,evJ j=some t→now<t:=fun x hx=>he x (by simp [hx])
    rw [next1_eq]
    cases hj:evJ j with
    |none=>
      simp only []
      rcases nextF_spec h0 r b her hb with ⟨a1,a2,a3⟩ |⟨a1,a2,a3,a4⟩
      · exact .inl ⟨a1,a2,by simpa [hj] using a3⟩
      · refine .inr ⟨a1,?_,a3,fun x hx t ht=>?_⟩
        · rcases a2 with a2 |⟨x,hx,e⟩
          · exact .inl a2
          · exact .inr ⟨x,by simp [hx],e⟩
        · rcases List.mem_cons.1 hx with rfl |hx
          · rw [hj] at ht;cases ht
          · exact a4 x hx t ht
    |some t=>
      simp only []
      have ht:=he j (by simp) t hj
      rw [sooner_eq ht]
      by_cases hc:b<0∨t<b
      · rw [if_pos hc]
        rcases nextF_spec h0 r t her (.inr ht) with ⟨a1,a2,a3⟩ |⟨a1,a2,a3,a4⟩
        · omega
        · refine .inr ⟨a1,.inr ?_,?_,fun x hx u hu=>?_⟩
          · rcases a2 with a2 |⟨x,hx,e⟩
            · exact ⟨j,by simp,by rw [a2];exact hj⟩
            · exact ⟨x,by simp [hx],e⟩
          · omega
          · rcases List.mem_cons.1 hx with rfl |hx
            · rw [hj] at hu;cases hu;omega
            · exact a4 x hx u hu
      · rw [if_neg hc]
        rcases nextF_spec h0 r b her hb with ⟨a1,a2,a3⟩ |⟨a1,a2,a3,a4⟩
        · omega
        · refine .inr ⟨a1,?_,a3,fun x hx u hu=>?_⟩
          · rcases a2 with a2 |⟨x,hx,e⟩
            · exact .inl a2
            · exact .inr ⟨x,by simp [hx],e⟩
          · rcases List.mem_cons.1 hx with rfl |hx
            · rw [hj] at hu;cases hu;omega
            · exact a4 x hx u hu
theorem ev_fresh {l:List Job} {now:Int} (hE:FreshE l now) (hP:FreshP l now): ∀j∈l,∀t,evJ j=some t→now<t:=fun j hj t ht=>by
  unfold evJ at ht
  split at ht
  · rename_i h3;cases ht;exact hE j hj h3
  · split at ht
    · rename_i hp;cases ht;exact hP j hj hp
    · cases ht
theorem next_same {n:Nat} {c:Core} {m:Model} (h:Rep n c m) (hE:FreshE c.J.jobs (nowC c)) (hP:FreshP c.J.jobs (nowC c)) {to:Int} (hto:to≤1099511627776):
    (to<nextC c∧(nextM m<0∨to<nextM m))∨(nextC c≤to∧nextM m=nextC c∧nowC c<nextC c∧ ∃j∈c.J.jobs,evJ j=some (nextC c)):=by
  have hn0:=h.deep.nw.1
  have hs:=nextF_spec (now:=nowC c) h.deep.nw.1 c.J.jobs (-1) (ev_fresh hE hP) (.inl rfl)
  have hm:nextM m=c.J.jobs.foldl (next1 (nowC c)) (-1):=by unfold nextM;rw [h.jobs,h.now]
  rw [←hm] at hs
  rcases hs with ⟨e1,_,e3⟩ |⟨e1,e2,_,e4⟩
  · left
    have:nextC c=1152921504606846976:=by
      rcases nextC_at c with h |⟨j,hj,h3,_⟩ |⟨j,hj,hp,_⟩
      · exact h
      · have:=e3 j hj;unfold evJ at this;rw [if_pos h3] at this;cases this
      · have:=e3 j hj;unfold evJ at this;rw [if_neg (by have:=(planned_iff.1 hp).1;omega),if_pos hp] at this;cases this
    exact ⟨by omega,.inl (by omega)⟩
  · have hle:nextM m≤nextC c:=by
      rcases e2 with e2 |⟨j,hj,e2⟩
      · omega
      rw [nextC_iff]
      refine ⟨?_,fun x hx h3=>e4 x hx _ (by unfold evJ;rw [if_pos h3]),fun x hx hp=>e4 x hx _ (by unfold evJ;rw [if_neg (by have:=(planned_iff.1 hp).1;omega),if_pos hp])⟩
      have hok:=h.deep.jobs j hj
      unfold evJ at e2
      split at e2
      · rename_i h3;have e2:=Option.some.inj e2;have:=hok.en;omega
      · split at e2
        · rename_i hp;have e2:=Option.some.inj e2;have:=hok.plan hp;omega
        · cases e2
    rcases e2 with e2 |⟨j,hj,e2⟩
    · omega
    have hge:nextC c≤nextM m:=by
      have:=(nextC_iff c (nextC c)).1 (Int.le_refl _)
      unfold evJ at e2
      split at e2
      · rename_i h3;have e2:=Option.some.inj e2;rw [←e2];exact this.2.1 j hj h3
      · split at e2
        · rename_i hp;have e2:=Option.some.inj e2;rw [←e2];exact this.2.2 j hj hp
        · cases e2
    have he:nextM m=nextC c:=by omega
    by_cases hc:to<nextC c
    · exact .inl ⟨hc,.inr (by omega)⟩
    · exact .inr ⟨by omega,he,by omega,j,hj,by rw [←he];exact e2⟩
end Go.Ax.Law
namespace Go.Ax.Law
open Go.Ax.O
theorem Deep.adv {n:Nat} {c:Core} (h:Deep n c) {t:Int} (ht:nowC c≤t) (ht2:t≤1099511627776) (hE: ∀j∈c.J.jobs,j.State=3→t≤j.End) (hP: ∀j∈c.J.jobs,plannedJ j=true→t≤j.Plan):
  Deep n (advC c t)∧nowC (advC c t)=t:=by
 obtain ⟨a1,a2⟩:=h.mt.adv ht ht2
 have hn:nowC (advC c t)=t:=a2.nw
 refine ⟨⟨h.n1,h.n64,⟨h.cw.1,h.cw.2.1,a2.pw⟩,h.all,h.dn,h.us,?_,h.ap,?_,?_,h.lv,h.l64,by rw [hn];have:=h.nw;omega⟩,hn⟩
 ·rw [hn]
  intro j hj
  have hok:=h.jobs j hj
  refine ⟨hok.st,hok.wd,hok.lm,?_,fun h3=>⟨hE j hj h3,(hok.rn h3).2⟩,hok.en,hok.un⟩
  rcases hok.pl with e |e
  ·exact .inl e
  ·by_cases hp:0≤j.Plan
   ·exact .inr ⟨e.1,hP j hj (planned_iff.2 ⟨e.1,hp⟩),e.2.2⟩
   ·have:=h.nw;omega
 ·rw [hn];exact a2
 ·rw [hn];intro u hu;exact h.nn u (by omega)
theorem Rep.adv {n:Nat} {c:Core} {m:Model} (h:Rep n c m) {t:Int} (ht:nowC c≤t) (ht2:t≤1099511627776) (hE: ∀j∈c.J.jobs,j.State=3→t≤j.End) (hP: ∀j∈c.J.jobs,plannedJ j=true→t≤j.Plan):
  Rep n (advC c t) {m with Now:=t}∧nowC (advC c t)=t:=by
 obtain ⟨a,b⟩:=h.deep.adv ht ht2 hE hP
 exact ⟨⟨a,h.len,h.jobs,by simp only [];exact b.symm,h.closed,h.dr⟩,b⟩
theorem open_eq {l:List Job} (h:ApartL l) (t:Int) (k:Nat):(match l.find? (runsOn (k:Int)) with |none=>true |some j=>decide (j.End≤t))=!l.any fun j=>runsOn (k:Int) j&&decide (t<j.End):=by
 cases hf:l.find? (runsOn (k:Int)) with
 |none=>
  rw [List.find?_eq_none] at hf
  have:(l.any fun j=>runsOn (k:Int) j&&decide (t<j.End))=false:=by
   rw [List.any_eq_false]
   intro x hx
   have:=hf x hx
   simp only [Bool.not_eq_true] at this
   simp [this]
  rw [this];rfl
 |some j=>
  have hj:=List.find?_some hf
  obtain ⟨i,hi⟩:=List.getElem?_of_mem (List.mem_of_find?_eq_some hf)
  simp only []
  have hr: ∀x,runsOn (k:Int) x=true↔x.State=3∧hasB x.Nodes k=true:=fun x=>by simp [runsOn]
  have:(l.any fun j=>runsOn (k:Int) j&&decide (t<j.End))=decide (t<j.End):=by
   cases hd:decide (t<j.End) with
   |true=>
    rw [List.any_eq_true]
    exact ⟨j,job_mem hi,by rw [hj,hd];rfl⟩
   |false=>
    rw [List.any_eq_false]
    intro x hx hc
    simp only [Bool.and_eq_true] at hc
    obtain ⟨p,hp⟩:=List.getElem?_of_mem hx
    by_cases hpi:p=i
    ·subst hpi;rw [hi] at hp;cases hp;rw [hd] at hc;cases hc.2
    ·have:=h i p j x (Ne.symm hpi) hi hp ((hr j).1 hj).1 ((hr x).1 hc.1).1 k ((hr j).1 hj).2
     rw [((hr x).1 hc.1).2] at this;cases this
  rw [this]
  by_cases hc:j.End≤t
  ·have: ¬ t<j.End:=by omega
   simp [hc,this]
  ·have:t<j.End:=by omega
   simp [hc,this]
theorem Rep.open_cnt {n:Nat} {c:Core} {m:Model} (h:Rep n c m) (t:Int):cntN (openM m t) m.Drain.length=cntN (fun k=>!Law.dr c k) n-sumN n (Law.dr c) (fun j=>decide (t<j.End)) c.J.jobs:=by
 rw [←cnt_open h.deep.ap.all,h.len]
 refine cntN_congr fun k hk=>?_
 unfold openM
 rw [h.dr k hk,h.jobs]
 exact congrArg (fun b=>!Law.dr c k&&b) (open_eq h.deep.ap t k)
theorem planSum_but {t:Int}: ∀{l:List Job} {i:Nat} {a:Job},Placed l→l[i]? =some a→planSum t a.Id l=planSum t 0 l-planAt t 0 a:=by
 have none: ∀{b:Int} {l:List Job},(∀j∈l,j.Id≠b∧j.Id≠0)→planSum t b l=planSum t 0 l:=by
  intro b l
  induction l with
  |nil=>intro _;rfl
  |cons x r ih=>
   intro h
   simp only [planSum]
   rw [ih fun j hj=>h j (List.mem_cons_of_mem _ hj)]
   have:=h x (by simp)
   congr 1
   unfold planAt
   by_cases hc:plannedJ x=true∧x.Plan≤t∧t<x.Plan+x.Limit
   ·rw [if_pos ⟨hc.1,this.1,hc.2⟩,if_pos ⟨hc.1,this.2,hc.2⟩]
   ·rw [if_neg (fun g=>hc ⟨g.1,g.2.2⟩),if_neg (fun g=>hc ⟨g.1,g.2.2⟩)]
 have gen: ∀{l:List Job} {i:Nat} {a:Job} {o:Nat},(∀(p:Nat) (j:Job),l[p]? =some j→j.Id=(p:Int)+o+1)→l[i]? =some a→planSum t a.Id l=planSum t 0 l-planAt t 0 a:=by
  intro l
  induction l with
  |nil=>intro i a o _ h;simp at h
  |cons x r ih=>
   intro i a o hp h
   have hpr: ∀(p:Nat) (j:Job),r[p]? =some j→j.Id=(p:Int)+(o+1:Nat)+1:=fun p j hj=>by have:=hp (p+1) j (by simpa using hj);omega
   cases i with
   |zero=>
    simp at h;subst h
    have hx:=hp 0 x rfl
    simp only [planSum]
    rw [none (b:=x.Id) fun j hj=>by
     obtain ⟨p,hj⟩:=List.getElem?_of_mem hj
     have:=hpr p j hj;omega]
    have:planAt t x.Id x=0:=by unfold planAt;rw [if_neg (fun g=>g.2.1 rfl)]
    omega
   |succ i=>
    have h':r[i]? =some a:=by simpa using h
    have e:=ih hpr h'
    have hx:=hp 0 x rfl
    have ha:=hpr i a h'
    simp only [planSum,e]
    have:planAt t a.Id x=planAt t 0 x:=by
     unfold planAt
     by_cases hc:plannedJ x=true∧x.Plan≤t∧t<x.Plan+x.Limit
     ·rw [if_pos ⟨hc.1,by omega,hc.2⟩,if_pos ⟨hc.1,by omega,hc.2⟩]
     ·rw [if_neg (fun g=>hc ⟨g.1,g.2.2⟩),if_neg (fun g=>hc ⟨g.1,g.2.2⟩)]
    omega
 intro l i a hp h
 exact gen (o:=0) (fun p j hj=>by have:=hp p j hj;omega) h
theorem Rep.free {n:Nat} {c:Core} {m:Model} (h:Rep n c m) (t:Int):freeM m t 0=reqF n (Law.dr c) c.J.jobs t:=by
 unfold freeM reqF
 rw [h.open_cnt,sumT_split,h.jobs];omega
theorem Rep.free_but {n:Nat} {c:Core} {m:Model} (h:Rep n c m) {i:Nat} {a:Job} (ha:c.J.jobs[i]? =some a) (t:Int):freeM m t a.Id=reqF n (Law.dr c) c.J.jobs t+planAt t 0 a:=by
 have:=h.free t
 unfold freeM at this ⊢
 rw [h.jobs] at this ⊢
 rw [planSum_but (fun i j hj=>id_at h.deep.cw hj) ha];omega
theorem Rep.freeL {n:Nat} {c:Core} {m:Model} (h:Rep n c m) {t:Int} (ht:nowC c≤t):freeL c.P.steps t=freeM m t 0:=by
 rw [h.free];exact h.deep.mt.fr t ht
def clockM (m:Model):Reply:={reply0 with Start:=m.Now,A:=freeM m m.Now 0}
theorem Rep.clock {n:Nat} {c:Core} {m:Model} (h:Rep n c m):clockR c=clockM m:=by
 unfold clockR clockM
 rw [h.now,h.freeL (Int.le_refl _)]
def bump (r:Work × Core):Work × Core:=({r.1 with part:=wr (r.1.part+1)},r.2)
theorem step_tick {w:Work} {c:Core} (hd:w.done=false) (hc:w.commit=false) (hp:0<w.part) (hk:w.req.Kind=9):stepW w c=bump (tickGo w c):=by
 have h0: ¬ (w.part=0∧c.closed=true):=by omega
 unfold stepW bump
 simp only [hd,hc,h0,if_false,Bool.false_eq_true]
 have:serveW w c=tickGo w c:=by
  unfold serveW
  rw [if_neg (by omega),if_neg (by omega),if_neg (by omega),if_neg (by omega),if_neg (by omega),if_neg (by omega),if_neg (by omega),if_pos hk]
  unfold tickW;rw [if_neg (by omega)]
 rw [this]
theorem tick_ends {n:Nat} {to:Int} (hto:to≤1099511627776): ∀(N:Nat) {c:Core} {m:Model} {w w1:Work} {f:Nat},Rep n c m→FreshE c.J.jobs (nowC c)→FreshP c.J.jobs (nowC c)→pot c.J.jobs≤N→N+1≤f→
  nowC c≤to→w1.done=false→w1.commit=false→w1.to=to→w1.req.Kind=9→0≤w1.part→w1.part+N+1≤1000000→stepW w c=bump (tickGo w1 c)→
  ∃k c',k≤N+1∧Ends w c k {w1 with reply:=clockR c',done:=true,part:=w1.part+k} c'∧Rep n c' {tickF f to m with Now:=to}∧FreshE c'.J.jobs to∧FreshP c'.J.jobs to∧nowC c'=to:=by
 intro N
 induction N with
 |zero=>
  intro c m w w1 f h hE hP hN hf hle hd hc hw hk hp hs hst
  cases f with
  |zero=>omega
  |succ f=>
  rcases next_same h hE hP hto with ⟨a1,a2⟩ |⟨a1,a2,a3,j,hj,a4⟩
  ·have hnx:=(nextC_iff c (nextC c)).1 (Int.le_refl _)
   obtain ⟨r1,r2⟩:=h.adv hle hto (fun j hj h3=>by have:=hnx.2.1 j hj h3;omega) (fun j hj hp=>by have:=hnx.2.2 j hj hp;omega)
   have hg:tickGo w1 c=(endW w1 (clockR (advC c to)),advC c to):=by unfold tickGo;rw [hw,if_pos a1]
   rw [hg] at hst
   have htf:tickF (f+1) to m=m:=by simp only [tickF];rw [if_pos a2]
   refine ⟨1,advC c to,Nat.le_refl _,?_,by rw [htf];exact r1,fun j hj h3=>by have:=hnx.2.1 j hj h3;omega,fun j hj hp=>by have:=hnx.2.2 j hj hp;omega,r2⟩
   have:=Ends.first hst rfl
   simp only [bump,endW,wr_in (n:=w1.part+1) (by omega)] at this
   exact this
  ·exfalso
   have hpz: ∀(l:List Job),pot l=0→ ∀j∈l,potJ j=0:=by
    intro l
    induction l with
    |nil=>intro _ j hj;cases hj
    |cons x r ih=>
     intro h0 j hj
     simp only [pot] at h0
     rcases List.mem_cons.1 hj with rfl |hj
     ·omega
     ·exact ih (by omega) j hj
   have h0:=hpz _ (by omega) j hj
   unfold evJ at a4
   unfold potJ at h0
   split at h0
   ·omega
   ·rename_i hpl
    split at h0
    ·omega
    ·rename_i h3
     rw [if_neg h3,if_neg hpl] at a4;cases a4
 |succ N ih=>
  intro c m w w1 f h hE hP hN hf hle hd hc hw hk hp hs hst
  cases f with
  |zero=>omega
  |succ f=>
  rcases next_same h hE hP hto with ⟨a1,a2⟩ |⟨a1,a2,a3,j,hj,a4⟩
  ·have hnx:=(nextC_iff c (nextC c)).1 (Int.le_refl _)
   obtain ⟨r1,r2⟩:=h.adv hle hto (fun j hj h3=>by have:=hnx.2.1 j hj h3;omega) (fun j hj hp=>by have:=hnx.2.2 j hj hp;omega)
   have hg:tickGo w1 c=(endW w1 (clockR (advC c to)),advC c to):=by unfold tickGo;rw [hw,if_pos a1]
   rw [hg] at hst
   have htf:tickF (f+1) to m=m:=by simp only [tickF];rw [if_pos a2]
   refine ⟨1,advC c to,by omega,?_,by rw [htf];exact r1,fun j hj h3=>by have:=hnx.2.1 j hj h3;omega,fun j hj hp=>by have:=hnx.2.2 j hj hp;omega,r2⟩
   have:=Ends.first hst rfl
   simp only [bump,endW,wr_in (n:=w1.part+1) (by omega)] at this
   exact this
  ·have hnx:=(nextC_iff c (nextC c)).1 (Int.le_refl _)
   obtain ⟨r1,r2⟩:=h.adv (t:=nextC c) (by omega) (by omega) hnx.2.1 hnx.2.2
   obtain ⟨s1,s2,s3,s4,s5⟩:=r1.happen
   rw [r2] at s2 s3 s4
   have hmax:max (nextC c) (nowC c)=nextC c:=by omega
   have hg:tickGo w1 c=(w1,beginsC (timeoutsC (advC c (nextC c)))):=by unfold tickGo;rw [hw,if_neg (by omega),hmax]
   rw [hg] at hst
   have htf:tickF (f+1) to m=tickF f to (happenM {m with Now:=nextC c}):=by simp only [tickF];rw [a2,if_neg (by have:=h.deep.nw;omega)]
   generalize hc3:beginsC (timeoutsC (advC c (nextC c)))=c3 at*
   have hdr:Drops c.J.jobs c3.J.jobs:=s5
   have hlt:pot c3.J.jobs<pot c.J.jobs:=by
    obtain ⟨i,hi⟩:=List.getElem?_of_mem hj
    obtain ⟨b,hb,e⟩:=hdr.2 i j hi
    refine hdr.lt i j b hi hb fun e2=>?_
    subst e2
    have:=ev_fresh (now:=nextC c) s2 s3 b (job_mem hb) _ a4
    omega
   have hbump:bump (w1,c3)=({w1 with part:=w1.part+1},c3):=by unfold bump;simp only [wr_in (n:=w1.part+1) (by omega)]
   rw [hbump] at hst
   obtain ⟨k,c',b1,b2,b3,b4,b5,b6⟩:=ih (w:={w1 with part:=w1.part+1}) (w1:={w1 with part:=w1.part+1}) (f:=f) s1 (by rw [s4];exact s2) (by rw [s4];exact s3) (by omega) (by omega) (by omega) hd hc hw hk (by simp only [];omega) (by simp only [];omega) (step_tick hd hc (by simp only [];omega) hk)
   refine ⟨k+1,c',by omega,?_,by rw [htf];exact b3,b4,b5,b6⟩
   have:=Ends.next hst hd b2
   simp only [show w1.part+1+(k:Int)=w1.part+((k+1:Nat):Int) by omega] at this
   exact this
end Go.Ax.Law
namespace Go.Ax.Law
open Go.Ax.O
structure Stb (n:Nat) (c:Core) (m:Model):Prop where
 rep:Rep n c m
 fe:FreshE c.J.jobs (nowC c)
 fp:FreshP c.J.jobs (nowC c)
theorem step_first {w:Work} {c:Core} (hd:w.done=false) (hc:w.commit=false) (h0: ¬ (w.part=0∧c.closed=true)):stepW w c=bump (serveW w c):=by
 unfold stepW bump
 simp only [hd,hc,h0,if_false,Bool.false_eq_true]
theorem bump_eq {w:Work} {c:Core} (h:0≤w.part∧w.part≤1000000):bump (w,c)=({w with part:=w.part+1},c):=by
 unfold bump;simp only [wr_in (n:=w.part+1) (by omega)]
theorem serve1 {w:Work} {c:Core} (h:w.req.Kind=1):serveW w c=submitW w c:=by unfold serveW;rw [if_pos h]
theorem serve25 {w:Work} {c:Core} (h:w.req.Kind=2∨w.req.Kind=5):serveW w c=finishW w c:=by unfold serveW;rw [if_neg (by omega),if_pos h]
theorem serve3 {w:Work} {c:Core} (h:w.req.Kind=3):serveW w c=holdW w c:=by unfold serveW;rw [if_neg (by omega),if_neg (by omega),if_pos h]
theorem serve4 {w:Work} {c:Core} (h:w.req.Kind=4):serveW w c=freeW w c:=by unfold serveW;rw [if_neg (by omega),if_neg (by omega),if_neg (by omega),if_pos h]
theorem serve6 {w:Work} {c:Core} (h:w.req.Kind=6):serveW w c=(endW w (toldC c w.req.Id),c):=by unfold serveW;rw [if_neg (by omega),if_neg (by omega),if_neg (by omega),if_neg (by omega),if_pos h]
theorem serve7 {w:Work} {c:Core} (h:w.req.Kind=7):serveW w c=drainW w c:=by unfold serveW;rw [if_neg (by omega),if_neg (by omega),if_neg (by omega),if_neg (by omega),if_neg (by omega),if_pos h]
theorem serve8 {w:Work} {c:Core} (h:w.req.Kind=8):serveW w c=resumeW w c:=by unfold serveW;rw [if_neg (by omega),if_neg (by omega),if_neg (by omega),if_neg (by omega),if_neg (by omega),if_neg (by omega),if_pos h]
theorem serve9 {w:Work} {c:Core} (h:w.req.Kind=9):serveW w c=tickW w c:=by unfold serveW;rw [if_neg (by omega),if_neg (by omega),if_neg (by omega),if_neg (by omega),if_neg (by omega),if_neg (by omega),if_neg (by omega),if_pos h]
theorem serveR {w:Work} {c:Core} (h:w.req.Kind<1∨9<w.req.Kind):serveW w c=countW w c:=by unfold serveW;rw [if_neg (by omega),if_neg (by omega),if_neg (by omega),if_neg (by omega),if_neg (by omega),if_neg (by omega),if_neg (by omega),if_neg (by omega)]
def Done (n:Nat) (w:Work) (c:Core) (r:Reply × Model):Prop:= ∃k w' c',k≤140∧Ends w c k w' c'∧w'.ok=false∧w'.reply=r.1∧w'.part≤1000∧Stb n c' r.2
theorem Done.fail {n:Nat} {w:Work} {c:Core} {m:Model} {e:Int} (h:Stb n c m) (hp:w.part=0) (hok:w.ok=false) {w1:Work} (hw:w1.part=0∧w1.ok=false) (hst:stepW w c=bump (failW w1 e,c)):Done n w c (failR e,m):=by
 have:=Ends.first hst rfl
 exact ⟨1,_,_,by omega,this,hw.2,rfl,by
  show wr (w1.part+1)≤1000
  rw [hw.1];decide,h⟩
theorem liveN_append {l:List Job} {j:Job}:liveN (l++[j])=liveN l+(if liveJ j then 1 else 0):=by
 unfold liveN
 rw [List.countP_append]
 cases hl:liveJ j<;>simp [hl]
theorem get_append {l:List Job} {j x:Job} {i:Nat} (h:(l++[j])[i]? =some x):l[i]? =some x∨(i=l.length∧x=j):=by
 by_cases hi:i<l.length
 ·rw [List.getElem?_append_left hi] at h;exact .inl h
 ·rw [List.getElem?_append_right (by omega)] at h
  have:=(List.getElem?_eq_some_iff.1 h).1
  simp at this
  have e:i=l.length:=by omega
  subst e
  simp at h;exact .inr ⟨rfl,h.symm⟩
theorem Deep.append {n:Nat} {c:Core} (h:Deep n c) {j:Job} (hid:j.Id=(c.J.jobs.length:Int)+1) (hok:JobOK n (nowC c) j) (h3:j.State≠3) (hpl:plannedJ j=false) (hlv:liveJ j=true) (hl:liveN c.J.jobs<64) (hlen:c.J.jobs.length<1024):
  Deep n {c with J:=⟨c.J.jobs++[j],wr (c.J.live+1),c.J.made⟩}:=by
 have hr: ∀t,reqF n (dr c) (c.J.jobs++[j]) t=reqF n (dr c) c.J.jobs t:=fun t=>by unfold reqF;rw [sumT_append,take_rest hpl h3];omega
 have hlw:wr (c.J.live+1)=c.J.live+1:=wr_in (by have:=h.lv;have:=liveN_nonneg c.J.jobs;omega)
 have hln:liveN (c.J.jobs++[j])=liveN c.J.jobs+1:=by rw [liveN_append,hlv];rfl
 refine ⟨h.n1,h.n64,⟨⟨h.cw.1.1,by simp;omega,fun i x hx=>?_⟩,h.cw.2.1,h.cw.2.2⟩,h.all,h.dn,fun k=>?_,fun x hx=>?_,fun a b x y hab hx hy=>?_,?_,fun t ht=>?_,?_,?_,h.nw⟩
 ·rcases get_append hx with hx |⟨rfl,rfl⟩
  ·exact h.cw.1.2.2 i x hx
  ·exact ⟨hid,hok.un⟩
 ·show _=usedL (c.J.jobs++[j]) k
  rw [h.us];unfold usedL;rw [List.any_append];simp [runsOn,h3]
 ·rcases List.mem_append.1 hx with hx |hx
  ·exact h.jobs x hx
  ·simp at hx;subst hx;exact hok
 ·intro a3 b3
  rcases get_append hx with hx |⟨_,rfl⟩
  ·rcases get_append hy with hy |⟨_,rfl⟩
   ·exact h.ap a b x y hab hx hy a3 b3
   ·exact absurd b3 h3
  ·exact absurd a3 h3
 ·exact h.mt.congr fun t _=>(hr t).symm
 ·show 0≤reqF n (dr c) (c.J.jobs++[j]) t
  rw [hr];exact h.nn t ht
 ·show wr (c.J.live+1)=liveN (c.J.jobs++[j])
  rw [hlw,hln,h.lv]
 ·show liveN (c.J.jobs++[j])≤64
  rw [hln];omega
theorem popN_ones2 (m:Nat): ∀n,popN (2^m-1) n=min m n
 |0=>by simp [popN]
 |n+1=>by
  simp only [popN,popN_ones2 m n,Nat.testBit_two_pow_sub_one]
  by_cases h:n<m
  ·simp [h];omega
  ·simp [h];omega
theorem lenS_all2 {n:Int} (h1:1≤n) (h2:n≤64):lenS (allS n)=n:=by
 unfold allS
 rw [if_neg (by omega)]
 obtain ⟨m,rfl⟩:=Int.eq_ofNat_of_zero_le (show 0≤n by omega)
 split
 ·have:m=64:=by omega
  subst this
  show ((popN (Int.toNat 18446744073709551615) 64:Nat):Int)=_
  rw [show Int.toNat 18446744073709551615=2^64-1 by decide,popN_ones2]
  rfl
 ·unfold lenS
  rw [Int.toNat_natCast,Int.toNat_natCast,popN_ones2]
  omega
theorem Deep.size {n:Nat} {c:Core} (h:Deep n c):lenS c.N.all=n:=by rw [h.all];exact lenS_all2 (by have:=h.n1;omega) (by have:=h.n64;omega)
theorem count_live (w:Work) (l:List Job):(l.countP (dropAt w):Int)≤liveN l:=by
 unfold liveN
 have:l.countP (dropAt w)≤l.countP liveJ:=List.countP_mono_left fun x _ hx=>by
  rw [dropAt_eq] at hx
  simp only [Bool.and_eq_true] at hx
  have:=(planned_iff.1 hx.1).1
  simp [liveJ,this]
 omega
theorem fresh_drop {l:List Job} {now:Int} {j:Job} (hE:FreshE l now) (hP:FreshP l now):FreshE (l.map (dropJ j)) now∧FreshP (l.map (dropJ j)) now:=by
 refine ⟨fun x hx h3=>?_,fun x hx hp=>?_⟩
 ·obtain ⟨y,hy,rfl⟩:=List.mem_map.1 hx
  have e1:(dropJ j y).State=y.State:=by unfold dropJ;split<;>rfl
  have e2:(dropJ j y).End=y.End:=by unfold dropJ;split<;>rfl
  rw [e2];rw [e1] at h3;exact hE y hy h3
 ·obtain ⟨y,hy,rfl⟩:=List.mem_map.1 hx
  unfold dropJ at hp ⊢
  split
  ·rename_i hc
   rw [if_pos hc] at hp
   have:=(planned_iff.1 hp).2
   simp at this
  ·rename_i hc
   rw [if_neg hc] at hp
   exact hP y hy hp
theorem Stb.drops {n:Nat} {c:Core} {m:Model} (h:Stb n c m) {w:Work} (hd:w.done=false) (hc:w.commit=false) (hok:w.ok=false) (hp:0<w.part∧w.part≤10) (hk:w.req.Kind=1∨w.req.Kind=4) (hid:w.job.Id≠0):
  ∃k w' c',k≤65∧Ends w c k w' c'∧w'.ok=false∧w'.reply=w.reply∧w'.part≤1000∧Stb n c' (dropM m w.job):=by
 have hcnt:=count_live w c.J.jobs
 have hl:=h.rep.deep.l64
 obtain ⟨P',hn,e1,e2⟩:=drops_ends _ h.rep.deep hd hc hp.1 (by omega) hk hid rfl
 replace hn:nowC (⟨⟨c.J.jobs.map (dropJ w.job),c.J.live,c.J.made⟩,c.N,P',c.closed⟩:Core)=nowC c:=hn
 obtain ⟨f1,f2⟩:=fresh_drop (j:=w.job) h.fe h.fp
 refine ⟨_,_,_,by omega,e1,hok,rfl,by simp only [];omega,⟨e2,h.rep.len,?_,?_,h.rep.closed,h.rep.dr⟩,?_,?_⟩
 ·show m.L.map _=c.J.jobs.map _
  rw [h.rep.jobs]
 ·rw [hn];exact h.rep.now
 ·rw [hn];exact f1
 ·rw [hn];exact f2
end Go.Ax.Law
namespace Go.Ax.Law
open Go.Ax.O
theorem newW_part (r:Req):(newW r).part=0∧(newW r).ok=false∧(newW r).done=false∧(newW r).commit=false∧(newW r).req=cleanR r∧(newW r).job=job0:=⟨rfl,rfl,rfl,rfl,rfl,rfl⟩
theorem clean_kind (r:Req):(cleanR r).Kind=r.Kind:=by unfold cleanR;simp only [];repeat' split<;>try rfl
theorem clean1 {r:Req} (h:r.Kind=1):cleanR r=⟨1,0,r.User,r.Width,r.Limit,r.Prio,r.Held,0,0⟩:=by unfold cleanR req0;simp [h]
theorem cleanId {r:Req} (h:r.Kind=2∨r.Kind=3∨r.Kind=4∨r.Kind=5∨r.Kind=6):(cleanR r).Id=r.Id:=by unfold cleanR req0;simp only [];rw [if_neg (by omega),if_pos h]
theorem cleanNode {r:Req} (h:r.Kind=7∨r.Kind=8):(cleanR r).Node=r.Node:=by unfold cleanR req0;simp only [];rw [if_neg (by omega),if_neg (by omega),if_pos h]
theorem cleanBy {r:Req} (h:r.Kind=9):(cleanR r).By=r.By:=by unfold cleanR req0;simp only [];rw [if_neg (by omega),if_neg (by omega),if_neg (by omega),if_pos h]
theorem step_new {r:Req} {c:Core} (hc:c.closed=false):stepW (newW r) c=bump (serveW (newW r) c):=step_first rfl rfl (by rw [hc];simp)
theorem submitW_wants {w:Work} {c:Core} (hp:w.part=0) {e:Int} (h:wantsC c w.req=e) (he:e≠0):submitW w c=(failW w e,c):=by
  unfold submitW;rw [if_neg (by omega),h,if_pos he]
theorem submitW_fails {w:Work} {c:Core} (hp:w.part=0) (h:wantsC c w.req=0) {e:Int} (hs:submitJ c.J w.req=((0,e),c.J)) (he:e≠0):submitW w c=(failW w e,c):=by
  unfold submitW;rw [if_neg (by omega),h,if_neg (by decide)]
  simp only [hs];rw [if_pos he]
theorem submitW_takes {w:Work} {c:Core} (hp:w.part=0) (h:wantsC c w.req=0) {id:Int} {J:Jobs} (hs:submitJ c.J w.req=((id,0),J)):
    submitW w c=({w with job:=(getJ J.jobs id).1,reply:=toldC {c with J:=J} id,done:=w.req.Held},{c with J:=J}):=by
  unfold submitW;rw [if_neg (by omega),h,if_neg (by decide)]
  simp only [hs];rw [if_neg (by decide)]
theorem submit_done {n:Nat} {c:Core} {m:Model} (h:Stb n c m) (hc:c.closed=false) {r:Req} (hk:r.Kind=1):Done n (newW r) c (submitM m r):=by
  have hd:=h.rep.deep
  have hst:=step_new (r:=r) hc
  have hk2:(newW r).req.Kind=1:=(clean_kind r).trans hk
  rw [serve1 hk2] at hst
  have hreq:(newW r).req=⟨1,0,r.User,r.Width,r.Limit,r.Prio,r.Held,0,0⟩:=clean1 hk
  have hsz:=hd.size
  have hlen:=h.rep.len
  have h64:=hd.n64
  have hjl:=hd.cw.1.2.1
  unfold submitM
  have hwant:wantsC c (newW r).req=if (n:Int)<r.Width∧r.Width≤64∧0≤r.User∧r.User≤255∧0≤r.Prio∧r.Prio≤1000 then 9 else 0:=by
    rw [hreq];unfold wantsC;rw [hsz];simp
  have hlv:=hd.lv
  have hL:m.L=c.J.jobs:=h.rep.jobs
  have hsub: ∀e,rightR (newW r).req=e→e≠0→submitJ c.J (newW r).req=((0,e),c.J):=fun e he hne=>by
    unfold submitJ;rw [he,if_pos hne]
  by_cases c1:r.User<0∨255<r.User∨r.Prio<0∨1000<r.Prio
  · rw [if_pos c1]
    rw [submitW_fails rfl (by rw [hwant,if_neg (by omega)]) (hsub 1 (by rw [hreq];unfold rightR;rw [if_pos c1]) (by decide)) (by decide)] at hst
    exact Done.fail h rfl rfl ⟨rfl,rfl⟩ hst
  rw [if_neg c1]
  by_cases c2:r.Width<1∨(m.Drain.length:Int)<r.Width
  · rw [if_pos c2]
    by_cases c3:(n:Int)<r.Width∧r.Width≤64
    · rw [submitW_wants rfl (by rw [hwant,if_pos ⟨c3.1,c3.2,by omega⟩]) (by decide)] at hst
      exact Done.fail h rfl rfl ⟨rfl,rfl⟩ hst
    · rw [submitW_fails rfl (by rw [hwant,if_neg (by omega)]) (hsub 9 (by rw [hreq];unfold rightR;rw [if_neg c1,if_pos (by simp only [];omega)]) (by decide)) (by decide)] at hst
      exact Done.fail h rfl rfl ⟨rfl,rfl⟩ hst
  rw [if_neg c2]
  have hw0:wantsC c (newW r).req=0:=by rw [hwant,if_neg (by omega)]
  by_cases c4:r.Limit<1∨1048576<r.Limit
  · rw [if_pos c4]
    rw [submitW_fails rfl hw0 (hsub 10 (by rw [hreq];unfold rightR;rw [if_neg c1,if_neg (by simp only [];omega),if_pos c4]) (by decide)) (by decide)] at hst
    exact Done.fail h rfl rfl ⟨rfl,rfl⟩ hst
  rw [if_neg c4]
  have hright:rightR (newW r).req=0:=by rw [hreq];unfold rightR;rw [if_neg c1,if_neg (by simp only [];omega),if_neg c4]
  by_cases c5:63<liveN m.L∨1023<(m.L.length:Int)
  · rw [if_pos c5]
    have hs:submitJ c.J (newW r).req=((0,6),c.J):=by
      unfold submitJ;rw [if_neg (by rw [hright];decide),if_pos (by rw [hL] at c5;omega)]
    rw [submitW_fails rfl hw0 hs (by decide)] at hst
    exact Done.fail h rfl rfl ⟨rfl,rfl⟩ hst
  rw [if_neg c5]
  rw [hL] at c5
  have hnew:newJ c.J.jobs (newW r).req=newJ m.L r:=by rw [hL,hreq];rfl
  have hs:submitJ c.J (newW r).req=(((c.J.jobs.length:Int)+1,0),⟨c.J.jobs++[newJ m.L r],wr (c.J.live+1),c.J.made⟩):=by
    unfold submitJ;rw [if_neg (by rw [hright];decide),if_neg (by omega),hnew]
  rw [submitW_takes rfl hw0 hs] at hst
  simp only []
  generalize hj:newJ m.L r=j at*
  have hjid:j.Id=(c.J.jobs.length:Int)+1:=by rw [←hj,hL];rfl
  have hjs:j.State=1∨j.State=2:=by rw [←hj];unfold newJ;simp only [];split<;>simp
  have hjp:j.Plan= -1:=by rw [←hj];rfl
  have hok:JobOK n (nowC c) j:=by
    refine ⟨by omega,?_,?_,.inl hjp,fun h3=>by omega,?_,?_⟩
    · rw [←hj];show 1≤r.Width∧r.Width≤n;omega
    · rw [←hj];show 1≤r.Limit∧r.Limit≤1048576;omega
    · rw [←hj];show (-1:Int)≤ -1∧(-1:Int)≤1099512676352;decide
    · rw [←hj];exact U64.zero
  have hpl:plannedJ j=false:=planned_not.2 (.inr (by omega))
  have hD:=hd.append hjid hok (by omega) hpl (by unfold liveJ;simp;omega) (by omega) (by omega)
  have hget:getJ (c.J.jobs++[j]) ((c.J.jobs.length:Int)+1)=(j,0):=getJ_at (i:=c.J.jobs.length) (by simp) rfl
  rw [hget] at hst
  generalize hc2:({c with J:=⟨c.J.jobs++[j],wr (c.J.live+1),c.J.made⟩}:Core)=c2 at*
  have hc2j:c2.J.jobs=c.J.jobs++[j]:=by rw [←hc2]
  have hc2n:nowC c2=nowC c:=by rw [←hc2];rfl
  have hc2c:c2.closed=c.closed:=by rw [←hc2]
  have htold:toldC c2 ((c.J.jobs.length:Int)+1)=tellR j:=by unfold toldC;rw [hc2j,hget];rfl
  have hrep:Stb n c2 {m with L:=m.L++[j]}:=by
    refine ⟨⟨hD,hlen,by simp only [];rw [hL,hc2j],by simp only [];rw [hc2n];exact h.rep.now,by simp only [];rw [hc2c];exact h.rep.closed,fun k hk=>?_⟩,fun x hx h3=>?_,fun x hx hp=>?_⟩
    · have:=h.rep.dr k hk
      have e:dr c2 k=dr c k:=by rw [←hc2];rfl
      rw [e];exact this
    · rw [hc2n];rw [hc2j] at hx
      rcases List.mem_append.1 hx with hx |hx
      · exact h.fe x hx h3
      · simp at hx;subst hx;omega
    · rw [hc2n];rw [hc2j] at hx
      rcases List.mem_append.1 hx with hx |hx
      · exact h.fp x hx hp
      · simp at hx;subst hx;rw [hpl] at hp;cases hp
  rw [htold] at hst
  have hheld:(newW r).req.Held=r.Held:=by rw [hreq]
  rw [hheld] at hst
  have hbp:bump ({newW r with job:=j,reply:=tellR j,done:=r.Held},c2)=({newW r with job:=j,reply:=tellR j,done:=r.Held,part:=1},c2):=bump_eq ⟨by show (0:Int)≤0;omega,by show (0:Int)≤1000000;omega⟩
  have hst2:stepW (newW r) c=({newW r with job:=j,reply:=tellR j,done:=r.Held,part:=1},c2):=hst.trans hbp
  cases hh:r.Held with
  |true=>
    rw [hh] at hst2
    exact ⟨1,_,_,by omega,Ends.first hst2 rfl,rfl,rfl,by simp,by simpa using hrep⟩
  |false=>
    rw [hh] at hst2
    obtain ⟨k,w',c',b1,b2,b3,b4,b5,b6⟩:=hrep.drops (w:={newW r with job:=j,reply:=tellR j,done:=false,part:=1}) rfl rfl rfl ⟨by show (0:Int)<1;decide,by show (1:Int)≤10;decide⟩ (.inl hk2) (by simp only [];omega)
    exact ⟨k+1,w',c',by omega,Ends.next hst2 rfl b2,b3,by rw [b4],b5,by simpa using b6⟩
theorem getM_rep {n:Nat} {c:Core} {m:Model} (h:Rep n c m) (id:Int):((getM m id).2=false∧getJ c.J.jobs id=(job0,7)∧(getM m id).1=job0∧ ∀st f,atJ c.J.jobs id st f=(7,c.J.jobs))∨
    ∃(i:Nat) (j:Job),id=(i:Int)+1∧c.J.jobs[i]? =some j∧getJ c.J.jobs id=(j,0)∧getM m id=(j,true):=by
  have hL:=h.jobs
  rcases getJ_cases c.J.jobs id with ⟨a,b⟩ |⟨i,j,a,b,d⟩
  · left
    have:getM m id=(job0,false):=by unfold getM;rw [hL,if_pos a]
    rw [this]
    exact ⟨rfl,b,rfl,fun st f=>by unfold atJ;rw [if_pos a]⟩
  · right
    refine ⟨i,j,a,b,d,?_⟩
    have hl:=(List.getElem?_eq_some_iff.1 b).1
    unfold getM
    rw [hL,if_neg (by omega),a,show ((i:Int)+1-1).toNat=i by omega,b]
theorem fresh_set {l:List Job} {now:Int} {i:Nat} {b:Job} (hE:FreshE l now) (hP:FreshP l now) (h3:b.State≠3) (hp:plannedJ b=false):FreshE (l.set i b) now∧FreshP (l.set i b) now:=by
  refine ⟨fun x hx h=>?_,fun x hx h=>?_⟩
  · rcases List.mem_or_eq_of_mem_set hx with hx |rfl
    · exact hE x hx h
    · exact absurd h h3
  · rcases List.mem_or_eq_of_mem_set hx with hx |rfl
    · exact hP x hx h
    · rw [hp] at h;cases h
theorem finishJ_at {t:Jobs} {i:Nat} {j:Job} (hj:t.jobs[i]? =some j) {id st at_:Int} (hid:id=(i:Int)+1) (hst:st=4∨st=5) (hat:0≤at_∧at_≤2199023255552) (hs:if st=5 then j.State=3∨j.State=1∨j.State=2 else j.State=3):
    finishJ t id st at_=(0,{t with jobs:=t.jobs.set i {j with End:=if j.State=3 then at_ else j.End,State:=st,Plan:= -1},live:=wr (t.live-1)}):=by
  unfold finishJ
  rw [if_neg (by omega),if_neg (by omega)]
  simp only []
  rw [atJ_at hj hid]
  have:(if st=5 then [3,1,2] else [3]:List Int).contains j.State=true:=by
    split
    · rename_i h5;rw [if_pos h5] at hs;rcases hs with e |e |e<;>rw [e]<;>decide
    · rename_i h5;rw [if_neg h5] at hs;rw [hs];decide
  rw [this];rfl
theorem finishJ_no {t:Jobs} {i:Nat} {j:Job} (hj:t.jobs[i]? =some j) {id st at_:Int} (hid:id=(i:Int)+1) (hst:st=4∨st=5) (hat:0≤at_∧at_≤2199023255552) (hs:if st=5 then j.State≠3∧j.State≠1∧j.State≠2 else j.State≠3):
    finishJ t id st at_=(8,t):=by
  unfold finishJ
  rw [if_neg (by omega),if_neg (by omega)]
  simp only []
  rw [atJ_at hj hid]
  have:(if st=5 then [3,1,2] else [3]:List Int).contains j.State=false:=by
    split
    · rename_i h5;rw [if_pos h5] at hs;simp [hs.1,hs.2.1,hs.2.2]
    · rename_i h5;rw [if_neg h5] at hs;simp [hs]
  rw [this];rfl
theorem Deep.finish {n:Nat} {c:Core} (h:Deep n c) {i:Nat} {j:Job} (hj:c.J.jobs[i]? =some j) {st:Int} (hst:st=4∨st=5) (hs:j.State≤3):
    ∃N' P',N'.all=c.N.all∧N'.drain=c.N.drain∧nowL P'.steps=nowC c∧
      (j.State=3→(giveN c.N j.Nodes).2=N'∧(if 0<(giveN c.N j.Nodes).1.1 then (addP c.P (nowC c) j.End (giveN c.N j.Nodes).1.1).2 else c.P)=P')∧
      (j.State≠3→c.N=N'∧(if plannedJ j=true then (addP c.P j.Plan (j.Plan+j.Limit) j.Width).2 else c.P)=P')∧
      Deep n ⟨⟨c.J.jobs.set i {j with End:=if j.State=3 then nowC c else j.End,State:=st,Plan:= -1},wr (c.J.live-1),c.J.made⟩,N',P',c.closed⟩:=by
  have hok:=h.jobs j (job_mem hj)
  have hid:=id_at h.cw hj
  have hnw:=h.nw
  have hlm:=hok.lm
  have hwd:=hok.wd
  have hlen:=h.len
  have h64:=h.n64
  generalize hbd:({j with End:=if j.State=3 then nowC c else j.End,State:=st,Plan:= -1}:Job)=b
  have b1:b.State=st:=by rw [←hbd]
  have b2:b.Plan= -1:=by rw [←hbd]
  have b3:b.Id=j.Id:=by rw [←hbd]
  have b4:b.Nodes=j.Nodes:=by rw [←hbd]
  have b5: -1≤b.End∧b.End≤1099512676352:=by
    have:=hok.en
    rw [←hbd];simp only [];split<;>omega
  have hbp:plannedJ b=false:=planned_not.2 (.inr (by omega))
  have hb:JobOK n (nowC c) b:=⟨by omega,by rw [←hbd];exact hok.wd,by rw [←hbd];exact hok.lm,.inl b2,fun h3=>by omega,b5,by rw [b4];exact hok.un⟩
  have hr: ∀t,reqF n (dr c) (c.J.jobs.set i b) t=reqF n (dr c) c.J.jobs t+takeJ n (dr c) t j:=fun t=>by
    rw [reqF_set hj,take_rest hbp (by omega)];omega
  have hle: ∀t,reqF n (dr c) (c.J.jobs.set i b) t≤n:=fun t=>reqF_le (jobs_set h.jobs hb)
  have hge: ∀t,nowC c≤t→0≤reqF n (dr c) (c.J.jobs.set i b) t:=fun t ht=>by
    have:=h.nn t ht
    have:=takeJ_nonneg (d:=dr c) (t:=t) hok
    rw [hr];omega
  have hlive:1≤liveN c.J.jobs:=by
    unfold liveN
    have:0<c.J.jobs.countP liveJ:=List.countP_pos_iff.2 ⟨j,job_mem hj,by simp [liveJ];omega⟩
    omega
  have hlw:wr (c.J.live-1)=c.J.live-1:=wr_in (by have:=h.lv;have:=h.l64;omega)
  have hlv:liveN (c.J.jobs.set i b)=liveN c.J.jobs-1:=by
    rw [liveN_set hj]
    have e1:liveJ j=true:=by simp [liveJ];omega
    have e2:liveJ b=false:=by simp [liveJ];omega
    rw [e1,e2];simp
  by_cases h3:j.State=3
  · obtain ⟨q1,q2,q3⟩:=hok.rn h3
    have hin: ∀k:Nat,hasB j.Nodes k=true→hasB c.N.used k=true:=fun k hk=>by rw [h.us];exact used_of hj h3 hk
    have hz:minusS j.Nodes c.N.used=0:=by
      refine bits_ext (U64_minus hok.un) U64.zero fun k _=>?_
      rw [hasB_minus hok.un h.cw.2.1.2.1,hasB_zero]
      cases hk:hasB j.Nodes k with
      |false=>rfl
      |true=>rw [hin k hk];rfl
    have hg:giveN c.N j.Nodes=((lenS (minusS j.Nodes c.N.drain),0),{c.N with used:=minusS c.N.used j.Nodes}):=by
      unfold giveN;rw [if_neg (by rw [hz];simp)]
    have hback:lenS (minusS j.Nodes c.N.drain)=cntN (fun k=>hasB j.Nodes k&&!dr c k) n:=by
      rw [lenS_cut (U64_minus hok.un) h64 fun k hk=>by
        rw [hasB_minus hok.un h.cw.2.1.2.2.1] at hk
        simp only [Bool.and_eq_true] at hk
        exact q3 k hk.1]
      exact cntN_congr fun k _=>hasB_minus hok.un h.cw.2.1.2.2.1 k
    have hb0:0≤lenS (minusS j.Nodes c.N.drain)∧lenS (minusS j.Nodes c.N.drain)≤n:=by
      rw [hback];exact ⟨cntN_nonneg _ _,cntN_le _ _⟩
    have hmt:Match (if 0<lenS (minusS j.Nodes c.N.drain) then (addP c.P (nowC c) j.End (lenS (minusS j.Nodes c.N.drain))).2 else c.P) (nowC c) (reqF n (dr c) (c.J.jobs.set i b)):=by
      split
      · refine (h.mt.add (by omega) (Int.le_refl _) (by omega) (by have:=hok.en;omega) (by omega) h.bound (fun t ht=>⟨hge t ht,by have:=hle t;omega⟩) fun t ht=>?_).1
        rw [hr t]
        congr 1
        unfold takeJ
        rw [if_pos h3,←hback]
        by_cases hc:t<j.End
        · rw [if_pos hc,if_pos ⟨ht,.inl hc⟩]
        · rw [if_neg hc,if_neg (by have:=hok.en;omega)]
      · refine h.mt.congr fun t ht=>?_
        rw [hr t]
        unfold takeJ
        rw [if_pos h3,←hback]
        split<;>omega
    refine ⟨{c.N with used:=minusS c.N.used j.Nodes},_,rfl,rfl,hmt.nw,fun _=>by rw [hg];exact ⟨rfl,rfl⟩,fun e=>absurd h3 e,?_⟩
    refine h.set (b:=b) hj b3 hb rfl rfl (U64_minus h.cw.2.1.2.1) (fun k=>?_) (h.ap.less hj fun e=>by omega) hmt hge (by rw [hlv,hlw,h.lv]) (by rw [hlv];have:=h.l64;omega)
    simp only []
    rw [hasB_minus h.cw.2.1.2.1 hok.un,h.us]
    unfold usedL
    have hbr: ∀k:Int,runsOn k b=false:=fun k=>by
      have: ¬ st=3:=by omega
      unfold runsOn;rw [b1];simp [this]
    cases hk:hasB j.Nodes k with
    |false=>
      rw [any_set_same hj (by rw [hbr];simp [runsOn,hk])];simp
    |true=>
      have:(c.J.jobs.set i b).any (runsOn (k:Int))=false:=by
        rw [List.any_eq_false]
        intro x hx
        obtain ⟨p,hp⟩:=List.getElem?_of_mem hx
        by_cases hip:i=p
        · subst hip
          rw [List.getElem?_set_self (List.getElem?_eq_some_iff.1 hj).1] at hp
          cases hp;rw [hbr];decide
        · rw [List.getElem?_set_ne hip] at hp
          by_cases hx3:x.State=3
          · have:=h.ap i p j x hip hj hp h3 hx3 k hk
            simp [runsOn,this]
          · simp [runsOn,hx3]
      rw [this];simp
  · have hmt:Match (if plannedJ j=true then (addP c.P j.Plan (j.Plan+j.Limit) j.Width).2 else c.P) (nowC c) (reqF n (dr c) (c.J.jobs.set i b)):=by
      by_cases hp:plannedJ j=true
      · have hpi:=planned_iff.1 hp
        have hpl:=hok.plan hp
        rw [if_pos hp]
        refine (h.mt.add (by omega) hpl.1 (by omega) (by omega) (by omega) h.bound (fun t ht=>⟨hge t ht,by have:=hle t;omega⟩) fun t ht=>?_).1
        rw [hr t,take_planned hp (by omega)]
        congr 1
        by_cases hc:j.Plan≤t∧t<j.Plan+j.Limit
        · rw [if_pos hc,if_pos ⟨hc.1,.inl hc.2⟩]
        · rw [if_neg hc,if_neg (by omega)]
      · rw [if_neg hp]
        refine h.mt.congr fun t ht=>?_
        rw [hr t,take_rest (by simpa using hp) h3];omega
    refine ⟨c.N,_,rfl,rfl,hmt.nw,fun e=>absurd e h3,fun _=>⟨rfl,rfl⟩,?_⟩
    refine h.set (b:=b) hj b3 hb rfl rfl h.cw.2.1.2.1 (fun k=>?_) (h.ap.less hj fun e=>by omega) hmt hge (by rw [hlv,hlw,h.lv]) (by rw [hlv];have:=h.l64;omega)
    rw [h.us];unfold usedL
    rw [any_set_same hj]
    have: ¬ st=3:=by omega
    simp [runsOn,b1,h3,this]
end Go.Ax.Law
namespace Go.Ax.Law
open Go.Ax.O
theorem step_next {w:Work} {c:Core} (hd:w.done=false) (hc:w.commit=false) (hp:0<w.part):stepW w c=bump (serveW w c):=step_first hd hc (by omega)
theorem told_at {c:Core} {i:Nat} {j:Job} (hj:c.J.jobs[i]? =some j) {id:Int} (hid:id=(i:Int)+1):toldC c id=tellR j:=by
  unfold toldC;rw [getJ_at hj hid];rfl
theorem set_at {l:List Job} {i:Nat} {a b:Job} (h:l[i]? =some a):(l.set i b)[i]? =some b:=List.getElem?_set_self (List.getElem?_eq_some_iff.1 h).1
theorem finish_done {n:Nat} {c:Core} {m:Model} (h:Stb n c m) (hc:c.closed=false) {r:Req} (hk:r.Kind=2∨r.Kind=5):Done n (newW r) c (endM m r):=by
  have hd:=h.rep.deep
  have hst:=step_new (r:=r) hc
  have hk2:(newW r).req.Kind=r.Kind:=clean_kind r
  have hid2:(newW r).req.Id=r.Id:=cleanId (by omega)
  rw [serve25 (by omega)] at hst
  have hnw:=hd.nw
  have hL:m.L=c.J.jobs:=h.rep.jobs
  have hf0:finishW (newW r) c=(let w1:={newW r with job:=(getJ c.J.jobs r.Id).1}
      let f:=finishJ c.J r.Id (if r.Kind=2 then 5 else 4) (nowC c)
      if f.1≠0 then (failW w1 f.1,{c with J:=f.2}) else ({w1 with reply:=toldC {c with J:=f.2} r.Id},{c with J:=f.2})):=by
    unfold finishW
    rw [if_pos (show (newW r).part=0 from rfl),hk2,hid2]
  rw [hf0] at hst
  unfold endM
  generalize hsv:(if r.Kind=2 then 5 else 4:Int)=st at hst
  have hstv:st=4∨st=5:=by rw [←hsv];split<;>omega
  have hst5:st=5↔r.Kind=2:=by rw [←hsv];split<;>omega
  rcases getM_rep h.rep r.Id with ⟨g1,g2,g3,g4⟩ |⟨i,j,hid,hj,g2,g3⟩
  · have hf:finishJ c.J r.Id st (nowC c)=(7,c.J):=by
      unfold finishJ
      rw [if_neg (by omega),if_neg (by omega)]
      simp only [g4];rw [if_neg (by decide)]
    rw [g1,if_pos rfl]
    rw [hf] at hst
    simp only [] at hst
    rw [if_pos (by decide)] at hst
    exact Done.fail h rfl rfl ⟨rfl,rfl⟩ hst
  · have hok:=hd.jobs j (job_mem hj)
    rw [g3]
    simp only []
    rw [if_neg (by decide)]
    have hbad:(3<j.State∨r.Kind=5∧j.State≠3)↔(if st=5 then j.State≠3∧j.State≠1∧j.State≠2 else j.State≠3):=by
      have:=hok.st
      by_cases h5:st=5
      · rw [if_pos h5];have:=hst5.1 h5;omega
      · rw [if_neg h5];have: ¬ r.Kind=2:=fun e=>h5 (hst5.2 e);omega
    by_cases hb:3<j.State∨r.Kind=5∧j.State≠3
    · rw [if_pos hb]
      rw [finishJ_no hj hid hstv (by omega) (hbad.1 hb)] at hst
      simp only [] at hst
      rw [if_pos (by decide)] at hst
      exact Done.fail h rfl rfl ⟨rfl,rfl⟩ hst
    · rw [if_neg hb]
      have hs3:j.State≤3:=by omega
      have hgood:if st=5 then j.State=3∨j.State=1∨j.State=2 else j.State=3:=by
        have:=hok.st
        by_cases h5:st=5
        · rw [if_pos h5];omega
        · rw [if_neg h5];have: ¬ r.Kind=2:=fun e=>h5 (hst5.2 e);omega
      rw [finishJ_at hj hid hstv (by omega) hgood,g2] at hst
      simp only [] at hst
      rw [if_neg (by decide)] at hst
      obtain ⟨N',P',n1,n2,n3,n4,n5,n6⟩:=hd.finish hj hstv hs3
      have hme:(if r.Kind=5 then 4 else 5:Int)=st:=by
        rcases hk with hk |hk
        · rw [if_neg (by omega)];have:=hst5.2 hk;omega
        · rw [if_pos hk];have:st≠5:=fun e=>by have:=hst5.1 e;omega
          omega
      have hmb:({j with End:=if j.State=3 then m.Now else j.End,Plan:= -1,State:=if r.Kind=5 then 4 else 5}:Job)={j with End:=if j.State=3 then nowC c else j.End,State:=st,Plan:= -1}:=by rw [hme,h.rep.now]
      rw [hmb]
      have hrid:(r.Id-1).toNat=i:=by omega
      rw [hrid,hL]
      generalize hbd:({j with End:=if j.State=3 then nowC c else j.End,State:=st,Plan:= -1}:Job)=b at*
      have b1:b.State=st:=by rw [←hbd]
      have b2:b.Plan= -1:=by rw [←hbd]
      have htold:=told_at (c:={c with J:=⟨c.J.jobs.set i b,wr (c.J.live-1),c.J.made⟩}) (set_at hj) hid
      rw [htold] at hst
      generalize hc1:({c with J:=⟨c.J.jobs.set i b,wr (c.J.live-1),c.J.made⟩}:Core)=c1 at hst
      have hb1:=bump_eq (w:={newW r with job:=j,reply:=tellR b}) (c:=c1) ⟨by show (0:Int)≤0;decide,by show (0:Int)≤1000000;decide⟩
      have hst1:=hst.trans hb1
      simp only [] at hst1
      generalize hw1:({newW r with job:=j,reply:=tellR b,part:=(newW r).part+1}:Work)=w1 at hst1
      have p1:w1.part=1:=by rw [←hw1];rfl
      have j1:w1.job=j:=by rw [←hw1]
      have k1:w1.req.Kind=r.Kind:=by rw [←hw1];exact hk2
      have d1:w1.done=false:=by rw [←hw1];rfl
      have m1:w1.commit=false:=by rw [←hw1];rfl
      have o1:w1.ok=false:=by rw [←hw1];rfl
      have r1:w1.reply=tellR b:=by rw [←hw1]
      have hst2: ∃w2,stepW w1 c1=(w2,{c1 with N:=N'})∧w2.part=2∧w2.job=j∧w2.req.Kind=r.Kind∧w2.done=false∧w2.commit=false∧w2.ok=false∧w2.reply=tellR b∧(j.State=3→w2.back=(giveN c.N j.Nodes).1.1):=by
        have e:=step_next (c:=c1) d1 m1 (by omega)
        rw [serve25 (by omega)] at e
        unfold finishW at e
        rw [if_neg (by omega),if_pos p1,j1] at e
        have hcN:c1.N=c.N:=by rw [←hc1]
        by_cases h3:j.State=3
        · rw [if_pos h3,hcN,(n4 h3).1] at e
          refine ⟨_,e.trans (bump_eq (w:={w1 with job:=j,back:=(giveN c.N j.Nodes).1.1}) ⟨by simp only [p1];decide,by simp only [p1];decide⟩),?_,rfl,k1,d1,m1,o1,r1,fun _=>rfl⟩
          simp only [p1];rfl
        · rw [if_neg h3] at e
          have:c1={c1 with N:=N'}:=by rw [←(n5 h3).1,←hcN]
          rw [←this]
          refine ⟨_,e.trans (bump_eq ⟨by omega,by omega⟩),?_,j1,k1,d1,m1,o1,r1,fun e=>absurd e h3⟩
          simp only [p1];rfl
      obtain ⟨w2,e2,p2,j2,k2,d2,m2,o2,r2,q2⟩:=hst2
      have hst3: ∃w3,stepW w2 {c1 with N:=N'}=(w3,⟨⟨c.J.jobs.set i b,wr (c.J.live-1),c.J.made⟩,N',P',c.closed⟩)∧w3.done=true∧w3.ok=false∧w3.reply=tellR b∧w3.part≤1000:=by
        have e:=step_next (c:={c1 with N:=N'}) d2 m2 (by omega)
        rw [serve25 (by omega)] at e
        unfold finishW at e
        rw [if_neg (by omega),if_neg (by omega)] at e
        simp only [] at e
        have hcP:c1.P=c.P:=by rw [←hc1]
        have hcJ:c1.J=⟨c.J.jobs.set i b,wr (c.J.live-1),c.J.made⟩:=by rw [←hc1]
        have hcC:c1.closed=c.closed:=by rw [←hc1]
        have hcore:(if w2.job.State=3∧0<w2.back then addC (unplanC w2 {c1 with N:=N'}) (nowC (unplanC w2 {c1 with N:=N'})) w2.job.End w2.back else unplanC w2 {c1 with N:=N'})=⟨⟨c.J.jobs.set i b,wr (c.J.live-1),c.J.made⟩,N',P',c.closed⟩:=by
          by_cases h3:j.State=3
          · have hu:unplanC w2 {c1 with N:=N'}={c1 with N:=N'}:=by
              unfold unplanC;rw [planS_snd,j2,if_neg (by rw [planned_not.2 (.inl (by omega))];decide)]
            rw [hu,j2,q2 h3]
            have hn1:nowC {c1 with N:=N'}=nowC c:=by unfold nowC;rw [hcP]
            rw [hn1,←(n4 h3).2]
            by_cases hpos:0<(giveN c.N j.Nodes).1.1
            · rw [if_pos ⟨h3,hpos⟩,if_pos hpos]
              unfold addC;rw [hcP,hcJ,hcC]
            · rw [if_neg (fun g=>hpos g.2),if_neg hpos,←hcJ,←hcP,←hcC]
          · rw [j2,if_neg (fun g=>h3 g.1),←(n5 h3).2]
            unfold unplanC
            rw [planS_snd,j2]
            by_cases hp:plannedJ j=true
            · rw [if_pos hp,if_pos hp,planS_fst hp,hok.wrp hp]
              unfold releaseC addC;rw [hcP,hcJ,hcC]
            · rw [if_neg hp,if_neg hp,←hcJ,←hcP,←hcC]
        rw [hcore] at e
        refine ⟨_,e.trans (bump_eq (w:={w2 with done:=true}) ⟨by simp only [p2];decide,by simp only [p2];decide⟩),rfl,o2,r2,?_⟩
        simp only [p2];decide
      obtain ⟨w3,e3,d3,o3,r3,p3⟩:=hst3
      have hend:Ends w2 {c1 with N:=N'} 1 w3 _:=Ends.first e3 d3
      have hend:=Ends.next e2 d2 hend
      have hend:=Ends.next hst1 d1 hend
      have hbp:plannedJ b=false:=planned_not.2 (.inr (by omega))
      obtain ⟨f1,f2⟩:=fresh_set (i:=i) (b:=b) h.fe h.fp (by omega) hbp
      refine ⟨_,_,_,by omega,hend,o3,r3,p3,⟨n6,h.rep.len,rfl,?_,h.rep.closed,fun k hk=>?_⟩,?_,?_⟩
      · show m.Now=nowL P'.steps
        rw [n3];exact h.rep.now
      · have:=h.rep.dr k hk
        unfold dr;simp only [n2];exact this
      · show FreshE _ (nowL P'.steps)
        rw [n3];exact f1
      · show FreshP _ (nowL P'.steps)
        rw [n3];exact f2
end Go.Ax.Law
namespace Go.Ax.Law
open Go.Ax.O
theorem Deep.turn {n:Nat} {c:Core} (h:Deep n c) {i:Nat} {j b:Job} (hj:c.J.jobs[i]? =some j) (h3:j.State≠3) (b3:b.State≠3) (hid:b.Id=j.Id) (hnd:b.Nodes=j.Nodes) (hb:JobOK n (nowC c) b) (hlive:liveJ b=liveJ j) (hbp:plannedJ b=false):
    ∃P',nowL P'.steps=nowC c∧(if plannedJ j=true then (addP c.P j.Plan (j.Plan+j.Limit) j.Width).2 else c.P)=P'∧Deep n ⟨⟨c.J.jobs.set i b,c.J.live,c.J.made⟩,c.N,P',c.closed⟩:=by
  have hok:=h.jobs j (job_mem hj)
  have hjid:=id_at h.cw hj
  have hnw:=h.nw
  have hlm:=hok.lm
  have hwd:=hok.wd
  have hlen:=h.len
  have h64:=h.n64
  have hr: ∀t,reqF n (dr c) (c.J.jobs.set i b) t=reqF n (dr c) c.J.jobs t+takeJ n (dr c) t j:=fun t=>by
    rw [reqF_set hj,take_rest hbp b3];omega
  have hle: ∀t,reqF n (dr c) (c.J.jobs.set i b) t≤n:=fun t=>reqF_le (jobs_set h.jobs hb)
  have hge: ∀t,nowC c≤t→0≤reqF n (dr c) (c.J.jobs.set i b) t:=fun t ht=>by
    have:=h.nn t ht
    have:=takeJ_nonneg (d:=dr c) (t:=t) hok
    rw [hr];omega
  have hlv:liveN (c.J.jobs.set i b)=liveN c.J.jobs:=by rw [liveN_set hj,hlive];omega
  have hmt:Match (if plannedJ j=true then (addP c.P j.Plan (j.Plan+j.Limit) j.Width).2 else c.P) (nowC c) (reqF n (dr c) (c.J.jobs.set i b)):=by
    by_cases hp:plannedJ j=true
    · have hpi:=planned_iff.1 hp
      have hpl:=hok.plan hp
      rw [if_pos hp]
      refine (h.mt.add (by omega) hpl.1 (by omega) (by omega) (by omega) h.bound (fun t ht=>⟨hge t ht,by have:=hle t;omega⟩) fun t ht=>?_).1
      rw [hr t,take_planned hp (by omega)]
      congr 1
      by_cases hc:j.Plan≤t∧t<j.Plan+j.Limit
      · rw [if_pos hc,if_pos ⟨hc.1,.inl hc.2⟩]
      · rw [if_neg hc,if_neg (by omega)]
    · rw [if_neg hp]
      refine h.mt.congr fun t ht=>?_
      rw [hr t,take_rest (by simpa using hp) h3];omega
  refine ⟨_,hmt.nw,rfl,?_⟩
  refine h.set (b:=b) hj hid hb rfl rfl h.cw.2.1.2.1 (fun k=>?_) (h.ap.less hj fun e=>absurd e b3) hmt hge (by rw [hlv];exact h.lv) (by rw [hlv];exact h.l64)
  rw [h.us];unfold usedL
  rw [any_set_same hj]
  simp [runsOn,b3,h3]
theorem hold_done {n:Nat} {c:Core} {m:Model} (h:Stb n c m) (hc:c.closed=false) {r:Req} (hk:r.Kind=3):Done n (newW r) c (turnM m r):=by
  have hd:=h.rep.deep
  have hst:=step_new (r:=r) hc
  have hk2:(newW r).req.Kind=3:=(clean_kind r).trans hk
  have hid2:(newW r).req.Id=r.Id:=cleanId (by omega)
  rw [serve3 hk2] at hst
  have hnw:=hd.nw
  have hL:m.L=c.J.jobs:=h.rep.jobs
  unfold holdW at hst
  rw [if_neg (show ¬ 0<(newW r).part from by show ¬ (0:Int)<0;decide),hid2] at hst
  unfold turnM
  rcases getM_rep h.rep r.Id with ⟨g1,g2,g3,g4⟩ |⟨i,j,hid,hj,g2,g3⟩
  · have hf:holdJ c.J r.Id=(7,c.J):=by unfold holdJ;simp only [g4]
    rw [g1,if_pos rfl]
    rw [hf] at hst
    simp only [] at hst
    rw [if_pos (by decide)] at hst
    exact Done.fail h rfl rfl ⟨rfl,rfl⟩ hst
  · have hok:=hd.jobs j (job_mem hj)
    rw [g3]
    simp only []
    rw [if_neg (by decide)]
    by_cases h1:j.State=1
    · rw [if_neg (by omega),if_pos hk,if_neg (by omega)]
      have hf:holdJ c.J r.Id=(0,{c.J with jobs:=c.J.jobs.set i {j with State:=2,Plan:= -1}}):=by
        unfold holdJ;simp only [];rw [atJ_at hj hid,if_pos (by rw [h1];decide)]
      rw [hf,g2] at hst
      simp only [] at hst
      rw [if_neg (by decide)] at hst
      obtain ⟨P',n3,n4,n6⟩:=hd.turn (b:={j with State:=2,Plan:= -1}) hj (by omega) (by simp) rfl rfl ⟨by simp,hok.wd,hok.lm,.inl rfl,fun e=>by simp at e,hok.en,hok.un⟩ (by simp [liveJ,h1]) (by simp [plannedJ])
      have hrid:(r.Id-1).toNat=i:=by omega
      rw [hrid,hL]
      have hbp:plannedJ {j with State:=2,Plan:= -1}=false:=by simp [plannedJ]
      have htold:=told_at (c:={c with J:={c.J with jobs:=c.J.jobs.set i {j with State:=2,Plan:= -1}}}) (set_at hj) hid
      rw [htold] at hst
      have hst1:=hst.trans (bump_eq (w:={newW r with job:=j,reply:=tellR {j with State:=2,Plan:= -1}}) ⟨by show (0:Int)≤0;decide,by show (0:Int)≤1000000;decide⟩)
      simp only [] at hst1
      generalize hw1:({newW r with job:=j,reply:=tellR {j with State:=2,Plan:= -1},part:=(newW r).part+1}:Work)=w1 at hst1
      have p1:w1.part=1:=by rw [←hw1];rfl
      have j1:w1.job=j:=by rw [←hw1]
      have k1:w1.req.Kind=3:=by rw [←hw1];exact hk2
      have d1:w1.done=false:=by rw [←hw1];rfl
      have m1:w1.commit=false:=by rw [←hw1];rfl
      have o1:w1.ok=false:=by rw [←hw1];rfl
      have r1:w1.reply=tellR {j with State:=2,Plan:= -1}:=by rw [←hw1]
      have e:=step_next (c:={c with J:={c.J with jobs:=c.J.jobs.set i {j with State:=2,Plan:= -1}}}) d1 m1 (by omega)
      rw [serve3 k1] at e
      unfold holdW at e
      rw [if_pos (by omega)] at e
      have hcore:unplanC w1 {c with J:={c.J with jobs:=c.J.jobs.set i {j with State:=2,Plan:= -1}}}=⟨⟨c.J.jobs.set i {j with State:=2,Plan:= -1},c.J.live,c.J.made⟩,c.N,P',c.closed⟩:=by
        unfold unplanC
        rw [planS_snd,j1,←n4]
        by_cases hp:plannedJ j=true
        · rw [if_pos hp,if_pos hp,planS_fst hp,hok.wrp hp]
          rfl
        · rw [if_neg hp,if_neg hp]
      rw [hcore] at e
      have e2:=e.trans (bump_eq (w:={w1 with done:=true}) ⟨by simp only [p1];decide,by simp only [p1];decide⟩)
      have hend:=Ends.next hst1 d1 (Ends.first e2 rfl)
      obtain ⟨f1,f2⟩:=fresh_set (i:=i) (b:={j with State:=2,Plan:= -1}) h.fe h.fp (by simp) hbp
      refine ⟨_,_,_,by omega,hend,o1,r1,by simp only [p1];decide,⟨n6,h.rep.len,rfl,?_,h.rep.closed,h.rep.dr⟩,?_,?_⟩
      · show m.Now=nowL P'.steps
        rw [n3];exact h.rep.now
      · show FreshE _ (nowL P'.steps)
        rw [n3];exact f1
      · show FreshP _ (nowL P'.steps)
        rw [n3];exact f2
    · rw [if_pos (.inl ⟨hk,h1⟩)]
      have hf:holdJ c.J r.Id=(8,c.J):=by
        unfold holdJ;simp only [];rw [atJ_at hj hid,if_neg (by simp [h1])]
      rw [hf] at hst
      simp only [] at hst
      rw [if_pos (by decide)] at hst
      exact Done.fail h rfl rfl ⟨rfl,rfl⟩ hst
theorem free_done {n:Nat} {c:Core} {m:Model} (h:Stb n c m) (hc:c.closed=false) {r:Req} (hk:r.Kind=4):Done n (newW r) c (turnM m r):=by
  have hd:=h.rep.deep
  have hst:=step_new (r:=r) hc
  have hk2:(newW r).req.Kind=4:=(clean_kind r).trans hk
  have hid2:(newW r).req.Id=r.Id:=cleanId (by omega)
  rw [serve4 hk2] at hst
  have hnw:=hd.nw
  have hL:m.L=c.J.jobs:=h.rep.jobs
  unfold freeW at hst
  rw [if_neg (show ¬ 0<(newW r).part from by show ¬ (0:Int)<0;decide),hid2] at hst
  unfold turnM
  rcases getM_rep h.rep r.Id with ⟨g1,g2,g3,g4⟩ |⟨i,j,hid,hj,g2,g3⟩
  · have hf:freeJ c.J r.Id=(7,c.J):=by unfold freeJ;simp only [g4]
    rw [g1,if_pos rfl]
    rw [hf] at hst
    simp only [] at hst
    rw [if_pos (by decide)] at hst
    exact Done.fail h rfl rfl ⟨rfl,rfl⟩ hst
  · have hok:=hd.jobs j (job_mem hj)
    have hjid:=id_at hd.cw hj
    rw [g3]
    simp only []
    rw [if_neg (by decide)]
    by_cases h2:j.State=2
    · rw [if_neg (by omega),if_neg (by omega),if_pos hk,if_pos hk]
      have hplan:j.Plan= -1:=by rcases hok.pl with e |e<;>omega
      have hf:freeJ c.J r.Id=(0,{c.J with jobs:=c.J.jobs.set i {j with State:=1}}):=by
        unfold freeJ;simp only [];rw [atJ_at hj hid,if_pos (by rw [h2];decide)]
      rw [hf] at hst
      simp only [] at hst
      rw [if_neg (by decide)] at hst
      have hbp:plannedJ {j with State:=1}=false:=planned_not.2 (.inr (by simp only [];omega))
      obtain ⟨P',n3,n4,n6⟩:=hd.turn (b:={j with State:=1}) hj (by omega) (by simp) rfl rfl ⟨by simp,hok.wd,hok.lm,.inl hplan,fun e=>by simp at e,hok.en,hok.un⟩ (by simp [liveJ,h2]) hbp
      rw [if_neg (by rw [planned_not.2 (.inl (by omega))];decide)] at n4
      subst n4
      have hrid:(r.Id-1).toNat=i:=by omega
      rw [hrid,hL]
      have htold:=told_at (c:={c with J:={c.J with jobs:=c.J.jobs.set i {j with State:=1}}}) (set_at hj) hid
      have hget:=getJ_at (set_at (b:={j with State:=1}) hj) hid
      rw [htold,hget] at hst
      have hst1:=hst.trans (bump_eq (w:={newW r with job:={j with State:=1},reply:=tellR {j with State:=1}}) ⟨by show (0:Int)≤0;decide,by show (0:Int)≤1000000;decide⟩)
      simp only [] at hst1
      obtain ⟨f1,f2⟩:=fresh_set (i:=i) (b:={j with State:=1}) h.fe h.fp (by simp) hbp
      have hrep:Stb n {c with J:={c.J with jobs:=c.J.jobs.set i {j with State:=1}}} {m with L:=c.J.jobs.set i {j with State:=1}}:=
        ⟨⟨n6,h.rep.len,rfl,h.rep.now,h.rep.closed,h.rep.dr⟩,f1,f2⟩
      obtain ⟨k,w',c',b1,b2,b3,b4,b5,b6⟩:=hrep.drops (w:={newW r with job:={j with State:=1},reply:=tellR {j with State:=1},part:=(newW r).part+1}) rfl rfl rfl ⟨by show (0:Int)<1;decide,by show (1:Int)≤10;decide⟩ (.inr hk2) (by simp only [];omega)
      exact ⟨k+1,w',c',by omega,Ends.next hst1 rfl b2,b3,by rw [b4],b5,b6⟩
    · rw [if_pos (.inr ⟨hk,h2⟩)]
      have hf:freeJ c.J r.Id=(8,c.J):=by
        unfold freeJ;simp only [];rw [atJ_at hj hid,if_neg (by simp [h2])]
      rw [hf] at hst
      simp only [] at hst
      rw [if_pos (by decide)] at hst
      exact Done.fail h rfl rfl ⟨rfl,rfl⟩ hst
theorem Done.once {n:Nat} {w:Work} {c c':Core} {m:Model} {e:Reply} (hp:w.part=0) (hok:w.ok=false) (hst:stepW w c=bump (endW w e,c')) (h:Stb n c' m):Done n w c (e,m):=
  ⟨1,_,_,by omega,Ends.first hst rfl,hok,rfl,by show wr (w.part+1)≤1000;rw [hp];decide,h⟩
theorem query_done {n:Nat} {c:Core} {m:Model} (h:Stb n c m) (hc:c.closed=false) {r:Req} (hk:r.Kind=6):Done n (newW r) c (turnM m r):=by
  have hst:=step_new (r:=r) hc
  have hk2:(newW r).req.Kind=6:=(clean_kind r).trans hk
  have hid2:(newW r).req.Id=r.Id:=cleanId (by omega)
  have hL:m.L=c.J.jobs:=h.rep.jobs
  rw [serve6 hk2,hid2] at hst
  unfold turnM
  rcases getM_rep h.rep r.Id with ⟨g1,g2,g3,g4⟩ |⟨i,j,hid,hj,g2,g3⟩
  · rw [g1,if_pos rfl]
    have:toldC c r.Id=failR 7:=by unfold toldC;rw [g2,if_neg (by decide)]
    rw [this] at hst
    exact Done.once rfl rfl hst h
  · rw [g3]
    simp only []
    rw [if_neg (by decide),if_neg (by omega),if_neg (by omega),if_neg (by omega),if_neg (by omega)]
    have hrid:(r.Id-1).toNat=i:=by omega
    rw [told_at hj hid] at hst
    rw [hrid,hL,set_self hj,←hL]
    exact Done.once rfl rfl hst h
end Go.Ax.Law
