import Derived.Test.YtnoinchifbckcaaGreatDoorAxD5
set_option linter.all false
namespace Go.Ax.Law
open Go.Ax.O
theorem overJ_id (now:Int) (a:Job):(overJ now a).Id=a.Id:=by unfold overJ;split<;>rfl
theorem set_self {l:List Job} {i:Nat} {a:Job} (h:l[i]? =some a):l.set i a=l:=by
  apply List.ext_getElem?
  intro p
  rw [List.getElem?_set]
  split
  · rename_i hp;subst hp
    rw [h,if_pos (List.getElem?_eq_some_iff.1 h).1]
  · rfl
theorem over_pot {now:Int} {a:Job}:overJ now a=a∨potJ (overJ now a)<potJ a:=by
  unfold overJ
  split
  · rename_i h
    right
    unfold potJ
    have h1:plannedJ {a with State:=6}=false:=planned_not.2 (.inl (by simp))
    have h2:plannedJ a=false:=planned_not.2 (.inl (by omega))
    simp [h1,h2,h.1]
  · exact .inl rfl
theorem over_one {n:Nat} {c:Core} (h:Deep n c) {i:Nat} {a:Job} (ha:c.J.jobs[i]? =some a) (h3:a.State=3):
    Deep n (timeout1 c a)∧(timeout1 c a).P=c.P∧(timeout1 c a).closed=c.closed∧(timeout1 c a).N.drain=c.N.drain∧(timeout1 c a).J.jobs=c.J.jobs.set i (overJ (nowC c) a):=by
  have hle:=((h.jobs a (job_mem ha)).rn h3).1
  by_cases he:a.End=nowC c
  · obtain ⟨N',e1,e2,e3,e4⟩:=h.over ha h3 he
    rw [e1]
    refine ⟨e4,rfl,rfl,e3,?_⟩
    unfold overJ;rw [if_pos ⟨h3,he⟩]
  · have:timeout1 c a=c:=by unfold timeout1;rw [if_neg (by omega)]
    rw [this]
    refine ⟨h,rfl,rfl,rfl,?_⟩
    unfold overJ;rw [if_neg (fun g=>he g.2),set_self ha]
def overIn (now:Int) (S:List Job) (x:Job):Job:=if x.Id∈S.map Job.Id then overJ now x else x
theorem overs {n:Nat}: ∀(S:List Job) {c:Core},Deep n c→(∀a∈S,∃i:Nat,c.J.jobs[i]? =some a∧a.State=3)→S.Pairwise (fun a b=>a.Id≠b.Id)→
    Deep n (S.foldl timeout1 c)∧(S.foldl timeout1 c).P=c.P∧(S.foldl timeout1 c).closed=c.closed∧(S.foldl timeout1 c).N.drain=c.N.drain∧(S.foldl timeout1 c).J.jobs=c.J.jobs.map (overIn (nowC c) S)
  | [],c,h,_,_=>by
    refine ⟨h,rfl,rfl,rfl,?_⟩
    have:overIn (nowC c) []=id:=by funext x;simp [overIn]
    simp [this]
  |a::S,c,h,hS,hp=>by
    obtain ⟨i,hi,h3⟩:=hS a (by simp)
    obtain ⟨g1,g2,g3,g4,g5⟩:=over_one h hi h3
    have hn:nowC (timeout1 c a)=nowC c:=by unfold nowC;rw [g2]
    have hpl:Placed c.J.jobs:=fun i j hj=>id_at h.cw hj
    have hp1:=(List.pairwise_cons.1 hp).1
    obtain ⟨k1,k2,k3,k4,k5⟩:=overs S g1 (fun b hb=>by
      obtain ⟨p,hp,hb3⟩:=hS b (by simp [hb])
      refine ⟨p,?_,hb3⟩
      have hne:i≠p:=fun e=>by
        subst e
        rw [hi] at hp;cases hp
        exact hp1 a hb rfl
      rw [g5,List.getElem?_set_ne hne];exact hp) (List.pairwise_cons.1 hp).2
    simp only [List.foldl_cons]
    refine ⟨k1,k2.trans g2,k3.trans g3,k4.trans g4,?_⟩
    rw [k5,hn,g5]
    apply List.ext_getElem?
    intro p
    simp only [List.getElem?_map,List.getElem?_set]
    by_cases hip:i=p
    · subst hip
      have hil:=(List.getElem?_eq_some_iff.1 hi).1
      rw [if_pos rfl,if_pos hil,hi]
      simp only [Option.map_some]
      have e1: ¬ a.Id∈S.map Job.Id:=fun hm=>by
        obtain ⟨b,hb,e⟩:=List.mem_map.1 hm
        exact hp1 b hb e.symm
      have e2:overIn (nowC c) S (overJ (nowC c) a)=overJ (nowC c) a:=by
        unfold overIn;rw [overJ_id,if_neg e1]
      have e3:overIn (nowC c) (a::S) a=overJ (nowC c) a:=by
        unfold overIn;rw [if_pos (by simp)]
      rw [e2,e3]
    · rw [if_neg hip]
      cases hx:c.J.jobs[p]? with
      |none=>rfl
      |some x=>
        simp only [Option.map_some]
        have:x.Id≠a.Id:=by rw [hpl _ _ hx,hpl _ _ hi];omega
        simp [overIn,this]
theorem ids_pair {l:List Job} (h:Placed l):l.Pairwise fun a b=>a.Id≠b.Id:=by
  rw [List.pairwise_iff_getElem]
  intro i j hi hj hij
  rw [h i _ (List.getElem?_eq_getElem hi),h j _ (List.getElem?_eq_getElem hj)]
  omega
theorem Rep.overs {n:Nat} {c:Core} {m:Model} (h:Rep n c m):
    Rep n (timeoutsC c) {m with L:=m.L.map (overJ m.Now)}∧FreshE (timeoutsC c).J.jobs (nowC c)∧nowC (timeoutsC c)=nowC c∧Drops c.J.jobs (timeoutsC c).J.jobs:=by
  have hpl:Placed c.J.jobs:=fun i j hj=>id_at h.deep.cw hj
  obtain ⟨k1,k2,k3,k4,k5⟩:=Law.overs (inJ c.J.jobs [3]) h.deep (fun a ha=>by
    obtain ⟨h1,h2⟩:=List.mem_filter.1 ha
    obtain ⟨i,hi⟩:=List.getElem?_of_mem h1
    exact ⟨i,hi,by simpa using h2⟩) ((ids_pair hpl).sublist List.filter_sublist)
  have hmap:c.J.jobs.map (overIn (nowC c) (inJ c.J.jobs [3]))=c.J.jobs.map (overJ (nowC c)):=List.map_congr_left fun x hx=>by
    unfold overIn
    split
    · rfl
    · rename_i hno
      unfold overJ
      rw [if_neg]
      intro g
      exact hno (List.mem_map.2 ⟨x,List.mem_filter.2 ⟨hx,by simp [g.1]⟩,rfl⟩)
  have hn:nowC (timeoutsC c)=nowC c:=by unfold nowC timeoutsC;rw [k2]
  have hj:(timeoutsC c).J.jobs=c.J.jobs.map (overJ (nowC c)):=by unfold timeoutsC;rw [k5,hmap]
  refine ⟨⟨k1,h.len,?_,?_,h.closed.trans k3.symm,fun k hk=>?_⟩,?_,hn,?_⟩
  · simp only [];rw [hj,h.jobs,h.now]
  · rw [hn];exact h.now
  · have:=h.dr k hk
    unfold Law.dr timeoutsC;rw [k4];exact this
  · rw [hj]
    intro j hj h3
    obtain ⟨x,hx,rfl⟩:=List.mem_map.1 hj
    unfold overJ at h3 ⊢
    split
    · rename_i hc;rw [if_pos hc] at h3;simp at h3
    · rename_i hc
      rw [if_neg hc] at h3
      have:=((h.deep.jobs x hx).rn h3).1
      have:x.End≠nowC c:=fun e=>hc ⟨h3,e⟩
      omega
  · rw [hj]
    refine ⟨by simp,fun i a ha=>⟨_,by rw [List.getElem?_map,ha];rfl,over_pot⟩⟩
theorem begin1_fold: ∀(S:List Job) (c:Core),CW c→S.foldl begin1 c=(S.filter fun j=>decide (0≤j.Plan)&&decide (j.Plan≤nowC c)).foldl beginC c
  | [],c,_=>rfl
  |j::S,c,h=>by
    simp only [List.foldl_cons,List.filter_cons]
    by_cases hc:0≤j.Plan∧j.Plan≤nowC c
    · have e:begin1 c j=beginC c j:=by unfold begin1;rw [if_pos hc]
      obtain ⟨h1,h2⟩:=beginC_ok h j
      rw [e,begin1_fold S _ h1,if_pos (by simp [hc.1,hc.2])]
      have:nowC (beginC c j)=nowC c:=by unfold nowC;rw [h2]
      rw [this];rfl
    · have e:begin1 c j=c:=by unfold begin1;rw [if_neg hc]
      rw [e,begin1_fold S _ h,if_neg (by simpa using hc)]
theorem Rep.happen {n:Nat} {c:Core} {m:Model} (h:Rep n c m):
    Rep n (beginsC (timeoutsC c)) (happenM m)∧FreshE (beginsC (timeoutsC c)).J.jobs (nowC c)∧FreshP (beginsC (timeoutsC c)).J.jobs (nowC c)∧nowC (beginsC (timeoutsC c))=nowC c∧Drops c.J.jobs (beginsC (timeoutsC c)).J.jobs:=by
  obtain ⟨h1,hE,hn,hd⟩:=h.overs
  generalize hc1:timeoutsC c=c1 at*
  rw [←hn] at hE ⊢
  have hpl:Placed c1.J.jobs:=fun i j hj=>id_at h1.deep.cw hj
  have hperm:(sortJ (inJ c1.J.jobs [1])).Perm (inJ c1.J.jobs [1]):=List.mergeSort_perm _ _
  have hlen:(sortJ (inJ c1.J.jobs [1])).length≤c1.J.jobs.length:=by rw [hperm.length_eq];exact inJ_len _ _
  have hbound: ∀x∈sortJ (inJ c1.J.jobs [1]),-9223372036854775808≤x.Id∧x.Id≤9223372036854775807:=fun x hx=>by
    have hx:=(List.mem_filter.1 (hperm.mem_iff.1 hx)).1
    obtain ⟨i,hi⟩:=List.getElem?_of_mem hx
    have:=hpl i x hi
    have:=(List.getElem?_eq_some_iff.1 hi).1
    have:=h1.deep.cw.1.2.1
    omega
  have hids:(sortJ (inJ c1.J.jobs [1])).Pairwise fun a b=>a.Id≠b.Id:=(List.Perm.pairwise_iff (fun h e=>h e.symm) hperm).2 ((ids_pair hpl).sublist List.filter_sublist)
  have hsort:(sortJ (inJ c1.J.jobs [1])).Pairwise fun a b=>keyJ a≤keyJ b:=by
    have:=List.pairwise_mergeSort (le:=fun a b:Job=>decide (keyJ a≤keyJ b)) (fun a b c h1 h2=>by simp only [decide_eq_true_eq] at*;omega) (fun a b=>by simp only [Bool.or_eq_true,decide_eq_true_eq];omega) (inJ c1.J.jobs [1])
    exact this.imp fun h=>by simpa using h
  have hah:(sortJ (inJ c1.J.jobs [1])).Pairwise fun a b=>aheadJ a b=true:=by
    have hall:(sortJ (inJ c1.J.jobs [1])).Pairwise fun a b=>(a.Id≠b.Id∧keyJ a≤keyJ b):=hids.and hsort
    refine List.Pairwise.imp_of_mem (fun {a b} ha hb hab=>?_) hall
    exact ahead_key (hbound a ha) (hbound b hb) hab.1 hab.2
  have hb:=begins_rep (n:=n) ((sortJ (inJ c1.J.jobs [1])).filter fun j=>decide (0≤j.Plan)&&decide (j.Plan≤nowC c1)) (m:={m with L:=m.L.map (overJ m.Now)}) m.L.length h1 hE (hah.sublist List.filter_sublist) (fun x=>by
    rw [List.mem_filter,hperm.mem_iff]
    simp only [inJ,List.mem_filter,Bool.and_eq_true,decide_eq_true_eq]
    constructor
    · rintro ⟨⟨hx,hs⟩,hp0,hp1⟩
      obtain ⟨i,hi⟩:=List.getElem?_of_mem hx
      have hs1:x.State=1:=by simpa using hs
      have:=(h1.deep.jobs x hx).plan (planned_iff.2 ⟨hs1,hp0⟩)
      exact ⟨i,hi,dueJ_iff.2 ⟨hs1,hp0,by omega⟩⟩
    · rintro ⟨i,hi,hdue⟩
      obtain ⟨a1,a2,a3⟩:=dueJ_iff.1 hdue
      exact ⟨⟨job_mem hi,by simp [a1]⟩,a2,by omega⟩) (by
    refine Nat.le_trans (List.length_filter_le _ _) (Nat.le_trans hlen ?_)
    rw [h.jobs,hd.1];exact Nat.le_refl _)
  have he:beginsC c1=((sortJ (inJ c1.J.jobs [1])).filter fun j=>decide (0≤j.Plan)&&decide (j.Plan≤nowC c1)).foldl beginC c1:=by
    unfold beginsC;exact begin1_fold _ _ h1.deep.cw
  rw [he]
  obtain ⟨b1,b2,b3,b4,b5⟩:=hb
  exact ⟨b1,b2,b3,b4,hd.trans b5⟩
def pot:List Job→Nat
  | []=>0
  |j::r=>potJ j+pot r
theorem Drops.tail {a b:Job} {r r':List Job} (h:Drops (a::r) (b::r')):(b=a∨potJ b<potJ a)∧Drops r r':=by
  refine ⟨?_,by simpa using h.1,fun i x hx=>?_⟩
  · obtain ⟨y,hy,e⟩:=h.2 0 a rfl
    simp at hy;subst hy;exact e
  · obtain ⟨y,hy,e⟩:=h.2 (i+1) x (by simpa using hx)
    exact ⟨y,by simpa using hy,e⟩
theorem Drops.le: ∀{l l':List Job},Drops l l'→pot l'≤pot l
  | [],l',h=>by
    have:=h.1;simp at this;subst this;exact Nat.le_refl _
  |a::r,[],h=>by have:=h.1;simp at this
  |a::r,b::r',h=>by
    obtain ⟨h1,h2⟩:=h.tail
    have:=h2.le
    simp only [pot]
    rcases h1 with rfl |h1<;>omega
theorem Drops.lt: ∀{l l':List Job},Drops l l'→ ∀(i:Nat) (a b:Job),l[i]? =some a→l'[i]? =some b→b≠a→pot l'<pot l
  | [],l',h,i,a,b,ha,_,_=>by simp at ha
  |a::r,[],h,_,_,_,_,_,_=>by have:=h.1;simp at this
  |a::r,b::r',h,0,x,y,hx,hy,hne=>by
    obtain ⟨h1,h2⟩:=h.tail
    have:=h2.le
    simp at hx hy;subst hx hy
    simp only [pot]
    rcases h1 with h1 |h1
    · exact absurd h1 hne
    · omega
  |a::r,b::r',h,i+1,x,y,hx,hy,hne=>by
    obtain ⟨h1,h2⟩:=h.tail
    have:=h2.lt i x y (by simpa using hx) (by simpa using hy) hne
    simp only [pot]
    rcases h1 with rfl |h1<;>omega
theorem pot_len: ∀(l:List Job),pot l≤2*l.length
  | []=>Nat.le_refl _
  |j::r=>by
    have:=pot_len r
    have:potJ j≤2:=by
      unfold potJ
      split
      · omega
      · split<;>omega
    simp only [pot,List.length_cons];omega
theorem pot_live: ∀(l:List Job),(pot l:Int)≤2*liveN l
  | []=>by simp [pot,liveN]
  |j::r=>by
    have:=pot_live r
    unfold liveN at this ⊢
    simp only [pot,List.countP_cons]
    have:potJ j≤if liveJ j then 2 else 0:=by
      unfold potJ
      by_cases h1:plannedJ j=true
      · have:=(planned_iff.1 h1).1
        rw [if_pos h1,if_pos (by simp [liveJ,this])];omega
      · rw [if_neg h1]
        by_cases h3:j.State=3
        · rw [if_pos h3,if_pos (by simp [liveJ,h3])];omega
        · rw [if_neg h3];omega
    cases hl:liveJ j<;>simp [hl] at this ⊢ <;>omega
theorem foldmin_iff {α:Type} (f:α→Int) (x:Int): ∀(l:List α) (a:Int),x≤l.foldl (fun t s=>min t (f s)) a↔x≤a∧ ∀s∈l,x≤f s
  | [],a=>by simp
  |s::r,a=>by
    simp only [List.foldl_cons,foldmin_iff f x r,List.mem_cons,forall_eq_or_imp]
    constructor
    · rintro ⟨h1,h2⟩;exact ⟨by omega,by omega,h2⟩
    · rintro ⟨h1,h2,h3⟩;exact ⟨by omega,h3⟩
theorem foldmin_at {α:Type} (f:α→Int): ∀(l:List α) (a:Int),l.foldl (fun t s=>min t (f s)) a=a∨ ∃s∈l,l.foldl (fun t s=>min t (f s)) a=f s
  | [],a=> .inl rfl
  |s::r,a=>by
    simp only [List.foldl_cons]
    rcases foldmin_at f r (min a (f s)) with h |⟨q,hq,h⟩
    · by_cases hc:a≤f s
      · left;rw [h];omega
      · right;exact ⟨s,by simp,by rw [h];omega⟩
    · right;exact ⟨q,by simp [hq],h⟩
theorem span_mem {l:List Job} {s:Span}:s∈spansC l↔ ∃j∈l,plannedJ j=true∧s=(planS j).1:=by
  unfold spansC inJ
  simp only [List.mem_filterMap,List.mem_filter]
  constructor
  · rintro ⟨j,⟨hj,_⟩,h⟩
    split at h
    · rename_i hp;rw [planS_snd] at hp;cases h;exact ⟨j,hj,hp,rfl⟩
    · cases h
  · rintro ⟨j,hj,hp,rfl⟩
    exact ⟨j,⟨hj,by simp [(planned_iff.1 hp).1]⟩,by rw [planS_snd,if_pos hp]⟩
theorem nextC_iff (c:Core) (x:Int):x≤nextC c↔x≤1152921504606846976∧(∀j∈c.J.jobs,j.State=3→x≤j.End)∧ ∀j∈c.J.jobs,plannedJ j=true→x≤j.Plan:=by
  unfold nextC
  rw [foldmin_iff (fun s:Span=>s.From),foldmin_iff (fun j:Job=>j.End)]
  constructor
  · rintro ⟨⟨h1,h2⟩,h3⟩
    refine ⟨h1,fun j hj hs=>h2 j (List.mem_filter.2 ⟨hj,by simp [hs]⟩),fun j hj hp=>?_⟩
    have:=h3 _ (span_mem.2 ⟨j,hj,hp,rfl⟩)
    rwa [planS_fst hp] at this
  · rintro ⟨h1,h2,h3⟩
    refine ⟨⟨h1,fun j hj=>?_⟩,fun s hs=>?_⟩
    · obtain ⟨a,b⟩:=List.mem_filter.1 hj
      exact h2 j a (by simpa using b)
    · obtain ⟨j,hj,hp,rfl⟩:=span_mem.1 hs
      rw [planS_fst hp];exact h3 j hj hp
theorem nextC_at (c:Core):nextC c=1152921504606846976∨(∃j∈c.J.jobs,j.State=3∧nextC c=j.End)∨ ∃j∈c.J.jobs,plannedJ j=true∧nextC c=j.Plan:=by
  unfold nextC
  rcases foldmin_at (fun s:Span=>s.From) (spansC c.J.jobs) ((inJ c.J.jobs [3]).foldl (fun t j=>min t j.End) 1152921504606846976) with h |⟨s,hs,h⟩
  · rw [h]
    rcases foldmin_at (fun j:Job=>j.End) (inJ c.J.jobs [3]) 1152921504606846976 with h |⟨j,hj,h⟩
    · exact .inl h
    · obtain ⟨a,b⟩:=List.mem_filter.1 hj
      exact .inr (.inl ⟨j,a,by simpa using b,h⟩)
  · obtain ⟨j,hj,hp,rfl⟩:=span_mem.1 hs
    refine .inr (.inr ⟨j,hj,hp,?_⟩)
    rw [h,planS_fst hp]
theorem sooner_eq {b t last:Int} (h:last<t):sooner b t last=if b<0∨t<b then t else b:=by
  unfold sooner
  by_cases hc:b<0∨t<b
  · rw [if_pos ⟨h,hc⟩,if_pos hc]
  · rw [if_neg (fun g=>hc g.2),if_neg hc]
def evJ (j:Job):Option Int:=if j.State=3 then some j.End else if plannedJ j then some j.Plan else none
theorem next1_eq {now b:Int} {j:Job}:next1 now b j=match evJ j with |some t=>sooner b t now |none=>b:=by
  unfold next1 evJ
  by_cases h3:j.State=3
  · have:plannedJ j=false:=planned_not.2 (.inl (by omega))
    simp [h3,this]
  · cases hp:plannedJ j with
    |true=>simp [h3]
    |false=>simp [h3]
theorem nextF_spec {now:Int} (h0:0≤now): ∀(l:List Job) (b:Int),(∀j∈l,∀t,evJ j=some t→now<t)→(b= -1∨now<b)→
    (l.foldl (next1 now) b= -1∧b= -1∧ ∀j∈l,evJ j=none)∨(now<l.foldl (next1 now) b∧(l.foldl (next1 now) b=b∨ ∃j∈l,evJ j=some (l.foldl (next1 now) b))∧(b= -1∨l.foldl (next1 now) b≤b)∧ ∀j∈l,∀t,evJ j=some t→l.foldl (next1 now) b≤t)
  | [],b,_,hb=>by
    rcases hb with rfl |hb
    · exact .inl ⟨rfl,rfl,by simp⟩
    · exact .inr ⟨hb,.inl rfl,.inr (Int.le_refl _),by simp⟩
  |j::r,b,he,hb=>by
    simp only [List.foldl_cons]
    have her: ∀j∈r,∀t,evJ j=some t→now<t:=fun x hx=>he x (by simp [hx])
    rw [next1_eq]
    cases hj:evJ j with
    |none=>
      simp only []
      rcases nextF_spec h0 r b her hb with ⟨a1,a2,a3⟩ |⟨a1,a2,a3,a4⟩
      · exact .inl ⟨a1,a2,by simpa [hj] using a3⟩
      · refine .inr ⟨a1,?_,a3,fun x hx t ht=>?_⟩
        · rcases a2 with a2 |⟨x,hx,e⟩
          · exact .inl a2
          · exact .inr ⟨x,by simp [hx],e⟩
        · rcases List.mem_cons.1 hx with rfl |hx
          · rw [hj] at ht;cases ht
          · exact a4 x hx t ht
    |some t=>
      simp only []
      have ht:=he j (by simp) t hj
      rw [sooner_eq ht]
      by_cases hc:b<0∨t<b
      · rw [if_pos hc]
        rcases nextF_spec h0 r t her (.inr ht) with ⟨a1,a2,a3⟩ |⟨a1,a2,a3,a4⟩
        · omega
        · refine .inr ⟨a1,.inr ?_,?_,fun x hx u hu=>?_⟩
          · rcases a2 with a2 |⟨x,hx,e⟩
            · exact ⟨j,by simp,by rw [a2];exact hj⟩
            · exact ⟨x,by simp [hx],e⟩
          · omega
          · rcases List.mem_cons.1 hx with rfl |hx
            · rw [hj] at hu;cases hu;omega
            · exact a4 x hx u hu
      · rw [if_neg hc]
        rcases nextF_spec h0 r b her hb with ⟨a1,a2,a3⟩ |⟨a1,a2,a3,a4⟩
        · omega
        · refine .inr ⟨a1,?_,a3,fun x hx u hu=>?_⟩
          · rcases a2 with a2 |⟨x,hx,e⟩
            · exact .inl a2
            · exact .inr ⟨x,by simp [hx],e⟩
          · rcases List.mem_cons.1 hx with rfl |hx
            · rw [hj] at hu;cases hu;omega
            · exact a4 x hx u hu
theorem ev_fresh {l:List Job} {now:Int} (hE:FreshE l now) (hP:FreshP l now): ∀j∈l,∀t,evJ j=some t→now<t:=fun j hj t ht=>by
  unfold evJ at ht
  split at ht
  · rename_i h3;cases ht;exact hE j hj h3
  · split at ht
    · rename_i hp;cases ht;exact hP j hj hp
    · cases ht
theorem next_same {n:Nat} {c:Core} {m:Model} (h:Rep n c m) (hE:FreshE c.J.jobs (nowC c)) (hP:FreshP c.J.jobs (nowC c)) {to:Int} (hto:to≤1099511627776):
    (to<nextC c∧(nextM m<0∨to<nextM m))∨(nextC c≤to∧nextM m=nextC c∧nowC c<nextC c∧ ∃j∈c.J.jobs,evJ j=some (nextC c)):=by
  have hn0:=h.deep.nw.1
  have hs:=nextF_spec (now:=nowC c) h.deep.nw.1 c.J.jobs (-1) (ev_fresh hE hP) (.inl rfl)
  have hm:nextM m=c.J.jobs.foldl (next1 (nowC c)) (-1):=by unfold nextM;rw [h.jobs,h.now]
  rw [←hm] at hs
  rcases hs with ⟨e1,_,e3⟩ |⟨e1,e2,_,e4⟩
  · left
    have:nextC c=1152921504606846976:=by
      rcases nextC_at c with h |⟨j,hj,h3,_⟩ |⟨j,hj,hp,_⟩
      · exact h
      · have:=e3 j hj;unfold evJ at this;rw [if_pos h3] at this;cases this
      · have:=e3 j hj;unfold evJ at this;rw [if_neg (by have:=(planned_iff.1 hp).1;omega),if_pos hp] at this;cases this
    exact ⟨by omega,.inl (by omega)⟩
  · have hle:nextM m≤nextC c:=by
      rcases e2 with e2 |⟨j,hj,e2⟩
      · omega
      rw [nextC_iff]
      refine ⟨?_,fun x hx h3=>e4 x hx _ (by unfold evJ;rw [if_pos h3]),fun x hx hp=>e4 x hx _ (by unfold evJ;rw [if_neg (by have:=(planned_iff.1 hp).1;omega),if_pos hp])⟩
      have hok:=h.deep.jobs j hj
      unfold evJ at e2
      split at e2
      · rename_i h3;have e2:=Option.some.inj e2;have:=hok.en;omega
      · split at e2
        · rename_i hp;have e2:=Option.some.inj e2;have:=hok.plan hp;omega
        · cases e2
    rcases e2 with e2 |⟨j,hj,e2⟩
    · omega
    have hge:nextC c≤nextM m:=by
      have:=(nextC_iff c (nextC c)).1 (Int.le_refl _)
      unfold evJ at e2
      split at e2
      · rename_i h3;have e2:=Option.some.inj e2;rw [←e2];exact this.2.1 j hj h3
      · split at e2
        · rename_i hp;have e2:=Option.some.inj e2;rw [←e2];exact this.2.2 j hj hp
        · cases e2
    have he:nextM m=nextC c:=by omega
    by_cases hc:to<nextC c
    · exact .inl ⟨hc,.inr (by omega)⟩
    · exact .inr ⟨by omega,he,by omega,j,hj,by rw [←he];exact e2⟩
end Go.Ax.Law
namespace Go.Ax.Law
open Go.Ax.O
theorem Deep.adv {n:Nat} {c:Core} (h:Deep n c) {t:Int} (ht:nowC c≤t) (ht2:t≤1099511627776) (hE: ∀j∈c.J.jobs,j.State=3→t≤j.End) (hP: ∀j∈c.J.jobs,plannedJ j=true→t≤j.Plan):
  Deep n (advC c t)∧nowC (advC c t)=t:=by
 obtain ⟨a1,a2⟩:=h.mt.adv ht ht2
 have hn:nowC (advC c t)=t:=a2.nw
 refine ⟨⟨h.n1,h.n64,⟨h.cw.1,h.cw.2.1,a2.pw⟩,h.all,h.dn,h.us,?_,h.ap,?_,?_,h.lv,h.l64,by rw [hn];have:=h.nw;omega⟩,hn⟩
 ·rw [hn]
  intro j hj
  have hok:=h.jobs j hj
  refine ⟨hok.st,hok.wd,hok.lm,?_,fun h3=>⟨hE j hj h3,(hok.rn h3).2⟩,hok.en,hok.un⟩
  rcases hok.pl with e |e
  ·exact .inl e
  ·by_cases hp:0≤j.Plan
   ·exact .inr ⟨e.1,hP j hj (planned_iff.2 ⟨e.1,hp⟩),e.2.2⟩
   ·have:=h.nw;omega
 ·rw [hn];exact a2
 ·rw [hn];intro u hu;exact h.nn u (by omega)
theorem Rep.adv {n:Nat} {c:Core} {m:Model} (h:Rep n c m) {t:Int} (ht:nowC c≤t) (ht2:t≤1099511627776) (hE: ∀j∈c.J.jobs,j.State=3→t≤j.End) (hP: ∀j∈c.J.jobs,plannedJ j=true→t≤j.Plan):
  Rep n (advC c t) {m with Now:=t}∧nowC (advC c t)=t:=by
 obtain ⟨a,b⟩:=h.deep.adv ht ht2 hE hP
 exact ⟨⟨a,h.len,h.jobs,by simp only [];exact b.symm,h.closed,h.dr⟩,b⟩
theorem open_eq {l:List Job} (h:ApartL l) (t:Int) (k:Nat):(match l.find? (runsOn (k:Int)) with |none=>true |some j=>decide (j.End≤t))=!l.any fun j=>runsOn (k:Int) j&&decide (t<j.End):=by
 cases hf:l.find? (runsOn (k:Int)) with
 |none=>
  rw [List.find?_eq_none] at hf
  have:(l.any fun j=>runsOn (k:Int) j&&decide (t<j.End))=false:=by
   rw [List.any_eq_false]
   intro x hx
   have:=hf x hx
   simp only [Bool.not_eq_true] at this
   simp [this]
  rw [this];rfl
 |some j=>
  have hj:=List.find?_some hf
  obtain ⟨i,hi⟩:=List.getElem?_of_mem (List.mem_of_find?_eq_some hf)
  simp only []
  have hr: ∀x,runsOn (k:Int) x=true↔x.State=3∧hasB x.Nodes k=true:=fun x=>by simp [runsOn]
  have:(l.any fun j=>runsOn (k:Int) j&&decide (t<j.End))=decide (t<j.End):=by
   cases hd:decide (t<j.End) with
   |true=>
    rw [List.any_eq_true]
    exact ⟨j,job_mem hi,by rw [hj,hd];rfl⟩
   |false=>
    rw [List.any_eq_false]
    intro x hx hc
    simp only [Bool.and_eq_true] at hc
    obtain ⟨p,hp⟩:=List.getElem?_of_mem hx
    by_cases hpi:p=i
    ·subst hpi;rw [hi] at hp;cases hp;rw [hd] at hc;cases hc.2
    ·have:=h i p j x (Ne.symm hpi) hi hp ((hr j).1 hj).1 ((hr x).1 hc.1).1 k ((hr j).1 hj).2
     rw [((hr x).1 hc.1).2] at this;cases this
  rw [this]
  by_cases hc:j.End≤t
  ·have: ¬ t<j.End:=by omega
   simp [hc,this]
  ·have:t<j.End:=by omega
   simp [hc,this]
theorem Rep.open_cnt {n:Nat} {c:Core} {m:Model} (h:Rep n c m) (t:Int):cntN (openM m t) m.Drain.length=cntN (fun k=>!Law.dr c k) n-sumN n (Law.dr c) (fun j=>decide (t<j.End)) c.J.jobs:=by
 rw [←cnt_open h.deep.ap.all,h.len]
 refine cntN_congr fun k hk=>?_
 unfold openM
 rw [h.dr k hk,h.jobs]
 exact congrArg (fun b=>!Law.dr c k&&b) (open_eq h.deep.ap t k)
theorem planSum_but {t:Int}: ∀{l:List Job} {i:Nat} {a:Job},Placed l→l[i]? =some a→planSum t a.Id l=planSum t 0 l-planAt t 0 a:=by
 have none: ∀{b:Int} {l:List Job},(∀j∈l,j.Id≠b∧j.Id≠0)→planSum t b l=planSum t 0 l:=by
  intro b l
  induction l with
  |nil=>intro _;rfl
  |cons x r ih=>
   intro h
   simp only [planSum]
   rw [ih fun j hj=>h j (List.mem_cons_of_mem _ hj)]
   have:=h x (by simp)
   congr 1
   unfold planAt
   by_cases hc:plannedJ x=true∧x.Plan≤t∧t<x.Plan+x.Limit
   ·rw [if_pos ⟨hc.1,this.1,hc.2⟩,if_pos ⟨hc.1,this.2,hc.2⟩]
   ·rw [if_neg (fun g=>hc ⟨g.1,g.2.2⟩),if_neg (fun g=>hc ⟨g.1,g.2.2⟩)]
 have gen: ∀{l:List Job} {i:Nat} {a:Job} {o:Nat},(∀(p:Nat) (j:Job),l[p]? =some j→j.Id=(p:Int)+o+1)→l[i]? =some a→planSum t a.Id l=planSum t 0 l-planAt t 0 a:=by
  intro l
  induction l with
  |nil=>intro i a o _ h;simp at h
  |cons x r ih=>
   intro i a o hp h
   have hpr: ∀(p:Nat) (j:Job),r[p]? =some j→j.Id=(p:Int)+(o+1:Nat)+1:=fun p j hj=>by have:=hp (p+1) j (by simpa using hj);omega
   cases i with
   |zero=>
    simp at h;subst h
    have hx:=hp 0 x rfl
    simp only [planSum]
    rw [none (b:=x.Id) fun j hj=>by
     obtain ⟨p,hj⟩:=List.getElem?_of_mem hj
     have:=hpr p j hj;omega]
    have:planAt t x.Id x=0:=by unfold planAt;rw [if_neg (fun g=>g.2.1 rfl)]
    omega
   |succ i=>
    have h':r[i]? =some a:=by simpa using h
    have e:=ih hpr h'
    have hx:=hp 0 x rfl
    have ha:=hpr i a h'
    simp only [planSum,e]
    have:planAt t a.Id x=planAt t 0 x:=by
     unfold planAt
     by_cases hc:plannedJ x=true∧x.Plan≤t∧t<x.Plan+x.Limit
     ·rw [if_pos ⟨hc.1,by omega,hc.2⟩,if_pos ⟨hc.1,by omega,hc.2⟩]
     ·rw [if_neg (fun g=>hc ⟨g.1,g.2.2⟩),if_neg (fun g=>hc ⟨g.1,g.2.2⟩)]
    omega
 intro l i a hp h
 exact gen (o:=0) (fun p j hj=>by have:=hp p j hj;omega) h
theorem Rep.free {n:Nat} {c:Core} {m:Model} (h:Rep n c m) (t:Int):freeM m t 0=reqF n (Law.dr c) c.J.jobs t:=by
 unfold freeM reqF
 rw [h.open_cnt,sumT_split,h.jobs];omega
theorem Rep.free_but {n:Nat} {c:Core} {m:Model} (h:Rep n c m) {i:Nat} {a:Job} (ha:c.J.jobs[i]? =some a) (t:Int):freeM m t a.Id=reqF n (Law.dr c) c.J.jobs t+planAt t 0 a:=by
 have:=h.free t
 unfold freeM at this ⊢
 rw [h.jobs] at this ⊢
 rw [planSum_but (fun i j hj=>id_at h.deep.cw hj) ha];omega
theorem Rep.freeL {n:Nat} {c:Core} {m:Model} (h:Rep n c m) {t:Int} (ht:nowC c≤t):freeL c.P.steps t=freeM m t 0:=by
 rw [h.free];exact h.deep.mt.fr t ht
def clockM (m:Model):Reply:={reply0 with Start:=m.Now,A:=freeM m m.Now 0}
theorem Rep.clock {n:Nat} {c:Core} {m:Model} (h:Rep n c m):clockR c=clockM m:=by
 unfold clockR clockM
 rw [h.now,h.freeL (Int.le_refl _)]
def bump (r:Work × Core):Work × Core:=({r.1 with part:=wr (r.1.part+1)},r.2)
theorem step_tick {w:Work} {c:Core} (hd:w.done=false) (hc:w.commit=false) (hp:0<w.part) (hk:w.req.Kind=9):stepW w c=bump (tickGo w c):=by
 have h0: ¬ (w.part=0∧c.closed=true):=by omega
 unfold stepW bump
 simp only [hd,hc,h0,if_false,Bool.false_eq_true]
 have:serveW w c=tickGo w c:=by
  unfold serveW
  rw [if_neg (by omega),if_neg (by omega),if_neg (by omega),if_neg (by omega),if_neg (by omega),if_neg (by omega),if_neg (by omega),if_pos hk]
  unfold tickW;rw [if_neg (by omega)]
 rw [this]
theorem tick_ends {n:Nat} {to:Int} (hto:to≤1099511627776): ∀(N:Nat) {c:Core} {m:Model} {w w1:Work} {f:Nat},Rep n c m→FreshE c.J.jobs (nowC c)→FreshP c.J.jobs (nowC c)→pot c.J.jobs≤N→N+1≤f→
  nowC c≤to→w1.done=false→w1.commit=false→w1.to=to→w1.req.Kind=9→0≤w1.part→w1.part+N+1≤1000000→stepW w c=bump (tickGo w1 c)→
  ∃k c',k≤N+1∧Ends w c k {w1 with reply:=clockR c',done:=true,part:=w1.part+k} c'∧Rep n c' {tickF f to m with Now:=to}∧FreshE c'.J.jobs to∧FreshP c'.J.jobs to∧nowC c'=to:=by
 intro N
 induction N with
 |zero=>
  intro c m w w1 f h hE hP hN hf hle hd hc hw hk hp hs hst
  cases f with
  |zero=>omega
  |succ f=>
  rcases next_same h hE hP hto with ⟨a1,a2⟩ |⟨a1,a2,a3,j,hj,a4⟩
  ·have hnx:=(nextC_iff c (nextC c)).1 (Int.le_refl _)
   obtain ⟨r1,r2⟩:=h.adv hle hto (fun j hj h3=>by have:=hnx.2.1 j hj h3;omega) (fun j hj hp=>by have:=hnx.2.2 j hj hp;omega)
   have hg:tickGo w1 c=(endW w1 (clockR (advC c to)),advC c to):=by unfold tickGo;rw [hw,if_pos a1]
   rw [hg] at hst
   have htf:tickF (f+1) to m=m:=by simp only [tickF];rw [if_pos a2]
   refine ⟨1,advC c to,Nat.le_refl _,?_,by rw [htf];exact r1,fun j hj h3=>by have:=hnx.2.1 j hj h3;omega,fun j hj hp=>by have:=hnx.2.2 j hj hp;omega,r2⟩
   have:=Ends.first hst rfl
   simp only [bump,endW,wr_in (n:=w1.part+1) (by omega)] at this
   exact this
  ·exfalso
   have hpz: ∀(l:List Job),pot l=0→ ∀j∈l,potJ j=0:=by
    intro l
    induction l with
    |nil=>intro _ j hj;cases hj
    |cons x r ih=>
     intro h0 j hj
     simp only [pot] at h0
     rcases List.mem_cons.1 hj with rfl |hj
     ·omega
     ·exact ih (by omega) j hj
   have h0:=hpz _ (by omega) j hj
   unfold evJ at a4
   unfold potJ at h0
   split at h0
   ·omega
   ·rename_i hpl
    split at h0
    ·omega
    ·rename_i h3
     rw [if_neg h3,if_neg hpl] at a4;cases a4
 |succ N ih=>
  intro c m w w1 f h hE hP hN hf hle hd hc hw hk hp hs hst
  cases f with
  |zero=>omega
  |succ f=>
  rcases next_same h hE hP hto with ⟨a1,a2⟩ |⟨a1,a2,a3,j,hj,a4⟩
  ·have hnx:=(nextC_iff c (nextC c)).1 (Int.le_refl _)
   obtain ⟨r1,r2⟩:=h.adv hle hto (fun j hj h3=>by have:=hnx.2.1 j hj h3;omega) (fun j hj hp=>by have:=hnx.2.2 j hj hp;omega)
   have hg:tickGo w1 c=(endW w1 (clockR (advC c to)),advC c to):=by unfold tickGo;rw [hw,if_pos a1]
   rw [hg] at hst
   have htf:tickF (f+1) to m=m:=by simp only [tickF];rw [if_pos a2]
   refine ⟨1,advC c to,by omega,?_,by rw [htf];exact r1,fun j hj h3=>by have:=hnx.2.1 j hj h3;omega,fun j hj hp=>by have:=hnx.2.2 j hj hp;omega,r2⟩
   have:=Ends.first hst rfl
   simp only [bump,endW,wr_in (n:=w1.part+1) (by omega)] at this
   exact this
  ·have hnx:=(nextC_iff c (nextC c)).1 (Int.le_refl _)
   obtain ⟨r1,r2⟩:=h.adv (t:=nextC c) (by omega) (by omega) hnx.2.1 hnx.2.2
   obtain ⟨s1,s2,s3,s4,s5⟩:=r1.happen
   rw [r2] at s2 s3 s4
   have hmax:max (nextC c) (nowC c)=nextC c:=by omega
   have hg:tickGo w1 c=(w1,beginsC (timeoutsC (advC c (nextC c)))):=by unfold tickGo;rw [hw,if_neg (by omega),hmax]
   rw [hg] at hst
   have htf:tickF (f+1) to m=tickF f to (happenM {m with Now:=nextC c}):=by simp only [tickF];rw [a2,if_neg (by have:=h.deep.nw;omega)]
   generalize hc3:beginsC (timeoutsC (advC c (nextC c)))=c3 at*
   have hdr:Drops c.J.jobs c3.J.jobs:=s5
   have hlt:pot c3.J.jobs<pot c.J.jobs:=by
    obtain ⟨i,hi⟩:=List.getElem?_of_mem hj
    obtain ⟨b,hb,e⟩:=hdr.2 i j hi
    refine hdr.lt i j b hi hb fun e2=>?_
    subst e2
    have:=ev_fresh (now:=nextC c) s2 s3 b (job_mem hb) _ a4
    omega
   have hbump:bump (w1,c3)=({w1 with part:=w1.part+1},c3):=by unfold bump;simp only [wr_in (n:=w1.part+1) (by omega)]
   rw [hbump] at hst
   obtain ⟨k,c',b1,b2,b3,b4,b5,b6⟩:=ih (w:={w1 with part:=w1.part+1}) (w1:={w1 with part:=w1.part+1}) (f:=f) s1 (by rw [s4];exact s2) (by rw [s4];exact s3) (by omega) (by omega) (by omega) hd hc hw hk (by simp only [];omega) (by simp only [];omega) (step_tick hd hc (by simp only [];omega) hk)
   refine ⟨k+1,c',by omega,?_,by rw [htf];exact b3,b4,b5,b6⟩
   have:=Ends.next hst hd b2
   simp only [show w1.part+1+(k:Int)=w1.part+((k+1:Nat):Int) by omega] at this
   exact this
end Go.Ax.Law
namespace Go.Ax.Law
open Go.Ax.O
structure Stb (n:Nat) (c:Core) (m:Model):Prop where
 rep:Rep n c m
 fe:FreshE c.J.jobs (nowC c)
 fp:FreshP c.J.jobs (nowC c)
theorem step_first {w:Work} {c:Core} (hd:w.done=false) (hc:w.commit=false) (h0: ¬ (w.part=0∧c.closed=true)):stepW w c=bump (serveW w c):=by
 unfold stepW bump
 simp only [hd,hc,h0,if_false,Bool.false_eq_true]
theorem bump_eq {w:Work} {c:Core} (h:0≤w.part∧w.part≤1000000):bump (w,c)=({w with part:=w.part+1},c):=by
 unfold bump;simp only [wr_in (n:=w.part+1) (by omega)]
theorem serve1 {w:Work} {c:Core} (h:w.req.Kind=1):serveW w c=submitW w c:=by unfold serveW;rw [if_pos h]
theorem serve25 {w:Work} {c:Core} (h:w.req.Kind=2∨w.req.Kind=5):serveW w c=finishW w c:=by unfold serveW;rw [if_neg (by omega),if_pos h]
theorem serve3 {w:Work} {c:Core} (h:w.req.Kind=3):serveW w c=holdW w c:=by unfold serveW;rw [if_neg (by omega),if_neg (by omega),if_pos h]
theorem serve4 {w:Work} {c:Core} (h:w.req.Kind=4):serveW w c=freeW w c:=by unfold serveW;rw [if_neg (by omega),if_neg (by omega),if_neg (by omega),if_pos h]
theorem serve6 {w:Work} {c:Core} (h:w.req.Kind=6):serveW w c=(endW w (toldC c w.req.Id),c):=by unfold serveW;rw [if_neg (by omega),if_neg (by omega),if_neg (by omega),if_neg (by omega),if_pos h]
theorem serve7 {w:Work} {c:Core} (h:w.req.Kind=7):serveW w c=drainW w c:=by unfold serveW;rw [if_neg (by omega),if_neg (by omega),if_neg (by omega),if_neg (by omega),if_neg (by omega),if_pos h]
theorem serve8 {w:Work} {c:Core} (h:w.req.Kind=8):serveW w c=resumeW w c:=by unfold serveW;rw [if_neg (by omega),if_neg (by omega),if_neg (by omega),if_neg (by omega),if_neg (by omega),if_neg (by omega),if_pos h]
theorem serve9 {w:Work} {c:Core} (h:w.req.Kind=9):serveW w c=tickW w c:=by unfold serveW;rw [if_neg (by omega),if_neg (by omega),if_neg (by omega),if_neg (by omega),if_neg (by omega),if_neg (by omega),if_neg (by omega),if_pos h]
theorem serveR {w:Work} {c:Core} (h:w.req.Kind<1∨9<w.req.Kind):serveW w c=countW w c:=by unfold serveW;rw [if_neg (by omega),if_neg (by omega),if_neg (by omega),if_neg (by omega),if_neg (by omega),if_neg (by omega),if_neg (by omega),if_neg (by omega)]
def Done (n:Nat) (w:Work) (c:Core) (r:Reply × Model):Prop:= ∃k w' c',k≤140∧Ends w c k w' c'∧w'.ok=false∧w'.reply=r.1∧w'.part≤1000∧Stb n c' r.2
theorem Done.fail {n:Nat} {w:Work} {c:Core} {m:Model} {e:Int} (h:Stb n c m) (hp:w.part=0) (hok:w.ok=false) {w1:Work} (hw:w1.part=0∧w1.ok=false) (hst:stepW w c=bump (failW w1 e,c)):Done n w c (failR e,m):=by
 have:=Ends.first hst rfl
 exact ⟨1,_,_,by omega,this,hw.2,rfl,by
  show wr (w1.part+1)≤1000
  rw [hw.1];decide,h⟩
theorem liveN_append {l:List Job} {j:Job}:liveN (l++[j])=liveN l+(if liveJ j then 1 else 0):=by
 unfold liveN
 rw [List.countP_append]
 cases hl:liveJ j<;>simp [hl]
theorem get_append {l:List Job} {j x:Job} {i:Nat} (h:(l++[j])[i]? =some x):l[i]? =some x∨(i=l.length∧x=j):=by
 by_cases hi:i<l.length
 ·rw [List.getElem?_append_left hi] at h;exact .inl h
 ·rw [List.getElem?_append_right (by omega)] at h
  have:=(List.getElem?_eq_some_iff.1 h).1
  simp at this
  have e:i=l.length:=by omega
  subst e
  simp at h;exact .inr ⟨rfl,h.symm⟩
theorem Deep.append {n:Nat} {c:Core} (h:Deep n c) {j:Job} (hid:j.Id=(c.J.jobs.length:Int)+1) (hok:JobOK n (nowC c) j) (h3:j.State≠3) (hpl:plannedJ j=false) (hlv:liveJ j=true) (hl:liveN c.J.jobs<64) (hlen:c.J.jobs.length<1024):
  Deep n {c with J:=⟨c.J.jobs++[j],wr (c.J.live+1),c.J.made⟩}:=by
 have hr: ∀t,reqF n (dr c) (c.J.jobs++[j]) t=reqF n (dr c) c.J.jobs t:=fun t=>by unfold reqF;rw [sumT_append,take_rest hpl h3];omega
 have hlw:wr (c.J.live+1)=c.J.live+1:=wr_in (by have:=h.lv;have:=liveN_nonneg c.J.jobs;omega)
 have hln:liveN (c.J.jobs++[j])=liveN c.J.jobs+1:=by rw [liveN_append,hlv];rfl
 refine ⟨h.n1,h.n64,⟨⟨h.cw.1.1,by simp;omega,fun i x hx=>?_⟩,h.cw.2.1,h.cw.2.2⟩,h.all,h.dn,fun k=>?_,fun x hx=>?_,fun a b x y hab hx hy=>?_,?_,fun t ht=>?_,?_,?_,h.nw⟩
 ·rcases get_append hx with hx |⟨rfl,rfl⟩
  ·exact h.cw.1.2.2 i x hx
  ·exact ⟨hid,hok.un⟩
 ·show _=usedL (c.J.jobs++[j]) k
  rw [h.us];unfold usedL;rw [List.any_append];simp [runsOn,h3]
 ·rcases List.mem_append.1 hx with hx |hx
  ·exact h.jobs x hx
  ·simp at hx;subst hx;exact hok
 ·intro a3 b3
  rcases get_append hx with hx |⟨_,rfl⟩
  ·rcases get_append hy with hy |⟨_,rfl⟩
   ·exact h.ap a b x y hab hx hy a3 b3
   ·exact absurd b3 h3
  ·exact absurd a3 h3
 ·exact h.mt.congr fun t _=>(hr t).symm
 ·show 0≤reqF n (dr c) (c.J.jobs++[j]) t
  rw [hr];exact h.nn t ht
 ·show wr (c.J.live+1)=liveN (c.J.jobs++[j])
  rw [hlw,hln,h.lv]
 ·show liveN (c.J.jobs++[j])≤64
  rw [hln];omega
theorem popN_ones2 (m:Nat): ∀n,popN (2^m-1) n=min m n
 |0=>by simp [popN]
 |n+1=>by
  simp only [popN,popN_ones2 m n,Nat.testBit_two_pow_sub_one]
  by_cases h:n<m
  ·simp [h];omega
  ·simp [h];omega
theorem lenS_all2 {n:Int} (h1:1≤n) (h2:n≤64):lenS (allS n)=n:=by
 unfold allS
 rw [if_neg (by omega)]
 obtain ⟨m,rfl⟩:=Int.eq_ofNat_of_zero_le (show 0≤n by omega)
 split
 ·have:m=64:=by omega
  subst this
  show ((popN (Int.toNat 18446744073709551615) 64:Nat):Int)=_
  rw [show Int.toNat 18446744073709551615=2^64-1 by decide,popN_ones2]
  rfl
 ·unfold lenS
  rw [Int.toNat_natCast,Int.toNat_natCast,popN_ones2]
  omega
theorem Deep.size {n:Nat} {c:Core} (h:Deep n c):lenS c.N.all=n:=by rw [h.all];exact lenS_all2 (by have:=h.n1;omega) (by have:=h.n64;omega)
theorem count_live (w:Work) (l:List Job):(l.countP (dropAt w):Int)≤liveN l:=by
 unfold liveN
 have:l.countP (dropAt w)≤l.countP liveJ:=List.countP_mono_left fun x _ hx=>by
  rw [dropAt_eq] at hx
  simp only [Bool.and_eq_true] at hx
  have:=(planned_iff.1 hx.1).1
  simp [liveJ,this]
 omega
theorem fresh_drop {l:List Job} {now:Int} {j:Job} (hE:FreshE l now) (hP:FreshP l now):FreshE (l.map (dropJ j)) now∧FreshP (l.map (dropJ j)) now:=by
 refine ⟨fun x hx h3=>?_,fun x hx hp=>?_⟩
 ·obtain ⟨y,hy,rfl⟩:=List.mem_map.1 hx
  have e1:(dropJ j y).State=y.State:=by unfold dropJ;split<;>rfl
  have e2:(dropJ j y).End=y.End:=by unfold dropJ;split<;>rfl
  rw [e2];rw [e1] at h3;exact hE y hy h3
 ·obtain ⟨y,hy,rfl⟩:=List.mem_map.1 hx
  unfold dropJ at hp ⊢
  split
  ·rename_i hc
   rw [if_pos hc] at hp
   have:=(planned_iff.1 hp).2
   simp at this
  ·rename_i hc
   rw [if_neg hc] at hp
   exact hP y hy hp
theorem Stb.drops {n:Nat} {c:Core} {m:Model} (h:Stb n c m) {w:Work} (hd:w.done=false) (hc:w.commit=false) (hok:w.ok=false) (hp:0<w.part∧w.part≤10) (hk:w.req.Kind=1∨w.req.Kind=4) (hid:w.job.Id≠0):
  ∃k w' c',k≤65∧Ends w c k w' c'∧w'.ok=false∧w'.reply=w.reply∧w'.part≤1000∧Stb n c' (dropM m w.job):=by
 have hcnt:=count_live w c.J.jobs
 have hl:=h.rep.deep.l64
 obtain ⟨P',hn,e1,e2⟩:=drops_ends _ h.rep.deep hd hc hp.1 (by omega) hk hid rfl
 replace hn:nowC (⟨⟨c.J.jobs.map (dropJ w.job),c.J.live,c.J.made⟩,c.N,P',c.closed⟩:Core)=nowC c:=hn
 obtain ⟨f1,f2⟩:=fresh_drop (j:=w.job) h.fe h.fp
 refine ⟨_,_,_,by omega,e1,hok,rfl,by simp only [];omega,⟨e2,h.rep.len,?_,?_,h.rep.closed,h.rep.dr⟩,?_,?_⟩
 ·show m.L.map _=c.J.jobs.map _
  rw [h.rep.jobs]
 ·rw [hn];exact h.rep.now
 ·rw [hn];exact f1
 ·rw [hn];exact f2
end Go.Ax.Law
