import Derived.Test.YtnoinchifbckcaaGreatDoorAxD3
set_option linter.all false
namespace Go.Ax.Law
open Go.Ax.O
theorem cnt_rank {p:Nat→Bool} {w:Int} (hw:0≤w): ∀n,cntN (fun k=>p k&&decide (cntN p k<w)) n=min (cntN p n) w
  |0=>by simp only [cntN];omega
  |n+1=>by
    simp only [cntN,cnt_rank hw n]
    have:=cntN_nonneg p n
    by_cases hp:p n=true
    · by_cases h:cntN p n<w
      · simp [h,hp];omega
      · simp [h,hp];omega
    · simp [hp]
theorem hasB_lt {x:Int} {k:Nat} (h:hasB x k=true):k<64:=by rw [hasB_nat] at h;simp at h;exact h.1
theorem lowS_spec {s:Int} (h:U64 s) (h0:s≠0):0≤lowS s∧lowS s<64∧hasB s (lowS s).toNat=true∧ ∀k:Nat,(k:Int)<lowS s→hasB s k=false:=by
  obtain ⟨a,ha,rfl⟩:=h.ex
  have ha0:a≠0:=fun e=>h0 (by rw [e];rfl)
  obtain ⟨h1,h2,h3⟩:=ctz_spec ha0 ha
  unfold lowS
  rw [if_neg h0,Int.toNat_natCast,Int.toNat_natCast]
  refine ⟨Int.natCast_nonneg _,by omega,?_,fun k hk=>?_⟩
  · rw [hasB_nat,Int.toNat_natCast];simp [h1,h2]
  · rw [hasB_nat,Int.toNat_natCast,h3 k (by omega)];simp
theorem cnt_without {s:Int} (h:U64 s) {m:Nat} (hm:m<64) (hb:hasB s m=true) (k:Nat):cntN (fun j=>hasB (withoutS s m) j) k=cntN (fun j=>hasB s j) k-(if m<k then 1 else 0):=by
  have:=cntN_add (p:=fun j=>hasB s j) (q:=fun j=>hasB (withoutS s m) j) (r:=fun j=>decide (j=m)) (n:=k) (fun j _=>by
    rw [hasB_without h (by omega)]
    by_cases e:j=m
    · subst e;simp [hb]
    · have: ¬ (j:Int)=(m:Int):=by omega
      simp [e,this])
  rw [cntN_one] at this
  omega
theorem withS_U64 {x n:Int} (hx:U64 x):U64 (withS x n):=U64_with hx
theorem withoutS_U64 {x n:Int} (hx:U64 x):U64 (withoutS x n):=U64_without hx
theorem firstN_bits: ∀(w:Nat) {out s:Int},U64 out→U64 s→(w:Int)≤lenS s→U64 (firstN w out s)∧ ∀k:Nat,hasB (firstN w out s) k=(hasB out k||(hasB s k&&decide (cntN (fun j=>hasB s j) k<w)))
  |0,out,s,ho,hs,hw=>by
    refine ⟨ho,fun k=>?_⟩
    have:=cntN_nonneg (fun j=>hasB s j) k
    have h0: ¬ cntN (fun j=>hasB s j) k<((0:Nat):Int):=by omega
    simp only [firstN,h0,decide_false,Bool.and_false,Bool.or_false]
  |w+1,out,s,ho,hs,hw=>by
    have hs0:s≠0:=by
      intro e;subst e
      have:lenS 0=0:=rfl
      omega
    obtain ⟨l0,l1,l2,l3⟩:=lowS_spec hs hs0
    obtain ⟨m,hm⟩:=Int.eq_ofNat_of_zero_le l0
    rw [hm] at l1 l2 l3
    simp only [Int.toNat_natCast] at l2
    have hcw:=cnt_without hs (by omega) l2
    have hlen:((w:Nat):Int)≤lenS (withoutS s m):=by
      rw [lenS_cnt (withoutS_U64 hs),hcw,if_pos (by omega),←lenS_cnt hs];omega
    simp only [firstN,hm]
    obtain ⟨g1,g2⟩:=firstN_bits w (withS_U64 (n:=(m:Int)) ho) (withoutS_U64 (n:=(m:Int)) hs) hlen
    refine ⟨g1,fun k=>?_⟩
    rw [g2,hasB_with ho (by omega),hasB_without hs (by omega),hcw]
    rcases Nat.lt_trichotomy k m with h |h |h
    · have e1: ¬ (k:Int)=(m:Int):=by omega
      rw [l3 k (by omega)]
      simp [e1]
    · subst h
      have:cntN (fun j=>hasB s j) k=0:=cntN_none fun j hj=>l3 j (by omega)
      simp [this,l2]
    · have e1: ¬ (k:Int)=(m:Int):=by omega
      have e2:(cntN (fun j=>hasB s j) k-(if m<k then 1 else 0)<(w:Int))↔(cntN (fun j=>hasB s j) k<((w+1:Nat):Int)):=by rw [if_pos h];omega
      simp only [e1,decide_false,Bool.or_false,Bool.not_false,Bool.and_true,decide_eq_decide.2 e2]
theorem pickN_bits {p:Nat→Bool} {w:Int} (hw:0≤w): ∀n,n≤64→(pickN p w n).2=min (cntN p n) w∧ ∃a:Nat,a<2^n∧(pickN p w n).1=(a:Int)∧ ∀k,a.testBit k=(decide (k<n)&&p k&&decide (cntN p k<w))
  |0,_=>by
    refine ⟨by simp only [pickN,cntN];omega,0,by simp,rfl,fun k=>by simp⟩
  |n+1,hn=>by
    obtain ⟨h1,a,h2,h3,h4⟩:=pickN_bits hw n (by omega)
    have hc:=cntN_nonneg p n
    simp only [pickN,cntN]
    have hp2:(2:Nat)^(n+1)=2*2^n:=by rw [Nat.pow_succ];omega
    split
    · rename_i hc2
      obtain ⟨c1,c2⟩:=hc2
      rw [h1] at c1
      refine ⟨by simp only [h1,c2,if_true];omega,a+2^n,by omega,by simp only [h3];omega,fun k=>?_⟩
      rcases Nat.lt_trichotomy k n with h |h |h
      · rw [Nat.add_comm,Nat.testBit_two_pow_add_gt h,h4 k]
        simp [h,show k<n+1 by omega]
      · subst h
        rw [Nat.add_comm,Nat.testBit_two_pow_add_eq,h4 k]
        have:cntN p k<w:=by omega
        simp [c2,this]
      · have hlt:a+2^n<2^k:=by
          have:(2:Nat)^(n+1)≤2^k:=Nat.pow_le_pow_right (by decide) (by omega)
          omega
        rw [Nat.testBit_lt_two_pow hlt]
        simp [show ¬ k<n+1 by omega]
    · rename_i hc2
      refine ⟨?_,a,by omega,h3,fun k=>?_⟩
      · rw [h1]
        cases hp:p n with
        |false=>simp
        |true=>
          have: ¬ min (cntN p n) w<w:=fun h=>hc2 ⟨by rw [h1];exact h,hp⟩
          simp;omega
      · rw [h4 k]
        rcases Nat.lt_trichotomy k n with h |h |h
        · simp [h,show k<n+1 by omega]
        · subst h
          have:(p k&&decide (cntN p k<w))=false:=by
            cases hp:p k with
            |false=>rfl
            |true=>
              have: ¬ (pickN p w k).2<w:=fun h=>hc2 ⟨h,hp⟩
              rw [h1] at this
              have: ¬ cntN p k<w:=by omega
              simp [this]
          simp [this]
        · simp [show ¬ k<n by omega,show ¬ k<n+1 by omega]
theorem idle_bits {t:Nodes} (h:NW t) (k:Nat):hasB (idleN t) k=(hasB t.all k&&!hasB t.used k&&!hasB t.drain k):=by
  unfold idleN
  rw [hasB_minus (U64_minus h.1) h.2.2.1,hasB_minus h.1 h.2.1]
theorem Deep.idle {n:Nat} {c:Core} (h:Deep n c) (k:Nat):hasB (idleN c.N) k=(decide (k<n)&&!usedL c.J.jobs k&&!dr c k):=by
  rw [idle_bits h.cw.2.1,h.all,hasB_all h.n1 h.n64,h.us];rfl
theorem Deep.idle_len {n:Nat} {c:Core} (h:Deep n c):lenS (idleN c.N)=cntN (fun k=>!dr c k&&!usedL c.J.jobs k) n:=by
  rw [lenS_cut (idle_U64 h.cw.2.1) h.n64 (fun k hk=>by rw [h.idle] at hk;simp at hk;exact hk.1.1)]
  refine cntN_congr fun k hk=>?_
  rw [h.idle]
  simp only [hk,decide_true,Bool.true_and]
  exact Bool.and_comm _ _
theorem sumN_congr {n:Nat} {d:Nat→Bool} {f g:Job→Bool}: ∀{l:List Job},(∀j∈l,j.State=3→f j=g j)→sumN n d f l=sumN n d g l
  | [],_=>rfl
  |j::r,h=>by
    simp only [sumN,sumN_congr (l:=r) fun x hx=>h x (List.mem_cons_of_mem _ hx)]
    by_cases h3:j.State=3
    · rw [h j (by simp) h3]
    · simp [h3]
theorem planSum_nonneg {n:Nat} {now t b:Int}: ∀{l:List Job},(∀j∈l,JobOK n now j)→0≤planSum t b l
  | [],_=>Int.le_refl _
  |j::r,h=>by
    have:=planSum_nonneg (t:=t) (b:=b) fun x hx=>h x (List.mem_cons_of_mem _ hx)
    have:=planAt_nonneg (t:=t) (b:=b) (h j (by simp))
    simp only [planSum];omega
theorem planSum_mem {n:Nat} {now t b:Int}: ∀{l:List Job} {j:Job},(∀j∈l,JobOK n now j)→j∈l→planAt t b j≤planSum t b l
  | [],_,_,h=>by cases h
  |a::r,j,h,hj=>by
    have h1:=planSum_nonneg (t:=t) (b:=b) fun x hx=>h x (List.mem_cons_of_mem _ hx)
    have h2:=planAt_nonneg (t:=t) (b:=b) (h a (by simp))
    simp only [planSum]
    rcases List.mem_cons.1 hj with rfl |hj
    · omega
    · have:=planSum_mem (t:=t) (b:=b) (fun x hx=>h x (List.mem_cons_of_mem _ hx)) hj
      omega
theorem Deep.idle_req {n:Nat} {c:Core} (h:Deep n c) (hE:FreshE c.J.jobs (nowC c)):lenS (idleN c.N)=reqF n (dr c) c.J.jobs (nowC c)+planSum (nowC c) 0 c.J.jobs:=by
  rw [h.idle_len]
  have h1:=cnt_open (n:=n) (d:=dr c) (act:=fun _=>true) h.ap.all
  have h2:cntN (fun k=>!dr c k&&!usedL c.J.jobs k) n=cntN (fun k=>!dr c k&&!c.J.jobs.any fun j=>runsOn (k:Int) j&&true) n:=cntN_congr fun k _=>by simp [usedL]
  rw [h2,h1]
  unfold reqF
  rw [sumT_split,sumN_congr (g:=fun j=>decide (nowC c<j.End)) (fun j hj h3=>by simp [hE j hj h3])]
  omega
theorem any_set_new {l:List Job} {p:Job→Bool} {i:Nat} {a b:Job} (h:l[i]? =some a) (ha:p a=false):(l.set i b).any p=(p b||l.any p):=by
  induction l generalizing i with
  |nil=>simp at h
  |cons x r ih=>
    cases i with
    |zero=>simp at h;subst h;simp [ha]
    |succ i=>
      simp only [List.set,List.any_cons,ih (i:=i) (by simpa using h)]
      cases p x<;>cases p b<;>rfl
theorem used_of {l:List Job} {i k:Nat} {y:Job} (h:l[i]? =some y) (h3:y.State=3) (hb:hasB y.Nodes k=true):usedL l k=true:=by
  unfold usedL
  rw [List.any_eq_true]
  exact ⟨y,job_mem h,by simp [runsOn,h3,hb]⟩
def nodesFor (c:Core) (w:Int):Int:=firstN w.toNat 0 (idleN c.N)
def beganJ (c:Core) (a:Job):Job:={a with State:=3,Start:=nowC c,End:=nowC c+a.Limit,Plan:= -1,Nodes:=nodesFor c a.Width}
theorem Deep.nodes {n:Nat} {c:Core} (h:Deep n c) {w:Int} (hw:0≤w) (hl:w≤lenS (idleN c.N)):U64 (nodesFor c w)∧(∀k:Nat,hasB (nodesFor c w) k=(hasB (idleN c.N) k&&decide (cntN (fun j=>hasB (idleN c.N) j) k<w)))∧lenS (nodesFor c w)=w:=by
  obtain ⟨m,rfl⟩:=Int.eq_ofNat_of_zero_le hw
  obtain ⟨g1,g2⟩:=firstN_bits m U64.zero (idle_U64 h.cw.2.1) hl
  have hb: ∀k:Nat,hasB (nodesFor c m) k=(hasB (idleN c.N) k&&decide (cntN (fun j=>hasB (idleN c.N) j) k<(m:Int))):=fun k=>by
    unfold nodesFor;rw [Int.toNat_natCast,g2,hasB_zero];rfl
  have hu:U64 (nodesFor c m):=by unfold nodesFor;rw [Int.toNat_natCast];exact g1
  refine ⟨hu,hb,?_⟩
  rw [lenS_cnt hu,cntN_congr (q:=fun k=>hasB (idleN c.N) k&&decide (cntN (fun j=>hasB (idleN c.N) j) k<(m:Int))) (fun k _=>hb k),cnt_rank hw,←lenS_cnt (idle_U64 h.cw.2.1)]
  omega
theorem begin_eq {n:Nat} {c:Core} (h:Deep n c) {i:Nat} {a:Job} (ha:c.J.jobs[i]? =some a) (h1:a.State=1) (hl:a.Width≤lenS (idleN c.N)) {j:Job} (hid:j.Id=a.Id) (hw:j.Width=a.Width):
    beginC c j=⟨⟨c.J.jobs.set i (beganJ c a),c.J.live,c.J.made⟩,{c.N with used:=unionS c.N.used (nodesFor c a.Width)},c.P,c.closed⟩:=by
  have hok:=h.jobs a (job_mem ha)
  have hlm:=hok.lm
  have hnw:=h.nw
  have hf:firstS (idleN c.N) a.Width=(nodesFor c a.Width,true):=by
    unfold firstS nodesFor;rw [if_neg (by have:=hok.wd;omega)]
  have ht:takeN c.N j.Width=((nodesFor c a.Width,0),{c.N with used:=unionS c.N.used (nodesFor c a.Width)}):=by
    unfold takeN;rw [hw,if_neg (by have:=hok.wd;omega),hf];simp
  unfold beginC
  rw [ht]
  simp only [if_true]
  have hb:(beginJ c.J j.Id (nowC c) (nodesFor c a.Width)).2=⟨c.J.jobs.set i (beganJ c a),c.J.live,c.J.made⟩:=by
    unfold beginJ
    rw [if_neg (by omega)]
    simp only []
    rw [atJ_at ha (hid.trans (id_at h.cw ha)),if_pos (by rw [h1];decide),wr_in (by omega)]
    rfl
  rw [hb]
theorem Deep.begin {n:Nat} {c:Core} (h:Deep n c) (hE:FreshE c.J.jobs (nowC c)) {i:Nat} {a:Job} (ha:c.J.jobs[i]? =some a) (h1:a.State=1) (hp:a.Plan=nowC c):
    a.Width≤lenS (idleN c.N)∧Deep n ⟨⟨c.J.jobs.set i (beganJ c a),c.J.live,c.J.made⟩,{c.N with used:=unionS c.N.used (nodesFor c a.Width)},c.P,c.closed⟩:=by
  have hok:=h.jobs a (job_mem ha)
  have hlm:=hok.lm
  have hnw:=h.nw
  have hwd:=hok.wd
  have hid:=id_at h.cw ha
  have hn64:=h.n64
  have hpl:plannedJ a=true:=planned_iff.2 ⟨h1,by omega⟩
  have hpa:planAt (nowC c) 0 a=a.Width:=by unfold planAt;rw [if_pos ⟨hpl,by omega,by omega,by omega⟩]
  have hle:a.Width≤lenS (idleN c.N):=by
    rw [h.idle_req hE]
    have:=planSum_mem (t:=nowC c) (b:=0) h.jobs (job_mem ha)
    have:=h.nn (nowC c) (Int.le_refl _)
    omega
  refine ⟨hle,?_⟩
  obtain ⟨s1,s2,s3⟩:=h.nodes (w:=a.Width) (by omega) hle
  have hsub: ∀k:Nat,hasB (nodesFor c a.Width) k=true→k<n∧usedL c.J.jobs k=false∧dr c k=false:=fun k hk=>by
    rw [s2,h.idle] at hk
    simp at hk
    exact ⟨hk.1.1.1,hk.1.1.2,hk.1.2⟩
  have hb:JobOK n (nowC c) (beganJ c a):=⟨by simp [beganJ],hwd,hlm,.inl rfl,fun _=>⟨by simp only [beganJ];omega,s3,fun k hk=>(hsub k hk).1⟩,by simp only [beganJ];omega,s1⟩
  have hr: ∀t,nowC c≤t→reqF n (dr c) (c.J.jobs.set i (beganJ c a)) t=reqF n (dr c) c.J.jobs t:=fun t ht=>by
    rw [reqF_set ha,take_planned hpl (by omega)]
    have:takeJ n (dr c) t (beganJ c a)=if t<nowC c+a.Limit then a.Width else 0:=by
      unfold takeJ beganJ
      simp only [if_true]
      split
      · rw [cntN_congr (q:=fun k=>hasB (nodesFor c a.Width) k) (fun k _=>?_),←lenS_cut s1 hn64 (fun k hk=>(hsub k hk).1),s3]
        cases hk:hasB (nodesFor c a.Width) k with
        |false=>rfl
        |true=>simp [(hsub k hk).2.2]
      · rfl
    rw [this,hp]
    by_cases hc:t<nowC c+a.Limit
    · rw [if_pos ⟨ht,hc⟩,if_pos hc];omega
    · rw [if_neg (fun g=>hc g.2),if_neg hc];omega
  have hlv:liveN (c.J.jobs.set i (beganJ c a))=liveN c.J.jobs:=by
    rw [liveN_set ha]
    have e1:liveJ a=true:=by simp [liveJ,h1]
    have e2:liveJ (beganJ c a)=true:=by simp [liveJ,beganJ]
    rw [e1,e2];simp
  refine h.set (b:=beganJ c a) ha rfl hb rfl rfl (U64_union h.cw.2.1.2.1 s1) (fun k=>?_) (h.ap.set fun b y hby hy h3 hy3 k hk=>?_) (h.mt.congr fun t ht=>(hr t ht).symm) (fun t ht=>by rw [hr t ht];exact h.nn t ht) (by rw [hlv];exact h.lv) (by rw [hlv];exact h.l64)
  · simp only []
    rw [hasB_union h.cw.2.1.2.1 s1,h.us]
    unfold usedL
    rw [any_set_new ha (by simp [runsOn,h1])]
    have:runsOn (k:Int) (beganJ c a)=hasB (nodesFor c a.Width) k:=by simp [runsOn,beganJ]
    rw [this]
    exact Bool.or_comm _ _
  · cases hyb:hasB y.Nodes k with
    |false=>rfl
    |true=>
      have:=used_of hy hy3 hyb
      rw [(hsub k hk).2.1] at this;cases this
theorem Deep.over {n:Nat} {c:Core} (h:Deep n c) {i:Nat} {a:Job} (ha:c.J.jobs[i]? =some a) (h3:a.State=3) (he:a.End=nowC c):
    ∃N',timeout1 c a=⟨⟨c.J.jobs.set i {a with State:=6},wr (c.J.live-1),c.J.made⟩,N',c.P,c.closed⟩∧N'.all=c.N.all∧N'.drain=c.N.drain∧Deep n ⟨⟨c.J.jobs.set i {a with State:=6},wr (c.J.live-1),c.J.made⟩,N',c.P,c.closed⟩:=by
  have hok:=h.jobs a (job_mem ha)
  have hlm:=hok.lm
  have hnw:=h.nw
  have hid:=id_at h.cw ha
  have hplan:a.Plan= -1:=by rcases hok.pl with e |e<;>omega
  obtain ⟨_,_,hsub⟩:=hok.rn h3
  have hin: ∀k:Nat,hasB a.Nodes k=true→hasB c.N.used k=true:=fun k hk=>by rw [h.us];exact used_of ha h3 hk
  have hz:minusS a.Nodes c.N.used=0:=by
    refine bits_ext (U64_minus hok.un) U64.zero fun k _=>?_
    rw [hasB_minus hok.un h.cw.2.1.2.1,hasB_zero]
    cases hk:hasB a.Nodes k with
    |false=>rfl
    |true=>rw [hin k hk];rfl
  have hlive:1≤liveN c.J.jobs:=by
    unfold liveN
    have:0<c.J.jobs.countP liveJ:=List.countP_pos_iff.2 ⟨a,job_mem ha,by simp [liveJ,h3]⟩
    omega
  have hlw:wr (c.J.live-1)=c.J.live-1:=wr_in (by have:=h.lv;have:=h.l64;omega)
  refine ⟨{c.N with used:=minusS c.N.used a.Nodes},?_,rfl,rfl,?_⟩
  · unfold timeout1
    rw [if_pos (by omega)]
    have e1:(finishJ c.J a.Id 6 a.End).2=⟨c.J.jobs.set i {a with State:=6},wr (c.J.live-1),c.J.made⟩:=by
      unfold finishJ
      rw [if_neg (by omega),if_neg (by omega)]
      simp only []
      rw [atJ_at ha hid]
      simp [h3]
      congr 2
      obtain ⟨q1,q2,q3,q4,q5,q6,q7,q8,q9,q10⟩:=a
      simp only [] at hplan
      subst hplan
      rfl
    have e2:(giveN c.N a.Nodes).2={c.N with used:=minusS c.N.used a.Nodes}:=by
      unfold giveN;rw [if_neg (by rw [hz];simp)]
    rw [e1,e2]
  · have hb:JobOK n (nowC c) {a with State:=6}:=⟨by simp,hok.wd,hok.lm,.inl hplan,fun e=>by simp at e,hok.en,hok.un⟩
    have hr: ∀t,nowC c≤t→reqF n (dr c) (c.J.jobs.set i {a with State:=6}) t=reqF n (dr c) c.J.jobs t:=fun t ht=>by
      rw [reqF_set ha,take_rest (j:={a with State:=6}) (planned_not.2 (.inl (by simp))) (by simp)]
      unfold takeJ;rw [if_pos h3,if_neg (by omega)];omega
    have hlv:liveN (c.J.jobs.set i {a with State:=6})=liveN c.J.jobs-1:=by
      rw [liveN_set ha]
      have e1:liveJ a=true:=by simp [liveJ,h3]
      have e2:liveJ {a with State:=6}=false:=by simp [liveJ]
      rw [e1,e2];simp
    refine h.set (b:={a with State:=6}) ha rfl hb rfl rfl (U64_minus h.cw.2.1.2.1) (fun k=>?_) (h.ap.less ha fun e=>by simp at e) (h.mt.congr fun t ht=>(hr t ht).symm) (fun t ht=>by rw [hr t ht];exact h.nn t ht) (by rw [hlv,hlw,h.lv]) (by rw [hlv];have:=h.l64;omega)
    simp only []
    rw [hasB_minus h.cw.2.1.2.1 hok.un,h.us]
    unfold usedL
    cases hk:hasB a.Nodes k with
    |false=>
      rw [any_set_same ha (by simp [runsOn,hk])];simp
    |true=>
      have:(c.J.jobs.set i {a with State:=6}).any (runsOn (k:Int))=false:=by
        rw [List.any_eq_false]
        intro x hx
        obtain ⟨p,hp⟩:=List.getElem?_of_mem hx
        rw [List.getElem?_set] at hp
        split at hp
        · split at hp
          · cases hp;simp [runsOn]
          · cases hp
        · rename_i hne
          by_cases hx3:x.State=3
          · have:=h.ap i p a x hne ha hp h3 hx3 k hk
            simp [runsOn,this]
          · simp [runsOn,hx3]
      rw [this];simp
end Go.Ax.Law
namespace Go.Ax.Law
open Go.Ax.O
structure Rep (n:Nat) (c:Core) (m:Model):Prop where
  deep:Deep n c
  len:m.Drain.length=n
  jobs:m.L=c.J.jobs
  now:m.Now=nowC c
  closed:m.Closed=c.closed
  dr: ∀k,k<n→drainB m k=dr c k
theorem Rep.used {n:Nat} {c:Core} {m:Model} (h:Rep n c m) (k:Nat):(0≤holdI m.L k)↔usedL c.J.jobs k=true:=by
  rw [h.jobs]
  unfold holdI usedL
  cases hf:c.J.jobs.findIdx? (runsOn (k:Int)) with
  |none=>
    rw [List.findIdx?_eq_none_iff] at hf
    simp only [List.any_eq_true]
    constructor
    · intro h;omega
    · rintro ⟨x,hx,hp⟩
      rw [hf x hx] at hp;cases hp
  |some i=>
    rw [List.findIdx?_eq_some_iff_getElem] at hf
    obtain ⟨hi,h1,_⟩:=hf
    simp only [List.any_eq_true]
    constructor
    · intro _;exact ⟨_,List.getElem_mem hi,h1⟩
    · intro _;omega
theorem Rep.state {n:Nat} {c:Core} {m:Model} (h:Rep n c m) (k:Int):stateM m k=stateN c.N k:=by
  have hall:=h.deep.all
  unfold stateM stateN
  by_cases hk:k<0∨(m.Drain.length:Int)≤k
  · rw [if_pos hk]
    have:hasB c.N.all k=false:=by
      rcases hk with hk |hk
      · exact hasB_neg hk
      · obtain ⟨q,rfl⟩:=Int.eq_ofNat_of_zero_le (show 0≤k by omega)
        rw [hall,hasB_all h.deep.n1 h.deep.n64]
        have:=h.len
        simp;omega
    rw [if_pos this]
  · rw [if_neg hk]
    obtain ⟨q,rfl⟩:=Int.eq_ofNat_of_zero_le (show 0≤k by omega)
    have hl:=h.len
    have hq:q<n:=by omega
    have:hasB c.N.all (q:Int)=true:=by rw [hall,hasB_all h.deep.n1 h.deep.n64];simpa using hq
    rw [this]
    have hu:=h.used q
    have hd:=h.dr q hq
    rw [Int.toNat_natCast,hd]
    have hus:=h.deep.us q
    rw [hus]
    unfold Law.dr
    by_cases h1:0≤holdI m.L q
    · rw [hu.1 h1];simp [h1]
    · have:usedL c.J.jobs q=false:=by
        cases hx:usedL c.J.jobs q with
        |false=>rfl
        |true=>exact absurd (hu.2 hx) h1
      simp [h1,this]
theorem state_idle {t:Nodes} (h:NW t) (k:Nat):(stateN t k=1)↔hasB (idleN t) k=true:=by
  rw [idle_bits h]
  unfold stateN
  cases hasB t.all k<;>cases hasB t.used k<;>cases hasB t.drain k<;>simp
theorem Rep.pick {n:Nat} {c:Core} {m:Model} (h:Rep n c m) {w:Int} (hw:0≤w) (hl:w≤lenS (idleN c.N)):(pickN (idleM m) w m.Drain.length).1=nodesFor c w:=by
  obtain ⟨s1,s2,_⟩:=h.deep.nodes hw hl
  have hn64:=h.deep.n64
  rw [h.len]
  obtain ⟨_,a,p1,p2,p3⟩:=pickN_bits (p:=idleM m) hw n hn64
  have ha:a<18446744073709551616:=by
    have:(2:Nat)^n≤2^64:=Nat.pow_le_pow_right (by decide) hn64
    have e:(2:Nat)^64=18446744073709551616:=by decide
    omega
  rw [p2]
  refine bits_ext (U64.nat ha) s1 fun k hk=>?_
  have him: ∀j:Nat,idleM m j=hasB (idleN c.N) j:=fun j=>by
    unfold idleM
    rw [h.state]
    have:=state_idle h.deep.cw.2.1 j
    cases hb:hasB (idleN c.N) j with
    |false=>rw [hb] at this;simpa using this
    |true=>rw [hb] at this;simpa using this
  rw [hasB_nat,Int.toNat_natCast,p3,s2]
  have hc:cntN (idleM m) k=cntN (fun j=>hasB (idleN c.N) j) k:=cntN_congr fun j _=>him j
  rw [hc,him k]
  have:hasB (idleN c.N) k=true→k<n:=fun hb=>by rw [h.deep.idle] at hb;simp at hb;exact hb.1.1
  cases hb:hasB (idleN c.N) k with
  |false=>simp
  |true=>simp [hk,this hb]
theorem Rep.begin {n:Nat} {c:Core} {m:Model} (h:Rep n c m) (hE:FreshE c.J.jobs (nowC c)) {i:Nat} {a:Job} (ha:c.J.jobs[i]? =some a) (h1:a.State=1) (hp:a.Plan=nowC c):
    Rep n (beginC c a) (beginM m i)∧(beginC c a).J.jobs=c.J.jobs.set i (beganJ c a)∧nowC (beginC c a)=nowC c∧(beginC c a).P=c.P:=by
  obtain ⟨hl,hd⟩:=h.deep.begin hE ha h1 hp
  have he:=begin_eq h.deep ha h1 hl (j:=a) rfl rfl
  have hm:beginM m i={m with L:=m.L.set i (beganJ c a)}:=by
    unfold beginM
    rw [Int.toNat_natCast,h.jobs,ha]
    have:beginJm m a=beganJ c a:=by
      unfold beginJm beganJ
      rw [h.now,h.pick (by have:=(h.deep.jobs a (job_mem ha)).wd;omega) hl]
    simp only [this]
  rw [he,hm]
  exact ⟨⟨hd,h.len,by simp only [h.jobs],h.now,h.closed,h.dr⟩,rfl,rfl,rfl⟩
theorem ahead_irr (a:Job):aheadJ a a=false:=by unfold aheadJ;simp
theorem ahead_trans {a b c:Job} (h1:aheadJ a b=true) (h2:aheadJ b c=true):aheadJ a c=true:=by
  unfold aheadJ at*
  simp only [Bool.or_eq_true,Bool.and_eq_true,decide_eq_true_eq] at*
  omega
theorem ahead_total {a b:Job} (h:a.Id≠b.Id):aheadJ a b=true∨aheadJ b a=true:=by
  unfold aheadJ
  simp only [Bool.or_eq_true,Bool.and_eq_true,decide_eq_true_eq]
  omega
theorem ahead_key {a b:Job} (ha: -9223372036854775808≤a.Id∧a.Id≤9223372036854775807) (hb: -9223372036854775808≤b.Id∧b.Id≤9223372036854775807) (hne:a.Id≠b.Id) (h:keyJ a≤keyJ b):aheadJ a b=true:=by
  unfold keyJ at h
  unfold aheadJ
  simp only [Bool.or_eq_true,Bool.and_eq_true,decide_eq_true_eq]
  omega
def Placed (l:List Job):Prop:= ∀(i:Nat) (j:Job),l[i]? =some j→j.Id=(i:Int)+1
theorem Placed.set {l:List Job} (h:Placed l) {i:Nat} {a b:Job} (ha:l[i]? =some a) (hb:b.Id=a.Id):Placed (l.set i b):=by
  intro p q hq
  rw [List.getElem?_set] at hq
  split at hq
  · rename_i hp;subst hp
    split at hq
    · cases hq;exact hb.trans (h _ _ ha)
    · cases hq
  · exact h p q hq
theorem selN_spec {now : Int} {l : List Job} (hp:Placed l): ∀n,n≤l.length→
    (selN now l n= -1∧ ∀i j,i<n→l[i]? =some j→dueJ now j=false)∨
    ∃i a,i<n∧selN now l n=(i:Int)∧l[i]? =some a∧dueJ now a=true∧ ∀k b,k<n→k≠i→l[k]? =some b→dueJ now b=true→aheadJ a b=true
  |0,_=> .inl ⟨rfl,fun i j hi=>by omega⟩
  |n+1,hn=>by
    have hl:l[n]? =some l[n]:=List.getElem?_eq_getElem (by omega)
    simp only [selN]
    rw [hl]
    simp only []
    rcases selN_spec hp n (by omega) with ⟨e,h0⟩ |⟨i,a,hi,e,ha,hd,hb⟩
    · rw [e]
      by_cases hdue:dueJ now l[n]=true
      · rw [if_pos ⟨hdue,.inl (by omega)⟩]
        refine .inr ⟨n,l[n],by omega,rfl,hl,hdue,fun k b hk hne hkb hbd=>?_⟩
        rw [h0 k b (by omega) hkb] at hbd;cases hbd
      · rw [if_neg (fun g=>hdue g.1)]
        refine .inl ⟨rfl,fun i j hi hj=>?_⟩
        rcases Nat.lt_or_ge i n with h |h
        · exact h0 i j h hj
        · have:i=n:=by omega
          subst this
          rw [hl] at hj;cases hj
          simpa using hdue
    · rw [e]
      have hg:l.getD (i:Int).toNat job0=a:=by rw [Int.toNat_natCast,List.getD_eq_getElem?_getD,ha];rfl
      rw [hg]
      by_cases hc:dueJ now l[n]=true∧((i:Int)<0∨aheadJ l[n] a=true)
      · rw [if_pos hc]
        have hna : aheadJ l[n] a = true := by rcases hc.2 with h |h;· omega
                                              · exact h
        refine .inr ⟨n,l[n],by omega,rfl,hl,hc.1,fun k b hk hne hkb hbd=>?_⟩
        by_cases hki:k=i
        · subst hki;rw [ha] at hkb;cases hkb;exact hna
        · exact ahead_trans hna (hb k b (by omega) hki hkb hbd)
      · rw [if_neg hc]
        refine .inr ⟨i,a,by omega,rfl,ha,hd,fun k b hk hne hkb hbd=>?_⟩
        rcases Nat.lt_or_ge k n with h |h
        · exact hb k b h hne hkb hbd
        · have:k=n:=by omega
          subst this
          rw [hl] at hkb;cases hkb
          rcases ahead_total (a:=a) (b:=l[k]) (by rw [hp _ _ ha,hp _ _ hl];omega) with h |h
          · exact h
          · exact absurd ⟨hbd,.inr h⟩ hc
theorem dueJ_iff {now:Int} {j:Job}:dueJ now j=true↔j.State=1∧0≤j.Plan∧j.Plan=now:=by
  unfold dueJ
  simp only [Bool.and_eq_true,planned_iff,decide_eq_true_eq]
  constructor
  · rintro ⟨⟨a,b⟩,c⟩;exact ⟨a,b,c⟩
  · rintro ⟨a,b,c⟩;exact ⟨⟨a,b⟩,c⟩
theorem begin_rest {l:List Job} {c:Core} {now:Int} (hE:FreshE l now) (hnow:nowC c=now) {i:Nat} {a:Job} (hl:1≤a.Limit):FreshE (l.set i (beganJ c a)) now:=by
  intro j hj h3
  rcases List.mem_or_eq_of_mem_set hj with hj |rfl
  · exact hE j hj h3
  · simp only [beganJ];omega
theorem beginF_none {m:Model} (h:selN m.Now m.L m.L.length= -1): ∀f,beginF f m=m
  |0=>rfl
  |f+1=>by
    simp only [beginF]
    rw [h,if_neg (by omega)]
    exact beginF_none h f
def potJ (j:Job):Nat:=if plannedJ j then 2 else if j.State=3 then 1 else 0
def Drops (l l':List Job):Prop:=l'.length=l.length∧ ∀(i:Nat) (a:Job),l[i]? =some a→ ∃b,l'[i]? =some b∧(b=a∨potJ b<potJ a)
theorem Drops.refl (l:List Job):Drops l l:=⟨rfl,fun i a h=>⟨a,h,.inl rfl⟩⟩
theorem Drops.trans {a b c:List Job} (h1:Drops a b) (h2:Drops b c):Drops a c:=by
  refine ⟨h2.1.trans h1.1,fun i x hx=>?_⟩
  obtain ⟨y,hy,e1⟩:=h1.2 i x hx
  obtain ⟨z,hz,e2⟩:=h2.2 i y hy
  refine ⟨z,hz,?_⟩
  rcases e1 with rfl |e1<;>rcases e2 with rfl |e2
  · exact .inl rfl
  · exact .inr e2
  · exact .inr e1
  · exact .inr (by omega)
theorem Drops.set {l:List Job} {i:Nat} {a b:Job} (h:l[i]? =some a) (hb:b=a∨potJ b<potJ a):Drops l (l.set i b):=by
  refine ⟨by simp,fun p x hx=>?_⟩
  by_cases hp:i=p
  · subst hp
    rw [h] at hx;cases hx
    exact ⟨b,by rw [List.getElem?_set_self (List.getElem?_eq_some_iff.1 h).1],hb⟩
  · exact ⟨x,by rw [List.getElem?_set_ne hp];exact hx,.inl rfl⟩
theorem begins_rep {n:Nat}: ∀(D:List Job) {c:Core} {m:Model} (f:Nat),Rep n c m→FreshE c.J.jobs (nowC c)→D.Pairwise (fun a b=>aheadJ a b=true)→
    (∀x,x∈D↔ ∃i:Nat,c.J.jobs[i]? =some x∧dueJ (nowC c) x=true)→D.length≤f→
    Rep n (D.foldl beginC c) (beginF f m)∧FreshE (D.foldl beginC c).J.jobs (nowC c)∧FreshP (D.foldl beginC c).J.jobs (nowC c)∧nowC (D.foldl beginC c)=nowC c∧Drops c.J.jobs (D.foldl beginC c).J.jobs
  | [],c,m,f,h,hE,_,hD,_=>by
    have hnone: ∀i j,c.J.jobs[i]? =some j→dueJ (nowC c) j=false:=fun i j hj=>by
      cases hd:dueJ (nowC c) j with
      |false=>rfl
      |true=>have:=(hD j).2 ⟨i,hj,hd⟩;cases this
    have hsel:selN m.Now m.L m.L.length= -1:=by
      rw [h.now,h.jobs]
      rcases selN_spec (now:=nowC c) (l:=c.J.jobs) (fun i j hj=>id_at h.deep.cw hj) _ (Nat.le_refl _) with ⟨e,_⟩ |⟨i,a,_,_,ha,hd,_⟩
      · exact e
      · rw [hnone i a ha] at hd;cases hd
    rw [beginF_none hsel]
    refine ⟨h,hE,fun j hj hp=>?_,rfl,.refl _⟩
    obtain ⟨i,hi⟩:=List.getElem?_of_mem hj
    have h1:=(h.deep.jobs j hj).plan hp
    have h2:=hnone i j hi
    have h3:=planned_iff.1 hp
    have:j.Plan≠nowC c:=fun e=>by
      rw [dueJ_iff.2 ⟨h3.1,h3.2,e⟩] at h2;cases h2
    have:nowC ([].foldl beginC c)=nowC c:=rfl
    omega
  |d::D,c,m,0,_,_,_,_,hf=>by simp at hf
  |d::D,c,m,f+1,h,hE,hs,hD,hf=>by
    obtain ⟨i,hi,hdue⟩:=(hD d).1 (by simp)
    have hpl:Placed c.J.jobs:=fun i j hj=>id_at h.deep.cw hj
    have hil:=(List.getElem?_eq_some_iff.1 hi).1
    have hsel:selN m.Now m.L m.L.length=(i:Int):=by
      rw [h.now,h.jobs]
      rcases selN_spec (now:=nowC c) hpl _ (Nat.le_refl _) with ⟨_,h0⟩ |⟨p,a,hp,e,ha,hda,hb⟩
      · rw [h0 i d hil hi] at hdue;cases hdue
      · by_cases hpi:p=i
        · rw [e,hpi]
        · have h1:=hb i d hil (Ne.symm hpi) hi hdue
          have h2:a∈d::D:=(hD a).2 ⟨p,ha,hda⟩
          rcases List.mem_cons.1 h2 with rfl |h2
          · have:=hpl _ _ ha;have:=hpl _ _ hi;omega
          · have h3:=(List.pairwise_cons.1 hs).1 a h2
            have:=ahead_trans h1 h3
            rw [ahead_irr] at this;cases this
    obtain ⟨e1,e2,e3⟩:=dueJ_iff.1 hdue
    obtain ⟨hr,hj,hn,hP⟩:=h.begin hE hi e1 e3
    have hbf:beginF (f+1) m=beginF f (beginM m i):=by
      simp only [beginF];rw [hsel,if_pos (by omega)]
    have hE2:FreshE (beginC c d).J.jobs (nowC (beginC c d)):=by
      rw [hj,hn]
      exact begin_rest hE rfl (h.deep.jobs d (job_mem hi)).lm.1
    have hD2: ∀x,x∈D↔ ∃p:Nat,(beginC c d).J.jobs[p]? =some x∧dueJ (nowC (beginC c d)) x=true:=fun x=>by
      rw [hj,hn]
      constructor
      · intro hx
        obtain ⟨p,hp,hdx⟩:=(hD x).1 (by simp [hx])
        refine ⟨p,?_,hdx⟩
        have hpi:p≠i:=fun e=>by
          subst e
          rw [hi] at hp;cases hp
          have:=(List.pairwise_cons.1 hs).1 d hx
          rw [ahead_irr] at this;cases this
        rw [List.getElem?_set_ne (Ne.symm hpi)];exact hp
      · rintro ⟨p,hp,hdx⟩
        rw [List.getElem?_set] at hp
        split at hp
        · try split at hp
          all_goals first
            |(cases hp;done)
            | (cases hp
               have:=(dueJ_iff.1 hdx).1
               simp [beganJ] at this)
        · rename_i hne
          rcases List.mem_cons.1 ((hD x).2 ⟨p,hp,hdx⟩) with rfl |hx
          · have:=hpl _ _ hp;have:=hpl _ _ hi;omega
          · exact hx
    obtain ⟨g1,g2,g3,g4,g5⟩:=begins_rep D f hr hE2 (List.pairwise_cons.1 hs).2 hD2 (by simpa using hf)
    rw [hbf]
    simp only [List.foldl_cons]
    rw [hn] at g2 g3 g4
    refine ⟨g1,g2,g3,g4,Drops.trans ?_ g5⟩
    rw [hj]
    refine Drops.set hi (.inr ?_)
    have:plannedJ d=true:=planned_iff.2 ⟨e1,e2⟩
    unfold potJ
    rw [if_pos this,if_neg (by simp [plannedJ,beganJ])]
    split<;>omega
end Go.Ax.Law
