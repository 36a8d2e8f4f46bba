import Derived.Test.YtnoinchifbckcaaGreatDoorAxD8
set_option linter.all false
namespace Go.Ax.Law
open Go.Ax.O
theorem newW_part (r:Req):(newW r).part=0∧(newW r).ok=false∧(newW r).done=false∧(newW r).commit=false∧(newW r).req=cleanR r∧(newW r).job=job0:=⟨rfl,rfl,rfl,rfl,rfl,rfl⟩
theorem clean_kind (r:Req):(cleanR r).Kind=r.Kind:=by unfold cleanR;simp only [];repeat' split<;>try rfl
theorem clean1 {r:Req} (h:r.Kind=1):cleanR r=⟨1,0,r.User,r.Width,r.Limit,r.Prio,r.Held,0,0⟩:=by unfold cleanR req0;simp [h]
theorem cleanId {r:Req} (h:r.Kind=2∨r.Kind=3∨r.Kind=4∨r.Kind=5∨r.Kind=6):(cleanR r).Id=r.Id:=by unfold cleanR req0;simp only [];rw [if_neg (by omega),if_pos h]
theorem cleanNode {r:Req} (h:r.Kind=7∨r.Kind=8):(cleanR r).Node=r.Node:=by unfold cleanR req0;simp only [];rw [if_neg (by omega),if_neg (by omega),if_pos h]
theorem cleanBy {r:Req} (h:r.Kind=9):(cleanR r).By=r.By:=by unfold cleanR req0;simp only [];rw [if_neg (by omega),if_neg (by omega),if_neg (by omega),if_pos h]
theorem step_new {r:Req} {c:Core} (hc:c.closed=false):stepW (newW r) c=bump (serveW (newW r) c):=step_first rfl rfl (by rw [hc];simp)
theorem submitW_wants {w:Work} {c:Core} (hp:w.part=0) {e:Int} (h:wantsC c w.req=e) (he:e≠0):submitW w c=(failW w e,c):=by
  unfold submitW;rw [if_neg (by omega),h,if_pos he]
theorem submitW_fails {w:Work} {c:Core} (hp:w.part=0) (h:wantsC c w.req=0) {e:Int} (hs:submitJ c.J w.req=((0,e),c.J)) (he:e≠0):submitW w c=(failW w e,c):=by
  unfold submitW;rw [if_neg (by omega),h,if_neg (by decide)]
  simp only [hs];rw [if_pos he]
theorem submitW_takes {w:Work} {c:Core} (hp:w.part=0) (h:wantsC c w.req=0) {id:Int} {J:Jobs} (hs:submitJ c.J w.req=((id,0),J)):
    submitW w c=({w with job:=(getJ J.jobs id).1,reply:=toldC {c with J:=J} id,done:=w.req.Held},{c with J:=J}):=by
  unfold submitW;rw [if_neg (by omega),h,if_neg (by decide)]
  simp only [hs];rw [if_neg (by decide)]
theorem submit_done {n:Nat} {c:Core} {m:Model} (h:Stb n c m) (hc:c.closed=false) {r:Req} (hk:r.Kind=1):Done n (newW r) c (submitM m r):=by
  have hd:=h.rep.deep
  have hst:=step_new (r:=r) hc
  have hk2:(newW r).req.Kind=1:=(clean_kind r).trans hk
  rw [serve1 hk2] at hst
  have hreq:(newW r).req=⟨1,0,r.User,r.Width,r.Limit,r.Prio,r.Held,0,0⟩:=clean1 hk
  have hsz:=hd.size
  have hlen:=h.rep.len
  have h64:=hd.n64
  have hjl:=hd.cw.1.2.1
  unfold submitM
  have hwant:wantsC c (newW r).req=if (n:Int)<r.Width∧r.Width≤64∧0≤r.User∧r.User≤255∧0≤r.Prio∧r.Prio≤1000 then 9 else 0:=by
    rw [hreq];unfold wantsC;rw [hsz];simp
  have hlv:=hd.lv
  have hL:m.L=c.J.jobs:=h.rep.jobs
  have hsub: ∀e,rightR (newW r).req=e→e≠0→submitJ c.J (newW r).req=((0,e),c.J):=fun e he hne=>by
    unfold submitJ;rw [he,if_pos hne]
  by_cases c1:r.User<0∨255<r.User∨r.Prio<0∨1000<r.Prio
  · rw [if_pos c1]
    rw [submitW_fails rfl (by rw [hwant,if_neg (by omega)]) (hsub 1 (by rw [hreq];unfold rightR;rw [if_pos c1]) (by decide)) (by decide)] at hst
    exact Done.fail h rfl rfl ⟨rfl,rfl⟩ hst
  rw [if_neg c1]
  by_cases c2:r.Width<1∨(m.Drain.length:Int)<r.Width
  · rw [if_pos c2]
    by_cases c3:(n:Int)<r.Width∧r.Width≤64
    · rw [submitW_wants rfl (by rw [hwant,if_pos ⟨c3.1,c3.2,by omega⟩]) (by decide)] at hst
      exact Done.fail h rfl rfl ⟨rfl,rfl⟩ hst
    · rw [submitW_fails rfl (by rw [hwant,if_neg (by omega)]) (hsub 9 (by rw [hreq];unfold rightR;rw [if_neg c1,if_pos (by simp only [];omega)]) (by decide)) (by decide)] at hst
      exact Done.fail h rfl rfl ⟨rfl,rfl⟩ hst
  rw [if_neg c2]
  have hw0:wantsC c (newW r).req=0:=by rw [hwant,if_neg (by omega)]
  by_cases c4:r.Limit<1∨1048576<r.Limit
  · rw [if_pos c4]
    rw [submitW_fails rfl hw0 (hsub 10 (by rw [hreq];unfold rightR;rw [if_neg c1,if_neg (by simp only [];omega),if_pos c4]) (by decide)) (by decide)] at hst
    exact Done.fail h rfl rfl ⟨rfl,rfl⟩ hst
  rw [if_neg c4]
  have hright:rightR (newW r).req=0:=by rw [hreq];unfold rightR;rw [if_neg c1,if_neg (by simp only [];omega),if_neg c4]
  by_cases c5:63<liveN m.L∨1023<(m.L.length:Int)
  · rw [if_pos c5]
    have hs:submitJ c.J (newW r).req=((0,6),c.J):=by
      unfold submitJ;rw [if_neg (by rw [hright];decide),if_pos (by rw [hL] at c5;omega)]
    rw [submitW_fails rfl hw0 hs (by decide)] at hst
    exact Done.fail h rfl rfl ⟨rfl,rfl⟩ hst
  rw [if_neg c5]
  rw [hL] at c5
  have hnew:newJ c.J.jobs (newW r).req=newJ m.L r:=by rw [hL,hreq];rfl
  have hs:submitJ c.J (newW r).req=(((c.J.jobs.length:Int)+1,0),⟨c.J.jobs++[newJ m.L r],wr (c.J.live+1),c.J.made⟩):=by
    unfold submitJ;rw [if_neg (by rw [hright];decide),if_neg (by omega),hnew]
  rw [submitW_takes rfl hw0 hs] at hst
  simp only []
  generalize hj:newJ m.L r=j at*
  have hjid:j.Id=(c.J.jobs.length:Int)+1:=by rw [←hj,hL];rfl
  have hjs:j.State=1∨j.State=2:=by rw [←hj];unfold newJ;simp only [];split<;>simp
  have hjp:j.Plan= -1:=by rw [←hj];rfl
  have hok:JobOK n (nowC c) j:=by
    refine ⟨by omega,?_,?_,.inl hjp,fun h3=>by omega,?_,?_⟩
    · rw [←hj];show 1≤r.Width∧r.Width≤n;omega
    · rw [←hj];show 1≤r.Limit∧r.Limit≤1048576;omega
    · rw [←hj];show (-1:Int)≤ -1∧(-1:Int)≤1099512676352;decide
    · rw [←hj];exact U64.zero
  have hpl:plannedJ j=false:=planned_not.2 (.inr (by omega))
  have hD:=hd.append hjid hok (by omega) hpl (by unfold liveJ;simp;omega) (by omega) (by omega)
  have hget:getJ (c.J.jobs++[j]) ((c.J.jobs.length:Int)+1)=(j,0):=getJ_at (i:=c.J.jobs.length) (by simp) rfl
  rw [hget] at hst
  generalize hc2:({c with J:=⟨c.J.jobs++[j],wr (c.J.live+1),c.J.made⟩}:Core)=c2 at*
  have hc2j:c2.J.jobs=c.J.jobs++[j]:=by rw [←hc2]
  have hc2n:nowC c2=nowC c:=by rw [←hc2];rfl
  have hc2c:c2.closed=c.closed:=by rw [←hc2]
  have htold:toldC c2 ((c.J.jobs.length:Int)+1)=tellR j:=by unfold toldC;rw [hc2j,hget];rfl
  have hrep:Stb n c2 {m with L:=m.L++[j]}:=by
    refine ⟨⟨hD,hlen,by simp only [];rw [hL,hc2j],by simp only [];rw [hc2n];exact h.rep.now,by simp only [];rw [hc2c];exact h.rep.closed,fun k hk=>?_⟩,fun x hx h3=>?_,fun x hx hp=>?_⟩
    · have:=h.rep.dr k hk
      have e:dr c2 k=dr c k:=by rw [←hc2];rfl
      rw [e];exact this
    · rw [hc2n];rw [hc2j] at hx
      rcases List.mem_append.1 hx with hx |hx
      · exact h.fe x hx h3
      · simp at hx;subst hx;omega
    · rw [hc2n];rw [hc2j] at hx
      rcases List.mem_append.1 hx with hx |hx
      · exact h.fp x hx hp
      · simp at hx;subst hx;rw [hpl] at hp;cases hp
  rw [htold] at hst
  have hheld:(newW r).req.Held=r.Held:=by rw [hreq]
  rw [hheld] at hst
  have hbp:bump ({newW r with job:=j,reply:=tellR j,done:=r.Held},c2)=({newW r with job:=j,reply:=tellR j,done:=r.Held,part:=1},c2):=bump_eq ⟨by show (0:Int)≤0;omega,by show (0:Int)≤1000000;omega⟩
  have hst2:stepW (newW r) c=({newW r with job:=j,reply:=tellR j,done:=r.Held,part:=1},c2):=hst.trans hbp
  cases hh:r.Held with
  |true=>
    rw [hh] at hst2
    exact ⟨1,_,_,by omega,Ends.first hst2 rfl,rfl,rfl,by simp,by simpa using hrep⟩
  |false=>
    rw [hh] at hst2
    obtain ⟨k,w',c',b1,b2,b3,b4,b5,b6⟩:=hrep.drops (w:={newW r with job:=j,reply:=tellR j,done:=false,part:=1}) rfl rfl rfl ⟨by show (0:Int)<1;decide,by show (1:Int)≤10;decide⟩ (.inl hk2) (by simp only [];omega)
    exact ⟨k+1,w',c',by omega,Ends.next hst2 rfl b2,b3,by rw [b4],b5,by simpa using b6⟩
theorem getM_rep {n:Nat} {c:Core} {m:Model} (h:Rep n c m) (id:Int):((getM m id).2=false∧getJ c.J.jobs id=(job0,7)∧(getM m id).1=job0∧ ∀st f,atJ c.J.jobs id st f=(7,c.J.jobs))∨
    ∃(i:Nat) (j:Job),id=(i:Int)+1∧c.J.jobs[i]? =some j∧getJ c.J.jobs id=(j,0)∧getM m id=(j,true):=by
  have hL:=h.jobs
  rcases getJ_cases c.J.jobs id with ⟨a,b⟩ |⟨i,j,a,b,d⟩
  · left
    have:getM m id=(job0,false):=by unfold getM;rw [hL,if_pos a]
    rw [this]
    exact ⟨rfl,b,rfl,fun st f=>by unfold atJ;rw [if_pos a]⟩
  · right
    refine ⟨i,j,a,b,d,?_⟩
    have hl:=(List.getElem?_eq_some_iff.1 b).1
    unfold getM
    rw [hL,if_neg (by omega),a,show ((i:Int)+1-1).toNat=i by omega,b]
theorem fresh_set {l:List Job} {now:Int} {i:Nat} {b:Job} (hE:FreshE l now) (hP:FreshP l now) (h3:b.State≠3) (hp:plannedJ b=false):FreshE (l.set i b) now∧FreshP (l.set i b) now:=by
  refine ⟨fun x hx h=>?_,fun x hx h=>?_⟩
  · rcases List.mem_or_eq_of_mem_set hx with hx |rfl
    · exact hE x hx h
    · exact absurd h h3
  · rcases List.mem_or_eq_of_mem_set hx with hx |rfl
    · exact hP x hx h
    · rw [hp] at h;cases h
theorem finishJ_at {t:Jobs} {i:Nat} {j:Job} (hj:t.jobs[i]? =some j) {id st at_:Int} (hid:id=(i:Int)+1) (hst:st=4∨st=5) (hat:0≤at_∧at_≤2199023255552) (hs:if st=5 then j.State=3∨j.State=1∨j.State=2 else j.State=3):
    finishJ t id st at_=(0,{t with jobs:=t.jobs.set i {j with End:=if j.State=3 then at_ else j.End,State:=st,Plan:= -1},live:=wr (t.live-1)}):=by
  unfold finishJ
  rw [if_neg (by omega),if_neg (by omega)]
  simp only []
  rw [atJ_at hj hid]
  have:(if st=5 then [3,1,2] else [3]:List Int).contains j.State=true:=by
    split
    · rename_i h5;rw [if_pos h5] at hs;rcases hs with e |e |e<;>rw [e]<;>decide
    · rename_i h5;rw [if_neg h5] at hs;rw [hs];decide
  rw [this];rfl
theorem finishJ_no {t:Jobs} {i:Nat} {j:Job} (hj:t.jobs[i]? =some j) {id st at_:Int} (hid:id=(i:Int)+1) (hst:st=4∨st=5) (hat:0≤at_∧at_≤2199023255552) (hs:if st=5 then j.State≠3∧j.State≠1∧j.State≠2 else j.State≠3):
    finishJ t id st at_=(8,t):=by
  unfold finishJ
  rw [if_neg (by omega),if_neg (by omega)]
  simp only []
  rw [atJ_at hj hid]
  have:(if st=5 then [3,1,2] else [3]:List Int).contains j.State=false:=by
    split
    · rename_i h5;rw [if_pos h5] at hs;simp [hs.1,hs.2.1,hs.2.2]
    · rename_i h5;rw [if_neg h5] at hs;simp [hs]
  rw [this];rfl
theorem Deep.finish {n:Nat} {c:Core} (h:Deep n c) {i:Nat} {j:Job} (hj:c.J.jobs[i]? =some j) {st:Int} (hst:st=4∨st=5) (hs:j.State≤3):
    ∃N' P',N'.all=c.N.all∧N'.drain=c.N.drain∧nowL P'.steps=nowC c∧
      (j.State=3→(giveN c.N j.Nodes).2=N'∧(if 0<(giveN c.N j.Nodes).1.1 then (addP c.P (nowC c) j.End (giveN c.N j.Nodes).1.1).2 else c.P)=P')∧
      (j.State≠3→c.N=N'∧(if plannedJ j=true then (addP c.P j.Plan (j.Plan+j.Limit) j.Width).2 else c.P)=P')∧
      Deep n ⟨⟨c.J.jobs.set i {j with End:=if j.State=3 then nowC c else j.End,State:=st,Plan:= -1},wr (c.J.live-1),c.J.made⟩,N',P',c.closed⟩:=by
  have hok:=h.jobs j (job_mem hj)
  have hid:=id_at h.cw hj
  have hnw:=h.nw
  have hlm:=hok.lm
  have hwd:=hok.wd
  have hlen:=h.len
  have h64:=h.n64
  generalize hbd:({j with End:=if j.State=3 then nowC c else j.End,State:=st,Plan:= -1}:Job)=b
  have b1:b.State=st:=by rw [←hbd]
  have b2:b.Plan= -1:=by rw [←hbd]
  have b3:b.Id=j.Id:=by rw [←hbd]
  have b4:b.Nodes=j.Nodes:=by rw [←hbd]
  have b5: -1≤b.End∧b.End≤1099512676352:=by
    have:=hok.en
    rw [←hbd];simp only [];split<;>omega
  have hbp:plannedJ b=false:=planned_not.2 (.inr (by omega))
  have hb:JobOK n (nowC c) b:=⟨by omega,by rw [←hbd];exact hok.wd,by rw [←hbd];exact hok.lm,.inl b2,fun h3=>by omega,b5,by rw [b4];exact hok.un⟩
  have hr: ∀t,reqF n (dr c) (c.J.jobs.set i b) t=reqF n (dr c) c.J.jobs t+takeJ n (dr c) t j:=fun t=>by
    rw [reqF_set hj,take_rest hbp (by omega)];omega
  have hle: ∀t,reqF n (dr c) (c.J.jobs.set i b) t≤n:=fun t=>reqF_le (jobs_set h.jobs hb)
  have hge: ∀t,nowC c≤t→0≤reqF n (dr c) (c.J.jobs.set i b) t:=fun t ht=>by
    have:=h.nn t ht
    have:=takeJ_nonneg (d:=dr c) (t:=t) hok
    rw [hr];omega
  have hlive:1≤liveN c.J.jobs:=by
    unfold liveN
    have:0<c.J.jobs.countP liveJ:=List.countP_pos_iff.2 ⟨j,job_mem hj,by simp [liveJ];omega⟩
    omega
  have hlw:wr (c.J.live-1)=c.J.live-1:=wr_in (by have:=h.lv;have:=h.l64;omega)
  have hlv:liveN (c.J.jobs.set i b)=liveN c.J.jobs-1:=by
    rw [liveN_set hj]
    have e1:liveJ j=true:=by simp [liveJ];omega
    have e2:liveJ b=false:=by simp [liveJ];omega
    rw [e1,e2];simp
  by_cases h3:j.State=3
  · obtain ⟨q1,q2,q3⟩:=hok.rn h3
    have hin: ∀k:Nat,hasB j.Nodes k=true→hasB c.N.used k=true:=fun k hk=>by rw [h.us];exact used_of hj h3 hk
    have hz:minusS j.Nodes c.N.used=0:=by
      refine bits_ext (U64_minus hok.un) U64.zero fun k _=>?_
      rw [hasB_minus hok.un h.cw.2.1.2.1,hasB_zero]
      cases hk:hasB j.Nodes k with
      |false=>rfl
      |true=>rw [hin k hk];rfl
    have hg:giveN c.N j.Nodes=((lenS (minusS j.Nodes c.N.drain),0),{c.N with used:=minusS c.N.used j.Nodes}):=by
      unfold giveN;rw [if_neg (by rw [hz];simp)]
    have hback:lenS (minusS j.Nodes c.N.drain)=cntN (fun k=>hasB j.Nodes k&&!dr c k) n:=by
      rw [lenS_cut (U64_minus hok.un) h64 fun k hk=>by
        rw [hasB_minus hok.un h.cw.2.1.2.2.1] at hk
        simp only [Bool.and_eq_true] at hk
        exact q3 k hk.1]
      exact cntN_congr fun k _=>hasB_minus hok.un h.cw.2.1.2.2.1 k
    have hb0:0≤lenS (minusS j.Nodes c.N.drain)∧lenS (minusS j.Nodes c.N.drain)≤n:=by
      rw [hback];exact ⟨cntN_nonneg _ _,cntN_le _ _⟩
    have hmt:Match (if 0<lenS (minusS j.Nodes c.N.drain) then (addP c.P (nowC c) j.End (lenS (minusS j.Nodes c.N.drain))).2 else c.P) (nowC c) (reqF n (dr c) (c.J.jobs.set i b)):=by
      split
      · refine (h.mt.add (by omega) (Int.le_refl _) (by omega) (by have:=hok.en;omega) (by omega) h.bound (fun t ht=>⟨hge t ht,by have:=hle t;omega⟩) fun t ht=>?_).1
        rw [hr t]
        congr 1
        unfold takeJ
        rw [if_pos h3,←hback]
        by_cases hc:t<j.End
        · rw [if_pos hc,if_pos ⟨ht,.inl hc⟩]
        · rw [if_neg hc,if_neg (by have:=hok.en;omega)]
      · refine h.mt.congr fun t ht=>?_
        rw [hr t]
        unfold takeJ
        rw [if_pos h3,←hback]
        split<;>omega
    refine ⟨{c.N with used:=minusS c.N.used j.Nodes},_,rfl,rfl,hmt.nw,fun _=>by rw [hg];exact ⟨rfl,rfl⟩,fun e=>absurd h3 e,?_⟩
    refine h.set (b:=b) hj b3 hb rfl rfl (U64_minus h.cw.2.1.2.1) (fun k=>?_) (h.ap.less hj fun e=>by omega) hmt hge (by rw [hlv,hlw,h.lv]) (by rw [hlv];have:=h.l64;omega)
    simp only []
    rw [hasB_minus h.cw.2.1.2.1 hok.un,h.us]
    unfold usedL
    have hbr: ∀k:Int,runsOn k b=false:=fun k=>by
      have: ¬ st=3:=by omega
      unfold runsOn;rw [b1];simp [this]
    cases hk:hasB j.Nodes k with
    |false=>
      rw [any_set_same hj (by rw [hbr];simp [runsOn,hk])];simp
    |true=>
      have:(c.J.jobs.set i b).any (runsOn (k:Int))=false:=by
        rw [List.any_eq_false]
        intro x hx
        obtain ⟨p,hp⟩:=List.getElem?_of_mem hx
        by_cases hip:i=p
        · subst hip
          rw [List.getElem?_set_self (List.getElem?_eq_some_iff.1 hj).1] at hp
          cases hp;rw [hbr];decide
        · rw [List.getElem?_set_ne hip] at hp
          by_cases hx3:x.State=3
          · have:=h.ap i p j x hip hj hp h3 hx3 k hk
            simp [runsOn,this]
          · simp [runsOn,hx3]
      rw [this];simp
  · have hmt:Match (if plannedJ j=true then (addP c.P j.Plan (j.Plan+j.Limit) j.Width).2 else c.P) (nowC c) (reqF n (dr c) (c.J.jobs.set i b)):=by
      by_cases hp:plannedJ j=true
      · have hpi:=planned_iff.1 hp
        have hpl:=hok.plan hp
        rw [if_pos hp]
        refine (h.mt.add (by omega) hpl.1 (by omega) (by omega) (by omega) h.bound (fun t ht=>⟨hge t ht,by have:=hle t;omega⟩) fun t ht=>?_).1
        rw [hr t,take_planned hp (by omega)]
        congr 1
        by_cases hc:j.Plan≤t∧t<j.Plan+j.Limit
        · rw [if_pos hc,if_pos ⟨hc.1,.inl hc.2⟩]
        · rw [if_neg hc,if_neg (by omega)]
      · rw [if_neg hp]
        refine h.mt.congr fun t ht=>?_
        rw [hr t,take_rest (by simpa using hp) h3];omega
    refine ⟨c.N,_,rfl,rfl,hmt.nw,fun e=>absurd e h3,fun _=>⟨rfl,rfl⟩,?_⟩
    refine h.set (b:=b) hj b3 hb rfl rfl h.cw.2.1.2.1 (fun k=>?_) (h.ap.less hj fun e=>by omega) hmt hge (by rw [hlv,hlw,h.lv]) (by rw [hlv];have:=h.l64;omega)
    rw [h.us];unfold usedL
    rw [any_set_same hj]
    have: ¬ st=3:=by omega
    simp [runsOn,b1,h3,this]
end Go.Ax.Law
namespace Go.Ax.Law
open Go.Ax.O
theorem step_next {w:Work} {c:Core} (hd:w.done=false) (hc:w.commit=false) (hp:0<w.part):stepW w c=bump (serveW w c):=step_first hd hc (by omega)
theorem told_at {c:Core} {i:Nat} {j:Job} (hj:c.J.jobs[i]? =some j) {id:Int} (hid:id=(i:Int)+1):toldC c id=tellR j:=by
  unfold toldC;rw [getJ_at hj hid];rfl
theorem set_at {l:List Job} {i:Nat} {a b:Job} (h:l[i]? =some a):(l.set i b)[i]? =some b:=List.getElem?_set_self (List.getElem?_eq_some_iff.1 h).1
theorem finish_done {n:Nat} {c:Core} {m:Model} (h:Stb n c m) (hc:c.closed=false) {r:Req} (hk:r.Kind=2∨r.Kind=5):Done n (newW r) c (endM m r):=by
  have hd:=h.rep.deep
  have hst:=step_new (r:=r) hc
  have hk2:(newW r).req.Kind=r.Kind:=clean_kind r
  have hid2:(newW r).req.Id=r.Id:=cleanId (by omega)
  rw [serve25 (by omega)] at hst
  have hnw:=hd.nw
  have hL:m.L=c.J.jobs:=h.rep.jobs
  have hf0:finishW (newW r) c=(let w1:={newW r with job:=(getJ c.J.jobs r.Id).1}
      let f:=finishJ c.J r.Id (if r.Kind=2 then 5 else 4) (nowC c)
      if f.1≠0 then (failW w1 f.1,{c with J:=f.2}) else ({w1 with reply:=toldC {c with J:=f.2} r.Id},{c with J:=f.2})):=by
    unfold finishW
    rw [if_pos (show (newW r).part=0 from rfl),hk2,hid2]
  rw [hf0] at hst
  unfold endM
  generalize hsv:(if r.Kind=2 then 5 else 4:Int)=st at hst
  have hstv:st=4∨st=5:=by rw [←hsv];split<;>omega
  have hst5:st=5↔r.Kind=2:=by rw [←hsv];split<;>omega
  rcases getM_rep h.rep r.Id with ⟨g1,g2,g3,g4⟩ |⟨i,j,hid,hj,g2,g3⟩
  · have hf:finishJ c.J r.Id st (nowC c)=(7,c.J):=by
      unfold finishJ
      rw [if_neg (by omega),if_neg (by omega)]
      simp only [g4];rw [if_neg (by decide)]
    rw [g1,if_pos rfl]
    rw [hf] at hst
    simp only [] at hst
    rw [if_pos (by decide)] at hst
    exact Done.fail h rfl rfl ⟨rfl,rfl⟩ hst
  · have hok:=hd.jobs j (job_mem hj)
    rw [g3]
    simp only []
    rw [if_neg (by decide)]
    have hbad:(3<j.State∨r.Kind=5∧j.State≠3)↔(if st=5 then j.State≠3∧j.State≠1∧j.State≠2 else j.State≠3):=by
      have:=hok.st
      by_cases h5:st=5
      · rw [if_pos h5];have:=hst5.1 h5;omega
      · rw [if_neg h5];have: ¬ r.Kind=2:=fun e=>h5 (hst5.2 e);omega
    by_cases hb:3<j.State∨r.Kind=5∧j.State≠3
    · rw [if_pos hb]
      rw [finishJ_no hj hid hstv (by omega) (hbad.1 hb)] at hst
      simp only [] at hst
      rw [if_pos (by decide)] at hst
      exact Done.fail h rfl rfl ⟨rfl,rfl⟩ hst
    · rw [if_neg hb]
      have hs3:j.State≤3:=by omega
      have hgood:if st=5 then j.State=3∨j.State=1∨j.State=2 else j.State=3:=by
        have:=hok.st
        by_cases h5:st=5
        · rw [if_pos h5];omega
        · rw [if_neg h5];have: ¬ r.Kind=2:=fun e=>h5 (hst5.2 e);omega
      rw [finishJ_at hj hid hstv (by omega) hgood,g2] at hst
      simp only [] at hst
      rw [if_neg (by decide)] at hst
      obtain ⟨N',P',n1,n2,n3,n4,n5,n6⟩:=hd.finish hj hstv hs3
      have hme:(if r.Kind=5 then 4 else 5:Int)=st:=by
        rcases hk with hk |hk
        · rw [if_neg (by omega)];have:=hst5.2 hk;omega
        · rw [if_pos hk];have:st≠5:=fun e=>by have:=hst5.1 e;omega
          omega
      have hmb:({j with End:=if j.State=3 then m.Now else j.End,Plan:= -1,State:=if r.Kind=5 then 4 else 5}:Job)={j with End:=if j.State=3 then nowC c else j.End,State:=st,Plan:= -1}:=by rw [hme,h.rep.now]
      rw [hmb]
      have hrid:(r.Id-1).toNat=i:=by omega
      rw [hrid,hL]
      generalize hbd:({j with End:=if j.State=3 then nowC c else j.End,State:=st,Plan:= -1}:Job)=b at*
      have b1:b.State=st:=by rw [←hbd]
      have b2:b.Plan= -1:=by rw [←hbd]
      have htold:=told_at (c:={c with J:=⟨c.J.jobs.set i b,wr (c.J.live-1),c.J.made⟩}) (set_at hj) hid
      rw [htold] at hst
      generalize hc1:({c with J:=⟨c.J.jobs.set i b,wr (c.J.live-1),c.J.made⟩}:Core)=c1 at hst
      have hb1:=bump_eq (w:={newW r with job:=j,reply:=tellR b}) (c:=c1) ⟨by show (0:Int)≤0;decide,by show (0:Int)≤1000000;decide⟩
      have hst1:=hst.trans hb1
      simp only [] at hst1
      generalize hw1:({newW r with job:=j,reply:=tellR b,part:=(newW r).part+1}:Work)=w1 at hst1
      have p1:w1.part=1:=by rw [←hw1];rfl
      have j1:w1.job=j:=by rw [←hw1]
      have k1:w1.req.Kind=r.Kind:=by rw [←hw1];exact hk2
      have d1:w1.done=false:=by rw [←hw1];rfl
      have m1:w1.commit=false:=by rw [←hw1];rfl
      have o1:w1.ok=false:=by rw [←hw1];rfl
      have r1:w1.reply=tellR b:=by rw [←hw1]
      have hst2: ∃w2,stepW w1 c1=(w2,{c1 with N:=N'})∧w2.part=2∧w2.job=j∧w2.req.Kind=r.Kind∧w2.done=false∧w2.commit=false∧w2.ok=false∧w2.reply=tellR b∧(j.State=3→w2.back=(giveN c.N j.Nodes).1.1):=by
        have e:=step_next (c:=c1) d1 m1 (by omega)
        rw [serve25 (by omega)] at e
        unfold finishW at e
        rw [if_neg (by omega),if_pos p1,j1] at e
        have hcN:c1.N=c.N:=by rw [←hc1]
        by_cases h3:j.State=3
        · rw [if_pos h3,hcN,(n4 h3).1] at e
          refine ⟨_,e.trans (bump_eq (w:={w1 with job:=j,back:=(giveN c.N j.Nodes).1.1}) ⟨by simp only [p1];decide,by simp only [p1];decide⟩),?_,rfl,k1,d1,m1,o1,r1,fun _=>rfl⟩
          simp only [p1];rfl
        · rw [if_neg h3] at e
          have:c1={c1 with N:=N'}:=by rw [←(n5 h3).1,←hcN]
          rw [←this]
          refine ⟨_,e.trans (bump_eq ⟨by omega,by omega⟩),?_,j1,k1,d1,m1,o1,r1,fun e=>absurd e h3⟩
          simp only [p1];rfl
      obtain ⟨w2,e2,p2,j2,k2,d2,m2,o2,r2,q2⟩:=hst2
      have hst3: ∃w3,stepW w2 {c1 with N:=N'}=(w3,⟨⟨c.J.jobs.set i b,wr (c.J.live-1),c.J.made⟩,N',P',c.closed⟩)∧w3.done=true∧w3.ok=false∧w3.reply=tellR b∧w3.part≤1000:=by
        have e:=step_next (c:={c1 with N:=N'}) d2 m2 (by omega)
        rw [serve25 (by omega)] at e
        unfold finishW at e
        rw [if_neg (by omega),if_neg (by omega)] at e
        simp only [] at e
        have hcP:c1.P=c.P:=by rw [←hc1]
        have hcJ:c1.J=⟨c.J.jobs.set i b,wr (c.J.live-1),c.J.made⟩:=by rw [←hc1]
        have hcC:c1.closed=c.closed:=by rw [←hc1]
        have hcore:(if w2.job.State=3∧0<w2.back then addC (unplanC w2 {c1 with N:=N'}) (nowC (unplanC w2 {c1 with N:=N'})) w2.job.End w2.back else unplanC w2 {c1 with N:=N'})=⟨⟨c.J.jobs.set i b,wr (c.J.live-1),c.J.made⟩,N',P',c.closed⟩:=by
          by_cases h3:j.State=3
          · have hu:unplanC w2 {c1 with N:=N'}={c1 with N:=N'}:=by
              unfold unplanC;rw [planS_snd,j2,if_neg (by rw [planned_not.2 (.inl (by omega))];decide)]
            rw [hu,j2,q2 h3]
            have hn1:nowC {c1 with N:=N'}=nowC c:=by unfold nowC;rw [hcP]
            rw [hn1,←(n4 h3).2]
            by_cases hpos:0<(giveN c.N j.Nodes).1.1
            · rw [if_pos ⟨h3,hpos⟩,if_pos hpos]
              unfold addC;rw [hcP,hcJ,hcC]
            · rw [if_neg (fun g=>hpos g.2),if_neg hpos,←hcJ,←hcP,←hcC]
          · rw [j2,if_neg (fun g=>h3 g.1),←(n5 h3).2]
            unfold unplanC
            rw [planS_snd,j2]
            by_cases hp:plannedJ j=true
            · rw [if_pos hp,if_pos hp,planS_fst hp,hok.wrp hp]
              unfold releaseC addC;rw [hcP,hcJ,hcC]
            · rw [if_neg hp,if_neg hp,←hcJ,←hcP,←hcC]
        rw [hcore] at e
        refine ⟨_,e.trans (bump_eq (w:={w2 with done:=true}) ⟨by simp only [p2];decide,by simp only [p2];decide⟩),rfl,o2,r2,?_⟩
        simp only [p2];decide
      obtain ⟨w3,e3,d3,o3,r3,p3⟩:=hst3
      have hend:Ends w2 {c1 with N:=N'} 1 w3 _:=Ends.first e3 d3
      have hend:=Ends.next e2 d2 hend
      have hend:=Ends.next hst1 d1 hend
      have hbp:plannedJ b=false:=planned_not.2 (.inr (by omega))
      obtain ⟨f1,f2⟩:=fresh_set (i:=i) (b:=b) h.fe h.fp (by omega) hbp
      refine ⟨_,_,_,by omega,hend,o3,r3,p3,⟨n6,h.rep.len,rfl,?_,h.rep.closed,fun k hk=>?_⟩,?_,?_⟩
      · show m.Now=nowL P'.steps
        rw [n3];exact h.rep.now
      · have:=h.rep.dr k hk
        unfold dr;simp only [n2];exact this
      · show FreshE _ (nowL P'.steps)
        rw [n3];exact f1
      · show FreshP _ (nowL P'.steps)
        rw [n3];exact f2
end Go.Ax.Law
namespace Go.Ax.Law
open Go.Ax.O
theorem Deep.turn {n:Nat} {c:Core} (h:Deep n c) {i:Nat} {j b:Job} (hj:c.J.jobs[i]? =some j) (h3:j.State≠3) (b3:b.State≠3) (hid:b.Id=j.Id) (hnd:b.Nodes=j.Nodes) (hb:JobOK n (nowC c) b) (hlive:liveJ b=liveJ j) (hbp:plannedJ b=false):
    ∃P',nowL P'.steps=nowC c∧(if plannedJ j=true then (addP c.P j.Plan (j.Plan+j.Limit) j.Width).2 else c.P)=P'∧Deep n ⟨⟨c.J.jobs.set i b,c.J.live,c.J.made⟩,c.N,P',c.closed⟩:=by
  have hok:=h.jobs j (job_mem hj)
  have hjid:=id_at h.cw hj
  have hnw:=h.nw
  have hlm:=hok.lm
  have hwd:=hok.wd
  have hlen:=h.len
  have h64:=h.n64
  have hr: ∀t,reqF n (dr c) (c.J.jobs.set i b) t=reqF n (dr c) c.J.jobs t+takeJ n (dr c) t j:=fun t=>by
    rw [reqF_set hj,take_rest hbp b3];omega
  have hle: ∀t,reqF n (dr c) (c.J.jobs.set i b) t≤n:=fun t=>reqF_le (jobs_set h.jobs hb)
  have hge: ∀t,nowC c≤t→0≤reqF n (dr c) (c.J.jobs.set i b) t:=fun t ht=>by
    have:=h.nn t ht
    have:=takeJ_nonneg (d:=dr c) (t:=t) hok
    rw [hr];omega
  have hlv:liveN (c.J.jobs.set i b)=liveN c.J.jobs:=by rw [liveN_set hj,hlive];omega
  have hmt:Match (if plannedJ j=true then (addP c.P j.Plan (j.Plan+j.Limit) j.Width).2 else c.P) (nowC c) (reqF n (dr c) (c.J.jobs.set i b)):=by
    by_cases hp:plannedJ j=true
    · have hpi:=planned_iff.1 hp
      have hpl:=hok.plan hp
      rw [if_pos hp]
      refine (h.mt.add (by omega) hpl.1 (by omega) (by omega) (by omega) h.bound (fun t ht=>⟨hge t ht,by have:=hle t;omega⟩) fun t ht=>?_).1
      rw [hr t,take_planned hp (by omega)]
      congr 1
      by_cases hc:j.Plan≤t∧t<j.Plan+j.Limit
      · rw [if_pos hc,if_pos ⟨hc.1,.inl hc.2⟩]
      · rw [if_neg hc,if_neg (by omega)]
    · rw [if_neg hp]
      refine h.mt.congr fun t ht=>?_
      rw [hr t,take_rest (by simpa using hp) h3];omega
  refine ⟨_,hmt.nw,rfl,?_⟩
  refine h.set (b:=b) hj hid hb rfl rfl h.cw.2.1.2.1 (fun k=>?_) (h.ap.less hj fun e=>absurd e b3) hmt hge (by rw [hlv];exact h.lv) (by rw [hlv];exact h.l64)
  rw [h.us];unfold usedL
  rw [any_set_same hj]
  simp [runsOn,b3,h3]
theorem hold_done {n:Nat} {c:Core} {m:Model} (h:Stb n c m) (hc:c.closed=false) {r:Req} (hk:r.Kind=3):Done n (newW r) c (turnM m r):=by
  have hd:=h.rep.deep
  have hst:=step_new (r:=r) hc
  have hk2:(newW r).req.Kind=3:=(clean_kind r).trans hk
  have hid2:(newW r).req.Id=r.Id:=cleanId (by omega)
  rw [serve3 hk2] at hst
  have hnw:=hd.nw
  have hL:m.L=c.J.jobs:=h.rep.jobs
  unfold holdW at hst
  rw [if_neg (show ¬ 0<(newW r).part from by show ¬ (0:Int)<0;decide),hid2] at hst
  unfold turnM
  rcases getM_rep h.rep r.Id with ⟨g1,g2,g3,g4⟩ |⟨i,j,hid,hj,g2,g3⟩
  · have hf:holdJ c.J r.Id=(7,c.J):=by unfold holdJ;simp only [g4]
    rw [g1,if_pos rfl]
    rw [hf] at hst
    simp only [] at hst
    rw [if_pos (by decide)] at hst
    exact Done.fail h rfl rfl ⟨rfl,rfl⟩ hst
  · have hok:=hd.jobs j (job_mem hj)
    rw [g3]
    simp only []
    rw [if_neg (by decide)]
    by_cases h1:j.State=1
    · rw [if_neg (by omega),if_pos hk,if_neg (by omega)]
      have hf:holdJ c.J r.Id=(0,{c.J with jobs:=c.J.jobs.set i {j with State:=2,Plan:= -1}}):=by
        unfold holdJ;simp only [];rw [atJ_at hj hid,if_pos (by rw [h1];decide)]
      rw [hf,g2] at hst
      simp only [] at hst
      rw [if_neg (by decide)] at hst
      obtain ⟨P',n3,n4,n6⟩:=hd.turn (b:={j with State:=2,Plan:= -1}) hj (by omega) (by simp) rfl rfl ⟨by simp,hok.wd,hok.lm,.inl rfl,fun e=>by simp at e,hok.en,hok.un⟩ (by simp [liveJ,h1]) (by simp [plannedJ])
      have hrid:(r.Id-1).toNat=i:=by omega
      rw [hrid,hL]
      have hbp:plannedJ {j with State:=2,Plan:= -1}=false:=by simp [plannedJ]
      have htold:=told_at (c:={c with J:={c.J with jobs:=c.J.jobs.set i {j with State:=2,Plan:= -1}}}) (set_at hj) hid
      rw [htold] at hst
      have hst1:=hst.trans (bump_eq (w:={newW r with job:=j,reply:=tellR {j with State:=2,Plan:= -1}}) ⟨by show (0:Int)≤0;decide,by show (0:Int)≤1000000;decide⟩)
      simp only [] at hst1
      generalize hw1:({newW r with job:=j,reply:=tellR {j with State:=2,Plan:= -1},part:=(newW r).part+1}:Work)=w1 at hst1
      have p1:w1.part=1:=by rw [←hw1];rfl
      have j1:w1.job=j:=by rw [←hw1]
      have k1:w1.req.Kind=3:=by rw [←hw1];exact hk2
      have d1:w1.done=false:=by rw [←hw1];rfl
      have m1:w1.commit=false:=by rw [←hw1];rfl
      have o1:w1.ok=false:=by rw [←hw1];rfl
      have r1:w1.reply=tellR {j with State:=2,Plan:= -1}:=by rw [←hw1]
      have e:=step_next (c:={c with J:={c.J with jobs:=c.J.jobs.set i {j with State:=2,Plan:= -1}}}) d1 m1 (by omega)
      rw [serve3 k1] at e
      unfold holdW at e
      rw [if_pos (by omega)] at e
      have hcore:unplanC w1 {c with J:={c.J with jobs:=c.J.jobs.set i {j with State:=2,Plan:= -1}}}=⟨⟨c.J.jobs.set i {j with State:=2,Plan:= -1},c.J.live,c.J.made⟩,c.N,P',c.closed⟩:=by
        unfold unplanC
        rw [planS_snd,j1,←n4]
        by_cases hp:plannedJ j=true
        · rw [if_pos hp,if_pos hp,planS_fst hp,hok.wrp hp]
          rfl
        · rw [if_neg hp,if_neg hp]
      rw [hcore] at e
      have e2:=e.trans (bump_eq (w:={w1 with done:=true}) ⟨by simp only [p1];decide,by simp only [p1];decide⟩)
      have hend:=Ends.next hst1 d1 (Ends.first e2 rfl)
      obtain ⟨f1,f2⟩:=fresh_set (i:=i) (b:={j with State:=2,Plan:= -1}) h.fe h.fp (by simp) hbp
      refine ⟨_,_,_,by omega,hend,o1,r1,by simp only [p1];decide,⟨n6,h.rep.len,rfl,?_,h.rep.closed,h.rep.dr⟩,?_,?_⟩
      · show m.Now=nowL P'.steps
        rw [n3];exact h.rep.now
      · show FreshE _ (nowL P'.steps)
        rw [n3];exact f1
      · show FreshP _ (nowL P'.steps)
        rw [n3];exact f2
    · rw [if_pos (.inl ⟨hk,h1⟩)]
      have hf:holdJ c.J r.Id=(8,c.J):=by
        unfold holdJ;simp only [];rw [atJ_at hj hid,if_neg (by simp [h1])]
      rw [hf] at hst
      simp only [] at hst
      rw [if_pos (by decide)] at hst
      exact Done.fail h rfl rfl ⟨rfl,rfl⟩ hst
theorem free_done {n:Nat} {c:Core} {m:Model} (h:Stb n c m) (hc:c.closed=false) {r:Req} (hk:r.Kind=4):Done n (newW r) c (turnM m r):=by
  have hd:=h.rep.deep
  have hst:=step_new (r:=r) hc
  have hk2:(newW r).req.Kind=4:=(clean_kind r).trans hk
  have hid2:(newW r).req.Id=r.Id:=cleanId (by omega)
  rw [serve4 hk2] at hst
  have hnw:=hd.nw
  have hL:m.L=c.J.jobs:=h.rep.jobs
  unfold freeW at hst
  rw [if_neg (show ¬ 0<(newW r).part from by show ¬ (0:Int)<0;decide),hid2] at hst
  unfold turnM
  rcases getM_rep h.rep r.Id with ⟨g1,g2,g3,g4⟩ |⟨i,j,hid,hj,g2,g3⟩
  · have hf:freeJ c.J r.Id=(7,c.J):=by unfold freeJ;simp only [g4]
    rw [g1,if_pos rfl]
    rw [hf] at hst
    simp only [] at hst
    rw [if_pos (by decide)] at hst
    exact Done.fail h rfl rfl ⟨rfl,rfl⟩ hst
  · have hok:=hd.jobs j (job_mem hj)
    have hjid:=id_at hd.cw hj
    rw [g3]
    simp only []
    rw [if_neg (by decide)]
    by_cases h2:j.State=2
    · rw [if_neg (by omega),if_neg (by omega),if_pos hk,if_pos hk]
      have hplan:j.Plan= -1:=by rcases hok.pl with e |e<;>omega
      have hf:freeJ c.J r.Id=(0,{c.J with jobs:=c.J.jobs.set i {j with State:=1}}):=by
        unfold freeJ;simp only [];rw [atJ_at hj hid,if_pos (by rw [h2];decide)]
      rw [hf] at hst
      simp only [] at hst
      rw [if_neg (by decide)] at hst
      have hbp:plannedJ {j with State:=1}=false:=planned_not.2 (.inr (by simp only [];omega))
      obtain ⟨P',n3,n4,n6⟩:=hd.turn (b:={j with State:=1}) hj (by omega) (by simp) rfl rfl ⟨by simp,hok.wd,hok.lm,.inl hplan,fun e=>by simp at e,hok.en,hok.un⟩ (by simp [liveJ,h2]) hbp
      rw [if_neg (by rw [planned_not.2 (.inl (by omega))];decide)] at n4
      subst n4
      have hrid:(r.Id-1).toNat=i:=by omega
      rw [hrid,hL]
      have htold:=told_at (c:={c with J:={c.J with jobs:=c.J.jobs.set i {j with State:=1}}}) (set_at hj) hid
      have hget:=getJ_at (set_at (b:={j with State:=1}) hj) hid
      rw [htold,hget] at hst
      have hst1:=hst.trans (bump_eq (w:={newW r with job:={j with State:=1},reply:=tellR {j with State:=1}}) ⟨by show (0:Int)≤0;decide,by show (0:Int)≤1000000;decide⟩)
      simp only [] at hst1
      obtain ⟨f1,f2⟩:=fresh_set (i:=i) (b:={j with State:=1}) h.fe h.fp (by simp) hbp
      have hrep:Stb n {c with J:={c.J with jobs:=c.J.jobs.set i {j with State:=1}}} {m with L:=c.J.jobs.set i {j with State:=1}}:=
        ⟨⟨n6,h.rep.len,rfl,h.rep.now,h.rep.closed,h.rep.dr⟩,f1,f2⟩
      obtain ⟨k,w',c',b1,b2,b3,b4,b5,b6⟩:=hrep.drops (w:={newW r with job:={j with State:=1},reply:=tellR {j with State:=1},part:=(newW r).part+1}) rfl rfl rfl ⟨by show (0:Int)<1;decide,by show (1:Int)≤10;decide⟩ (.inr hk2) (by simp only [];omega)
      exact ⟨k+1,w',c',by omega,Ends.next hst1 rfl b2,b3,by rw [b4],b5,b6⟩
    · rw [if_pos (.inr ⟨hk,h2⟩)]
      have hf:freeJ c.J r.Id=(8,c.J):=by
        unfold freeJ;simp only [];rw [atJ_at hj hid,if_neg (by simp [h2])]
      rw [hf] at hst
      simp only [] at hst
      rw [if_pos (by decide)] at hst
      exact Done.fail h rfl rfl ⟨rfl,rfl⟩ hst
theorem Done.once {n:Nat} {w:Work} {c c':Core} {m:Model} {e:Reply} (hp:w.part=0) (hok:w.ok=false) (hst:stepW w c=bump (endW w e,c')) (h:Stb n c' m):Done n w c (e,m):=
  ⟨1,_,_,by omega,Ends.first hst rfl,hok,rfl,by show wr (w.part+1)≤1000;rw [hp];decide,h⟩
theorem query_done {n:Nat} {c:Core} {m:Model} (h:Stb n c m) (hc:c.closed=false) {r:Req} (hk:r.Kind=6):Done n (newW r) c (turnM m r):=by
  have hst:=step_new (r:=r) hc
  have hk2:(newW r).req.Kind=6:=(clean_kind r).trans hk
  have hid2:(newW r).req.Id=r.Id:=cleanId (by omega)
  have hL:m.L=c.J.jobs:=h.rep.jobs
  rw [serve6 hk2,hid2] at hst
  unfold turnM
  rcases getM_rep h.rep r.Id with ⟨g1,g2,g3,g4⟩ |⟨i,j,hid,hj,g2,g3⟩
  · rw [g1,if_pos rfl]
    have:toldC c r.Id=failR 7:=by unfold toldC;rw [g2,if_neg (by decide)]
    rw [this] at hst
    exact Done.once rfl rfl hst h
  · rw [g3]
    simp only []
    rw [if_neg (by decide),if_neg (by omega),if_neg (by omega),if_neg (by omega),if_neg (by omega)]
    have hrid:(r.Id-1).toNat=i:=by omega
    rw [told_at hj hid] at hst
    rw [hrid,hL,set_self hj,←hL]
    exact Done.once rfl rfl hst h
end Go.Ax.Law
