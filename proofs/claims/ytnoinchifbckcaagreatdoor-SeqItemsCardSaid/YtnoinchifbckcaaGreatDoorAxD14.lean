import Derived.Test.YtnoinchifbckcaaGreatDoorAxD13
set_option linter.all false
namespace Go.Ax.Law
open Go.Ax.O
theorem step_settle {w:Work} {c:Core} (hd:w.done=false) (hc:w.commit=true) (h0: ¬ (w.part=0∧c.closed=true)):stepW w c=bump (settleW w c):=by
  unfold stepW bump
  simp only [hd,hc,h0,if_false,if_true,Bool.false_eq_true]
theorem begin_plain {c:Core} {i:Nat} {a:Job} (ha:c.J.jobs[i]? =some a) (hid:a.Id=(i:Int)+1) (h1:a.State=1) (hw:1≤a.Width) (hl:a.Width≤lenS (idleN c.N)) (hn:0≤nowC c∧nowC c≤1099511627776) (hlm:1≤a.Limit∧a.Limit≤1048576):
    beginC c a=⟨⟨c.J.jobs.set i (beganJ c a),c.J.live,c.J.made⟩,{c.N with used:=unionS c.N.used (nodesFor c a.Width)},c.P,c.closed⟩:=by
  have hf:firstS (idleN c.N) a.Width=(nodesFor c a.Width,true):=by
    unfold firstS nodesFor;rw [if_neg (by omega)]
  have ht:takeN c.N a.Width=((nodesFor c a.Width,0),{c.N with used:=unionS c.N.used (nodesFor c a.Width)}):=by
    unfold takeN;rw [if_neg (by omega),hf];simp
  unfold beginC
  rw [ht]
  simp only [if_true]
  have hb:(beginJ c.J a.Id (nowC c) (nodesFor c a.Width)).2=⟨c.J.jobs.set i (beganJ c a),c.J.live,c.J.made⟩:=by
    unfold beginJ
    rw [if_neg (by omega)]
    simp only []
    rw [atJ_at ha hid,if_pos (by rw [h1];decide),wr_in (by omega)]
    rfl
  rw [hb]
def DoneX (n:Nat) (w:Work) (c:Core) (r:Bool × Model):Prop:= ∃k w' c',k≤4∧Ends w c k w' c'∧w'.ok=r.1∧w'.part≤1000∧Stb n c' r.2
theorem commit_done {n:Nat} {c:Core} {m:Model} (h:Stb n c m) (x:Choice):DoneX n (newX x) c (commitM m x)∧fitsC c x=(commitM m x).1:=by
  have hd:=h.rep.deep
  have hnw:=hd.nw
  have hfs:=fits_same h x
  have hcm1:(commitM m x).1=fitsM m x:=by
    unfold commitM
    cases fitsM m x with
    |false=>rfl
    |true=>simp only [Bool.true_eq_false,if_false];split<;>rfl
  refine ⟨?_,by rw [hcm1];exact hfs⟩
  cases hcl:c.closed with
  |true=>
    have hst:stepW (newX x) c=bump (failW (newX x) 12,c):=by
      unfold stepW bump
      rw [if_neg (show ¬ (newX x).done=true by show ¬ false=true;decide)]
      simp only []
      rw [if_pos ⟨rfl,hcl⟩]
    have hf:fitsM m x=false:=by
      unfold fitsM;simp only [];rw [if_pos (.inl (h.rep.closed.trans hcl))]
    have hcm:commitM m x=(false,m):=by unfold commitM;rw [if_pos hf]
    rw [hcm]
    exact ⟨1,_,_,by omega,Ends.first hst rfl,rfl,by show wr ((0:Int)+1)≤1000;decide,h⟩
  |false=>
    have hst:=step_settle (w:=newX x) (c:=c) rfl rfl (by rw [hcl];simp)
    unfold settleW at hst
    rw [if_pos (show (newX x).part=0 from rfl)] at hst
    have hch:(newX x).choice=x:=rfl
    rw [hch] at hst
    simp only [] at hst
    cases hf:fitsC c x with
    |false=>
      rw [hf] at hst hfs
      rw [if_pos rfl] at hst
      have hcm:commitM m x=(false,m):=by unfold commitM;rw [if_pos hfs.symm]
      rw [hcm]
      exact ⟨1,_,_,by omega,Ends.first hst rfl,rfl,by show wr ((0:Int)+1)≤1000;decide,h⟩
    |true=>
      rw [hf] at hst hfs
      rw [if_neg (by decide)] at hst
      obtain ⟨i,j,hid,hj,g2,g3,h1,hat0,hat1,hpl,hroom⟩: ∃(i:Nat) (j:Job),x.Id=(i:Int)+1∧c.J.jobs[i]? =some j∧getJ c.J.jobs x.Id=(j,0)∧getM m x.Id=(j,true)∧j.State=1∧nowC c≤x.At∧x.At≤1099511627776∧ ¬ (0≤j.Plan∧j.Plan≤x.At)∧
          j.Width≤leastL (if (planS j).2 then (addP c.P (planS j).1.From (planS j).1.To (planS j).1.Width).2 else c.P).steps x.At (wr (x.At+j.Limit)):=by
        rcases getM_rep h.rep x.Id with ⟨g1,g2,g3,g4⟩ |⟨i,j,hid,hj,g2,g3⟩
        · exfalso
          unfold fitsC at hf
          rw [hcl,g2] at hf
          simp at hf
        · unfold fitsC at hf
          rw [hcl,g2] at hf
          simp only [Bool.false_eq_true,if_false] at hf
          split at hf
          · cases hf
          · rename_i hc
            exact ⟨i,j,hid,hj,g2,g3,by omega,by omega,by omega,by omega,by simpa using hf⟩
      have hok:=hd.jobs j (job_mem hj)
      have hwd:=hok.wd
      have hlm:=hok.lm
      have h64:=hd.n64
      have hjid:=id_at hd.cw hj
      have hb:JobOK n (nowC c) {j with Plan:= -1}:=⟨hok.st,hok.wd,hok.lm,.inl rfl,fun h3=>by simp only [] at h3;omega,hok.en,hok.un⟩
      have hnp:plannedJ {j with Plan:= -1}=false:=by simp [plannedJ]
      obtain ⟨P',n3,n4,n6⟩:=hd.turn (b:={j with Plan:= -1}) hj (by omega) (by simp only [];omega) rfl rfl hb rfl hnp
      have hP:(if (planS j).2=true then (addP c.P (planS j).1.From (planS j).1.To (planS j).1.Width).2 else c.P)=P':=by
        rw [planS_snd,←n4]
        by_cases hp:plannedJ j=true
        · rw [if_pos hp,if_pos hp,planS_fst hp,hok.wrp hp]
        · rw [if_neg hp,if_neg hp]
      rw [hP,wr_in (by omega)] at hroom
      have hnow0:nowC (⟨⟨c.J.jobs.set i {j with Plan:= -1},c.J.live,c.J.made⟩,c.N,P',c.closed⟩:Core)=nowC c:=n3
      have hmt:=n6.mt
      rw [hnow0] at hmt
      have hlen0:=n6.len
      simp only [] at hlen0
      have hfree:=(least_iff (w:=j.Width) (t:=x.At+j.Limit) hmt.pw.2.1 hmt.pw.1 (f:=x.At) (by rw [hmt.nw];omega) (by omega)).1 hroom
      have hbb:JobOK n (nowC c) {j with Plan:=x.At}:=⟨hok.st,hok.wd,hok.lm,.inr ⟨h1,hat0,hat1⟩,fun h3=>by simp only [] at h3;omega,hok.en,hok.un⟩
      have hpp:plannedJ {j with Plan:=x.At}=true:=planned_iff.2 ⟨h1,by simp only [];omega⟩
      have hset:(c.J.jobs.set i {j with Plan:= -1}).set i {j with Plan:=x.At}=c.J.jobs.set i {j with Plan:=x.At}:=by simp
      have hr: ∀t,reqF n (dr c) (c.J.jobs.set i {j with Plan:=x.At}) t=reqF n (dr c) (c.J.jobs.set i {j with Plan:= -1}) t-(if x.At≤t∧t<x.At+j.Limit then j.Width else 0):=fun t=>by
        rw [←hset,reqF_set (set_at hj),take_rest hnp (by simp only [];omega),take_planned hpp (by simp only [];omega)]
        simp only [];omega
      have hge: ∀t,nowC c≤t→0≤reqF n (dr c) (c.J.jobs.set i {j with Plan:=x.At}) t:=fun t ht=>by
        rw [hr]
        have h0:=n6.nn t (by rw [hnow0];exact ht)
        simp only [] at h0
        have h0:0≤reqF n (dr c) (c.J.jobs.set i {j with Plan:= -1}) t:=h0
        split
        · rename_i hc
          have:=hfree t hc.1 hc.2
          rw [hmt.fr t ht] at this
          have:j.Width≤reqF n (dr c) (c.J.jobs.set i {j with Plan:= -1}) t:=this
          omega
        · omega
      have hbd: ∀t,nowC c≤t→0≤reqF n (dr c) (c.J.jobs.set i {j with Plan:= -1}) t∧reqF n (dr c) (c.J.jobs.set i {j with Plan:= -1}) t≤64:=fun t ht=>by
        have:=n6.bound t (by rw [hnow0];exact ht)
        exact this
      have hle: ∀t,reqF n (dr c) (c.J.jobs.set i {j with Plan:=x.At}) t≤n:=fun t=>reqF_le (jobs_set hd.jobs hbb)
      have hneg:wr (0-j.Width)= -j.Width:=by rw [wr_in (by omega)];omega
      obtain ⟨hm2,hlen2⟩:=hmt.add (p:=P') (g:=reqF n (dr c) (c.J.jobs.set i {j with Plan:=x.At})) (from_:=x.At) (to:=x.At+j.Limit) (n:= -j.Width) (by omega) hat0 (by omega) (by omega) (by omega) hbd (fun t ht=>⟨hge t ht,by have:=hle t;omega⟩) (fun t ht=>by
        rw [hr]
        show _=reqF n (dr c) (c.J.jobs.set i {j with Plan:= -1}) t+_
        by_cases hc:x.At≤t∧t<x.At+j.Limit
        · rw [if_pos hc,if_pos ⟨hc.1,.inl hc.2⟩];omega
        · rw [if_neg hc,if_neg (by omega)];omega)
      have hlvb:liveN (c.J.jobs.set i {j with Plan:=x.At})=liveN c.J.jobs:=by
        rw [liveN_set hj]
        have:liveJ {j with Plan:=x.At}=liveJ j:=rfl
        rw [this];omega
      have hDv:=hd.set (b:={j with Plan:=x.At}) (cl:=c.closed) (live':=c.J.live) hj rfl hbb rfl rfl hd.cw.2.1.2.1 (fun k=>by
        rw [hd.us];unfold usedL;rw [any_set_same hj];simp [runsOn]) (hd.ap.less hj fun h3=>⟨h3,rfl⟩) hm2 hge (by rw [hlvb];exact hd.lv) (by rw [hlvb];exact hd.l64)
      generalize hP2:(addP P' x.At (x.At+j.Limit) (-j.Width)).2=P2 at*
      have hnow2:nowL P2.steps=nowC c:=hm2.nw
      have hrepv:Rep n ⟨⟨c.J.jobs.set i {j with Plan:=x.At},c.J.live,c.J.made⟩,c.N,P2,c.closed⟩ {m with L:=m.L.set i {j with Plan:=x.At}}:=
        ⟨hDv,h.rep.len,by simp only [h.rep.jobs],by show m.Now=nowL P2.steps;rw [hnow2];exact h.rep.now,h.rep.closed,h.rep.dr⟩
      have hEv:FreshE (c.J.jobs.set i {j with Plan:=x.At}) (nowC c):=fun y hy h3=>by
        rcases List.mem_or_eq_of_mem_set hy with hy |rfl
        · exact h.fe y hy h3
        · simp only [] at h3;omega
      rw [g2] at hst
      have hst1:=hst.trans (bump_eq (w:={newX x with ok:=true,job:=j}) ⟨by show (0:Int)≤0;decide,by show (0:Int)≤1000000;decide⟩)
      simp only [] at hst1
      generalize hw1:({newX x with ok:=true,job:=j,part:=(newX x).part+1}:Work)=w1 at hst1
      have p1:w1.part=1:=by rw [←hw1];rfl
      have j1:w1.job=j:=by rw [←hw1]
      have x1:w1.choice=x:=by rw [←hw1];rfl
      have d1:w1.done=false:=by rw [←hw1];rfl
      have m1:w1.commit=true:=by rw [←hw1];rfl
      have o1:w1.ok=true:=by rw [←hw1]
      have e2:=step_settle (w:=w1) (c:=c) d1 m1 (by omega)
      unfold settleW at e2
      rw [if_neg (by omega),if_pos p1] at e2
      have hun:unplanC w1 c={c with P:=P'}:=by
        unfold unplanC
        rw [j1,planS_snd,←n4]
        by_cases hp:plannedJ j=true
        · rw [if_pos hp,if_pos hp,planS_fst hp,hok.wrp hp];rfl
        · rw [if_neg hp,if_neg hp]
      rw [hun] at e2
      have e2:=e2.trans (bump_eq ⟨by omega,by omega⟩)
      have e3:=step_settle (w:={w1 with part:=w1.part+1}) (c:={c with P:=P'}) d1 m1 (by simp only [];omega)
      unfold settleW at e3
      rw [if_neg (by simp only [];omega),if_neg (by simp only [];omega),if_pos (by simp only [];omega)] at e3
      simp only [j1,x1] at e3
      have hadd:addC {c with P:=P'} x.At (wr (x.At+j.Limit)) (wr (0-j.Width))={c with P:=P2}:=by
        unfold addC
        rw [wr_in (by omega),hneg,←hP2]
      rw [hadd] at e3
      have e3:=e3.trans (bump_eq (w:={w1 with part:=w1.part+1,job:=j,choice:=x}) ⟨by simp only [];omega,by simp only [];omega⟩)
      have hsame:({w1 with part:=w1.part+1}:Work)={w1 with part:=w1.part+1,job:=j,choice:=x}:=by rw [←j1,←x1]
      rw [hsame] at e2
      have e4:=step_settle (w:={w1 with part:=w1.part+1+1,job:=j,choice:=x}) (c:={c with P:=P2}) d1 m1 (by simp only [];omega)
      unfold settleW at e4
      rw [if_neg (by simp only [];omega),if_neg (by simp only [];omega),if_neg (by simp only [];omega)] at e4
      simp only [] at e4
      have hnow3:nowC {c with P:=P2}=nowC c:=hnow2
      rw [hnow3] at e4
      have e4:=e4.trans (bump_eq (w:={w1 with part:=w1.part+1+1,job:=j,choice:=x,done:=true}) ⟨by simp only [];omega,by simp only [];omega⟩)
      have hend:=Ends.next hst1 d1 (Ends.next e2 d1 (Ends.next e3 d1 (Ends.first e4 rfl)))
      have hfm:fitsM m x=true:=hfs.symm
      unfold commitM
      rw [hfm,if_neg (by decide)]
      have hidn:(x.Id-1).toNat=i:=by omega
      by_cases hnow:x.At=nowC c
      · rw [if_pos (by rw [h.rep.now];exact hnow)]
        rw [if_pos hnow] at hend
        have hnv:nowC (⟨⟨c.J.jobs.set i {j with Plan:=x.At},c.J.live,c.J.made⟩,c.N,P2,c.closed⟩:Core)=nowC c:=hnow2
        have hbg:=hrepv.begin (i:=i) (a:={j with Plan:=x.At}) (by rw [hnv];exact hEv) (set_at hj) h1 (by rw [hnv];exact hnow)
        obtain ⟨b1,b2,b3,b4⟩:=hbg
        have hidl:=(hDv.begin (by rw [hnv];exact hEv) (set_at hj) h1 (by rw [hnv];exact hnow)).1
        have q1:=begin_plain (c:={c with P:=P2}) hj hjid h1 hwd.1 hidl (by rw [hnow3];exact hnw) hlm
        have q2:=begin_plain (c:=⟨⟨c.J.jobs.set i {j with Plan:=x.At},c.J.live,c.J.made⟩,c.N,P2,c.closed⟩) (a:={j with Plan:=x.At}) (set_at hj) hjid h1 hwd.1 hidl (by rw [hnv];exact hnw) hlm
        have hsm:beginC {c with P:=P2} j=beginC ⟨⟨c.J.jobs.set i {j with Plan:=x.At},c.J.live,c.J.made⟩,c.N,P2,c.closed⟩ {j with Plan:=x.At}:=by
          rw [q1,q2]
          simp only [List.set_set]
          rfl
        rw [hsm] at hend
        have hmm:beginM {m with L:=m.L.set i {j with Plan:=x.At}} i=beginM m (x.Id-1):=by
          unfold beginM
          rw [Int.toNat_natCast,hidn]
          simp only []
          rw [set_at (by rw [h.rep.jobs];exact hj),h.rep.jobs,hj]
          simp only [List.set_set]
          have him:idleM {m with L:=c.J.jobs.set i {j with Plan:=x.At}}=idleM m:=by
            funext k
            unfold idleM
            have a:=hrepv.state k
            have b:=h.rep.state k
            rw [h.rep.jobs] at a
            rw [a,b]
          unfold beginJm
          simp only [him]
        rw [hmm] at b1
        refine ⟨4,_,_,Nat.le_refl _,hend,o1,by simp only [];omega,⟨b1,?_,?_⟩⟩
        · rw [b3,hnv,b2]
          simp only [List.set_set]
          intro y hy h3
          rcases List.mem_or_eq_of_mem_set hy with hy |rfl
          · exact h.fe y hy h3
          · simp only [beganJ];rw [hnv];omega
        · rw [b3,hnv,b2]
          simp only [List.set_set]
          intro y hy hp
          rcases List.mem_or_eq_of_mem_set hy with hy |rfl
          · exact h.fp y hy hp
          · simp [plannedJ,beganJ] at hp
      · rw [if_neg (by rw [h.rep.now];exact hnow)]
        rw [if_neg hnow] at hend
        have hsp:setPlanC {c with P:=P2} j.Id x.At=⟨⟨c.J.jobs.set i {j with Plan:=x.At},c.J.live,c.J.made⟩,c.N,P2,c.closed⟩:=by
          unfold setPlanC planJ
          rw [if_neg (by omega)]
          simp only []
          rw [atJ_at hj hjid,if_pos (by rw [h1];decide)]
        rw [hsp] at hend
        rw [g3,hidn]
        refine ⟨4,_,_,Nat.le_refl _,hend,o1,by simp only [];omega,⟨hrepv,?_,?_⟩⟩
        · show FreshE _ (nowL P2.steps)
          rw [hnow2];exact hEv
        · show FreshP _ (nowL P2.steps)
          rw [hnow2]
          intro y hy hp
          rcases List.mem_or_eq_of_mem_set hy with hy |rfl
          · exact h.fp y hy hp
          · simp only [];omega
theorem new_stb {n:Nat} (h1:1≤n) (h2:n≤64):Stb n (newCore n) (newM n):=by
  have hcw:=newCore_ok (n:=(n:Int)) (by omega) (by omega)
  have hnow:nowC (newCore n)=0:=rfl
  have hdr:dr (newCore n)=fun _=>false:=by funext k;exact hasB_zero k
  have hreq: ∀t,reqF n (dr (newCore n)) [] t=n:=fun t=>by
    rw [hdr]
    unfold reqF sumT
    have:cntN (fun _=>!false) n=n:=by
      clear hcw hdr hnow h1 h2
      induction n with
      |zero=>rfl
      |succ k ih=>simp only [cntN] at ih ⊢;rw [ih];simp
    rw [this];omega
  have hd:Deep n (newCore n):=by
    refine ⟨h1,h2,hcw,rfl,fun k hk=>?_,fun k=>?_,fun j hj=>(by cases hj),fun a b x y _ hx=>by simp [newCore,newJs] at hx,⟨hcw.2.2,rfl,trivial,fun t ht=>?_⟩,fun t ht=>?_,rfl,by show liveN []≤64;decide,by rw [hnow];decide⟩
    · rw [show (newCore n).N.drain=0 from rfl,hasB_zero] at hk;cases hk
    · rw [show (newCore n).N.used=0 from rfl,hasB_zero];rfl
    · rw [show (newCore n).J.jobs=[] from rfl,hreq]
      exact free_get (i:=0) (s:=⟨0,(n:Int)⟩) hcw.2.2.2.1 rfl ht (fun s' hs=>by simp [newCore,newP] at hs)
    · rw [show (newCore n).J.jobs=[] from rfl,hreq];omega
  refine ⟨⟨hd,by simp [newM],rfl,rfl,rfl,fun k hk=>?_⟩,fun j hj=>(by cases hj),fun j hj=>by cases hj⟩
  rw [hdr]
  unfold drainB newM
  simp [List.getD_eq_getElem?_getD,List.getElem?_replicate,hk]
def doDM (m:Model) (d:Deed):Model:=if d.Commit then (commitM m d.X).2 else (doM m d.R).2
theorem deed_stb {n:Nat} {c:Core} {m:Model} (h:Stb n c m) (d:Deed):Stb n (doD c d) (doDM m d):=by
  unfold doD wholeW deedW doDM
  cases hd:d.Commit with
  |true=>
    obtain ⟨⟨k,w',c',h1,h2,_,_,h5⟩,_⟩:=commit_done h d.X
    simp only [if_true]
    rw [h2.whole 1999 1 (by omega)]
    exact h5
  |false=>
    obtain ⟨k,w',c',h1,h2,_,_,_,h5⟩:=do_done h d.R
    simp only [Bool.false_eq_true,if_false]
    rw [h2.whole 1999 1 (by omega)]
    exact h5
theorem deeds_stb {n:Nat}: ∀(l:List Deed) {c:Core} {m:Model},Stb n c m→Stb n (l.foldl doD c) (l.foldl doDM m)
  | [],_,_,h=>h
  |d::r,_,_,h=>by
    simp only [List.foldl_cons]
    exact deeds_stb r (deed_stb h d)
theorem made_stb {n:Nat} (h1:1≤n) (h2:n≤64) (l:List Deed):Stb n (madeC n l) ((l.take 60).foldl doDM (newM n)):=deeds_stb _ (new_stb h1 h2)
end Go.Ax.Law
