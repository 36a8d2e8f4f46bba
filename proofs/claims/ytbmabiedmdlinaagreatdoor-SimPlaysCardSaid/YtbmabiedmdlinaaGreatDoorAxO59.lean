import Derived.Test.YtbmabiedmdlinaaGreatDoorAxO45
import Derived.Test.YtbmabiedmdlinaaGreatDoorAxO57
import Derived.Test.YtbmabiedmdlinaaGreatDoorAxV9
import Derived.Test.YtbmabiedmdlinaaGreatDoorAxV22
set_option linter.all false
namespace Go.Ax.Law
open Go.Ax.O
structure Mv (k:Nat) (m m':Model):Prop where
  now:m.Now≤m'.Now
  len:m'.L.length=m.L.length+k
  run: ∀b∈m'.L,b.State=3→(∃a∈m.L,a.State=3∧b.Start=a.Start)∨(m.Now≤b.Start∧b.Start≤m'.Now)
theorem Mv.refl (m:Model):Mv 0 m m:=⟨Int.le_refl _,rfl,fun b hb h=> .inl ⟨b,hb,h,rfl⟩⟩
theorem Mv.trans {k l:Nat} {a b c:Model} (h:Mv k a b) (g:Mv l b c):Mv (k+l) a c:=by
  refine ⟨Int.le_trans h.now g.now,by rw [g.len,h.len];omega,fun x hx h3=>?_⟩
  rcases g.run x hx h3 with ⟨y,hy,y3,e⟩ |⟨h1,h2⟩
  · rcases h.run y hy y3 with ⟨z,hz,z3,e2⟩ |⟨h1,h2⟩
    · exact .inl ⟨z,hz,z3,e.trans e2⟩
    · exact .inr ⟨by omega,by have:=g.now;omega⟩
  · exact .inr ⟨by have:=h.now;omega,h2⟩
theorem Mv.set {m m':Model} {i:Nat} {x:Job} (hn:m'.Now=m.Now) (hl:m'.L=m.L.set i x) (hx:x.State=3→(∃a∈m.L,a.State=3∧x.Start=a.Start)∨x.Start=m.Now):Mv 0 m m':=by
  refine ⟨by omega,by rw [hl];simp,fun b hb h3=>?_⟩
  rw [hl] at hb
  rcases List.mem_or_eq_of_mem_set hb with hb |rfl
  · exact .inl ⟨b,hb,h3,rfl⟩
  · rcases hx h3 with h |h
    · exact .inl h
    · exact .inr ⟨by omega,by omega⟩
theorem Mv.map {m m':Model} {f:Job→Job} (hn:m.Now≤m'.Now) (hl:m'.L=m.L.map f) (hf: ∀j,(f j).State=3→j.State=3∧(f j).Start=j.Start):Mv 0 m m':=by
  refine ⟨hn,by rw [hl];simp,fun b hb h3=>?_⟩
  rw [hl] at hb
  obtain ⟨a,ha,rfl⟩:=List.mem_map.1 hb
  exact .inl ⟨a,ha,hf a h3⟩
theorem Mv.drop (m:Model) (j:Job):Mv 0 m (dropM m j):=by
  refine Mv.map (f:=dropJ j) (Int.le_refl _) rfl fun q h=>?_
  unfold dropJ at h ⊢
  split at h<;>rename_i hc
  · rw [if_pos hc];exact ⟨h,rfl⟩
  · rw [if_neg hc];exact ⟨h,rfl⟩
theorem Mv.turn {m:Model} {j1:Job} {i:Nat} {b:Prop} [Decidable b] (hx:j1.State=3→ ∃a∈m.L,a.State=3∧j1.Start=a.Start):Mv 0 m (if b then dropM {m with L:=m.L.set i j1} j1 else {m with L:=m.L.set i j1}):=by
  have hset:Mv 0 m {m with L:=m.L.set i j1}:=Mv.set rfl rfl fun h=> .inl (hx h)
  split
  · exact hset.trans (Mv.drop _ _)
  · exact hset
theorem Mv.begin (m:Model) (i:Int):Mv 0 m (beginM m i):=by
  unfold beginM
  split
  · exact Mv.set rfl rfl fun _=> .inr rfl
  · exact Mv.refl m
theorem Mv.beginF: ∀(f:Nat) (m:Model),Mv 0 m (beginF f m)
  |0,m=>Mv.refl m
  |f+1,m=>by
    simp only [Law.beginF]
    split
    · exact (Mv.begin m _).trans (Mv.beginF f _)
    · exact Mv.beginF f m
theorem Mv.happen (m:Model):Mv 0 m (happenM m):=by
  unfold happenM
  refine Mv.trans (k:=0) (l:=0) (b:={m with L:=m.L.map (overJ m.Now)}) (Mv.map (f:=overJ m.Now) (Int.le_refl _) rfl fun j h=>?_) (Mv.beginF _ _)
  unfold overJ at h ⊢
  split at h
  · simp at h
  · rename_i hc;rw [if_neg hc];exact ⟨h,rfl⟩
theorem next_ge {now:Int}: ∀(l:List Job) {b:Int},(b<0∨now≤b)→l.foldl (next1 now) b<0∨now≤l.foldl (next1 now) b
  | [],b,h=>h
  |j::l,b,h=>by
    refine next_ge l ?_
    have hs: ∀(c t:Int),(c<0∨now≤c)→sooner c t now<0∨now≤sooner c t now:=fun c t hc=>by
      unfold sooner
      grind
    unfold next1
    simp only []
    split
    · exact hs _ _ (by split;· exact hs _ _ h
                       · exact h)
    · split
      · exact hs _ _ h
      · exact h
theorem Mv.tickF (to:Int): ∀(f:Nat) (m:Model),Mv 0 m (tickF f to m)
  |0,m=>Mv.refl m
  |f+1,m=>by
    simp only [Law.tickF]
    split
    · exact Mv.refl m
    · rename_i hn
      have hg:m.Now≤nextM m:=by
        rcases next_ge (now:=m.Now) m.L (b:= -1) (.inl (by decide)) with h |h
        · unfold nextM at hn;omega
        · exact h
      have h1:Mv 0 m {m with Now:=nextM m}:=⟨hg,rfl,fun b hb h=> .inl ⟨b,hb,h,rfl⟩⟩
      exact (h1.trans (Mv.happen _)).trans (Mv.tickF to f _)
theorem tickF_now (to:Int): ∀(f:Nat) (m:Model),m.Now≤to→(tickF f to m).Now≤to
  |0,m,h=>h
  |f+1,m,h=>by
    simp only [Law.tickF]
    split
    · exact h
    · refine tickF_now to f _ ?_
      have: ∀(g:Nat) (q:Model),(Law.beginF g q).Now=q.Now:=by
        intro g
        induction g with
        |zero=>intro q;rfl
        |succ g ih=>
          intro q
          simp only [Law.beginF]
          rw [ih]
          split
          · unfold beginM;split<;>rfl
          · rfl
      unfold happenM
      rw [this]
      simp only []
      omega
theorem Mv.doM {m:Model} (r:Req): ∃k,Mv k m (doSM m r).2∧k=(if r.Kind=1∧(doSM m r).1.Err=0 then 1 else 0):=by
  have stay: ∀{p:Reply × Model},p.2=m→ ¬ (r.Kind=1∧p.1.Err=0)→ ∃k,Mv k m p.2∧k=(if r.Kind=1∧p.1.Err=0 then 1 else 0):=fun {p} h1 h2=>by
    rw [if_neg h2,h1];exact ⟨0,Mv.refl m,rfl⟩
  have go: ∀{p:Reply × Model},Mv 0 m p.2→r.Kind≠1→ ∃k,Mv k m p.2∧k=(if r.Kind=1∧p.1.Err=0 then 1 else 0):=fun {p} h1 h2=>by
    rw [if_neg (fun hh=>h2 hh.1)];exact ⟨0,h1,rfl⟩
  unfold doSM
  by_cases hk:isK r.Kind=true
  case neg=>
    rw [if_neg hk]
    exact stay rfl (fun hh=>by simp [failR,reply0] at hh)
  rw [if_pos hk]
  unfold Law.doM
  by_cases hc:m.Closed=true
  · rw [if_pos hc];exact stay rfl (fun hh=>by simp [failR,reply0] at hh)
  rw [if_neg hc]
  by_cases h1:r.Kind=1
  · rw [if_pos h1]
    unfold submitM
    split
    · exact stay rfl (fun hh=>by simp [failR,reply0] at hh)
    split
    · exact stay rfl (fun hh=>by simp [failR,reply0] at hh)
    split
    · exact stay rfl (fun hh=>by simp [failR,reply0] at hh)
    split
    · exact stay rfl (fun hh=>by simp [failR,reply0] at hh)
    simp only []
    have ha:Mv 1 m {m with L:=m.L++[newJ m.L r]}:=by
      refine ⟨Int.le_refl _,by simp,fun b hb h=>?_⟩
      simp only [List.mem_append,List.mem_singleton] at hb
      rcases hb with hb |rfl
      · exact .inl ⟨b,hb,h,rfl⟩
      · exfalso
        unfold newJ at h
        split at h<;>simp at h
    refine ⟨1,?_,by simp [h1,tellR]⟩
    show Mv 1 m (if r.Held=true then _ else _)
    split
    · exact ha
    · exact ha.trans (Mv.drop _ _)
  rw [if_neg h1]
  split
  · refine go ?_ h1
    unfold endM
    simp only []
    split
    · exact Mv.refl m
    · split
      · exact Mv.refl m
      · refine Mv.set rfl rfl fun h=>?_
        simp only [] at h
        split at h<;>omega
  split
  · refine go ?_ h1
    unfold turnM
    simp only []
    split
    · exact Mv.refl m
    · rename_i hg
      have hget:(getM m r.Id).2=true:=by simpa using hg
      obtain ⟨_,_,g3⟩:=getM_some hget
      split
      · exact Mv.refl m
      · rename_i hns
        refine Mv.turn (fun h=>?_)
        split at h
        · simp at h
        · split at h
          · simp at h
          · rename_i k3 k4
            rw [if_neg k3,if_neg k4]
            exact ⟨_,List.mem_of_getElem? g3,h,rfl⟩
  split
  · refine go ?_ h1
    unfold nodeM
    split
    · exact Mv.refl m
    · split
      · exact Mv.refl m
      · simp only []
        have hd:Mv 0 m (if r.Kind=7 then dropM m job0 else m):=by
          split
          · exact Mv.drop _ _
          · exact Mv.refl m
        exact ⟨hd.now,hd.len,hd.run⟩
  split
  · refine go ?_ h1
    unfold tickM
    split
    · exact Mv.refl m
    · rename_i hb
      have ht:=Mv.tickF (m.Now+r.By) (2*m.L.length+1) m
      have hn:=tickF_now (m.Now+r.By) (2*m.L.length+1) m (by omega)
      refine ⟨by simp only [];omega,ht.len,fun b hb2 h=>?_⟩
      rcases ht.run b hb2 h with g |⟨g1,g2⟩
      · exact .inl g
      · exact .inr ⟨g1,by simp only [];omega⟩
  split
  · exact go (Mv.refl m) h1
  split
  · exact go (Mv.refl m) h1
  split
  · exact go (Mv.refl m) h1
  split
  · exact go ⟨Int.le_refl _,rfl,fun b hb h=> .inl ⟨b,hb,h,rfl⟩⟩ h1
  · exact go (Mv.refl m) h1
theorem Mv.com (m:Model) (x:Choice):Mv 0 m (commitM m x).2:=by
  unfold commitM
  cases hf:fitsM m x with
  |false=>exact Mv.refl m
  |true=>
    obtain ⟨i,j,h1,h2,h3,h4,h5,h6,h7⟩:=fitsM_some hf
    rw [if_neg (by decide)]
    split
    · exact Mv.begin m _
    · refine Mv.set rfl rfl fun h=>?_
      rw [h3] at h
      simp only [] at h
      omega
structure Mc (k:Nat) (c c':Core):Prop where
  now:nowC c≤nowC c'
  len:c'.J.jobs.length=c.J.jobs.length+k
  run: ∀b∈c'.J.jobs,b.State=3→(∃a∈c.J.jobs,a.State=3∧b.Start=a.Start)∨(nowC c≤b.Start∧b.Start≤nowC c')
theorem Mv.core {n k:Nat} {c c':Core} {m m':Model} (h:Stb n c m) (h':Stb n c' m') (g:Mv k m m'):Mc k c c':=by
  refine ⟨?_,?_,?_⟩
  · rw [←h.rep.now,←h'.rep.now];exact g.now
  · rw [←h.rep.jobs,←h'.rep.jobs];exact g.len
  · rw [←h.rep.jobs,←h'.rep.jobs,←h.rep.now,←h'.rep.now];exact g.run
theorem doS_mc {c:Core} (h:OkS c) (r:Req): ∃k,Mc k c (doS c r).2∧k=(if r.Kind=1∧(doS c r).1.Err=0 then 1 else 0):=by
  obtain ⟨n,m,h⟩:=h
  obtain ⟨h1,h2⟩:=doS_stb h r
  obtain ⟨k,g1,g2⟩:=Mv.doM (m:=m) r
  rw [h1]
  exact ⟨k,g1.core h h2,g2⟩
theorem pass_mv {n:Nat}: ∀(l:List Choice) {c:Core} {m:Model} (t:Int) (s:List Int),Stb n c m→ ∃m',Stb n (passF c t s l).1 m'∧Mv 0 m m'
  | [],c,m,t,s,h=>⟨m,h,Mv.refl m⟩
  |x::l,c,m,t,s,h=>by
    have h1:=(comS_next h x).1
    simp only [passF]
    split
    · obtain ⟨m',g1,g2⟩:=pass_mv l t s h1
      exact ⟨m',g1,(Mv.com m x).trans g2⟩
    · obtain ⟨m',g1,g2⟩:=pass_mv l _ _ h1
      exact ⟨m',g1,(Mv.com m x).trans g2⟩
theorem passS_mv {n:Nat} {c:Core} {m:Model} (h:Stb n c m) (d:Int): ∃m',Stb n (passS c d).2 m'∧Mv 0 m m':=by
  unfold passS
  split
  · exact ⟨m,h,Mv.refl m⟩
  · exact pass_mv _ _ _ h
theorem settle_mv {n:Nat} {d most:Int}: ∀(f:Nat) (k:Int) {c:Core} {m:Model},Stb n c m→ ∃m',Stb n (settleF d most f k c).2 m'∧Mv 0 m m'
  |0,k,c,m,h=>⟨m,h,Mv.refl m⟩
  |f+1,k,c,m,h=>by
    simp only [settleF]
    obtain ⟨m',g1,g2⟩:=passS_mv h d
    split
    · exact ⟨m,h,Mv.refl m⟩
    · split
      · exact ⟨m',g1,g2⟩
      · split
        · exact ⟨m',g1,g2⟩
        · obtain ⟨m2,g3,g4⟩:=settle_mv f (k+1) g1
          exact ⟨m2,g3,g2.trans g4⟩
theorem settle_mc {c:Core} (h:OkS c) (d most:Int):OkS (settleS c d most).2∧Mc 0 c (settleS c d most).2:=by
  obtain ⟨n,m,h⟩:=h
  obtain ⟨m',g1,g2⟩:=settle_mv (d:=d) (most:=most) most.toNat 1 h
  exact ⟨⟨n,m',g1⟩,g2.core h g1⟩
end Go.Ax.Law
namespace Go.Ax.Law
def forever:Int:=1152921504606846976
def clampF (v:Int):Int:=min (max v 0) forever
def addF (l:List Int):Int:=l.foldl (fun s v=>min (s+clampF v) forever) 0
def rightE (e:Entry):Bool:=decide (0≤e.At)&&(decide (e.At≤549755813888)&&(decide (1≤e.Run)&&(decide (1≤e.Limit)&&(decide (e.Limit≤1048576)&&(decide (e.Run≤2097152)&&(decide (1≤e.Width)&&(decide (e.Width≤64)&&(decide (0≤e.User)&&(decide (e.User≤255)&&(decide (0≤e.Prio)&&decide (e.Prio≤1000)))))))))))
def reqE (e:Entry):Req:=⟨1,0,e.User,e.Width,e.Limit,e.Prio,false,0,0⟩
def newSim (n depth:Int) (l:List Entry):Option Sim × Int:=
  if n<1∨64<n then (none,1) else if depth<1∨64<depth∨1024<l.length then (none,1)
  else if l.any (fun e=>!rightE e) then (none,5) else (some ⟨⟨newCore n⟩,depth,sortE l,0,[],[],[],0,0⟩,0)
def doneS (run:List Int) (j:Job):Int:=addF [j.Start,(run[(j.Id-1).toNat]?).getD 0]
def headS (s:Sim):Int:=match s.load[s.pos.toNat]? with |some e=>e.At |none=>1152921504606846976
def nextS (s:Sim):Int:=(spansC s.S.C.J.jobs).foldl (fun t x=>min t x.From) ((inJ s.S.C.J.jobs [3]).foldl (fun t j=>min (min t j.End) (doneS s.run j)) (headS s))
def arrive1 (s:Sim) (e:Entry):Sim:=
  if (doS s.S.C (reqE e)).1.Err≠0 then {s with S:=⟨(doS s.S.C (reqE e)).2⟩,lost:=wr (s.lost+1),pos:=s.pos+1}
  else {s with S:=⟨(doS s.S.C (reqE e)).2⟩,run:=s.run++[e.Run],tentry:=s.tentry++[s.pos],pos:=s.pos+1}
def arriveF:Nat→Sim→Sim
  |0,s=>s
  |f+1,s=>match s.load[s.pos.toNat]? with
    |some e=>if e.At≤nowC s.S.C then arriveF f (arrive1 s e) else s
    |none=>s
def arriveS (s:Sim):Sim:=arriveF (s.load.length-s.pos.toNat) s
def leave1 (s:Sim) (j:Job):Sim:=if doneS s.run j≤nowC s.S.C then {s with S:=⟨(doS s.S.C ⟨5,j.Id,0,0,0,0,false,0,0⟩).2⟩} else s
def leaveS (s:Sim):Sim:=(inJ s.S.C.J.jobs [3]).foldl leave1 s
def toS (s:Sim) (t:Int):Sim:=if nowC s.S.C<t then {s with S:=⟨(doS s.S.C ⟨9,0,0,0,0,0,false,0,wr (t-nowC s.S.C)⟩).2⟩} else s
def restS (s:Sim):Sim:={s with S:=⟨(settleS s.S.C s.depth 4).2⟩}
def stepM (s:Sim):Bool × Sim:=if 1099511627776<nextS s then (false,s) else (true,restS (arriveS (leaveS (toS s (nextS s)))))
def runF:Nat→Sim→Sim × Bool
  |0,s=>(s,false)
  |f+1,s=>if (stepM s).1=true then runF f (stepM s).2 else ((stepM s).2,true)
def runM (s:Sim) (most:Int):Sim × Bool:=runF most.toNat s
structure SimOK (s:Sim):Prop where
  ok:OkS s.S.C
  rl:s.run.length=s.S.C.J.jobs.length
  ld: ∀e∈s.load,rightE e=true
  ll:s.load.length≤1024
  ps:0≤s.pos∧s.pos≤s.load.length
  en:s.tentry.length≤1024∧s.tentry.length≤s.pos
  lo:0≤s.lost∧s.lost≤s.pos
  rr: ∀v∈s.run,1≤v∧v≤2097152
  so: ∀j∈s.S.C.J.jobs,j.State=3→0≤j.Start∧j.Start≤nowC s.S.C
end Go.Ax.Law
namespace Go.Ax.Sp
def sSumS:Sig:=⟨[(.imm .i64,false)],[.int .i64]⟩
def oSumS:sSumS.Out:=fun x k=>x.1.length≤1000000∧k () (Law.addF x.1,())
def lSumS:LoopAnn:={X:=List Int × Int × Int,live:=fun x=>[(3,.int .i64 x.2.1),(6,.imm .i64 x.1),(7,.int .i64 x.1.length),(8,.int .i64 x.2.2)],heap:=fun _=>[]}
def sRightE:Sig:=⟨[(.elem .entry,false)],[.bool]⟩
def oRightE:sRightE.Out:=fun x k=>k () (Law.rightE x.1,())
def sReqE:Sig:=⟨[(.elem .entry,false)],[.elem .req]⟩
def oReqE:sReqE.Out:=fun x k=>k () (Law.reqE x.1,())
def sNewSi:Sig:=⟨[(.int .i64,false),(.int .i64,false),(.imm .entry,false)],[.opt .sim,.int .i64]⟩
def oNewSi:sNewSi.Out:=fun x k=>x.2.2.1.length≤1000000∧
  (((x.1<1∨64<x.1∨x.2.1<1∨64<x.2.1∨1024<x.2.2.1.length)→k () (none,1,()))∧
  ((1≤x.1∧x.1≤64∧1≤x.2.1∧x.2.1≤64∧x.2.2.1.length≤1024)→((x.2.2.1.any (fun e=>!Law.rightE e)=true→k () (none,5,()))∧
    (x.2.2.1.any (fun e=>!Law.rightE e)=false→k () (some ⟨⟨Law.newCore x.1⟩,x.2.1,Law.sortE x.2.2.1,0,[],[],[],0,0⟩,0,())))))
def sNoneSi:Sig:=⟨[(.view .sim,false)],[.bool]⟩
def oNoneSi:sNoneSi.Out:=fun _ k=>k () (false,())
def sDoneSi:Sig:=⟨[(.view .sim,false),(.elem .job,false)],[.int .i64]⟩
def oDoneSi:sDoneSi.Out:=fun x k=>(1≤x.2.1.Id∧x.2.1.Id≤x.1.run.length∧x.2.1.Id≤1000000)∧k () (Law.doneS x.1.run x.2.1,())
def sNextSi:Sig:=⟨[(.obj .sim,true)],[.int .i64]⟩
def oNextSi:sNextSi.Out:=fun x k=>Law.SimOK x.1∧k (x.1,()) (Law.nextS x.1,())
def sArr:Sig:=⟨[(.obj .sim,true)],[]⟩
def oArr:sArr.Out:=fun x k=>Law.SimOK x.1∧k (Law.arriveS x.1,()) ()
def oLea:sArr.Out:=fun x k=>Law.SimOK x.1∧k (Law.leaveS x.1,()) ()
def sStepSi:Sig:=⟨[(.obj .sim,true)],[.bool]⟩
def oStepSi:sStepSi.Out:=fun x k=>(Law.SimOK x.1∧1≤x.1.depth∧x.1.depth≤64)∧k ((Law.stepM x.1).2,()) ((Law.stepM x.1).1,())
def sRunSi:Sig:=⟨[(.obj .sim,true),(.int .i64,false)],[.row .job,.row .i64,.int .i64,.int .i64,.bool]⟩
def oRunSi:sRunSi.Out:=fun x k=>(Law.SimOK x.1∧1≤x.1.depth∧x.1.depth≤64∧x.2.1≤1000000)∧k ((Law.runM x.1 x.2.1).1,()) ((Law.runM x.1 x.2.1).1.S.C.J.jobs,(Law.runM x.1 x.2.1).1.tentry,(Law.runM x.1 x.2.1).1.lost,Law.nowC (Law.runM x.1 x.2.1).1.S.C,(Law.runM x.1 x.2.1).2,())
def lNewSi:LoopAnn:={X:=Int × List Entry × Core × Int,live:=fun x=>[(1,.int .i64 x.1),(2,.imm .entry x.2.1),(8,.ptr ⟨0,0,0,0⟩),(33,.imm .entry x.2.1),(34,.int .i64 x.2.1.length),(35,.int .i64 x.2.2.2)],heap:=fun x=>[some (.obj .sched ⟨x.2.2.1⟩)],norm:=[.fold 0 .sched]}
def lNextSi1:LoopAnn:={X:=Sim × Int × List Job × Int,live:=fun x=>[(0,.ptr ⟨0,0,0,0⟩),(3,.int .i64 x.2.1),(40,.sl 11 10 0 x.2.2.1.length),(41,.int .i64 x.2.2.1.length),(42,.int .i64 x.2.2.2)],heap:=fun x=>[some (.obj .sim x.1),none,none,none,none,none,none,none,none,none,none,some (.row .job x.2.2.1)],norm:=[.fold 0 .sim]}
def lArr:LoopAnn:={X:=Sim,live:=fun _=>[(0,.ptr ⟨0,0,0,0⟩)],heap:=fun x=>[some (.obj .sim x)],norm:=[.fold 0 .sim]}
def lLea:LoopAnn:={X:=Sim × List Job × Int,live:=fun x=>[(0,.ptr ⟨0,0,0,0⟩),(15,.sl 11 10 0 x.2.1.length),(16,.int .i64 x.2.1.length),(17,.int .i64 x.2.2)],heap:=fun x=>[some (.obj .sim x.1),none,none,none,none,none,none,none,none,none,none,some (.row .job x.2.1)],norm:=[.fold 0 .sim]}
def lNextSi2:LoopAnn:={X:=Sim × Int × List Span × Int,live:=fun x=>[(0,.ptr ⟨0,0,0,0⟩),(3,.int .i64 x.2.1),(62,.sl 18 3 0 x.2.2.1.length),(63,.int .i64 x.2.2.1.length),(64,.int .i64 x.2.2.2)],heap:=fun x=>[some (.obj .sim x.1),none,none,none,none,none,none,none,none,none,none,none,none,none,none,none,none,none,some (.row .span x.2.2.1)],norm:=[.fold 0 .sim]}
def lRunSi:LoopAnn:={X:=Sim × Int × Int,live:=fun x=>[(0,.ptr ⟨0,0,0,0⟩),(1,.int .i64 x.2.1),(4,.ptr ⟨1,0,0,0⟩),(6,.int .i64 x.2.2)],heap:=fun x=>[some (.obj .sim x.1),some (.raw [.nils,.nils,.int .i64 0,.int .i64 0])],norm:=[.fold 0 .sim]}
end Go.Ax.Sp
namespace Go.Ax.V
open Go.Ax.Sp Go.Ax.Law List Int IntKind
set_option maxRecDepth 100000
def vSumS (l:List Int) (k:Unit→Int × Unit→Prop):Prop:=
LP (List Int × Int × Int) (fun x=>(0=x.2.1∧l=x.1∧LN l=LN x.1∧0=x.2.2∧True)∧True) fun I m x=>br (decide (x.2.2<LN x.1)) (AI x.1 x.2.2 fun e=>NM (x.2.1+if 1152921504606846976<if 0>e then 0 else e then 1152921504606846976 else if 0>e then 0 else e) fun n=>NM (x.2.2+1) fun n_1=>NX I m x fun y=>((if 1152921504606846976<n then 1152921504606846976 else n)=y.2.1∧x.1=y.1∧LN x.1=LN y.1∧n_1=y.2.2∧True)∧True) (k () (x.2.1,()))
def vRightE (e:Entry) (k:Unit→Bool × Unit→Prop):Prop:=
SH (k () (false,())) fun s0=>br (decide (e.At≥0)) (br (decide (e.At≤549755813888)) (br (decide (e.Run≥1)) (br (decide (e.Limit≥1)) (br (decide (e.Limit≤1048576)) (br (decide (e.Run≤2097152)) (br (decide (e.Width≥1)) (br (decide (e.Width≤64)) (br (decide (e.User≥0)) (br (decide (e.User≤255)) (br (decide (e.Prio≥0)) (k () (decide (e.Prio≤1000),())) s0) s0) s0) s0) s0) s0) s0) s0) s0) s0) s0
def vReqE (e:Entry) (k:Unit→Req × Unit→Prop):Prop:=
k () (Req.mk 1 0 e.User e.Width e.Limit e.Prio false 0 0,())
def vNewSi (n:Int) (d:Int) (l:List Entry) (k:Unit→Option Sim × Int × Unit→Prop):Prop:=
SH (none,1,()) fun s0=>(n<1∨64<n→k () s0)∧(1≤n∧n≤64→br (decide (d<1)) (k () s0) (br (decide (d>64)) (k () s0) (br (decide (LN l>1024)) (k () s0) (LP (Int × List Entry × Core × Int) (fun x=>(d=x.1∧l=x.2.1∧0=0∧l=x.2.1∧LN l=LN x.2.1∧0=x.2.2.2∧True)∧Sched.mk (newCore n)=Sched.mk x.2.2.1∧True) fun I m x=>SH (length (sortE x.2.1)) fun s1=>br (decide (x.2.2.2<LN x.2.1)) (AI x.2.1 x.2.2.2 fun e=>br (!rightE e) (k () (none,5,())) (NM (x.2.2.2+1) fun n=>NX I m x fun y=>(x.1=y.1∧x.2.1=y.2.1∧0=0∧x.2.1=y.2.1∧LN x.2.1=LN y.2.1∧n=y.2.2.2∧True)∧Sched.mk x.2.2.1=Sched.mk y.2.2.1∧True)) (SmallEs x.2.1∧0+s1≤s1∧k () (some (Sim.mk (Sched.mk x.2.2.1) x.1 (take s1 (drop 0 (sortE x.2.1))) 0 [] [] [] 0 0),0,()))))))
def vNoneSi (s:Sim) (k:Unit→Bool × Unit→Prop):Prop:=
k () (false,())
def vDoneSi (s:Sim) (j:Job) (k:Unit→Int × Unit→Prop):Prop:=
NM (j.Id-1) fun n=>AI s.run n fun e=>SH [j.Start,e] fun s0=>((2≤length s0∧length s0≤1000000∧k () (addF s0,()))∧True)∧True
def vNextSi (s:Sim) (k:Sim × Unit→Int × Unit→Prop):Prop:=
SH (Sim.mk s.S s.depth (take (length s.load) (drop 0 s.load)) s.pos (take (length s.run) (drop 0 s.run)) (take (length s.tjobs) (drop 0 s.tjobs)) (take (length s.tentry) (drop 0 s.tentry)) s.lost s.endd) fun s0=>SH (inJ s.S.C.J.jobs [3]) fun s1=>SH (length s.tentry) fun s2=>SH (length s.tjobs) fun s3=>SH (length s.load) fun s4=>SH (length s.run) fun s5=>br (decide (s.pos<LN s.load)) (AT s.load s.pos fun e=>1≤1∧(JW s.S.C.J∧1≤1000)∧LP (Sim × Int × List Job × Int) (fun x=>0+s4≤s4∧0+s5≤s5∧0+s3≤s3∧0+s2≤s2∧(0=0∧e.At=x.2.1∧(0=0∧length s1=length x.2.2.1)∧LN s1=LN x.2.2.1∧0=x.2.2.2∧True)∧s0=x.1∧s1=x.2.2.1∧True) fun I m x=>SH x.1.run fun s6=>SH (spansC x.1.S.C.J.jobs) fun s7=>SH (length x.1.tentry) fun s8=>SH (length x.1.tjobs) fun s9=>SH (length x.1.load) fun s10=>br (decide (x.2.2.2<LN x.2.2.1)) (AT x.2.2.1 x.2.2.2 fun e=>SH [x.2.1,e.End,doneS s6 e] fun s11=>((1≤e.Id∧e.Id≤LN s6∧e.Id≤1000000)∧((3≤length s11∧length s11≤1099511627776∧NM (x.2.2.2+1) fun n=>NX I m x fun y=>(0=0∧leastI s11=y.2.1∧(0=0∧length x.2.2.1=length y.2.2.1)∧LN x.2.2.1=LN y.2.2.1∧n=y.2.2.2∧True)∧x.1=y.1∧x.2.2.1=y.2.2.1∧True)∧True)∧True)∧True) (CW x.1.S.C∧LP (Sim × Int × List Span × Int) (fun x_1=>0+s10≤s10∧0+length s6≤length s6∧0+s9≤s9∧0+s8≤s8∧(0=0∧x.2.1=x_1.2.1∧(0=0∧length s7=length x_1.2.2.1)∧LN s7=LN x_1.2.2.1∧0=x_1.2.2.2∧True)∧Sim.mk x.1.S x.1.depth (take s10 (drop 0 x.1.load)) x.1.pos (take (length s6) (drop 0 s6)) (take s9 (drop 0 x.1.tjobs)) (take s8 (drop 0 x.1.tentry)) x.1.lost x.1.endd=x_1.1∧s7=x_1.2.2.1∧True) fun I m x=>br (decide (x.2.2.2<LN x.2.2.1)) (AT x.2.2.1 x.2.2.2 fun e=>SH [x.2.1,e.From] fun s11=>2≤length s11∧length s11≤1099511627776∧NM (x.2.2.2+1) fun n=>NX I m x fun y=>(0=0∧leastI s11=y.2.1∧(0=0∧length x.2.2.1=length y.2.2.1)∧LN x.2.2.1=LN y.2.2.1∧n=y.2.2.2∧True)∧x.1=y.1∧x.2.2.1=y.2.2.1∧True) (k (x.1,()) (x.2.1,())))) (1≤1∧(JW s.S.C.J∧1≤1000)∧LP (Sim × Int × List Job × Int) (fun x=>0+s4≤s4∧0+s5≤s5∧0+s3≤s3∧0+s2≤s2∧(0=0∧1152921504606846976=x.2.1∧(0=0∧length s1=length x.2.2.1)∧LN s1=LN x.2.2.1∧0=x.2.2.2∧True)∧s0=x.1∧s1=x.2.2.1∧True) fun I m x=>SH x.1.run fun s6=>SH (spansC x.1.S.C.J.jobs) fun s7=>SH (length x.1.tentry) fun s8=>SH (length x.1.tjobs) fun s9=>SH (length x.1.load) fun s10=>br (decide (x.2.2.2<LN x.2.2.1)) (AT x.2.2.1 x.2.2.2 fun e=>SH [x.2.1,e.End,doneS s6 e] fun s11=>((1≤e.Id∧e.Id≤LN s6∧e.Id≤1000000)∧((3≤length s11∧length s11≤1099511627776∧NM (x.2.2.2+1) fun n=>NX I m x fun y=>(0=0∧leastI s11=y.2.1∧(0=0∧length x.2.2.1=length y.2.2.1)∧LN x.2.2.1=LN y.2.2.1∧n=y.2.2.2∧True)∧x.1=y.1∧x.2.2.1=y.2.2.1∧True)∧True)∧True)∧True) (CW x.1.S.C∧LP (Sim × Int × List Span × Int) (fun x_1=>0+s10≤s10∧0+length s6≤length s6∧0+s9≤s9∧0+s8≤s8∧(0=0∧x.2.1=x_1.2.1∧(0=0∧length s7=length x_1.2.2.1)∧LN s7=LN x_1.2.2.1∧0=x_1.2.2.2∧True)∧Sim.mk x.1.S x.1.depth (take s10 (drop 0 x.1.load)) x.1.pos (take (length s6) (drop 0 s6)) (take s9 (drop 0 x.1.tjobs)) (take s8 (drop 0 x.1.tentry)) x.1.lost x.1.endd=x_1.1∧s7=x_1.2.2.1∧True) fun I m x=>br (decide (x.2.2.2<LN x.2.2.1)) (AT x.2.2.1 x.2.2.2 fun e=>SH [x.2.1,e.From] fun s11=>2≤length s11∧length s11≤1099511627776∧NM (x.2.2.2+1) fun n=>NX I m x fun y=>(0=0∧leastI s11=y.2.1∧(0=0∧length x.2.2.1=length y.2.2.1)∧LN x.2.2.1=LN y.2.2.1∧n=y.2.2.2∧True)∧x.1=y.1∧x.2.2.1=y.2.2.1∧True) (k (x.1,()) (x.2.1,()))))
def vArr (s:Sim) (k:Sim × Unit→Unit→Prop):Prop:=
SH (0=0∧True) fun s0=>LP Sim (fun x=>s0∧s=x∧True) fun I m x=>SH (length x.tentry) fun s1=>SH (length x.run) fun s2=>SH (length x.tjobs) fun s3=>SH (length x.load) fun s4=>SH (take s1 (drop 0 x.tentry)) fun s5=>SH (take s2 (drop 0 x.run)) fun s6=>SH (take s3 (drop 0 x.tjobs)) fun s7=>SH (take s4 (drop 0 x.load)) fun s8=>SH (s5++[x.pos]) fun s9=>SH x.depth fun s10=>SH (x.pos+1) fun s11=>SH (take (s1+1) (drop 0 s9)) fun s12=>SH (Sim.mk x.S s10 s8 x.pos s6 s7 s5 x.lost x.endd,()) fun s13=>SH (0+s1≤s1) fun s14=>SH (0+s2≤s2) fun s15=>SH (0+s3≤s3) fun s16=>SH (0+s4≤s4) fun s17=>SH (0+(s1+1)≤length s9) fun s18=>br (decide (x.pos<LN x.load)) (AT x.load x.pos fun e=>(PW x.S.C.P∧br (decide (e.At≤nowL x.S.C.P.steps)) (AT x.load x.pos fun e=>SH (wholeW (newW (Req.mk 1 0 e.User e.Width e.Limit e.Prio false 0 0)) x.S.C).2 fun s19=>SH (s6++[e.Run]) fun s20=>SH (!s19.1.reply.Err==0) fun s21=>SH (take (s2+1) (drop 0 s20)) fun s22=>SH (br s21 (NM (x.lost+1) fun n=>NM s11 fun n_1=>NX I m x fun y=>s17∧s15∧s16∧s14∧s0∧Sim.mk (Sched.mk s19.2) s10 s8 n_1 s6 s7 s5 n x.endd=y∧True) (((1≤1∧s15∧s2+1≤68719476736∧(((1≤1∧s14∧s1+1≤68719476736∧(NM s11 fun n=>NX I m x fun y=>s17∧0+(s2+1)≤length s20∧s16∧s18∧s0∧Sim.mk (Sched.mk s19.2) s10 s8 n s22 s7 s12 x.lost x.endd=y∧True)∧True)∧True)∧True)∧True)∧True)∧True)∧True) fun s23=>((((OkS x.S.C∧s23∧True)∧((OkS x.S.C∧s23)∧True)∧True)∧(((OkS x.S.C∧s23)∧True)∧True)∧True)∧True)∧True) (s17∧s15∧s16∧s14∧k s13 ()))∧True) ((s17∧s15∧s16∧s14∧k s13 ())∧True)
def vLea (s:Sim) (k:Sim × Unit→Unit→Prop):Prop:=
SH (inJ s.S.C.J.jobs [3]) fun s0=>SH (length s.tentry) fun s1=>1≤1∧(JW s.S.C.J∧1≤1000)∧LP (Sim × List Job × Int) (fun x=>0+length s.load≤length s.load∧0+length s.run≤length s.run∧0+length s.tjobs≤length s.tjobs∧0+s1≤s1∧(0=0∧(0=0∧length s0=length x.2.1)∧LN s0=LN x.2.1∧0=x.2.2∧True)∧Sim.mk s.S s.depth (take (length s.load) (drop 0 s.load)) s.pos (take (length s.run) (drop 0 s.run)) (take (length s.tjobs) (drop 0 s.tjobs)) (take s1 (drop 0 s.tentry)) s.lost s.endd=x.1∧s0=x.2.1∧True) fun I m x=>SH (length x.1.run) fun s2=>SH (length x.1.tentry) fun s3=>SH (length x.1.tjobs) fun s4=>SH (length x.1.load) fun s5=>SH (take s2 (drop 0 x.1.run)) fun s6=>br (decide (x.2.2<LN x.2.1)) (AT x.2.1 x.2.2 fun e=>(0+s5≤s5∧0+s2≤s2∧0+s4≤s4∧0+s3≤s3∧(1≤e.Id∧e.Id≤LN s6∧e.Id≤1000000)∧(PW x.1.S.C.P∧br (decide (doneS s6 e≤nowL x.1.S.C.P.steps)) ((OkS x.1.S.C∧NM (x.2.2+1) fun n=>NX I m x fun y=>0+s5≤s5∧0+s2≤s2∧0+s4≤s4∧0+s3≤s3∧(0=0∧(0=0∧length x.2.1=length y.2.1)∧LN x.2.1=LN y.2.1∧n=y.2.2∧True)∧Sim.mk (Sched.mk (wholeW (newW (Req.mk 5 e.Id 0 0 0 0 false 0 0)) x.1.S.C).2.2) x.1.depth (take s5 (drop 0 x.1.load)) x.1.pos s6 (take s4 (drop 0 x.1.tjobs)) (take s3 (drop 0 x.1.tentry)) x.1.lost x.1.endd=y.1∧x.2.1=y.2.1∧True)∧True) (NM (x.2.2+1) fun n=>NX I m x fun y=>0+s5≤s5∧0+s2≤s2∧0+s4≤s4∧0+s3≤s3∧(0=0∧(0=0∧length x.2.1=length y.2.1)∧LN x.2.1=LN y.2.1∧n=y.2.2∧True)∧Sim.mk x.1.S x.1.depth (take s5 (drop 0 x.1.load)) x.1.pos s6 (take s4 (drop 0 x.1.tjobs)) (take s3 (drop 0 x.1.tentry)) x.1.lost x.1.endd=y.1∧x.2.1=y.2.1∧True))∧True)∧True) (k (x.1,()) ())
def vStepSi (s:Sim) (k:Sim × Unit→Bool × Unit→Prop):Prop:=
SH (Sim.mk s.S s.depth (take (length s.load) (drop (0:Nat) s.load)) s.pos (take (length s.run) (drop (0:Nat) s.run)) (take (length s.tjobs) (drop (0:Nat) s.tjobs)) (take (length s.tentry) (drop (0:Nat) s.tentry)) s.lost s.endd) fun s0=>SH (take (length s.tentry) (drop (0:Nat) s.tentry)) fun s1=>SH (take (length s.tjobs) (drop (0:Nat) s.tjobs)) fun s2=>SH (take (length s.load) (drop (0:Nat) s.load)) fun s3=>SH (take (length s.run) (drop (0:Nat) s.run)) fun s4=>SH (arriveS (leaveS s0)) fun s5=>SH s.depth fun s6=>SH (length s.tentry) fun s7=>SH (length s.tjobs) fun s8=>SH (length s.load) fun s9=>SH (length s.run) fun s10=>SH (length s5.tentry) fun s11=>SimOK s∧br (decide (nextS s>1099511627776)) (k (s,()) (false,())) (PW s.S.C.P∧br (decide (nextS s>nowL s.S.C.P.steps)) ((PW s.S.C.P∧NM (nextS s-nowL s.S.C.P.steps) fun n=>SH (arriveS (leaveS (Sim.mk (Sched.mk (wholeW (newW (Req.mk (9:Int) (0:Int) (0:Int) (0:Int) (0:Int) (0:Int) false (0:Int) n)) s.S.C).2.2) s6 s3 s.pos s4 s2 s1 s.lost s.endd))) fun s12=>SH (Sim.mk (Sched.mk (wholeW (newW (Req.mk (9:Int) (0:Int) (0:Int) (0:Int) (0:Int) (0:Int) false (0:Int) n)) s.S.C).2.2) s6 s3 s.pos s4 s2 s1 s.lost s.endd) fun s13=>SH (length s12.tentry) fun s14=>(OkS s.S.C∧0+s9≤s9∧0+s10≤s10∧0+s8≤s8∧0+s7≤s7∧SimOK s13∧SimOK (leaveS s13)∧((OkS s12.S.C∧(0:Int)≤4∧(4:Int)≤1000)∧0+length s12.load≤length s12.load∧0+length s12.run≤length s12.run∧0+length s12.tjobs≤length s12.tjobs∧0+s14≤s14∧k (Sim.mk (Sched.mk (settleS s12.S.C s12.depth (4:Int)).2) s12.depth (take (length s12.load) (drop (0:Nat) s12.load)) s12.pos (take (length s12.run) (drop (0:Nat) s12.run)) (take (length s12.tjobs) (drop (0:Nat) s12.tjobs)) (take s14 (drop (0:Nat) s12.tentry)) s12.lost s12.endd,()) (true,()))∧True)∧True)∧True) (0+s9≤s9∧0+s10≤s10∧0+s8≤s8∧0+s7≤s7∧SimOK s0∧SimOK (leaveS s0)∧((OkS s5.S.C∧(0:Int)≤4∧(4:Int)≤1000)∧0+length s5.load≤length s5.load∧0+length s5.run≤length s5.run∧0+length s5.tjobs≤length s5.tjobs∧0+s11≤s11∧k (Sim.mk (Sched.mk (settleS s5.S.C s5.depth (4:Int)).2) s5.depth (take (length s5.load) (drop (0:Nat) s5.load)) s5.pos (take (length s5.run) (drop (0:Nat) s5.run)) (take (length s5.tjobs) (drop (0:Nat) s5.tjobs)) (take s11 (drop (0:Nat) s5.tentry)) s5.lost s5.endd,()) (true,()))∧True))
def vToldSi (s:Sim) (k:Sim × Unit→List Job × List Int × Int × Int × Unit→Prop):Prop:=
SH (length s.tentry) fun s0=>(JW s.S.C.J∧(PW s.S.C.P∧((0+s0≤s0∧length (take s0 (drop 0 s.tentry))≤68719476736∧False)∧True)∧True)∧True)∧True
def vRunSi (s:Sim) (n:Int) (k:Sim × Unit→List Job × List Int × Int × Int × Bool × Unit→Prop):Prop:=
SH ((True∧True∧(0:Int)=0∧(0:Int)=0∧True)∧True) fun s0=>LP (Sim × Int × Int) (fun x=>((0:Nat)=0∧n=x.2.1∧(0:Nat)=0∧0=x.2.2∧True)∧s=x.1∧s0) fun I m x=>SH (stepM x.1).2 fun s1=>SH (take (length x.1.tentry) (drop (0:Nat) x.1.tentry)) fun s2=>SH (take (length s1.tentry) (drop (0:Nat) s1.tentry)) fun s3=>SH (length x.1.tentry) fun s4=>SH (length s1.tentry) fun s5=>SH (length x.1.tjobs) fun s6=>SH (length x.1.load) fun s7=>br (decide (x.2.2<x.2.1)) ((SimOK x.1∧1≤x.1.depth∧x.1.depth≤64)∧br (!(stepM x.1).1) ((JW s1.S.C.J∧(PW s1.S.C.P∧((0+s5≤s5∧length s3≤68719476736∧0+length s1.load≤length s1.load∧0+length s1.run≤length s1.run∧0+length s1.tjobs≤length s1.tjobs∧0+s5≤s5∧length s1.S.C.J.jobs=length s1.S.C.J.jobs∧length s3=length s3∧k (Sim.mk s1.S s1.depth (take (length s1.load) (drop (0:Nat) s1.load)) s1.pos (take (length s1.run) (drop (0:Nat) s1.run)) (take (length s1.tjobs) (drop (0:Nat) s1.tjobs)) s3 s1.lost s1.endd,()) (s1.S.C.J.jobs,s3,s1.lost,nowL s1.S.C.P.steps,true,()))∧True)∧True)∧True)∧True) (NM (x.2.2+1) fun n=>NX I m x fun y=>((0:Nat)=0∧x.2.1=y.2.1∧(0:Nat)=0∧n=y.2.2∧True)∧s1=y.1∧s0)) ((JW x.1.S.C.J∧(PW x.1.S.C.P∧((0+s4≤s4∧length s2≤68719476736∧0+s7≤s7∧0+length x.1.run≤length x.1.run∧0+s6≤s6∧0+s4≤s4∧length x.1.S.C.J.jobs=length x.1.S.C.J.jobs∧length s2=length s2∧k (Sim.mk x.1.S x.1.depth (take s7 (drop (0:Nat) x.1.load)) x.1.pos (take (length x.1.run) (drop (0:Nat) x.1.run)) (take s6 (drop (0:Nat) x.1.tjobs)) s2 x.1.lost x.1.endd,()) (x.1.S.C.J.jobs,s2,x.1.lost,nowL x.1.S.C.P.steps,false,()))∧True)∧True)∧True)∧True)
end Go.Ax.V
namespace Go.Ax.Law
open Go.Ax.O
theorem fold_stepS {α β:Type} {l:List α} {f:β→α→β} {i:Int} {e:α} {t0:β} (h0:0≤i) (he:l[i.toNat]? =some e):(l.take (i+1).toNat).foldl f t0=f ((l.take i.toNat).foldl f t0) e:=by
  rw [show (i+1).toNat=i.toNat+1 by omega,List.take_add_one,he,List.foldl_append];rfl
theorem clampS_if (e:Int):(if 1152921504606846976<if 0>e then 0 else e then 1152921504606846976 else if 0>e then 0 else e)=clampF e:=by
  unfold clampF forever;omega
theorem clampS_range (e:Int):0≤clampF e∧clampF e≤1152921504606846976:=by unfold clampF forever;omega
theorem sumS_range: ∀(l:List Int) {s:Int},0≤s∧s≤1152921504606846976→0≤l.foldl (fun s v=>min (s+clampF v) forever) s∧l.foldl (fun s v=>min (s+clampF v) forever) s≤1152921504606846976
  | [],s,h=>h
  |v::l,s,h=>by
    have:=clampS_range v
    exact sumS_range l (s:=min (s+clampF v) forever) (by unfold forever;omega)
theorem right_iff {e:Entry}:rightE e=true↔0≤e.At∧e.At≤549755813888∧1≤e.Run∧1≤e.Limit∧e.Limit≤1048576∧e.Run≤2097152∧1≤e.Width∧e.Width≤64∧0≤e.User∧e.User≤255∧0≤e.Prio∧e.Prio≤1000:=by
  unfold rightE;simp
theorem least2 {t a:Int} (h:t≤1152921504606846976):leastI [t,a]=min t a:=by
  unfold leastI;simp only [List.foldl_cons,List.foldl_nil];omega
theorem least3 {t a b:Int} (h:t≤1152921504606846976):leastI [t,a,b]=min (min t a) b:=by
  unfold leastI;simp only [List.foldl_cons,List.foldl_nil];omega
theorem min_le1: ∀(l:List Job) (run:List Int) {t:Int},t≤1152921504606846976→l.foldl (fun t j=>min (min t j.End) (doneS run j)) t≤1152921504606846976
  | [],_,_,h=>h
  |j::l,run,t,h=>min_le1 l run (t:=min (min t j.End) (doneS run j)) (by omega)
theorem min_le2: ∀(l:List Span) {t:Int},t≤1152921504606846976→l.foldl (fun t x=>min t x.From) t≤1152921504606846976
  | [],_,h=>h
  |x::l,t,h=>min_le2 l (t:=min t x.From) (by omega)
theorem SimOK.core {s:Sim} (h:SimOK s) {c:Core} (hc:OkS c) (hm:Mc 0 s.S.C c):SimOK {s with S:=⟨c⟩}:=by
  refine ⟨hc,by simp only [];rw [hm.len];exact h.rl,h.ld,h.ll,h.ps,h.en,h.lo,h.rr,fun j hj h3=>?_⟩
  have h0:=hc.now
  have h1:=h.ok.now
  rcases hm.run j hj h3 with ⟨a,ha,a3,e⟩ |⟨g1,g2⟩
  · have:=h.so a ha a3
    have:=hm.now
    simp only [];omega
  · simp only [];omega
theorem SimOK.to {s:Sim} (h:SimOK s) (t:Int):SimOK (toS s t):=by
  unfold toS
  split
  · obtain ⟨k,g1,g2⟩:=doS_mc h.ok ⟨9,0,0,0,0,0,false,0,wr (t-nowC s.S.C)⟩
    rw [if_neg (by simp)] at g2
    subst g2
    exact h.core (h.ok.step _) g1
  · exact h
theorem SimOK.leave1 {s:Sim} (h:SimOK s) (j:Job):SimOK (leave1 s j)∧(Law.leave1 s j).run=s.run:=by
  unfold Law.leave1
  split
  · obtain ⟨k,g1,g2⟩:=doS_mc h.ok ⟨5,j.Id,0,0,0,0,false,0,0⟩
    rw [if_neg (by simp)] at g2
    subst g2
    exact ⟨h.core (h.ok.step _) g1,rfl⟩
  · exact ⟨h,rfl⟩
theorem SimOK.leaveF: ∀(l:List Job) {s:Sim},SimOK s→SimOK (l.foldl Law.leave1 s)∧(l.foldl Law.leave1 s).run=s.run
  | [],s,h=>⟨h,rfl⟩
  |j::l,s,h=>by
    obtain ⟨g1,g2⟩:=h.leave1 j
    obtain ⟨g3,g4⟩:=SimOK.leaveF l g1
    exact ⟨g3,g4.trans g2⟩
theorem SimOK.arrive1 {s:Sim} (h:SimOK s) {e:Entry} (he:s.load[s.pos.toNat]? =some e):SimOK (arrive1 s e)∧(Law.arrive1 s e).pos=s.pos+1∧(Law.arrive1 s e).load=s.load:=by
  have hp:=(List.getElem?_eq_some_iff.1 he).1
  have hps:=h.ps;have hen:=h.en;have hlo:=h.lo;have hll:=h.ll
  obtain ⟨k,g1,g2⟩:=doS_mc h.ok (reqE e)
  unfold Law.arrive1
  split
  · rename_i herr
    rw [if_neg (fun hh=>herr hh.2)] at g2
    subst g2
    have hc:=h.core (h.ok.step _) g1
    refine ⟨⟨hc.ok,hc.rl,hc.ld,hc.ll,?_,?_,?_,hc.rr,hc.so⟩,rfl,rfl⟩
    · simp only [];omega
    · simp only [];omega
    · simp only [];rw [wr_in (by omega)];omega
  · rename_i herr
    have herr:(doS s.S.C (reqE e)).1.Err=0:=by simpa using herr
    rw [if_pos ⟨rfl,herr⟩] at g2
    subst g2
    have hr:=right_iff.1 (h.ld e (List.mem_of_getElem? he))
    have h0:=(h.ok.step (reqE e)).now
    have h1:=h.ok.now
    refine ⟨⟨h.ok.step _,?_,h.ld,h.ll,?_,?_,?_,?_,fun j hj h3=>?_⟩,rfl,rfl⟩
    · simp only [List.length_append,List.length_singleton];rw [g1.len,h.rl]
    · simp only [];omega
    · simp only [List.length_append,List.length_singleton];omega
    · simp only [];omega
    · intro v hv
      simp only [List.mem_append,List.mem_singleton] at hv
      rcases hv with hv |rfl
      · exact h.rr v hv
      · omega
    · rcases g1.run j hj h3 with ⟨a,ha,a3,e⟩ |⟨k1,k2⟩
      · have:=h.so a ha a3
        have:=g1.now
        simp only [];omega
      · simp only [];omega
theorem arriveS_more {s:Sim} (h:SimOK s) {e:Entry} (he:s.load[s.pos.toNat]? =some e) (ha:e.At≤nowC s.S.C):arriveS s=arriveS (arrive1 s e):=by
  have hp:=(List.getElem?_eq_some_iff.1 he).1
  have hps:=h.ps
  obtain ⟨_,g1,g2⟩:=h.arrive1 he
  unfold arriveS
  rw [g1,g2,show s.load.length-s.pos.toNat=(s.load.length-(s.pos+1).toNat)+1 by omega]
  simp only [arriveF,he,if_pos ha]
theorem arriveS_end {s:Sim} (h: ∀e,s.load[s.pos.toNat]? =some e→nowC s.S.C<e.At):arriveS s=s:=by
  unfold arriveS
  generalize s.load.length-s.pos.toNat=f
  cases f with
  |zero=>rfl
  |succ f=>
    simp only [arriveF]
    split
    · rename_i e he
      rw [if_neg (by have:=h e he;omega)]
    · rfl
theorem SimOK.arriveF: ∀(f:Nat) {s:Sim},SimOK s→SimOK (arriveF f s)
  |0,s,h=>h
  |f+1,s,h=>by
    simp only [Law.arriveF]
    split
    · rename_i e he
      split
      · exact SimOK.arriveF f (h.arrive1 he).1
      · exact h
    · exact h
theorem SimOK.rest {s:Sim} (h:SimOK s):SimOK (restS s):=by
  obtain ⟨g1,g2⟩:=settle_mc h.ok s.depth 4
  exact h.core g1 g2
theorem leave_depth: ∀(l:List Job) (s:Sim),(l.foldl Law.leave1 s).depth=s.depth
  | [],_=>rfl
  |j::l,s=>by
    simp only [List.foldl_cons]
    rw [leave_depth l]
    unfold leave1;split<;>rfl
theorem arrive_depth: ∀(f:Nat) (s:Sim),(arriveF f s).depth=s.depth
  |0,_=>rfl
  |f+1,s=>by
    simp only [arriveF]
    split
    · split
      · rw [arrive_depth f];unfold arrive1;split<;>rfl
      · rfl
    · rfl
theorem SimOK.step {s:Sim} (h:SimOK s):SimOK (stepM s).2∧(stepM s).2.depth=s.depth:=by
  unfold stepM
  split
  · exact ⟨h,rfl⟩
  · refine ⟨SimOK.rest (SimOK.arriveF _ (SimOK.leaveF _ (h.to _)).1),?_⟩
    unfold restS arriveS leaveS
    simp only []
    rw [arrive_depth,leave_depth]
    unfold toS;split<;>rfl
theorem SimOK.run: ∀(f:Nat) {s:Sim},SimOK s→SimOK (runF f s).1∧(runF f s).1.depth=s.depth
  |0,s,h=>⟨h,rfl⟩
  |f+1,s,h=>by
    simp only [runF]
    obtain ⟨g1,g2⟩:=h.step
    split
    · obtain ⟨g3,g4⟩:=SimOK.run f g1
      exact ⟨g3,g4.trans g2⟩
    · exact ⟨g1,g2⟩
end Go.Ax.Law
namespace Go.Ax.O
open Go.Ax.Sp Go.Ax.Law
theorem tklS {α:Type} (l:List α):List.take l.length (List.drop 0 l)=l:=by simp
theorem tklS1 {α:Type} (l:List α) (x:α):List.take (l.length+1) (List.drop 0 (l++[x]))=l++[x]:=by simp [List.take_of_length_le]
theorem vSumS {l:List Int} {k:Unit→Int × Unit→Prop} (h:oSumS (l,()) k):V.vSumS l k:=by
  obtain ⟨hl,h⟩:=h
  have hl:l.length≤1000000:=hl
  have h:k () (addF l,()):=h
  unfold V.vSumS V.LP V.NX V.AI V.NM V.LN
  refine ⟨fun x=>x.2.1=(l.take x.2.2.toNat).foldl (fun s v=>min (s+clampF v) forever) 0∧x.1=l∧0≤x.2.2∧x.2.2≤l.length,fun x=>(l.length-x.2.2).toNat,(l,0,0),⟨rfl,rfl,Int.le_refl _,by simp only [];omega⟩,by simp,?_⟩
  rintro ⟨l',s,i⟩ ⟨e0,e1,g1,g2⟩
  simp only [] at e0 e1 g1 g2
  subst e1
  have hr:=sumS_range (l'.take i.toNat) (s:=0) (by decide)
  rw [←e0] at hr
  refine br_dec (fun hi=>?_) (fun hi=>?_)
  · have hi:i<(l'.length:Int):=hi
    refine ⟨⟨g1,hi⟩,fun e he=>?_⟩
    have hc:=clampS_range e
    have hmin: ∀a:Int,(if 1152921504606846976<a then 1152921504606846976 else a)=min a forever:=fun a=>by unfold forever;split<;>omega
    simp only [clampS_if]
    intro q hq q2 hq2
    rw [w64 (by omega)] at hq
    rw [w64 (by omega)] at hq2
    replace hq:q=s+clampF e:=hq
    replace hq2:q2=i+1:=hq2
    subst hq hq2
    exact ⟨(l',min (s+clampF e) forever,i+1),⟨by simp only [];rw [fold_stepS g1 he,←e0],rfl,by simp only [];omega,by simp only [];omega⟩,⟨⟨hmin _,rfl,rfl,rfl,trivial⟩,trivial⟩,by simp only [];omega⟩
  · have hi: ¬ i<(l'.length:Int):=hi
    rw [List.take_of_length_le (by omega)] at e0
    simp only []
    rw [e0];exact h
theorem vRightE {e:Entry} {k:Unit→Bool × Unit→Prop} (h:oRightE (e,()) k):V.vRightE e k:=by
  have h:k () (rightE e,()):=h
  have hf: ∀{p:Prop},¬ p→(rightE e=true→p)→k () (false,()):=fun hp hh=>by
    have:rightE e=false:=by
      cases hb:rightE e with
      |false=>rfl
      |true=>exact absurd (hh hb) hp
    rw [this] at h;exact h
  unfold V.vRightE V.SH
  refine br_dec (fun g1=>?_) (fun g=>hf g fun hh=>(right_iff.1 hh).1)
  refine br_dec (fun g2=>?_) (fun g=>hf g fun hh=>(right_iff.1 hh).2.1)
  refine br_dec (fun g3=>?_) (fun g=>hf g fun hh=>(right_iff.1 hh).2.2.1)
  refine br_dec (fun g4=>?_) (fun g=>hf g fun hh=>(right_iff.1 hh).2.2.2.1)
  refine br_dec (fun g5=>?_) (fun g=>hf g fun hh=>(right_iff.1 hh).2.2.2.2.1)
  refine br_dec (fun g6=>?_) (fun g=>hf g fun hh=>(right_iff.1 hh).2.2.2.2.2.1)
  refine br_dec (fun g7=>?_) (fun g=>hf g fun hh=>(right_iff.1 hh).2.2.2.2.2.2.1)
  refine br_dec (fun g8=>?_) (fun g=>hf g fun hh=>(right_iff.1 hh).2.2.2.2.2.2.2.1)
  refine br_dec (fun g9=>?_) (fun g=>hf g fun hh=>(right_iff.1 hh).2.2.2.2.2.2.2.2.1)
  refine br_dec (fun g10=>?_) (fun g=>hf g fun hh=>(right_iff.1 hh).2.2.2.2.2.2.2.2.2.1)
  refine br_dec (fun g11=>?_) (fun g=>hf g fun hh=>(right_iff.1 hh).2.2.2.2.2.2.2.2.2.2.1)
  have:rightE e=decide (e.Prio≤1000):=by
    rw [Bool.eq_iff_iff,right_iff,decide_eq_true_eq]
    exact ⟨fun hh=>hh.2.2.2.2.2.2.2.2.2.2.2,fun hh=>⟨g1,g2,g3,g4,g5,g6,g7,g8,g9,g10,g11,hh⟩⟩
  rw [this] at h;exact h
theorem vReqE {e:Entry} {k:Unit→Req × Unit→Prop} (h:oReqE (e,()) k):V.vReqE e k:=h
theorem vNewSi {n d:Int} {l:List Entry} {k:Unit→Option Sim × Int × Unit→Prop} (h:oNewSi (n,d,l,()) k):V.vNewSi n d l k:=by
  obtain ⟨hl,h1,h2⟩:=h
  have hl:l.length≤1000000:=hl
  have h1:(n<1∨64<n∨d<1∨64<d∨1024<l.length)→k () (none,1,()):=h1
  have h2:(1≤n∧n≤64∧1≤d∧d≤64∧l.length≤1024)→((l.any (fun e=>!rightE e)=true→k () (none,5,()))∧(l.any (fun e=>!rightE e)=false→k () (some ⟨⟨newCore n⟩,d,sortE l,0,[],[],[],0,0⟩,0,()))):=h2
  unfold V.vNewSi V.LP V.NX V.AI V.NM V.SH V.LN
  simp only [tklS,Nat.zero_add,Nat.le_refl,true_and]
  refine ⟨fun g=>h1 (by omega),fun g=>br_dec (fun g1=>h1 (by omega)) fun g1=>br_dec (fun g2=>h1 (by omega)) fun g2=>br_dec (fun g3=>h1 (by omega)) fun g3=>?_⟩
  obtain ⟨h3,h4⟩:=h2 (by omega)
  refine ⟨fun x=>x.1=d∧x.2.1=l∧x.2.2.1=newCore n∧0≤x.2.2.2∧x.2.2.2≤l.length∧ ∀e∈l.take x.2.2.2.toNat,rightE e=true,fun x=>(l.length-x.2.2.2).toNat,(d,l,newCore n,0),⟨rfl,rfl,rfl,Int.le_refl _,by simp only [];omega,by simp⟩,by simp,?_⟩
  rintro ⟨d',l',c,i⟩ ⟨e0,e1,e2,p1,p2,e3⟩
  simp only [] at e0 e1 e2 p1 p2 e3
  subst e0 e1 e2
  refine br_dec (fun hi=>?_) (fun hi=>?_)
  · have hi:i<(l'.length:Int):=hi
    refine ⟨⟨p1,hi⟩,fun e he=>br_bool (fun hr=>?_) (fun hr q hq=>?_)⟩
    · exact h3 (List.any_eq_true.2 ⟨e,List.mem_of_getElem? he,hr⟩)
    · rw [w64 (by simp only [];omega)] at hq
      replace hq:q=i+1:=hq
      subst hq
      refine ⟨(d',l',newCore n,i+1),⟨rfl,rfl,rfl,by simp only [];omega,by simp only [];omega,fun e' he'=>?_⟩,by simp,by simp only [];omega⟩
      simp only [] at he'
      rw [show (i+1).toNat=i.toNat+1 by omega,List.take_add_one,he] at he'
      simp only [List.mem_append,Option.toList_some,List.mem_singleton] at he'
      rcases he' with he' |rfl
      · exact e3 e' he'
      · simpa using hr
  · have hi: ¬ i<(l'.length:Int):=hi
    rw [List.take_of_length_le (by omega)] at e3
    have hany:l'.any (fun e=>!rightE e)=false:=by
      rw [Bool.eq_false_iff]
      intro hh
      obtain ⟨e,he,hr⟩:=List.any_eq_true.1 hh
      rw [e3 e he] at hr;cases hr
    refine ⟨⟨fun e he=>?_,by simp only [];omega⟩,h4 hany⟩
    have:=right_iff.1 (e3 e he)
    omega
theorem vNoneSi {s:Sim} {k:Unit→Bool × Unit→Prop} (h:oNoneSi (s,()) k):V.vNoneSi s k:=h
theorem vDoneSi {s:Sim} {j:Job} {k:Unit→Int × Unit→Prop} (h:oDoneSi (s,j,()) k):V.vDoneSi s j k:=by
  obtain ⟨⟨h1,h2,h3⟩,h⟩:=h
  have h1:1≤j.Id:=h1
  have h3:j.Id≤1000000:=h3
  have h2:j.Id≤s.run.length:=h2
  have h:k () (doneS s.run j,()):=h
  unfold V.vDoneSi V.NM V.AI V.SH
  intro q hq
  rw [w64 (by omega)] at hq
  replace hq:q=j.Id-1:=hq
  subst hq
  refine ⟨⟨by omega,by omega⟩,fun e he=>⟨⟨⟨by simp,by simp,?_⟩,trivial⟩,trivial⟩⟩
  unfold doneS at h
  rw [he] at h
  exact h
theorem run_ids {s:Sim} (h:SimOK s) {i:Int} {e:Job} (he:(inJ s.S.C.J.jobs [3])[i.toNat]? =some e):1≤e.Id∧e.Id≤s.run.length∧e.Id≤1000000:=by
  have hm:=List.mem_of_getElem? he
  have:=(inJ_mem hm).1
  obtain ⟨j,hj⟩:=List.getElem?_of_mem this
  have hid:=id_at h.ok.cw hj
  have:=(List.getElem?_eq_some_iff.1 hj).1
  have:=h.rl
  have:=h.ok.cw.1.2.1
  omega
theorem in_le (l:List Job) (st:List Int):(inJ l st).length≤l.length:=List.length_filter_le _ _
theorem spans_le (l:List Job):(spansC l).length≤l.length:=by
  unfold spansC
  exact Nat.le_trans (List.length_filterMap_le _ _) (in_le _ _)
theorem vNextSi {s:Sim} {k:Sim × Unit→Int × Unit→Prop} (h:oNextSi (s,()) k):V.vNextSi s k:=by
  obtain ⟨hs,h⟩:=h
  replace hs:SimOK s:=hs
  have h:k (s,()) (nextS s,()):=h
  have hps:=hs.ps
  have hjl:=hs.ok.cw.1.2.1
  have hil:=in_le s.S.C.J.jobs [3]
  have hsl:=spans_le s.S.C.J.jobs
  unfold V.vNextSi V.LP V.NX V.NM V.SH V.AT V.LN
  simp only [tklS,Nat.zero_add,Nat.le_refl,true_and,and_true]
  have main: ∀t0,t0=headS s→t0≤1152921504606846976→ ∃(I:Sim × Int × List Job × Int→Prop) (m:Sim × Int × List Job × Int→Nat) (x:Sim × Int × List Job × Int),I x∧((t0=x.2.1∧(inJ s.S.C.J.jobs [3]).length=x.2.2.1.length∧((inJ s.S.C.J.jobs [3]).length:Int)=(x.2.2.1.length:Int)∧0=x.2.2.2)∧s=x.1∧inJ s.S.C.J.jobs [3]=x.2.2.1)∧ ∀x,I x→
      br (decide (x.2.2.2<(x.2.2.1.length:Int))) ((0≤x.2.2.2∧x.2.2.2<(x.2.2.1.length:Int))∧x.2.2.2.toNat<x.2.2.1.length∧ ∀e,x.2.2.1[x.2.2.2.toNat]? =some e→(1≤e.Id∧e.Id≤(x.1.run.length:Int)∧e.Id≤1000000)∧3≤[x.2.1,e.End,doneS x.1.run e].length∧[x.2.1,e.End,doneS x.1.run e].length≤1099511627776∧ ∀n,n=IntKind.i64.wrap (x.2.2.2+1)→ ∃y,I y∧((leastI [x.2.1,e.End,doneS x.1.run e]=y.2.1∧x.2.2.1.length=y.2.2.1.length∧(x.2.2.1.length:Int)=(y.2.2.1.length:Int)∧n=y.2.2.2)∧x.1=y.1∧x.2.2.1=y.2.2.1)∧m y<m x)
        (CW x.1.S.C∧ ∃(I:Sim × Int × List Span × Int→Prop) (m:Sim × Int × List Span × Int→Nat) (z:Sim × Int × List Span × Int),I z∧((x.2.1=z.2.1∧(spansC x.1.S.C.J.jobs).length=z.2.2.1.length∧((spansC x.1.S.C.J.jobs).length:Int)=(z.2.2.1.length:Int)∧0=z.2.2.2)∧x.1=z.1∧spansC x.1.S.C.J.jobs=z.2.2.1)∧ ∀x,I x→
          br (decide (x.2.2.2<(x.2.2.1.length:Int))) ((0≤x.2.2.2∧x.2.2.2<(x.2.2.1.length:Int))∧x.2.2.2.toNat<x.2.2.1.length∧ ∀e,x.2.2.1[x.2.2.2.toNat]? =some e→2≤[x.2.1,e.From].length∧[x.2.1,e.From].length≤1099511627776∧ ∀n,n=IntKind.i64.wrap (x.2.2.2+1)→ ∃y,I y∧((leastI [x.2.1,e.From]=y.2.1∧x.2.2.1.length=y.2.2.1.length∧(x.2.2.1.length:Int)=(y.2.2.1.length:Int)∧n=y.2.2.2)∧x.1=y.1∧x.2.2.1=y.2.2.1)∧m y<m x) (k (x.1,()) (x.2.1,()))):=fun t0 ht0 htl=>by
    refine ⟨fun x=>x.1=s∧x.2.2.1=inJ s.S.C.J.jobs [3]∧0≤x.2.2.2∧x.2.2.2≤(inJ s.S.C.J.jobs [3]).length∧x.2.1=((inJ s.S.C.J.jobs [3]).take x.2.2.2.toNat).foldl (fun t j=>min (min t j.End) (doneS s.run j)) (headS s),fun x=>((inJ s.S.C.J.jobs [3]).length-x.2.2.2).toNat,(s,t0,inJ s.S.C.J.jobs [3],0),⟨rfl,rfl,Int.le_refl _,by simp only [];omega,ht0⟩,by simp,?_⟩
    rintro ⟨s',t,l,i⟩ ⟨e0,e1,p1,p2,e3⟩
    simp only [] at e0 e1 p1 p2 e3
    subst e0 e1
    have hle:=min_le1 ((inJ s'.S.C.J.jobs [3]).take i.toNat) s'.run (t:=headS s') (by omega)
    rw [←e3] at hle
    refine br_dec (fun hi=>?_) (fun hi=>⟨hs.ok.cw,?_⟩)
    · have hi:i<((inJ s'.S.C.J.jobs [3]).length:Int):=hi
      refine ⟨⟨p1,hi⟩,by simp only [];omega,fun e he=>⟨run_ids hs he,by simp,by simp,fun q hq=>?_⟩⟩
      rw [w64 (by simp only [];omega)] at hq
      replace hq:q=i+1:=hq
      subst hq
      exact ⟨(s',leastI [t,e.End,doneS s'.run e],inJ s'.S.C.J.jobs [3],i+1),⟨rfl,rfl,by simp only [];omega,by simp only [];omega,by simp only [];rw [fold_stepS p1 he,←e3,least3 hle]⟩,by simp,by simp only [];omega⟩
    · have hi: ¬ i<((inJ s'.S.C.J.jobs [3]).length:Int):=hi
      rw [List.take_of_length_le (by omega)] at e3
      refine ⟨fun x=>x.1=s'∧x.2.2.1=spansC s'.S.C.J.jobs∧0≤x.2.2.2∧x.2.2.2≤(spansC s'.S.C.J.jobs).length∧x.2.1=((spansC s'.S.C.J.jobs).take x.2.2.2.toNat).foldl (fun t x=>min t x.From) t,fun x=>((spansC s'.S.C.J.jobs).length-x.2.2.2).toNat,(s',t,spansC s'.S.C.J.jobs,0),⟨rfl,rfl,Int.le_refl _,by simp only [];omega,rfl⟩,by simp,?_⟩
      rintro ⟨s2,t2,l2,j⟩ ⟨e0,e1,q1,q2,e4⟩
      simp only [] at e0 e1 q1 q2 e4
      subst e0 e1
      have hle2:=min_le2 ((spansC s2.S.C.J.jobs).take j.toNat) (t:=t) hle
      rw [←e4] at hle2
      refine br_dec (fun hj=>?_) (fun hj=>?_)
      · have hj:j<((spansC s2.S.C.J.jobs).length:Int):=hj
        refine ⟨⟨q1,hj⟩,by simp only [];omega,fun e he=>⟨by simp,by simp,fun q hq=>?_⟩⟩
        rw [w64 (by simp only [];omega)] at hq
        replace hq:q=j+1:=hq
        subst hq
        exact ⟨(s2,leastI [t2,e.From],spansC s2.S.C.J.jobs,j+1),⟨rfl,rfl,by simp only [];omega,by simp only [];omega,by simp only [];rw [fold_stepS q1 he,←e4,least2 hle2]⟩,by simp,by simp only [];omega⟩
      · have hj: ¬ j<((spansC s2.S.C.J.jobs).length:Int):=hj
        rw [List.take_of_length_le (by omega)] at e4
        have:t2=nextS s2:=by unfold nextS;rw [e4,e3]
        rw [this];exact h
  refine br_dec (fun hp=>?_) (fun hp=>?_)
  · obtain ⟨e,he⟩: ∃e,s.load[s.pos.toNat]? =some e:=⟨_,List.getElem?_eq_getElem (by omega)⟩
    have hr:=right_iff.1 (hs.ld e (List.mem_of_getElem? he))
    refine ⟨⟨hps.1,hp⟩,by omega,fun e' he'=>?_⟩
    rw [he] at he';cases he'
    exact ⟨⟨hs.ok.cw.1,by decide⟩,main e.At (by unfold headS;rw [he]) (by omega)⟩
  · have hn:s.load[s.pos.toNat]? =none:=List.getElem?_eq_none (by omega)
    exact ⟨⟨hs.ok.cw.1,by decide⟩,main _ (by unfold headS;rw [hn]) (Int.le_refl _)⟩
theorem vArr {s:Sim} {k:Sim × Unit→Unit→Prop} (h:oArr (s,()) k):V.vArr s k:=by
  obtain ⟨hs,h⟩:=h
  replace hs:SimOK s:=hs
  have h:k (arriveS s,()) ():=h
  unfold V.vArr V.LP V.NX V.NM V.SH V.AT V.LN
  simp only [tklS,tklS1,Nat.zero_add,Nat.le_refl,true_and,and_true,and_self,List.length_append,List.length_singleton]
  refine ⟨fun x=>SimOK x∧arriveS x=arriveS s,fun x=>(x.load.length-x.pos).toNat,s,⟨hs,rfl⟩,rfl,?_⟩
  rintro x ⟨hx,he⟩
  have hps:=hx.ps;have hll:=hx.ll;have hlo:=hx.lo;have hen:=hx.en;have hrl:=hx.rl;have hjl:=hx.ok.cw.1.2.1
  refine br_dec (fun hp=>?_) (fun hp=>?_)
  · obtain ⟨e,hge⟩: ∃e,x.load[x.pos.toNat]? =some e:=⟨_,List.getElem?_eq_getElem (by omega)⟩
    refine ⟨⟨hps.1,hp⟩,by omega,fun e' he'=>?_⟩
    rw [hge] at he';cases he'
    refine ⟨hx.ok.cw.2.2,br_dec (fun hat=>⟨⟨hps.1,hp⟩,by omega,fun e' he'=>?_⟩) (fun hat=>?_)⟩
    · rw [hge] at he';cases he'
      have ha:=arriveS_more hx hge hat
      obtain ⟨g1,g2,g3⟩:=hx.arrive1 hge
      have hm:((Law.arrive1 x e).load.length-(Law.arrive1 x e).pos).toNat<(x.load.length-x.pos).toNat:=by rw [g2,g3];omega
      refine ⟨hx.ok,br_ne (fun herr n hn n1 hn1=>?_) (fun herr=>⟨by omega,by omega,fun n hn=>?_⟩)⟩
      · have herr:(doS x.S.C (reqE e)).1.Err≠0:=herr
        have e1:Law.arrive1 x e={x with S:=⟨(doS x.S.C (reqE e)).2⟩,lost:=wr (x.lost+1),pos:=x.pos+1}:=if_pos herr
        rw [w64 (by omega)] at hn1
        subst hn hn1
        exact ⟨Law.arrive1 x e,⟨g1,ha.symm.trans he⟩,e1.symm,hm⟩
      · have herr:(doS x.S.C (reqE e)).1.Err=0:=herr
        have e1:Law.arrive1 x e={x with S:=⟨(doS x.S.C (reqE e)).2⟩,run:=x.run++[e.Run],tentry:=x.tentry++[x.pos],pos:=x.pos+1}:=if_neg (by simpa using herr)
        rw [w64 (by omega)] at hn
        subst hn
        exact ⟨Law.arrive1 x e,⟨g1,ha.symm.trans he⟩,e1.symm,hm⟩
    · have hend:arriveS x=x:=arriveS_end fun e' he'=>by rw [hge] at he';cases he';exact Int.not_le.1 hat
      rw [hend] at he
      rw [he];exact h
  · have hend:arriveS x=x:=arriveS_end fun e' he'=>by
      have:=(List.getElem?_eq_some_iff.1 he').1
      omega
    rw [hend] at he
    rw [he];exact h
theorem vLea {s:Sim} {k:Sim × Unit→Unit→Prop} (h:oLea (s,()) k):V.vLea s k:=by
  obtain ⟨hs,h⟩:=h
  replace hs:SimOK s:=hs
  have h:k (leaveS s,()) ():=h
  have hjl:=hs.ok.cw.1.2.1
  have hil:=in_le s.S.C.J.jobs [3]
  have hids:=fun (i:Int) (e:Job) (he:(inJ s.S.C.J.jobs [3])[i.toNat]? =some e)=>run_ids hs he
  unfold leaveS at h
  unfold V.vLea V.LP V.NX V.NM V.SH V.AT V.LN
  simp only [tklS,Nat.zero_add,Nat.le_refl,true_and,and_true]
  generalize inJ s.S.C.J.jobs [3]=l at h hil hids ⊢
  refine ⟨⟨hs.ok.cw.1,by decide⟩,fun x=>x.2.1=l∧0≤x.2.2∧x.2.2≤l.length∧x.1=(l.take x.2.2.toNat).foldl leave1 s,fun x=>(l.length-x.2.2).toNat,(s,l,0),⟨rfl,Int.le_refl _,by simp only [];omega,rfl⟩,by simp,?_⟩
  rintro ⟨x,l',i⟩ ⟨e0,p1,p2,e1⟩
  simp only [] at e0 p1 p2 e1
  subst e0
  obtain ⟨hx,hxr⟩:=SimOK.leaveF (l'.take i.toNat) hs
  rw [←e1] at hx hxr
  refine br_dec (fun hi=>?_) (fun hi=>?_)
  · have hi:i<(l'.length:Int):=hi
    refine ⟨⟨p1,hi⟩,by simp only [];omega,fun e he=>?_⟩
    have hid:=hids i e he
    refine ⟨by simp only [];rw [hxr];exact hid,hx.ok.cw.2.2,br_dec (fun hd=>⟨hx.ok,fun q hq=>?_⟩) (fun hd q hq=>?_)⟩
    · rw [w64 (by simp only [];omega)] at hq
      replace hq:q=i+1:=hq
      subst hq
      have e2:leave1 x e={x with S:=⟨(doS x.S.C ⟨5,e.Id,0,0,0,0,false,0,0⟩).2⟩}:=if_pos hd
      exact ⟨(leave1 x e,l',i+1),⟨rfl,by simp only [];omega,by simp only [];omega,by simp only [];rw [fold_stepS p1 he,←e1]⟩,⟨⟨rfl,rfl,rfl⟩,e2.symm,rfl⟩,by simp only [];omega⟩
    · rw [w64 (by simp only [];omega)] at hq
      replace hq:q=i+1:=hq
      subst hq
      have e2:leave1 x e=x:=if_neg hd
      exact ⟨(leave1 x e,l',i+1),⟨rfl,by simp only [];omega,by simp only [];omega,by simp only [];rw [fold_stepS p1 he,←e1]⟩,⟨⟨rfl,rfl,rfl⟩,e2.symm,rfl⟩,by simp only [];omega⟩
  · have hi: ¬ i<(l'.length:Int):=hi
    rw [List.take_of_length_le (by omega)] at e1
    simp only []
    rw [e1];exact h
theorem vStepSi {s:Sim} {k:Sim × Unit→Bool × Unit→Prop} (h:oStepSi (s,()) k):V.vStepSi s k:=by
  obtain ⟨⟨hs,hd1,hd2⟩,h⟩:=h
  replace hs:SimOK s:=hs
  have h:k ((stepM s).2,()) ((stepM s).1,()):=h
  unfold stepM at h
  have hnw:=hs.ok.now
  unfold V.vStepSi V.NM V.SH
  simp only [tklS,Nat.zero_add,Nat.le_refl,true_and,and_true]
  refine ⟨hs,br_dec (fun hn=>?_) (fun hn=>?_)⟩
  · rw [if_pos hn] at h;exact h
  · rw [if_neg hn] at h
    have fin: ∀x:Sim,SimOK x→x=toS s (nextS s)→SimOK x∧SimOK (leaveS x)∧(OkS (arriveS (leaveS x)).S.C∧(0:Int)≤4∧(4:Int)≤1000)∧k (restS (arriveS (leaveS x)),()) (true,()):=fun x hx e=>by
      have hl:=(SimOK.leaveF (inJ x.S.C.J.jobs [3]) hx).1
      have ha:=SimOK.arriveF ((leaveS x).load.length-(leaveS x).pos.toNat) hl
      refine ⟨hx,hl,⟨ha.ok,by decide,by decide⟩,?_⟩
      rw [e];exact h
    refine ⟨hs.ok.cw.2.2,br_dec (fun ht=>⟨hs.ok.cw.2.2,fun q hq=>⟨hs.ok,?_⟩⟩) (fun ht=>?_)⟩
    · subst hq
      have e1:toS s (nextS s)={s with S:=⟨(doS s.S.C ⟨9,0,0,0,0,0,false,0,wr (nextS s-nowC s.S.C)⟩).2⟩}:=if_pos ht
      have:=fin _ (hs.to (nextS s)) rfl
      rw [e1] at this
      exact this
    · have e1:toS s (nextS s)=s:=if_neg ht
      have:=fin s hs e1.symm
      exact this
theorem vRunSi {s:Sim} {n:Int} {k:Sim × Unit→List Job × List Int × Int × Int × Bool × Unit→Prop} (h:oRunSi (s,n,()) k):V.vRunSi s n k:=by
  obtain ⟨⟨hs,hd1,hd2,hn⟩,h⟩:=h
  replace hs:SimOK s:=hs
  have hd1:1≤s.depth:=hd1
  have hd2:s.depth≤64:=hd2
  have hn:n≤1000000:=hn
  have h:k ((runM s n).1,()) ((runM s n).1.S.C.J.jobs,(runM s n).1.tentry,(runM s n).1.lost,nowC (runM s n).1.S.C,(runM s n).2,()):=h
  unfold runM at h
  unfold V.vRunSi V.LP V.NX V.NM V.SH
  simp only [tklS,Nat.zero_add,Nat.le_refl,true_and,and_true]
  refine ⟨fun x=>x.2.1=n∧0≤x.2.2∧SimOK x.1∧x.1.depth=s.depth∧runF (n-x.2.2).toNat x.1=runF n.toNat s,fun x=>(n-x.2.2).toNat,(s,n,0),⟨rfl,Int.le_refl _,hs,rfl,by simp⟩,by simp,?_⟩
  rintro ⟨x,n',i⟩ ⟨e0,p1,hx,hdx,e1⟩
  simp only [] at e0 p1 hx hdx e1
  subst e0
  have hst:=hx.step
  refine br_dec (fun hi=>⟨⟨hx,by simp only [];omega,by simp only [];omega⟩,br_not (fun hb=>?_) (fun hb q hq=>?_)⟩) (fun hi=>?_)
  · have hi:i<n':=hi
    have hb:(stepM x).1=false:=hb
    have e2:runF (n'-i).toNat x=((stepM x).2,true):=by
      rw [show (n'-i).toNat=(n'-i-1).toNat+1 by omega]
      simp only [runF,hb];simp
    rw [e2] at e1
    rw [←e1] at h
    have:=hst.1.en
    exact ⟨hst.1.ok.cw.1,hst.1.ok.cw.2.2,by simp only [];omega,h⟩
  · have hi:i<n':=hi
    have hb:(stepM x).1=true:=hb
    rw [w64 (by simp only [];omega)] at hq
    replace hq:q=i+1:=hq
    subst hq
    refine ⟨((stepM x).2,n',i+1),⟨rfl,by simp only [];omega,hst.1,by simp only [];rw [hst.2,hdx],?_⟩,by simp,by simp only [];omega⟩
    simp only []
    rw [←e1,show (n'-i).toNat=(n'-(i+1)).toNat+1 by omega]
    simp only [runF,hb,if_true]
  · have hi: ¬ i<n':=hi
    rw [show (n'-i).toNat=0 by omega] at e1
    simp only [runF] at e1
    rw [←e1] at h
    have:=hx.en
    exact ⟨hx.ok.cw.1,hx.ok.cw.2.2,by simp only [];omega,h⟩
end Go.Ax.O
