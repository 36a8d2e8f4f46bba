import Derived.Test.YtbmabiedmdlinaaGreatDoorAxO40
import Derived.Test.YtbmabiedmdlinaaGreatDoorAxO28
import Derived.Test.YtbmabiedmdlinaaGreatDoorAxV22
import Derived.Test.YtbmabiedmdlinaaGreatDoorAxV9
import Derived.KernelRfl
set_option linter.all false
namespace Go.Ax.Law
structure Found (c:Core) (j:Job) (p:Prof) (r:Prof × List Choice):Prop where
  none:r.2=[]→r.1.steps=c.P.steps∧ ∀u,nowC c≤u→u≤1099511627776→(0≤j.Plan→u<j.Plan)→fitsC c ⟨j.Id,u⟩=false
  some:r.2≠[]→ ∃t,r.2=[⟨j.Id,t⟩]∧nowC c≤t∧t≤1099511627776∧(0≤j.Plan→t<j.Plan)∧fitsC c ⟨j.Id,t⟩=!c.closed∧(∀u,nowC c≤u→u<t→fitsC c ⟨j.Id,u⟩=false)∧(c.closed=false→r.1.steps=(comS c ⟨j.Id,t⟩).2.P.steps)
end Go.Ax.Law
namespace Go.Ax.Law
def KeepP (com:Bool) (a b:Job):Prop:=(b.State=1∧0≤b.Plan∧b.Plan≤a.Plan)∨(0≤b.Start∧b.Start≤a.Plan∧3≤b.State∧(b.Start=a.Plan∨com=true))
theorem KeepP.refl {com:Bool} {a:Job} (h1:a.State=1) (h2:0≤a.Plan):KeepP com a a:= .inl ⟨h1,h2,Int.le_refl _⟩
def Kept (com:Bool) (d:Deed) (l r:List Job):Prop:=l.length≤r.length∧ ∀(i:Nat) (a b:Job),l[i]? =some a→r[i]? =some b→a.State=1→0≤a.Plan→excused d a l r=false→KeepP com a b
theorem Kept.refl {com:Bool} {d:Deed} (l:List Job):Kept com d l l:=⟨Nat.le_refl _,fun i a b h1 h2 h3 h4 _=>by rw [h1] at h2;cases h2;exact .refl h3 h4⟩
theorem Kept.set {com:Bool} {d:Deed} {l:List Job} {n:Nat} {y:Job} (h: ∀a,l[n]? =some a→a.State=1→0≤a.Plan→excused d a l (l.set n y)=false→KeepP com a y):Kept com d l (l.set n y):=by
 refine ⟨by simp,fun i a b h1 h2 h3 h4 h5=>?_⟩
 by_cases hi:n=i
 ·subst hi
  have hl:n<l.length:=(List.getElem?_eq_some_iff.1 h1).1
  rw [List.getElem?_set_self hl] at h2
  cases h2
  exact h a h1 h3 h4 h5
 ·rw [List.getElem?_set_ne hi,h1] at h2
  cases h2;exact .refl h3 h4
theorem selN_due {now:Int} {l:List Job}: ∀n,n≤l.length→0≤selN now l n→ ∃a,l[(selN now l n).toNat]? =some a∧dueJ now a=true
 |0,_,h=>by simp only [selN] at h;omega
 |n+1,hn,h=>by
  have ih:=selN_due (now:=now) (l:=l) n (by omega)
  have hj:l[n]? =some l[n]:=List.getElem?_eq_getElem (by omega)
  simp only [selN,hj] at h ⊢
  split
  ·rename_i hc
   exact ⟨l[n],by simpa using hj,hc.1⟩
  ·rename_i hc
   rw [if_neg hc] at h
   exact ih h
def TickI (L0 l:List Job):Prop:=l.length=L0.length∧ ∀(i:Nat) (a b:Job),L0[i]? =some a→l[i]? =some b→a.State=1→0≤a.Plan→(b=a∨(b.Start=a.Plan∧3≤b.State))
theorem TickI.over {L0 l:List Job} (h:TickI L0 l) (now:Int):TickI L0 (l.map (overJ now)):=by
 refine ⟨by simpa using h.1,fun i a b h1 h2 h3 h4=>?_⟩
 rw [List.getElem?_map,Option.map_eq_some_iff] at h2
 obtain ⟨y,h2,rfl⟩:=h2
 unfold overJ
 rcases h.2 i a y h1 h2 h3 h4 with rfl |⟨g1,g2⟩
 ·rw [if_neg (by omega)];exact .inl rfl
 ·split
  ·exact .inr ⟨g1,by simp⟩
  ·exact .inr ⟨g1,g2⟩
theorem TickI.begin {L0:List Job} {m:Model} (h:TickI L0 m.L) (h0:0≤selN m.Now m.L m.L.length):TickI L0 (beginM m (selN m.Now m.L m.L.length)).L:=by
 obtain ⟨y,e1,e2⟩:=selN_due (now:=m.Now) (l:=m.L) _ (Nat.le_refl _) h0
 unfold beginM
 rw [e1]
 have hy:y.State=1∧0≤y.Plan∧y.Plan=m.Now:=by
  unfold dueJ plannedJ at e2
  simp at e2
  omega
 refine ⟨by simpa using h.1,fun i a b h1 h2 h3 h4=>?_⟩
 simp only [] at h2
 by_cases hi:(selN m.Now m.L m.L.length).toNat=i
 ·subst hi
  have hl:=(List.getElem?_eq_some_iff.1 e1).1
  rw [List.getElem?_set_self hl] at h2
  cases h2
  rcases h.2 _ a y h1 e1 h3 h4 with rfl |⟨g1,g2⟩
  ·exact .inr ⟨hy.2.2.symm,by simp [beginJm]⟩
  ·omega
 ·rw [List.getElem?_set_ne hi] at h2
  exact h.2 i a b h1 h2 h3 h4
theorem TickI.beginF {L0:List Job}: ∀(f:Nat) {m:Model},TickI L0 m.L→TickI L0 (beginF f m).L
 |0,_,h=>h
 |f+1,m,h=>by
  simp only [Law.beginF]
  split
  ·rename_i h0;exact TickI.beginF f (h.begin h0)
  ·exact TickI.beginF f h
theorem TickI.happen {L0:List Job} {m:Model} (h:TickI L0 m.L):TickI L0 (happenM m).L:=TickI.beginF _ (m:={m with L:=m.L.map (overJ m.Now)}) (h.over _)
theorem TickI.tickF {L0:List Job} (to:Int): ∀(f:Nat) {m:Model},TickI L0 m.L→TickI L0 (tickF f to m).L
 |0,_,h=>h
 |f+1,m,h=>by
  simp only [Law.tickF]
  split
  ·exact h
  ·exact TickI.tickF to f (TickI.happen (m:={m with Now:=nextM m}) h)
theorem TickI.refl (l:List Job):TickI l l:=⟨rfl,fun i a b h1 h2 _ _=>by rw [h1] at h2;cases h2;exact .inl rfl⟩
theorem getM_some {m:Model} {id:Int} (h:(getM m id).2=true):1≤id∧id≤m.L.length∧m.L[(id-1).toNat]? =some (getM m id).1:=by
 unfold getM at h ⊢
 split at h
 ·cases h
 ·rename_i hc
  rw [if_neg hc]
  have:(id-1).toNat<m.L.length:=by omega
  rw [List.getElem?_eq_getElem this]
  exact ⟨by omega,by omega,rfl⟩
end Go.Ax.Law
namespace Go.Ax.Law
open Go.Ax.O
def LowJ (now:Int) (a b:Job):Prop:=(a.State≠1→b=a)∧(a.State=1→(b.State=3∧b.Start=now)∨(b.State=1∧(0≤a.Plan→0≤b.Plan∧b.Plan≤a.Plan)))
def LowL (now:Int) (l r:List Job):Prop:=r.length=l.length∧ ∀(i:Nat) (a b:Job),l[i]? =some a→r[i]? =some b→LowJ now a b
theorem LowJ.refl (now:Int) (a:Job):LowJ now a a:=⟨fun _=>rfl,fun h=> .inr ⟨h,fun h2=>⟨h2,Int.le_refl _⟩⟩⟩
theorem LowL.refl (now:Int) (l:List Job):LowL now l l:=⟨rfl,fun i a b h1 h2=>by rw [h1] at h2;cases h2;exact .refl now a⟩
theorem fitsM_some {m:Model} {x:Choice} (h:fitsM m x=true): ∃(i:Nat) (j:Job),x.Id=(i:Int)+1∧m.L[i]? =some j∧(getM m x.Id).1=j∧j.State=1∧m.Now≤x.At∧x.At≤1099511627776∧ ¬ (0≤j.Plan∧j.Plan≤x.At):=by
  unfold fitsM at h
  simp only [] at h
  split at h
  · cases h
  · rename_i hc
    have hg:(getM m x.Id).2=true:=by
      cases hb:(getM m x.Id).2 with
      |true=>rfl
      |false=>exact absurd (.inr (.inl hb)) hc
    obtain ⟨g1,g2,g3⟩:=getM_some hg
    refine ⟨(x.Id-1).toNat,(getM m x.Id).1,by omega,g3,rfl,?_,?_,?_,?_⟩
    · refine Decidable.byContradiction fun hh=>hc ?_
      exact .inr (.inr (.inl hh))
    · refine Decidable.byContradiction fun hh=>hc ?_
      exact .inr (.inr (.inr (.inl (by omega))))
    · refine Decidable.byContradiction fun hh=>hc ?_
      exact .inr (.inr (.inr (.inr (.inl (by omega)))))
    · exact fun hh=>hc (.inr (.inr (.inr (.inr (.inr hh)))))
theorem commit_jobs (m:Model) (x:Choice):(commitM m x).2.Now=m.Now∧(commitM m x).2.Closed=m.Closed∧(commitM m x).2.Drain=m.Drain∧((commitM m x).2.L=m.L∨
    ∃(i:Nat) (j b:Job),x.Id=(i:Int)+1∧m.L[i]? =some j∧j.State=1∧ ¬ (0≤j.Plan∧j.Plan≤x.At)∧m.Now≤x.At∧(commitM m x).2.L=m.L.set i b∧b.Id=j.Id∧((b.State=3∧b.Start=m.Now∧b.End=m.Now+j.Limit∧x.At=m.Now)∨(b={j with Plan:=x.At}∧m.Now<x.At))):=by
  unfold commitM
  cases hf:fitsM m x with
  |false=>exact ⟨rfl,rfl,rfl,.inl rfl⟩
  |true=>
    obtain ⟨i,j,h1,h2,h3,h4,h5,h6,h7⟩:=fitsM_some hf
    have hi:(x.Id-1).toNat=i:=by omega
    rw [if_neg (by decide)]
    by_cases hn:x.At=m.Now
    · rw [if_pos hn]
      have hb:beginM m (x.Id-1)={m with L:=m.L.set i (beginJm m j)}:=by unfold beginM;rw [hi,h2]
      simp only []
      rw [hb]
      exact ⟨rfl,rfl,rfl,.inr ⟨i,j,beginJm m j,h1,h2,h4,h7,h5,rfl,rfl,.inl ⟨rfl,rfl,rfl,hn⟩⟩⟩
    · rw [if_neg hn]
      refine ⟨rfl,rfl,rfl,.inr ⟨i,j,{j with Plan:=x.At},h1,h2,h4,h7,h5,?_,rfl,.inr ⟨rfl,by omega⟩⟩⟩
      simp only []
      rw [hi,h3]
theorem commit_low {m:Model} {L0:List Job} (h:LowL m.Now L0 m.L) (h0:0≤m.Now) (x:Choice):LowL m.Now L0 (commitM m x).2.L:=by
  obtain ⟨_,_,_,h1 |⟨i,j,b,g1,g2,g3,g4,g5,g6,g7,g8⟩⟩:=commit_jobs m x
  · rw [h1];exact h
  · rw [g6]
    refine ⟨by rw [List.length_set];exact h.1,fun k a q ha hq=>?_⟩
    by_cases hk:i=k
    · subst hk
      rw [List.getElem?_set_self (List.getElem?_eq_some_iff.1 g2).1] at hq
      cases hq
      obtain ⟨k1,k2⟩:=h.2 i a j ha g2
      by_cases ha1:a.State=1
      · refine ⟨fun hh=>absurd ha1 hh,fun _=>?_⟩
        rcases g8 with ⟨p1,p2,_⟩ |⟨p1,p2⟩
        · exact .inl ⟨p1,p2⟩
        · refine .inr ⟨by rw [p1];exact g3,fun hp=>?_⟩
          rcases k2 ha1 with ⟨k3,_⟩ |⟨_,k3⟩
          · omega
          · have:=k3 hp
            rw [p1]
            simp only []
            omega
      · rw [k1 ha1] at g3;exact absurd g3 ha1
    · rw [List.getElem?_set_ne hk] at hq
      exact h.2 k a q ha hq
theorem comS_next {n:Nat} {c:Core} {m:Model} (h:Stb n c m) (x:Choice):Stb n (comS c x).2 (commitM m x).2∧nowC (comS c x).2=nowC c∧(comS c x).2.closed=c.closed:=by
  have h1:=(comS_stb h x).2
  obtain ⟨a1,a2,_⟩:=commit_jobs m x
  exact ⟨h1,h1.rep.now.symm.trans (a1.trans h.rep.now),h1.rep.closed.symm.trans (a2.trans h.rep.closed)⟩
theorem pass_low {n:Nat}: ∀(l:List Choice) {c:Core} {m:Model} {L0:List Job} (t:Int) (s:List Int),Stb n c m→LowL (nowC c) L0 c.J.jobs→
    (∃m',Stb n (passF c t s l).1 m')∧nowC (passF c t s l).1=nowC c∧(passF c t s l).1.closed=c.closed∧LowL (nowC c) L0 (passF c t s l).1.J.jobs
  | [],c,m,L0,t,s,h,hl=>⟨⟨m,h⟩,rfl,rfl,hl⟩
  |x::l,c,m,L0,t,s,h,hl=>by
    obtain ⟨h1,h2,h3⟩:=comS_next h x
    have h4:LowL (nowC (comS c x).2) L0 (comS c x).2.J.jobs:=by
      rw [h2,←h1.rep.jobs]
      have:=commit_low (m:=m) (L0:=L0) (by rw [h.rep.now,h.rep.jobs];exact hl) (by rw [h.rep.now];exact h.rep.deep.nw.1) x
      rw [h.rep.now] at this;exact this
    rw [passF]
    split
    · obtain ⟨a1,a2,a3,a4⟩:=pass_low l t s h1 h4
      exact ⟨a1,a2.trans h2,a3.trans h3,by rw [h2] at a4;exact a4⟩
    · obtain ⟨a1,a2,a3,a4⟩:=pass_low l (t+1) (if (getJ (comS c x).2.J.jobs x.Id).1.State=3 then s++[x.Id] else s) h1 h4
      exact ⟨a1,a2.trans h2,a3.trans h3,by rw [h2] at a4;exact a4⟩
theorem wait_mem {c:Core} {j:Job} (h:j∈waitC c):j∈c.J.jobs∧j.State=1:=by
  have:=(sort_perm _).mem_iff.1 h
  obtain ⟨h1,h2⟩:=inJ_mem this
  exact ⟨h1,by simpa using h2⟩
theorem wait_64 {n:Nat} {c:Core} (h:Deep n c):(waitC c).length≤64:=by
  have h1:=h.l64
  have h2:(inJ c.J.jobs [1]).length≤c.J.jobs.countP liveJ:=by
    unfold inJ
    rw [←List.countP_eq_length_filter]
    refine List.countP_mono_left fun j _ hj=>?_
    unfold liveJ
    simp at hj ⊢;omega
  unfold liveN at h1
  unfold waitC;rw [sort_len];omega
end Go.Ax.Law
namespace Go.Ax.Law
def foreJ (t:Core) (j:Job):List Told37:=
 let x:=(getJ t.J.jobs j.Id).1
 if x.State=3 then [⟨x.Id,x.Start,x.End⟩] else if 0≤x.Plan then [⟨x.Id,x.Plan,wr (x.Plan+x.Limit)⟩] else []
def foreC (c:Core):List Told37:=(waitC c).flatMap (foreJ (passS c 64).2)
def emptyC (c:Core):Int:=
 if (foreC c).length<(waitC c).length then-1 else (inJ c.J.jobs [3]).foldl (fun t j=>max t j.End) ((foreC c).foldl (fun t x=>max t x.End) (nowC c))
end Go.Ax.Law
namespace Go.Ax.Sp
def sPassD:Sig:=⟨[(.int .i64,false),(.imm .deed,false),(.int .i64,false)],[.bool]⟩
def oPassD:sPassD.Out:=fun _ k=>k () (true,())
end Go.Ax.Sp
namespace Go.Ax.V
open Go.Ax.Sp Go.Ax.Law List Int IntKind
set_option maxRecDepth 100000
end Go.Ax.V
namespace Go.Ax.V
open Go.Ax.Sp Go.Ax.Law List Int IntKind
set_option maxRecDepth 100000
end Go.Ax.V
namespace Go.Ax.Law
theorem OkS.pass {c:Core} (h:OkS c) (d:Int):OkS (passS c d).2:=by
 obtain ⟨n,m,h⟩:=h
 unfold passS
 split
 ·exact ⟨n,m,h⟩
 ·obtain ⟨⟨m',h'⟩,_⟩:=pass_low (planA c.P d (itemsC c)).1 0 [] h (LowL.refl _ _)
  exact ⟨n,m',h'⟩
theorem OkS.low {c:Core} (h:OkS c) (d:Int):LowL (nowC c) c.J.jobs (passS c d).2.J.jobs∧nowC (passS c d).2=nowC c:=by
 obtain ⟨n,m,h⟩:=h
 unfold passS
 split
 ·exact ⟨LowL.refl _ _,rfl⟩
 ·obtain ⟨_,h2,_,h4⟩:=pass_low (planA c.P d (itemsC c)).1 0 [] h (LowL.refl _ _)
  exact ⟨h4,h2⟩
end Go.Ax.Law
namespace Go.Ax.O
open Go.Ax.Sp Go.Ax.Law
end Go.Ax.O
namespace Go.Ax.Law
def whatC (c:Core) (r:Req):Int:=
 if r.Kind≠1 then-1 else if (doS c r).1.Err≠0 then-1
 else match (foreC (doS c r).2).find? fun y=>decide (y.Id=(doS c r).1.Id) with |some y=>y.Start |none=> -1
end Go.Ax.Law
namespace Go.Ax.Sp
def sStarts:Sig:=⟨[(.obj .sched,true)],[.row .told37]⟩
def oStarts:sStarts.Out:=fun x k=>Law.OkS x.1.C∧k (x.1,()) (Law.foreC x.1.C,())
def sEmptyF:Sig:=⟨[(.obj .sched,true)],[.int .i64]⟩
def oEmptyF:sEmptyF.Out:=fun x k=>Law.OkS x.1.C∧k (x.1,()) (Law.emptyC x.1.C,())
def sWhat:Sig:=⟨[(.obj .sched,true),(.elem .req,false)],[.int .i64]⟩
def oWhat:sWhat.Out:=fun x k=>Law.OkS x.1.C∧k (x.1,()) (Law.whatC x.1.C x.2.1,())
def lStarts:LoopAnn:={X:=Core × Core × List Job × List Told37 × Int,live:=fun x=>[(0,.ptr ⟨0,0,0,0⟩),(3,.ptr ⟨1,0,0,0⟩),(4,.sl 9 3 0 x.2.2.2.1.length),(22,.sl 8 10 0 x.2.2.1.length),(23,.int .i64 x.2.2.1.length),(24,.int .i64 x.2.2.2.2)],heap:=fun x=>[some (.obj .sched ⟨x.1⟩),some (.obj .sched ⟨x.2.1⟩),none,none,none,none,none,none,some (.row .job x.2.2.1),some (.row .told37 x.2.2.2.1)],norm:=[.fold 0 .sched,.fold 1 .sched,.row 4 .told37,.home 4 9]}
def lStartL:LoopAnn:={X:=Core × Core × List Job × List Told37 × Int,live:=fun x=>[(0,.ptr ⟨0,0,0,0⟩),(3,.ptr ⟨1,0,0,0⟩),(4,.sl 8 10 0 x.2.2.1.length),(5,.sl 9 3 0 x.2.2.2.1.length),(6,.int .i64 x.2.2.2.2)],heap:=fun x=>[some (.obj .sched ⟨x.1⟩),some (.obj .sched ⟨x.2.1⟩),none,none,none,none,none,none,some (.row .job x.2.2.1),some (.row .told37 x.2.2.2.1)],norm:=[.fold 0 .sched,.fold 1 .sched,.row 5 .told37,.home 5 9]}
def lEmptyF1:LoopAnn:={X:=Core × Int × List Told37 × Int,live:=fun x=>[(0,.ptr ⟨0,0,0,0⟩),(4,.int .i64 x.2.1),(40,.sl 2 3 0 x.2.2.1.length),(41,.int .i64 x.2.2.1.length),(42,.int .i64 x.2.2.2)],heap:=fun x=>[some (.obj .sched ⟨x.1⟩),none,some (.row .told37 x.2.2.1)],norm:=[.fold 0 .sched]}
def lWhat:LoopAnn:={X:=Core × Reply × List Told37 × Int,live:=fun x=>[(0,.ptr ⟨0,0,0,0⟩),(6,.ptr ⟨3,0,0,0⟩),(25,.sl 4 3 0 x.2.2.1.length),(26,.int .i64 x.2.2.1.length),(27,.int .i64 x.2.2.2)],heap:=fun x=>[some (.obj .sched ⟨x.1⟩),none,none,some (.raw (EK.enc .reply x.2.1)),some (.row .told37 x.2.2.1)],norm:=[.fold 0 .sched]}
def lEmptyF2:LoopAnn:={X:=Core × Int × List Job × Int,live:=fun x=>[(0,.ptr ⟨0,0,0,0⟩),(4,.int .i64 x.2.1),(59,.sl 8 10 0 x.2.2.1.length),(60,.int .i64 x.2.2.1.length),(61,.int .i64 x.2.2.2)],heap:=fun x=>[some (.obj .sched ⟨x.1⟩),none,none,none,none,none,none,none,some (.row .job x.2.2.1)],norm:=[.fold 0 .sched]}
end Go.Ax.Sp
namespace Go.Ax.V
open Go.Ax.Sp Go.Ax.Law List Int IntKind
set_option maxRecDepth 100000
def vStarts (s:Sched) (k:Sched × Unit→List Told37 × Unit→Prop):Prop:=
SH (sortJ (inJ s.C.J.jobs [1])) fun s0=>CW s.C∧OkS s.C∧JW s.C.J∧LP (Core × Core × List Job × List Told37 × Int) (fun x=>(0=0∧0=0∧(0=0∧0=length x.2.2.2.1)∧(0=0∧length s0=length x.2.2.1)∧LN s0=LN x.2.2.1∧0=x.2.2.2.2∧True)∧s=Sched.mk x.1∧Sched.mk (passS s.C 64).2=Sched.mk x.2.1∧s0=x.2.2.1∧[]=x.2.2.2.1∧True) fun I m x=>SH (length x.2.2.2.1) fun s1=>SH x.2.1.J.jobs fun s2=>SH x.2.2.1 fun s3=>SH x.2.2.2 fun s4=>SH (take s1 (drop 0 s4.1)) fun s5=>SH (Sched.mk x.2.1) fun s6=>SH (length s3) fun s7=>SH (s4.2+1) fun s8=>SH (NM s8 fun n=>NX I m x fun y=>(0=0∧0=0∧(0=0∧s1=length y.2.2.2.1)∧(0=0∧s7=length y.2.2.1)∧LN s3=LN y.2.2.1∧n=y.2.2.2.2∧True)∧Sched.mk x.1=Sched.mk y.1∧s6=Sched.mk y.2.1∧s3=y.2.2.1∧s4.1=y.2.2.2.1∧True) fun s9=>SH (s1+1≤68719476736) fun s10=>SH (0+s1≤s1) fun s11=>br (decide (s4.2<LN s3)) (AT s3 s4.2 fun e=>SH (getJ s2 e.Id).1 fun s12=>SH (s5++[Told37.mk s12.Id s12.Start s12.End]) fun s13=>SH (br (s12.State==3) (1≤1∧s11∧s10∧NM s8 fun n=>NX I m x fun y=>(0=0∧0=0∧(0=0∧s1+1=length y.2.2.2.1)∧(0=0∧s7=length y.2.2.1)∧LN s3=LN y.2.2.1∧n=y.2.2.2.2∧True)∧Sched.mk x.1=Sched.mk y.1∧s6=Sched.mk y.2.1∧s3=y.2.2.1∧s13=y.2.2.2.1∧True) (br (decide (s12.Plan≥0)) (NM (s12.Plan+s12.Limit) fun n=>1≤1∧s11∧s10∧NM s8 fun n_1=>NX I m x fun y=>(0=0∧0=0∧(0=0∧s1+1=length y.2.2.2.1)∧(0=0∧s7=length y.2.2.1)∧LN s3=LN y.2.2.1∧n_1=y.2.2.2.2∧True)∧Sched.mk x.1=Sched.mk y.1∧s6=Sched.mk y.2.1∧s3=y.2.2.1∧s5++[Told37.mk s12.Id s12.Plan n]=y.2.2.2.1∧True) s9)∧True) fun s14=>(JW x.2.1.J∧s14∧True)∧((JW x.2.1.J∧s14)∧True)∧True) (s1=s1∧k (Sched.mk x.1,()) (s4.1,()))
def vStartL (s:Sched) (k:Sched × Unit→List Told37 × Unit→Prop):Prop:=
SH (sortJ (inJ s.C.J.jobs [1])) fun s0=>CW s.C∧OkS s.C∧JW s.C.J∧LP (Core × Core × List Job × List Told37 × Int) (fun x=>(0=0∧0=0∧(0=0∧length s0=length x.2.2.1)∧(0=0∧0=length x.2.2.2.1)∧0=x.2.2.2.2∧True)∧s=Sched.mk x.1∧Sched.mk (passS s.C 64).2=Sched.mk x.2.1∧s0=x.2.2.1∧[]=x.2.2.2.1∧True) fun I m x=>SH (length x.2.2.2.1) fun s1=>SH x.2.1.J.jobs fun s2=>SH x.2.2.2 fun s3=>SH x.2.2.1 fun s4=>SH (take s1 (drop 0 s3.1)) fun s5=>SH (Sched.mk x.2.1) fun s6=>SH (length s4) fun s7=>SH (s3.2+1) fun s8=>SH (NM s8 fun n=>NX I m x fun y=>(0=0∧0=0∧(0=0∧s7=length y.2.2.1)∧(0=0∧s1=length y.2.2.2.1)∧n=y.2.2.2.2∧True)∧Sched.mk x.1=Sched.mk y.1∧s6=Sched.mk y.2.1∧s4=y.2.2.1∧s3.1=y.2.2.2.1∧True) fun s9=>SH (s1+1≤68719476736) fun s10=>SH (0+s1≤s1) fun s11=>br (decide (s3.2<LN s4)) (AT s4 s3.2 fun e=>SH (getJ s2 e.Id).1 fun s12=>SH (s5++[Told37.mk s12.Id s12.Start s12.End]) fun s13=>SH (br (s12.State==3) (1≤1∧s11∧s10∧NM s8 fun n=>NX I m x fun y=>(0=0∧0=0∧(0=0∧s7=length y.2.2.1)∧(0=0∧s1+1=length y.2.2.2.1)∧n=y.2.2.2.2∧True)∧Sched.mk x.1=Sched.mk y.1∧s6=Sched.mk y.2.1∧s4=y.2.2.1∧s13=y.2.2.2.1∧True) (br (decide (s12.Plan≥0)) (NM (s12.Plan+s12.Limit) fun n=>1≤1∧s11∧s10∧NM s8 fun n_1=>NX I m x fun y=>(0=0∧0=0∧(0=0∧s7=length y.2.2.1)∧(0=0∧s1+1=length y.2.2.2.1)∧n_1=y.2.2.2.2∧True)∧Sched.mk x.1=Sched.mk y.1∧s6=Sched.mk y.2.1∧s4=y.2.2.1∧s5++[Told37.mk s12.Id s12.Plan n]=y.2.2.2.1∧True) s9)∧True) fun s14=>(JW x.2.1.J∧s14∧True)∧((JW x.2.1.J∧s14)∧True)∧True) (s1=s1∧k (Sched.mk x.1,()) (s3.1,()))
def vEmptyF (s:Sched) (k:Sched × Unit→Int × Unit→Prop):Prop:=
OkS s.C∧JW s.C.J∧br (decide (LN (foreC s.C)<LN (sortJ (inJ s.C.J.jobs [1])))) (k (s,()) ((-1),())) (PW s.C.P∧LP (Core × Int × List Told37 × Int) (fun x=>(0=0∧nowL s.C.P.steps=x.2.1∧(0=0∧length (foreC s.C)=length x.2.2.1)∧LN (foreC s.C)=LN x.2.2.1∧0=x.2.2.2∧True)∧s=Sched.mk x.1∧foreC s.C=x.2.2.1∧True) fun I m x=>SH (inJ x.1.J.jobs [3]) fun s0=>br (decide (x.2.2.2<LN x.2.2.1)) (AT x.2.2.1 x.2.2.2 fun e=>NM (x.2.2.2+1) fun n=>NX I m x fun y=>(0=0∧(if e.End>x.2.1 then e.End else x.2.1)=y.2.1∧(0=0∧length x.2.2.1=length y.2.2.1)∧LN x.2.2.1=LN y.2.2.1∧n=y.2.2.2∧True)∧Sched.mk x.1=Sched.mk y.1∧x.2.2.1=y.2.2.1∧True) (1≤1∧(JW x.1.J∧1≤1000)∧LP (Core × Int × List Job × Int) (fun x_1=>(0=0∧x.2.1=x_1.2.1∧(0=0∧length s0=length x_1.2.2.1)∧LN s0=LN x_1.2.2.1∧0=x_1.2.2.2∧True)∧Sched.mk x.1=Sched.mk x_1.1∧s0=x_1.2.2.1∧True) fun I m x=>br (decide (x.2.2.2<LN x.2.2.1)) (AT x.2.2.1 x.2.2.2 fun e=>NM (x.2.2.2+1) fun n=>NX I m x fun y=>(0=0∧(if e.End>x.2.1 then e.End else x.2.1)=y.2.1∧(0=0∧length x.2.2.1=length y.2.2.1)∧LN x.2.2.1=LN y.2.2.1∧n=y.2.2.2∧True)∧Sched.mk x.1=Sched.mk y.1∧x.2.2.1=y.2.2.1∧True) (k (Sched.mk x.1,()) (x.2.1,()))))
def vWhat (s:Sched) (r:Req) (k:Sched × Unit→Int × Unit→Prop):Prop:=
SH (doS s.C r) fun s0=>CW s.C∧br (!r.Kind==1) (k (s,()) ((-1),())) (OkS s.C∧br (!s0.1.Err==0) (k (s,()) ((-1),())) (OkS s0.2∧LP (Core × Reply × List Told37 × Int) (fun x=>(0=0∧0=0∧(0=0∧length (foreC s0.2)=length x.2.2.1)∧LN (foreC s0.2)=LN x.2.2.1∧0=x.2.2.2∧True)∧s=Sched.mk x.1∧(s0.1.Err=x.2.1.Err∧s0.1.Id=x.2.1.Id∧s0.1.State=x.2.1.State∧s0.1.Start=x.2.1.Start∧s0.1.End=x.2.1.End∧s0.1.Plan=x.2.1.Plan∧s0.1.A=x.2.1.A∧s0.1.B=x.2.1.B∧s0.1.C=x.2.1.C∧True)∧foreC s0.2=x.2.2.1∧True) fun I m x=>br (decide (x.2.2.2<LN x.2.2.1)) (AT x.2.2.1 x.2.2.2 fun e=>br (e.Id==x.2.1.Id) (k (Sched.mk x.1,()) (e.Start,())) (NM (x.2.2.2+1) fun n=>NX I m x fun y=>(0=0∧0=0∧(0=0∧length x.2.2.1=length y.2.2.1)∧LN x.2.2.1=LN y.2.2.1∧n=y.2.2.2∧True)∧Sched.mk x.1=Sched.mk y.1∧(x.2.1.Err=y.2.1.Err∧x.2.1.Id=y.2.1.Id∧x.2.1.State=y.2.1.State∧x.2.1.Start=y.2.1.Start∧x.2.1.End=y.2.1.End∧x.2.1.Plan=y.2.1.Plan∧x.2.1.A=y.2.1.A∧x.2.1.B=y.2.1.B∧x.2.1.C=y.2.1.C∧True)∧x.2.2.1=y.2.2.1∧True)) (k (Sched.mk x.1,()) ((-1),()))))
def vAwakeF (u:Unit) (k:Unit→Bool × Unit→Prop):Prop:=
((4:Int)<1∨(64:Int)<4→k () (false,()))∧((1:Int)≤4∧(4:Int)≤64→OkS (newCore (4:Int))∧br (whatC (newCore (4:Int)) (Req.mk (1:Int) (0:Int) (0:Int) (4:Int) (9:Int) (0:Int) false (0:Int) (0:Int))==0) (k () (true,())) (k () (false,())))
end Go.Ax.V
namespace Go.Ax.Law
theorem foreJ_len (t:Core) (j:Job):(foreJ t j).length≤1:=by
 unfold foreJ;simp only [];split
 ·simp
 ·split<;>simp
theorem fore_flat (t:Core): ∀l:List Job,(l.flatMap (foreJ t)).length≤l.length
 | []=>by simp
 |j::l=>by
  have h1:=foreJ_len t j
  have h2:=fore_flat t l
  simp only [List.flatMap_cons,List.length_append,List.length_cons];omega
theorem wait_le64 {c:Core} (h:OkS c):(waitC c).length≤64:=by
 obtain ⟨n,m,h⟩:=h;exact wait_64 h.rep.deep
theorem fore_len {c:Core} (h:OkS c):(foreC c).length≤64:=by
 have h1:=fore_flat (passS c 64).2 (waitC c)
 have h2:=wait_le64 h
 unfold foreC;omega
end Go.Ax.Law
namespace Go.Ax.O
open Go.Ax.Sp Go.Ax.Law
theorem vStarts {s:Sched} {k:Sched × Unit→List Told37 × Unit→Prop} (h:oStarts (s,()) k):V.vStarts s k:=by
 obtain ⟨hs,h⟩:=h
 obtain ⟨c0⟩:=s
 replace hs:OkS c0:=hs
 have h:k (⟨c0⟩,()) (foreC c0,()):=h
 have h64:=wait_le64 hs
 have hp:=hs.pass 64
 unfold V.vStarts V.LP V.NX V.AT V.NM V.SH V.LN
 refine ⟨hs.cw,hs,hs.cw.1,fun x=>x.1=c0∧x.2.1=(passS c0 64).2∧x.2.2.1=waitC c0∧0≤x.2.2.2.2∧x.2.2.2.2≤(waitC c0).length∧x.2.2.2.1=((waitC c0).take x.2.2.2.2.toNat).flatMap (foreJ (passS c0 64).2)∧x.2.2.2.1.length≤x.2.2.2.2,fun x=>((waitC c0).length-x.2.2.2.2).toNat,
  (c0,(passS c0 64).2,waitC c0,[],0),⟨rfl,rfl,rfl,by simp,by simp only [];omega,by simp,by simp⟩,⟨⟨rfl,rfl,⟨rfl,rfl⟩,⟨rfl,rfl⟩,rfl,rfl,trivial⟩,rfl,rfl,rfl,rfl,trivial⟩,?_⟩
 rintro ⟨c,t,ws,out,i⟩ ⟨e0,e1,e2,g1,g2,e3,g3⟩
 simp only [] at e0 e1 e2 g1 g2 e3 g3
 subst e0 e1 e2
 refine br_dec (fun hl=>?_) (fun hl=>?_)
 ·have hl:i<((waitC c).length:Int):=hl
  refine ⟨⟨g1,hl⟩,by simp only [];omega,fun e he=>?_⟩
  have he:(waitC c)[i.toNat]? =some e:=by rw [←he];simp
  have htk:(waitC c).take (i.toNat+1)=(waitC c).take i.toNat++[e]:=by rw [List.take_add_one,he];simp
  have nx: ∀a b,a=i+1→b=out++foreJ (passS c 64).2 e→ ∃y:Core × Core × List Job × List Told37 × Int,(y.1=c∧y.2.1=(passS c 64).2∧y.2.2.1=waitC c∧0≤y.2.2.2.2∧y.2.2.2.2≤(waitC c).length∧y.2.2.2.1=((waitC c).take y.2.2.2.2.toNat).flatMap (foreJ (passS c 64).2)∧y.2.2.2.1.length≤y.2.2.2.2)∧y=(c,(passS c 64).2,waitC c,b,a)∧((waitC c).length-y.2.2.2.2).toNat<((waitC c).length-i).toNat:=fun a b h1 h2=>by
   subst h1 h2
   have:=foreJ_len (passS c 64).2 e
   refine ⟨_,⟨rfl,rfl,rfl,by simp only [];omega,by simp only [];omega,?_,by simp only [List.length_append];omega⟩,rfl,by simp only [];omega⟩
   simp only [];rw [show (i+1).toNat=i.toNat+1 by omega,htk,e3];simp
  have key: ∀{A:Prop},A→(JW (passS c 64).2.J∧(A∧True)∧True)∧((JW (passS c 64).2.J∧A∧True)∧True)∧True:=fun {A} ha=>⟨⟨hp.cw.1,⟨ha,trivial⟩,trivial⟩,⟨⟨hp.cw.1,ha,trivial⟩,trivial⟩,trivial⟩
  have hf:foreJ (passS c 64).2 e=if (getJ (passS c 64).2.J.jobs e.Id).1.State=3 then [⟨(getJ (passS c 64).2.J.jobs e.Id).1.Id,(getJ (passS c 64).2.J.jobs e.Id).1.Start,(getJ (passS c 64).2.J.jobs e.Id).1.End⟩] else if 0≤(getJ (passS c 64).2.J.jobs e.Id).1.Plan then [⟨(getJ (passS c 64).2.J.jobs e.Id).1.Id,(getJ (passS c 64).2.J.jobs e.Id).1.Plan,wr ((getJ (passS c 64).2.J.jobs e.Id).1.Plan+(getJ (passS c 64).2.J.jobs e.Id).1.Limit)⟩] else []:=rfl
  refine key (br_eq (fun h3=>⟨Nat.le_refl _,by simp,by simp only [];omega,fun q hq=>?_⟩) (fun h3=>br_dec (fun h4 p hp=>⟨Nat.le_refl _,by simp,by simp only [];omega,fun q hq=>?_⟩) (fun h4 q hq=>?_)))
  ·rw [w64 (by simp only [];omega)] at hq
   replace hq:q=i+1:=hq
   replace h3:(getJ (passS c 64).2.J.jobs e.Id).1.State=3:=h3
   obtain ⟨y,hy,hye,hm⟩:=nx q _ hq rfl
   rw [hf,if_pos h3] at hye
   exact ⟨y,hy,by rw [hye];simp,hm⟩
  ·rw [w64 (by simp only [];omega)] at hq
   replace hq:q=i+1:=hq
   replace h3: ¬ (getJ (passS c 64).2.J.jobs e.Id).1.State=3:=h3
   replace h4:0≤(getJ (passS c 64).2.J.jobs e.Id).1.Plan:=h4
   obtain ⟨y,hy,hye,hm⟩:=nx q _ hq rfl
   rw [hf,if_neg h3,if_pos h4] at hye
   exact ⟨y,hy,by rw [hye,hp];simp [wr],hm⟩
  ·rw [w64 (by simp only [];omega)] at hq
   replace hq:q=i+1:=hq
   replace h3: ¬ (getJ (passS c 64).2.J.jobs e.Id).1.State=3:=h3
   replace h4: ¬ 0≤(getJ (passS c 64).2.J.jobs e.Id).1.Plan:=h4
   obtain ⟨y,hy,hye,hm⟩:=nx q _ hq rfl
   rw [hf,if_neg h3,if_neg h4,List.append_nil] at hye
   exact ⟨y,hy,by rw [hye];simp,hm⟩
 ·have hl: ¬ i<((waitC c).length:Int):=hl
  rw [List.take_of_length_le (by omega)] at e3
  refine ⟨rfl,?_⟩
  rw [show foreC c=out from e3.symm] at h
  exact h
theorem vStartL {s:Sched} {k:Sched × Unit→List Told37 × Unit→Prop} (h:oStarts (s,()) k):V.vStartL s k:=by
 obtain ⟨hs,h⟩:=h
 obtain ⟨c0⟩:=s
 replace hs:OkS c0:=hs
 have h:k (⟨c0⟩,()) (foreC c0,()):=h
 have h64:=wait_le64 hs
 have hp:=hs.pass 64
 unfold V.vStartL V.LP V.NX V.AT V.NM V.SH V.LN
 refine ⟨hs.cw,hs,hs.cw.1,fun x=>x.1=c0∧x.2.1=(passS c0 64).2∧x.2.2.1=waitC c0∧0≤x.2.2.2.2∧x.2.2.2.2≤(waitC c0).length∧x.2.2.2.1=((waitC c0).take x.2.2.2.2.toNat).flatMap (foreJ (passS c0 64).2)∧x.2.2.2.1.length≤x.2.2.2.2,fun x=>((waitC c0).length-x.2.2.2.2).toNat,
  (c0,(passS c0 64).2,waitC c0,[],0),⟨rfl,rfl,rfl,by simp,by simp only [];omega,by simp,by simp⟩,⟨⟨rfl,rfl,⟨rfl,rfl⟩,⟨rfl,rfl⟩,rfl,trivial⟩,rfl,rfl,rfl,rfl,trivial⟩,?_⟩
 rintro ⟨c,t,ws,out,i⟩ ⟨e0,e1,e2,g1,g2,e3,g3⟩
 simp only [] at e0 e1 e2 g1 g2 e3 g3
 subst e0 e1 e2
 refine br_dec (fun hl=>?_) (fun hl=>?_)
 ·have hl:i<((waitC c).length:Int):=hl
  refine ⟨⟨g1,hl⟩,by simp only [];omega,fun e he=>?_⟩
  have he:(waitC c)[i.toNat]? =some e:=by rw [←he];simp
  have htk:(waitC c).take (i.toNat+1)=(waitC c).take i.toNat++[e]:=by rw [List.take_add_one,he];simp
  have nx: ∀a b,a=i+1→b=out++foreJ (passS c 64).2 e→ ∃y:Core × Core × List Job × List Told37 × Int,(y.1=c∧y.2.1=(passS c 64).2∧y.2.2.1=waitC c∧0≤y.2.2.2.2∧y.2.2.2.2≤(waitC c).length∧y.2.2.2.1=((waitC c).take y.2.2.2.2.toNat).flatMap (foreJ (passS c 64).2)∧y.2.2.2.1.length≤y.2.2.2.2)∧y=(c,(passS c 64).2,waitC c,b,a)∧((waitC c).length-y.2.2.2.2).toNat<((waitC c).length-i).toNat:=fun a b h1 h2=>by
   subst h1 h2
   have:=foreJ_len (passS c 64).2 e
   refine ⟨_,⟨rfl,rfl,rfl,by simp only [];omega,by simp only [];omega,?_,by simp only [List.length_append];omega⟩,rfl,by simp only [];omega⟩
   simp only [];rw [show (i+1).toNat=i.toNat+1 by omega,htk,e3];simp
  have key: ∀{A:Prop},A→(JW (passS c 64).2.J∧(A∧True)∧True)∧((JW (passS c 64).2.J∧A∧True)∧True)∧True:=fun {A} ha=>⟨⟨hp.cw.1,⟨ha,trivial⟩,trivial⟩,⟨⟨hp.cw.1,ha,trivial⟩,trivial⟩,trivial⟩
  have hf:foreJ (passS c 64).2 e=if (getJ (passS c 64).2.J.jobs e.Id).1.State=3 then [⟨(getJ (passS c 64).2.J.jobs e.Id).1.Id,(getJ (passS c 64).2.J.jobs e.Id).1.Start,(getJ (passS c 64).2.J.jobs e.Id).1.End⟩] else if 0≤(getJ (passS c 64).2.J.jobs e.Id).1.Plan then [⟨(getJ (passS c 64).2.J.jobs e.Id).1.Id,(getJ (passS c 64).2.J.jobs e.Id).1.Plan,wr ((getJ (passS c 64).2.J.jobs e.Id).1.Plan+(getJ (passS c 64).2.J.jobs e.Id).1.Limit)⟩] else []:=rfl
  refine key (br_eq (fun h3=>⟨Nat.le_refl _,by simp,by simp only [];omega,fun q hq=>?_⟩) (fun h3=>br_dec (fun h4 p hp=>⟨Nat.le_refl _,by simp,by simp only [];omega,fun q hq=>?_⟩) (fun h4 q hq=>?_)))
  ·rw [w64 (by simp only [];omega)] at hq
   replace hq:q=i+1:=hq
   replace h3:(getJ (passS c 64).2.J.jobs e.Id).1.State=3:=h3
   obtain ⟨y,hy,hye,hm⟩:=nx q _ hq rfl
   rw [hf,if_pos h3] at hye
   exact ⟨y,hy,by rw [hye];simp,hm⟩
  ·rw [w64 (by simp only [];omega)] at hq
   replace hq:q=i+1:=hq
   replace h3: ¬ (getJ (passS c 64).2.J.jobs e.Id).1.State=3:=h3
   replace h4:0≤(getJ (passS c 64).2.J.jobs e.Id).1.Plan:=h4
   obtain ⟨y,hy,hye,hm⟩:=nx q _ hq rfl
   rw [hf,if_neg h3,if_pos h4] at hye
   exact ⟨y,hy,by rw [hye,hp];simp [wr],hm⟩
  ·rw [w64 (by simp only [];omega)] at hq
   replace hq:q=i+1:=hq
   replace h3: ¬ (getJ (passS c 64).2.J.jobs e.Id).1.State=3:=h3
   replace h4: ¬ 0≤(getJ (passS c 64).2.J.jobs e.Id).1.Plan:=h4
   obtain ⟨y,hy,hye,hm⟩:=nx q _ hq rfl
   rw [hf,if_neg h3,if_neg h4,List.append_nil] at hye
   exact ⟨y,hy,by rw [hye];simp,hm⟩
 ·have hl: ¬ i<((waitC c).length:Int):=hl
  rw [List.take_of_length_le (by omega)] at e3
  refine ⟨rfl,?_⟩
  rw [show foreC c=out from e3.symm] at h
  exact h
theorem maxE_if (a b:Int):(if b>a then b else a)=max a b:=by split<;>omega
theorem fold_step {α:Type} {l:List α} {f:Int→α→Int} {i:Int} {e:α} {t0:Int} (h0:0≤i) (he:l[i.toNat]? =some e):(l.take (i+1).toNat).foldl f t0=f ((l.take i.toNat).foldl f t0) e:=by
 rw [show (i+1).toNat=i.toNat+1 by omega,List.take_add_one,he];simp
theorem vEmptyF {s:Sched} {k:Sched × Unit→Int × Unit→Prop} (h:oEmptyF (s,()) k):V.vEmptyF s k:=by
 obtain ⟨hs,h⟩:=h
 obtain ⟨c0⟩:=s
 replace hs:OkS c0:=hs
 have h:k (⟨c0⟩,()) (emptyC c0,()):=h
 have h64:=fore_len hs
 have hjl:=hs.cw.1.2.1
 unfold emptyC at h
 unfold V.vEmptyF V.LP V.NX V.AT V.NM V.SH V.LN
 refine ⟨hs,hs.cw.1,br_dec (fun hl=>?_) (fun hl=>⟨hs.cw.2.2,?_⟩)⟩
 ·have hl:((foreC c0).length:Int)<((waitC c0).length:Int):=hl
  rw [if_pos (by omega)] at h;exact h
 have hl: ¬ ((foreC c0).length:Int)<((waitC c0).length:Int):=hl
 rw [if_neg (by omega)] at h
 refine ⟨fun x=>x.1=c0∧x.2.2.1=foreC c0∧0≤x.2.2.2∧x.2.2.2≤(foreC c0).length∧x.2.1=((foreC c0).take x.2.2.2.toNat).foldl (fun t x=>max t x.End) (nowC c0),fun x=>((foreC c0).length-x.2.2.2).toNat,(c0,nowC c0,foreC c0,0),⟨rfl,rfl,by simp,by simp only [];omega,by simp⟩,⟨⟨rfl,rfl,⟨rfl,rfl⟩,rfl,rfl,trivial⟩,rfl,rfl,trivial⟩,?_⟩
 rintro ⟨c,t,l,i⟩ ⟨e0,e1,g1,g2,e3⟩
 simp only [] at e0 e1 g1 g2 e3
 subst e0 e1
 refine br_dec (fun hi=>?_) (fun hi=>?_)
 ·have hi:i<((foreC c).length:Int):=hi
  refine ⟨⟨g1,hi⟩,by simp only [];omega,fun e he q hq=>?_⟩
  have he:(foreC c)[i.toNat]? =some e:=by rw [←he];simp
  rw [w64 (by simp only [];omega)] at hq
  replace hq:q=i+1:=hq
  subst hq
  exact ⟨(c,max t e.End,foreC c,i+1),⟨rfl,rfl,by simp only [];omega,by simp only [];omega,by simp only [];rw [fold_step g1 he,←e3]⟩,⟨⟨rfl,maxE_if t e.End,⟨rfl,rfl⟩,rfl,rfl,trivial⟩,rfl,rfl,trivial⟩,by simp only [];omega⟩
 ·have hi: ¬ i<((foreC c).length:Int):=hi
  rw [List.take_of_length_le (by omega)] at e3
  have hil:(inJ c.J.jobs [3]).length≤1024:=by unfold inJ;exact Nat.le_trans (List.length_filter_le _ _) hjl
  refine ⟨Nat.le_refl _,⟨hs.cw.1,by omega⟩,fun x=>x.1=c∧x.2.2.1=inJ c.J.jobs [3]∧0≤x.2.2.2∧x.2.2.2≤(inJ c.J.jobs [3]).length∧x.2.1=((inJ c.J.jobs [3]).take x.2.2.2.toNat).foldl (fun t x=>max t x.End) t,fun x=>((inJ c.J.jobs [3]).length-x.2.2.2).toNat,(c,t,inJ c.J.jobs [3],0),⟨rfl,rfl,by simp,by simp only [];omega,by simp⟩,⟨⟨rfl,rfl,⟨rfl,rfl⟩,rfl,rfl,trivial⟩,rfl,rfl,trivial⟩,?_⟩
  rintro ⟨c',t',l',j⟩ ⟨e0,e1,g4,g5,e4⟩
  simp only [] at e0 e1 g4 g5 e4
  subst e0 e1
  refine br_dec (fun hj=>?_) (fun hj=>?_)
  ·have hj:j<((inJ c'.J.jobs [3]).length:Int):=hj
   refine ⟨⟨g4,hj⟩,by simp only [];omega,fun e he q hq=>?_⟩
   have he:(inJ c'.J.jobs [3])[j.toNat]? =some e:=by rw [←he];simp
   rw [w64 (by simp only [];omega)] at hq
   replace hq:q=j+1:=hq
   subst hq
   exact ⟨(c',max t' e.End,inJ c'.J.jobs [3],j+1),⟨rfl,rfl,by simp only [];omega,by simp only [];omega,by simp only [];rw [fold_step g4 he,←e4]⟩,⟨⟨rfl,maxE_if t' e.End,⟨rfl,rfl⟩,rfl,rfl,trivial⟩,rfl,rfl,trivial⟩,by simp only [];omega⟩
  ·have hj: ¬ j<((inJ c'.J.jobs [3]).length:Int):=hj
   rw [List.take_of_length_le (by omega)] at e4
   rw [←e3,←e4] at h;exact h
theorem vWhat {s:Sched} {r:Req} {k:Sched × Unit→Int × Unit→Prop} (h:oWhat (s,r,()) k):V.vWhat s r k:=by
 obtain ⟨hs,h⟩:=h
 obtain ⟨c0⟩:=s
 replace hs:OkS c0:=hs
 have h:k (⟨c0⟩,()) (whatC c0 r,()):=h
 have hd:=hs.step r
 have h64:=fore_len hd
 unfold whatC at h
 unfold V.vWhat V.LP V.NX V.AT V.NM V.SH V.LN
 refine ⟨hs.cw,br_ne (fun hh=>?_) (fun hh=>⟨hs,br_ne (fun h2=>?_) (fun h2=>⟨hd,?_⟩)⟩)⟩
 ·rw [if_pos hh] at h;exact h
 ·rw [if_neg (by simpa using hh),if_pos h2] at h;exact h
 rw [if_neg (by simpa using hh),if_neg (by simpa using h2)] at h
 generalize doS c0 r=d at h hd h64 ⊢
 obtain ⟨rp,c1⟩:=d
 simp only [] at h hd h64 ⊢
 generalize foreC c1=l at h h64 ⊢
 refine ⟨fun x=>x.1=c0∧x.2.1=rp∧x.2.2.1=l∧0≤x.2.2.2∧x.2.2.2≤l.length∧(l.drop x.2.2.2.toNat).find? (fun y=>decide (y.Id=rp.Id))=l.find? (fun y=>decide (y.Id=rp.Id)),fun x=>(l.length-x.2.2.2).toNat,(c0,rp,l,0),⟨rfl,rfl,rfl,by simp,by simp only [];omega,by simp⟩,by simp,?_⟩
 rintro ⟨c,rp',l',i⟩ ⟨e0,e1,e2,g1,g2,e4⟩
 simp only [] at e0 e1 e2 g1 g2 e4
 subst e0 e1 e2
 refine br_dec (fun hl=>?_) (fun hl=>?_)
 ·have hl:i<(l'.length:Int):=hl
  refine ⟨⟨g1,hl⟩,by simp only [];omega,fun e he=>?_⟩
  have he:l'[i.toNat]? =some e:=by rw [←he];simp
  have hdr:l'.drop i.toNat=e::l'.drop (i.toNat+1):=by
   rw [List.drop_eq_getElem_cons (by omega)]
   rw [List.getElem?_eq_getElem (by omega)] at he
   simp at he;rw [he]
  rw [hdr,List.find?_cons] at e4
  refine br_eq (fun hi=>?_) (fun hi=>?_)
  ·have hi:e.Id=rp'.Id:=hi
   simp only [hi,decide_true] at e4
   rw [←e4] at h;exact h
  ·have hi: ¬ e.Id=rp'.Id:=hi
   simp only [hi,decide_false] at e4
   intro q hq
   rw [w64 (by simp only [];omega)] at hq
   replace hq:q=i+1:=hq
   subst hq
   exact ⟨(c,rp',l',i+1),⟨rfl,rfl,rfl,by simp only [];omega,by simp only [];omega,by simp only [];rw [show (i+1).toNat=i.toNat+1 by omega];exact e4⟩,by simp,by simp only [];omega⟩
 ·have hl: ¬ i<(l'.length:Int):=hl
  rw [List.drop_of_length_le (by omega)] at e4
  rw [←e4] at h;exact h
theorem awF_wait:waitC (doS (newCore 4) ⟨1,0,0,4,9,0,false,0,0⟩).2=inJ (doS (newCore 4) ⟨1,0,0,4,9,0,false,0,0⟩).2.J.jobs [1]:=by
 refine List.mergeSort_of_pairwise ?_
 have e:inJ (doS (newCore 4) ⟨1,0,0,4,9,0,false,0,0⟩).2.J.jobs [1]=[⟨1,0,4,9,0,1,-1,-1,-1,0⟩]:=by kernel_rfl
 rw [e]
 decide
theorem awF_what:whatC (newCore 4) ⟨1,0,0,4,9,0,false,0,0⟩=0:=by
 unfold whatC foreC passS itemsC
 rw [awF_wait]
 kernel_rfl
theorem vAwakeF {u:Unit} {k:Unit→Bool × Unit→Prop} (h:oYes u k):V.vAwakeF u k:=by
 have h:k () (true,()):=h
 unfold V.vAwakeF
 exact ⟨fun hn=>by omega,fun _=>⟨⟨_,_,new_stb (n:=4) (by decide) (by decide)⟩,br_eq (fun _=>h) (fun hh=>absurd awF_what hh)⟩⟩
end Go.Ax.O

