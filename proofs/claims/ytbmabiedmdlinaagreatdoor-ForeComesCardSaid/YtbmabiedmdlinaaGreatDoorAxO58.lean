import Derived.Test.YtbmabiedmdlinaaGreatDoorAxO49
import Derived.Test.YtbmabiedmdlinaaGreatDoorAxV22
import Derived.Test.YtbmabiedmdlinaaGreatDoorAxV9
set_option linter.all false
namespace Go.Ax.Law
open Go.Ax.O
def TickX (T:Int) (L0 l:List Job):Prop:=l.length=L0.length∧ ∀(i:Nat) (a b:Job),L0[i]? =some a→l[i]? =some b→
 (a.State=1→0≤a.Plan→(b=a∨(b.Start=a.Plan∧b.End=a.Plan+a.Limit∧3≤b.State∧a.Plan≤T)))∧(a.State=3→b.Start=a.Start∧b.End=a.End∧3≤b.State)
theorem TickX.refl (T:Int) (l:List Job):TickX T l l:=⟨rfl,fun i a b h1 h2=>by rw [h1] at h2;cases h2;exact ⟨fun _ _=> .inl rfl,fun h=>⟨rfl,rfl,by omega⟩⟩⟩
theorem TickX.over {T:Int} {L0 l:List Job} (h:TickX T L0 l) (now:Int):TickX T L0 (l.map (overJ now)):=by
 refine ⟨by simpa using h.1,fun i a b h1 h2=>?_⟩
 rw [List.getElem?_map,Option.map_eq_some_iff] at h2
 obtain ⟨y,h2,rfl⟩:=h2
 obtain ⟨g1,g2⟩:=h.2 i a y h1 h2
 have e:(overJ now y).Start=y.Start∧(overJ now y).End=y.End∧(3≤y.State→3≤(overJ now y).State)∧(y.State=1→overJ now y=y):=by
  unfold overJ
  split
  ·exact ⟨rfl,rfl,fun _=>by simp,fun h=>by omega⟩
  ·exact ⟨rfl,rfl,fun h=>h,fun _=>rfl⟩
 refine ⟨fun h3 h4=>?_,fun h3=>?_⟩
 ·rcases g1 h3 h4 with rfl |⟨k1,k2,k3,k4⟩
  ·exact .inl (e.2.2.2 h3)
  ·exact .inr ⟨by rw [e.1];exact k1,by rw [e.2.1];exact k2,e.2.2.1 k3,k4⟩
 ·obtain ⟨k1,k2,k3⟩:=g2 h3
  exact ⟨by rw [e.1];exact k1,by rw [e.2.1];exact k2,e.2.2.1 k3⟩
theorem TickX.begin {T:Int} {L0:List Job} {m:Model} (h:TickX T L0 m.L) (hT:m.Now≤T) (h0:0≤selN m.Now m.L m.L.length):TickX T L0 (beginM m (selN m.Now m.L m.L.length)).L:=by
 obtain ⟨y,e1,e2⟩:=selN_due (now:=m.Now) (l:=m.L) _ (Nat.le_refl _) h0
 unfold beginM
 rw [e1]
 have hy:y.State=1∧0≤y.Plan∧y.Plan=m.Now:=by
  unfold dueJ plannedJ at e2
  simp at e2
  omega
 refine ⟨by simpa using h.1,fun i a b h1 h2=>?_⟩
 simp only [] at h2
 by_cases hi:(selN m.Now m.L m.L.length).toNat=i
 ·subst hi
  have hl:=(List.getElem?_eq_some_iff.1 e1).1
  rw [List.getElem?_set_self hl] at h2
  cases h2
  obtain ⟨g1,g2⟩:=h.2 _ a y h1 e1
  refine ⟨fun h3 h4=>?_,fun h3=>?_⟩
  ·rcases g1 h3 h4 with rfl |⟨k1,k2,k3,k4⟩
   ·exact .inr ⟨hy.2.2.symm,by simp [beginJm,hy.2.2],by simp [beginJm],by omega⟩
   ·omega
  ·have:=(g2 h3).2.2;omega
 ·rw [List.getElem?_set_ne hi] at h2
  exact h.2 i a b h1 h2
theorem TickX.beginF {T:Int} {L0:List Job}: ∀(f:Nat) {m:Model},m.Now≤T→TickX T L0 m.L→TickX T L0 (beginF f m).L
 |0,_,_,h=>h
 |f+1,m,hT,h=>by
  simp only [Law.beginF]
  split
  ·rename_i h0
   exact TickX.beginF f (by unfold beginM;split<;>exact hT) (h.begin hT h0)
  ·exact TickX.beginF f hT h
theorem TickX.happen {T:Int} {L0:List Job} {m:Model} (hT:m.Now≤T) (h:TickX T L0 m.L):TickX T L0 (happenM m).L:=TickX.beginF _ (m:={m with L:=m.L.map (overJ m.Now)}) hT (h.over _)
theorem TickX.tickF {L0:List Job} (to:Int): ∀(f:Nat) {m:Model},TickX to L0 m.L→TickX to L0 (tickF f to m).L
 |0,_,h=>h
 |f+1,m,h=>by
  simp only [Law.tickF]
  split
  ·exact h
  ·rename_i hn
   exact TickX.tickF to f (TickX.happen (m:={m with Now:=nextM m}) (by simp only [];omega) h)
theorem tick_all {n:Nat} {c:Core} {m:Model} (h:Stb n c m) (hc:c.closed=false) {by_:Int} (h1:1≤by_) (h2:by_≤1099511627776-nowC c):
  TickX (nowC c+by_) c.J.jobs (doS c ⟨9,0,0,0,0,0,false,0,by_⟩).2.J.jobs∧nowC (doS c ⟨9,0,0,0,0,0,false,0,by_⟩).2=nowC c+by_∧ ∃m',Stb n (doS c ⟨9,0,0,0,0,0,false,0,by_⟩).2 m':=by
 have hs:=(doS_stb h ⟨9,0,0,0,0,0,false,0,by_⟩).2
 have e:doSM m ⟨9,0,0,0,0,0,false,0,by_⟩=tickM m by_:=by
  unfold doSM
  rw [if_pos (by rfl)]
  unfold doM
  rw [h.rep.closed,hc]
  simp
 rw [e] at hs
 unfold tickM at hs
 rw [if_neg (by rw [h.rep.now];omega)] at hs
 simp only [] at hs
 have hj:=hs.rep.jobs
 have hn:=hs.rep.now
 simp only [] at hj hn
 rw [h.rep.now] at hj hn
 refine ⟨?_,hn.symm,_,hs⟩
 rw [←hj]
 exact TickX.tickF _ _ (by rw [h.rep.jobs];exact TickX.refl _ _)
end Go.Ax.Law
namespace Go.Ax.Law
def HA (s0:LockSet) (l:Lane) (w:Int) (s:LockSet) (p:Int):Prop:=
 s.o0=(if l.a0=true∧0<p then w else s0.o0)∧s.o1=(if l.a1=true∧1<p then w else s0.o1)∧s.o2=(if l.a2=true∧2<p then w else s0.o2)
def FreeF (s0:LockSet) (l:Lane) (w:Int) (q:Int):Prop:=
 1≤w∧s0.o0≠w∧s0.o1≠w∧s0.o2≠w∧(l.a0=true→0<q→s0.o0=0)∧(l.a1=true→1<q→s0.o1=0)∧(l.a2=true→2<q→s0.o2=0)
def isLane (l:Lane) (p:Int):Prop:=(p=0∧l.a0=true)∨(p=1∧l.a1=true)∨(p=2∧l.a2=true)
theorem HA.zero (s0:LockSet) (l:Lane) (w:Int):HA s0 l w s0 0:=⟨by simp,by simp,by simp⟩
theorem next_range (l:Lane) (n:Int):(nextL l n=3∧(n≤0→l.a0=false)∧(n≤1→l.a1=false)∧(n≤2→l.a2=false))∨(isLane l (nextL l n)∧n≤nextL l n∧nextL l n≤2∧0≤nextL l n):=by
 unfold nextL isLane;grind
theorem HA.skip {s0 s:LockSet} {l:Lane} {w n:Int} (h:HA s0 l w s n) (hn:0≤n):HA s0 l w s (nextL l n):=by
 unfold HA nextL at*;grind
theorem take_step {s0 s:LockSet} {l:Lane} {w p:Int} (h:HA s0 l w s p) (hf:FreeF s0 l w (p+1)) (hp:isLane l p):(tryL s p w).1=0∧HA s0 l w (tryL s p w).2 (p+1):=by
 obtain ⟨f1,f2,f3,f4,f5,f6,f7⟩:=hf
 obtain ⟨h1,h2,h3⟩:=h
 have hne: ¬ w=0:=by omega
 unfold tryL HA
 rcases hp with ⟨rfl,hp⟩ |⟨rfl,hp⟩ |⟨rfl,hp⟩<;>simp only [heldL,nextL,ownL,putL]<;>grind
theorem own_free {s0 s:LockSet} {l:Lane} {w p:Int} (h:HA s0 l w s p) (hf:FreeF s0 l w (p+1)) (hp:isLane l p):ownL s p=0:=by
 obtain ⟨f1,f2,f3,f4,f5,f6,f7⟩:=hf
 obtain ⟨h1,h2,h3⟩:=h
 rcases hp with ⟨rfl,hp⟩ |⟨rfl,hp⟩ |⟨rfl,hp⟩<;>simp only [ownL]<;>grind
theorem give_step {s0 s:LockSet} {l:Lane} {w p:Int} (h:HA s0 l w s (p+1)) (hf:FreeF s0 l w 3) (hp:isLane l p):HA s0 l w (unlockL s p w).2 p:=by
 obtain ⟨f1,f2,f3,f4,f5,f6,f7⟩:=hf
 obtain ⟨h1,h2,h3⟩:=h
 unfold unlockL HA
 rcases hp with ⟨rfl,hp⟩ |⟨rfl,hp⟩ |⟨rfl,hp⟩<;>simp only [ownL,putL] at* <;>grind
theorem skip_range (l:Lane) (n:Int) (h1: -1≤n) (h2:n≤2):(skipN l n= -1∧(0≤n→l.a0=false)∧(1≤n→l.a1=false)∧(2≤n→l.a2=false))∨(isLane l (skipN l n)∧0≤skipN l n∧skipN l n≤n):=by
 unfold skipN isLane;grind
theorem HA.down {s0 s:LockSet} {l:Lane} {w n:Int} (h:HA s0 l w s (n+1)) (h1: -1≤n) (h2:n≤2):HA s0 l w s (skipN l n+1):=by
 have hn:n= -1∨n=0∨n=1∨n=2:=by omega
 obtain ⟨g1,g2,g3⟩:=h
 obtain ⟨a0,a1,a2⟩:=l
 unfold HA skipN
 rcases hn with rfl |rfl |rfl |rfl<;>cases a0<;>cases a1<;>cases a2<;>simp at g1 g2 g3 ⊢ <;>simp [g1,g2,g3]
def cntUp (l:Lane) (p:Int):Int:=(if p≤0 then bI l.a0 else 0)+(if p≤1 then bI l.a1 else 0)+(if p≤2 then bI l.a2 else 0)
def cntLo (l:Lane) (p:Int):Int:=(if 0<p then bI l.a0 else 0)+(if 1<p then bI l.a1 else 0)+(if 2<p then bI l.a2 else 0)
theorem cntUp_next {l:Lane} {p:Int} (h:isLane l p):cntUp l p=cntUp l (nextL l (p+1))+1:=by
 rcases h with ⟨rfl,hp⟩ |⟨rfl,hp⟩ |⟨rfl,hp⟩<;>unfold cntUp nextL bI<;>grind
theorem cntUp_3 (l:Lane):cntUp l 3=0:=by unfold cntUp;simp
theorem cntLo_3 (l:Lane):cntLo l 3=lenL l:=by unfold cntLo lenL;simp
theorem cntLo_0 (l:Lane):cntLo l 0=0:=by unfold cntLo;simp
theorem cntLo_give {l:Lane} {p:Int} (h:isLane l p):cntLo l (p+1)=cntLo l p+1:=by
 rcases h with ⟨rfl,hp⟩ |⟨rfl,hp⟩ |⟨rfl,hp⟩<;>unfold cntLo bI<;>grind
theorem cntLo_skip (l:Lane) (n:Int) (h1: -1≤n) (h2:n≤2):cntLo l (skipN l n+1)=cntLo l (n+1):=by unfold cntLo skipN bI;grind
theorem Ends.keeps {w:Work} {c:Core} {k:Nat} {w':Work} {c':Core} (h:Ends w c k w' c'):CW c→WW w→c.P.steps.length+4*k≤4294960000→CW c'∧WW w'∧c'.P.steps.length≤4294960000:=by
 induction h with
 |one hd=>intro h1 h2 h3;obtain ⟨k1,k2,k3⟩:=stepW_ok h1 h2 (by omega);exact ⟨k1,k2,by omega⟩
 |more hd he ih=>intro h1 h2 h3;obtain ⟨k1,k2,k3⟩:=stepW_ok h1 h2 (by omega);exact ih k1 k2 (by omega)
theorem lenL_le' (l:Lane):0≤lenL l∧lenL l≤3:=by unfold lenL bI;grind
inductive Ph (s0:LockSet) (l:Lane) (who:Int) (w0:Work) (c0:Core) (J:Nat) (w1:Work) (c1:Core):Int→Hand→Core→LockSet→Prop
 |take {p:Int} {s:LockSet}:isLane l p→HA s0 l who s p→Ph s0 l who w0 c0 J w1 c1 (cntUp l p+J+lenL l+1) ⟨w0,who,l.a0,l.a1,l.a2,p,0⟩ c0 s
 |turn {s:LockSet}:HA s0 l who s 3→Ph s0 l who w0 c0 J w1 c1 (J+lenL l+1) ⟨w0,who,l.a0,l.a1,l.a2,3,1⟩ c0 s
 |parts {j:Nat} {w:Work} {c:Core} {n:Int} {s:LockSet}:HA s0 l who s 3→Ends w c j w1 c1→CW c→WW w→c.P.steps.length+4*j≤4294960000→n=3→Ph s0 l who w0 c0 J w1 c1 (j+lenL l+1) ⟨w,who,l.a0,l.a1,l.a2,n,2⟩ c s
 |give {p:Int} {s:LockSet}:isLane l p→HA s0 l who s (p+1)→Ph s0 l who w0 c0 J w1 c1 (cntLo l (p+1)+1) ⟨w1,who,l.a0,l.a1,l.a2,p,3⟩ c1 s
 |tell {s:LockSet}:HA s0 l who s 0→Ph s0 l who w0 c0 J w1 c1 1 ⟨w1,who,l.a0,l.a1,l.a2,-1,4⟩ c1 s
 |over {s:LockSet}:HA s0 l who s 0→Ph s0 l who w0 c0 J w1 c1 0 ⟨w1,who,l.a0,l.a1,l.a2,-1,5⟩ c1 s
section
variable {s0 s:LockSet} {l:Lane} {who:Int} {w0 w1:Work} {c0 c1 c:Core} {J:Nat} {rem:Int} {h:Hand}
structure PhOK (s0:LockSet) (l:Lane) (who:Int) (w0:Work) (c0:Core) (J:Nat) (w1:Work) (c1:Core):Prop where
 en:Ends w0 c0 J w1 c1
 cw:CW c0
 ww:WW w0
 ln:c0.P.steps.length+4*J≤4294960000
theorem skip_ph {s:LockSet} {n:Int} (hs:HA s0 l who s (n+1)) (h1: -1≤n) (h2:n≤2): ∃rem,rem=cntLo l (n+1)+1∧Ph s0 l who w0 c0 J w1 c1 rem (skipH ⟨w1,who,l.a0,l.a1,l.a2,n,3⟩) c1 s:=by
 have hd:=hs.down h1 h2
 have hl:laneH ⟨w1,who,l.a0,l.a1,l.a2,n,3⟩=l:=rfl
 unfold skipH
 rw [hl]
 simp only []
 rcases skip_range l n h1 h2 with ⟨g1,_⟩ |⟨g1,g2,g3⟩
 ·have hc:=cntLo_skip l n h1 h2
  rw [g1] at hd hc ⊢
  rw [show (-1:Int)+1=0 from rfl,cntLo_0] at hc
  refine ⟨1,by omega,?_⟩
  rw [if_pos (by decide)]
  exact .tell hd
 ·have hc:=cntLo_skip l n h1 h2
  refine ⟨_,rfl,?_⟩
  rw [if_neg (by omega),←hc]
  exact .give g1 hd
theorem ph_parts {w:Work} {c:Core} {n:Int} {st:Int} {j:Nat} (hs:HA s0 l who s 3) (he:Ends w c j w1 c1) (hc:CW c) (hw:WW w) (hl:c.P.steps.length+4*j≤4294960000) (hn:n=3):
  ∃rem,rem=j+lenL l∧Ph s0 l who w0 c0 J w1 c1 rem (partsH ⟨w,who,l.a0,l.a1,l.a2,n,st⟩ c).1 (partsH ⟨w,who,l.a0,l.a1,l.a2,n,st⟩ c).2 s:=by
 unfold partsH
 cases he with
 |one hd=>
  rw [if_pos hd]
  obtain ⟨rem,h1,h2⟩:=skip_ph (w0:=w0) (c0:=c0) (J:=J) (w1:=(stepW w c).1) (c1:=(stepW w c).2) (n:=2) (s:=s) hs (by decide) (by decide)
  refine ⟨rem,?_,h2⟩
  rw [h1,show (2:Int)+1=3 from rfl,cntLo_3]
  omega
 | @more _ _ k _ _ hd he=>
  rw [if_neg (by rw [hd];decide)]
  obtain ⟨k1,k2,k3⟩:=stepW_ok hc hw (by omega)
  exact ⟨_,by omega,.parts hs he k1 k2 (by simp only [];omega) hn⟩
theorem Ph.step (ok:PhOK s0 l who w0 c0 J w1 c1) (hf:FreeF s0 l who 3) (hp:Ph s0 l who w0 c0 J w1 c1 rem h c s) (hr:h.stage≠5):
  PreH h c∧Ph s0 l who w0 c0 J w1 c1 (rem-1) (stepH h c s).2.1 (stepH h c s).2.2.1 (stepH h c s).2.2.2∧(stepH h c s).1=decide (h.stage=1):=by
 have hln:=ok.ln
 cases hp with
 | @take p s hl hs=>
  have hpr:0≤p∧p≤2:=by unfold isLane at hl;omega
  refine ⟨⟨ok.cw,ok.ww,by omega,by simp only [];omega,by simp only [];omega,fun h=>by simp at h⟩,?_⟩
  have hft:FreeF s0 l who (p+1):=⟨hf.1,hf.2.1,hf.2.2.1,hf.2.2.2.1,fun a _=>hf.2.2.2.2.1 a (by omega),fun a _=>hf.2.2.2.2.2.1 a (by omega),fun a _=>hf.2.2.2.2.2.2 a (by omega)⟩
  obtain ⟨t1,t2⟩:=take_step hs hft hl
  have t3:=t2.skip (by omega)
  have hc:=cntUp_next hl
  unfold stepH takeH wr
  rw [if_pos rfl,if_neg (by simp only [];rw [t1];simp)]
  simp only [show laneH (⟨w0,who,l.a0,l.a1,l.a2,p,0⟩:Hand)=l from rfl]
  rw [w64 (by omega)]
  refine ⟨?_,by simp⟩
  rcases next_range l (p+1) with ⟨g1,_⟩ |⟨g1,g2,g3,g4⟩
  ·rw [g1] at t3 hc ⊢
   rw [cntUp_3] at hc
   rw [if_pos rfl,show cntUp l p+J+lenL l+1-1=J+lenL l+1 by omega]
   exact .turn t3
  ·rw [if_neg (by omega),show cntUp l p+J+lenL l+1-1=cntUp l (nextL l (p+1))+J+lenL l+1 by omega]
   exact .take g1 t3
 | @turn s hs=>
  refine ⟨⟨ok.cw,ok.ww,by omega,by simp,by simp,fun h=>by simp at h⟩,?_⟩
  obtain ⟨rem,e,hp⟩:=ph_parts (w0:=w0) (c0:=c0) (J:=J) (st:=1) hs ok.en ok.cw ok.ww hln rfl
  unfold stepH
  rw [if_neg (by simp),if_pos rfl]
  refine ⟨?_,by simp⟩
  rw [show (J:Int)+lenL l+1-1=rem by omega]
  exact hp
 | @parts j w c n s hs he hc hw hl hn=>
  refine ⟨⟨hc,hw,by omega,by simp only [];omega,by simp only [];omega,fun h=>by simp at h⟩,?_⟩
  obtain ⟨rem,e,hp⟩:=ph_parts (w0:=w0) (c0:=c0) (J:=J) (st:=2) hs he hc hw hl hn
  unfold stepH
  rw [if_neg (by simp),if_neg (by simp),if_pos rfl]
  refine ⟨?_,by simp⟩
  rw [show (j:Int)+lenL l+1-1=rem by omega]
  exact hp
 | @give p s hl hs=>
  have hpr:0≤p∧p≤2:=by unfold isLane at hl;omega
  have he:=ok.en.keeps ok.cw ok.ww (by omega)
  refine ⟨⟨he.1,he.2.1,by omega,by simp only [];omega,by simp only [];omega,fun _=>hpr⟩,?_⟩
  have hg:=give_step hs hf hl
  have hc:=cntLo_give hl
  rw [show p=(p-1)+1 by omega] at hg
  obtain ⟨rem,e,hp⟩:=skip_ph (w0:=w0) (c0:=c0) (J:=J) (w1:=w1) (c1:=c1) hg (by omega) (by omega)
  unfold stepH giveH wr
  rw [if_neg (by simp),if_neg (by simp),if_neg (by simp),if_pos rfl]
  simp only []
  rw [w64 (by omega)]
  refine ⟨?_,by simp⟩
  rw [show cntLo l (p+1)+1-1=rem by rw [e,show p-1+1=p by omega];omega]
  rw [show p-1+1=p by omega] at hp
  exact hp
 | @tell s hs=>
  have he:=ok.en.keeps ok.cw ok.ww (by omega)
  refine ⟨⟨he.1,he.2.1,by omega,by simp,by simp,fun h=>by simp at h⟩,?_⟩
  unfold stepH
  rw [if_neg (by simp),if_neg (by simp),if_neg (by simp),if_neg (by simp),if_pos rfl]
  exact ⟨.over hs,by simp⟩
 |over hs=>exact absurd rfl hr
theorem cntLo_nonneg (l:Lane) (p:Int):0≤cntLo l p:=by unfold cntLo bI;grind
theorem cntUp_nonneg (l:Lane) (p:Int):0≤cntUp l p:=by unfold cntUp bI;grind
theorem Ph.left (hp:Ph s0 l who w0 c0 J w1 c1 rem h c s):0≤rem∧(rem=0↔h.stage=5)∧0≤h.stage∧h.stage≤5:=by
 have hl:=lenL_le' l
 cases hp with
 | @take p _ _ _=>have:=cntUp_nonneg l p;simp only [];omega
 |turn=>simp only [];omega
 |parts=>simp only [];omega
 | @give p _ _ _=>have:=cntLo_nonneg l (p+1);simp only [];omega
 |tell=>simp
 |over=>simp
theorem HA.held {p:Int} (h:HA s0 l who s p) (hf:FreeF s0 l who 0):heldL s who=⟨l.a0&&decide (0<p),l.a1&&decide (1<p),l.a2&&decide (2<p)⟩:=by
 obtain ⟨f1,f2,f3,f4,_⟩:=hf
 obtain ⟨h1,h2,h3⟩:=h
 have hne:who≠0:=by omega
 unfold heldL
 rw [h1,h2,h3]
 obtain ⟨a0,a1,a2⟩:=l
 simp only [decide_eq_true hne,Bool.true_and]
 congr 1
 ·cases a0<;>by_cases hp:0<p<;>simp [hp,f2]
 ·cases a1<;>by_cases hp:1<p<;>simp [hp,f3]
 ·cases a2<;>by_cases hp:2<p<;>simp [hp,f4]
theorem FreeF.zero {q:Int} (h:FreeF s0 l who q):FreeF s0 l who 0:=⟨h.1,h.2.1,h.2.2.1,h.2.2.2.1,fun _ h=>by omega,fun _ h=>by omega,fun _ h=>by omega⟩
theorem Ph.held (hp:Ph s0 l who w0 c0 J w1 c1 rem h c s) (hf:FreeF s0 l who 0): ∃p:Int,heldL s who=⟨l.a0&&decide (0<p),l.a1&&decide (1<p),l.a2&&decide (2<p)⟩∧(h.stage=1∨h.stage=2→p=3)∧(h.stage≤1→c=c0):=by
 cases hp with
 |take _ hs=>exact ⟨_,hs.held hf,fun h=>by simp at h,fun _=>rfl⟩
 |turn hs=>exact ⟨_,hs.held hf,fun _=>rfl,fun _=>rfl⟩
 |parts hs=>exact ⟨_,hs.held hf,fun _=>rfl,fun h=>by simp at h⟩
 |give _ hs=>exact ⟨_,hs.held hf,fun h=>by simp at h,fun h=>by simp at h⟩
 |tell hs=>exact ⟨_,hs.held hf,fun h=>by simp at h,fun h=>by simp at h⟩
 |over hs=>exact ⟨_,hs.held hf,fun h=>by simp at h,fun h=>by simp at h⟩
theorem Ph.last (hp:Ph s0 l who w0 c0 J w1 c1 rem h c s) (h5:h.stage=5):h.W=w1∧c=c1∧s.o0=s0.o0∧s.o1=s0.o1∧s.o2=s0.o2:=by
 cases hp with
 |take=>simp at h5
 |turn=>simp at h5
 |parts=>simp at h5
 |give=>simp at h5
 |tell=>simp at h5
 |over hs=>
  obtain ⟨h1,h2,h3⟩:=hs
  exact ⟨rfl,rfl,by simpa using h1,by simpa using h2,by simpa using h3⟩
theorem Ph.waits (hp:Ph s0 l who w0 c0 J w1 c1 rem h c s) (hf:FreeF s0 l who 3):waitsH h s=false:=by
 cases hp with
 | @take p s hl hs=>
  have hpr:0≤p∧p≤2:=by unfold isLane at hl;omega
  have hft:FreeF s0 l who (p+1):=⟨hf.1,hf.2.1,hf.2.2.1,hf.2.2.2.1,fun a _=>hf.2.2.2.2.1 a (by omega),fun a _=>hf.2.2.2.2.2.1 a (by omega),fun a _=>hf.2.2.2.2.2.2 a (by omega)⟩
  unfold waitsH
  simp [own_free hs hft hl]
 |turn=>simp [waitsH]
 |parts=>simp [waitsH]
 |give=>simp [waitsH]
 |tell=>simp [waitsH]
 |over=>simp [waitsH]
end
end Go.Ax.Law
namespace Go.Ax.Law
theorem Stb.pass {n:Nat} {c:Core} {m:Model} (h:Stb n c m) (d:Int):(∃m',Stb n (passS c d).2 m')∧(passS c d).2.closed=c.closed∧nowC (passS c d).2=nowC c:=by
 unfold passS
 split
 ·exact ⟨⟨m,h⟩,rfl,rfl⟩
 ·obtain ⟨h1,h2,h3,_⟩:=pass_low (planA c.P d (itemsC c)).1 0 [] h (LowL.refl _ _)
  exact ⟨h1,h3,h2⟩
structure Settled (n:Nat) (c:Core) (r:(Int × Bool) × Core):Prop where
 stb: ∃m,Stb n r.2 m
 cl:r.2.closed=c.closed
 lo:1≤r.1.1
 hi:r.1.1≤30
 no:r.1.2=false→r.1.1=30
 yes:r.1.2=true→(planF r.2.P ((waitC r.2).map itemJ)).2=[]
end Go.Ax.Law
namespace Go.Ax.Sp
def lForeC:LoopAnn:={X:=Core × List Told37 × Int,live:=fun x=>[(7,.ptr ⟨0,0,0,0⟩),(8,.sl 5 3 0 x.2.1.length),(9,.int .i64 x.2.2)],heap:=fun x=>[some (.obj .sched ⟨x.1⟩),none,none,none,none,some (.row .told37 x.2.1)],norm:=[.fold 0 .sched]}
end Go.Ax.Sp
namespace Go.Ax.V
open Go.Ax.Sp Go.Ax.Law List Int IntKind
set_option maxRecDepth 100000
def vForeC (n:Int) (l:List Deed) (d:Int) (k:Unit→Bool × Unit→Prop):Prop:=
SH (madeS n l) fun s0=>SH (k () (false,())) fun s1=>SH (k () (true,())) fun s2=>(n<1∨64<n→s2)∧(1≤n∧n≤64→br (closedC (some s0)) s2 (br (decide (d<1)) s2 (PW s0.P∧NM (1099511627776-nowL s0.P.steps) fun n_1=>br (decide (d>n_1)) s2 (OkS s0∧OkS s0∧OkS (passS s0 64).2∧LP (Core × List Told37 × Int) (fun x=>(0=0∧(0=0∧length (foreC s0)=length x.2.1)∧0=x.2.2∧True)∧Sched.mk (wholeW (newW (Req.mk 9 0 0 0 0 0 false 0 d)) (passS s0 64).2).2.2=Sched.mk x.1∧foreC s0=x.2.1∧True) fun I m x=>SH x.1.J.jobs fun s3=>SH (length x.2.1) fun s4=>SH (nowL x.1.P.steps) fun s5=>SH (x.2.2+1) fun s6=>SH (NM s6 fun n=>NX I m x fun y=>(0=0∧(0=0∧s4=length y.2.1)∧n=y.2.2∧True)∧Sched.mk x.1=Sched.mk y.1∧x.2.1=y.2.1∧True) fun s7=>SH (PW x.1.P) fun s8=>br (decide (x.2.2<LN x.2.1)) (AT x.2.1 x.2.2 fun e=>SH (getJ s3 e.Id) fun s9=>SH (SH (AT x.2.1 x.2.2 fun e_2=>(s8∧br (decide (e_2.Start>s5)) (AT x.2.1 x.2.2 fun e_3=>br (!s9.1.Plan==e_3.Start) s1 s7) s7)∧True) fun s11=>br (!s9.2==0) ((s1∧True)∧True) (AT x.2.1 x.2.2 fun e_1=>(s8∧br (decide (e_1.Start≤s5)) (AT x.2.1 x.2.2 fun e_2=>br (!s9.1.Start==e_2.Start) (s1∧True) (AT x.2.1 x.2.2 fun e_3=>br (!s9.1.End==e_3.End) (s1∧True) s11)) s11)∧True)∧True) fun s10=>(JW x.1.J∧s10∧True)∧((JW x.1.J∧s10)∧True)∧True) s2))))
end Go.Ax.V
namespace Go.Ax.O
open Go.Ax.Sp Go.Ax.Law
theorem come_one {n:Nat} {c0:Core} {m:Model} (hs:Stb n c0 m) (hc:c0.closed=false) {d:Int} (h1:1≤d) (h2:d≤1099511627776-nowC c0) {e:Told37} (he:e∈foreC c0) {c2:Core} (h2c:c2=(doS (passS c0 64).2 ⟨9,0,0,0,0,0,false,0,d⟩).2):
  (getJ c2.J.jobs e.Id).2=0∧(e.Start≤nowC c2→(getJ c2.J.jobs e.Id).1.Start=e.Start∧(getJ c2.J.jobs e.Id).1.End=e.End)∧(nowC c2<e.Start→(getJ c2.J.jobs e.Id).1.Plan=e.Start):=by
 subst h2c
 obtain ⟨⟨m1,hp⟩,hcl,hnow⟩:=hs.pass 64
 have hok:OkS c0:=⟨_,_,hs⟩
 obtain ⟨⟨hll,hlow⟩,_⟩:=hok.low 64
 obtain ⟨⟨htl,ht⟩,htn,m2,hs2⟩:=tick_all hp (by rw [hcl];exact hc) h1 (by rw [hnow];exact h2)
 generalize (doS (passS c0 64).2 ⟨9,0,0,0,0,0,false,0,d⟩).2=c2 at htl ht htn hs2 ⊢
 unfold foreC at he
 obtain ⟨j,hj,hy⟩:=List.mem_flatMap.1 he
 obtain ⟨w1,w2⟩:=wait_mem hj
 obtain ⟨i,hi⟩:=List.getElem?_of_mem w1
 have hil:=(List.getElem?_eq_some_iff.1 hi).1
 generalize hc1:(passS c0 64).2=c1 at*
 have hb:c1.J.jobs[i]? =some c1.J.jobs[i]:=List.getElem?_eq_getElem (by omega)
 generalize c1.J.jobs[i]=b at hb
 have hlo:=hlow i j b hi hb
 have hid:=id_at hs.cw hi
 have hidb:=id_at hp.cw hb
 have hg:getJ c1.J.jobs j.Id=(b,0):=getJ_at hb hid
 have hq:c2.J.jobs[i]? =some c2.J.jobs[i]:=List.getElem?_eq_getElem (by have:=(List.getElem?_eq_some_iff.1 hb).1;omega)
 generalize c2.J.jobs[i]=q at hq
 obtain ⟨k1,k2⟩:=ht i b q hb hq
 have hbm:b∈c1.J.jobs:=List.mem_of_getElem? hb
 have hjo:=hp.rep.deep.jobs b hbm
 have hlm:=hjo.lm
 have heb:e.Id=b.Id∧((b.State=3∧e.Start=b.Start∧e.End=b.End)∨(b.State=1∧0≤b.Plan∧e.Start=b.Plan∧e.End=b.Plan+b.Limit)):=by
  unfold foreJ at hy
  rw [hg] at hy
  simp only [] at hy
  rcases hlo.2 w2 with ⟨g1,g2⟩ |⟨g1,g2⟩
  ·rw [if_pos g1] at hy
   simp at hy;subst hy;exact ⟨rfl,.inl ⟨g1,rfl,rfl⟩⟩
  ·rw [if_neg (by omega)] at hy
   split at hy
   ·rename_i hpl
    simp at hy;subst hy
    have:=hjo.pl
    refine ⟨rfl,.inr ⟨g1,hpl,rfl,?_⟩⟩
    simp only []
    rw [wr_in (by omega)]
   ·cases hy
 have hgq:getJ c2.J.jobs e.Id=(q,0):=getJ_at hq (by rw [heb.1];exact hidb)
 rw [hgq]
 refine ⟨rfl,?_⟩
 rcases heb.2 with ⟨b3,e1,e2⟩ |⟨b1,bp,e1,e2⟩
 ·obtain ⟨q1,q2,q3⟩:=k2 b3
  have hst:b.Start=nowC c0:=by
   rcases hlo.2 w2 with ⟨g1,g2⟩ |⟨g1,g2⟩
   ·exact g2
   ·omega
  exact ⟨fun _=>⟨by simp only [];rw [q1,e1],by simp only [];rw [q2,e2]⟩,fun hh=>by rw [e1,hst] at hh;omega⟩
 ·rcases k1 b1 bp with rfl |⟨q1,q2,q3,q4⟩
  ·have hf:=hs2.fp q (List.mem_of_getElem? hq) (planned_iff.2 ⟨b1,bp⟩)
   exact ⟨fun hh=>by omega,fun _=>e1.symm⟩
  ·exact ⟨fun _=>⟨by simp only [];rw [q1,e1],by simp only [];rw [q2,e2]⟩,fun hh=>by omega⟩
theorem vForeC {n:Int} {l:List Deed} {d:Int} {k:Unit→Bool × Unit→Prop} (h:oPassD (n,l,d,()) k):V.vForeC n l d k:=by
 have h:k () (true,()):=h
 unfold V.vForeC V.LP V.NX V.AT V.NM V.SH V.LN
 refine ⟨fun _=>h,fun hn=>?_⟩
 obtain ⟨nn,m,hs⟩:=(show OkS (madeS n l) from ⟨_,_,madeS_stb hn.1 hn.2 l⟩)
 generalize madeS n l=c0 at hs ⊢
 have hok:OkS c0:=⟨_,_,hs⟩
 have hnw:=hs.rep.deep.nw
 have hcc:closedC (some c0)=c0.closed:=rfl
 rw [hcc]
 refine br_bool (fun _=>h) (fun hcl=>br_dec (fun _=>h) (fun hd1=>⟨hs.cw.2.2,fun a ha=>br_dec (fun _=>h) (fun hd2=>?_)⟩))
 have hn0:nowL c0.P.steps=nowC c0:=rfl
 rw [hn0,w64 (by omega)] at ha
 subst ha
 have hd1:1≤d:=by omega
 have hd2:d≤1099511627776-nowC c0:=by omega
 obtain ⟨⟨m1,hp⟩,_,_⟩:=hs.pass 64
 refine ⟨hok,hok,⟨_,_,hp⟩,?_⟩
 have key:=fun (e:Told37) (he:e∈foreC c0)=>come_one hs hcl hd1 hd2 he rfl
 have hs2:OkS (doS (passS c0 64).2 ⟨9,0,0,0,0,0,false,0,d⟩).2:=OkS.step ⟨_,_,hp⟩ _
 have e2:(doS (passS c0 64).2 ⟨9,0,0,0,0,0,false,0,d⟩).2=(wholeW (newW ⟨9,0,0,0,0,0,false,0,d⟩) (passS c0 64).2).2.2:=rfl
 rw [e2] at key hs2
 have h64:=fore_len hok
 generalize (wholeW (newW ⟨9,0,0,0,0,0,false,0,d⟩) (passS c0 64).2).2.2=c2 at key hs2 ⊢
 generalize foreC c0=fl at key h64 ⊢
 refine ⟨fun x=>x.1=c2∧x.2.1=fl∧0≤x.2.2,fun x=>(fl.length-x.2.2).toNat,(c2,fl,0),⟨rfl,rfl,Int.le_refl _⟩,by simp,?_⟩
 rintro ⟨c,l2,i⟩ ⟨e0,e1,hi⟩
 simp only [] at e0 e1 hi
 subst e0 e1
 refine br_dec (fun hl=>?_) (fun hl=>h)
 have hl:i<(l2.length:Int):=hl
 obtain ⟨e,he⟩: ∃e,l2[i.toNat]? =some e:=⟨_,List.getElem?_eq_getElem (by omega)⟩
 obtain ⟨g1,g2,g3⟩:=key e (List.mem_of_getElem? he)
 have same: ∀{P:Told37→Prop},P e→((0≤i∧i<(l2.length:Int))∧0+i.toNat<l2.length∧ ∀e',l2[0+i.toNat]? =some e'→P e'):=fun {P} hP=>
  ⟨⟨hi,hl⟩,by omega,fun e' he'=>by rw [Nat.zero_add,he] at he';cases he';exact hP⟩
 have nx: ∀q,q=IntKind.i64.wrap (i+1)→ ∃y:Core × List Told37 × Int,(y.1=c∧y.2.1=l2∧0≤y.2.2)∧((0=0∧(0=0∧l2.length=y.2.1.length)∧q=y.2.2∧True)∧Sched.mk c=Sched.mk y.1∧l2=y.2.1∧True)∧(l2.length-y.2.2).toNat<(l2.length-i).toNat:=fun q hq=>by
  rw [w64 (by omega)] at hq
  subst hq
  exact ⟨(c,l2,i+1),⟨rfl,rfl,by simp only [];omega⟩,by simp,by simp only [];omega⟩
 have hcw:=hs2.cw
 have hnn:nowL c.P.steps=nowC c:=rfl
 have s11:=same (P:=fun e2=>(PW c.P∧br (decide (e2.Start>nowL c.P.steps)) ((0≤i∧i<(l2.length:Int))∧0+i.toNat<l2.length∧ ∀e3,l2[0+i.toNat]? =some e3→br (!(getJ c.J.jobs e.Id).1.Plan==e3.Start) (k () (false,())) (∀q,q=IntKind.i64.wrap (i+1)→ ∃y:Core × List Told37 × Int,(y.1=c∧y.2.1=l2∧0≤y.2.2)∧((0=0∧(0=0∧l2.length=y.2.1.length)∧q=y.2.2∧True)∧Sched.mk c=Sched.mk y.1∧l2=y.2.1∧True)∧(l2.length-y.2.2).toNat<(l2.length-i).toNat))
   (∀q,q=IntKind.i64.wrap (i+1)→ ∃y:Core × List Told37 × Int,(y.1=c∧y.2.1=l2∧0≤y.2.2)∧((0=0∧(0=0∧l2.length=y.2.1.length)∧q=y.2.2∧True)∧Sched.mk c=Sched.mk y.1∧l2=y.2.1∧True)∧(l2.length-y.2.2).toNat<(l2.length-i).toNat))∧True) ⟨⟨hcw.2.2,br_dec (fun g=>same (br_ne (fun hh=>absurd (g3 g) hh) (fun _=>nx))) (fun _=>nx)⟩,trivial⟩
 simp only [true_and]
 simp only [true_and] at s11
 exact same ⟨⟨hcw.1,⟨br_ne (fun hh=>absurd g1 hh) (fun _=>same ⟨⟨hcw.2.2,br_dec (fun g=>same (br_ne (fun hh=>absurd (g2 g).1 hh) (fun _=>same (br_ne (fun hh=>absurd (g2 g).2 hh) (fun _=>s11))))) (fun _=>s11)⟩,trivial⟩),trivial⟩,trivial⟩,⟨⟨hcw.1,⟨br_ne (fun hh=>absurd g1 hh) (fun _=>same ⟨⟨hcw.2.2,br_dec (fun g=>same (br_ne (fun hh=>absurd (g2 g).1 hh) (fun _=>same (br_ne (fun hh=>absurd (g2 g).2 hh) (fun _=>s11))))) (fun _=>s11)⟩,trivial⟩),trivial⟩⟩,trivial⟩,trivial⟩
end Go.Ax.O

