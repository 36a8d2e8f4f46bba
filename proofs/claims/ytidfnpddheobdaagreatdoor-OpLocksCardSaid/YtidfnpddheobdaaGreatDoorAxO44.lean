import Derived.Test.YtidfnpddheobdaaGreatDoorAxV22
import Derived.Test.YtidfnpddheobdaaGreatDoorAxV9
import Derived.Test.YtidfnpddheobdaaGreatDoorAxO39
set_option linter.all false
namespace Go.Ax.Law
def HA (s0:LockSet) (l:Lane) (w:Int) (s:LockSet) (p:Int):Prop:=
 s.o0=(if l.a0=true∧0<p then w else s0.o0)∧s.o1=(if l.a1=true∧1<p then w else s0.o1)∧s.o2=(if l.a2=true∧2<p then w else s0.o2)
def FreeF (s0:LockSet) (l:Lane) (w:Int) (q:Int):Prop:=
 1≤w∧s0.o0≠w∧s0.o1≠w∧s0.o2≠w∧(l.a0=true→0<q→s0.o0=0)∧(l.a1=true→1<q→s0.o1=0)∧(l.a2=true→2<q→s0.o2=0)
def isLane (l:Lane) (p:Int):Prop:=(p=0∧l.a0=true)∨(p=1∧l.a1=true)∨(p=2∧l.a2=true)
theorem HA.zero (s0:LockSet) (l:Lane) (w:Int):HA s0 l w s0 0:=⟨by simp,by simp,by simp⟩
theorem next_range (l:Lane) (n:Int):(nextL l n=3∧(n≤0→l.a0=false)∧(n≤1→l.a1=false)∧(n≤2→l.a2=false))∨(isLane l (nextL l n)∧n≤nextL l n∧nextL l n≤2∧0≤nextL l n):=by
 unfold nextL isLane;grind
theorem HA.skip {s0 s:LockSet} {l:Lane} {w n:Int} (h:HA s0 l w s n) (hn:0≤n):HA s0 l w s (nextL l n):=by
 unfold HA nextL at*;grind
theorem take_step {s0 s:LockSet} {l:Lane} {w p:Int} (h:HA s0 l w s p) (hf:FreeF s0 l w (p+1)) (hp:isLane l p):(tryL s p w).1=0∧HA s0 l w (tryL s p w).2 (p+1):=by
 obtain ⟨f1,f2,f3,f4,f5,f6,f7⟩:=hf
 obtain ⟨h1,h2,h3⟩:=h
 have hne: ¬ w=0:=by omega
 unfold tryL HA
 rcases hp with ⟨rfl,hp⟩ |⟨rfl,hp⟩ |⟨rfl,hp⟩<;>simp only [heldL,nextL,ownL,putL]<;>grind
theorem take_wait {s0 s:LockSet} {l:Lane} {w p:Int} (h:HA s0 l w s p) (hf:FreeF s0 l w p) (hp:isLane l p) (ho:ownL s0 p≠0):(tryL s p w).1≠0∧(tryL s p w).2=s∧ownL s p≠0:=by
 obtain ⟨f1,f2,f3,f4,f5,f6,f7⟩:=hf
 obtain ⟨h1,h2,h3⟩:=h
 unfold tryL
 rcases hp with ⟨rfl,hp⟩ |⟨rfl,hp⟩ |⟨rfl,hp⟩<;>simp only [heldL,nextL,ownL,putL] at* <;>grind
theorem own_free {s0 s:LockSet} {l:Lane} {w p:Int} (h:HA s0 l w s p) (hf:FreeF s0 l w (p+1)) (hp:isLane l p):ownL s p=0:=by
 obtain ⟨f1,f2,f3,f4,f5,f6,f7⟩:=hf
 obtain ⟨h1,h2,h3⟩:=h
 rcases hp with ⟨rfl,hp⟩ |⟨rfl,hp⟩ |⟨rfl,hp⟩<;>simp only [ownL]<;>grind
theorem give_step {s0 s:LockSet} {l:Lane} {w p:Int} (h:HA s0 l w s (p+1)) (hf:FreeF s0 l w 3) (hp:isLane l p):HA s0 l w (unlockL s p w).2 p:=by
 obtain ⟨f1,f2,f3,f4,f5,f6,f7⟩:=hf
 obtain ⟨h1,h2,h3⟩:=h
 unfold unlockL HA
 rcases hp with ⟨rfl,hp⟩ |⟨rfl,hp⟩ |⟨rfl,hp⟩<;>simp only [ownL,putL] at* <;>grind
theorem skip_range (l:Lane) (n:Int) (h1: -1≤n) (h2:n≤2):(skipN l n= -1∧(0≤n→l.a0=false)∧(1≤n→l.a1=false)∧(2≤n→l.a2=false))∨(isLane l (skipN l n)∧0≤skipN l n∧skipN l n≤n):=by
 unfold skipN isLane;grind
theorem HA.down {s0 s:LockSet} {l:Lane} {w n:Int} (h:HA s0 l w s (n+1)) (h1: -1≤n) (h2:n≤2):HA s0 l w s (skipN l n+1):=by
 have hn:n= -1∨n=0∨n=1∨n=2:=by omega
 obtain ⟨g1,g2,g3⟩:=h
 obtain ⟨a0,a1,a2⟩:=l
 unfold HA skipN
 rcases hn with rfl |rfl |rfl |rfl<;>cases a0<;>cases a1<;>cases a2<;>simp at g1 g2 g3 ⊢ <;>simp [g1,g2,g3]
def cntUp (l:Lane) (p:Int):Int:=(if p≤0 then bI l.a0 else 0)+(if p≤1 then bI l.a1 else 0)+(if p≤2 then bI l.a2 else 0)
def cntLo (l:Lane) (p:Int):Int:=(if 0<p then bI l.a0 else 0)+(if 1<p then bI l.a1 else 0)+(if 2<p then bI l.a2 else 0)
theorem cntUp_next {l:Lane} {p:Int} (h:isLane l p):cntUp l p=cntUp l (nextL l (p+1))+1:=by
 rcases h with ⟨rfl,hp⟩ |⟨rfl,hp⟩ |⟨rfl,hp⟩<;>unfold cntUp nextL bI<;>grind
theorem cntUp_skip (l:Lane) (n:Int):cntUp l (nextL l n)=cntUp l n:=by unfold cntUp nextL bI;grind
theorem cntUp_0 (l:Lane):cntUp l 0=lenL l:=by unfold cntUp lenL;simp
theorem cntUp_3 (l:Lane):cntUp l 3=0:=by unfold cntUp;simp
theorem cntLo_3 (l:Lane):cntLo l 3=lenL l:=by unfold cntLo lenL;simp
theorem cntLo_0 (l:Lane):cntLo l 0=0:=by unfold cntLo;simp
theorem cntLo_give {l:Lane} {p:Int} (h:isLane l p):cntLo l (p+1)=cntLo l p+1:=by
 rcases h with ⟨rfl,hp⟩ |⟨rfl,hp⟩ |⟨rfl,hp⟩<;>unfold cntLo bI<;>grind
theorem cntLo_skip (l:Lane) (n:Int) (h1: -1≤n) (h2:n≤2):cntLo l (skipN l n+1)=cntLo l (n+1):=by unfold cntLo skipN bI;grind
theorem Ends.keeps {w:Work} {c:Core} {k:Nat} {w':Work} {c':Core} (h:Ends w c k w' c'):CW c→WW w→c.P.steps.length+4*k≤4294960000→CW c'∧WW w'∧c'.P.steps.length≤4294960000:=by
 induction h with
 |one hd=>intro h1 h2 h3;obtain ⟨k1,k2,k3⟩:=stepW_ok h1 h2 (by omega);exact ⟨k1,k2,by omega⟩
 |more hd he ih=>intro h1 h2 h3;obtain ⟨k1,k2,k3⟩:=stepW_ok h1 h2 (by omega);exact ih k1 k2 (by omega)
theorem lenL_le' (l:Lane):0≤lenL l∧lenL l≤3:=by unfold lenL bI;grind
inductive Ph (s0:LockSet) (l:Lane) (who:Int) (w0:Work) (c0:Core) (J:Nat) (w1:Work) (c1:Core):Int→Hand→Core→LockSet→Prop
 |take {p:Int} {s:LockSet}:isLane l p→HA s0 l who s p→Ph s0 l who w0 c0 J w1 c1 (cntUp l p+J+lenL l+1) ⟨w0,who,l.a0,l.a1,l.a2,p,0⟩ c0 s
 |turn {s:LockSet}:HA s0 l who s 3→Ph s0 l who w0 c0 J w1 c1 (J+lenL l+1) ⟨w0,who,l.a0,l.a1,l.a2,3,1⟩ c0 s
 |parts {j:Nat} {w:Work} {c:Core} {n:Int} {s:LockSet}:HA s0 l who s 3→Ends w c j w1 c1→CW c→WW w→c.P.steps.length+4*j≤4294960000→n=3→Ph s0 l who w0 c0 J w1 c1 (j+lenL l+1) ⟨w,who,l.a0,l.a1,l.a2,n,2⟩ c s
 |give {p:Int} {s:LockSet}:isLane l p→HA s0 l who s (p+1)→Ph s0 l who w0 c0 J w1 c1 (cntLo l (p+1)+1) ⟨w1,who,l.a0,l.a1,l.a2,p,3⟩ c1 s
 |tell {s:LockSet}:HA s0 l who s 0→Ph s0 l who w0 c0 J w1 c1 1 ⟨w1,who,l.a0,l.a1,l.a2,-1,4⟩ c1 s
 |over {s:LockSet}:HA s0 l who s 0→Ph s0 l who w0 c0 J w1 c1 0 ⟨w1,who,l.a0,l.a1,l.a2,-1,5⟩ c1 s
section
variable {s0 s:LockSet} {l:Lane} {who:Int} {w0 w1:Work} {c0 c1 c:Core} {J:Nat} {rem:Int} {h:Hand}
structure PhOK (s0:LockSet) (l:Lane) (who:Int) (w0:Work) (c0:Core) (J:Nat) (w1:Work) (c1:Core):Prop where
 en:Ends w0 c0 J w1 c1
 cw:CW c0
 ww:WW w0
 ln:c0.P.steps.length+4*J≤4294960000
theorem skip_ph {s:LockSet} {n:Int} (hs:HA s0 l who s (n+1)) (h1: -1≤n) (h2:n≤2): ∃rem,rem=cntLo l (n+1)+1∧Ph s0 l who w0 c0 J w1 c1 rem (skipH ⟨w1,who,l.a0,l.a1,l.a2,n,3⟩) c1 s:=by
 have hd:=hs.down h1 h2
 have hl:laneH ⟨w1,who,l.a0,l.a1,l.a2,n,3⟩=l:=rfl
 unfold skipH
 rw [hl]
 simp only []
 rcases skip_range l n h1 h2 with ⟨g1,_⟩ |⟨g1,g2,g3⟩
 ·have hc:=cntLo_skip l n h1 h2
  rw [g1] at hd hc ⊢
  rw [show (-1:Int)+1=0 from rfl,cntLo_0] at hc
  refine ⟨1,by omega,?_⟩
  rw [if_pos (by decide)]
  exact .tell hd
 ·have hc:=cntLo_skip l n h1 h2
  refine ⟨_,rfl,?_⟩
  rw [if_neg (by omega),←hc]
  exact .give g1 hd
theorem ph_parts {w:Work} {c:Core} {n:Int} {st:Int} {j:Nat} (hs:HA s0 l who s 3) (he:Ends w c j w1 c1) (hc:CW c) (hw:WW w) (hl:c.P.steps.length+4*j≤4294960000) (hn:n=3):
  ∃rem,rem=j+lenL l∧Ph s0 l who w0 c0 J w1 c1 rem (partsH ⟨w,who,l.a0,l.a1,l.a2,n,st⟩ c).1 (partsH ⟨w,who,l.a0,l.a1,l.a2,n,st⟩ c).2 s:=by
 unfold partsH
 cases he with
 |one hd=>
  rw [if_pos hd]
  obtain ⟨rem,h1,h2⟩:=skip_ph (w0:=w0) (c0:=c0) (J:=J) (w1:=(stepW w c).1) (c1:=(stepW w c).2) (n:=2) (s:=s) hs (by decide) (by decide)
  refine ⟨rem,?_,h2⟩
  rw [h1,show (2:Int)+1=3 from rfl,cntLo_3]
  omega
 | @more _ _ k _ _ hd he=>
  rw [if_neg (by rw [hd];decide)]
  obtain ⟨k1,k2,k3⟩:=stepW_ok hc hw (by omega)
  exact ⟨_,by omega,.parts hs he k1 k2 (by simp only [];omega) hn⟩
theorem Ph.step (ok:PhOK s0 l who w0 c0 J w1 c1) (hf:FreeF s0 l who 3) (hp:Ph s0 l who w0 c0 J w1 c1 rem h c s) (hr:h.stage≠5):
  PreH h c∧Ph s0 l who w0 c0 J w1 c1 (rem-1) (stepH h c s).2.1 (stepH h c s).2.2.1 (stepH h c s).2.2.2∧(stepH h c s).1=decide (h.stage=1):=by
 have hln:=ok.ln
 cases hp with
 | @take p s hl hs=>
  have hpr:0≤p∧p≤2:=by unfold isLane at hl;omega
  refine ⟨⟨ok.cw,ok.ww,by omega,by simp only [];omega,by simp only [];omega,fun h=>by simp at h⟩,?_⟩
  have hft:FreeF s0 l who (p+1):=⟨hf.1,hf.2.1,hf.2.2.1,hf.2.2.2.1,fun a _=>hf.2.2.2.2.1 a (by omega),fun a _=>hf.2.2.2.2.2.1 a (by omega),fun a _=>hf.2.2.2.2.2.2 a (by omega)⟩
  obtain ⟨t1,t2⟩:=take_step hs hft hl
  have t3:=t2.skip (by omega)
  have hc:=cntUp_next hl
  unfold stepH takeH wr
  rw [if_pos rfl,if_neg (by simp only [];rw [t1];simp)]
  simp only [show laneH (⟨w0,who,l.a0,l.a1,l.a2,p,0⟩:Hand)=l from rfl]
  rw [w64 (by omega)]
  refine ⟨?_,by simp⟩
  rcases next_range l (p+1) with ⟨g1,_⟩ |⟨g1,g2,g3,g4⟩
  ·rw [g1] at t3 hc ⊢
   rw [cntUp_3] at hc
   rw [if_pos rfl,show cntUp l p+J+lenL l+1-1=J+lenL l+1 by omega]
   exact .turn t3
  ·rw [if_neg (by omega),show cntUp l p+J+lenL l+1-1=cntUp l (nextL l (p+1))+J+lenL l+1 by omega]
   exact .take g1 t3
 | @turn s hs=>
  refine ⟨⟨ok.cw,ok.ww,by omega,by simp,by simp,fun h=>by simp at h⟩,?_⟩
  obtain ⟨rem,e,hp⟩:=ph_parts (w0:=w0) (c0:=c0) (J:=J) (st:=1) hs ok.en ok.cw ok.ww hln rfl
  unfold stepH
  rw [if_neg (by simp),if_pos rfl]
  refine ⟨?_,by simp⟩
  rw [show (J:Int)+lenL l+1-1=rem by omega]
  exact hp
 | @parts j w c n s hs he hc hw hl hn=>
  refine ⟨⟨hc,hw,by omega,by simp only [];omega,by simp only [];omega,fun h=>by simp at h⟩,?_⟩
  obtain ⟨rem,e,hp⟩:=ph_parts (w0:=w0) (c0:=c0) (J:=J) (st:=2) hs he hc hw hl hn
  unfold stepH
  rw [if_neg (by simp),if_neg (by simp),if_pos rfl]
  refine ⟨?_,by simp⟩
  rw [show (j:Int)+lenL l+1-1=rem by omega]
  exact hp
 | @give p s hl hs=>
  have hpr:0≤p∧p≤2:=by unfold isLane at hl;omega
  have he:=ok.en.keeps ok.cw ok.ww (by omega)
  refine ⟨⟨he.1,he.2.1,by omega,by simp only [];omega,by simp only [];omega,fun _=>hpr⟩,?_⟩
  have hg:=give_step hs hf hl
  have hc:=cntLo_give hl
  rw [show p=(p-1)+1 by omega] at hg
  obtain ⟨rem,e,hp⟩:=skip_ph (w0:=w0) (c0:=c0) (J:=J) (w1:=w1) (c1:=c1) hg (by omega) (by omega)
  unfold stepH giveH wr
  rw [if_neg (by simp),if_neg (by simp),if_neg (by simp),if_pos rfl]
  simp only []
  rw [w64 (by omega)]
  refine ⟨?_,by simp⟩
  rw [show cntLo l (p+1)+1-1=rem by rw [e,show p-1+1=p by omega];omega]
  rw [show p-1+1=p by omega] at hp
  exact hp
 | @tell s hs=>
  have he:=ok.en.keeps ok.cw ok.ww (by omega)
  refine ⟨⟨he.1,he.2.1,by omega,by simp,by simp,fun h=>by simp at h⟩,?_⟩
  unfold stepH
  rw [if_neg (by simp),if_neg (by simp),if_neg (by simp),if_neg (by simp),if_pos rfl]
  exact ⟨.over hs,by simp⟩
 |over hs=>exact absurd rfl hr
theorem ph_start (w0:Work) (c0:Core) (J:Nat) (w1:Work) (c1:Core):Ph s0 l who w0 c0 J w1 c1 (2*lenL l+J+1) (newH w0 who l) c0 s0:=by
 have hs:=(HA.zero s0 l who).skip (Int.le_refl _)
 have hc:=cntUp_skip l 0
 rw [cntUp_0] at hc
 unfold newH
 rcases next_range l 0 with ⟨g1,_⟩ |⟨g1,g2,g3,g4⟩
 ·rw [g1] at hs hc ⊢
  rw [cntUp_3] at hc
  rw [if_pos rfl,show 2*lenL l+J+1=J+lenL l+1 by omega]
  exact .turn hs
 ·rw [if_neg (by omega),show 2*lenL l+(J:Int)+1=cntUp l (nextL l 0)+J+lenL l+1 by omega]
  exact .take g1 hs
theorem cntLo_nonneg (l:Lane) (p:Int):0≤cntLo l p:=by unfold cntLo bI;grind
theorem cntUp_nonneg (l:Lane) (p:Int):0≤cntUp l p:=by unfold cntUp bI;grind
theorem Ph.left (hp:Ph s0 l who w0 c0 J w1 c1 rem h c s):0≤rem∧(rem=0↔h.stage=5)∧0≤h.stage∧h.stage≤5:=by
 have hl:=lenL_le' l
 cases hp with
 | @take p _ _ _=>have:=cntUp_nonneg l p;simp only [];omega
 |turn=>simp only [];omega
 |parts=>simp only [];omega
 | @give p _ _ _=>have:=cntLo_nonneg l (p+1);simp only [];omega
 |tell=>simp
 |over=>simp
theorem HA.held {p:Int} (h:HA s0 l who s p) (hf:FreeF s0 l who 0):heldL s who=⟨l.a0&&decide (0<p),l.a1&&decide (1<p),l.a2&&decide (2<p)⟩:=by
 obtain ⟨f1,f2,f3,f4,_⟩:=hf
 obtain ⟨h1,h2,h3⟩:=h
 have hne:who≠0:=by omega
 unfold heldL
 rw [h1,h2,h3]
 obtain ⟨a0,a1,a2⟩:=l
 simp only [decide_eq_true hne,Bool.true_and]
 congr 1
 ·cases a0<;>by_cases hp:0<p<;>simp [hp,f2]
 ·cases a1<;>by_cases hp:1<p<;>simp [hp,f3]
 ·cases a2<;>by_cases hp:2<p<;>simp [hp,f4]
theorem FreeF.zero {q:Int} (h:FreeF s0 l who q):FreeF s0 l who 0:=⟨h.1,h.2.1,h.2.2.1,h.2.2.2.1,fun _ h=>by omega,fun _ h=>by omega,fun _ h=>by omega⟩
theorem Ph.held (hp:Ph s0 l who w0 c0 J w1 c1 rem h c s) (hf:FreeF s0 l who 0): ∃p:Int,heldL s who=⟨l.a0&&decide (0<p),l.a1&&decide (1<p),l.a2&&decide (2<p)⟩∧(h.stage=1∨h.stage=2→p=3)∧(h.stage≤1→c=c0):=by
 cases hp with
 |take _ hs=>exact ⟨_,hs.held hf,fun h=>by simp at h,fun _=>rfl⟩
 |turn hs=>exact ⟨_,hs.held hf,fun _=>rfl,fun _=>rfl⟩
 |parts hs=>exact ⟨_,hs.held hf,fun _=>rfl,fun h=>by simp at h⟩
 |give _ hs=>exact ⟨_,hs.held hf,fun h=>by simp at h,fun h=>by simp at h⟩
 |tell hs=>exact ⟨_,hs.held hf,fun h=>by simp at h,fun h=>by simp at h⟩
 |over hs=>exact ⟨_,hs.held hf,fun h=>by simp at h,fun h=>by simp at h⟩
theorem Ph.last (hp:Ph s0 l who w0 c0 J w1 c1 rem h c s) (h5:h.stage=5):h.W=w1∧c=c1∧s.o0=s0.o0∧s.o1=s0.o1∧s.o2=s0.o2:=by
 cases hp with
 |take=>simp at h5
 |turn=>simp at h5
 |parts=>simp at h5
 |give=>simp at h5
 |tell=>simp at h5
 |over hs=>
  obtain ⟨h1,h2,h3⟩:=hs
  exact ⟨rfl,rfl,by simpa using h1,by simpa using h2,by simpa using h3⟩
theorem Ph.waits (hp:Ph s0 l who w0 c0 J w1 c1 rem h c s) (hf:FreeF s0 l who 3):waitsH h s=false:=by
 cases hp with
 | @take p s hl hs=>
  have hpr:0≤p∧p≤2:=by unfold isLane at hl;omega
  have hft:FreeF s0 l who (p+1):=⟨hf.1,hf.2.1,hf.2.2.1,hf.2.2.2.1,fun a _=>hf.2.2.2.2.1 a (by omega),fun a _=>hf.2.2.2.2.2.1 a (by omega),fun a _=>hf.2.2.2.2.2.2 a (by omega)⟩
  unfold waitsH
  simp [own_free hs hft hl]
 |turn=>simp [waitsH]
 |parts=>simp [waitsH]
 |give=>simp [waitsH]
 |tell=>simp [waitsH]
 |over=>simp [waitsH]
end
end Go.Ax.Law
namespace Go.Ax.Law
def settleF (depth most:Int):Nat→Int→Core→(Int × Bool) × Core
 |0,_,c=>((max most 0,false),c)
 |f+1,n,c=>if most<n then ((max most 0,false),c)
  else if (passS c depth).1.2.2.2≠0 then ((n,false),(passS c depth).2)
  else if (passS c depth).1.2.1=0 then ((n,true),(passS c depth).2) else settleF depth most f (n+1) (passS c depth).2
def settleS (c:Core) (depth most:Int):(Int × Bool) × Core:=settleF depth most most.toNat 1 c
def openC (c:Core):List Choice:=(itemsC c).flatMap fun x=>(planA c.P 1 [x]).1
def firstC (c:Core) (id:Int):Int:=
 if (getJ c.J.jobs id).2≠0∨(getJ c.J.jobs id).1.State≠1 then-1
 else match (openC c).find? fun x=>decide (x.Id=id) with |some x=>x.At |none=>(getJ c.J.jobs id).1.Plan
def takenJ (at_:Int) (j:Job):Int:=
 if j.State=3 then (if j.Start≤at_∧at_<j.End then j.Width else 0) else if j.State=1∧0≤j.Plan∧j.Plan≤at_∧at_<wr (j.Plan+j.Limit) then j.Width else 0
def takenC (c:Core) (at_:Int):Int:=c.J.jobs.foldl (fun n j=>n+takenJ at_ j) 0
def roomN (c:Core) (at_:Int) (k:Nat):Int:=if stateN c.N k=1∨stateN c.N k=2∨(stateN c.N k=3∧at_<(holderJ c.J.jobs k).End) then 1 else 0
def roomF (c:Core) (at_:Int):Nat→Int
 |0=>0
 |n+1=>roomF c at_ n+roomN c at_ n
def roomC (c:Core) (at_:Int):Int:=roomF c at_ (lenS c.N.all).toNat
def sameC (a b:Core):Bool:=sameJ a.J.jobs b.J.jobs&&(sameS a.P.steps b.P.steps&&((a.closed==b.closed)&&(decide (lenS a.N.all=lenS b.N.all)&&(List.range (lenS a.N.all).toNat).all fun k=>decide (stateN a.N k=stateN b.N k))))
def foreJ (t:Core) (j:Job):List Told37:=
 let x:=(getJ t.J.jobs j.Id).1
 if x.State=3 then [⟨x.Id,x.Start,x.End⟩] else if 0≤x.Plan then [⟨x.Id,x.Plan,wr (x.Plan+x.Limit)⟩] else []
def foreC (c:Core):List Told37:=(waitC c).flatMap (foreJ (passS c 64).2)
def emptyC (c:Core):Int:=
 if (foreC c).length<(waitC c).length then-1 else (inJ c.J.jobs [3]).foldl (fun t j=>max t j.End) ((foreC c).foldl (fun t x=>max t x.End) (nowC c))
end Go.Ax.Law
namespace Go.Ax.Sp
def lAwP:LoopAnn:={X:=Core × List Int × Int,live:=fun x=>[(1,.ptr ⟨0,0,0,0⟩),(3,.sl 1 1 0 x.2.1.length),(4,.int .i64 x.2.2)],heap:=fun x=>[some (.obj .sched ⟨x.1⟩),some (.row .i64 x.2.1)],norm:=[.fold 0 .sched]}
def lPassLow:LoopAnn:={X:=Core × List Job × List Job × Int,live:=fun x=>[(7,.ptr ⟨0,0,0,0⟩),(8,.sl 5 10 0 x.2.1.length),(9,.sl 12 10 0 x.2.2.1.length),(10,.int .i64 x.2.2.2)],heap:=fun x=>[some (.obj .sched ⟨x.1⟩),none,none,none,none,some (.row .job x.2.1),none,none,none,none,none,none,some (.row .job x.2.2.1)],norm:=[.fold 0 .sched]}
def sPassD:Sig:=⟨[(.int .i64,false),(.imm .deed,false),(.int .i64,false)],[.bool]⟩
def oPassD:sPassD.Out:=fun _ k=>k () (true,())
def lOpWait:LoopAnn:={X:=Req × Int × Core × LockSet × OpD × List Job × Int,live:=fun x=>[(3,.int .i64 x.2.1),(6,.ptr ⟨0,0,0,0⟩),(9,.ptr ⟨1,0,0,0⟩),(10,.ptr ⟨2,0,0,0⟩),(11,.ptr ⟨3,0,0,0⟩),(12,.sl 8 10 0 x.2.2.2.2.2.1.length),(13,.int .i64 x.2.2.2.2.2.2)],heap:=fun x=>[some (.raw (EK.enc .req x.1)),some (.obj .sched ⟨x.2.2.1⟩),some (.obj .lockSet x.2.2.2.1),some (.obj .opD x.2.2.2.2.1),none,none,none,none,some (.row .job x.2.2.2.2.2.1)],norm:=[.fold 1 .sched,.fold 2 .lockSet,.fold 3 .opD]}
def sOpWait:Sig:=⟨[(.int .i64,false),(.imm .deed,false),(.elem .req,false),(.int .i64,false)],[.bool]⟩
def oOpWait:sOpWait.Out:=fun _ k=>k () (true,())
def sOpD:Sig:=⟨[(.int .i64,false),(.imm .deed,false),(.elem .req,false)],[.bool]⟩
def oOpD:sOpD.Out:=fun _ k=>k () (true,())
def lOpLock:LoopAnn:={X:=Core × List Job × List Step × LockSet × OpD × Lane × Int,live:=fun x=>[(7,.ptr ⟨1,0,0,0⟩),(8,.sl 6 10 0 x.2.1.length),(9,.sl 7 2 0 x.2.2.1.length),(10,.ptr ⟨8,0,0,0⟩),(11,.ptr ⟨9,0,0,0⟩),(12,.ptr ⟨10,0,0,0⟩),(13,.int .i64 x.2.2.2.2.2.2)],heap:=fun x=>[none,some (.obj .sched ⟨x.1⟩),none,none,none,none,some (.row .job x.2.1),some (.row .step x.2.2.1),some (.obj .lockSet x.2.2.2.1),some (.obj .opD x.2.2.2.2.1),some (.raw (EK.enc .lane x.2.2.2.2.2.1))],norm:=[.fold 1 .sched,.fold 8 .lockSet,.fold 9 .opD]}
def lOpLock2:LoopAnn:={X:=Core × List Job × List Step × LockSet × OpD × Lane × Int × Int × Lane × Bool × Int,live:=fun x=>[(7,.ptr ⟨1,0,0,0⟩),(8,.sl 6 10 0 x.2.1.length),(9,.sl 7 2 0 x.2.2.1.length),(10,.ptr ⟨8,0,0,0⟩),(11,.ptr ⟨9,0,0,0⟩),(12,.ptr ⟨10,0,0,0⟩),(13,.int .i64 x.2.2.2.2.2.2.1),(14,.int .i64 x.2.2.2.2.2.2.2.1),(15,.ptr ⟨12,0,0,0⟩),(16,.bool x.2.2.2.2.2.2.2.2.2.1),(17,.int .i64 x.2.2.2.2.2.2.2.2.2.2)],heap:=fun x=>[none,some (.obj .sched ⟨x.1⟩),none,none,none,none,some (.row .job x.2.1),some (.row .step x.2.2.1),some (.obj .lockSet x.2.2.2.1),some (.obj .opD x.2.2.2.2.1),some (.raw (EK.enc .lane x.2.2.2.2.2.1)),none,some (.raw (EK.enc .lane x.2.2.2.2.2.2.2.2.1))],norm:=[.fold 1 .sched,.fold 8 .lockSet,.fold 9 .opD]}
end Go.Ax.Sp
namespace Go.Ax.V
open Go.Ax.Sp Go.Ax.Law List Int IntKind
set_option maxRecDepth 100000
def vOpWait (n:Int) (l:List Deed) (r:Req) (d:Int) (k:Unit→Bool × Unit→Prop):Prop:=
SH ((k () (false,())∧True)∧True) fun s0=>SH (k () (false,())) fun s1=>SH (k () (true,())) fun s2=>SH ((s0∧True)∧True) fun s3=>(n<1∨64<n→s2)∧(1≤n∧n≤64→br (decide (d<0)) s2 (br (decide (d>2)) s2 (br (!(tryL (LockSet.mk 0 0 0 0) d 9).1==0) s1 (JW (madeS n l).J∧LP (Req × Int × Core × LockSet × OpD × List Job × Int) (fun x=>(d=x.2.1∧0=0∧0=0∧0=0∧0=0∧(0=0∧length (madeS n l).J.jobs=length x.2.2.2.2.2.1)∧0=x.2.2.2.2.2.2∧True)∧(r.Kind=x.1.Kind∧r.Id=x.1.Id∧r.User=x.1.User∧r.Width=x.1.Width∧r.Limit=x.1.Limit∧r.Prio=x.1.Prio∧r.Held=x.1.Held∧r.Node=x.1.Node∧r.By=x.1.By∧True)∧Sched.mk (madeS n l)=Sched.mk x.2.2.1∧(tryL (LockSet.mk 0 0 0 0) d 9).2=x.2.2.2.1∧newO r 5=x.2.2.2.2.1∧(madeS n l).J.jobs=x.2.2.2.2.2.1∧True) fun I m x=>SH (stepH x.2.2.2.2.1.H x.2.2.1 x.2.2.2.1) fun s4=>SH (!((true&&decide (s4.2.2.2.o0=5))==(true&&decide (x.2.2.2.1.o0=5))&&((true&&decide (s4.2.2.2.o1=5))==(true&&decide (x.2.2.2.1.o1=5))&&((true&&decide (s4.2.2.2.o2=5))==(true&&decide (x.2.2.2.1.o2=5))&&true)))) fun s5=>SH (!sameJ (take (length s4.2.2.1.J.jobs) (drop 0 s4.2.2.1.J.jobs)) (take (length x.2.2.2.2.2.1) (drop 0 x.2.2.2.2.2.1))) fun s6=>SH x.2.2.2.2 fun s7=>SH (length s4.2.2.1.J.jobs) fun s8=>SH (unlockL s4.2.2.2 x.2.1 9) fun s9=>SH (!stageO (some s4.2.1)==stageO (some s7.1.H)) fun s10=>SH (length (take s8 (drop 0 s4.2.2.1.J.jobs))) fun s11=>SH (length s7.2.1) fun s12=>SH (!stageO (some s7.1.H)==0) fun s13=>SH (decide (s7.1.H.stage=5)) fun s14=>SH (!waitsH s4.2.1 s4.2.2.2) fun s15=>SH (!waitsH s4.2.1 s9.2) fun s16=>SH (needsR x.1.Kind) fun s17=>SH s4.2.2.1.J fun s18=>SH x.2.2.1 fun s19=>SH (s9.1==0) fun s20=>SH ((PreH s7.1.H s19∧br s15 s3 (br s4.1 s3 (br s10 (s0∧True) (br s13 (s0∧True) (br s5 s0 ((JW s18∧(0+s12≤s12∧0+s8≤s8∧s11≤1099511627776∧br s6 s1 (br s20 (br s16 s2 s1) s1))∧True)∧True)∧True))∧True))∧True)∧True) fun s21=>SH ((0≤x.2.1∧x.2.1<3)∧(x.2.1=0→br (!s17.a0) (br s14 s2 s1) s21)∧(x.2.1=1→br (!s17.a1) (br s14 s2 s1) s21)∧(x.2.1=2→br (!s17.a2) (br s14 s2 s1) s21)∧True) fun s22=>br (decide (s7.2.2<3000)) (br (!s14) (br (!waitsH s7.1.H x.2.2.2.1) ((PreH s7.1.H s19∧NM (s7.2.2+1) fun n=>NX I m x fun y=>(x.2.1=y.2.1∧0=0∧0=0∧0=0∧0=0∧(0=0∧s12=length y.2.2.2.2.2.1)∧n=y.2.2.2.2.2.2∧True)∧(x.1.Kind=y.1.Kind∧x.1.Id=y.1.Id∧x.1.User=y.1.User∧x.1.Width=y.1.Width∧x.1.Limit=y.1.Limit∧x.1.Prio=y.1.Prio∧x.1.Held=y.1.Held∧x.1.Node=y.1.Node∧x.1.By=y.1.By∧True)∧Sched.mk s4.2.2.1=Sched.mk y.2.2.1∧s4.2.2.2=y.2.2.2.1∧OpD.mk s4.2.1 s7.1.req=y.2.2.2.2.1∧s7.2.1=y.2.2.2.2.2.1∧True)∧True) s22) s22) s22))))
end Go.Ax.V
namespace Go.Ax.Law
open Go.Ax.O
theorem wait_step {s0 s:LockSet} {l:Lane} {who p:Int} {w0:Work} {c:Core} (hs:HA s0 l who s p) (hf:FreeF s0 l who p) (hl:isLane l p) (ho:ownL s0 p≠0):
  stepH ⟨w0,who,l.a0,l.a1,l.a2,p,0⟩ c s=(false,⟨w0,who,l.a0,l.a1,l.a2,p,0⟩,c,s)∧waitsH ⟨w0,who,l.a0,l.a1,l.a2,p,0⟩ s=true:=by
 obtain ⟨h1,h2,h3⟩:=take_wait hs hf hl ho
 unfold stepH takeH waitsH
 rw [if_pos rfl,if_pos h1,h2]
 simp [h3]
theorem take_next {s0 s:LockSet} {l:Lane} {who p d:Int} {w0:Work} {c:Core} (hs:HA s0 l who s p) (hf:FreeF s0 l who d) (hl:isLane l p) (hpd:p<d) (hd:isLane l d):
  (∃q,isLane l q∧p<q∧q≤d∧stepH ⟨w0,who,l.a0,l.a1,l.a2,p,0⟩ c s=(false,⟨w0,who,l.a0,l.a1,l.a2,q,0⟩,c,(tryL s p who).2)∧HA s0 l who (tryL s p who).2 q)∧waitsH ⟨w0,who,l.a0,l.a1,l.a2,p,0⟩ s=false:=by
 have hpr:0≤p∧p≤2:=by unfold isLane at hl;omega
 have hft:FreeF s0 l who (p+1):=⟨hf.1,hf.2.1,hf.2.2.1,hf.2.2.2.1,fun a _=>hf.2.2.2.2.1 a (by omega),fun a _=>hf.2.2.2.2.2.1 a (by omega),fun a _=>hf.2.2.2.2.2.2 a (by omega)⟩
 obtain ⟨t1,t2⟩:=take_step hs hft hl
 have t3:=t2.skip (by omega)
 have hq:isLane l (nextL l (p+1))∧p<nextL l (p+1)∧nextL l (p+1)≤d:=by
  unfold isLane nextL at*;grind
 refine ⟨⟨nextL l (p+1),hq.1,hq.2.1,hq.2.2,?_,t3⟩,?_⟩
 ·have hq2:nextL l (p+1)≠3:=by have:=hq.1;unfold isLane at this;omega
  unfold stepH takeH wr
  rw [if_pos rfl,if_neg (by simp only [];rw [t1];simp)]
  simp only [show laneH (⟨w0,who,l.a0,l.a1,l.a2,p,0⟩:Hand)=l from rfl]
  rw [w64 (by omega),if_neg hq2]
 ·unfold waitsH
  simp [own_free hs hft hl]
theorem try_free {d:Int} (h:0≤d∧d≤2): ∃s0,tryL lock0 d 9=(0,s0)∧ownL s0 d=9∧(∀l,isLane l d→FreeF s0 l 5 d)∧ ∀l,laneHas l d=false→FreeF s0 l 5 3:=by
 have hd:d=0∨d=1∨d=2:=by omega
 rcases hd with rfl |rfl |rfl
 ·refine ⟨⟨9,0,0,1⟩,by rfl,by rfl,fun l _=>by unfold FreeF;simp,fun l hl=>?_⟩
  unfold FreeF;simp [laneHas] at hl ⊢;simp [hl]
 ·refine ⟨⟨0,9,0,1⟩,by rfl,by rfl,fun l _=>by unfold FreeF;simp,fun l hl=>?_⟩
  unfold FreeF;simp [laneHas] at hl ⊢;simp [hl]
 ·refine ⟨⟨0,0,9,1⟩,by rfl,by rfl,fun l _=>by unfold FreeF;simp,fun l hl=>?_⟩
  unfold FreeF;simp [laneHas] at hl ⊢;simp [hl]
theorem has_lane {l:Lane} {d:Int} (h:0≤d∧d≤2) (hl:laneHas l d=true):isLane l d:=by
 have hd:d=0∨d=1∨d=2:=by omega
 unfold isLane
 rcases hd with rfl |rfl |rfl<;>simp [laneHas] at hl<;>simp [hl]
theorem own_HA {s0 s:LockSet} {l:Lane} {who d:Int} (h:0≤d∧d≤2) (hs:HA s0 l who s d):ownL s d=ownL s0 d:=by
 obtain ⟨h1,h2,h3⟩:=hs
 have hd:d=0∨d=1∨d=2:=by omega
 rcases hd with rfl |rfl |rfl<;>simp at h1 h2 h3<;>simp [ownL,h1,h2,h3]
theorem unlock_own {s:LockSet} {d:Int} (h:0≤d∧d≤2) (ho:ownL s d=9):(unlockL s d 9).1=0∧ownL (unlockL s d 9).2 d=0:=by
 have hd:d=0∨d=1∨d=2:=by omega
 unfold unlockL
 rcases hd with rfl |rfl |rfl<;>simp [ownL] at ho<;>simp [ownL,putL,ho]
theorem ph_ok {s0:LockSet} {l:Lane} {who:Int} {c:Core} (h:OkS c) (r:Req): ∃(J:Nat),J≤140∧PhOK s0 l who (newW r) c J (wholeW (newW r) c).2.1 (wholeW (newW r) c).2.2:=by
 obtain ⟨n,m,h⟩:=h
 obtain ⟨J,h1,h2⟩:=ends_do h r
 have:=h.len
 exact ⟨J,h1,h2,h.cw,newW_WW r,by omega⟩
end Go.Ax.Law
namespace Go.Ax.O
open Go.Ax.Sp Go.Ax.Law
theorem br_nde {p:Prop} [Decidable p] {A B:Prop} (h1: ¬ p→A) (h2:p→B):br (!decide p) A B:=br_not (fun h=>h1 (of_decide_eq_false h)) (fun h=>h2 (of_decide_eq_true h))
theorem vOpWait {n:Int} {l:List Deed} {r:Req} {d:Int} {k:Unit→Bool × Unit→Prop} (h:oOpWait (n,l,r,d,()) k):V.vOpWait n l r d k:=by
 have h:k () (true,()):=h
 unfold V.vOpWait V.LP V.NX V.NM V.SH
 refine ⟨fun _=>h,fun hn=>br_dec (fun _=>h) (fun hd1=>br_dec (fun _=>h) (fun hd2=>?_))⟩
 have hd:0≤d∧d≤2:=by omega
 obtain ⟨s0,e0,o9,f1,f2⟩:=try_free hd
 rw [show (LockSet.mk 0 0 0 0)=lock0 from rfl,e0]
 refine br_ne (fun hh=>absurd rfl hh) (fun _=>?_)
 have hs:=(show OkS (madeS n l) from ⟨_,_,madeS_stb hn.1 hn.2 l⟩)
 generalize madeS n l=c0 at hs ⊢
 refine ⟨hs.cw.1,?_⟩
 generalize hell:needsR r.Kind=ell
 obtain ⟨J,hJ,ok⟩:=ph_ok (s0:=s0) (l:=ell) (who:=5) hs r
 generalize (wholeW (newW r) c0).2.1=w1 at ok
 generalize (wholeW (newW r) c0).2.2=c1 at ok
 have hl3:=lenL_le' ell
 have hjl:=hs.cw.1.2.1
 refine ⟨fun x=>x.1.Kind=r.Kind∧x.2.1=d∧x.2.2.2.2.2.1=c0.J.jobs∧0≤x.2.2.2.2.2.2∧((laneHas ell d=false∧ ∃rem,Ph s0 ell 5 (newW r) c0 J w1 c1 rem x.2.2.2.2.1.H x.2.2.1 x.2.2.2.1∧x.2.2.2.2.2.2+rem≤200)∨
   (laneHas ell d=true∧ ∃p,isLane ell p∧p≤d∧HA s0 ell 5 x.2.2.2.1 p∧x.2.2.2.2.1.H=⟨newW r,5,ell.a0,ell.a1,ell.a2,p,0⟩∧x.2.2.1=c0∧x.2.2.2.2.2.2≤p)),fun x=>(3000-x.2.2.2.2.2.2).toNat,
  (r,d,c0,s0,newO r 5,c0.J.jobs,0),⟨rfl,rfl,rfl,by simp,?_⟩,by simp,?_⟩
 ·have hst:=ph_start (s0:=s0) (l:=ell) (who:=5) (newW r) c0 J w1 c1
  cases hb:laneHas ell d with
  |false=>
   refine .inl ⟨rfl,(2*lenL ell+ ↑J+1),?_,?_⟩
   ·simp only [newO,hell];exact hst
   ·simp only [];omega
  |true=>
   have hla:=has_lane hd hb
   have hs0:=(HA.zero s0 ell 5).skip (Int.le_refl _)
   have hq:isLane ell (nextL ell 0)∧nextL ell 0≤d∧0≤nextL ell 0:=by unfold isLane nextL at*;grind
   refine .inr ⟨rfl,nextL ell 0,hq.1,hq.2.1,hs0,?_,rfl,hq.2.2⟩
   simp only [newO,hell]
   unfold newH
   rw [if_neg (by have:=hq.1;unfold isLane at this;omega)]
 rintro ⟨r',d',c,s,⟨H,rq⟩,was,i⟩ ⟨e1,e2,e3,hi,hcase⟩
 simp only [] at e1 e2 e3 hi hcase
 subst e2 e3
 simp only [e1,hell]
 refine br_dec (fun h3=>br_nde (fun h5=>br_not (fun hw=>?_) (fun hw=>?_)) (fun h5=>?_)) (fun h3=>?_)
 ·
  have hw':waitsH H s=false:=by simpa using hw
  rcases hcase with ⟨hb,rem,hp,hr⟩ |⟨hb,p,q1,q2,q3,q4,q5,q6⟩
  ·obtain ⟨g1,g2,_⟩:=Ph.step ok (f2 ell hb) hp h5
   have hlf:=(hp.left).2.1
   refine ⟨⟨g1,fun n hn=>?_⟩,trivial⟩
   rw [show IntKind.i64.wrap (i+1)=i+1 from w64 (by omega)] at hn
   subst hn
   exact ⟨((r',d',(stepH H c s).2.2.1,(stepH H c s).2.2.2,⟨(stepH H c s).2.1,rq⟩,c0.J.jobs,i+1):Req × Int × Core × LockSet × OpD × List Job × Int),⟨e1,rfl,rfl,by simp only [];omega,.inl ⟨hb,rem-1,g2,by simp only [];omega⟩⟩,by simp [e1],by simp only [];omega⟩
  ·have hpd:p<d':=by
    rcases Int.lt_or_le p d' with hh |hh
    ·exact hh
    ·have he:p=d':=by omega
     subst he
     have:=(wait_step (w0:=newW r) (c:=c0) q3 (f1 ell q1) q1 (by rw [o9];decide)).2
     rw [←q4,hw'] at this
     exact absurd this (by simp)
   obtain ⟨⟨q,t1,t2,t3,t4,t5⟩,_⟩:=take_next (w0:=newW r) (c:=c0) q3 (f1 ell (has_lane hd hb)) q1 hpd (has_lane hd hb)
   subst q5
   rw [←q4] at t4
   have hP:PreH H c:=by
    rw [q4]
    have hpr:0≤p∧p≤2:=by unfold isLane at q1;omega
    exact ⟨ok.cw,newW_WW r,by have:=ok.ln;omega,by simp only [];omega,by simp only [];omega,fun hh=>by simp at hh⟩
   refine ⟨⟨hP,fun n hn=>?_⟩,trivial⟩
   rw [show IntKind.i64.wrap (i+1)=i+1 from w64 (by omega)] at hn
   subst hn
   rw [t4]
   exact ⟨((r',d',c,(tryL s p 5).2,⟨⟨newW r,5,ell.a0,ell.a1,ell.a2,q,0⟩,rq⟩,c.J.jobs,i+1):Req × Int × Core × LockSet × OpD × List Job × Int),⟨e1,rfl,rfl,by simp only [];omega,.inr ⟨hb,q,t1,t3,t5,rfl,rfl,by simp only [];omega⟩⟩,by simp [e1],by simp only [];omega⟩
 ·
  rcases hcase with ⟨hb,rem,hp,hr⟩ |⟨hb,p,q1,q2,q3,q4,q5,q6⟩
  ·have:=hp.waits (f2 ell hb)
   simp [this] at hw
  have hpd:p=d':=by
   rcases Int.lt_or_le p d' with hh |hh
   ·have:=(take_next (w0:=newW r) (c:=c0) q3 (f1 ell (has_lane hd hb)) q1 hh (has_lane hd hb)).2
    rw [←q4] at this
    simp [this] at hw
   ·omega
  subst hpd
  have ho:ownL s0 p≠0:=by rw [o9];decide
  obtain ⟨w1,w2⟩:=wait_step (w0:=newW r) (c:=c0) q3 (f1 ell q1) q1 ho
  obtain ⟨u1,u2⟩:=unlock_own hd (s:=s) (by rw [own_HA hd q3,o9])
  have u3:waitsH H (unlockL s p 9).2=false:=by
   unfold waitsH;rw [q4];simp [u2]
  have h0:H.stage=0:=by rw [q4]
  have hP:PreH H c:=by
   rw [q4,q5]
   exact ⟨ok.cw,newW_WW r,by have:=ok.ln;omega,by simp only [];omega,by simp only [];omega,fun hh=>by simp at hh⟩
  rw [←q4,←q5] at w1
  rw [←q4] at w2
  subst q5
  rw [w1]
  have hjl2:c.J.jobs.length≤1024:=hjl
  have hsj:sameJ (List.take c.J.jobs.length (List.drop 0 c.J.jobs)) (List.take c.J.jobs.length (List.drop 0 c.J.jobs))=true:=sameJ_iff.2 rfl
  refine ⟨⟨hd.1,by omega⟩,fun hz=>br_not (fun hh=>?_) (fun _=>?_),fun hz=>br_not (fun hh=>?_) (fun _=>?_),fun hz=>br_not (fun hh=>?_) (fun _=>?_),trivial⟩
  all_goals first
   |(exfalso;subst hz;simp [laneHas,hh] at hb;done)
   |refine ⟨⟨hP,br_not (fun hh=>absurd (w2.symm.trans hh) (by simp)) (fun _=>br_f rfl ⟨br_ne (fun hh=>absurd rfl hh) (fun _=>br_ne (fun hh=>absurd h0 hh) (fun _=>⟨?_,trivial⟩)),trivial⟩),trivial⟩,trivial⟩
  all_goals
   simp only [beq_self_eq_true,Bool.and_self,Bool.not_true]
   exact br_f rfl ⟨⟨ok.cw.1,⟨by omega,by omega,by rw [List.length_take];omega,br_not (fun hh=>absurd (hsj.symm.trans hh) (by simp)) (fun _=>br_eq (fun _=>br_not (fun _=>h) (fun hh=>absurd (u3.symm.trans hh) (by simp))) (fun hh=>absurd u1 hh))⟩,trivial⟩,trivial⟩
 ·
  rcases hcase with ⟨hb,rem,hp,hr⟩ |⟨hb,p,q1,q2,q3,q4,q5,q6⟩
  ·have hz: ∀q,d'=q→laneHas ell q=false:=fun q hq=>hq▸hb
   refine ⟨⟨hd.1,by omega⟩,fun hz=>br_not (fun _=>br_dec (fun _=>h) (fun hh=>absurd h5 hh)) (fun hh=>?_),fun hz=>br_not (fun _=>br_dec (fun _=>h) (fun hh=>absurd h5 hh)) (fun hh=>?_),fun hz=>br_not (fun _=>br_dec (fun _=>h) (fun hh=>absurd h5 hh)) (fun hh=>?_),trivial⟩
   all_goals
    rw [hz] at hb
    simp [laneHas,hh] at hb
  ·rw [q4] at h5;simp at h5
 ·exfalso
  rcases hcase with ⟨hb,rem,hp,hr⟩ |⟨hb,p,q1,q2,q3,q4,q5,q6⟩
  ·have:=(hp.left).1
   omega
  ·omega
end Go.Ax.O
namespace Go.Ax.Sp
def lOpLockC:LoopAnn:={X:=Core × List Job × List Step × LockSet × OpD × Lane × Int × Int × Lane × Bool × Int,live:=fun x=>[(7,.ptr ⟨1,0,0,0⟩),(8,.sl 6 10 0 x.2.1.length),(9,.sl 7 2 0 x.2.2.1.length),(10,.ptr ⟨8,0,0,0⟩),(11,.ptr ⟨9,0,0,0⟩),(12,.ptr ⟨10,0,0,0⟩),(13,.int .i64 x.2.2.2.2.2.2.1),(14,.int .i64 x.2.2.2.2.2.2.2.1),(15,.ptr ⟨12,0,0,0⟩),(16,.bool x.2.2.2.2.2.2.2.2.2.1),(17,.int .i64 x.2.2.2.2.2.2.2.2.2.2)],heap:=fun x=>[none,some (.obj .sched ⟨x.1⟩),none,none,none,none,some (.row .job x.2.1),some (.row .step x.2.2.1),some (.obj .lockSet x.2.2.2.1),some (.obj .opD x.2.2.2.2.1),some (.raw (EK.enc .lane x.2.2.2.2.2.1)),none,some (.raw (EK.enc .lane x.2.2.2.2.2.2.2.2.1))],norm:=[.fold 1 .sched,.fold 8 .lockSet,.fold 9 .opD],cases:=some (17,3)}
end Go.Ax.Sp
namespace Go.Ax.V
open Go.Ax.Sp Go.Ax.Law List Int IntKind
set_option maxRecDepth 100000
def vOpLock (n:Int) (l:List Deed) (r:Req) (k:Unit→Bool × Unit→Prop):Prop:=
SH (madeS n l) fun s0=>SH ((0:Int)≤0∧(0:Int)<3) fun s1=>SH ((0:Int)≤1∧(1:Int)<3) fun s2=>SH ((0:Int)≤2∧(2:Int)<3) fun s3=>SH (k () (false,())) fun s4=>(n<1∨64<n→k () (true,()))∧(1≤n∧n≤64→JW s0.J∧PW s0.P∧LP (Core × List Job × List Step × LockSet × OpD × Lane × Int) (fun x=>SH x.2.2.2.2 fun s5=>((0:Nat)=0∧((0:Nat)=0∧length s0.J.jobs=length x.2.1)∧((0:Nat)=0∧length s0.P.steps=length x.2.2.1)∧(0:Nat)=0∧(0:Nat)=0∧(0:Nat)=0∧0=s5.2.2∧True)∧Sched.mk s0=Sched.mk x.1∧s0.J.jobs=x.2.1∧s0.P.steps=x.2.2.1∧LockSet.mk (0:Int) (0:Int) (0:Int) 0=x.2.2.2.1∧newO r 5=s5.1∧((needsR r.Kind).a0=s5.2.1.a0∧(needsR r.Kind).a1=s5.2.1.a1∧(needsR r.Kind).a2=s5.2.1.a2∧True)∧True) fun I m x=>SH x.2.2.2 fun s5=>SH (decide (s5.2.1.H.stage=5)) fun s6=>SH (br s6 (br (idleL s5.1) (k () (true,())) s4) s4) fun s7=>br (decide (s5.2.2.2<3000)) (br (!s6) (LP (Core × List Job × List Step × LockSet × OpD × Lane × Int × Int × Lane × Bool × Int) (fun x_1=>SH x_1.2.2.2.2.2 fun s8=>((0:Nat)=0∧((0:Nat)=0∧length x.2.1=length x_1.2.1)∧((0:Nat)=0∧length x.2.2.1=length x_1.2.2.1)∧(0:Nat)=0∧(0:Nat)=0∧(0:Nat)=0∧s5.2.2.2=s8.2.1∧stageO (some s5.2.1.H)=s8.2.2.1∧(0:Nat)=0∧false=s8.2.2.2.2.1∧0=s8.2.2.2.2.2∧True)∧Sched.mk x.1=Sched.mk x_1.1∧x.2.1=x_1.2.1∧x.2.2.1=x_1.2.2.1∧s5.1=x_1.2.2.2.1∧s5.2.1=x_1.2.2.2.2.1∧(s5.2.2.1.a0=s8.1.a0∧s5.2.2.1.a1=s8.1.a1∧s5.2.2.1.a2=s8.1.a2∧True)∧((true&&decide (s5.1.o0=5))=s8.2.2.2.1.a0∧(true&&decide (s5.1.o1=5))=s8.2.2.2.1.a1∧(true&&decide (s5.1.o2=5))=s8.2.2.2.1.a2∧True)∧True) fun I_1 m_1 x_1=>SH x_1.2.2.2.2.2 fun s8=>SH s8.2.2.2.1 fun s9=>SH x_1.2.2.2 fun s10=>SH x_1.2.2.1 fun s11=>SH (length x_1.2.1) fun s12=>SH s8.2.2.1 fun s13=>SH (length s11) fun s14=>SH s8.2.2.2.2.1 fun s15=>SH (!s9.a0==s8.1.a0) fun s16=>SH (!s9.a1==s8.1.a1) fun s17=>SH (!s9.a2==s8.1.a2) fun s18=>SH (stepH s10.2.1.H x_1.1 s10.1).2 fun s19=>SH (!s9.a0) fun s20=>SH (!s9.a1) fun s21=>SH (!s9.a2) fun s22=>SH x_1.1.P.steps fun s23=>SH s8.2.2.2.2.2 fun s24=>SH x_1.1.J.jobs fun s25=>SH (br s15 (NM (1:Int) fun n=>NX I_1 m_1 x_1 fun y=>SH y.2.2.2.2.2 fun s27=>((0:Nat)=0∧((0:Nat)=0∧s12=length y.2.1)∧((0:Nat)=0∧s14=length y.2.2.1)∧(0:Nat)=0∧(0:Nat)=0∧(0:Nat)=0∧s8.2.1=s27.2.1∧s13=s27.2.2.1∧(0:Nat)=0∧true=s27.2.2.2.2.1∧n=s27.2.2.2.2.2∧True)∧Sched.mk x_1.1=Sched.mk y.1∧x_1.2.1=y.2.1∧s11=y.2.2.1∧s10.1=y.2.2.2.1∧s10.2.1=y.2.2.2.2.1∧(s8.1.a0=s27.1.a0∧s8.1.a1=s27.1.a1∧s8.1.a2=s27.1.a2∧True)∧(s9.a0=s27.2.2.2.1.a0∧s9.a1=s27.2.2.2.1.a1∧s9.a2=s27.2.2.2.1.a2∧True)∧True) (s1∧br s8.1.a0 (s1∧NM (1:Int) fun n=>NX I_1 m_1 x_1 fun y=>SH y.2.2.2.2.2 fun s27=>((0:Nat)=0∧((0:Nat)=0∧s12=length y.2.1)∧((0:Nat)=0∧s14=length y.2.2.1)∧(0:Nat)=0∧(0:Nat)=0∧(0:Nat)=0∧s8.2.1=s27.2.1∧s13=s27.2.2.1∧(0:Nat)=0∧s20=s27.2.2.2.2.1∧n=s27.2.2.2.2.2∧True)∧Sched.mk x_1.1=Sched.mk y.1∧x_1.2.1=y.2.1∧s11=y.2.2.1∧s10.1=y.2.2.2.1∧s10.2.1=y.2.2.2.2.1∧(s8.1.a0=s27.1.a0∧s8.1.a1=s27.1.a1∧s8.1.a2=s27.1.a2∧True)∧(s9.a0=s27.2.2.2.1.a0∧s9.a1=s27.2.2.2.1.a1∧s9.a2=s27.2.2.2.1.a2∧True)∧True) (NM (1:Int) fun n=>NX I_1 m_1 x_1 fun y=>SH y.2.2.2.2.2 fun s27=>((0:Nat)=0∧((0:Nat)=0∧s12=length y.2.1)∧((0:Nat)=0∧s14=length y.2.2.1)∧(0:Nat)=0∧(0:Nat)=0∧(0:Nat)=0∧s8.2.1=s27.2.1∧s13=s27.2.2.1∧(0:Nat)=0∧false=s27.2.2.2.2.1∧n=s27.2.2.2.2.2∧True)∧Sched.mk x_1.1=Sched.mk y.1∧x_1.2.1=y.2.1∧s11=y.2.2.1∧s10.1=y.2.2.2.1∧s10.2.1=y.2.2.2.2.1∧(s8.1.a0=s27.1.a0∧s8.1.a1=s27.1.a1∧s8.1.a2=s27.1.a2∧True)∧(s9.a0=s27.2.2.2.1.a0∧s9.a1=s27.2.2.2.1.a1∧s9.a2=s27.2.2.2.1.a2∧True)∧True))) fun s26=>SH (br s15 (NM (2:Int) fun n=>NX I_1 m_1 x_1 fun y=>SH y.2.2.2.2.2 fun s28=>((0:Nat)=0∧((0:Nat)=0∧s12=length y.2.1)∧((0:Nat)=0∧s14=length y.2.2.1)∧(0:Nat)=0∧(0:Nat)=0∧(0:Nat)=0∧s8.2.1=s28.2.1∧s13=s28.2.2.1∧(0:Nat)=0∧true=s28.2.2.2.2.1∧n=s28.2.2.2.2.2∧True)∧Sched.mk x_1.1=Sched.mk y.1∧x_1.2.1=y.2.1∧s11=y.2.2.1∧s10.1=y.2.2.2.1∧s10.2.1=y.2.2.2.2.1∧(s8.1.a0=s28.1.a0∧s8.1.a1=s28.1.a1∧s8.1.a2=s28.1.a2∧True)∧(s9.a0=s28.2.2.2.1.a0∧s9.a1=s28.2.2.2.1.a1∧s9.a2=s28.2.2.2.1.a2∧True)∧True) (s2∧br s8.1.a1 (s2∧NM (2:Int) fun n=>NX I_1 m_1 x_1 fun y=>SH y.2.2.2.2.2 fun s28=>((0:Nat)=0∧((0:Nat)=0∧s12=length y.2.1)∧((0:Nat)=0∧s14=length y.2.2.1)∧(0:Nat)=0∧(0:Nat)=0∧(0:Nat)=0∧s8.2.1=s28.2.1∧s13=s28.2.2.1∧(0:Nat)=0∧s21=s28.2.2.2.2.1∧n=s28.2.2.2.2.2∧True)∧Sched.mk x_1.1=Sched.mk y.1∧x_1.2.1=y.2.1∧s11=y.2.2.1∧s10.1=y.2.2.2.1∧s10.2.1=y.2.2.2.2.1∧(s8.1.a0=s28.1.a0∧s8.1.a1=s28.1.a1∧s8.1.a2=s28.1.a2∧True)∧(s9.a0=s28.2.2.2.1.a0∧s9.a1=s28.2.2.2.1.a1∧s9.a2=s28.2.2.2.1.a2∧True)∧True) (NM (2:Int) fun n=>NX I_1 m_1 x_1 fun y=>SH y.2.2.2.2.2 fun s28=>((0:Nat)=0∧((0:Nat)=0∧s12=length y.2.1)∧((0:Nat)=0∧s14=length y.2.2.1)∧(0:Nat)=0∧(0:Nat)=0∧(0:Nat)=0∧s8.2.1=s28.2.1∧s13=s28.2.2.1∧(0:Nat)=0∧false=s28.2.2.2.2.1∧n=s28.2.2.2.2.2∧True)∧Sched.mk x_1.1=Sched.mk y.1∧x_1.2.1=y.2.1∧s11=y.2.2.1∧s10.1=y.2.2.2.1∧s10.2.1=y.2.2.2.2.1∧(s8.1.a0=s28.1.a0∧s8.1.a1=s28.1.a1∧s8.1.a2=s28.1.a2∧True)∧(s9.a0=s28.2.2.2.1.a0∧s9.a1=s28.2.2.2.1.a1∧s9.a2=s28.2.2.2.1.a2∧True)∧True))) fun s27=>SH (br s15 (NM (3:Int) fun n=>NX I_1 m_1 x_1 fun y=>SH y.2.2.2.2.2 fun s29=>((0:Nat)=0∧((0:Nat)=0∧s12=length y.2.1)∧((0:Nat)=0∧s14=length y.2.2.1)∧(0:Nat)=0∧(0:Nat)=0∧(0:Nat)=0∧s8.2.1=s29.2.1∧s13=s29.2.2.1∧(0:Nat)=0∧true=s29.2.2.2.2.1∧n=s29.2.2.2.2.2∧True)∧Sched.mk x_1.1=Sched.mk y.1∧x_1.2.1=y.2.1∧s11=y.2.2.1∧s10.1=y.2.2.2.1∧s10.2.1=y.2.2.2.2.1∧(s8.1.a0=s29.1.a0∧s8.1.a1=s29.1.a1∧s8.1.a2=s29.1.a2∧True)∧(s9.a0=s29.2.2.2.1.a0∧s9.a1=s29.2.2.2.1.a1∧s9.a2=s29.2.2.2.1.a2∧True)∧True) (s3∧br s8.1.a2 (s3∧NM (3:Int) fun n=>NX I_1 m_1 x_1 fun y=>SH y.2.2.2.2.2 fun s29=>((0:Nat)=0∧((0:Nat)=0∧s12=length y.2.1)∧((0:Nat)=0∧s14=length y.2.2.1)∧(0:Nat)=0∧(0:Nat)=0∧(0:Nat)=0∧s8.2.1=s29.2.1∧s13=s29.2.2.1∧(0:Nat)=0∧s22=s29.2.2.2.2.1∧n=s29.2.2.2.2.2∧True)∧Sched.mk x_1.1=Sched.mk y.1∧x_1.2.1=y.2.1∧s11=y.2.2.1∧s10.1=y.2.2.2.1∧s10.2.1=y.2.2.2.2.1∧(s8.1.a0=s29.1.a0∧s8.1.a1=s29.1.a1∧s8.1.a2=s29.1.a2∧True)∧(s9.a0=s29.2.2.2.1.a0∧s9.a1=s29.2.2.2.1.a1∧s9.a2=s29.2.2.2.1.a2∧True)∧True) (NM (3:Int) fun n=>NX I_1 m_1 x_1 fun y=>SH y.2.2.2.2.2 fun s29=>((0:Nat)=0∧((0:Nat)=0∧s12=length y.2.1)∧((0:Nat)=0∧s14=length y.2.2.1)∧(0:Nat)=0∧(0:Nat)=0∧(0:Nat)=0∧s8.2.1=s29.2.1∧s13=s29.2.2.1∧(0:Nat)=0∧false=s29.2.2.2.2.1∧n=s29.2.2.2.2.2∧True)∧Sched.mk x_1.1=Sched.mk y.1∧x_1.2.1=y.2.1∧s11=y.2.2.1∧s10.1=y.2.2.2.1∧s10.2.1=y.2.2.2.2.1∧(s8.1.a0=s29.1.a0∧s8.1.a1=s29.1.a1∧s8.1.a2=s29.1.a2∧True)∧(s9.a0=s29.2.2.2.1.a0∧s9.a1=s29.2.2.2.1.a1∧s9.a2=s29.2.2.2.1.a2∧True)∧True))) fun s28=>SH ((PreH s10.2.1.H x_1.1∧NM (s8.2.1+1) fun n=>NX I m x fun y=>SH y.2.2.2.2 fun s30=>((0:Nat)=0∧((0:Nat)=0∧s12=length y.2.1)∧((0:Nat)=0∧s14=length y.2.2.1)∧(0:Nat)=0∧(0:Nat)=0∧(0:Nat)=0∧n=s30.2.2∧True)∧Sched.mk s19.2.1=Sched.mk y.1∧x_1.2.1=y.2.1∧s11=y.2.2.1∧s19.2.2=y.2.2.2.1∧OpD.mk s19.1 s10.2.1.req=s30.1∧(s8.1.a0=s30.2.1.a0∧s8.1.a1=s30.2.1.a1∧s8.1.a2=s30.2.1.a2∧True)∧True)∧True) fun s29=>SH (br (s13==1) (s1∧s1∧br s16 s4 s26) (br (s13==2) (s1∧s1∧br s16 s4 s26) s26)) fun s30=>SH (br (s13==1) (s2∧s2∧br s17 s4 s27) (br (s13==2) (s2∧s2∧br s17 s4 s27) s27)) fun s31=>SH (br (s13==1) (s3∧s3∧br s18 s4 s28) (br (s13==2) (s3∧s3∧br s18 s4 s28) s28)) fun s32=>(0≤s24∧s24≤3)∧(s24=0→s1∧br s9.a0 (s1∧br (!s8.1.a0) s4 (s1∧br s9.a0 (br s15 s4 s30) s30)) (s1∧br s9.a0 (br s15 s4 s30) s30))∧(s24=1→s2∧br s9.a1 (s2∧br (!s8.1.a1) s4 (s2∧br s9.a1 (br s15 s4 s31) s31)) (s2∧br s9.a1 (br s15 s4 s31) s31))∧(s24=2→s3∧br s9.a2 (s3∧br (!s8.1.a2) s4 (s3∧br s9.a2 (br s15 s4 s32) s32)) (s3∧br s9.a2 (br s15 s4 s32) s32))∧(s24=3→br (decide (s13≤1)) (JW x_1.1.J∧0+s12≤s12∧0+length s25≤length s25∧length (take (length s25) (drop (0:Nat) s25))≤1099511627776∧br (!sameJ (take (length s25) (drop (0:Nat) s25)) (take s12 (drop (0:Nat) x_1.2.1))) s4 (PW x_1.1.P∧0+s14≤s14∧0+length s23≤length s23∧length (take (length s23) (drop (0:Nat) s23))≤1099511627776∧br (!sameS (take (length s23) (drop (0:Nat) s23)) (take s14 (drop (0:Nat) s11))) s4 s29)) s29)∧True) s7) s7)
end Go.Ax.V
namespace Go.Ax.O
open Go.Ax.Sp Go.Ax.Law
theorem free0 (l:Lane) (q:Int):FreeF lock0 l 5 q:=by unfold FreeF lock0;simp
theorem held_bits {s:LockSet} {l:Lane} {p:Int} (h:heldL s 5=⟨l.a0&&decide (0<p),l.a1&&decide (1<p),l.a2&&decide (2<p)⟩):
  decide (s.o0=5)=(l.a0&&decide (0<p))∧decide (s.o1=5)=(l.a1&&decide (1<p))∧decide (s.o2=5)=(l.a2&&decide (2<p)):=by
 simpa [heldL] using h
theorem lane_one {T BAD A B C:Prop} {H L last:Bool} {g:Int} (hs:T) (h1:H=true→L=true) (h2:H=true→last=false) (h3:g=1∨g=2→H=L)
  (zA:last=true→A) (zB:L=true→last=false→B) (zC:L=false→last=false→C):
  T∧br H (T∧br (!L) BAD (T∧br H (br last BAD (br (g==1) (T∧T∧br (!H==L) BAD (br last A (T∧br L (T∧B) C))) (br (g==2) (T∧T∧br (!H==L) BAD (br last A (T∧br L (T∧B) C))) (br last A (T∧br L (T∧B) C))))) (br (g==1) (T∧T∧br (!H==L) BAD (br last A (T∧br L (T∧B) C))) (br (g==2) (T∧T∧br (!H==L) BAD (br last A (T∧br L (T∧B) C))) (br last A (T∧br L (T∧B) C))))))
   (T∧br H (br last BAD (br (g==1) (T∧T∧br (!H==L) BAD (br last A (T∧br L (T∧B) C))) (br (g==2) (T∧T∧br (!H==L) BAD (br last A (T∧br L (T∧B) C))) (br last A (T∧br L (T∧B) C))))) (br (g==1) (T∧T∧br (!H==L) BAD (br last A (T∧br L (T∧B) C))) (br (g==2) (T∧T∧br (!H==L) BAD (br last A (T∧br L (T∧B) C))) (br last A (T∧br L (T∧B) C))))):=by
 have hY:br last A (T∧br L (T∧B) C):=br_bool zA (fun hl=>⟨hs,br_bool (fun h=>⟨hs,zB h hl⟩) (fun h=>zC h hl)⟩)
 have hN:g=1∨g=2→(!H==L)=false:=fun h=>by rw [h3 h];cases L<;>rfl
 have hX:br (g==1) (T∧T∧br (!H==L) BAD (br last A (T∧br L (T∧B) C))) (br (g==2) (T∧T∧br (!H==L) BAD (br last A (T∧br L (T∧B) C))) (br last A (T∧br L (T∧B) C))):=
  br_eq (fun h=>⟨hs,hs,br_f (hN (.inl h)) hY⟩) (fun _=>br_eq (fun h=>⟨hs,hs,br_f (hN (.inr h)) hY⟩) (fun _=>hY))
 have hW:T∧br H (br last BAD (br (g==1) (T∧T∧br (!H==L) BAD (br last A (T∧br L (T∧B) C))) (br (g==2) (T∧T∧br (!H==L) BAD (br last A (T∧br L (T∧B) C))) (br last A (T∧br L (T∧B) C))))) (br (g==1) (T∧T∧br (!H==L) BAD (br last A (T∧br L (T∧B) C))) (br (g==2) (T∧T∧br (!H==L) BAD (br last A (T∧br L (T∧B) C))) (br last A (T∧br L (T∧B) C)))):=
  ⟨hs,br_bool (fun h=>br_f (h2 h) hX) (fun _=>hX)⟩
 exact ⟨hs,br_bool (fun h=>⟨hs,br_f (by rw [h1 h];rfl) hW⟩) (fun _=>hW)⟩
theorem vOpLock {n:Int} {l:List Deed} {r:Req} {k:Unit→Bool × Unit→Prop} (h:oOpD (n,l,r,()) k):V.vOpLock n l r k:=by
 have h:k () (true,()):=h
 unfold V.vOpLock V.LP V.NX V.NM V.SH
 refine ⟨fun _=>h,fun hn=>?_⟩
 have hs:=(show OkS (madeS n l) from ⟨_,_,madeS_stb hn.1 hn.2 l⟩)
 generalize madeS n l=c0 at hs ⊢
 generalize hell:needsR r.Kind=ell
 obtain ⟨J,hJ,ok⟩:=ph_ok (s0:=lock0) (l:=ell) (who:=5) hs r
 generalize (wholeW (newW r) c0).2.1=w1 at ok
 generalize (wholeW (newW r) c0).2.2=c1 at ok
 have hl3:=lenL_le' ell
 have hjl:=hs.cw.1.2.1
 refine ⟨hs.cw.1,hs.cw.2.2,?_⟩
 refine ⟨fun x=>x.2.1=c0.J.jobs∧x.2.2.1=c0.P.steps∧x.2.2.2.2.2.1=ell∧0≤x.2.2.2.2.2.2∧ ∃rem,Ph lock0 ell 5 (newW r) c0 J w1 c1 rem x.2.2.2.2.1.H x.1 x.2.2.2.1∧x.2.2.2.2.2.2+rem≤200,fun x=>(3000-x.2.2.2.2.2.2).toNat,
  (c0,c0.J.jobs,c0.P.steps,lock0,newO r 5,ell,0),⟨rfl,rfl,rfl,by simp,2*lenL ell+ ↑J+1,?_,by simp only [];omega⟩,by simp [hell];rfl,?_⟩
 ·simp only [newO,hell];exact ph_start (newW r) c0 J w1 c1
 rintro ⟨c,was,steps,s,⟨H,rq⟩,lane,i⟩ ⟨e1,e2,e3,hi,rem,hp,hr⟩
 simp only [] at e1 e2 e3 hi hp hr
 subst e1 e2 e3
 refine br_dec (fun h3=>br_nde (fun h5=>?_) (fun h5=>?_)) (fun h3=>absurd (hp.left).1 (by simp only [] at h3;omega))
 ·obtain ⟨p,hh,hp3,hc0⟩:=hp.held (free0 _ _)
  obtain ⟨b0,b1,b2⟩:=held_bits hh
  refine ⟨fun y=>y.1=c∧y.2.1=c0.J.jobs∧y.2.2.1=c0.P.steps∧y.2.2.2.1=s∧y.2.2.2.2.1=⟨H,rq⟩∧y.2.2.2.2.2.1=lane∧y.2.2.2.2.2.2.1=i∧y.2.2.2.2.2.2.2.1=H.stage∧y.2.2.2.2.2.2.2.2.1=⟨lane.a0&&decide (0<p),lane.a1&&decide (1<p),lane.a2&&decide (2<p)⟩∧0≤y.2.2.2.2.2.2.2.2.2.2∧y.2.2.2.2.2.2.2.2.2.2≤3∧
    y.2.2.2.2.2.2.2.2.2.1=((decide (0<y.2.2.2.2.2.2.2.2.2.2)&&(lane.a0&&!decide (0<p)))||(decide (1<y.2.2.2.2.2.2.2.2.2.2)&&(lane.a1&&!decide (1<p)))||(decide (2<y.2.2.2.2.2.2.2.2.2.2)&&(lane.a2&&!decide (2<p)))),fun y=>(3-y.2.2.2.2.2.2.2.2.2.2).toNat,
   (c,c0.J.jobs,c0.P.steps,s,⟨H,rq⟩,lane,i,H.stage,⟨lane.a0&&decide (0<p),lane.a1&&decide (1<p),lane.a2&&decide (2<p)⟩,false,0),⟨rfl,rfl,rfl,rfl,rfl,rfl,rfl,rfl,rfl,by simp,by simp,by simp⟩,by simp [b0,b1,b2,stageO],?_⟩
  rintro ⟨c',was',steps',s',o',lane',i',g',held',last',j⟩ ⟨e1,e2,e3,e4,e5,e6,e7,e8,e9,hj0,hj3,e10⟩
  simp only [] at e1 e2 e3 e4 e5 e6 e7 e8 e9 hj0 hj3 e10
  subst e1 e2 e3 e4 e5 e6 e7 e8 e9
  refine ⟨⟨hj0,hj3⟩,fun hz=>?_,fun hz=>?_,fun hz=>?_,fun hz=>?_,trivial⟩
  ·have hj:j=0:=hz
   subst hj
   have el:last'=false:=by rw [e10];simp
   refine lane_one (by decide) (fun h=>?_) (fun h=>?_) (fun hg=>?_) (fun hl=>?_) (fun hL hl=>?_) (fun hL hl=>?_)
   ·simp only [] at h ⊢;grind
   ·simp only [] at h ⊢;grind
   ·have:=hp3 hg;simp only [];grind
   ·intro n hn;have hn:n=1:=hn;subst hn
    exact ⟨(c',c0.J.jobs,c0.P.steps,s',⟨H,rq⟩,lane',i',H.stage,⟨lane'.a0&&decide (0<p),lane'.a1&&decide (1<p),lane'.a2&&decide (2<p)⟩,true,1),⟨rfl,rfl,rfl,rfl,rfl,rfl,rfl,rfl,rfl,by simp,by simp,by simp only [] at hl ⊢;grind⟩,by simp,by simp⟩
   ·intro n hn;have hn:n=1:=hn;subst hn
    exact ⟨(c',c0.J.jobs,c0.P.steps,s',⟨H,rq⟩,lane',i',H.stage,⟨lane'.a0&&decide (0<p),lane'.a1&&decide (1<p),lane'.a2&&decide (2<p)⟩,!(lane'.a0&&decide (0<p)),1),⟨rfl,rfl,rfl,rfl,rfl,rfl,rfl,rfl,rfl,by simp,by simp,by simp only [] at hl hL ⊢;grind⟩,by simp,by simp⟩
   ·intro n hn;have hn:n=1:=hn;subst hn
    exact ⟨(c',c0.J.jobs,c0.P.steps,s',⟨H,rq⟩,lane',i',H.stage,⟨lane'.a0&&decide (0<p),lane'.a1&&decide (1<p),lane'.a2&&decide (2<p)⟩,false,1),⟨rfl,rfl,rfl,rfl,rfl,rfl,rfl,rfl,rfl,by simp,by simp,by simp only [] at hl hL ⊢;grind⟩,by simp,by simp⟩
  ·have hj:j=1:=hz
   subst hj
   have el:last'=(lane'.a0&&!decide (0<p)):=by rw [e10];simp
   refine lane_one (by decide) (fun h=>?_) (fun h=>?_) (fun hg=>?_) (fun hl=>?_) (fun hL hl=>?_) (fun hL hl=>?_)
   ·simp only [] at h ⊢;grind
   ·simp only [] at h ⊢;grind
   ·have:=hp3 hg;simp only [];grind
   ·intro n hn;have hn:n=2:=hn;subst hn
    exact ⟨(c',c0.J.jobs,c0.P.steps,s',⟨H,rq⟩,lane',i',H.stage,⟨lane'.a0&&decide (0<p),lane'.a1&&decide (1<p),lane'.a2&&decide (2<p)⟩,true,2),⟨rfl,rfl,rfl,rfl,rfl,rfl,rfl,rfl,rfl,by simp,by simp,by simp only [] at hl ⊢;grind⟩,by simp,by simp⟩
   ·intro n hn;have hn:n=2:=hn;subst hn
    exact ⟨(c',c0.J.jobs,c0.P.steps,s',⟨H,rq⟩,lane',i',H.stage,⟨lane'.a0&&decide (0<p),lane'.a1&&decide (1<p),lane'.a2&&decide (2<p)⟩,!(lane'.a1&&decide (1<p)),2),⟨rfl,rfl,rfl,rfl,rfl,rfl,rfl,rfl,rfl,by simp,by simp,by simp only [] at hl hL ⊢;grind⟩,by simp,by simp⟩
   ·intro n hn;have hn:n=2:=hn;subst hn
    exact ⟨(c',c0.J.jobs,c0.P.steps,s',⟨H,rq⟩,lane',i',H.stage,⟨lane'.a0&&decide (0<p),lane'.a1&&decide (1<p),lane'.a2&&decide (2<p)⟩,false,2),⟨rfl,rfl,rfl,rfl,rfl,rfl,rfl,rfl,rfl,by simp,by simp,by simp only [] at hl hL ⊢;grind⟩,by simp,by simp⟩
  ·have hj:j=2:=hz
   subst hj
   have el:last'=((lane'.a0&&!decide (0<p))||(lane'.a1&&!decide (1<p))):=by rw [e10];simp
   refine lane_one (by decide) (fun h=>?_) (fun h=>?_) (fun hg=>?_) (fun hl=>?_) (fun hL hl=>?_) (fun hL hl=>?_)
   ·simp only [] at h ⊢;grind
   ·simp only [] at h ⊢;grind
   ·have:=hp3 hg;simp only [];grind
   ·intro n hn;have hn:n=3:=hn;subst hn
    exact ⟨(c',c0.J.jobs,c0.P.steps,s',⟨H,rq⟩,lane',i',H.stage,⟨lane'.a0&&decide (0<p),lane'.a1&&decide (1<p),lane'.a2&&decide (2<p)⟩,true,3),⟨rfl,rfl,rfl,rfl,rfl,rfl,rfl,rfl,rfl,by simp,by simp,by simp only [] at hl ⊢;grind⟩,by simp,by simp⟩
   ·intro n hn;have hn:n=3:=hn;subst hn
    exact ⟨(c',c0.J.jobs,c0.P.steps,s',⟨H,rq⟩,lane',i',H.stage,⟨lane'.a0&&decide (0<p),lane'.a1&&decide (1<p),lane'.a2&&decide (2<p)⟩,!(lane'.a2&&decide (2<p)),3),⟨rfl,rfl,rfl,rfl,rfl,rfl,rfl,rfl,rfl,by simp,by simp,by simp only [] at hl hL ⊢;grind⟩,by simp,by simp⟩
   ·intro n hn;have hn:n=3:=hn;subst hn
    exact ⟨(c',c0.J.jobs,c0.P.steps,s',⟨H,rq⟩,lane',i',H.stage,⟨lane'.a0&&decide (0<p),lane'.a1&&decide (1<p),lane'.a2&&decide (2<p)⟩,false,3),⟨rfl,rfl,rfl,rfl,rfl,rfl,rfl,rfl,rfl,by simp,by simp,by simp only [] at hl hL ⊢;grind⟩,by simp,by simp⟩
  ·have hj:j=3:=hz
   subst hj
   have hlf:=(hp.left).1
   have hi3:i'<3000:=h3
   obtain ⟨g1,g2,_⟩:=Ph.step ok (free0 _ _) hp h5
   have fin:(PreH H c'∧ ∀n,n=IntKind.i64.wrap (i'+1)→ ∃y:Core × List Job × List Step × LockSet × OpD × Lane × Int,(y.2.1=c0.J.jobs∧y.2.2.1=c0.P.steps∧y.2.2.2.2.2.1=lane'∧0≤y.2.2.2.2.2.2∧ ∃rem,Ph lock0 lane' 5 (newW r) c0 J w1 c1 rem y.2.2.2.2.1.H y.1 y.2.2.2.1∧y.2.2.2.2.2.2+rem≤200)∧y=((stepH H c' s').2.2.1,c0.J.jobs,c0.P.steps,(stepH H c' s').2.2.2,⟨(stepH H c' s').2.1,rq⟩,lane',n)∧(3000-y.2.2.2.2.2.2).toNat<(3000-i').toNat):=by
    refine ⟨g1,fun n hn=>?_⟩
    rw [show IntKind.i64.wrap (i'+1)=i'+1 from w64 (by omega)] at hn
    subst hn
    exact ⟨_,⟨rfl,rfl,rfl,by simp only [];omega,rem-1,g2,by simp only [];omega⟩,rfl,by simp only [];simp only [] at h3;omega⟩
   have fin2:=fin.2
   refine br_dec (fun hg=>?_) (fun hg=>?_)
   ·have hc:=hc0 hg
    refine ⟨by rw [hc];exact hs.cw.1,by simp,by simp,?_,br_not (fun hh=>?_) (fun _=>⟨by rw [hc];exact hs.cw.2.2,by simp,by simp,?_,br_not (fun hh=>?_) (fun _=>?_)⟩)⟩
    ·simp only [List.drop_zero,List.take_length];rw [hc];omega
    ·simp only [List.drop_zero,List.take_length] at hh
     rw [hc,sameJ_iff.2 rfl] at hh;cases hh
    ·have:=ok.ln
     simp only [List.drop_zero,List.take_length];rw [hc];omega
    ·simp only [List.drop_zero,List.take_length] at hh
     rw [hc,sameS_iff.2 rfl] at hh;cases hh
    ·refine ⟨⟨g1,fun n hn=>?_⟩,trivial⟩
     obtain ⟨y,hy,he,hm⟩:=fin2 n hn
     exact ⟨y,hy,by rw [he];simp,hm⟩
   ·refine ⟨⟨g1,fun n hn=>?_⟩,trivial⟩
    obtain ⟨y,hy,he,hm⟩:=fin2 n hn
    exact ⟨y,hy,by rw [he];simp,hm⟩
 ·obtain ⟨_,_,o0,o1,o2⟩:=hp.last h5
  refine br_dec (fun _=>br_bool (fun _=>h) (fun hh=>?_)) (fun hh=>absurd h5 hh)
  exfalso
  unfold idleL at hh
  rw [o0,o1,o2] at hh
  exact absurd hh (by simp [lock0])
end Go.Ax.O
