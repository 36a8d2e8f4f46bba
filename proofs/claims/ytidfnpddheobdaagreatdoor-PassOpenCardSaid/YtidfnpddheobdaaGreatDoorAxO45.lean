import Derived.Test.YtidfnpddheobdaaGreatDoorAxV22
import Derived.Test.YtidfnpddheobdaaGreatDoorAxO42
import Derived.Test.YtidfnpddheobdaaGreatDoorAxV9
set_option linter.all false
namespace Go.Ax.Law
def HA (s0:LockSet) (l:Lane) (w:Int) (s:LockSet) (p:Int):Prop:=
 s.o0=(if l.a0=true∧0<p then w else s0.o0)∧s.o1=(if l.a1=true∧1<p then w else s0.o1)∧s.o2=(if l.a2=true∧2<p then w else s0.o2)
def FreeF (s0:LockSet) (l:Lane) (w:Int) (q:Int):Prop:=
 1≤w∧s0.o0≠w∧s0.o1≠w∧s0.o2≠w∧(l.a0=true→0<q→s0.o0=0)∧(l.a1=true→1<q→s0.o1=0)∧(l.a2=true→2<q→s0.o2=0)
def isLane (l:Lane) (p:Int):Prop:=(p=0∧l.a0=true)∨(p=1∧l.a1=true)∨(p=2∧l.a2=true)
theorem HA.zero (s0:LockSet) (l:Lane) (w:Int):HA s0 l w s0 0:=⟨by simp,by simp,by simp⟩
theorem next_range (l:Lane) (n:Int):(nextL l n=3∧(n≤0→l.a0=false)∧(n≤1→l.a1=false)∧(n≤2→l.a2=false))∨(isLane l (nextL l n)∧n≤nextL l n∧nextL l n≤2∧0≤nextL l n):=by
 unfold nextL isLane;grind
theorem HA.skip {s0 s:LockSet} {l:Lane} {w n:Int} (h:HA s0 l w s n) (hn:0≤n):HA s0 l w s (nextL l n):=by
 unfold HA nextL at*;grind
theorem take_step {s0 s:LockSet} {l:Lane} {w p:Int} (h:HA s0 l w s p) (hf:FreeF s0 l w (p+1)) (hp:isLane l p):(tryL s p w).1=0∧HA s0 l w (tryL s p w).2 (p+1):=by
 obtain ⟨f1,f2,f3,f4,f5,f6,f7⟩:=hf
 obtain ⟨h1,h2,h3⟩:=h
 have hne: ¬ w=0:=by omega
 unfold tryL HA
 rcases hp with ⟨rfl,hp⟩ |⟨rfl,hp⟩ |⟨rfl,hp⟩<;>simp only [heldL,nextL,ownL,putL]<;>grind
theorem take_wait {s0 s:LockSet} {l:Lane} {w p:Int} (h:HA s0 l w s p) (hf:FreeF s0 l w p) (hp:isLane l p) (ho:ownL s0 p≠0):(tryL s p w).1≠0∧(tryL s p w).2=s∧ownL s p≠0:=by
 obtain ⟨f1,f2,f3,f4,f5,f6,f7⟩:=hf
 obtain ⟨h1,h2,h3⟩:=h
 unfold tryL
 rcases hp with ⟨rfl,hp⟩ |⟨rfl,hp⟩ |⟨rfl,hp⟩<;>simp only [heldL,nextL,ownL,putL] at* <;>grind
theorem own_free {s0 s:LockSet} {l:Lane} {w p:Int} (h:HA s0 l w s p) (hf:FreeF s0 l w (p+1)) (hp:isLane l p):ownL s p=0:=by
 obtain ⟨f1,f2,f3,f4,f5,f6,f7⟩:=hf
 obtain ⟨h1,h2,h3⟩:=h
 rcases hp with ⟨rfl,hp⟩ |⟨rfl,hp⟩ |⟨rfl,hp⟩<;>simp only [ownL]<;>grind
theorem give_step {s0 s:LockSet} {l:Lane} {w p:Int} (h:HA s0 l w s (p+1)) (hf:FreeF s0 l w 3) (hp:isLane l p):HA s0 l w (unlockL s p w).2 p:=by
 obtain ⟨f1,f2,f3,f4,f5,f6,f7⟩:=hf
 obtain ⟨h1,h2,h3⟩:=h
 unfold unlockL HA
 rcases hp with ⟨rfl,hp⟩ |⟨rfl,hp⟩ |⟨rfl,hp⟩<;>simp only [ownL,putL] at* <;>grind
theorem skip_range (l:Lane) (n:Int) (h1: -1≤n) (h2:n≤2):(skipN l n= -1∧(0≤n→l.a0=false)∧(1≤n→l.a1=false)∧(2≤n→l.a2=false))∨(isLane l (skipN l n)∧0≤skipN l n∧skipN l n≤n):=by
 unfold skipN isLane;grind
theorem HA.down {s0 s:LockSet} {l:Lane} {w n:Int} (h:HA s0 l w s (n+1)) (h1: -1≤n) (h2:n≤2):HA s0 l w s (skipN l n+1):=by
 have hn:n= -1∨n=0∨n=1∨n=2:=by omega
 obtain ⟨g1,g2,g3⟩:=h
 obtain ⟨a0,a1,a2⟩:=l
 unfold HA skipN
 rcases hn with rfl |rfl |rfl |rfl<;>cases a0<;>cases a1<;>cases a2<;>simp at g1 g2 g3 ⊢ <;>simp [g1,g2,g3]
def cntUp (l:Lane) (p:Int):Int:=(if p≤0 then bI l.a0 else 0)+(if p≤1 then bI l.a1 else 0)+(if p≤2 then bI l.a2 else 0)
def cntLo (l:Lane) (p:Int):Int:=(if 0<p then bI l.a0 else 0)+(if 1<p then bI l.a1 else 0)+(if 2<p then bI l.a2 else 0)
theorem cntUp_next {l:Lane} {p:Int} (h:isLane l p):cntUp l p=cntUp l (nextL l (p+1))+1:=by
 rcases h with ⟨rfl,hp⟩ |⟨rfl,hp⟩ |⟨rfl,hp⟩<;>unfold cntUp nextL bI<;>grind
theorem cntUp_skip (l:Lane) (n:Int):cntUp l (nextL l n)=cntUp l n:=by unfold cntUp nextL bI;grind
theorem cntUp_0 (l:Lane):cntUp l 0=lenL l:=by unfold cntUp lenL;simp
theorem cntUp_3 (l:Lane):cntUp l 3=0:=by unfold cntUp;simp
theorem cntLo_3 (l:Lane):cntLo l 3=lenL l:=by unfold cntLo lenL;simp
theorem cntLo_0 (l:Lane):cntLo l 0=0:=by unfold cntLo;simp
theorem cntLo_give {l:Lane} {p:Int} (h:isLane l p):cntLo l (p+1)=cntLo l p+1:=by
 rcases h with ⟨rfl,hp⟩ |⟨rfl,hp⟩ |⟨rfl,hp⟩<;>unfold cntLo bI<;>grind
theorem cntLo_skip (l:Lane) (n:Int) (h1: -1≤n) (h2:n≤2):cntLo l (skipN l n+1)=cntLo l (n+1):=by unfold cntLo skipN bI;grind
theorem Ends.keeps {w:Work} {c:Core} {k:Nat} {w':Work} {c':Core} (h:Ends w c k w' c'):CW c→WW w→c.P.steps.length+4*k≤4294960000→CW c'∧WW w'∧c'.P.steps.length≤4294960000:=by
 induction h with
 |one hd=>intro h1 h2 h3;obtain ⟨k1,k2,k3⟩:=stepW_ok h1 h2 (by omega);exact ⟨k1,k2,by omega⟩
 |more hd he ih=>intro h1 h2 h3;obtain ⟨k1,k2,k3⟩:=stepW_ok h1 h2 (by omega);exact ih k1 k2 (by omega)
theorem lenL_le' (l:Lane):0≤lenL l∧lenL l≤3:=by unfold lenL bI;grind
inductive Ph (s0:LockSet) (l:Lane) (who:Int) (w0:Work) (c0:Core) (J:Nat) (w1:Work) (c1:Core):Int→Hand→Core→LockSet→Prop
 |take {p:Int} {s:LockSet}:isLane l p→HA s0 l who s p→Ph s0 l who w0 c0 J w1 c1 (cntUp l p+J+lenL l+1) ⟨w0,who,l.a0,l.a1,l.a2,p,0⟩ c0 s
 |turn {s:LockSet}:HA s0 l who s 3→Ph s0 l who w0 c0 J w1 c1 (J+lenL l+1) ⟨w0,who,l.a0,l.a1,l.a2,3,1⟩ c0 s
 |parts {j:Nat} {w:Work} {c:Core} {n:Int} {s:LockSet}:HA s0 l who s 3→Ends w c j w1 c1→CW c→WW w→c.P.steps.length+4*j≤4294960000→n=3→Ph s0 l who w0 c0 J w1 c1 (j+lenL l+1) ⟨w,who,l.a0,l.a1,l.a2,n,2⟩ c s
 |give {p:Int} {s:LockSet}:isLane l p→HA s0 l who s (p+1)→Ph s0 l who w0 c0 J w1 c1 (cntLo l (p+1)+1) ⟨w1,who,l.a0,l.a1,l.a2,p,3⟩ c1 s
 |tell {s:LockSet}:HA s0 l who s 0→Ph s0 l who w0 c0 J w1 c1 1 ⟨w1,who,l.a0,l.a1,l.a2,-1,4⟩ c1 s
 |over {s:LockSet}:HA s0 l who s 0→Ph s0 l who w0 c0 J w1 c1 0 ⟨w1,who,l.a0,l.a1,l.a2,-1,5⟩ c1 s
section
variable {s0 s:LockSet} {l:Lane} {who:Int} {w0 w1:Work} {c0 c1 c:Core} {J:Nat} {rem:Int} {h:Hand}
structure PhOK (s0:LockSet) (l:Lane) (who:Int) (w0:Work) (c0:Core) (J:Nat) (w1:Work) (c1:Core):Prop where
 en:Ends w0 c0 J w1 c1
 cw:CW c0
 ww:WW w0
 ln:c0.P.steps.length+4*J≤4294960000
theorem skip_ph {s:LockSet} {n:Int} (hs:HA s0 l who s (n+1)) (h1: -1≤n) (h2:n≤2): ∃rem,rem=cntLo l (n+1)+1∧Ph s0 l who w0 c0 J w1 c1 rem (skipH ⟨w1,who,l.a0,l.a1,l.a2,n,3⟩) c1 s:=by
 have hd:=hs.down h1 h2
 have hl:laneH ⟨w1,who,l.a0,l.a1,l.a2,n,3⟩=l:=rfl
 unfold skipH
 rw [hl]
 simp only []
 rcases skip_range l n h1 h2 with ⟨g1,_⟩ |⟨g1,g2,g3⟩
 ·have hc:=cntLo_skip l n h1 h2
  rw [g1] at hd hc ⊢
  rw [show (-1:Int)+1=0 from rfl,cntLo_0] at hc
  refine ⟨1,by omega,?_⟩
  rw [if_pos (by decide)]
  exact .tell hd
 ·have hc:=cntLo_skip l n h1 h2
  refine ⟨_,rfl,?_⟩
  rw [if_neg (by omega),←hc]
  exact .give g1 hd
theorem ph_parts {w:Work} {c:Core} {n:Int} {st:Int} {j:Nat} (hs:HA s0 l who s 3) (he:Ends w c j w1 c1) (hc:CW c) (hw:WW w) (hl:c.P.steps.length+4*j≤4294960000) (hn:n=3):
  ∃rem,rem=j+lenL l∧Ph s0 l who w0 c0 J w1 c1 rem (partsH ⟨w,who,l.a0,l.a1,l.a2,n,st⟩ c).1 (partsH ⟨w,who,l.a0,l.a1,l.a2,n,st⟩ c).2 s:=by
 unfold partsH
 cases he with
 |one hd=>
  rw [if_pos hd]
  obtain ⟨rem,h1,h2⟩:=skip_ph (w0:=w0) (c0:=c0) (J:=J) (w1:=(stepW w c).1) (c1:=(stepW w c).2) (n:=2) (s:=s) hs (by decide) (by decide)
  refine ⟨rem,?_,h2⟩
  rw [h1,show (2:Int)+1=3 from rfl,cntLo_3]
  omega
 | @more _ _ k _ _ hd he=>
  rw [if_neg (by rw [hd];decide)]
  obtain ⟨k1,k2,k3⟩:=stepW_ok hc hw (by omega)
  exact ⟨_,by omega,.parts hs he k1 k2 (by simp only [];omega) hn⟩
theorem Ph.step (ok:PhOK s0 l who w0 c0 J w1 c1) (hf:FreeF s0 l who 3) (hp:Ph s0 l who w0 c0 J w1 c1 rem h c s) (hr:h.stage≠5):
  PreH h c∧Ph s0 l who w0 c0 J w1 c1 (rem-1) (stepH h c s).2.1 (stepH h c s).2.2.1 (stepH h c s).2.2.2∧(stepH h c s).1=decide (h.stage=1):=by
 have hln:=ok.ln
 cases hp with
 | @take p s hl hs=>
  have hpr:0≤p∧p≤2:=by unfold isLane at hl;omega
  refine ⟨⟨ok.cw,ok.ww,by omega,by simp only [];omega,by simp only [];omega,fun h=>by simp at h⟩,?_⟩
  have hft:FreeF s0 l who (p+1):=⟨hf.1,hf.2.1,hf.2.2.1,hf.2.2.2.1,fun a _=>hf.2.2.2.2.1 a (by omega),fun a _=>hf.2.2.2.2.2.1 a (by omega),fun a _=>hf.2.2.2.2.2.2 a (by omega)⟩
  obtain ⟨t1,t2⟩:=take_step hs hft hl
  have t3:=t2.skip (by omega)
  have hc:=cntUp_next hl
  unfold stepH takeH wr
  rw [if_pos rfl,if_neg (by simp only [];rw [t1];simp)]
  simp only [show laneH (⟨w0,who,l.a0,l.a1,l.a2,p,0⟩:Hand)=l from rfl]
  rw [w64 (by omega)]
  refine ⟨?_,by simp⟩
  rcases next_range l (p+1) with ⟨g1,_⟩ |⟨g1,g2,g3,g4⟩
  ·rw [g1] at t3 hc ⊢
   rw [cntUp_3] at hc
   rw [if_pos rfl,show cntUp l p+J+lenL l+1-1=J+lenL l+1 by omega]
   exact .turn t3
  ·rw [if_neg (by omega),show cntUp l p+J+lenL l+1-1=cntUp l (nextL l (p+1))+J+lenL l+1 by omega]
   exact .take g1 t3
 | @turn s hs=>
  refine ⟨⟨ok.cw,ok.ww,by omega,by simp,by simp,fun h=>by simp at h⟩,?_⟩
  obtain ⟨rem,e,hp⟩:=ph_parts (w0:=w0) (c0:=c0) (J:=J) (st:=1) hs ok.en ok.cw ok.ww hln rfl
  unfold stepH
  rw [if_neg (by simp),if_pos rfl]
  refine ⟨?_,by simp⟩
  rw [show (J:Int)+lenL l+1-1=rem by omega]
  exact hp
 | @parts j w c n s hs he hc hw hl hn=>
  refine ⟨⟨hc,hw,by omega,by simp only [];omega,by simp only [];omega,fun h=>by simp at h⟩,?_⟩
  obtain ⟨rem,e,hp⟩:=ph_parts (w0:=w0) (c0:=c0) (J:=J) (st:=2) hs he hc hw hl hn
  unfold stepH
  rw [if_neg (by simp),if_neg (by simp),if_pos rfl]
  refine ⟨?_,by simp⟩
  rw [show (j:Int)+lenL l+1-1=rem by omega]
  exact hp
 | @give p s hl hs=>
  have hpr:0≤p∧p≤2:=by unfold isLane at hl;omega
  have he:=ok.en.keeps ok.cw ok.ww (by omega)
  refine ⟨⟨he.1,he.2.1,by omega,by simp only [];omega,by simp only [];omega,fun _=>hpr⟩,?_⟩
  have hg:=give_step hs hf hl
  have hc:=cntLo_give hl
  rw [show p=(p-1)+1 by omega] at hg
  obtain ⟨rem,e,hp⟩:=skip_ph (w0:=w0) (c0:=c0) (J:=J) (w1:=w1) (c1:=c1) hg (by omega) (by omega)
  unfold stepH giveH wr
  rw [if_neg (by simp),if_neg (by simp),if_neg (by simp),if_pos rfl]
  simp only []
  rw [w64 (by omega)]
  refine ⟨?_,by simp⟩
  rw [show cntLo l (p+1)+1-1=rem by rw [e,show p-1+1=p by omega];omega]
  rw [show p-1+1=p by omega] at hp
  exact hp
 | @tell s hs=>
  have he:=ok.en.keeps ok.cw ok.ww (by omega)
  refine ⟨⟨he.1,he.2.1,by omega,by simp,by simp,fun h=>by simp at h⟩,?_⟩
  unfold stepH
  rw [if_neg (by simp),if_neg (by simp),if_neg (by simp),if_neg (by simp),if_pos rfl]
  exact ⟨.over hs,by simp⟩
 |over hs=>exact absurd rfl hr
theorem ph_start (w0:Work) (c0:Core) (J:Nat) (w1:Work) (c1:Core):Ph s0 l who w0 c0 J w1 c1 (2*lenL l+J+1) (newH w0 who l) c0 s0:=by
 have hs:=(HA.zero s0 l who).skip (Int.le_refl _)
 have hc:=cntUp_skip l 0
 rw [cntUp_0] at hc
 unfold newH
 rcases next_range l 0 with ⟨g1,_⟩ |⟨g1,g2,g3,g4⟩
 ·rw [g1] at hs hc ⊢
  rw [cntUp_3] at hc
  rw [if_pos rfl,show 2*lenL l+J+1=J+lenL l+1 by omega]
  exact .turn hs
 ·rw [if_neg (by omega),show 2*lenL l+(J:Int)+1=cntUp l (nextL l 0)+J+lenL l+1 by omega]
  exact .take g1 hs
theorem cntLo_nonneg (l:Lane) (p:Int):0≤cntLo l p:=by unfold cntLo bI;grind
theorem cntUp_nonneg (l:Lane) (p:Int):0≤cntUp l p:=by unfold cntUp bI;grind
theorem Ph.left (hp:Ph s0 l who w0 c0 J w1 c1 rem h c s):0≤rem∧(rem=0↔h.stage=5)∧0≤h.stage∧h.stage≤5:=by
 have hl:=lenL_le' l
 cases hp with
 | @take p _ _ _=>have:=cntUp_nonneg l p;simp only [];omega
 |turn=>simp only [];omega
 |parts=>simp only [];omega
 | @give p _ _ _=>have:=cntLo_nonneg l (p+1);simp only [];omega
 |tell=>simp
 |over=>simp
theorem HA.held {p:Int} (h:HA s0 l who s p) (hf:FreeF s0 l who 0):heldL s who=⟨l.a0&&decide (0<p),l.a1&&decide (1<p),l.a2&&decide (2<p)⟩:=by
 obtain ⟨f1,f2,f3,f4,_⟩:=hf
 obtain ⟨h1,h2,h3⟩:=h
 have hne:who≠0:=by omega
 unfold heldL
 rw [h1,h2,h3]
 obtain ⟨a0,a1,a2⟩:=l
 simp only [decide_eq_true hne,Bool.true_and]
 congr 1
 ·cases a0<;>by_cases hp:0<p<;>simp [hp,f2]
 ·cases a1<;>by_cases hp:1<p<;>simp [hp,f3]
 ·cases a2<;>by_cases hp:2<p<;>simp [hp,f4]
theorem FreeF.zero {q:Int} (h:FreeF s0 l who q):FreeF s0 l who 0:=⟨h.1,h.2.1,h.2.2.1,h.2.2.2.1,fun _ h=>by omega,fun _ h=>by omega,fun _ h=>by omega⟩
theorem Ph.held (hp:Ph s0 l who w0 c0 J w1 c1 rem h c s) (hf:FreeF s0 l who 0): ∃p:Int,heldL s who=⟨l.a0&&decide (0<p),l.a1&&decide (1<p),l.a2&&decide (2<p)⟩∧(h.stage=1∨h.stage=2→p=3)∧(h.stage≤1→c=c0):=by
 cases hp with
 |take _ hs=>exact ⟨_,hs.held hf,fun h=>by simp at h,fun _=>rfl⟩
 |turn hs=>exact ⟨_,hs.held hf,fun _=>rfl,fun _=>rfl⟩
 |parts hs=>exact ⟨_,hs.held hf,fun _=>rfl,fun h=>by simp at h⟩
 |give _ hs=>exact ⟨_,hs.held hf,fun h=>by simp at h,fun h=>by simp at h⟩
 |tell hs=>exact ⟨_,hs.held hf,fun h=>by simp at h,fun h=>by simp at h⟩
 |over hs=>exact ⟨_,hs.held hf,fun h=>by simp at h,fun h=>by simp at h⟩
theorem Ph.last (hp:Ph s0 l who w0 c0 J w1 c1 rem h c s) (h5:h.stage=5):h.W=w1∧c=c1∧s.o0=s0.o0∧s.o1=s0.o1∧s.o2=s0.o2:=by
 cases hp with
 |take=>simp at h5
 |turn=>simp at h5
 |parts=>simp at h5
 |give=>simp at h5
 |tell=>simp at h5
 |over hs=>
  obtain ⟨h1,h2,h3⟩:=hs
  exact ⟨rfl,rfl,by simpa using h1,by simpa using h2,by simpa using h3⟩
theorem Ph.waits (hp:Ph s0 l who w0 c0 J w1 c1 rem h c s) (hf:FreeF s0 l who 3):waitsH h s=false:=by
 cases hp with
 | @take p s hl hs=>
  have hpr:0≤p∧p≤2:=by unfold isLane at hl;omega
  have hft:FreeF s0 l who (p+1):=⟨hf.1,hf.2.1,hf.2.2.1,hf.2.2.2.1,fun a _=>hf.2.2.2.2.1 a (by omega),fun a _=>hf.2.2.2.2.2.1 a (by omega),fun a _=>hf.2.2.2.2.2.2 a (by omega)⟩
  unfold waitsH
  simp [own_free hs hft hl]
 |turn=>simp [waitsH]
 |parts=>simp [waitsH]
 |give=>simp [waitsH]
 |tell=>simp [waitsH]
 |over=>simp [waitsH]
end
end Go.Ax.Law
namespace Go.Ax.Law
theorem step_turn (h:Hand) (c:Core) (s:LockSet) (h0:0≤h.stage) (h5:h.stage≤4):(h.stage=0→(stepH h c s).2.1.stage≤1)∧(1≤h.stage→2≤(stepH h c s).2.1.stage):=by
 have hst:h.stage=0∨h.stage=1∨h.stage=2∨h.stage=3∨h.stage=4:=by omega
 unfold stepH
 rcases hst with hs |hs |hs |hs |hs
 ·rw [if_pos hs]
  refine ⟨fun _=>?_,fun h1=>by omega⟩
  unfold takeH
  split
  ·simp only [];omega
  ·simp only [];split<;>omega
 ·rw [if_neg (by omega),if_pos hs]
  refine ⟨fun h1=>by omega,fun _=>?_⟩
  unfold partsH skipH
  split
  ·simp only [];split<;>omega
  ·simp only [];omega
 ·rw [if_neg (by omega),if_neg (by omega),if_pos hs]
  refine ⟨fun h1=>by omega,fun _=>?_⟩
  unfold partsH skipH
  split
  ·simp only [];split<;>omega
  ·simp only [];omega
 ·rw [if_neg (by omega),if_neg (by omega),if_neg (by omega),if_pos hs]
  refine ⟨fun h1=>by omega,fun _=>?_⟩
  unfold giveH skipH
  simp only []
  split<;>omega
 ·rw [if_neg (by omega),if_neg (by omega),if_neg (by omega),if_neg (by omega),if_pos hs]
  refine ⟨fun h1=>by omega,fun _=>?_⟩
  simp only [];omega
theorem pass_taken {n:Nat} {c:Core} {m:Model} (h:Stb n c m) (hc:c.closed=false):(passS c 64).1.2.2.2=0∧((passS c 64).1.2.1=0→(passS c 64).2=c∧(planF c.P ((waitC c).map itemJ)).2=[]):=by
 have hd:=h.rep.deep
 have hp:=plan_right hd (d:=64) (by decide) (by decide)
 have h64:=wait_64 hd
 rw [show (64:Int).toNat=64 from rfl,List.take_of_length_le (by omega)] at hp
 unfold passS
 rw [hp,if_neg (by simp)]
 refine ⟨rfl,fun ht=>?_⟩
 simp only [] at ht ⊢
 rw [pass_all (waitC c) 0 [] h hc rfl (fun j hj=>wait_mem hj) (wait_nodup hd.cw)] at ht
 have he:(planF c.P ((waitC c).map itemJ)).2=[]:=List.length_eq_zero_iff.1 (by omega)
 exact ⟨by rw [he];rfl,he⟩
theorem Stb.pass {n:Nat} {c:Core} {m:Model} (h:Stb n c m) (d:Int):(∃m',Stb n (passS c d).2 m')∧(passS c d).2.closed=c.closed∧nowC (passS c d).2=nowC c:=by
 unfold passS
 split
 ·exact ⟨⟨m,h⟩,rfl,rfl⟩
 ·obtain ⟨h1,h2,h3,_⟩:=pass_low (planA c.P d (itemsC c)).1 0 [] h (LowL.refl _ _)
  exact ⟨h1,h3,h2⟩
structure Settled (n:Nat) (c:Core) (r:(Int × Bool) × Core):Prop where
 stb: ∃m,Stb n r.2 m
 cl:r.2.closed=c.closed
 lo:1≤r.1.1
 hi:r.1.1≤30
 no:r.1.2=false→r.1.1=30
 yes:r.1.2=true→(planF r.2.P ((waitC r.2).map itemJ)).2=[]
theorem settle_at {n:Nat}: ∀(f:Nat) (k:Int) {c:Core} {m:Model},Stb n c m→c.closed=false→1≤k→k+f=31→Settled n c (settleF 64 30 f k c)
 |0,k,c,m,h,hc,h1,h2=>by
  unfold settleF
  exact ⟨⟨m,h⟩,rfl,by simp only [];omega,by simp only [];omega,fun _=>by simp only [];omega,fun hh=>by cases hh⟩
 |f+1,k,c,m,h,hc,h1,h2=>by
  unfold settleF
  obtain ⟨t1,t2⟩:=pass_taken h hc
  obtain ⟨⟨m',p1⟩,p2,p3⟩:=h.pass 64
  rw [if_neg (by omega),if_neg (by omega)]
  split
  ·rename_i h0
   obtain ⟨t3,t4⟩:=t2 h0
   exact ⟨⟨m',p1⟩,p2,h1,by simp only [];omega,(fun hh=>by cases hh),fun _=>by simp only [];rw [t3];exact t4⟩
  ·have:=settle_at f (k+1) p1 (p2.trans hc) (by omega) (by omega)
   exact ⟨this.stb,this.cl.trans p2,this.lo,this.hi,this.no,this.yes⟩
theorem settle_ok {n:Nat} {c:Core} {m:Model} (h:Stb n c m) (hc:c.closed=false):Settled n c (settleS c 64 30):=settle_at 30 1 h hc (by decide) (by decide)
theorem plan_one {n:Nat} {c:Core} (h:Deep n c) {j:Job} (hj:j∈waitC c):planA c.P 1 [itemJ j]=((oneI c.P (itemJ j)).2,0):=by
 unfold planA
 rw [if_neg (by decide),if_neg]
 ·simp [planF]
 ·simp [wait_right h hj]
theorem one_le {n:Nat} {c:Core} {m:Model} (h:Stb n c m) {j:Job} (hj:j∈waitC c):(oneI c.P (itemJ j)).2=[]∨ ∃t,(oneI c.P (itemJ j)).2=[⟨j.Id,t⟩]:=by
 obtain ⟨h1,h2⟩:=wait_mem hj
 obtain ⟨i,hi⟩:=List.getElem?_of_mem h1
 have hf:=found h hi h2 (p:=c.P) rfl
 by_cases he:(oneI c.P (itemJ j)).2=[]
 ·exact .inl he
 ·obtain ⟨t,e,_⟩:=hf.some he
  exact .inr ⟨t,e⟩
theorem planF_one {n:Nat} {c:Core} {m:Model} (h:Stb n c m) (hcl:c.closed=false): ∀(l:List Job) {p:Prof},p.steps=c.P.steps→(∀j∈l,j∈waitC c)→(planF p (l.map itemJ)).2=[]→ ∀j∈l,(oneI c.P (itemJ j)).2=[]
 | [],p,hp,hl,he=>fun j hj=>by cases hj
 |j::l,p,hp,hl,he=>by
  obtain ⟨h1,h2⟩:=wait_mem (hl j (by simp))
  obtain ⟨i,hi⟩:=List.getElem?_of_mem h1
  have hf:=found h hi h2 hp
  have hf0:=found h hi h2 (p:=c.P) rfl
  simp only [List.map_cons,planF] at he
  obtain ⟨e1,e2⟩:=List.append_eq_nil_iff.1 he
  obtain ⟨g1,g2⟩:=hf.none e1
  intro q hq
  rcases List.mem_cons.1 hq with rfl |hq
  ·by_cases hn:(oneI c.P (itemJ q)).2=[]
   ·exact hn
   ·exfalso
    obtain ⟨t,k1,k2,k3,k4,k5,k6,k7⟩:=hf0.some hn
    have:=g2 t k2 k3 k4
    rw [k5,hcl] at this;cases this
  ·exact planF_one h hcl l g1 (fun q hq=>hl q (by simp [hq])) e2 q hq
theorem open_none {n:Nat} {c:Core} {m:Model} (h:Stb n c m) (hc:c.closed=false) (he:(planF c.P ((waitC c).map itemJ)).2=[]):openC c=[]:=by
 unfold openC itemsC
 rw [List.flatMap_eq_nil_iff]
 intro x hx
 obtain ⟨j,hj,rfl⟩:=List.mem_map.1 hx
 rw [plan_one h.rep.deep hj]
 exact planF_one h hc (waitC c) rfl (fun _ h=>h) he j hj
end Go.Ax.Law
namespace Go.Ax.Sp
def sSettle:Sig:=⟨[(.obj .sched,true),(.int .i64,false),(.int .i64,false)],[.int .i64,.bool]⟩
def oSettle:sSettle.Out:=fun x k=>(Law.OkS x.1.C∧0≤x.2.2.1∧x.2.2.1≤1000)∧k (⟨(Law.settleS x.1.C x.2.1 x.2.2.1).2⟩,()) ((Law.settleS x.1.C x.2.1 x.2.2.1).1.1,(Law.settleS x.1.C x.2.1 x.2.2.1).1.2,())
def lSettle:LoopAnn:={X:=Core × Int × Int × Int,live:=fun x=>[(0,.ptr ⟨0,0,0,0⟩),(1,.int .i64 x.2.1),(2,.int .i64 x.2.2.1),(8,.int .i64 x.2.2.2)],heap:=fun x=>[some (.obj .sched ⟨x.1⟩)],norm:=[.fold 0 .sched]}
def sOpenP:Sig:=⟨[(.obj .sched,true)],[.row .choice]⟩
def oOpenP:sOpenP.Out:=fun x k=>Law.OkS x.1.C∧k (x.1,()) (Law.openC x.1.C,())
def lOpenP:LoopAnn:={X:=Core × List Item × List Choice × Int,live:=fun x=>[(0,.ptr ⟨0,0,0,0⟩),(3,.sl 3 2 0 x.2.2.1.length),(18,.sl 2 4 0 x.2.1.length),(19,.int .i64 x.2.1.length),(20,.int .i64 x.2.2.2)],heap:=fun x=>[some (.obj .sched ⟨x.1⟩),none,some (.row .item x.2.1),some (.row .choice x.2.2.1)],norm:=[.fold 0 .sched,.row 3 .choice,.home 3 3]}
def sFirstP:Sig:=⟨[(.obj .sched,true),(.int .i64,false)],[.int .i64]⟩
def oFirstP:sFirstP.Out:=fun x k=>Law.OkS x.1.C∧k (x.1,()) (Law.firstC x.1.C x.2.1,())
def sPassQ:Sig:=⟨[(.int .i64,false),(.imm .deed,false)],[.bool]⟩
def oPassQ:sPassQ.Out:=fun _ k=>k () (true,())
def lFirstP:LoopAnn:={X:=Core × Int × Job × List Choice × Int,live:=fun x=>[(0,.ptr ⟨0,0,0,0⟩),(1,.int .i64 x.2.1),(5,.ptr ⟨5,0,0,0⟩),(38,.sl 6 2 0 x.2.2.2.1.length),(39,.int .i64 x.2.2.2.1.length),(40,.int .i64 x.2.2.2.2)],heap:=fun x=>[some (.obj .sched ⟨x.1⟩),none,none,none,none,some (.raw (EK.enc .job x.2.2.1)),some (.row .choice x.2.2.2.1)],norm:=[.fold 0 .sched]}
def lPassQ1:LoopAnn:={X:=Int × Core × Model × Int,live:=fun x=>[(0,.int .i64 x.1),(5,.ptr ⟨0,0,0,0⟩),(8,.ptr ⟨3,0,0,0⟩),(9,.int .i64 x.2.2.2)],heap:=fun x=>[some (.obj .sched ⟨x.2.1⟩),none,none,some (.obj .model x.2.2.1)],norm:=[.fold 0 .sched,.fold 3 .model]}
def lPassR1:LoopAnn:={X:=Core × List Choice × Core × List Choice × List Int × Int × Int × List Int × Int,live:=fun x=>[(7,.ptr ⟨0,0,0,0⟩),(8,.sl 6 2 0 x.2.1.length),(10,.ptr ⟨7,0,0,0⟩),(11,.ptr ⟨10,0,0,0⟩),(13,.int .i64 x.2.2.2.2.2.2.1),(14,.sl 11 1 0 x.2.2.2.2.2.2.2.1.length),(15,.int .i64 x.2.2.2.2.2.2.2.2)],heap:=fun x=>[some (.obj .sched ⟨x.1⟩),none,none,none,none,none,some (.row .choice x.2.1),some (.obj .sched ⟨x.2.2.1⟩),some (.row .choice x.2.2.2.1),some (.row .i64 x.2.2.2.2.1),some (.raw [.sl 8 2 0 x.2.2.2.1.length,.int .i64 x.2.2.2.2.2.1,.sl 9 1 0 x.2.2.2.2.1.length]),some (.row .i64 x.2.2.2.2.2.2.2.1)],norm:=[.fold 0 .sched,.fold 7 .sched,.row 14 .i64,.home 14 11]}
def lPassR2:LoopAnn:={X:=Core × Core × List Choice × Int × List Int × List Int × Int,live:=fun x=>[(7,.ptr ⟨0,0,0,0⟩),(10,.ptr ⟨7,0,0,0⟩),(11,.ptr ⟨10,0,0,0⟩),(14,.sl 11 1 0 x.2.2.2.2.2.1.length),(18,.int .i64 x.2.2.2.2.2.2)],heap:=fun x=>[some (.obj .sched ⟨x.1⟩),none,none,none,none,none,none,some (.obj .sched ⟨x.2.1⟩),some (.row .choice x.2.2.1),some (.row .i64 x.2.2.2.2.1),some (.raw [.sl 8 2 0 x.2.2.1.length,.int .i64 x.2.2.2.1,.sl 9 1 0 x.2.2.2.2.1.length]),some (.row .i64 x.2.2.2.2.2.1)],norm:=[.fold 0 .sched,.fold 7 .sched]}
def lOpAl1:LoopAnn:={X:=Req × Core × Core × LockSet × OpD × Work × Int × Int,live:=fun x=>[(5,.ptr ⟨0,0,0,0⟩),(7,.ptr ⟨1,0,0,0⟩),(9,.ptr ⟨3,0,0,0⟩),(10,.ptr ⟨4,0,0,0⟩),(11,.ptr ⟨5,0,0,0⟩),(12,.ptr ⟨6,0,0,0⟩),(13,.int .i64 x.2.2.2.2.2.2.1),(14,.int .i64 x.2.2.2.2.2.2.2)],heap:=fun x=>[some (.raw (EK.enc .req x.1)),some (.obj .sched ⟨x.2.1⟩),none,some (.obj .sched ⟨x.2.2.1⟩),some (.obj .lockSet x.2.2.2.1),some (.obj .opD x.2.2.2.2.1),some (.obj .work x.2.2.2.2.2.1)],norm:=[.fold 1 .sched,.fold 3 .sched,.fold 4 .lockSet,.fold 5 .opD,.fold 6 .work]}
def lPassO1:LoopAnn:={X:=Int × Core × List Item × List Choice × Int × Int × Int,live:=fun x=>[(2,.int .i64 x.1),(10,.ptr ⟨2,0,0,0⟩),(11,.sl 3 4 0 x.2.2.1.length),(12,.sl 4 2 0 x.2.2.2.1.length),(13,.int .i64 x.2.2.2.2.1),(14,.int .i64 x.2.2.2.2.2.1),(15,.int .i64 x.2.2.2.2.2.2)],heap:=fun x=>[none,none,some (.obj .sched ⟨x.2.1⟩),some (.row .item x.2.2.1),some (.row .choice x.2.2.2.1)],norm:=[.fold 2 .sched]}
def lPassQ2:LoopAnn:={X:=Model × List Int × Int,live:=fun x=>[(8,.ptr ⟨3,0,0,0⟩),(10,.sl 4 1 0 x.2.1.length),(11,.int .i64 x.2.2)],heap:=fun x=>[none,none,none,some (.obj .model x.1),some (.row .i64 x.2.1)],norm:=[.fold 3 .model]}
def lPassQ3:LoopAnn:={X:=Model × List Int × Int × Int,live:=fun x=>[(8,.ptr ⟨3,0,0,0⟩),(10,.sl 4 1 0 x.2.1.length),(11,.int .i64 x.2.2.1),(12,.int .i64 x.2.2.2)],heap:=fun x=>[none,none,none,some (.obj .model x.1),some (.row .i64 x.2.1)],norm:=[.fold 3 .model]}
def lOpAl2:LoopAnn:={X:=Req × Core × Core × LockSet × OpD × Work × Int × Lane × Int × Int × Int,live:=fun x=>[(5,.ptr ⟨0,0,0,0⟩),(7,.ptr ⟨1,0,0,0⟩),(9,.ptr ⟨3,0,0,0⟩),(10,.ptr ⟨4,0,0,0⟩),(11,.ptr ⟨5,0,0,0⟩),(12,.ptr ⟨6,0,0,0⟩),(13,.int .i64 x.2.2.2.2.2.2.1),(15,.ptr ⟨7,0,0,0⟩),(16,.int .i64 x.2.2.2.2.2.2.2.2.1),(17,.int .i64 x.2.2.2.2.2.2.2.2.2.1),(18,.int .i64 x.2.2.2.2.2.2.2.2.2.2)],heap:=fun x=>[some (.raw (EK.enc .req x.1)),some (.obj .sched ⟨x.2.1⟩),none,some (.obj .sched ⟨x.2.2.1⟩),some (.obj .lockSet x.2.2.2.1),some (.obj .opD x.2.2.2.2.1),some (.obj .work x.2.2.2.2.2.1),some (.raw (EK.enc .lane x.2.2.2.2.2.2.2.1))],norm:=[.fold 1 .sched,.fold 3 .sched,.fold 4 .lockSet,.fold 5 .opD,.fold 6 .work]}
end Go.Ax.Sp
namespace Go.Ax.V
open Go.Ax.Sp Go.Ax.Law List Int IntKind
set_option maxRecDepth 100000
def vSettle (s:Sched) (n:Int) (m:Int) (k:Sched × Unit→Int × Bool × Unit→Prop):Prop:=
LP (Core × Int × Int × Int) (fun x=>(0=0∧n=x.2.1∧m=x.2.2.1∧1=x.2.2.2∧True)∧s=Sched.mk x.1∧True) fun I m x=>SH (passS x.1 x.2.1) fun s0=>br (decide (x.2.2.2≤x.2.2.1)) (OkS x.1∧br (!s0.1.2.2.2==0) (k (Sched.mk s0.2,()) (x.2.2.2,false,())) (br (s0.1.2.1==0) (k (Sched.mk s0.2,()) (x.2.2.2,true,())) (NM (x.2.2.2+1) fun n=>NX I m x fun y=>(0=0∧x.2.1=y.2.1∧x.2.2.1=y.2.2.1∧n=y.2.2.2∧True)∧Sched.mk s0.2=Sched.mk y.1∧True))) (k (Sched.mk x.1,()) (if 0>x.2.2.1 then 0 else x.2.2.1,false,()))
def vOpenP (s:Sched) (k:Sched × Unit→List Choice × Unit→Prop):Prop:=
SH (map itemJ (waitC s.C)) fun s0=>CW s.C∧LP (Core × List Ax.Item × List Choice × Int) (fun x=>(0=0∧(0=0∧0=length x.2.2.1)∧(0=0∧length s0=length x.2.1)∧LN s0=LN x.2.1∧0=x.2.2.2∧True)∧s=Sched.mk x.1∧s0=x.2.1∧[]=x.2.2.1∧True) fun I m x=>SH (length x.2.2.1) fun s1=>br (decide (x.2.2.2<LN x.2.1)) (AT x.2.1 x.2.2.2 fun e=>SH (planA x.1.P 1 [e]).1 fun s2=>SH (take (length s2) (drop 0 s2)) fun s3=>((1≤1∧(PW x.1.P∧length x.1.P.steps≤4294950000∧0≤nowL x.1.P.steps∧1≤68719476736)∧0+length s2≤length s2∧0+s1≤s1∧s1+length s3≤68719476736∧NM (x.2.2.2+1) fun n=>NX I m x fun y=>(0=0∧(0=0∧s1+length s3=length y.2.2.1)∧(0=0∧length x.2.1=length y.2.1)∧LN x.2.1=LN y.2.1∧n=y.2.2.2∧True)∧Sched.mk x.1=Sched.mk y.1∧x.2.1=y.2.1∧take s1 (drop 0 x.2.2.1)++s3=y.2.2.1∧True)∧True)∧True) (s1=s1∧k (Sched.mk x.1,()) (x.2.2.1,()))
def vFirstP (s:Sched) (n:Int) (k:Sched × Unit→Int × Unit→Prop):Prop:=
SH (getJ s.C.J.jobs n).1 fun s0=>JW s.C.J∧br (!(getJ s.C.J.jobs n).2==0) (k (s,()) ((-1),())) (br (!s0.State==1) (k (s,()) ((-1),())) (OkS s.C∧LP (Core × Int × Job × List Choice × Int) (fun x=>SH x.2.2.1 fun s1=>(0=0∧n=x.2.1∧0=0∧(0=0∧length (openC s.C)=length x.2.2.2.1)∧LN (openC s.C)=LN x.2.2.2.1∧0=x.2.2.2.2∧True)∧s=Sched.mk x.1∧(s0.Id=s1.Id∧s0.User=s1.User∧s0.Width=s1.Width∧s0.Limit=s1.Limit∧s0.Prio=s1.Prio∧s0.State=s1.State∧s0.Start=s1.Start∧s0.End=s1.End∧s0.Plan=s1.Plan∧s0.Nodes=s1.Nodes∧True)∧openC s.C=x.2.2.2.1∧True) fun I m x=>SH x.2.2.1 fun s1=>SH x.2.2.2 fun s2=>br (decide (s2.2<LN s2.1)) (AT s2.1 s2.2 fun e=>br (e.Id==x.2.1) (k (Sched.mk x.1,()) (e.At,())) (NM (s2.2+1) fun n=>NX I m x fun y=>SH y.2.2.1 fun s3=>(0=0∧x.2.1=y.2.1∧0=0∧(0=0∧length s2.1=length y.2.2.2.1)∧LN s2.1=LN y.2.2.2.1∧n=y.2.2.2.2∧True)∧Sched.mk x.1=Sched.mk y.1∧(s1.Id=s3.Id∧s1.User=s3.User∧s1.Width=s3.Width∧s1.Limit=s3.Limit∧s1.Prio=s3.Prio∧s1.State=s3.State∧s1.Start=s3.Start∧s1.End=s3.End∧s1.Plan=s3.Plan∧s1.Nodes=s3.Nodes∧True)∧s2.1=y.2.2.2.1∧True)) (k (Sched.mk x.1,()) (s1.Plan,()))))
end Go.Ax.V
namespace Go.Ax.O
open Go.Ax.Sp Go.Ax.Law
theorem vSettle {s:Sched} {n m:Int} {k:Sched × Unit→Int × Bool × Unit→Prop} (h:oSettle (s,n,m,()) k):V.vSettle s n m k:=by
 obtain ⟨⟨hs,hm⟩,h⟩:=h
 obtain ⟨c0⟩:=s
 replace hs:OkS c0:=hs
 have hm:0≤m∧m≤1000:=hm
 have h:k (⟨(settleS c0 n m).2⟩,()) ((settleS c0 n m).1.1,(settleS c0 n m).1.2,()):=h
 unfold V.vSettle V.LP V.NX V.NM V.SH
 refine ⟨fun x=>OkS x.1∧x.2.1=n∧x.2.2.1=m∧1≤x.2.2.2∧x.2.2.2≤m+1∧settleF n m (m+1-x.2.2.2).toNat x.2.2.2 x.1=settleS c0 n m,fun x=>(m+1-x.2.2.2).toNat,
  (c0,n,m,1),⟨hs,rfl,rfl,by simp,by simp only [];omega,by simp only [];unfold settleS;congr 1;omega⟩,by simp,?_⟩
 rintro ⟨c,n',m',i⟩ ⟨e0,e1,e2,h1,h2,e3⟩
 simp only [] at e0 e1 e2 h1 h2 e3
 subst e1 e2
 refine br_dec (fun hl=>?_) (fun hl=>?_)
 ·have hl:i≤m':=hl
  rw [show (m'+1-i).toNat=(m'-i).toNat+1 by omega] at e3
  unfold settleF at e3
  rw [if_neg (by omega)] at e3
  refine ⟨e0,br_ne (fun hh=>?_) (fun hh=>br_eq (fun ht=>?_) (fun ht=>?_))⟩
  ·rw [if_pos hh] at e3
   rw [←e3] at h;exact h
  ·rw [if_neg (by simpa using hh),if_pos ht] at e3
   rw [←e3] at h;exact h
  ·rw [if_neg (by simpa using hh),if_neg ht] at e3
   intro q hq
   rw [w64 (by simp only [];omega)] at hq
   replace hq:q=i+1:=hq
   subst hq
   exact ⟨((passS c n').2,n',m',i+1),⟨e0.pass n',rfl,rfl,by simp only [];omega,by simp only [];omega,by simp only [];rw [←e3];congr 1;omega⟩,by simp,by simp only [];omega⟩
 ·have hl: ¬ i≤m':=hl
  obtain rfl:i=m'+1:=by omega
  rw [show (m'+1-(m'+1)).toNat=0 by omega] at e3
  unfold settleF at e3
  rw [←e3] at h
  rw [if_neg (by simp only [];omega)]
  have:max m' 0=m':=by omega
  simpa [this] using h
theorem item_of {c:Core} {i:Nat} {e:Go.Ax.Item} (h:(itemsC c)[i]? =some e): ∃j,(waitC c)[i]? =some j∧e=itemJ j:=by
 unfold itemsC at h
 rw [List.getElem?_map,Option.map_eq_some_iff] at h
 obtain ⟨j,h1,h2⟩:=h
 exact ⟨j,h1,h2.symm⟩
theorem one_len {c:Core} (h:OkS c) {i:Nat} {e:Go.Ax.Item} (he:(itemsC c)[i]? =some e):(planA c.P 1 [e]).1.length≤1∧(planA c.P 1 [e]).2=0:=by
 obtain ⟨n,m,h⟩:=h
 obtain ⟨j,hj,rfl⟩:=item_of he
 have hw:=List.mem_of_getElem? hj
 rw [plan_one h.rep.deep hw]
 rcases one_le h hw with h1 |⟨t,h1⟩<;>rw [h1]<;>simp
theorem items_len {c:Core} (h:OkS c):(itemsC c).length≤64:=by
 obtain ⟨n,m,h⟩:=h
 unfold itemsC;rw [List.length_map];exact wait_64 h.rep.deep
theorem vOpenP {s:Sched} {k:Sched × Unit→List Choice × Unit→Prop} (h:oOpenP (s,()) k):V.vOpenP s k:=by
 obtain ⟨hs,h⟩:=h
 obtain ⟨c0⟩:=s
 replace hs:OkS c0:=hs
 have h:k (⟨c0⟩,()) (openC c0,()):=h
 have h64:=items_len hs
 have hl3:=hs.len
 unfold V.vOpenP V.LP V.NX V.AT V.NM V.SH V.LN
 refine ⟨hs.cw,fun x=>x.1=c0∧x.2.1=itemsC c0∧0≤x.2.2.2∧x.2.2.2≤(itemsC c0).length∧x.2.2.1=((itemsC c0).take x.2.2.2.toNat).flatMap (fun x=>(planA c0.P 1 [x]).1)∧x.2.2.1.length≤x.2.2.2,fun x=>((itemsC c0).length-x.2.2.2).toNat,
  (c0,itemsC c0,[],0),⟨rfl,rfl,by simp,by simp only [];omega,by simp,by simp⟩,⟨⟨rfl,⟨rfl,rfl⟩,⟨rfl,rfl⟩,rfl,rfl,trivial⟩,rfl,rfl,rfl,trivial⟩,?_⟩
 rintro ⟨c,items,out,i⟩ ⟨e0,e1,h1,h2,e3,h4⟩
 simp only [] at e0 e1 h1 h2 e3 h4
 subst e0 e1
 refine br_dec (fun hl=>?_) (fun hl=>?_)
 ·have hl:i<((itemsC c).length:Int):=hl
  refine ⟨⟨h1,hl⟩,by simp only [];omega,fun e he=>?_⟩
  have he:(itemsC c)[i.toNat]? =some e:=by rw [←he];simp
  obtain ⟨o1,_⟩:=one_len hs he
  refine ⟨⟨⟨Nat.le_refl _,⟨hs.cw.2.2,by simp only [];omega,hs.now.1,by omega⟩,by omega,by omega,by rw [List.length_take,List.length_drop];simp only [];omega,fun q hq=>?_⟩,trivial⟩,trivial⟩
  rw [w64 (by simp only [];omega)] at hq
  replace hq:q=i+1:=hq
  subst hq
  refine ⟨(c,itemsC c,out++(planA c.P 1 [e]).1,i+1),⟨rfl,rfl,by simp only [];omega,by simp only [];omega,?_,by simp only [List.length_append];omega⟩,⟨⟨rfl,⟨rfl,by simp⟩,⟨rfl,rfl⟩,rfl,rfl,trivial⟩,rfl,rfl,by simp,trivial⟩,by simp only [];omega⟩
  simp only []
  rw [show (i+1).toNat=i.toNat+1 by omega,List.take_add_one,he,e3]
  simp
 ·have hl: ¬ i<((itemsC c).length:Int):=hl
  refine ⟨rfl,?_⟩
  rw [List.take_of_length_le (by omega)] at e3
  rw [show openC c=out from e3.symm] at h
  exact h
theorem vFirstP {s:Sched} {n:Int} {k:Sched × Unit→Int × Unit→Prop} (h:oFirstP (s,n,()) k):V.vFirstP s n k:=by
 obtain ⟨hs,h⟩:=h
 obtain ⟨c0⟩:=s
 replace hs:OkS c0:=hs
 have h:k (⟨c0⟩,()) (firstC c0 n,()):=h
 unfold firstC at h
 unfold V.vFirstP V.LP V.NX V.AT V.NM V.SH V.LN
 refine ⟨hs.cw.1,br_ne (fun hh=>?_) (fun h0=>br_ne (fun hh=>?_) (fun h1=>?_))⟩
 ·rw [if_pos (.inl hh)] at h;exact h
 ·rw [if_pos (.inr hh)] at h;exact h
 rw [if_neg (by simp only [not_or,Decidable.not_not];exact ⟨h0,h1⟩)] at h
 have h0:(getJ c0.J.jobs n).2=0:=h0
 generalize (getJ c0.J.jobs n).1=j at h h1 ⊢
 have hol:(openC c0).length≤1000000:=by
  have h64:=items_len hs
  have: ∀l:List Go.Ax.Item,(∀e∈l,(planA c0.P 1 [e]).1.length≤1)→(l.flatMap fun x=>(planA c0.P 1 [x]).1).length≤l.length:=by
   intro l;induction l with
   |nil=>intro _;simp
   |cons a r ih=>intro hl;have:=ih (fun e he=>hl e (by simp [he]));have:=hl a (by simp);simp only [List.flatMap_cons,List.length_append,List.length_cons];omega
  have:=this (itemsC c0) (fun e he=>by obtain ⟨i,hi⟩:=List.getElem?_of_mem he;exact (one_len hs hi).1)
  unfold openC;omega
 generalize openC c0=l at h hol ⊢
 refine ⟨hs,fun x=>x.1=c0∧x.2.1=n∧x.2.2.1=j∧x.2.2.2.1=l∧0≤x.2.2.2.2∧x.2.2.2.2≤l.length∧(l.drop x.2.2.2.2.toNat).find? (fun x=>decide (x.Id=n))=l.find? (fun x=>decide (x.Id=n)),fun x=>(l.length-x.2.2.2.2).toNat,
  (c0,n,j,l,0),⟨rfl,rfl,rfl,rfl,by simp,by simp only [];omega,by simp⟩,by simp,?_⟩
 rintro ⟨c,n',j',l',i⟩ ⟨e0,e1,e2,e3,g1,g2,e4⟩
 simp only [] at e0 e1 e2 e3 g1 g2 e4
 subst e0 e1 e2 e3
 refine br_dec (fun hl=>?_) (fun hl=>?_)
 ·have hl:i<(l'.length:Int):=hl
  refine ⟨⟨g1,hl⟩,by simp only [];omega,fun e he=>?_⟩
  have he:l'[i.toNat]? =some e:=by rw [←he];simp
  have hd:l'.drop i.toNat=e::l'.drop (i.toNat+1):=by
   rw [List.drop_eq_getElem_cons (by omega)]
   rw [List.getElem?_eq_getElem (by omega)] at he
   simp at he;rw [he]
  rw [hd,List.find?_cons] at e4
  refine br_eq (fun hi=>?_) (fun hi=>?_)
  ·have hi:e.Id=n':=hi
   simp only [hi,decide_true] at e4
   rw [←e4] at h;exact h
  ·have hi: ¬ e.Id=n':=hi
   simp only [hi,decide_false] at e4
   intro q hq
   rw [w64 (by simp only [];omega)] at hq
   replace hq:q=i+1:=hq
   subst hq
   exact ⟨(c,n',j',l',i+1),⟨rfl,rfl,rfl,rfl,by simp only [];omega,by simp only [];omega,by simp only [];rw [show (i+1).toNat=i.toNat+1 by omega];exact e4⟩,by simp,by simp only [];omega⟩
 ·have hl: ¬ i<(l'.length:Int):=hl
  rw [List.drop_of_length_le (by omega)] at e4
  rw [←e4] at h;exact h
end Go.Ax.O
