import Derived.Test.YtbmabiedmdlinaaGreatDoorAxV22
import Derived.Test.YtbmabiedmdlinaaGreatDoorAxO40
import Derived.Test.YtbmabiedmdlinaaGreatDoorAxO28
import Derived.Test.YtbmabiedmdlinaaGreatDoorAxV9
import Derived.KernelRfl
set_option linter.all false
namespace Go.Ax.Law
def HA (s0:LockSet) (l:Lane) (w:Int) (s:LockSet) (p:Int):Prop:=
 s.o0=(if l.a0=true∧0<p then w else s0.o0)∧s.o1=(if l.a1=true∧1<p then w else s0.o1)∧s.o2=(if l.a2=true∧2<p then w else s0.o2)
def FreeF (s0:LockSet) (l:Lane) (w:Int) (q:Int):Prop:=
 1≤w∧s0.o0≠w∧s0.o1≠w∧s0.o2≠w∧(l.a0=true→0<q→s0.o0=0)∧(l.a1=true→1<q→s0.o1=0)∧(l.a2=true→2<q→s0.o2=0)
def isLane (l:Lane) (p:Int):Prop:=(p=0∧l.a0=true)∨(p=1∧l.a1=true)∨(p=2∧l.a2=true)
theorem HA.zero (s0:LockSet) (l:Lane) (w:Int):HA s0 l w s0 0:=⟨by simp,by simp,by simp⟩
theorem next_range (l:Lane) (n:Int):(nextL l n=3∧(n≤0→l.a0=false)∧(n≤1→l.a1=false)∧(n≤2→l.a2=false))∨(isLane l (nextL l n)∧n≤nextL l n∧nextL l n≤2∧0≤nextL l n):=by
 unfold nextL isLane;grind
theorem HA.skip {s0 s:LockSet} {l:Lane} {w n:Int} (h:HA s0 l w s n) (hn:0≤n):HA s0 l w s (nextL l n):=by
 unfold HA nextL at*;grind
theorem take_step {s0 s:LockSet} {l:Lane} {w p:Int} (h:HA s0 l w s p) (hf:FreeF s0 l w (p+1)) (hp:isLane l p):(tryL s p w).1=0∧HA s0 l w (tryL s p w).2 (p+1):=by
 obtain ⟨f1,f2,f3,f4,f5,f6,f7⟩:=hf
 obtain ⟨h1,h2,h3⟩:=h
 have hne: ¬ w=0:=by omega
 unfold tryL HA
 rcases hp with ⟨rfl,hp⟩ |⟨rfl,hp⟩ |⟨rfl,hp⟩<;>simp only [heldL,nextL,ownL,putL]<;>grind
theorem own_free {s0 s:LockSet} {l:Lane} {w p:Int} (h:HA s0 l w s p) (hf:FreeF s0 l w (p+1)) (hp:isLane l p):ownL s p=0:=by
 obtain ⟨f1,f2,f3,f4,f5,f6,f7⟩:=hf
 obtain ⟨h1,h2,h3⟩:=h
 rcases hp with ⟨rfl,hp⟩ |⟨rfl,hp⟩ |⟨rfl,hp⟩<;>simp only [ownL]<;>grind
theorem give_step {s0 s:LockSet} {l:Lane} {w p:Int} (h:HA s0 l w s (p+1)) (hf:FreeF s0 l w 3) (hp:isLane l p):HA s0 l w (unlockL s p w).2 p:=by
 obtain ⟨f1,f2,f3,f4,f5,f6,f7⟩:=hf
 obtain ⟨h1,h2,h3⟩:=h
 unfold unlockL HA
 rcases hp with ⟨rfl,hp⟩ |⟨rfl,hp⟩ |⟨rfl,hp⟩<;>simp only [ownL,putL] at* <;>grind
theorem skip_range (l:Lane) (n:Int) (h1: -1≤n) (h2:n≤2):(skipN l n= -1∧(0≤n→l.a0=false)∧(1≤n→l.a1=false)∧(2≤n→l.a2=false))∨(isLane l (skipN l n)∧0≤skipN l n∧skipN l n≤n):=by
 unfold skipN isLane;grind
theorem HA.down {s0 s:LockSet} {l:Lane} {w n:Int} (h:HA s0 l w s (n+1)) (h1: -1≤n) (h2:n≤2):HA s0 l w s (skipN l n+1):=by
 have hn:n= -1∨n=0∨n=1∨n=2:=by omega
 obtain ⟨g1,g2,g3⟩:=h
 obtain ⟨a0,a1,a2⟩:=l
 unfold HA skipN
 rcases hn with rfl |rfl |rfl |rfl<;>cases a0<;>cases a1<;>cases a2<;>simp at g1 g2 g3 ⊢ <;>simp [g1,g2,g3]
def cntUp (l:Lane) (p:Int):Int:=(if p≤0 then bI l.a0 else 0)+(if p≤1 then bI l.a1 else 0)+(if p≤2 then bI l.a2 else 0)
def cntLo (l:Lane) (p:Int):Int:=(if 0<p then bI l.a0 else 0)+(if 1<p then bI l.a1 else 0)+(if 2<p then bI l.a2 else 0)
theorem cntUp_next {l:Lane} {p:Int} (h:isLane l p):cntUp l p=cntUp l (nextL l (p+1))+1:=by
 rcases h with ⟨rfl,hp⟩ |⟨rfl,hp⟩ |⟨rfl,hp⟩<;>unfold cntUp nextL bI<;>grind
theorem cntUp_3 (l:Lane):cntUp l 3=0:=by unfold cntUp;simp
theorem cntLo_3 (l:Lane):cntLo l 3=lenL l:=by unfold cntLo lenL;simp
theorem cntLo_0 (l:Lane):cntLo l 0=0:=by unfold cntLo;simp
theorem cntLo_give {l:Lane} {p:Int} (h:isLane l p):cntLo l (p+1)=cntLo l p+1:=by
 rcases h with ⟨rfl,hp⟩ |⟨rfl,hp⟩ |⟨rfl,hp⟩<;>unfold cntLo bI<;>grind
theorem cntLo_skip (l:Lane) (n:Int) (h1: -1≤n) (h2:n≤2):cntLo l (skipN l n+1)=cntLo l (n+1):=by unfold cntLo skipN bI;grind
theorem Ends.keeps {w:Work} {c:Core} {k:Nat} {w':Work} {c':Core} (h:Ends w c k w' c'):CW c→WW w→c.P.steps.length+4*k≤4294960000→CW c'∧WW w'∧c'.P.steps.length≤4294960000:=by
 induction h with
 |one hd=>intro h1 h2 h3;obtain ⟨k1,k2,k3⟩:=stepW_ok h1 h2 (by omega);exact ⟨k1,k2,by omega⟩
 |more hd he ih=>intro h1 h2 h3;obtain ⟨k1,k2,k3⟩:=stepW_ok h1 h2 (by omega);exact ih k1 k2 (by omega)
theorem lenL_le' (l:Lane):0≤lenL l∧lenL l≤3:=by unfold lenL bI;grind
inductive Ph (s0:LockSet) (l:Lane) (who:Int) (w0:Work) (c0:Core) (J:Nat) (w1:Work) (c1:Core):Int→Hand→Core→LockSet→Prop
 |take {p:Int} {s:LockSet}:isLane l p→HA s0 l who s p→Ph s0 l who w0 c0 J w1 c1 (cntUp l p+J+lenL l+1) ⟨w0,who,l.a0,l.a1,l.a2,p,0⟩ c0 s
 |turn {s:LockSet}:HA s0 l who s 3→Ph s0 l who w0 c0 J w1 c1 (J+lenL l+1) ⟨w0,who,l.a0,l.a1,l.a2,3,1⟩ c0 s
 |parts {j:Nat} {w:Work} {c:Core} {n:Int} {s:LockSet}:HA s0 l who s 3→Ends w c j w1 c1→CW c→WW w→c.P.steps.length+4*j≤4294960000→n=3→Ph s0 l who w0 c0 J w1 c1 (j+lenL l+1) ⟨w,who,l.a0,l.a1,l.a2,n,2⟩ c s
 |give {p:Int} {s:LockSet}:isLane l p→HA s0 l who s (p+1)→Ph s0 l who w0 c0 J w1 c1 (cntLo l (p+1)+1) ⟨w1,who,l.a0,l.a1,l.a2,p,3⟩ c1 s
 |tell {s:LockSet}:HA s0 l who s 0→Ph s0 l who w0 c0 J w1 c1 1 ⟨w1,who,l.a0,l.a1,l.a2,-1,4⟩ c1 s
 |over {s:LockSet}:HA s0 l who s 0→Ph s0 l who w0 c0 J w1 c1 0 ⟨w1,who,l.a0,l.a1,l.a2,-1,5⟩ c1 s
section
variable {s0 s:LockSet} {l:Lane} {who:Int} {w0 w1:Work} {c0 c1 c:Core} {J:Nat} {rem:Int} {h:Hand}
structure PhOK (s0:LockSet) (l:Lane) (who:Int) (w0:Work) (c0:Core) (J:Nat) (w1:Work) (c1:Core):Prop where
 en:Ends w0 c0 J w1 c1
 cw:CW c0
 ww:WW w0
 ln:c0.P.steps.length+4*J≤4294960000
theorem skip_ph {s:LockSet} {n:Int} (hs:HA s0 l who s (n+1)) (h1: -1≤n) (h2:n≤2): ∃rem,rem=cntLo l (n+1)+1∧Ph s0 l who w0 c0 J w1 c1 rem (skipH ⟨w1,who,l.a0,l.a1,l.a2,n,3⟩) c1 s:=by
 have hd:=hs.down h1 h2
 have hl:laneH ⟨w1,who,l.a0,l.a1,l.a2,n,3⟩=l:=rfl
 unfold skipH
 rw [hl]
 simp only []
 rcases skip_range l n h1 h2 with ⟨g1,_⟩ |⟨g1,g2,g3⟩
 ·have hc:=cntLo_skip l n h1 h2
  rw [g1] at hd hc ⊢
  rw [show (-1:Int)+1=0 from rfl,cntLo_0] at hc
  refine ⟨1,by omega,?_⟩
  rw [if_pos (by decide)]
  exact .tell hd
 ·have hc:=cntLo_skip l n h1 h2
  refine ⟨_,rfl,?_⟩
  rw [if_neg (by omega),←hc]
  exact .give g1 hd
theorem ph_parts {w:Work} {c:Core} {n:Int} {st:Int} {j:Nat} (hs:HA s0 l who s 3) (he:Ends w c j w1 c1) (hc:CW c) (hw:WW w) (hl:c.P.steps.length+4*j≤4294960000) (hn:n=3):
  ∃rem,rem=j+lenL l∧Ph s0 l who w0 c0 J w1 c1 rem (partsH ⟨w,who,l.a0,l.a1,l.a2,n,st⟩ c).1 (partsH ⟨w,who,l.a0,l.a1,l.a2,n,st⟩ c).2 s:=by
 unfold partsH
 cases he with
 |one hd=>
  rw [if_pos hd]
  obtain ⟨rem,h1,h2⟩:=skip_ph (w0:=w0) (c0:=c0) (J:=J) (w1:=(stepW w c).1) (c1:=(stepW w c).2) (n:=2) (s:=s) hs (by decide) (by decide)
  refine ⟨rem,?_,h2⟩
  rw [h1,show (2:Int)+1=3 from rfl,cntLo_3]
  omega
 | @more _ _ k _ _ hd he=>
  rw [if_neg (by rw [hd];decide)]
  obtain ⟨k1,k2,k3⟩:=stepW_ok hc hw (by omega)
  exact ⟨_,by omega,.parts hs he k1 k2 (by simp only [];omega) hn⟩
theorem Ph.step (ok:PhOK s0 l who w0 c0 J w1 c1) (hf:FreeF s0 l who 3) (hp:Ph s0 l who w0 c0 J w1 c1 rem h c s) (hr:h.stage≠5):
  PreH h c∧Ph s0 l who w0 c0 J w1 c1 (rem-1) (stepH h c s).2.1 (stepH h c s).2.2.1 (stepH h c s).2.2.2∧(stepH h c s).1=decide (h.stage=1):=by
 have hln:=ok.ln
 cases hp with
 | @take p s hl hs=>
  have hpr:0≤p∧p≤2:=by unfold isLane at hl;omega
  refine ⟨⟨ok.cw,ok.ww,by omega,by simp only [];omega,by simp only [];omega,fun h=>by simp at h⟩,?_⟩
  have hft:FreeF s0 l who (p+1):=⟨hf.1,hf.2.1,hf.2.2.1,hf.2.2.2.1,fun a _=>hf.2.2.2.2.1 a (by omega),fun a _=>hf.2.2.2.2.2.1 a (by omega),fun a _=>hf.2.2.2.2.2.2 a (by omega)⟩
  obtain ⟨t1,t2⟩:=take_step hs hft hl
  have t3:=t2.skip (by omega)
  have hc:=cntUp_next hl
  unfold stepH takeH wr
  rw [if_pos rfl,if_neg (by simp only [];rw [t1];simp)]
  simp only [show laneH (⟨w0,who,l.a0,l.a1,l.a2,p,0⟩:Hand)=l from rfl]
  rw [w64 (by omega)]
  refine ⟨?_,by simp⟩
  rcases next_range l (p+1) with ⟨g1,_⟩ |⟨g1,g2,g3,g4⟩
  ·rw [g1] at t3 hc ⊢
   rw [cntUp_3] at hc
   rw [if_pos rfl,show cntUp l p+J+lenL l+1-1=J+lenL l+1 by omega]
   exact .turn t3
  ·rw [if_neg (by omega),show cntUp l p+J+lenL l+1-1=cntUp l (nextL l (p+1))+J+lenL l+1 by omega]
   exact .take g1 t3
 | @turn s hs=>
  refine ⟨⟨ok.cw,ok.ww,by omega,by simp,by simp,fun h=>by simp at h⟩,?_⟩
  obtain ⟨rem,e,hp⟩:=ph_parts (w0:=w0) (c0:=c0) (J:=J) (st:=1) hs ok.en ok.cw ok.ww hln rfl
  unfold stepH
  rw [if_neg (by simp),if_pos rfl]
  refine ⟨?_,by simp⟩
  rw [show (J:Int)+lenL l+1-1=rem by omega]
  exact hp
 | @parts j w c n s hs he hc hw hl hn=>
  refine ⟨⟨hc,hw,by omega,by simp only [];omega,by simp only [];omega,fun h=>by simp at h⟩,?_⟩
  obtain ⟨rem,e,hp⟩:=ph_parts (w0:=w0) (c0:=c0) (J:=J) (st:=2) hs he hc hw hl hn
  unfold stepH
  rw [if_neg (by simp),if_neg (by simp),if_pos rfl]
  refine ⟨?_,by simp⟩
  rw [show (j:Int)+lenL l+1-1=rem by omega]
  exact hp
 | @give p s hl hs=>
  have hpr:0≤p∧p≤2:=by unfold isLane at hl;omega
  have he:=ok.en.keeps ok.cw ok.ww (by omega)
  refine ⟨⟨he.1,he.2.1,by omega,by simp only [];omega,by simp only [];omega,fun _=>hpr⟩,?_⟩
  have hg:=give_step hs hf hl
  have hc:=cntLo_give hl
  rw [show p=(p-1)+1 by omega] at hg
  obtain ⟨rem,e,hp⟩:=skip_ph (w0:=w0) (c0:=c0) (J:=J) (w1:=w1) (c1:=c1) hg (by omega) (by omega)
  unfold stepH giveH wr
  rw [if_neg (by simp),if_neg (by simp),if_neg (by simp),if_pos rfl]
  simp only []
  rw [w64 (by omega)]
  refine ⟨?_,by simp⟩
  rw [show cntLo l (p+1)+1-1=rem by rw [e,show p-1+1=p by omega];omega]
  rw [show p-1+1=p by omega] at hp
  exact hp
 | @tell s hs=>
  have he:=ok.en.keeps ok.cw ok.ww (by omega)
  refine ⟨⟨he.1,he.2.1,by omega,by simp,by simp,fun h=>by simp at h⟩,?_⟩
  unfold stepH
  rw [if_neg (by simp),if_neg (by simp),if_neg (by simp),if_neg (by simp),if_pos rfl]
  exact ⟨.over hs,by simp⟩
 |over hs=>exact absurd rfl hr
theorem cntLo_nonneg (l:Lane) (p:Int):0≤cntLo l p:=by unfold cntLo bI;grind
theorem cntUp_nonneg (l:Lane) (p:Int):0≤cntUp l p:=by unfold cntUp bI;grind
theorem Ph.left (hp:Ph s0 l who w0 c0 J w1 c1 rem h c s):0≤rem∧(rem=0↔h.stage=5)∧0≤h.stage∧h.stage≤5:=by
 have hl:=lenL_le' l
 cases hp with
 | @take p _ _ _=>have:=cntUp_nonneg l p;simp only [];omega
 |turn=>simp only [];omega
 |parts=>simp only [];omega
 | @give p _ _ _=>have:=cntLo_nonneg l (p+1);simp only [];omega
 |tell=>simp
 |over=>simp
theorem HA.held {p:Int} (h:HA s0 l who s p) (hf:FreeF s0 l who 0):heldL s who=⟨l.a0&&decide (0<p),l.a1&&decide (1<p),l.a2&&decide (2<p)⟩:=by
 obtain ⟨f1,f2,f3,f4,_⟩:=hf
 obtain ⟨h1,h2,h3⟩:=h
 have hne:who≠0:=by omega
 unfold heldL
 rw [h1,h2,h3]
 obtain ⟨a0,a1,a2⟩:=l
 simp only [decide_eq_true hne,Bool.true_and]
 congr 1
 ·cases a0<;>by_cases hp:0<p<;>simp [hp,f2]
 ·cases a1<;>by_cases hp:1<p<;>simp [hp,f3]
 ·cases a2<;>by_cases hp:2<p<;>simp [hp,f4]
theorem FreeF.zero {q:Int} (h:FreeF s0 l who q):FreeF s0 l who 0:=⟨h.1,h.2.1,h.2.2.1,h.2.2.2.1,fun _ h=>by omega,fun _ h=>by omega,fun _ h=>by omega⟩
theorem Ph.held (hp:Ph s0 l who w0 c0 J w1 c1 rem h c s) (hf:FreeF s0 l who 0): ∃p:Int,heldL s who=⟨l.a0&&decide (0<p),l.a1&&decide (1<p),l.a2&&decide (2<p)⟩∧(h.stage=1∨h.stage=2→p=3)∧(h.stage≤1→c=c0):=by
 cases hp with
 |take _ hs=>exact ⟨_,hs.held hf,fun h=>by simp at h,fun _=>rfl⟩
 |turn hs=>exact ⟨_,hs.held hf,fun _=>rfl,fun _=>rfl⟩
 |parts hs=>exact ⟨_,hs.held hf,fun _=>rfl,fun h=>by simp at h⟩
 |give _ hs=>exact ⟨_,hs.held hf,fun h=>by simp at h,fun h=>by simp at h⟩
 |tell hs=>exact ⟨_,hs.held hf,fun h=>by simp at h,fun h=>by simp at h⟩
 |over hs=>exact ⟨_,hs.held hf,fun h=>by simp at h,fun h=>by simp at h⟩
theorem Ph.last (hp:Ph s0 l who w0 c0 J w1 c1 rem h c s) (h5:h.stage=5):h.W=w1∧c=c1∧s.o0=s0.o0∧s.o1=s0.o1∧s.o2=s0.o2:=by
 cases hp with
 |take=>simp at h5
 |turn=>simp at h5
 |parts=>simp at h5
 |give=>simp at h5
 |tell=>simp at h5
 |over hs=>
  obtain ⟨h1,h2,h3⟩:=hs
  exact ⟨rfl,rfl,by simpa using h1,by simpa using h2,by simpa using h3⟩
theorem Ph.waits (hp:Ph s0 l who w0 c0 J w1 c1 rem h c s) (hf:FreeF s0 l who 3):waitsH h s=false:=by
 cases hp with
 | @take p s hl hs=>
  have hpr:0≤p∧p≤2:=by unfold isLane at hl;omega
  have hft:FreeF s0 l who (p+1):=⟨hf.1,hf.2.1,hf.2.2.1,hf.2.2.2.1,fun a _=>hf.2.2.2.2.1 a (by omega),fun a _=>hf.2.2.2.2.2.1 a (by omega),fun a _=>hf.2.2.2.2.2.2 a (by omega)⟩
  unfold waitsH
  simp [own_free hs hft hl]
 |turn=>simp [waitsH]
 |parts=>simp [waitsH]
 |give=>simp [waitsH]
 |tell=>simp [waitsH]
 |over=>simp [waitsH]
end
end Go.Ax.Law
namespace Go.Ax.Law
structure Found (c:Core) (j:Job) (p:Prof) (r:Prof × List Choice):Prop where
  none:r.2=[]→r.1.steps=c.P.steps∧ ∀u,nowC c≤u→u≤1099511627776→(0≤j.Plan→u<j.Plan)→fitsC c ⟨j.Id,u⟩=false
  some:r.2≠[]→ ∃t,r.2=[⟨j.Id,t⟩]∧nowC c≤t∧t≤1099511627776∧(0≤j.Plan→t<j.Plan)∧fitsC c ⟨j.Id,t⟩=!c.closed∧(∀u,nowC c≤u→u<t→fitsC c ⟨j.Id,u⟩=false)∧(c.closed=false→r.1.steps=(comS c ⟨j.Id,t⟩).2.P.steps)
end Go.Ax.Law
namespace Go.Ax.Law
def KeepP (com:Bool) (a b:Job):Prop:=(b.State=1∧0≤b.Plan∧b.Plan≤a.Plan)∨(0≤b.Start∧b.Start≤a.Plan∧3≤b.State∧(b.Start=a.Plan∨com=true))
theorem KeepP.refl {com:Bool} {a:Job} (h1:a.State=1) (h2:0≤a.Plan):KeepP com a a:= .inl ⟨h1,h2,Int.le_refl _⟩
def Kept (com:Bool) (d:Deed) (l r:List Job):Prop:=l.length≤r.length∧ ∀(i:Nat) (a b:Job),l[i]? =some a→r[i]? =some b→a.State=1→0≤a.Plan→excused d a l r=false→KeepP com a b
theorem Kept.refl {com:Bool} {d:Deed} (l:List Job):Kept com d l l:=⟨Nat.le_refl _,fun i a b h1 h2 h3 h4 _=>by rw [h1] at h2;cases h2;exact .refl h3 h4⟩
theorem Kept.set {com:Bool} {d:Deed} {l:List Job} {n:Nat} {y:Job} (h: ∀a,l[n]? =some a→a.State=1→0≤a.Plan→excused d a l (l.set n y)=false→KeepP com a y):Kept com d l (l.set n y):=by
 refine ⟨by simp,fun i a b h1 h2 h3 h4 h5=>?_⟩
 by_cases hi:n=i
 ·subst hi
  have hl:n<l.length:=(List.getElem?_eq_some_iff.1 h1).1
  rw [List.getElem?_set_self hl] at h2
  cases h2
  exact h a h1 h3 h4 h5
 ·rw [List.getElem?_set_ne hi,h1] at h2
  cases h2;exact .refl h3 h4
theorem selN_due {now:Int} {l:List Job}: ∀n,n≤l.length→0≤selN now l n→ ∃a,l[(selN now l n).toNat]? =some a∧dueJ now a=true
 |0,_,h=>by simp only [selN] at h;omega
 |n+1,hn,h=>by
  have ih:=selN_due (now:=now) (l:=l) n (by omega)
  have hj:l[n]? =some l[n]:=List.getElem?_eq_getElem (by omega)
  simp only [selN,hj] at h ⊢
  split
  ·rename_i hc
   exact ⟨l[n],by simpa using hj,hc.1⟩
  ·rename_i hc
   rw [if_neg hc] at h
   exact ih h
def TickI (L0 l:List Job):Prop:=l.length=L0.length∧ ∀(i:Nat) (a b:Job),L0[i]? =some a→l[i]? =some b→a.State=1→0≤a.Plan→(b=a∨(b.Start=a.Plan∧3≤b.State))
theorem TickI.over {L0 l:List Job} (h:TickI L0 l) (now:Int):TickI L0 (l.map (overJ now)):=by
 refine ⟨by simpa using h.1,fun i a b h1 h2 h3 h4=>?_⟩
 rw [List.getElem?_map,Option.map_eq_some_iff] at h2
 obtain ⟨y,h2,rfl⟩:=h2
 unfold overJ
 rcases h.2 i a y h1 h2 h3 h4 with rfl |⟨g1,g2⟩
 ·rw [if_neg (by omega)];exact .inl rfl
 ·split
  ·exact .inr ⟨g1,by simp⟩
  ·exact .inr ⟨g1,g2⟩
theorem TickI.begin {L0:List Job} {m:Model} (h:TickI L0 m.L) (h0:0≤selN m.Now m.L m.L.length):TickI L0 (beginM m (selN m.Now m.L m.L.length)).L:=by
 obtain ⟨y,e1,e2⟩:=selN_due (now:=m.Now) (l:=m.L) _ (Nat.le_refl _) h0
 unfold beginM
 rw [e1]
 have hy:y.State=1∧0≤y.Plan∧y.Plan=m.Now:=by
  unfold dueJ plannedJ at e2
  simp at e2
  omega
 refine ⟨by simpa using h.1,fun i a b h1 h2 h3 h4=>?_⟩
 simp only [] at h2
 by_cases hi:(selN m.Now m.L m.L.length).toNat=i
 ·subst hi
  have hl:=(List.getElem?_eq_some_iff.1 e1).1
  rw [List.getElem?_set_self hl] at h2
  cases h2
  rcases h.2 _ a y h1 e1 h3 h4 with rfl |⟨g1,g2⟩
  ·exact .inr ⟨hy.2.2.symm,by simp [beginJm]⟩
  ·omega
 ·rw [List.getElem?_set_ne hi] at h2
  exact h.2 i a b h1 h2 h3 h4
theorem TickI.beginF {L0:List Job}: ∀(f:Nat) {m:Model},TickI L0 m.L→TickI L0 (beginF f m).L
 |0,_,h=>h
 |f+1,m,h=>by
  simp only [Law.beginF]
  split
  ·rename_i h0;exact TickI.beginF f (h.begin h0)
  ·exact TickI.beginF f h
theorem TickI.happen {L0:List Job} {m:Model} (h:TickI L0 m.L):TickI L0 (happenM m).L:=TickI.beginF _ (m:={m with L:=m.L.map (overJ m.Now)}) (h.over _)
theorem TickI.tickF {L0:List Job} (to:Int): ∀(f:Nat) {m:Model},TickI L0 m.L→TickI L0 (tickF f to m).L
 |0,_,h=>h
 |f+1,m,h=>by
  simp only [Law.tickF]
  split
  ·exact h
  ·exact TickI.tickF to f (TickI.happen (m:={m with Now:=nextM m}) h)
theorem TickI.refl (l:List Job):TickI l l:=⟨rfl,fun i a b h1 h2 _ _=>by rw [h1] at h2;cases h2;exact .inl rfl⟩
theorem getM_some {m:Model} {id:Int} (h:(getM m id).2=true):1≤id∧id≤m.L.length∧m.L[(id-1).toNat]? =some (getM m id).1:=by
 unfold getM at h ⊢
 split at h
 ·cases h
 ·rename_i hc
  rw [if_neg hc]
  have:(id-1).toNat<m.L.length:=by omega
  rw [List.getElem?_eq_getElem this]
  exact ⟨by omega,by omega,rfl⟩
end Go.Ax.Law
namespace Go.Ax.Law
open Go.Ax.O
def LowJ (now:Int) (a b:Job):Prop:=(a.State≠1→b=a)∧(a.State=1→(b.State=3∧b.Start=now)∨(b.State=1∧(0≤a.Plan→0≤b.Plan∧b.Plan≤a.Plan)))
def LowL (now:Int) (l r:List Job):Prop:=r.length=l.length∧ ∀(i:Nat) (a b:Job),l[i]? =some a→r[i]? =some b→LowJ now a b
theorem LowJ.refl (now:Int) (a:Job):LowJ now a a:=⟨fun _=>rfl,fun h=> .inr ⟨h,fun h2=>⟨h2,Int.le_refl _⟩⟩⟩
theorem LowL.refl (now:Int) (l:List Job):LowL now l l:=⟨rfl,fun i a b h1 h2=>by rw [h1] at h2;cases h2;exact .refl now a⟩
theorem fitsM_some {m:Model} {x:Choice} (h:fitsM m x=true): ∃(i:Nat) (j:Job),x.Id=(i:Int)+1∧m.L[i]? =some j∧(getM m x.Id).1=j∧j.State=1∧m.Now≤x.At∧x.At≤1099511627776∧ ¬ (0≤j.Plan∧j.Plan≤x.At):=by
  unfold fitsM at h
  simp only [] at h
  split at h
  · cases h
  · rename_i hc
    have hg:(getM m x.Id).2=true:=by
      cases hb:(getM m x.Id).2 with
      |true=>rfl
      |false=>exact absurd (.inr (.inl hb)) hc
    obtain ⟨g1,g2,g3⟩:=getM_some hg
    refine ⟨(x.Id-1).toNat,(getM m x.Id).1,by omega,g3,rfl,?_,?_,?_,?_⟩
    · refine Decidable.byContradiction fun hh=>hc ?_
      exact .inr (.inr (.inl hh))
    · refine Decidable.byContradiction fun hh=>hc ?_
      exact .inr (.inr (.inr (.inl (by omega))))
    · refine Decidable.byContradiction fun hh=>hc ?_
      exact .inr (.inr (.inr (.inr (.inl (by omega)))))
    · exact fun hh=>hc (.inr (.inr (.inr (.inr (.inr hh)))))
theorem commit_jobs (m:Model) (x:Choice):(commitM m x).2.Now=m.Now∧(commitM m x).2.Closed=m.Closed∧(commitM m x).2.Drain=m.Drain∧((commitM m x).2.L=m.L∨
    ∃(i:Nat) (j b:Job),x.Id=(i:Int)+1∧m.L[i]? =some j∧j.State=1∧ ¬ (0≤j.Plan∧j.Plan≤x.At)∧m.Now≤x.At∧(commitM m x).2.L=m.L.set i b∧b.Id=j.Id∧((b.State=3∧b.Start=m.Now∧b.End=m.Now+j.Limit∧x.At=m.Now)∨(b={j with Plan:=x.At}∧m.Now<x.At))):=by
  unfold commitM
  cases hf:fitsM m x with
  |false=>exact ⟨rfl,rfl,rfl,.inl rfl⟩
  |true=>
    obtain ⟨i,j,h1,h2,h3,h4,h5,h6,h7⟩:=fitsM_some hf
    have hi:(x.Id-1).toNat=i:=by omega
    rw [if_neg (by decide)]
    by_cases hn:x.At=m.Now
    · rw [if_pos hn]
      have hb:beginM m (x.Id-1)={m with L:=m.L.set i (beginJm m j)}:=by unfold beginM;rw [hi,h2]
      simp only []
      rw [hb]
      exact ⟨rfl,rfl,rfl,.inr ⟨i,j,beginJm m j,h1,h2,h4,h7,h5,rfl,rfl,.inl ⟨rfl,rfl,rfl,hn⟩⟩⟩
    · rw [if_neg hn]
      refine ⟨rfl,rfl,rfl,.inr ⟨i,j,{j with Plan:=x.At},h1,h2,h4,h7,h5,?_,rfl,.inr ⟨rfl,by omega⟩⟩⟩
      simp only []
      rw [hi,h3]
theorem commit_low {m:Model} {L0:List Job} (h:LowL m.Now L0 m.L) (h0:0≤m.Now) (x:Choice):LowL m.Now L0 (commitM m x).2.L:=by
  obtain ⟨_,_,_,h1 |⟨i,j,b,g1,g2,g3,g4,g5,g6,g7,g8⟩⟩:=commit_jobs m x
  · rw [h1];exact h
  · rw [g6]
    refine ⟨by rw [List.length_set];exact h.1,fun k a q ha hq=>?_⟩
    by_cases hk:i=k
    · subst hk
      rw [List.getElem?_set_self (List.getElem?_eq_some_iff.1 g2).1] at hq
      cases hq
      obtain ⟨k1,k2⟩:=h.2 i a j ha g2
      by_cases ha1:a.State=1
      · refine ⟨fun hh=>absurd ha1 hh,fun _=>?_⟩
        rcases g8 with ⟨p1,p2,_⟩ |⟨p1,p2⟩
        · exact .inl ⟨p1,p2⟩
        · refine .inr ⟨by rw [p1];exact g3,fun hp=>?_⟩
          rcases k2 ha1 with ⟨k3,_⟩ |⟨_,k3⟩
          · omega
          · have:=k3 hp
            rw [p1]
            simp only []
            omega
      · rw [k1 ha1] at g3;exact absurd g3 ha1
    · rw [List.getElem?_set_ne hk] at hq
      exact h.2 k a q ha hq
theorem comS_next {n:Nat} {c:Core} {m:Model} (h:Stb n c m) (x:Choice):Stb n (comS c x).2 (commitM m x).2∧nowC (comS c x).2=nowC c∧(comS c x).2.closed=c.closed:=by
  have h1:=(comS_stb h x).2
  obtain ⟨a1,a2,_⟩:=commit_jobs m x
  exact ⟨h1,h1.rep.now.symm.trans (a1.trans h.rep.now),h1.rep.closed.symm.trans (a2.trans h.rep.closed)⟩
theorem pass_low {n:Nat}: ∀(l:List Choice) {c:Core} {m:Model} {L0:List Job} (t:Int) (s:List Int),Stb n c m→LowL (nowC c) L0 c.J.jobs→
    (∃m',Stb n (passF c t s l).1 m')∧nowC (passF c t s l).1=nowC c∧(passF c t s l).1.closed=c.closed∧LowL (nowC c) L0 (passF c t s l).1.J.jobs
  | [],c,m,L0,t,s,h,hl=>⟨⟨m,h⟩,rfl,rfl,hl⟩
  |x::l,c,m,L0,t,s,h,hl=>by
    obtain ⟨h1,h2,h3⟩:=comS_next h x
    have h4:LowL (nowC (comS c x).2) L0 (comS c x).2.J.jobs:=by
      rw [h2,←h1.rep.jobs]
      have:=commit_low (m:=m) (L0:=L0) (by rw [h.rep.now,h.rep.jobs];exact hl) (by rw [h.rep.now];exact h.rep.deep.nw.1) x
      rw [h.rep.now] at this;exact this
    rw [passF]
    split
    · obtain ⟨a1,a2,a3,a4⟩:=pass_low l t s h1 h4
      exact ⟨a1,a2.trans h2,a3.trans h3,by rw [h2] at a4;exact a4⟩
    · obtain ⟨a1,a2,a3,a4⟩:=pass_low l (t+1) (if (getJ (comS c x).2.J.jobs x.Id).1.State=3 then s++[x.Id] else s) h1 h4
      exact ⟨a1,a2.trans h2,a3.trans h3,by rw [h2] at a4;exact a4⟩
end Go.Ax.Law
namespace Go.Ax.Law
def settleF (depth most:Int):Nat→Int→Core→(Int × Bool) × Core
 |0,_,c=>((max most 0,false),c)
 |f+1,n,c=>if most<n then ((max most 0,false),c)
  else if (passS c depth).1.2.2.2≠0 then ((n,false),(passS c depth).2)
  else if (passS c depth).1.2.1=0 then ((n,true),(passS c depth).2) else settleF depth most f (n+1) (passS c depth).2
def settleS (c:Core) (depth most:Int):(Int × Bool) × Core:=settleF depth most most.toNat 1 c
end Go.Ax.Law
namespace Go.Ax.Sp
end Go.Ax.Sp
namespace Go.Ax.V
open Go.Ax.Sp Go.Ax.Law List Int IntKind
set_option maxRecDepth 100000
end Go.Ax.V
namespace Go.Ax.V
open Go.Ax.Sp Go.Ax.Law List Int IntKind
set_option maxRecDepth 100000
end Go.Ax.V
namespace Go.Ax.Law
theorem OkS.pass {c:Core} (h:OkS c) (d:Int):OkS (passS c d).2:=by
 obtain ⟨n,m,h⟩:=h
 unfold passS
 split
 ·exact ⟨n,m,h⟩
 ·obtain ⟨⟨m',h'⟩,_⟩:=pass_low (planA c.P d (itemsC c)).1 0 [] h (LowL.refl _ _)
  exact ⟨n,m',h'⟩
end Go.Ax.Law
namespace Go.Ax.O
open Go.Ax.Sp Go.Ax.Law
end Go.Ax.O
namespace Go.Ax.Law
theorem Stb.pass {n:Nat} {c:Core} {m:Model} (h:Stb n c m) (d:Int):(∃m',Stb n (passS c d).2 m')∧(passS c d).2.closed=c.closed∧nowC (passS c d).2=nowC c:=by
 unfold passS
 split
 ·exact ⟨⟨m,h⟩,rfl,rfl⟩
 ·obtain ⟨h1,h2,h3,_⟩:=pass_low (planA c.P d (itemsC c)).1 0 [] h (LowL.refl _ _)
  exact ⟨h1,h3,h2⟩
structure Settled (n:Nat) (c:Core) (r:(Int × Bool) × Core):Prop where
 stb: ∃m,Stb n r.2 m
 cl:r.2.closed=c.closed
 lo:1≤r.1.1
 hi:r.1.1≤30
 no:r.1.2=false→r.1.1=30
 yes:r.1.2=true→(planF r.2.P ((waitC r.2).map itemJ)).2=[]
end Go.Ax.Law
namespace Go.Ax.Sp
def sSettle:Sig:=⟨[(.obj .sched,true),(.int .i64,false),(.int .i64,false)],[.int .i64,.bool]⟩
def oSettle:sSettle.Out:=fun x k=>(Law.OkS x.1.C∧0≤x.2.2.1∧x.2.2.1≤1000)∧k (⟨(Law.settleS x.1.C x.2.1 x.2.2.1).2⟩,()) ((Law.settleS x.1.C x.2.1 x.2.2.1).1.1,(Law.settleS x.1.C x.2.1 x.2.2.1).1.2,())
def lSettle:LoopAnn:={X:=Core × Int × Int × Int,live:=fun x=>[(0,.ptr ⟨0,0,0,0⟩),(1,.int .i64 x.2.1),(2,.int .i64 x.2.2.1),(8,.int .i64 x.2.2.2)],heap:=fun x=>[some (.obj .sched ⟨x.1⟩)],norm:=[.fold 0 .sched]}
end Go.Ax.Sp
namespace Go.Ax.V
open Go.Ax.Sp Go.Ax.Law List Int IntKind
set_option maxRecDepth 100000
def vSettle (s:Sched) (n:Int) (m:Int) (k:Sched × Unit→Int × Bool × Unit→Prop):Prop:=
LP (Core × Int × Int × Int) (fun x=>(0=0∧n=x.2.1∧m=x.2.2.1∧1=x.2.2.2∧True)∧s=Sched.mk x.1∧True) fun I m x=>SH (passS x.1 x.2.1) fun s0=>br (decide (x.2.2.2≤x.2.2.1)) (OkS x.1∧br (!s0.1.2.2.2==0) (k (Sched.mk s0.2,()) (x.2.2.2,false,())) (br (s0.1.2.1==0) (k (Sched.mk s0.2,()) (x.2.2.2,true,())) (NM (x.2.2.2+1) fun n=>NX I m x fun y=>(0=0∧x.2.1=y.2.1∧x.2.2.1=y.2.2.1∧n=y.2.2.2∧True)∧Sched.mk s0.2=Sched.mk y.1∧True))) (k (Sched.mk x.1,()) (if 0>x.2.2.1 then 0 else x.2.2.1,false,()))
end Go.Ax.V
namespace Go.Ax.O
open Go.Ax.Sp Go.Ax.Law
theorem vSettle {s:Sched} {n m:Int} {k:Sched × Unit→Int × Bool × Unit→Prop} (h:oSettle (s,n,m,()) k):V.vSettle s n m k:=by
 obtain ⟨⟨hs,hm⟩,h⟩:=h
 obtain ⟨c0⟩:=s
 replace hs:OkS c0:=hs
 have hm:0≤m∧m≤1000:=hm
 have h:k (⟨(settleS c0 n m).2⟩,()) ((settleS c0 n m).1.1,(settleS c0 n m).1.2,()):=h
 unfold V.vSettle V.LP V.NX V.NM V.SH
 refine ⟨fun x=>OkS x.1∧x.2.1=n∧x.2.2.1=m∧1≤x.2.2.2∧x.2.2.2≤m+1∧settleF n m (m+1-x.2.2.2).toNat x.2.2.2 x.1=settleS c0 n m,fun x=>(m+1-x.2.2.2).toNat,
  (c0,n,m,1),⟨hs,rfl,rfl,by simp,by simp only [];omega,by simp only [];unfold settleS;congr 1;omega⟩,by simp,?_⟩
 rintro ⟨c,n',m',i⟩ ⟨e0,e1,e2,h1,h2,e3⟩
 simp only [] at e0 e1 e2 h1 h2 e3
 subst e1 e2
 refine br_dec (fun hl=>?_) (fun hl=>?_)
 ·have hl:i≤m':=hl
  rw [show (m'+1-i).toNat=(m'-i).toNat+1 by omega] at e3
  unfold settleF at e3
  rw [if_neg (by omega)] at e3
  refine ⟨e0,br_ne (fun hh=>?_) (fun hh=>br_eq (fun ht=>?_) (fun ht=>?_))⟩
  ·rw [if_pos hh] at e3
   rw [←e3] at h;exact h
  ·rw [if_neg (by simpa using hh),if_pos ht] at e3
   rw [←e3] at h;exact h
  ·rw [if_neg (by simpa using hh),if_neg ht] at e3
   intro q hq
   rw [w64 (by simp only [];omega)] at hq
   replace hq:q=i+1:=hq
   subst hq
   exact ⟨((passS c n').2,n',m',i+1),⟨e0.pass n',rfl,rfl,by simp only [];omega,by simp only [];omega,by simp only [];rw [←e3];congr 1;omega⟩,by simp,by simp only [];omega⟩
 ·have hl: ¬ i≤m':=hl
  obtain rfl:i=m'+1:=by omega
  rw [show (m'+1-(m'+1)).toNat=0 by omega] at e3
  unfold settleF at e3
  rw [←e3] at h
  rw [if_neg (by simp only [];omega)]
  have:max m' 0=m':=by omega
  simpa [this] using h
end Go.Ax.O

