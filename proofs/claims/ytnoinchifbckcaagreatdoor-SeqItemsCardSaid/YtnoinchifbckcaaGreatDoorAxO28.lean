import Derived.Test.YtnoinchifbckcaaGreatDoorAxO27
import Derived.Test.YtnoinchifbckcaaGreatDoorAxV11
set_option linter.all false
namespace Go.Ax.Law
def doSM (m:Model) (r:Req):Reply × Model:=if isK r.Kind then doM m r else (failR 4,m)
def deedSM (m:Model) (d:Deed):Model:=if d.Commit then (commitM m d.X).2 else (doSM m d.R).2
def madeSM (n:Int) (l:List Deed):Model:=(l.take 60).foldl deedSM (newM n)
theorem doS_stb {n:Nat} {c:Core} {m:Model} (h:Stb n c m) (r:Req):(doS c r).1=(doSM m r).1∧Stb n (doS c r).2 (doSM m r).2:=by
 unfold doS doSM
 cases isK r.Kind with
 |true=>obtain ⟨_,_,_,a4,a5⟩:=whole_do h r;exact ⟨a4,a5⟩
 |false=>exact ⟨rfl,h⟩
theorem comS_stb {n:Nat} {c:Core} {m:Model} (h:Stb n c m) (x:Choice):(comS c x).1=(commitM m x).1∧Stb n (comS c x).2 (commitM m x).2:=by
 obtain ⟨_,_,a3,a4,_⟩:=whole_commit h x
 exact ⟨a3,a4⟩
theorem deedS_stb {n:Nat} {c:Core} {m:Model} (h:Stb n c m) (d:Deed):Stb n (deedS c d) (deedSM m d):=by
 unfold deedS deedSM
 cases d.Commit with
 |true=>exact (comS_stb h d.X).2
 |false=>exact (doS_stb h d.R).2
theorem foldS_stb {n:Nat}: ∀(l:List Deed) {c:Core} {m:Model},Stb n c m→Stb n (l.foldl deedS c) (l.foldl deedSM m)
 | [],_,_,h=>h
 |d::l,_,_,h=>foldS_stb l (deedS_stb h d)
theorem madeS_stb {n:Int} (h1:1≤n) (h2:n≤64) (l:List Deed):Stb n.toNat (madeS n l) (madeSM n l):=by
 have:=new_stb (n:=n.toNat) (by omega) (by omega)
 rw [Int.toNat_of_nonneg (by omega)] at this
 exact foldS_stb _ this
theorem Stb.same {n:Nat} {c c':Core} {m:Model} (h:Stb n c m) (h':Stb n c' m):c'.J.jobs=c.J.jobs∧c'.P.steps=c.P.steps∧c'.N=c.N∧c'.closed=c.closed:=by
 have hj:c'.J.jobs=c.J.jobs:=h'.rep.jobs.symm.trans h.rep.jobs
 have hd:=h.rep.deep
 have hd':=h'.rep.deep
 refine ⟨hj,h'.rep.steps.symm.trans h.rep.steps,?_,h'.rep.closed.symm.trans h.rep.closed⟩
 have e1:c'.N.all=c.N.all:=by rw [hd.all,hd'.all]
 have e2:c'.N.used=c.N.used:=bits_ext hd'.cw.2.1.2.1 hd.cw.2.1.2.1 fun k _=>by rw [hd.us,hd'.us,hj]
 have e3:c'.N.drain=c.N.drain:=bits_ext hd'.cw.2.1.2.2.1 hd.cw.2.1.2.2.1 fun k _=>by
  by_cases hk:k<n
  ·exact (h'.rep.dr k hk).symm.trans (h.rep.dr k hk)
  ·have a1:=hd.dn k
   have a2:=hd'.dn k
   cases b1:hasB c.N.drain (k:Int)<;>cases b2:hasB c'.N.drain (k:Int)<;>simp only [b1,b2] at a1 a2<;>first |rfl |exact absurd (a1 trivial) hk |exact absurd (a2 trivial) hk
 cases hc:c.N;cases hc':c'.N
 simp only [hc,hc'] at e1 e2 e3
 rw [e1,e2,e3]
theorem ends_do {n:Nat} {c:Core} {m:Model} (h:Stb n c m) (r:Req): ∃j,j≤140∧Ends (newW r) c j (wholeW (newW r) c).2.1 (wholeW (newW r) c).2.2:=by
 obtain ⟨k,w',c',h1,h2,_⟩:=do_done h r
 refine ⟨k,h1,?_⟩
 unfold wholeW
 rw [h2.whole 1999 1 (by omega)];exact h2
theorem ends_com {n:Nat} {c:Core} {m:Model} (h:Stb n c m) (x:Choice): ∃j,j≤4∧Ends (newX x) c j (wholeW (newX x) c).2.1 (wholeW (newX x) c).2.2:=by
 obtain ⟨⟨k,w',c',h1,h2,_⟩,_⟩:=commit_done h x
 refine ⟨k,h1,?_⟩
 unfold wholeW
 rw [h2.whole 1999 1 (by omega)];exact h2
theorem wait_len {c:Core} (h:CW c):(sortJ (inJ c.J.jobs [1])).length≤4294967296:=by
 have a1:=h.1.2.1
 have a2:(inJ c.J.jobs [1]).length≤c.J.jobs.length:=List.length_filter_le _ _
 rw [sort_len];omega
def Ref (m:Model) (p:Reply × Model):Prop:=p.1.Err≠0→p=(failR p.1.Err,m)
theorem Ref.fail {m:Model} {e:Int}:Ref m (failR e,m):=fun _=>rfl
theorem Ref.fine {m:Model} {p:Reply × Model} (h:p.1.Err=0):Ref m p:=fun g=>absurd h g
theorem Ref.ite {m:Model} {c:Prop} [Decidable c] {a b:Reply × Model} (h1:Ref m a) (h2:Ref m b):Ref m (if c then a else b):=by
 split
 ·exact h1
 ·exact h2
theorem doM_refuses (m:Model) (r:Req):Ref m (doM m r):=by
 unfold doM
 refine .ite .fail (.ite ?_ (.ite ?_ (.ite ?_ (.ite ?_ (.ite ?_ (.ite (.fine rfl) (.ite (.fine rfl) (.ite (.fine rfl) (.ite (.fine rfl) .fail)))))))))
 ·unfold submitM
  exact .ite .fail (.ite .fail (.ite .fail (.ite .fail (.fine rfl))))
 ·unfold endM
  exact .ite .fail (.ite .fail (.fine rfl))
 ·unfold turnM
  exact .ite .fail (.ite .fail (.fine rfl))
 ·unfold nodeM
  exact .ite .fail (.ite .fail (.fine rfl))
 ·unfold tickM
  exact .ite .fail (.fine rfl)
theorem doSM_refuses (m:Model) (r:Req):(doSM m r).1.Err≠0→doSM m r=(failR (doSM m r).1.Err,m):=by
 unfold doSM
 split
 ·exact doM_refuses m r
 ·intro _;rfl
theorem commitM_refuses (m:Model) (x:Choice):(commitM m x).1=false→(commitM m x).2=m:=by
 unfold commitM
 split
 ·intro _;rfl
 ·split<;>(intro h;cases h)
end Go.Ax.Law
namespace Go.Ax.O
open Go.Ax.Sp Go.Ax.Law
theorem vIsR {q:Int} {k:Unit→Bool × Unit→Prop} (h:oIsR (q,()) k):V.vIsR q k:=by
 have h:k () (isK q,()):=h
 unfold isK at h
 unfold V.vIsR
 refine br_dec (fun h1=>?_) (fun h1=>?_)
 ·rw [show decide (1≤q)=true from decide_eq_true h1,Bool.true_and] at h;exact h
 ·rw [show decide (1≤q)=false from decide_eq_false h1,Bool.false_and] at h;exact h
theorem vNewS {n:Int} {k:Unit→Option Sched × Int × Unit→Prop} (h:oNewS (n,()) k):V.vNewS n k:=h
theorem vNoneS {s:Sched} {k:Unit→Bool × Unit→Prop} (h:oNoneS (some s,()) k):V.vNoneS s k:=h
theorem vNoneSN {k:Unit→Bool × Unit→Prop} (h:oNoneS (none,()) k):V.vNoneSN k:=h
theorem vRunS {s:Sched} {w:Work} {k:Sched × Work × Unit→Unit→Prop} (h:oRunS (s,w,()) k):V.vRunS s w k:=by
 obtain ⟨j,w',c',⟨h1,h2,h3,h4⟩,hk⟩:=h
 have hk:k (⟨c'⟩,w',()) ():=hk
 unfold V.vRunS
 simp only [true_and,and_true]
 refine ⟨fun x=>Law.Ends x.2.1 x.1 x.2.2 w' c'∧CW x.1∧WW x.2.1∧x.1.P.steps.length+4*x.2.2≤4294960000,fun x=>x.2.2,(s.C,w,j),⟨h1,h2,h3,h4⟩,by simp,?_⟩
 rintro ⟨c,v,i⟩ ⟨g1,g2,g3,g4⟩
 simp only [] at g1 g2 g3 g4
 dsimp only
 have:=g1.pos
 obtain ⟨s1,s2,s3⟩:=stepW_ok g2 g3 (by omega)
 refine ⟨⟨g2,g3,by omega⟩,br_not (fun hd=>?_) (fun hd=>?_)⟩
 ·cases g1 with
  |one h=>rw [h] at hd;cases hd
  | @more _ _ i _ _ _ he=>exact ⟨((stepW v c).2,(stepW v c).1,i),⟨he,s1,s2,by simp only [];omega⟩,by simp,by simp only [];omega⟩
 ·cases g1 with
  |one h=>exact hk
  |more h _=>rw [h] at hd;cases hd
theorem vDoS {s:Sched} {r:Req} {k:Sched × Unit→Reply × Unit→Prop} (h:oDoS (s,r,()) k):V.vDoS s r k:=by
 obtain ⟨⟨n,m,hs⟩,hk⟩:=h
 have hs:Stb n s.C m:=hs
 have hk:k (⟨(doS s.C r).2⟩,()) ((doS s.C r).1,()):=hk
 have hl:=hs.len
 unfold doS at hk
 unfold V.vDoS
 refine br_not (fun hb=>?_) (fun hb=>?_)
 ·rw [if_neg (by rw [hb];decide)] at hk;exact hk
 ·rw [if_pos hb] at hk
  obtain ⟨j,h1,h2⟩:=ends_do hs r
  exact ⟨j,_,_,⟨h2,hs.cw,newW_WW _,by omega⟩,hk⟩
theorem vComS {s:Sched} {x:Choice} {k:Sched × Unit→Bool × Unit→Prop} (h:oComS (s,x,()) k):V.vComS s x k:=by
 obtain ⟨⟨n,m,hs⟩,hk⟩:=h
 have hs:Stb n s.C m:=hs
 have hl:=hs.len
 obtain ⟨j,h1,h2⟩:=ends_com hs x
 exact ⟨j,_,_,⟨h2,hs.cw,newX_WW _,by omega⟩,hk⟩
theorem vTwinS {s:Sched} {k:Unit→Option Sched × Unit→Prop} (h:oTwinS (s,()) k):V.vTwinS s k:=h
theorem vItems {l:List Job} {k:Unit→List Go.Ax.Item × Unit→Prop} (h:oItems (l,()) k):V.vItems l k:=by
 obtain ⟨hl,hk⟩:=h
 have hl:l.length≤4294967296:=hl
 have hk:k () (l.map itemJ,()):=hk
 unfold V.vItems
 simp only [tk_eq,tkset,Nat.zero_add,Nat.le_refl,true_and,and_true,List.length_set]
 refine ⟨fun x=>x.1=l∧0≤x.2.2∧x.2.2≤l.length∧x.2.1=(l.take x.2.2.toNat).map itemJ,fun x=>(l.length-x.2.2).toNat,(l,[],0),⟨rfl,Int.le_refl _,by simp,by simp⟩,by simp,?_⟩
 rintro ⟨l',o,i⟩ ⟨g1,g2,g3,g4⟩
 simp only [] at g1 g2 g3 g4
 subst g1 g4
 obtain ⟨i,rfl⟩:=Int.eq_ofNat_of_zero_le g2
 simp only [Int.toNat_natCast]
 have hlen:((l'.take i).map itemJ).length≤l'.length:=by simp;omega
 refine br_dec (fun hi=>⟨⟨g2,hi⟩,fun e he=>⟨by omega,fun q hq=>?_⟩⟩) (fun hi=>?_)
 ·rw [w64 (by omega)] at hq
  subst hq
  refine ⟨(l',(l'.take (i+1)).map itemJ,i+1),⟨rfl,by simp only [];omega,by simp only [];omega,by simp only [show ((i:Int)+1).toNat=i+1 by omega]⟩,?_,by simp only [];omega⟩
  rw [List.take_add_one,he]
  simp [itemJ]
 ·rw [List.take_of_length_le (by omega)];exact hk
theorem vItemsS {s:Sched} {k:Unit→List Go.Ax.Item × Unit→Prop} (h:oItemsS (s,()) k):V.vItemsS s k:=by
 obtain ⟨hc,hk⟩:=h
 have hc:CW s.C:=hc
 have hk:k () ((waitC s.C).map itemJ,()):=hk
 unfold V.vItemsS
 simp only [tk_eq,tkset,Nat.zero_add,Nat.le_refl,true_and,and_true,List.length_set]
 exact ⟨hc.1,wait_len hc,hk⟩
theorem awake13:(wholeW (newX ⟨1,5⟩) (wholeW (newW ⟨1,0,0,2,10,0,false,0,0⟩) (newCore 2)).2.2).2.1.ok=true∧
  (getJ (wholeW (newW ⟨9,0,0,0,0,0,false,0,5⟩) (wholeW (newX ⟨1,5⟩) (wholeW (newW ⟨1,0,0,2,10,0,false,0,0⟩) (newCore 2)).2.2).2.2).2.2.J.jobs 1).2=0∧
  (getJ (wholeW (newW ⟨9,0,0,0,0,0,false,0,5⟩) (wholeW (newX ⟨1,5⟩) (wholeW (newW ⟨1,0,0,2,10,0,false,0,0⟩) (newCore 2)).2.2).2.2).2.2.J.jobs 1).1.State=3∧
  (getJ (wholeW (newW ⟨9,0,0,0,0,0,false,0,5⟩) (wholeW (newX ⟨1,5⟩) (wholeW (newW ⟨1,0,0,2,10,0,false,0,0⟩) (newCore 2)).2.2).2.2).2.2.J.jobs 1).1.Start=5:=by
 refine ⟨?_,?_,?_,?_⟩<;>kernel_rfl
theorem vAwakeS {u:Unit} {k:Unit→Bool × Unit→Prop} (h:oYes u k):V.vAwakeS u k:=by
 have h:k () (true,()):=h
 obtain ⟨a1,a2,a3,a4⟩:=awake13
 have s0:=new_stb (n:=2) (by decide) (by decide)
 have s1:=(whole_do s0 ⟨1,0,0,2,10,0,false,0,0⟩).2.2.2.2
 have s2:=(whole_commit s1 ⟨1,5⟩).2.2.2.1
 have s3:=(whole_do s2 ⟨9,0,0,0,0,0,false,0,5⟩).2.2.2.2
 refine ⟨fun hn=>by omega,fun _=>⟨⟨_,_,s0⟩,⟨_,_,s1⟩,⟨_,_,s2⟩,s3.cw.1,br_bool (fun _=>br_eq (fun _=>br_eq (fun _=>?_) (fun hh=>absurd a3 hh)) (fun hh=>absurd a2 hh)) (fun hh=>?_)⟩⟩
 ·rw [a4];exact h
 ·have hh:(wholeW (newX ⟨1,5⟩) (wholeW (newW ⟨1,0,0,2,10,0,false,0,0⟩) (newCore 2)).2.2).2.1.ok=false:=hh
  rw [a1] at hh;cases hh
theorem vMadeS {n:Int} {l:List Deed} {k:Unit→Option Sched × Unit→Prop} (h:oMadeS (n,l,()) k):V.vMadeS n l k:=by
 obtain ⟨hk1,hk2⟩:=h
 unfold V.vMadeS
 simp only [tk_eq,tkset,Nat.zero_add,Nat.le_refl,true_and,and_true,List.length_set]
 refine ⟨hk1,fun hn=>?_⟩
 obtain ⟨n1,n2⟩:=hn
 have hk:k () (some ⟨madeS n l⟩,()):=hk2 ⟨n1,n2⟩
 unfold madeS at hk
 have hs:=new_stb (n:=n.toNat) (by omega) (by omega)
 rw [Int.toNat_of_nonneg (by omega)] at hs
 have ht:=List.length_take_le 60 l
 generalize List.take 60 l=L at*
 refine ⟨fun x=>x.1=L∧OkS x.2.1∧0≤x.2.2∧x.2.2≤L.length∧x.2.1=(L.take x.2.2.toNat).foldl deedS (newCore n),fun x=>(L.length-x.2.2).toNat,(L,newCore n,0),⟨rfl,⟨_,_,hs⟩,Int.le_refl _,by simp,by simp⟩,by simp,?_⟩
 rintro ⟨L',d,i⟩ ⟨g1,g2,g3,g4,g5⟩
 simp only [] at g1 g2 g3 g4 g5
 subst g1
 obtain ⟨i,rfl⟩:=Int.eq_ofNat_of_zero_le g3
 simp only [Int.toNat_natCast] at g5 ⊢
 refine br_dec (fun hi=>⟨⟨g3,hi⟩,fun e he=>?_⟩) (fun hi=>?_)
 ·have nx: ∀d2,d2=deedS d e→ ∀q,q=IntKind.i64.wrap ((i:Int)+1)→ ∃y:List Deed × Core × Int,(y.1=L'∧OkS y.2.1∧0≤y.2.2∧y.2.2≤L'.length∧y.2.1=(L'.take y.2.2.toNat).foldl deedS (newCore n))∧((L'=y.1∧q=y.2.2)∧Sched.mk d2=Sched.mk y.2.1)∧(L'.length-y.2.2).toNat<(L'.length-(i:Int)).toNat:=by
   intro d2 hd2 q hq
   rw [w64 (by omega)] at hq
   subst hq hd2
   obtain ⟨n',m',g2⟩:=g2
   refine ⟨(L',deedS d e,i+1),⟨rfl,⟨_,_,deedS_stb g2 e⟩,by simp only [];omega,by simp only [];omega,?_⟩,by simp,by simp only [];omega⟩
   have:((i:Int)+1).toNat=i+1:=by omega
   simp only [this]
   rw [List.take_add_one,he,List.foldl_append,←g5]
   rfl
  refine br_bool (fun hb=>⟨⟨g3,hi⟩,fun e1 he1=>?_⟩) (fun hb=>⟨⟨g3,hi⟩,fun e1 he1=>?_⟩)<;>(rw [he] at he1;cases he1)
  ·exact ⟨g2,nx _ (by unfold deedS comS;rw [if_pos hb])⟩
  ·exact ⟨g2,nx _ (by unfold deedS;rw [if_neg (by rw [hb];decide)])⟩
 ·rw [List.take_of_length_le (by omega)] at g5
  rw [g5];exact hk
theorem vSeqPlays {n:Int} {l:List Deed} {k:Unit→Bool × Unit→Prop} (h:oPlays (n,l,()) k):V.vSeqPlays n l k:=by
 have hk:k () (true,()):=h
 unfold V.vSeqPlays
 simp only [tk_eq,tkset,Nat.zero_add,Nat.le_refl,true_and,and_true,List.length_set]
 refine ⟨fun hn=>br_dec (fun _=>hk) (fun h1=>br_dec (fun _=>hk) (fun h2=>by omega)),fun hn=>br_dec (fun _=>by omega) (fun h1=>br_dec (fun _=>by omega) (fun h2=>⟨⟨by omega,by omega⟩,?_⟩))⟩
 obtain ⟨N,rfl⟩:=Int.eq_ofNat_of_zero_le (show 0≤n by omega)
 have hs:=new_stb (n:=N) (by omega) (by omega)
 have hll:=List.length_take_le 60 l
 generalize List.take 60 l=L at*
 refine ⟨fun x=>x.1=L∧Stb N x.2.1 x.2.2.1∧0≤x.2.2.2∧x.2.2.2≤L.length,fun x=>(L.length-x.2.2.2).toNat,(L,newCore N,newM N,0),⟨rfl,hs,Int.le_refl _,by simp⟩,by simp,?_⟩
 rintro ⟨L',c,m,i⟩ ⟨g1,g2,g3,g4⟩
 simp only [] at g1 g2 g3 g4
 subst g1
 dsimp only
 refine br_dec (fun hi=>⟨⟨g3,hi⟩,fun e he=>?_⟩) (fun _=>⟨⟨N,g2⟩,hk⟩)
 have nx: ∀c2 m2,Stb N c2 m2→ ∀q,q=IntKind.i64.wrap (i+1)→ ∃y:List Deed × Core × Model × Int,(y.1=L'∧Stb N y.2.1 y.2.2.1∧0≤y.2.2.2∧y.2.2.2≤L'.length)∧((L'=y.1∧q=y.2.2.2)∧Sched.mk c2=Sched.mk y.2.1∧m2=y.2.2.1)∧(L'.length-y.2.2.2).toNat<(L'.length-i).toNat:=by
  intro c2 m2 h2 q hq
  rw [w64 (by omega)] at hq
  subst hq
  exact ⟨(L',c2,m2,i+1),⟨rfl,h2,by simp only [];omega,by simp only [];omega⟩,by simp,by simp only [];omega⟩
 have hok:OkS c:=⟨_,_,g2⟩
 have hd:=doS_stb g2 e.R
 have hx:=comS_stb g2 e.X
 refine br_bool (fun hb=>⟨hok,g2.mw,br_not (fun hh=>?_) (fun _=>nx _ _ hx.2)⟩) (fun hb=>?_)
 ·have e1:(wholeW (newX e.X) c).2.1.ok=(commitM m e.X).1:=hx.1
  rw [e1] at hh;simp at hh
 ·refine br_dec (fun h1=>br_dec (fun h2=>?_) (fun h2=>?_)) (fun h1=>?_)
  ·have hi1:isK e.R.Kind=true:=by unfold isK;simp;omega
   have hm:doSM m e.R=doM m e.R:=by unfold doSM;rw [if_pos hi1]
   rw [hm] at hd
   refine ⟨g2.mw,hok,br_not (fun hh=>?_) (fun _=>nx _ _ hd.2)⟩
   rw [hd.1] at hh;simp at hh
  all_goals
   have hi1:isK e.R.Kind=false:=by unfold isK;simp;omega
   have hm:doSM m e.R=(failR 4,m):=by unfold doSM;rw [if_neg (by rw [hi1];decide)]
   rw [hm] at hd
   refine ⟨hok,br_not (fun hh=>?_) (fun _=>nx _ _ hd.2)⟩
   rw [hd.1] at hh;simp [failR,reply0] at hh
theorem vExc {d:Deed} {j:Job} {a b:List Job} {k:Unit→Bool × Unit→Prop} (h:oExc (d,j,a,b,()) k):V.vExc d j a b k:=by
 obtain ⟨⟨ha,hb⟩,hk⟩:=h
 have ha:a.length≤1099511627776:=ha
 have hb:b.length≤1099511627776:=hb
 have hk:k () (excused d j a b,()):=hk
 unfold excused at hk
 unfold V.vExc
 simp only [and_true]
 refine br_bool (fun h1=>?_) (fun h1=>br_eq (fun h2=>?_) (fun h2=>br_eq (fun h3=>?_) (fun h3=>br_eq (fun h4=>?_) (fun h4=>br_eq (fun h5=>?_) (fun h5=>br_eq (fun h6=>?_) (fun h6=>?_))))))
 ·rw [if_pos h1] at hk;exact hk
 all_goals rw [if_neg (by rw [h1];decide)] at hk
 ·rw [if_pos (.inl h2)] at hk;rw [show (d.R.Id==j.Id)=decide (d.R.Id=j.Id) by rw [Bool.eq_iff_iff];simp];exact hk
 ·rw [if_pos (.inr h3)] at hk;rw [show (d.R.Id==j.Id)=decide (d.R.Id=j.Id) by rw [Bool.eq_iff_iff];simp];exact hk
 all_goals rw [if_neg (by omega)] at hk
 ·rw [if_pos h4] at hk;exact hk
 all_goals rw [if_neg h4] at hk
 ·rw [if_pos h5] at hk
  refine br_dec (fun h7 q hq=>?_) (fun h7=>?_)
  ·rw [w64 (by omega)] at hq
   subst hq
   refine ⟨by omega,fun e he=>?_⟩
   rw [show ((b.length:Int)-1).toNat=b.length-1 by omega] at he
   rw [he,decide_eq_true (by omega),Bool.true_and] at hk
   exact hk
  ·rw [decide_eq_false (by omega),Bool.false_and] at hk;exact hk
 all_goals rw [if_neg h5] at hk
 ·rw [if_pos h6] at hk
  refine br_dec (fun h7=>br_dec (fun h8 q hq=>?_) (fun h8=>?_)) (fun h7=>?_)
  ·rw [w64 (by omega)] at hq
   subst hq
   refine ⟨by omega,fun e he=>?_⟩
   rw [he,decide_eq_true (by omega),decide_eq_true (by omega),Bool.true_and,Bool.true_and] at hk
   exact hk
  ·rw [decide_eq_true (by omega),decide_eq_false (by omega),Bool.true_and,Bool.false_and] at hk;exact hk
  ·rw [decide_eq_false (by omega),Bool.false_and] at hk;exact hk
 ·rw [if_neg h6] at hk;exact hk
theorem vSeqRef {n:Int} {l:List Deed} {d:Deed} {k:Unit→Bool × Unit→Prop} (h:oSeqD (n,l,d,()) k):V.vSeqRef n l d k:=by
 have hk:k () (true,()):=h
 unfold V.vSeqRef
 simp only [tk_eq,List.drop_zero,List.take_length,tkset,Nat.zero_add,Nat.le_refl,true_and,and_true,List.length_set]
 refine ⟨fun _=>hk,fun hn=>?_⟩
 have hs:=madeS_stb hn.1 hn.2 l
 generalize madeS n l=c at*
 generalize madeSM n l=m at*
 have hc:=hs.cw
 have hok:OkS c:=⟨_,_,hs⟩
 have hx:=comS_stb hs d.X
 have hd:=doS_stb hs d.R
 refine ⟨hc.1,hc.2.2,hc.2.1,hc.2.1,br_bool (fun hb=>⟨hok,br_bool (fun _=>hk) (fun h0=>?_)⟩) (fun hb=>⟨hok,br_eq (fun _=>hk) (fun h0=>br_not (fun hh=>?_) (fun _=>?_))⟩)⟩
 ·have e1:(commitM m d.X).1=false:=hx.1.symm.trans h0
  have hs2:=hx.2
  rw [commitM_refuses m d.X e1] at hs2
  have hs2:Stb n.toNat (wholeW (newX d.X) c).2.2 m:=hs2
  generalize (wholeW (newX d.X) c).2.2=c2 at*
  obtain ⟨e1,e2,e3,e4⟩:=hs.same hs2
  have hc2:=hs2.cw
  have hl2:=hs2.len
  have hj2:=hc2.1.2.1
  refine ⟨hc2.1,by omega,br_bool (fun _=>⟨hc2.2.2,by omega,br_bool (fun _=>⟨hc2.2.1,br_eq (fun _=>⟨hc2.2.1,br_eq (fun _=>br_bool (fun _=>hk) (fun hh=>?_)) (fun hh=>?_)⟩) (fun hh=>?_)⟩) (fun hh=>?_)⟩) (fun hh=>?_)⟩
  ·have e5:closedC (some c2)=closedC (some c):=e4
   rw [e5] at hh;simp at hh
  ·exact absurd (by rw [e3]) hh
  ·exact absurd (by rw [e3]) hh
  ·rw [e2,sameS_iff.2 rfl] at hh;cases hh
  ·rw [e1,sameJ_iff.2 rfl] at hh;cases hh
 ·rw [hd.1] at h0 hh
  rw [doSM_refuses m d.R h0] at hh
  simp [failR,reply0] at hh
 ·rw [hd.1] at h0
  have hs2:=hd.2
  rw [doSM_refuses m d.R h0] at hs2
  have hs2:Stb n.toNat (doS c d.R).2 m:=hs2
  generalize (doS c d.R).2=c2 at*
  obtain ⟨e1,e2,e3,e4⟩:=hs.same hs2
  have hc2:=hs2.cw
  have hl2:=hs2.len
  have hj2:=hc2.1.2.1
  refine ⟨hc2.1,by omega,br_bool (fun _=>⟨hc2.2.2,by omega,br_bool (fun _=>⟨hc2.2.1,br_eq (fun _=>⟨hc2.2.1,br_eq (fun _=>br_bool (fun _=>hk) (fun hh=>?_)) (fun hh=>?_)⟩) (fun hh=>?_)⟩) (fun hh=>?_)⟩) (fun hh=>?_)⟩
  ·have e5:closedC (some c2)=closedC (some c):=e4
   rw [e5] at hh;simp at hh
  ·exact absurd (by rw [e3]) hh
  ·exact absurd (by rw [e3]) hh
  ·rw [e2,sameS_iff.2 rfl] at hh;cases hh
  ·rw [e1,sameJ_iff.2 rfl] at hh;cases hh
end Go.Ax.O
