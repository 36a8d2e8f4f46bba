import Derived.Test.YtnoinchifbckcaaGreatDoorAxG
import Derived.IntWalk
import Derived.Lib.TrailingZeros
import Derived.Lib.Overlaps
import Derived.Shelf.Spec.TrailingZeros
import Derived.Lib.LaidTab
import Derived.KernelRfl
set_option linter.all false
namespace Go.Ax
theorem br_dec {p:Prop} [Decidable p] {A B:Prop} (h1:p→A) (h2: ¬ p→B):br (decide p) A B:=by
  by_cases h:p
  · simp only [h,decide_true,br];exact h1 h
  · simp only [h,decide_false,br];exact h2 h
theorem br_bool {b:Bool} {A B:Prop} (h1:b=true→A) (h2:b=false→B):br b A B:=by
  cases b with
  |true=>exact h1 rfl
  |false=>exact h2 rfl
theorem br_not {b:Bool} {A B:Prop} (h1:b=false→A) (h2:b=true→B):br (!b) A B:=by
  cases b with
  |true=>exact h2 rfl
  |false=>exact h1 rfl
theorem w64 {n:Int} (h: -9223372036854775808≤n∧n≤9223372036854775807):IntKind.i64.wrap n=n:=IntWalk.i64_in n h
namespace Law
def keyIs {α:Type} (key:α→Int) (c:Int) (x:α):Bool:=decide (key x=c)
def SortedSeg {α:Type} (key:α→Int) (xs ys:List α) (a b:Int):Prop:=
  ys.length=xs.length∧(∀i:Nat,((i:Int)<a∨b≤i)→ys[i]? =xs[i]?)∧
  (∀(i j:Nat) (x y:α),a≤i→i<j→(j:Int)<b→ys[i]? =some x→ys[j]? =some y→key x≤key y)∧
  ∀c,ys.filter (keyIs key c)=xs.filter (keyIs key c)
theorem swap_split {α:Type} {ys:List α} {j:Nat} {u v:α} (h1:ys[j]? =some u) (h2:ys[j+1]? =some v):
    ∃p s,ys=p++u::v::s∧p.length=j∧(ys.set (j+1) u).set j v=p++v::u::s:=by
  have hlt:=(List.getElem?_eq_some_iff.1 h2).1
  refine ⟨ys.take j,ys.drop (j+2),?_,by simp;omega,?_⟩
  · have e1:ys.drop j=u::ys.drop (j+1):=by
      rw [List.drop_eq_getElem_cons (by omega)]
      rw [(List.getElem?_eq_some_iff.1 h1).2]
    have e2:ys.drop (j+1)=v::ys.drop (j+2):=by
      rw [List.drop_eq_getElem_cons hlt]
      rw [(List.getElem?_eq_some_iff.1 h2).2]
    rw [←e2,←e1,List.take_append_drop]
  · apply List.ext_getElem?
    intro i
    simp only [List.getElem?_set,List.getElem?_append,List.length_take,List.length_set]
    have hm:min j ys.length=j:=by omega
    rw [hm]
    by_cases hi:i<j
    · rw [if_neg (by omega),if_neg (by omega),if_pos hi,List.getElem?_take_of_lt hi]
    · by_cases hj:i=j
      · subst hj;simp;omega
      · by_cases hk:i=j+1
        · subst hk
          rw [if_neg (by omega),if_pos rfl,if_pos hlt,if_neg (by omega)]
          simp
        · rw [if_neg (by omega),if_neg (by omega),if_neg hi]
          obtain ⟨d,rfl⟩:=Nat.exists_eq_add_of_lt (show j+1<i by omega)
          rw [show j+1+d+1-j=d+2 by omega]
          simp [show j+1+d+1=j+2+d by omega]
theorem filter_swap {α:Type} {key:α→Int} {u v:α} (hne:key u≠key v) (p s:List α) (c:Int):
    (p++v::u::s).filter (keyIs key c)=(p++u::v::s).filter (keyIs key c):=by
  simp only [List.filter_append,List.filter_cons,keyIs]
  congr 1
  by_cases h1:key u=c<;>by_cases h2:key v=c
  · omega
  · simp [h1,h2]
  · simp [h1,h2]
  · simp [h1,h2]
def Sinks {α:Type} (key:α→Int) (xs ys:List α) (a i j:Nat):Prop:=
  a≤j∧j≤i∧i<ys.length∧ys.length=xs.length∧(∀p:Nat,(p<a∨i<p)→ys[p]? =xs[p]?)∧
  (∀(p q:Nat) (x y:α),a≤p→p<q→q≤i→q≠j→ys[p]? =some x→ys[q]? =some y→key x≤key y)∧
  ∀c,ys.filter (keyIs key c)=xs.filter (keyIs key c)
theorem Sinks.start {α:Type} {key:α→Int} {xs ys:List α} {a i:Nat} (h:SortedSeg key xs ys a i) (hai:a<i) (hi:i<ys.length):Sinks key xs ys a i i:=by
  obtain ⟨h1,h2,h3,h4⟩:=h
  exact ⟨by omega,Nat.le_refl _,hi,h1,fun p hp=>h2 p (by omega),fun p q x y hp hq hqi hne hx hy=>h3 p q x y (by omega) hq (by omega) hx hy,h4⟩
theorem Sinks.stop {α:Type} {key:α→Int} {xs ys:List α} {a i j:Nat} (h:Sinks key xs ys a i j) (hj:j=a∨ ∀u v,1≤j→ys[j-1]? =some u→ys[j]? =some v→key u≤key v):SortedSeg key xs ys a ((i:Int)+1):=by
  obtain ⟨h1,h2,h3,h4,h5,h6,h7⟩:=h
  refine ⟨h4,fun p hp=>h5 p (by omega),fun p q x y hp hpq hq hx hy=>?_,h7⟩
  by_cases hqj:q=j
  · subst hqj
    rcases hj with hj |hj
    · omega
    · have hlt:q-1<ys.length:=by omega
      have e:ys[q-1]? =some ys[q-1]:=List.getElem?_eq_getElem hlt
      have l1:=hj _ _ (by omega) e hy
      by_cases hpe:p=q-1
      · subst hpe;rw [hx] at e;cases e;exact l1
      · have:=h6 p (q-1) x _ (by omega) (by omega) (by omega) (by omega) hx e
        omega
  · exact h6 p q x y (by omega) hpq (by omega) hqj hx hy
theorem Sinks.step {α:Type} {key:α→Int} {xs ys:List α} {a i j:Nat} {u v:α} (h:Sinks key xs ys a i (j+1)) (ha:a≤j) (hu:ys[j]? =some u) (hv:ys[j+1]? =some v) (hlt:key v<key u):
    Sinks key xs ((ys.set (j+1) u).set j v) a i j:=by
  obtain ⟨h1,h2,h3,h4,h5,h6,h7⟩:=h
  obtain ⟨p,s,e1,e2,e3⟩:=swap_split hu hv
  have hget: ∀q:Nat,((ys.set (j+1) u).set j v)[q]? =if q=j then some v else if q=j+1 then some u else ys[q]? :=by
    intro q
    have l1:j+1<ys.length:=by omega
    simp only [List.getElem?_set,List.length_set]
    by_cases hq:q=j
    · rw [if_pos hq.symm,if_pos (by omega),if_pos hq]
    · rw [if_neg (fun h=>hq h.symm),if_neg hq]
      by_cases hq2:q=j+1
      · rw [if_pos hq2.symm,if_pos l1,if_pos hq2]
      · rw [if_neg (fun h=>hq2 h.symm),if_neg hq2]
  refine ⟨ha,by omega,by simpa using h3,by simpa using h4,fun q hq=>?_,fun p q x y hp hpq hqi hne hx hy=>?_,fun c=>?_⟩
  · rw [hget,if_neg (by omega),if_neg (by omega)]
    exact h5 q hq
  · rw [hget] at hx hy
    rw [if_neg hne] at hy
    by_cases hq1:q=j+1
    · rw [if_pos hq1] at hy
      cases hy
      by_cases hpj:p=j
      · rw [if_pos hpj] at hx;cases hx;omega
      · rw [if_neg hpj,if_neg (by omega)] at hx
        exact h6 p j x u hp (by omega) (by omega) (by omega) hx hu
    · rw [if_neg hq1] at hy
      by_cases hpj:p=j
      · rw [if_pos hpj] at hx;cases hx
        exact h6 (j+1) q v y (by omega) (by omega) hqi (by omega) hv hy
      · rw [if_neg hpj] at hx
        by_cases hp1:p=j+1
        · rw [if_pos hp1] at hx;cases hx
          exact h6 j q u y (by omega) (by omega) hqi (by omega) hu hy
        · rw [if_neg hp1] at hx
          exact h6 p q x y hp hpq hqi (by omega) hx hy
  · rw [e3,filter_swap (by omega),←e1]
    exact h7 c
theorem SortedSeg.refl {α:Type} {key:α→Int} {xs:List α} {a b:Int} (h:b≤a+1):SortedSeg key xs xs a b:=
  ⟨rfl,fun _ _=>rfl,fun i j x y h1 h2 h3 _ _=>by omega,fun _=>rfl⟩
end Law
end Go.Ax
namespace Go.Ax.Law
def U64 (x:Int):Prop:=0≤x∧x<18446744073709551616
abbrev wr (n:Int):Int:=IntKind.i64.wrap n
def hasB (x n:Int):Bool:=decide (0≤n)&&decide (n<64)&&x.toNat.testBit n.toNat
def withS (x n:Int):Int:=if n<0∨64≤n then x else ((x.toNat|||2^n.toNat:Nat):Int)
def minusS (x y:Int):Int:=((x.toNat ^^^ (x.toNat&&&y.toNat):Nat):Int)
def unionS (x y:Int):Int:=((x.toNat|||y.toNat:Nat):Int)
def withoutS (x n:Int):Int:=if n<0∨64≤n then x else minusS x ((2^n.toNat:Nat):Int)
def setOf (l:List Int):Int:=l.foldl withS 0
def lowS (x:Int):Int:=if x=0 then-1 else (Lib.ctz 64 x.toNat:Nat)
def allS (n:Int):Int:=if n≤0 then 0 else if 64≤n then 18446744073709551615 else ((2^n.toNat-1:Nat):Int)
def popN (x:Nat):Nat→Nat
 |0=>0
 |n+1=>popN x n+(if x.testBit n then 1 else 0)
def lenS (x:Int):Int:=(popN x.toNat 64:Nat)
def firstN:Nat→Int→Int→Int
 |0,out,_=>out
 |n+1,out,s=>firstN n (withS out (lowS s)) (withoutS s (lowS s))
def firstS (s n:Int):Int × Bool:=if n<0∨lenS s<n then (0,false) else (firstN n.toNat 0 s,true)
def nowL:List Step→Int
 | []=>0
 |s::_=>s.At
def idxL (l:List Step) (t:Int):Nat:=(l.countP fun s=>decide (s.At≤t))-1
def freeL (l:List Step) (t:Int):Int:=match l[idxL l t]? with |some s=>s.Free |none=>0
def partL (l:List Step) (from_ to:Int):List Step:=(l.drop (idxL l from_)).takeWhile fun s=>decide (s.At<to)
def leastL (l:List Step) (from_ to:Int):Int:=
 if to≤max from_ (nowL l) then 64 else (partL l (max from_ (nowL l)) to).foldl (fun n s=>min n s.Free) 64
def mostL (l:List Step) (from_ to:Int):Int:=(partL l from_ to).foldl (fun n s=>max n s.Free) 0
def splitL (l:List Step) (t:Int):List Step:=match l[idxL l t]? with
 |some s=>if s.At=t then l else l.take (idxL l t+1)++⟨t,s.Free⟩::l.drop (idxL l t+1)
 |none=>l
def splitAt (l:List Step) (t:Int):Nat:=match l[idxL l t]? with
 |some s=>if s.At=t then idxL l t else idxL l t+1
 |none=>0
def bumpL (l:List Step) (i k:Nat) (n:Int):List Step:=l.take i++(((l.drop i).take (k-i)).map fun s=>⟨s.At,wr (s.Free+n)⟩)++l.drop k
def keepL:Step→List Step→List Step
 |_,[]=>[]
 |a,b::r=>if b.Free=a.Free then keepL b r else b::keepL b r
def joinL:List Step→List Step
 | []=>[]
 |s::r=>s::keepL s r
theorem keep_congr {a b:Step} (h:a.Free=b.Free): ∀(l:List Step),keepL a l=keepL b l
 | []=>rfl
 |c::r=>by simp only [keepL,h]
theorem joinL_one (s:Step):joinL [s]=[s]:=rfl
theorem joinL_two (s t:Step) (r:List Step):joinL (s::t::r)=if t.Free=s.Free then joinL (s::r) else s::joinL (t::r):=by
 simp only [joinL,keepL]
 split
 ·rename_i h;rw [keep_congr h]
 ·rfl
def addL (l:List Step) (from_ to n:Int):List Step:=
 let i:=splitAt l from_
 let l1:=splitL l from_
 if to<1152921504606846976 then joinL (bumpL (splitL l1 to) i (splitAt l1 to) n) else joinL (bumpL l1 i l1.length n)
def addP (p:Prof) (from_ to n:Int):Int × Prof:=
 if to≤from_∨1152921504606846976<to∨n< -64∨64<n then (1,p)
 else if to≤max from_ (nowL p.steps)∨n=0 then (0,p)
 else if n<0∧leastL p.steps (max from_ (nowL p.steps)) to< -n∨0<n∧64-n<mostL p.steps (max from_ (nowL p.steps)) to then (5,p)
 else (0,⟨addL p.steps (max from_ (nowL p.steps)) to n,wr (p.ver+1)⟩)
def advP (p:Prof) (t:Int):Int × Prof:=
 if t<nowL p.steps∨1099511627776<t then (5,p) else if t=nowL p.steps then (0,p)
 else (0,⟨match p.steps.drop (idxL p.steps t) with |s::r=>⟨t,s.Free⟩::r | []=>[],wr (p.ver+1)⟩)
def job0:Job:=⟨0,0,0,0,0,0,0,0,0,0⟩
def getJ (l:List Job) (id:Int):Job × Int:=if id<1∨(l.length:Int)<id then (job0,7) else match l[(id-1).toNat]? with |some j=>(j,0) |none=>(job0,7)
def inJ (l:List Job) (st:List Int):List Job:=l.filter fun j=>st.contains j.State
def atJ (l:List Job) (id:Int) (st:List Int) (f:Job→Job):Int × List Job:=
 if id<1∨(l.length:Int)<id then (7,l) else match l[(id-1).toNat]? with
 |some j=>if st.contains j.State then (0,l.set (id-1).toNat (f j)) else (8,l)
 |none=>(7,l)
def rightR (r:Req):Int:=
 if r.User<0∨255<r.User∨r.Prio<0∨1000<r.Prio then 1 else if r.Width<1∨64<r.Width then 9 else if r.Limit<1∨1048576<r.Limit then 10 else 0
def newJ (l:List Job) (r:Req):Job:=⟨(l.length:Int)+1,r.User,r.Width,r.Limit,r.Prio,if r.Held then 2 else 1,-1,-1,-1,0⟩
def submitJ (t:Jobs) (r:Req):(Int × Int) × Jobs:=
 if rightR r≠0 then ((0,rightR r),t) else if 64≤t.live∨1024≤t.jobs.length then ((0,6),t)
 else (((t.jobs.length:Int)+1,0),⟨t.jobs++[newJ t.jobs r],wr (t.live+1),t.made⟩)
def holdJ (t:Jobs) (id:Int):Int × Jobs:=let r:=atJ t.jobs id [1] fun j=>{j with State:=2,Plan:= -1};(r.1,{t with jobs:=r.2})
def freeJ (t:Jobs) (id:Int):Int × Jobs:=let r:=atJ t.jobs id [2] fun j=>{j with State:=1};(r.1,{t with jobs:=r.2})
def planJ (t:Jobs) (id at_:Int):Int × Jobs:=
 if at_< -1∨1099511627776<at_ then (10,t) else let r:=atJ t.jobs id [1] fun j=>{j with Plan:=at_};(r.1,{t with jobs:=r.2})
def beginJ (t:Jobs) (id at_ nodes:Int):Int × Jobs:=
 if at_<0∨1099511627776<at_ then (10,t) else let r:=atJ t.jobs id [1] fun j=>{j with State:=3,Start:=at_,End:=wr (at_+j.Limit),Plan:= -1,Nodes:=nodes};(r.1,{t with jobs:=r.2})
def finishJ (t:Jobs) (id st at_:Int):Int × Jobs:=
 if st<4∨6<st then (1,t) else if at_<0∨2199023255552<at_ then (10,t)
 else let r:=atJ t.jobs id (if st=5 then [3,1,2] else [3]) fun j=>{j with End:=if j.State=3 then at_ else j.End,State:=st,Plan:= -1}
  if r.1=0 then (0,{t with jobs:=r.2,live:=wr (t.live-1)}) else (r.1,t)
def cntJ (l:List Job) (st:Int):Int:=((inJ l [st]).length:Nat)
def cmpI (a b:Int):Int:=if a<b then-1 else if a>b then 1 else 0
def cmpJ (a b:Job):Int:=if cmpI b.Prio a.Prio≠0 then cmpI b.Prio a.Prio else cmpI a.Id b.Id
def lessJ (a b:Job):Bool:=decide (cmpJ a b<0)
def keyJ (j:Job):Int:=j.Id-j.Prio*36893488147419103232
def sortJ (l:List Job):List Job:=l.mergeSort fun a b=>decide (keyJ a≤keyJ b)
def idleN (t:Nodes):Int:=minusS (minusS t.all t.used) t.drain
def stateN (t:Nodes) (n:Int):Int:=
 if hasB t.all n=false then 0 else if hasB t.used n then (if hasB t.drain n then 3 else 2) else if hasB t.drain n then 4 else 1
def takeN (t:Nodes) (n:Int):(Int × Int) × Nodes:=
 if n<1 then ((0,1),t) else if (firstS (idleN t) n).2=false then ((0,6),t) else (((firstS (idleN t) n).1,0),{t with used:=unionS t.used (firstS (idleN t) n).1})
def giveN (t:Nodes) (s:Int):(Int × Int) × Nodes:=
 if minusS s t.used≠0 then ((0,11),t) else ((lenS (minusS s t.drain),0),{t with used:=minusS t.used s})
def drainN (t:Nodes) (n:Int):Int × Nodes:=
 if hasB t.all n=false then (11,t) else if hasB t.drain n then (8,t) else (0,{t with drain:=withS t.drain n})
def resumeN (t:Nodes) (n:Int):Int × Nodes:=
 if hasB t.all n=false then (11,t) else if hasB t.drain n=false then (8,t) else (0,{t with drain:=withoutS t.drain n})
def req0:Req:=⟨0,0,0,0,0,0,false,0,0⟩
def reply0:Reply:=⟨0,0,0,0,0,0,0,0,0⟩
def failR (e:Int):Reply:={reply0 with Err:=e}
def tellR (j:Job):Reply:=⟨0,j.Id,j.State,j.Start,j.End,j.Plan,j.Width,j.Prio,0⟩
def threeR (a b c:Int):Reply:={reply0 with A:=a,B:=b,C:=c}
def cleanR (r:Req):Req:=
 let o:={req0 with Kind:=r.Kind}
 if r.Kind=1 then {o with User:=r.User,Width:=r.Width,Limit:=r.Limit,Prio:=r.Prio,Held:=r.Held}
 else if r.Kind=2∨r.Kind=3∨r.Kind=4∨r.Kind=5∨r.Kind=6 then {o with Id:=r.Id}
 else if r.Kind=7∨r.Kind=8 then {o with Node:=r.Node}
 else if r.Kind=9 then {o with By:=r.By} else o
def span0:Span:=⟨0,0,0⟩
def planS (j:Job):Span × Bool:=if j.State≠1∨j.Plan<0 then (span0,false) else (⟨j.Plan,wr (j.Plan+j.Limit),j.Width⟩,true)
def spansC (l:List Job):List Span:=(inJ l [1]).filterMap fun j=>if (planS j).2 then some (planS j).1 else none
def holderJ (l:List Job) (n:Int):Job:=match (inJ l [3]).find? fun j=>hasB j.Nodes n with |some j=>j |none=>job0
def nowC (c:Core):Int:=nowL c.P.steps
def toldC (c:Core) (id:Int):Reply:=if (getJ c.J.jobs id).2=0 then tellR (getJ c.J.jobs id).1 else failR (getJ c.J.jobs id).2
def wantsC (c:Core) (r:Req):Int:=if r.Kind=1∧lenS c.N.all<r.Width∧r.Width≤64∧0≤r.User∧r.User≤255∧0≤r.Prio∧r.Prio≤1000 then 9 else 0
def addC (c:Core) (from_ to n:Int):Core:={c with P:=(addP c.P from_ to n).2}
def releaseC (c:Core) (s:Span):Core:=addC c s.From s.To s.Width
def setPlanC (c:Core) (id at_:Int):Core:={c with J:=(planJ c.J id at_).2}
def untilC (c:Core) (n:Int):Int:=if (holderJ c.J.jobs n).Id≠0 then max (holderJ c.J.jobs n).End (wr (nowC c+1)) else nowC c
def nextC (c:Core):Int:=(spansC c.J.jobs).foldl (fun t s=>min t s.From) ((inJ c.J.jobs [3]).foldl (fun t j=>min t j.End) 1152921504606846976)
def timeout1 (c:Core) (j:Job):Core:=
 if j.End≤nowC c then {c with J:=(finishJ c.J j.Id 6 j.End).2,N:=(giveN c.N j.Nodes).2} else c
def timeoutsC (c:Core):Core:=(inJ c.J.jobs [3]).foldl timeout1 c
def beginC (c:Core) (j:Job):Core:=
 if (takeN c.N j.Width).1.2=0 then {c with J:=(beginJ c.J j.Id (nowC c) (takeN c.N j.Width).1.1).2,N:=(takeN c.N j.Width).2} else c
def begin1 (c:Core) (j:Job):Core:=if 0≤j.Plan∧j.Plan≤nowC c then beginC c j else c
def beginsC (c:Core):Core:=(sortJ (inJ c.J.jobs [1])).foldl begin1 c
def fitsC (c:Core) (x:Choice):Bool:=
 let j:=(getJ c.J.jobs x.Id).1
 if c.closed then false else if (getJ c.J.jobs x.Id).2≠0∨j.State≠1∨x.At<nowC c∨1099511627776<x.At∨(0≤j.Plan∧j.Plan≤x.At) then false
 else decide (j.Width≤leastL (if (planS j).2 then (addP c.P (planS j).1.From (planS j).1.To (planS j).1.Width).2 else c.P).steps x.At (wr (x.At+j.Limit)))
def advC (c:Core) (t:Int):Core:={c with P:=(advP c.P t).2}
def work0:Work:=⟨req0,⟨0,0⟩,false,reply0,0,false,false,job0,0,0⟩
def newW (r:Req):Work:={work0 with req:=cleanR r}
def newX (x:Choice):Work:={work0 with choice:=x,commit:=true}
def endW (w:Work) (r:Reply):Work:={w with reply:=r,done:=true}
def failW (w:Work) (e:Int):Work:=endW w (failR e)
def dropAt (w:Work) (j:Job):Bool:=(planS j).2&&(decide (w.job.Id=0)||lessJ w.job j)
def dropW (w:Work) (c:Core):Bool × Work × Core:=match (inJ c.J.jobs [1]).find? (dropAt w) with
 |some j=>(true,w,setPlanC (releaseC c (planS j).1) j.Id (-1))
 |none=>(false,{w with done:=decide (w.job.Id≠0)},c)
def unplanC (w:Work) (c:Core):Core:=if (planS w.job).2 then releaseC c (planS w.job).1 else c
def submitW (w:Work) (c:Core):Work × Core:=
 if 0<w.part then (dropW w c).2 else if wantsC c w.req≠0 then (failW w (wantsC c w.req),c)
 else let s:=submitJ c.J w.req
  if s.1.2≠0 then (failW w s.1.2,{c with J:=s.2})
  else let c2:={c with J:=s.2}
   ({w with job:=(getJ c2.J.jobs s.1.1).1,reply:=toldC c2 s.1.1,done:=w.req.Held},c2)
def finishW (w:Work) (c:Core):Work × Core:=
 if w.part=0 then
  let w1:={w with job:=(getJ c.J.jobs w.req.Id).1}
  let f:=finishJ c.J w.req.Id (if w.req.Kind=2 then 5 else 4) (nowC c)
  if f.1≠0 then (failW w1 f.1,{c with J:=f.2}) else ({w1 with reply:=toldC {c with J:=f.2} w.req.Id},{c with J:=f.2})
 else if w.part=1 then
  if w.job.State=3 then ({w with back:=(giveN c.N w.job.Nodes).1.1},{c with N:=(giveN c.N w.job.Nodes).2}) else (w,c)
 else
  let c1:=unplanC w c
  ({w with done:=true},if w.job.State=3∧0<w.back then addC c1 (nowC c1) w.job.End w.back else c1)
def holdW (w:Work) (c:Core):Work × Core:=
 if 0<w.part then ({w with done:=true},unplanC w c) else
  let w1:={w with job:=(getJ c.J.jobs w.req.Id).1}
  let f:=holdJ c.J w.req.Id
  if f.1≠0 then (failW w1 f.1,{c with J:=f.2}) else ({w1 with reply:=toldC {c with J:=f.2} w.req.Id},{c with J:=f.2})
def freeW (w:Work) (c:Core):Work × Core:=
 if 0<w.part then (dropW w c).2 else
  let f:=freeJ c.J w.req.Id
  let c1:={c with J:=f.2}
  if f.1≠0 then (failW w f.1,c1) else ({w with job:=(getJ c1.J.jobs w.req.Id).1,reply:=toldC c1 w.req.Id},c1)
def nodeR (c:Core) (n:Int):Reply:={reply0 with Id:=n,State:=stateN c.N n}
def drainW (w:Work) (c:Core):Work × Core:=
 if w.part=0∧stateN c.N w.req.Node=0 then (failW w 11,c) else if w.part=0∧(stateN c.N w.req.Node=3∨stateN c.N w.req.Node=4) then (failW w 8,c)
 else let d:=dropW w c
  if d.1 then d.2 else
   let c1:={d.2.2 with N:=(drainN d.2.2.N d.2.1.req.Node).2}
   let c2:=addC c1 (untilC c1 d.2.1.req.Node) 1152921504606846976 (-1)
   (endW d.2.1 (nodeR c2 d.2.1.req.Node),c2)
def resumeW (w:Work) (c:Core):Work × Core:=
 let f:=resumeN c.N w.req.Node
 let c1:={c with N:=f.2}
 if f.1≠0 then (failW w f.1,c1) else
  let c2:=addC c1 (untilC c1 w.req.Node) 1152921504606846976 1
  (endW w (nodeR c2 w.req.Node),c2)
def clockR (c:Core):Reply:={reply0 with Start:=nowC c,A:=freeL c.P.steps (nowC c)}
def tickGo (w:Work) (c:Core):Work × Core:=
 if w.to<nextC c then (endW w (clockR (advC c w.to)),advC c w.to)
 else (w,beginsC (timeoutsC (advC c (max (nextC c) (nowC c)))))
def tickW (w:Work) (c:Core):Work × Core:=
 if w.part=0 then
  if w.req.By<1∨wr (1099511627776-nowC c)<w.req.By then (failW w 10,c) else tickGo {w with to:=wr (nowC c+w.req.By)} c
 else tickGo w c
def countW (w:Work) (c:Core):Work × Core:=
 if w.req.Kind=10 then (endW w (threeR (lenS (idleN c.N)) (lenS c.N.used) (lenS (minusS c.N.drain c.N.used))),c)
 else if w.req.Kind=11 then (endW w (threeR (cntJ c.J.jobs 1) (cntJ c.J.jobs 2) (cntJ c.J.jobs 3)),c)
 else if w.req.Kind=12 then (endW w (clockR c),c)
 else if w.req.Kind=13 then (endW w reply0,{c with closed:=true})
 else (failW w 4,c)
def serveW (w:Work) (c:Core):Work × Core:=
 if w.req.Kind=1 then submitW w c else if w.req.Kind=2∨w.req.Kind=5 then finishW w c else if w.req.Kind=3 then holdW w c else if w.req.Kind=4 then freeW w c
 else if w.req.Kind=6 then (endW w (toldC c w.req.Id),c) else if w.req.Kind=7 then drainW w c else if w.req.Kind=8 then resumeW w c else if w.req.Kind=9 then tickW w c
 else countW w c
def settleW (w:Work) (c:Core):Work × Core:=
 if w.part=0 then
  let w1:={w with ok:=fitsC c w.choice}
  if fitsC c w.choice=false then ({w1 with done:=true},c) else ({w1 with job:=(getJ c.J.jobs w.choice.Id).1},c)
 else if w.part=1 then (w,unplanC w c)
 else if w.part=2 then (w,addC c w.choice.At (wr (w.choice.At+w.job.Limit)) (wr (0-w.job.Width)))
 else ({w with done:=true},if w.choice.At=nowC c then beginC c w.job else setPlanC c w.job.Id w.choice.At)
def stepW (w:Work) (c:Core):Work × Core:=
 if w.done then (w,c) else
  let r:=if w.part=0∧c.closed then (failW w 12,c) else if w.commit then settleW w c else serveW w c
  ({r.1 with part:=wr (r.1.part+1)},r.2)
end Go.Ax.Law
namespace Go.Ax
def ovSpec (k:EK):SpecT:=fun args H K=>match args with
 | [.sl l1 e1 b1 n1,.sl l2 e2 b2 n2]=>match H[l1]?,H[l2]? with
  |some (some (.row k1 xs)),some (some (.row k2 ys))=>br (!Nat.beq l1 l2&&Nat.beq e1 k.esz&&Nat.beq k1.num k.num) ((0<n1∧0<n2∧b1+n1≤xs.length)∧K (.bool false) H []) False
  |_,_=>False
 |_=>False
variable [Surr]
theorem ov_spec {P:Program} {f:FuncId} {fn:Func} {tS tR e:TypeId} {k:EK} (hf:P.funcs[f]? =some fn) (hname:(fn.name== "runtime.NumGoroutine")=false) (hb:fn.body.isNone=true) (hn:Extern.findNext fn=none)
  (he:Extern.find fn=some (Extern.SlicesOverlaps.overlaps #[tS,tS] #[tR])) (ht:P.underlying tS=some (.slice e)) (hz:(P.info? e).isSome=true):ExtOK P f (ovSpec k):=by
 intro args H K hk G w ρ Fs vs hH hr
 unfold ovSpec at hk
 split at hk
 ·rename_i l1 e1 b1 n1 l2 e2 b2 n2
  split at hk
  ·rename_i k1 xs k2 ys h1 h2
   obtain ⟨hc,⟨hn1,hn2,hlen⟩,hK⟩:=br_elim hk
   simp only [Bool.and_eq_true,Bool.not_eq_true'] at hc
   have hne:l1≠l2:=fun h=>by subst h;simp at hc
   have hes:=Nat.eq_of_beq_eq_true hc.1.2
   have hkk:=EK.num_inj (Nat.eq_of_beq_eq_true hc.2)
   subst hkk hes
   simp only [RVs] at hr
   obtain ⟨u1,ws,rfl,hr1,u2,ws2,rfl,hr2,rfl⟩:=hr
   simp only [RV] at hr1 hr2
   obtain ⟨t1,ht1,g1,hr1⟩:=hr1
   obtain ⟨t2,ht2,g2,hr2⟩:=hr2
   rcases hr1 with ⟨x1,hx1,rfl⟩ |⟨h,_⟩
   ·rcases hr2 with ⟨x2,hx2,rfl⟩ |⟨h,_⟩
    ·obtain ⟨r1,hrr1,hs1⟩:=hH.sat _ _ h1
     obtain ⟨r2,hrr2,hs2⟩:=hH.sat _ _ h2
     rw [ht1] at hrr1;cases hrr1
     rw [ht2] at hrr2;cases hrr2
     have hne2:x1≠x2:=by
      intro h
      subst h
      refine hne (hH.apart l1 _ l2 _ x1 h1 h2 ?_ ?_)
      ·generalize Fs l1=F at hs1
       cases hs1 with
       |row hb _ _ _ _=>rw [hx1] at hb;cases hb;simp
       |rownil hb _=>rw [hx1] at hb;cases hb
      ·generalize Fs l2=F at hs2
       cases hs2 with
       |row hb _ _ _ _=>rw [hx2] at hb;cases hb;simp
       |rownil hb _=>rw [hx2] at hb;cases hb
     generalize Fs l1=F1 at hs1
     generalize Fs l2=F2 at hs2
     cases hs1 with
     |rownil hb _=>rw [hx1] at hb;cases hb
     | @row _ _ sp1 _ x1' c1 ty1 hb1 hw1 htot1 hcs1 hx1'=>
      rw [hx1] at hb1;cases hb1
      cases hs2 with
      |rownil hb _=>rw [hx2] at hb;cases hb
      | @row _ _ sp2 _ x2' c2 ty2 hb2 hw2 htot2 hcs2 hx2'=>
       rw [hx2] at hb2;cases hb2
       have hsz: ∃i,P.info? e=some i:=Option.isSome_iff_exists.1 hz
       obtain ⟨i,hi⟩:=hsz
       have hk2:c2.size≠0:=by
        have:=Nat.mul_pos (show 0<t2.tot by omega) k2.esz_pos
        omega
       have hrun:=Lib.run_overlaps_apart (P:=P) w tS tR e ht i.size (fun w=>by simp [sizeOf,typeInfo,hi]) ⟨x1,t1.off+b1*k1.esz,none⟩ ⟨x2,t2.off+b2*e2,none⟩ n1 (t1.tot-b1) n2 (t2.tot-b2) hne2 ty1 ty2 c1.size c2.size
        (by simp [World.shape?,hw1]) (by simp [World.shape?,hw2]) hk2 (by simp [World.frozen?,hw1]) (by simp [World.frozen?,hw1])
       refine ⟨.bool false,.bool false,H,[],[],Fs,w,?_,hK,by simp only [RV],by simpa using hH,fun l o hl _=>⟨hl,rfl,fun _ _=>rfl⟩⟩
       rw [run_callFunc_extern hf hname hb hn he]
       show ((Extern.SlicesOverlaps.overlaps #[tS,tS] #[tR] #[_,_]).run P w).andThen _=_
       rw [hrun]
       rfl
    ·omega
   ·omega
  ·exact hk.elim
 ·exact hk.elim
end Go.Ax
namespace Go.Ax
noncomputable def inlSpec (E:LEnv) (fn:Func):SpecT:=fun args H K=>
 forceL (List.range H.length) fun T=>abody {E with n0:=H.length} fn args H fun v H'=>K v H' T
variable [Surr]
theorem inl_sound {E:LEnv} (hE:E.toEnv.OK) {f:FuncId} {fn:Func} (hf:E.P.funcs[f]? =some fn):SpecOK E.P f (inlSpec E fn):=by
 intro args H K hk G w ρ Fs vs hH hr
 simp only [inlSpec,forceL_eq] at hk
 refine (abody_sound (E:={E with n0:=H.length}) hE hf rfl hk hH hr).mono fun e w' he=>?_
 obtain ⟨v,av,H',e',Fs',rfl,hK,hrv,hs⟩:=he
 exact ⟨v,av,H',_,e',Fs',rfl,hK,hrv,hs,fun l o hl hn=>absurd (List.mem_range.2 (hH.lab hl)) hn⟩
end Go.Ax
namespace Go.Ax.Law
def Rising (l:List Step):Prop:=l.Pairwise fun a b=>a.At<b.At
def StepsOK (l:List Step):Prop:=l≠[]∧Rising l∧l.length≤4294967296
def PW (p:Prof):Prop:=StepsOK p.steps
def IdsOK (l:List Job):Prop:= ∀(i:Nat) (j:Job),l[i]? =some j→j.Id=(i:Int)+1∧U64 j.Nodes
def JW (t:Jobs):Prop:=t.made=true∧t.jobs.length≤1024∧IdsOK t.jobs
def NW (t:Nodes):Prop:=U64 t.all∧U64 t.used∧U64 t.drain∧t.all≠0
def CW (c:Core):Prop:=JW c.J∧NW c.N∧PW c.P
def noneJ:Option Jobs→Bool
 |none=>true
 |some t=>!t.made
def noneN:Option Nodes→Bool
 |none=>true
 |some t=>decide (t.all=0)
def noneP:Option Prof→Bool
 |none=>true
 |some p=>p.steps.isEmpty
def noneC:Option Core→Bool
 |none=>true
 |some _=>false
def closedC:Option Core→Bool
 |none=>true
 |some c=>c.closed
def doneW:Option Work→Bool
 |none=>true
 |some w=>w.done
def idxI (l:List Int) (v:Int):Int:=match l.findIdx? fun x=>decide (x=v) with |some i=>(i:Int) |none=> -1
def orI (l:List Int):Int:=match l.find? fun x=>decide (x≠0) with |some v=>v |none=>0
def leastI (l:List Int):Int:=l.foldl (fun a b=>min a b) 1152921504606846976
def aheadL (l:List Step) (t:Int):Nat:=l.countP fun s=>decide (s.At<t)
def cmpS (a t:Int):Int:=if a<t then-1 else if a>t then 1 else 0
def SmallJs (l:List Job):Prop:=(∀j∈l,-9223372036854775808≤j.Id∧j.Id≤9223372036854775807)∧l.length≤1048576
def newN (n:Int):Nodes:=⟨allS n,0,0⟩
def newP (n:Int):Prof:=⟨[⟨0,n⟩],0⟩
def newJs:Jobs:=⟨[],0,true⟩
def newCore (n:Int):Core:=⟨newJs,newN n,newP n,false⟩
def WW (w:Work):Prop:=U64 w.job.Nodes
end Go.Ax.Law
namespace Go.Ax.Sp
def sIdxI:Sig:=⟨[(.imm .i64,false),(.int .i64,false)],[.int .i64]⟩
def oIdxI:sIdxI.Out:=fun x k=>x.1.length≤1099511627776∧k () (Law.idxI x.1 x.2.1,())
def lIdxI:LoopAnn:={X:=List Int × Int × Int,live:=fun x=>[(0,.imm .i64 x.1),(1,.int .i64 x.2.1),(7,.int .i64 x.1.length),(8,.int .i64 x.2.2)],heap:=fun _=>[]}
def sConI:Sig:=⟨[(.imm .i64,false),(.int .i64,false)],[.bool]⟩
def oConI:sConI.Out:=fun x k=>x.1.length≤1099511627776∧k () (x.1.contains x.2.1,())
def sOrI:Sig:=⟨[(.imm .i64,false)],[.int .i64]⟩
def oOrI:sOrI.Out:=fun x k=>x.1.length≤1099511627776∧k () (Law.orI x.1,())
def lOrI:LoopAnn:={X:=List Int × Int,live:=fun x=>[(3,.int .i64 0),(6,.imm .i64 x.1),(7,.int .i64 x.1.length),(8,.int .i64 x.2)],heap:=fun _=>[]}
def sNum1:Sig:=⟨[(.int .i64,false)],[.bool]⟩
def oNaN:sNum1.Out:=fun _ k=>k () (false,())
def sNum2:Sig:=⟨[(.int .i64,false),(.int .i64,false)],[.int .i64]⟩
def oCmpI:sNum2.Out:=fun x k=>k () (Law.cmpI x.1 x.2.1,())
def oLeastI:sOrI.Out:=fun x k=>x.1.length≤1099511627776∧k () (Law.leastI x.1,())
def lLeastI:LoopAnn:={X:=List Int × Int × Int,live:=fun x=>[(3,.int .i64 x.2.1),(6,.imm .i64 x.1),(7,.int .i64 x.1.length),(8,.int .i64 x.2.2)],heap:=fun _=>[]}
def sSet1:Sig:=⟨[(.int .u64,false)],[.int .i64]⟩
def oOnes:sSet1.Out:=fun x k=>Law.U64 x.1∧k () (Law.lenS x.1,())
def oTZ:sSet1.Out:=fun x k=>Law.U64 x.1∧k () (((Lib.ctz 64 x.1.toNat:Nat):Int),())
def oLow:sSet1.Out:=fun x k=>Law.U64 x.1∧k () (Law.lowS x.1,())
def sHas:Sig:=⟨[(.int .u64,false),(.int .i64,false)],[.bool]⟩
def oHas:sHas.Out:=fun x k=>Law.U64 x.1∧k () (Law.hasB x.1 x.2.1,())
def sWith:Sig:=⟨[(.int .u64,false),(.int .i64,false)],[.int .u64]⟩
def oWith:sWith.Out:=fun x k=>Law.U64 x.1∧k () (Law.withS x.1 x.2.1,())
def oWithout:sWith.Out:=fun x k=>Law.U64 x.1∧k () (Law.withoutS x.1 x.2.1,())
def sAllS:Sig:=⟨[(.int .i64,false)],[.int .u64]⟩
def oAllS:sAllS.Out:=fun x k=>k () (Law.allS x.1,())
def sFirst:Sig:=⟨[(.int .u64,false),(.int .i64,false)],[.int .u64,.bool]⟩
def oFirst:sFirst.Out:=fun x k=>Law.U64 x.1∧k () ((Law.firstS x.1 x.2.1).1,(Law.firstS x.1 x.2.1).2,())
def lFirst:LoopAnn:={X:=Int × Int × Int × Int,live:=fun x=>[(0,.int .u64 x.1),(6,.int .u64 x.2.1),(16,.int .i64 x.2.2.1),(17,.int .i64 x.2.2.2)],heap:=fun _=>[]}
def sCloneT:Sig:=⟨[(.imm .step,false)],[.row .step]⟩
def oCloneT:sCloneT.Out:=fun x k=>x.1.length≤68719476736∧k () (x.1,())
def sNoneP:Sig:=⟨[(.vopt .prof,false)],[.bool]⟩
def oNoneP:sNoneP.Out:=fun x k=>k () (Law.noneP x.1,())
def sPInt:Sig:=⟨[(.view .prof,false)],[.int .i64]⟩
def oNow:sPInt.Out:=fun x k=>Law.PW x.1∧k () (Law.nowL x.1.steps,())
def sPSteps:Sig:=⟨[(.view .prof,false)],[.row .step]⟩
def oPSteps:sPSteps.Out:=fun x k=>Law.PW x.1∧k () (x.1.steps,())
def sPCopy:Sig:=⟨[(.view .prof,false)],[.opt .prof]⟩
def oPCopy:sPCopy.Out:=fun x k=>Law.PW x.1∧k () (some x.1,())
def sCmpS:Sig:=⟨[(.elem .step,false),(.int .i64,false)],[.int .i64]⟩
def oCmpS:sCmpS.Out:=fun x k=>k () (Law.cmpS x.1.At x.2.1,())
def sBin (f:FuncId):Sig:=⟨[(.imm .step,false),(.int .i64,false),(.fn f,false)],[.int .i64,.bool]⟩
def oBin (f:FuncId):(sBin f).Out:=fun x k=>(Law.Rising x.1∧x.1.length≤1099511627776)∧k () (((Law.aheadL x.1 x.2.1:Nat):Int),x.1.any (fun s=>decide (s.At=x.2.1)),())
def lBin (f:FuncId):LoopAnn:={X:=List Step × Int × Int × Int,live:=fun x=>[(0,.imm .step x.1),(1,.int .i64 x.2.1),(2,.fn f []),(8,.int .i64 x.1.length),(9,.int .i64 x.2.2.1),(10,.int .i64 x.2.2.2)],heap:=fun _=>[]}
def sIndex:Sig:=⟨[(.view .prof,false),(.int .i64,false)],[.int .i64]⟩
def oIndex:sIndex.Out:=fun x k=>Law.PW x.1∧k () (((Law.idxL x.1.steps x.2.1:Nat):Int),())
def oFree:sIndex.Out:=fun x k=>Law.PW x.1∧k () (Law.freeL x.1.steps x.2.1,())
def sLeast:Sig:=⟨[(.view .prof,false),(.int .i64,false),(.int .i64,false)],[.int .i64]⟩
def oLeast:sLeast.Out:=fun x k=>Law.PW x.1∧k () (Law.leastL x.1.steps x.2.1 x.2.2.1,())
def lLeast:LoopAnn:={X:=List Step × Int × Int × Int,live:=fun x=>[(2,.int .i64 x.2.1),(7,.int .i64 x.2.2.1),(27,.imm .step x.1),(28,.int .i64 x.1.length),(29,.int .i64 x.2.2.2)],heap:=fun _=>[]}
def oMost:sLeast.Out:=fun x k=>Law.PW x.1∧k () (Law.mostL x.1.steps x.2.1 x.2.2.1,())
def lMost:LoopAnn:={X:=List Step × Int × Int × Int,live:=fun x=>[(2,.int .i64 x.2.1),(7,.int .i64 x.2.2.1),(17,.imm .step x.1),(18,.int .i64 x.1.length),(19,.int .i64 x.2.2.2)],heap:=fun _=>[]}
def sInsT:Sig:=⟨[(.row .step,false),(.int .i64,false),(.row .step,true)],[.part .step]⟩
def oInsT:sInsT.Out:=fun x k=>(0<x.2.1∧x.2.1≤(x.1.length:Int)∧x.1.length≤8589934592∧x.2.2.1.length=1)∧k (x.2.2.1,()) (x.1.take x.2.1.toNat++x.2.2.1++x.1.drop x.2.1.toNat,())
def sSplit:Sig:=⟨[(.obj .prof,true),(.int .i64,false)],[.int .i64]⟩
def oSplit:sSplit.Out:=fun x k=>(Law.StepsOK x.1.steps∧Law.nowL x.1.steps≤x.2.1)∧k (⟨Law.splitL x.1.steps x.2.1,x.1.ver⟩,()) (((Law.splitAt x.1.steps x.2.1:Nat):Int),())
def sSame:Sig:=⟨[(.elem .step,false),(.elem .step,false)],[.bool]⟩
def oSame:sSame.Out:=fun x k=>k () (decide (x.1.Free=x.2.1.Free),())
def sCompact (f:FuncId):Sig:=⟨[(.row .step,false),(.fn f,false)],[.part .step]⟩
def oCompact (f:FuncId):(sCompact f).Out:=fun x k=>x.1.length≤1099511627776∧k () (Law.joinL x.1,())
def lCp1 (f:FuncId):LoopAnn:={X:=List Step × Int,live:=fun x=>[(0,.sl 0 2 0 x.1.length),(1,.fn f []),(5,.int .i64 x.2)],heap:=fun x=>[some (.row .step x.1)]}
def lCp2 (f:FuncId):LoopAnn:={X:=List Step × Int × Nat × Nat × Int,live:=fun x=>[(0,.sl 0 2 0 x.1.length),(1,.fn f []),(5,.int .i64 x.2.1),(6,.sl 0 2 x.2.2.1 x.2.2.2.1),(7,.int .i64 x.2.2.2.2)],heap:=fun x=>[some (.row .step x.1)]}
def sJoin1:Sig:=⟨[(.obj .prof,true)],[]⟩
def oJoin1:sJoin1.Out:=fun x k=>x.1.steps.length≤1099511627776∧k (⟨Law.joinL x.1.steps,x.1.ver⟩,()) ()
def sAdd:Sig:=⟨[(.obj .prof,true),(.int .i64,false),(.int .i64,false),(.int .i64,false)],[.int .i64]⟩
def oAdd:sAdd.Out:=fun x k=>(Law.PW x.1∧x.1.steps.length≤4294967290)∧k ((Law.addP x.1 x.2.1 x.2.2.1 x.2.2.2.1).2,()) ((Law.addP x.1 x.2.1 x.2.2.1 x.2.2.2.1).1,())
def lAdd:LoopAnn:={X:=List Step × Int × Int × Int × Int,live:=fun x=>[(0,.ptr ⟨0,0,0,0⟩),(3,.int .i64 x.2.2.1),(9,.int .i64 x.2.2.2.1),(10,.int .i64 x.2.2.2.2)],heap:=fun x=>[some (.obj .prof ⟨x.1,x.2.1⟩)],norm:=[.fold 0 .prof]}
def sRes:Sig:=⟨[(.obj .prof,true),(.elem .span,false)],[.int .i64]⟩
def oRel:sRes.Out:=fun x k=>(Law.PW x.1∧x.1.steps.length≤4294967290)∧k ((Law.addP x.1 x.2.1.From x.2.1.To x.2.1.Width).2,()) ((Law.addP x.1 x.2.1.From x.2.1.To x.2.1.Width).1,())
def oRes:sRes.Out:=fun x k=>(Law.PW x.1∧x.1.steps.length≤4294967290)∧k ((Law.addP x.1 x.2.1.From x.2.1.To (Law.wr (0-x.2.1.Width))).2,()) ((Law.addP x.1 x.2.1.From x.2.1.To (Law.wr (0-x.2.1.Width))).1,())
def sAdv:Sig:=⟨[(.obj .prof,true),(.int .i64,false)],[.int .i64]⟩
def oAdv:sAdv.Out:=fun x k=>Law.PW x.1∧k ((Law.advP x.1 x.2.1).2,()) ((Law.advP x.1 x.2.1).1,())
def sNewP:Sig:=⟨[(.int .i64,false)],[.opt .prof,.int .i64]⟩
def oNewP:sNewP.Out:=fun x k=>(1≤x.1∧x.1≤64)∧k () (some (Law.newP x.1),0,())
def sCloneB:Sig:=⟨[(.imm .job,false)],[.row .job]⟩
def oCloneB:sCloneB.Out:=fun x k=>x.1.length≤68719476736∧k () (x.1,())
def sNoneJ:Sig:=⟨[(.vopt .jobs,false)],[.bool]⟩
def oNoneJ:sNoneJ.Out:=fun x k=>k () (Law.noneJ x.1,())
def sNewJ:Sig:=⟨[],[.obj .jobs]⟩
def oNewJ:sNewJ.Out:=fun _ k=>k () (Law.newJs,())
def sAllJ:Sig:=⟨[(.view .jobs,false)],[.row .job]⟩
def oAllJ:sAllJ.Out:=fun x k=>Law.JW x.1∧k () (x.1.jobs,())
def sInJ:Sig:=⟨[(.view .jobs,false),(.imm .i64,false)],[.row .job]⟩
def oInJ:sInJ.Out:=fun x k=>(Law.JW x.1∧x.2.1.length≤1000)∧k () (Law.inJ x.1.jobs x.2.1,())
def lInJ:LoopAnn:={X:=List Int × List Job × List Job × Int,live:=fun x=>[(1,.imm .i64 x.1),(5,.sl 1 10 0 x.2.2.1.length),(9,.sl 0 10 0 x.2.1.length),(10,.int .i64 x.2.1.length),(11,.int .i64 x.2.2.2)],heap:=fun x=>[some (.row .job x.2.1),some (.row .job x.2.2.1)],norm:=[.home 9 0,.row 5 .job,.home 5 1]}
def oWaiting:sAllJ.Out:=fun x k=>Law.JW x.1∧k () (Law.sortJ (Law.inJ x.1.jobs [1]),())
def sCountsJ:Sig:=⟨[(.view .jobs,false)],[.int .i64,.int .i64,.int .i64]⟩
def oCountsJ:sCountsJ.Out:=fun x k=>Law.JW x.1∧k () (Law.cntJ x.1.jobs 1,Law.cntJ x.1.jobs 2,Law.cntJ x.1.jobs 3,())
def sGetJ:Sig:=⟨[(.view .jobs,false),(.int .i64,false)],[.elem .job,.int .i64]⟩
def oGetJ:sGetJ.Out:=fun x k=>Law.JW x.1∧k () ((Law.getJ x.1.jobs x.2.1).1,(Law.getJ x.1.jobs x.2.1).2,())
def sHoldJ:Sig:=⟨[(.obj .jobs,true),(.int .i64,false)],[.int .i64]⟩
def oHoldJ:sHoldJ.Out:=fun x k=>Law.JW x.1∧k ((Law.holdJ x.1 x.2.1).2,()) ((Law.holdJ x.1 x.2.1).1,())
def oFreeJ:sHoldJ.Out:=fun x k=>Law.JW x.1∧k ((Law.freeJ x.1 x.2.1).2,()) ((Law.freeJ x.1 x.2.1).1,())
def sPlanJ:Sig:=⟨[(.obj .jobs,true),(.int .i64,false),(.int .i64,false)],[.int .i64]⟩
def oPlanJ:sPlanJ.Out:=fun x k=>Law.JW x.1∧k ((Law.planJ x.1 x.2.1 x.2.2.1).2,()) ((Law.planJ x.1 x.2.1 x.2.2.1).1,())
def sBeginJ:Sig:=⟨[(.obj .jobs,true),(.int .i64,false),(.int .i64,false),(.int .u64,false)],[.int .i64]⟩
def oBeginJ:sBeginJ.Out:=fun x k=>Law.JW x.1∧k ((Law.beginJ x.1 x.2.1 x.2.2.1 x.2.2.2.1).2,()) ((Law.beginJ x.1 x.2.1 x.2.2.1 x.2.2.2.1).1,())
def sFinJ:Sig:=⟨[(.obj .jobs,true),(.int .i64,false),(.int .i64,false),(.int .i64,false)],[.int .i64]⟩
def oFinJ:sFinJ.Out:=fun x k=>Law.JW x.1∧k ((Law.finishJ x.1 x.2.1 x.2.2.1 x.2.2.2.1).2,()) ((Law.finishJ x.1 x.2.1 x.2.2.1 x.2.2.2.1).1,())
def sRightR:Sig:=⟨[(.elem .req,false)],[.int .i64]⟩
def oRightR:sRightR.Out:=fun x k=>k () (Law.rightR x.1,())
def sSubJ:Sig:=⟨[(.obj .jobs,true),(.elem .req,false)],[.int .i64,.int .i64]⟩
def oSubJ:sSubJ.Out:=fun x k=>Law.JW x.1∧k ((Law.submitJ x.1 x.2.1).2,()) ((Law.submitJ x.1 x.2.1).1.1,(Law.submitJ x.1 x.2.1).1.2,())
def sCopyJ:Sig:=⟨[(.view .jobs,false)],[.opt .jobs]⟩
def oCopyJ:sCopyJ.Out:=fun x k=>Law.JW x.1∧k () (some x.1,())
def sCmpB:Sig:=⟨[(.elem .job,false),(.elem .job,false)],[.int .i64]⟩
def oCmpB:sCmpB.Out:=fun x k=>k () (Law.cmpJ x.1 x.2.1,())
def sLessB:Sig:=⟨[(.elem .job,false),(.elem .job,false)],[.bool]⟩
def oLessB:sLessB.Out:=fun x k=>k () (Law.lessJ x.1 x.2.1,())
def sSortB (f:FuncId):Sig:=⟨[(.row .job,true),(.fn f,false)],[]⟩
def oSortB (f:FuncId):(sSortB f).Out:=fun x k=>Law.SmallJs x.1∧k (Law.sortJ x.1,()) ()
def sOrdS:Sig:=⟨[(.imm .job,false)],[.row .job]⟩
def oOrdS:sOrdS.Out:=fun x k=>Law.SmallJs x.1∧k () (Law.sortJ x.1,())
def sNoneN:Sig:=⟨[(.vopt .nodes,false)],[.bool]⟩
def oNoneN:sNoneN.Out:=fun x k=>k () (Law.noneN x.1,())
def sNInt:Sig:=⟨[(.view .nodes,false)],[.int .i64]⟩
def oSizeN:sNInt.Out:=fun x k=>Law.NW x.1∧k () (Law.lenS x.1.all,())
def sNSet:Sig:=⟨[(.view .nodes,false)],[.int .u64]⟩
def oIdleN:sNSet.Out:=fun x k=>Law.NW x.1∧k () (Law.idleN x.1,())
def oUsedN:sNSet.Out:=fun x k=>Law.NW x.1∧k () (x.1.used,())
def sStateN:Sig:=⟨[(.view .nodes,false),(.int .i64,false)],[.int .i64]⟩
def oStateN:sStateN.Out:=fun x k=>Law.NW x.1∧k () (Law.stateN x.1 x.2.1,())
def sCountsN:Sig:=⟨[(.view .nodes,false)],[.int .i64,.int .i64,.int .i64]⟩
def oCountsN:sCountsN.Out:=fun x k=>Law.NW x.1∧k () (Law.lenS (Law.idleN x.1),Law.lenS x.1.used,Law.lenS (Law.minusS x.1.drain x.1.used),())
def sTakeN:Sig:=⟨[(.obj .nodes,true),(.int .i64,false)],[.int .u64,.int .i64]⟩
def oTakeN:sTakeN.Out:=fun x k=>Law.NW x.1∧k ((Law.takeN x.1 x.2.1).2,()) ((Law.takeN x.1 x.2.1).1.1,(Law.takeN x.1 x.2.1).1.2,())
def sGiveN:Sig:=⟨[(.obj .nodes,true),(.int .u64,false)],[.int .i64,.int .i64]⟩
def oGiveN:sGiveN.Out:=fun x k=>(Law.NW x.1∧Law.U64 x.2.1)∧k ((Law.giveN x.1 x.2.1).2,()) ((Law.giveN x.1 x.2.1).1.1,(Law.giveN x.1 x.2.1).1.2,())
def sDrainN:Sig:=⟨[(.obj .nodes,true),(.int .i64,false)],[.int .i64]⟩
def oDrainN:sDrainN.Out:=fun x k=>Law.NW x.1∧k ((Law.drainN x.1 x.2.1).2,()) ((Law.drainN x.1 x.2.1).1,())
def oResumeN:sDrainN.Out:=fun x k=>Law.NW x.1∧k ((Law.resumeN x.1 x.2.1).2,()) ((Law.resumeN x.1 x.2.1).1,())
def sCopyN:Sig:=⟨[(.view .nodes,false)],[.opt .nodes]⟩
def oCopyN:sCopyN.Out:=fun x k=>Law.NW x.1∧k () (some x.1,())
def sNewN:Sig:=⟨[(.int .i64,false)],[.opt .nodes,.int .i64]⟩
def oNewN:sNewN.Out:=fun x k=>((x.1<1∨64<x.1)→k () (none,1,()))∧(1≤x.1∧x.1≤64→k () (some (Law.newN x.1),0,()))
def sFailR:Sig:=⟨[(.int .i64,false)],[.elem .reply]⟩
def oFailR:sFailR.Out:=fun x k=>k () (Law.failR x.1,())
def sTellR:Sig:=⟨[(.elem .job,false)],[.elem .reply]⟩
def oTellR:sTellR.Out:=fun x k=>k () (Law.tellR x.1,())
def sThreeR:Sig:=⟨[(.int .i64,false),(.int .i64,false),(.int .i64,false)],[.elem .reply]⟩
def oThreeR:sThreeR.Out:=fun x k=>k () (Law.threeR x.1 x.2.1 x.2.2.1,())
def sCleanR:Sig:=⟨[(.elem .req,false)],[.elem .req]⟩
def oCleanR:sCleanR.Out:=fun x k=>k () (Law.cleanR x.1,())
def sNoneC:Sig:=⟨[(.vopt .core,false)],[.bool]⟩
def oNoneC:sNoneC.Out:=fun x k=>k () (Law.noneC x.1,())
def oClosedC:sNoneC.Out:=fun x k=>k () (Law.closedC x.1,())
def sNewC:Sig:=⟨[(.int .i64,false)],[.opt .core,.int .i64]⟩
def oNewC:sNewC.Out:=fun x k=>((x.1<1∨64<x.1)→k () (none,1,()))∧(1≤x.1∧x.1≤64→k () (some (Law.newCore x.1),0,()))
def sTwinC:Sig:=⟨[(.view .core,false)],[.opt .core]⟩
def oTwinC:sTwinC.Out:=fun x k=>Law.CW x.1∧k () (some x.1,())
def sPlanS:Sig:=⟨[(.elem .job,false)],[.elem .span,.bool]⟩
def oPlanS:sPlanS.Out:=fun x k=>k () ((Law.planS x.1).1,(Law.planS x.1).2,())
def sSpansC:Sig:=⟨[(.view .core,false)],[.row .span]⟩
def oSpansC:sSpansC.Out:=fun x k=>Law.CW x.1∧k () (Law.spansC x.1.J.jobs,())
def lSpansC:LoopAnn:={X:=List Job × List Span × Int,live:=fun x=>[(3,.sl 2 3 0 x.2.1.length),(15,.sl 1 10 0 x.1.length),(16,.int .i64 x.1.length),(17,.int .i64 x.2.2)],heap:=fun x=>[none,some (.row .job x.1),some (.row .span x.2.1)],norm:=[.row 3 .span,.home 3 2]}
def sHolderC:Sig:=⟨[(.view .core,false),(.int .i64,false)],[.elem .job]⟩
def oHolderC:sHolderC.Out:=fun x k=>Law.CW x.1∧k () (Law.holderJ x.1.J.jobs x.2.1,())
def lHolderC:LoopAnn:={X:=List Job × Int × Int,live:=fun x=>[(1,.int .i64 x.2.1),(4,.ptr ⟨0,0,0,0⟩),(15,.sl 2 10 0 x.1.length),(16,.int .i64 x.1.length),(17,.int .i64 x.2.2)],heap:=fun x=>[some (.raw [.int .i64 0,.int .i64 0,.int .i64 0,.int .i64 0,.int .i64 0,.int .i64 0,.int .i64 0,.int .i64 0,.int .i64 0,.int .u64 0]),none,some (.row .job x.1)]}
def sToldC:Sig:=⟨[(.view .core,false),(.int .i64,false)],[.elem .reply]⟩
def oToldC:sToldC.Out:=fun x k=>Law.CW x.1∧k () (Law.toldC x.1 x.2.1,())
def sWantsC:Sig:=⟨[(.view .core,false),(.elem .req,false)],[.int .i64]⟩
def oWantsC:sWantsC.Out:=fun x k=>Law.CW x.1∧k () (Law.wantsC x.1 x.2.1,())
def sUntilC:Sig:=⟨[(.view .core,false),(.int .i64,false)],[.int .i64]⟩
def oUntilC:sUntilC.Out:=fun x k=>Law.CW x.1∧k () (Law.untilC x.1 x.2.1,())
def sNextC:Sig:=⟨[(.view .core,false)],[.int .i64]⟩
def oNextC:sNextC.Out:=fun x k=>Law.CW x.1∧k () (Law.nextC x.1,())
def lNx1:LoopAnn:={X:=Core × List Job × Int × Int,live:=fun x=>[(0,.cptr ((OK.unf .core x.1).map (viewFld 8)) 0),(3,.int .i64 x.2.2.1),(13,.sl 1 10 0 x.2.1.length),(14,.int .i64 x.2.1.length),(15,.int .i64 x.2.2.2)],heap:=fun x=>[none,some (.row .job x.2.1)]}
def lNx2:LoopAnn:={X:=List Span × Int × Int,live:=fun x=>[(3,.int .i64 x.2.1),(26,.sl 2 3 0 x.1.length),(27,.int .i64 x.1.length),(28,.int .i64 x.2.2)],heap:=fun x=>[none,none,some (.row .span x.1)]}
def sTimeC:Sig:=⟨[(.obj .core,true)],[]⟩
def oTimeC:sTimeC.Out:=fun x k=>Law.CW x.1∧k (Law.timeoutsC x.1,()) ()
def lTimeC:LoopAnn:={X:=Core × List Job × Int,live:=fun x=>[(0,.ptr ⟨0,0,0,0⟩),(9,.sl 1 10 0 x.2.1.length),(10,.int .i64 x.2.1.length),(11,.int .i64 x.2.2)],heap:=fun x=>[some (.obj .core x.1),some (.row .job x.2.1)],norm:=[.fold 0 .core,.home 9 1]}
def oBeginsC:sTimeC.Out:=fun x k=>Law.CW x.1∧k (Law.beginsC x.1,()) ()
def lBeginsC:LoopAnn:={X:=Core × List Job × Int,live:=fun x=>[(0,.ptr ⟨0,0,0,0⟩),(8,.sl 1 10 0 x.2.1.length),(9,.int .i64 x.2.1.length),(10,.int .i64 x.2.2)],heap:=fun x=>[some (.obj .core x.1),some (.row .job x.2.1)],norm:=[.fold 0 .core,.home 8 1]}
def sBeginC:Sig:=⟨[(.obj .core,true),(.elem .job,false)],[]⟩
def oBeginC:sBeginC.Out:=fun x k=>Law.CW x.1∧k (Law.beginC x.1 x.2.1,()) ()
def sFitsC:Sig:=⟨[(.view .core,false),(.elem .choice,false)],[.bool]⟩
def oFitsC:sFitsC.Out:=fun x k=>(Law.CW x.1∧x.1.P.steps.length≤4294967290)∧k () (Law.fitsC x.1 x.2.1,())
def sNewW:Sig:=⟨[(.elem .req,false)],[.obj .work]⟩
def oNewW:sNewW.Out:=fun x k=>k () (Law.newW x.1,())
def sNewX:Sig:=⟨[(.elem .choice,false)],[.obj .work]⟩
def oNewX:sNewX.Out:=fun x k=>k () (Law.newX x.1,())
def sDoneW:Sig:=⟨[(.vopt .work,false)],[.bool]⟩
def oDoneW:sDoneW.Out:=fun x k=>k () (Law.doneW x.1,())
def sRepW:Sig:=⟨[(.view .work,false)],[.elem .reply]⟩
def oRepW:sRepW.Out:=fun x k=>k () (x.1.reply,())
def sOkW:Sig:=⟨[(.view .work,false)],[.bool]⟩
def oOkW:sOkW.Out:=fun x k=>k () (x.1.ok,())
def sEndW:Sig:=⟨[(.obj .work,true),(.elem .reply,false)],[]⟩
def oEndW:sEndW.Out:=fun x k=>k (Law.endW x.1 x.2.1,()) ()
def sFailW:Sig:=⟨[(.obj .work,true),(.int .i64,false)],[]⟩
def oFailW:sFailW.Out:=fun x k=>k (Law.failW x.1 x.2.1,()) ()
def sWC:Sig:=⟨[(.obj .work,true),(.obj .core,true)],[]⟩
def sWCb:Sig:=⟨[(.obj .work,true),(.obj .core,true)],[.bool]⟩
def PreW (w:Work) (c:Core):Prop:=Law.CW c∧Law.WW w∧c.P.steps.length≤4294967280
def oDropW:sWCb.Out:=fun x k=>PreW x.1 x.2.1∧k ((Law.dropW x.1 x.2.1).2.1,(Law.dropW x.1 x.2.1).2.2,()) ((Law.dropW x.1 x.2.1).1,())
def lDropW:LoopAnn:={X:=Work × Core × List Job × Int,live:=fun x=>[(0,.ptr ⟨0,0,0,0⟩),(1,.ptr ⟨1,0,0,0⟩),(14,.sl 2 10 0 x.2.2.1.length),(15,.int .i64 x.2.2.1.length),(16,.int .i64 x.2.2.2)],heap:=fun x=>[some (.obj .work x.1),some (.obj .core x.2.1),some (.row .job x.2.2.1)],norm:=[.fold 0 .work,.fold 1 .core,.home 14 2]}
def oUnplan:sWC.Out:=fun x k=>PreW x.1 x.2.1∧k (x.1,Law.unplanC x.1 x.2.1,()) ()
def oW2 (f:Work→Core→Work × Core):sWC.Out:=fun x k=>PreW x.1 x.2.1∧k ((f x.1 x.2.1).1,(f x.1 x.2.1).2,()) ()
def oStepW:sWCb.Out:=fun x k=>PreW x.1 x.2.1∧k ((Law.stepW x.1 x.2.1).1,(Law.stepW x.1 x.2.1).2,()) ((Law.stepW x.1 x.2.1).1.done,())
end Go.Ax.Sp
namespace Go.Ax.Sp
open Go.Proofs
variable [Surr]
def tzTab:List Value:=Lib.deBruijn64tab.map fun (n:Nat)=>Value.int .u8 (n:Int)
theorem WOK.tabAt {G:Gam} {w:World} {g:Nat} (h:WOK G w) (hT:(g,tzTab)∈Surr.tabs):TabAt g Lib.deBruijn64tab w:=by
 intro j hj
 obtain ⟨h1,h2⟩:=G.tab _ _ hT
 have e:tzTab[j]? =some (.int .u8 ((Lib.deBruijn64tab.getD j 0:Nat):Int)):=by
  simp only [tzTab,List.getElem?_map,List.getElem?_eq_getElem hj,Option.map_some,List.getD_eq_getElem?_getD,Option.getD_some]
 have h3:=h2 j _ e
 simp only [World.cell?] at h3 ⊢
 rw [(h.prot _ (G.sub _ h1)).2]
 exact h3
theorem tz_spec {P:Program} {r:Go.Shelf.Ren} {f:FuncId} (L:Lays7.n29 P r) (hf:r.f 29=f) (hT:(r.g 1,tzTab)∈Surr.tabs):SpecOK P f (sSet1.spec oTZ):=by
 intro args H K hk G w ρ Fs vs hH hr
 subst hf
 have hk:takeVs [VK.int .u64] args H fun x H1 ls=>oTZ x fun y z=>forceL (putKept [(VK.int .u64,false)] y ls H1++[]) fun H2=>forceL (gone H H1 0) fun T=>K (.int .i64 z.1) H2 T:=hk
 match args,hr,hk with
 | [],_,hk=>exact (hk:False).elim
 | .int .u64 x::[],hr,hk=>
  simp only [RVs] at hr
  obtain ⟨v,us,rfl,hv,rfl⟩:=hr
  have hk:oTZ (x,()) fun y z=>forceL (putKept [(VK.int .u64,false)] y [none] H++[]) fun H2=>forceL (gone H H 0) fun T=>K (.int .i64 z.1) H2 T:=hk
  obtain ⟨⟨x0,x1⟩,hk⟩:=hk
  simp only [] at x0 x1 hk
  obtain ⟨n,rfl⟩:=Int.eq_ofNat_of_zero_le x0
  simp only [RV] at hv
  subst hv
  simp only [forceL_eq,putKept,List.append_nil,Int.toNat_natCast] at hk
  refine (Any7.bits_TrailingZeros64 L n (by omega) w (fun _=>WOK.tabAt hH.wok hT)).mono fun e w' he=>?_
  obtain ⟨rfl,rfl⟩:=he
  exact ⟨_,_,_,_,[],Fs,rfl,hk,by simp [RV],by simpa using hH,fun l o hl _=>⟨hl,rfl,fun _ _=>rfl⟩⟩
 |a::_::_,_,hk=>
  have hk:takeV (.int .u64) a H fun _ _ _=>False:=hk
  cases a<;>simp only [takeV] at hk
  revert hk
  unfold br
  split<;>exact False.elim
 | .bool _::[],_,hk=>exact (hk:False).elim
end Go.Ax.Sp
namespace Go.Ax
variable [Surr]
theorem addK {P:Program} {ek:List (TypeId × EK)} {L:List (FuncId × SpecT)} (h0:Env.OK {P:=P,spec:=L,ek:=ek}) (lo:List (Nat × LoopAnn)) (b:Bool) {f:FuncId} {fn:Func} {S:Sig} {out:S.Out} {V:S.X→(keepT S.args→prodT S.ret→Prop)→Prop}
  (hO: ∀{x k},out x k→V x k) (hV: ∀x k,V x k=S.case {P:=P,spec:=L,ek:=ek,loops:=lo,n0:=0,sharp:=b} fn x k:=by intro x k;kernel_rfl)
  (hf:P.funcs[f]? =some fn:=by kernel_rfl) (hb:fn.body.isSome=true:=by kernel_rfl) (hn:(fn.name== "runtime.NumGoroutine")=false:=by kernel_rfl) (hS:S.ok=true:=by rfl):
  Env.OK {P:=P,spec:=(f,S.spec out)::L,ek:=ek}:=
 Env.OK.cons h0 hf hb hn (Sig.sound (E:={P:=P,spec:=L,ek:=ek,loops:=lo,n0:=0,sharp:=b}) h0 hf hS fun x k h=>(hV x k)▸hO h)
end Go.Ax
namespace Go.Ax.V
@[reducible] def LP (X:Type) (E:X→Prop) (B:(X→Prop)→(X→Nat)→X→Prop):Prop:= ∃(I:X→Prop) (m:X→Nat) (x:X),I x∧E x∧ ∀(x:X),I x→B I m x
@[reducible] def NX {X:Type} (I:X→Prop) (m:X→Nat) (x:X) (E:X→Prop):Prop:= ∃y,I y∧E y∧m y<m x
@[reducible] def AT {α:Type} (l:List α) (i:Int) (K:α→Prop):Prop:=(0≤i∧i<(l.length:Int))∧0+i.toNat<l.length∧ ∀e,l[0+i.toNat]? =some e→K e
@[reducible] def AI {α:Type} (l:List α) (i:Int) (K:α→Prop):Prop:=(0≤i∧i<(l.length:Int))∧ ∀e,l[i.toNat]? =some e→K e
@[reducible] def NM (a:Int) (K:Int→Prop):Prop:= ∀n,n=IntKind.wrap .i64 a→K n
@[reducible] def SH {α:Type} (a:α) (K:α→Prop):Prop:=K a
@[reducible] def LN {α:Type} (l:List α):Int:=(l.length:Int)
end Go.Ax.V
namespace Go.Ax.Law
def cntN (p:Nat→Bool):Nat→Int
 |0=>0
 |n+1=>cntN p n+(if p n then 1 else 0)
def plannedJ (j:Job):Bool:=decide (j.State=1)&&decide (0≤j.Plan)
def runsOn (k:Int) (j:Job):Bool:=decide (j.State=3)&&hasB j.Nodes k
def holdI (l:List Job) (k:Int):Int:=match l.findIdx? (runsOn k) with |some i=>(i:Int) |none=> -1
def drainB (m:Model) (k:Nat):Bool:=m.Drain.getD k false
def stateM (m:Model) (k:Int):Int:=
 if k<0∨(m.Drain.length:Int)≤k then 0
 else if decide (0≤holdI m.L k)&&drainB m k.toNat then 3 else if 0≤holdI m.L k then 2 else if drainB m k.toNat then 4 else 1
def openM (m:Model) (t:Int) (k:Nat):Bool:=!drainB m k&&(match m.L.find? (runsOn (k:Int)) with |none=>true |some j=>decide (j.End≤t))
def planAt (t but:Int) (j:Job):Int:=if plannedJ j=true∧j.Id≠but∧j.Plan≤t∧t<j.Plan+j.Limit then j.Width else 0
def planSum (t but:Int):List Job→Int
 | []=>0
 |j::r=>planAt t but j+planSum t but r
def freeM (m:Model) (t but:Int):Int:=cntN (openM m t) m.Drain.length-planSum t but m.L
def sooner (best t last:Int):Int:=if last<t∧(best<0∨t<best) then t else best
def best1 (last b:Int) (j:Job):Int:=
 let b1:=if j.State=3 then sooner b j.End last else b
 if plannedJ j then sooner (sooner b1 j.Plan last) (j.Plan+j.Limit) last else b1
def bestT (l:List Job) (last:Int):Int:=l.foldl (best1 last) (-1)
def timesF (l:List Job):Nat→Int→List Int
 |0,_=>[]
 |f+1,last=>if bestT l last<0 then [] else bestT l last::timesF l f (bestT l last)
def timesM (m:Model):List Int:=m.Now::timesF m.L (2*m.L.length) m.Now
def step1 (m:Model) (out:List Step) (t:Int):List Step:=
 match out.getLast? with
 |none=>out++[⟨t,freeM m t 0⟩]
 |some s=>if s.Free=freeM m t 0 then out else out++[⟨t,freeM m t 0⟩]
def stepsM (m:Model):List Step:=(timesM m).foldl (step1 m) []
def roomOK (m:Model) (at_ long width but:Int) (t:Int):Bool:=!(decide (at_<t)&&decide (t<at_+long)&&decide (freeM m t but<width))
def roomM (m:Model) (at_ long width but:Int):Bool:=if freeM m at_ but<width then false else (timesM m).all (roomOK m at_ long width but)
def getM (m:Model) (id:Int):Job × Bool:=if id<1∨(m.L.length:Int)<id then (job0,false) else match m.L[(id-1).toNat]? with |some j=>(j,true) |none=>(job0,false)
def fitsM (m:Model) (x:Choice):Bool:=
 let j:=(getM m x.Id).1
 if m.Closed=true∨(getM m x.Id).2=false∨j.State≠1∨x.At<m.Now∨1099511627776<x.At∨(0≤j.Plan∧j.Plan≤x.At) then false
 else roomM m x.At j.Limit j.Width j.Id
def aheadJ (a b:Job):Bool:=decide (b.Prio<a.Prio)||(decide (a.Prio=b.Prio)&&decide (a.Id<b.Id))
def dropJ (j x:Job):Job:=if plannedJ x&&(decide (j.Id=0)||aheadJ j x) then {x with Plan:= -1} else x
def dropM (m:Model) (j:Job):Model:={m with L:=m.L.map (dropJ j)}
def pickN (p:Nat→Bool) (w:Int):Nat→Int × Int
 |0=>(0,0)
 |n+1=>if (pickN p w n).2<w∧p n=true then ((pickN p w n).1+((2^n:Nat):Int),(pickN p w n).2+1) else pickN p w n
def idleM (m:Model) (k:Nat):Bool:=decide (stateM m (k:Int)=1)
def beginJm (m:Model) (j:Job):Job:={j with State:=3,Start:=m.Now,End:=m.Now+j.Limit,Plan:= -1,Nodes:=(pickN (idleM m) j.Width m.Drain.length).1}
def beginM (m:Model) (i:Int):Model:=match m.L[i.toNat]? with |some j=>{m with L:=m.L.set i.toNat (beginJm m j)} |none=>m
def commitM (m:Model) (x:Choice):Bool × Model:=
 if fitsM m x=false then (false,m) else if x.At=m.Now then (true,beginM m (x.Id-1)) else (true,{m with L:=m.L.set (x.Id-1).toNat {(getM m x.Id).1 with Plan:=x.At}})
def liveJ (j:Job):Bool:=decide (j.State<4)
def liveN (l:List Job):Int:=(l.countP liveJ:Nat)
def submitM (m:Model) (r:Req):Reply × Model:=
 if r.User<0∨255<r.User∨r.Prio<0∨1000<r.Prio then (failR 1,m)
 else if r.Width<1∨(m.Drain.length:Int)<r.Width then (failR 9,m)
 else if r.Limit<1∨1048576<r.Limit then (failR 10,m)
 else if 63<liveN m.L∨1023<(m.L.length:Int) then (failR 6,m)
 else let j:=newJ m.L r
  let m1:={m with L:=m.L++[j]}
  (tellR j,if r.Held then m1 else dropM m1 j)
def endM (m:Model) (r:Req):Reply × Model:=
 let j:=(getM m r.Id).1
 if (getM m r.Id).2=false then (failR 7,m) else if 3<j.State∨(r.Kind=5∧j.State≠3) then (failR 8,m)
 else let j1:={j with End:=if j.State=3 then m.Now else j.End,Plan:= -1,State:=if r.Kind=5 then 4 else 5}
  (tellR j1,{m with L:=m.L.set (r.Id-1).toNat j1})
def turnM (m:Model) (r:Req):Reply × Model:=
 let j:=(getM m r.Id).1
 if (getM m r.Id).2=false then (failR 7,m) else if (r.Kind=3∧j.State≠1)∨(r.Kind=4∧j.State≠2) then (failR 8,m)
 else let j1:=if r.Kind=3 then {j with State:=2,Plan:= -1} else if r.Kind=4 then {j with State:=1} else j
  let m1:={m with L:=m.L.set (r.Id-1).toNat j1}
  (tellR j1,if r.Kind=4 then dropM m1 j1 else m1)
def nodeM (m:Model) (r:Req):Reply × Model:=
 if r.Node<0∨(m.Drain.length:Int)≤r.Node then (failR 11,m)
 else if drainB m r.Node.toNat=decide (r.Kind=7) then (failR 8,m)
 else let m1:=if r.Kind=7 then dropM m job0 else m
  let m2:={m1 with Drain:=m1.Drain.set r.Node.toNat (decide (r.Kind=7))}
  ({reply0 with Id:=r.Node,State:=stateM m2 r.Node},m2)
def next1 (now b:Int) (j:Job):Int:=
 let b1:=if j.State=3 then sooner b j.End now else b
 if plannedJ j then sooner b1 j.Plan now else b1
def nextM (m:Model):Int:=m.L.foldl (next1 m.Now) (-1)
def overJ (now:Int) (j:Job):Job:=if j.State=3∧j.End=now then {j with State:=6} else j
def dueJ (now:Int) (j:Job):Bool:=plannedJ j&&decide (j.Plan=now)
def selN (now:Int) (l:List Job):Nat→Int
 |0=> -1
 |n+1=>match l[n]? with
  |some j=>if dueJ now j=true∧(selN now l n<0∨aheadJ j (l.getD (selN now l n).toNat job0)=true) then (n:Int) else selN now l n
  |none=>selN now l n
def beginF:Nat→Model→Model
 |0,m=>m
 |f+1,m=>beginF f (if 0≤selN m.Now m.L m.L.length then beginM m (selN m.Now m.L m.L.length) else m)
def happenM (m:Model):Model:=beginF m.L.length {m with L:=m.L.map (overJ m.Now)}
def tickF:Nat→Int→Model→Model
 |0,_,m=>m
 |f+1,to,m=>if nextM m<0∨to<nextM m then m else tickF f to (happenM {m with Now:=nextM m})
def tickM (m:Model) (by_:Int):Reply × Model:=
 if by_<1∨1099511627776-m.Now<by_ then (failR 10,m)
 else let m1:={tickF (2*m.L.length+1) (m.Now+by_) m with Now:=m.Now+by_}
  ({reply0 with Start:=m1.Now,A:=freeM m1 m1.Now 0},m1)
def countM (m:Model) (jobs:Bool) (a b:Int):Int:=
 if jobs then cntJ m.L a else cntN (fun k=>decide (stateM m (k:Int)=a)||decide (stateM m (k:Int)=b)) m.Drain.length
def doM (m:Model) (r:Req):Reply × Model:=
 if m.Closed then (failR 12,m)
 else if r.Kind=1 then submitM m r
 else if r.Kind=2∨r.Kind=5 then endM m r
 else if r.Kind=3∨r.Kind=4∨r.Kind=6 then turnM m r
 else if r.Kind=7∨r.Kind=8 then nodeM m r
 else if r.Kind=9 then tickM m r.By
 else if r.Kind=10 then (threeR (countM m false 1 1) (countM m false 2 3) (countM m false 4 4),m)
 else if r.Kind=11 then (threeR (countM m true 1 1) (countM m true 2 2) (countM m true 3 3),m)
 else if r.Kind=12 then ({reply0 with Start:=m.Now,A:=freeM m m.Now 0},m)
 else if r.Kind=13 then (reply0,{m with Closed:=true})
 else (failR 4,m)
def newM (n:Int):Model:=⟨0,List.replicate n.toNat false,[],false⟩
def MJ (j:Job):Prop:=U64 j.Nodes∧1≤j.State∧j.State≤6∧ -1≤j.Plan∧j.Plan≤1099511627776∧0≤j.Limit∧j.Limit≤1048576∧0≤j.Width∧j.Width≤64∧ -1≤j.End∧j.End≤1099512676352
def MW (m:Model):Prop:=m.L.length≤1024∧1≤m.Drain.length∧m.Drain.length≤64∧0≤m.Now∧m.Now≤1099511627776∧ ∀j∈m.L,MJ j
end Go.Ax.Law
namespace Go.Ax.Sp
abbrev mv (m:Model):AV:= .cptr ((OK.unf .model m).map (viewFld 8)) 0
def sHasM:Sig:=⟨[(.int .u64,false),(.int .i64,false)],[.bool]⟩
def oHasM:sHasM.Out:=fun x k=>(Law.U64 x.1∧0≤x.2.1∧x.2.1≤1000)∧k () (Law.hasB x.1 x.2.1,())
def lHasM:LoopAnn:={X:=Int × Int × Int,live:=fun x=>[(0,.int .u64 x.1),(1,.int .i64 x.2.1),(5,.int .i64 x.2.2)],heap:=fun _=>[]}
def sHoldM:Sig:=⟨[(.view .model,false),(.int .i64,false)],[.int .i64]⟩
def oHoldM:sHoldM.Out:=fun x k=>(Law.MW x.1∧0≤x.2.1∧x.2.1≤1000)∧k () (Law.holdI x.1.L x.2.1,())
def lHoldM:LoopAnn:={X:=Model × Int × Int,live:=fun x=>[(0,mv x.1),(1,.int .i64 x.2.1),(5,.int .i64 x.2.2)],heap:=fun _=>[]}
def oStateM:sHoldM.Out:=fun x k=>Law.MW x.1∧k () (Law.stateM x.1 x.2.1,())
def sPlanned:Sig:=⟨[(.elem .job,false)],[.bool]⟩
def oPlanned:sPlanned.Out:=fun x k=>k () (Law.plannedJ x.1,())
def sFreeM:Sig:=⟨[(.view .model,false),(.int .i64,false),(.int .i64,false)],[.int .i64]⟩
def oFreeM:sFreeM.Out:=fun x k=>Law.MW x.1∧k () (Law.freeM x.1 x.2.1 x.2.2.1,())
def lFree1:LoopAnn:={X:=Model × Int × Int × Int × Int,live:=fun x=>[(0,mv x.1),(1,.int .i64 x.2.1),(2,.int .i64 x.2.2.1),(7,.int .i64 x.2.2.2.1),(8,.int .i64 x.2.2.2.2)],heap:=fun _=>[]}
def lFree2:LoopAnn:={X:=Model × Int × Int × Int × Int,live:=fun x=>[(0,mv x.1),(1,.int .i64 x.2.1),(2,.int .i64 x.2.2.1),(7,.int .i64 x.2.2.2.1),(10,.int .i64 x.2.2.2.2)],heap:=fun _=>[]}
def sSooner:Sig:=⟨[(.int .i64,false),(.int .i64,false),(.int .i64,false)],[.int .i64]⟩
def oSooner:sSooner.Out:=fun x k=>k () (Law.sooner x.1 x.2.1 x.2.2.1,())
def sTimesM:Sig:=⟨[(.view .model,false)],[.row .i64]⟩
def oTimesM:sTimesM.Out:=fun x k=>Law.MW x.1∧k () (Law.timesM x.1,())
def lTimes1:LoopAnn:={X:=Model × List Int × Int,live:=fun x=>[(0,mv x.1),(3,.sl 0 1 0 x.2.1.length),(4,.int .i64 x.2.2)],heap:=fun x=>[some (.row .i64 x.2.1)],norm:=[.home 3 0]}
def lTimes2:LoopAnn:={X:=Model × List Int × Int × Int × Int × Int,live:=fun x=>[(0,mv x.1),(3,.sl 0 1 0 x.2.1.length),(4,.int .i64 x.2.2.1),(5,.int .i64 x.2.2.2.1),(6,.int .i64 x.2.2.2.2.1),(7,.int .i64 x.2.2.2.2.2)],heap:=fun x=>[some (.row .i64 x.2.1)]}
def sStepsM:Sig:=⟨[(.view .model,false)],[.row .step]⟩
def oStepsM:sStepsM.Out:=fun x k=>Law.MW x.1∧k () (Law.stepsM x.1,())
def lStepsM:LoopAnn:={X:=Model × List Int × List Step × Int,live:=fun x=>[(0,mv x.1),(3,.sl 1 2 0 x.2.2.1.length),(4,.sl 0 1 0 x.2.1.length),(5,.int .i64 x.2.2.2)],heap:=fun x=>[some (.row .i64 x.2.1),some (.row .step x.2.2.1)],norm:=[.home 4 0,.row 3 .step,.home 3 1]}
def sRoomM:Sig:=⟨[(.view .model,false),(.int .i64,false),(.int .i64,false),(.int .i64,false),(.int .i64,false)],[.bool]⟩
def oRoomM:sRoomM.Out:=fun x k=>(Law.MW x.1∧0≤x.2.1∧x.2.1≤1099511627776∧0≤x.2.2.1∧x.2.2.1≤1048576)∧k () (Law.roomM x.1 x.2.1 x.2.2.1 x.2.2.2.1 x.2.2.2.2.1,())
def lRoomM:LoopAnn:={X:=Model × Int × Int × Int × Int × List Int × Int,live:=fun x=>[(0,mv x.1),(1,.int .i64 x.2.1),(2,.int .i64 x.2.2.1),(3,.int .i64 x.2.2.2.1),(4,.int .i64 x.2.2.2.2.1),(11,.sl 0 1 0 x.2.2.2.2.2.1.length),(12,.int .i64 x.2.2.2.2.2.2)],heap:=fun x=>[some (.row .i64 x.2.2.2.2.2.1)],norm:=[.home 11 0]}
def sGetM:Sig:=⟨[(.view .model,false),(.int .i64,false)],[.elem .job,.bool]⟩
def oGetM:sGetM.Out:=fun x k=>Law.MW x.1∧k () ((Law.getM x.1 x.2.1).1,(Law.getM x.1 x.2.1).2,())
def sFitsM:Sig:=⟨[(.view .model,false),(.elem .choice,false)],[.bool]⟩
def oFitsM:sFitsM.Out:=fun x k=>Law.MW x.1∧k () (Law.fitsM x.1 x.2.1,())
def sAhead:Sig:=⟨[(.elem .job,false),(.elem .job,false)],[.bool]⟩
def oAhead:sAhead.Out:=fun x k=>k () (Law.aheadJ x.1 x.2.1,())
def sDropM:Sig:=⟨[(.obj .model,true),(.elem .job,false)],[]⟩
def oDropM:sDropM.Out:=fun x k=>Law.MW x.1∧k (Law.dropM x.1 x.2.1,()) ()
def lDropM:LoopAnn:={X:=Model × Job × Int,live:=fun x=>[(0,.ptr ⟨0,0,0,0⟩),(3,.ptr ⟨1,0,0,0⟩),(4,.int .i64 x.2.2)],heap:=fun x=>[some (.obj .model x.1),some (.raw (EK.enc .job x.2.1))],norm:=[.fold 0 .model]}
def sBeginM:Sig:=⟨[(.obj .model,true),(.int .i64,false)],[]⟩
def oBeginM:sBeginM.Out:=fun x k=>(Law.MW x.1∧0≤x.2.1∧x.2.1<x.1.L.length)∧k (Law.beginM x.1 x.2.1,()) ()
def lBeginM:LoopAnn:={X:=Model × Int × Job × Int × Int × Int × Int,live:=fun x=>[(0,.ptr ⟨0,0,0,0⟩),(1,.int .i64 x.2.1),(4,.ptr ⟨3,0,0,0⟩),(5,.int .u64 x.2.2.2.1),(6,.int .u64 x.2.2.2.2.1),(7,.int .i64 x.2.2.2.2.2.1),(8,.int .i64 x.2.2.2.2.2.2)],heap:=fun x=>[some (.obj .model x.1),none,none,some (.raw (EK.enc .job x.2.2.1))],norm:=[.fold 0 .model]}
def sCommitM:Sig:=⟨[(.obj .model,true),(.elem .choice,false)],[.bool]⟩
def oCommitM:sCommitM.Out:=fun x k=>Law.MW x.1∧k ((Law.commitM x.1 x.2.1).2,()) ((Law.commitM x.1 x.2.1).1,())
def sTell:Sig:=⟨[(.elem .job,false)],[.elem .reply]⟩
def oTell:sTell.Out:=fun x k=>k () (Law.tellR x.1,())
def sLiveM:Sig:=⟨[(.view .model,false)],[.int .i64]⟩
def oLiveM:sLiveM.Out:=fun x k=>Law.MW x.1∧k () (Law.liveN x.1.L,())
def lLiveM:LoopAnn:={X:=Model × Int × Int,live:=fun x=>[(0,mv x.1),(3,.int .i64 x.2.1),(4,.int .i64 x.2.2)],heap:=fun _=>[]}
def sReqM:Sig:=⟨[(.obj .model,true),(.elem .req,false)],[.elem .reply]⟩
def oReqM (f:Model→Req→Reply × Model):sReqM.Out:=fun x k=>Law.MW x.1∧k ((f x.1 x.2.1).2,()) ((f x.1 x.2.1).1,())
def lNextM:LoopAnn:={X:=Model × Int × Int,live:=fun x=>[(0,mv x.1),(3,.int .i64 x.2.1),(4,.int .i64 x.2.2)],heap:=fun _=>[]}
def oNextM:sLiveM.Out:=fun x k=>Law.MW x.1∧k () (Law.nextM x.1,())
def sHapM:Sig:=⟨[(.obj .model,true)],[]⟩
def oHapM:sHapM.Out:=fun x k=>Law.MW x.1∧k (Law.happenM x.1,()) ()
def lHap1:LoopAnn:={X:=Model × Int,live:=fun x=>[(0,.ptr ⟨0,0,0,0⟩),(2,.int .i64 x.2)],heap:=fun x=>[some (.obj .model x.1)],norm:=[.fold 0 .model]}
def lHap2:LoopAnn:={X:=Model × Int,live:=fun x=>[(0,.ptr ⟨0,0,0,0⟩),(4,.int .i64 x.2)],heap:=fun x=>[some (.obj .model x.1)],norm:=[.fold 0 .model]}
def lHap3:LoopAnn:={X:=Model × Int × Int × Int,live:=fun x=>[(0,.ptr ⟨0,0,0,0⟩),(4,.int .i64 x.2.1),(5,.int .i64 x.2.2.1),(6,.int .i64 x.2.2.2)],heap:=fun x=>[some (.obj .model x.1)],norm:=[.fold 0 .model]}
def sTickM:Sig:=⟨[(.obj .model,true),(.int .i64,false)],[.elem .reply]⟩
def oTickM:sTickM.Out:=fun x k=>Law.MW x.1∧k ((Law.tickM x.1 x.2.1).2,()) ((Law.tickM x.1 x.2.1).1,())
def lTickM:LoopAnn:={X:=Model × Int × Int,live:=fun x=>[(0,.ptr ⟨0,0,0,0⟩),(4,.ptr ⟨1,0,0,0⟩),(5,.int .i64 x.2.1),(6,.int .i64 x.2.2)],heap:=fun x=>[some (.obj .model x.1),some (.raw (EK.enc .reply Law.reply0))],norm:=[.fold 0 .model]}
def sCountM:Sig:=⟨[(.view .model,false),(.bool,false),(.int .i64,false),(.int .i64,false)],[.int .i64]⟩
def oCountM:sCountM.Out:=fun x k=>Law.MW x.1∧k () (Law.countM x.1 x.2.1 x.2.2.1 x.2.2.2.1,())
def lCount1:LoopAnn:={X:=Model × Bool × Int × Int × Int × Int,live:=fun x=>[(0,mv x.1),(1,.bool x.2.1),(2,.int .i64 x.2.2.1),(3,.int .i64 x.2.2.2.1),(9,.int .i64 x.2.2.2.2.1),(10,.int .i64 x.2.2.2.2.2)],heap:=fun _=>[]}
def lCount2:LoopAnn:={X:=Model × Bool × Int × Int × Int × Int,live:=fun x=>[(0,mv x.1),(1,.bool x.2.1),(2,.int .i64 x.2.2.1),(3,.int .i64 x.2.2.2.1),(9,.int .i64 x.2.2.2.2.1),(11,.int .i64 x.2.2.2.2.2)],heap:=fun _=>[]}
def sNewM:Sig:=⟨[(.int .i64,false)],[.obj .model]⟩
def oNewM:sNewM.Out:=fun x k=>(0≤x.1∧x.1≤1000)∧k () (Law.newM x.1,())
end Go.Ax.Sp
namespace Go.Ax.Law
def tk {α:Type} (l:List α):List α:=List.take l.length (List.drop 0 l)
theorem tk_eq {α:Type} (l:List α):tk l=l:=by simp [tk]
end Go.Ax.Law
namespace Go.Ax.Law
variable {α:Type}
def atI (xs:List α) (p:Int):Option α:=xs[p.toNat]?
theorem atI_nat (xs:List α) (i:Nat):atI xs (i:Int)=xs[i]? :=by simp [atI]
def Swapped (xs ys:List α) (a b n:Int):Prop:=
  ys.length=xs.length∧ ∀p:Int,0≤p→atI ys p=if a≤p∧p<a+n then atI xs (p-a+b) else if b≤p∧p<b+n then atI xs (p-b+a) else atI xs p
def Rotated (xs ys:List α) (a m b:Int):Prop:=
  ys.length=xs.length∧ ∀p:Int,0≤p→atI ys p=if p<a∨b≤p then atI xs p else if p<a+(b-m) then atI xs (p+(m-a)) else atI xs (p-(b-m))
theorem Swapped.refl (xs:List α) (a b:Int):Swapped xs xs a b 0:=by
  refine ⟨rfl,fun p _=>?_⟩
  rw [if_neg (by omega),if_neg (by omega)]
theorem Swapped.step {xs ys:List α} {a b n:Int} {u v:α} (h:Swapped xs ys a b n) (ha:0≤a) (hb:0≤b) (hn:0≤n) (hab:a+n<b∨b+n<a) (hu:ys[(a+n).toNat]? =some u) (hv:ys[(b+n).toNat]? =some v):
    Swapped xs ((ys.set (a+n).toNat v).set (b+n).toNat u) a b (n+1):=by
  obtain ⟨h1,h2⟩:=h
  have l1:=(List.getElem?_eq_some_iff.1 hu).1
  have l2:=(List.getElem?_eq_some_iff.1 hv).1
  have hu':=h2 (a+n) (by omega)
  have hv':=h2 (b+n) (by omega)
  rw [if_neg (by omega),if_neg (by omega)] at hu' hv'
  have hu2:atI ys (a+n)=some u:=hu
  have hv2:atI ys (b+n)=some v:=hv
  rw [hu2] at hu'
  rw [hv2] at hv'
  refine ⟨by simpa using h1,fun p hp=>?_⟩
  have hg:atI ((ys.set (a+n).toNat v).set (b+n).toNat u) p=if p=b+n then some u else if p=a+n then some v else atI ys p:=by
    simp only [atI,List.getElem?_set,List.length_set]
    by_cases e1:p=b+n
    · rw [if_pos (by omega),if_pos l2,if_pos e1]
    · rw [if_neg (by omega),if_neg e1]
      by_cases e2:p=a+n
      · rw [if_pos (by omega),if_pos l1,if_pos e2]
      · rw [if_neg (by omega),if_neg e2]
  rw [hg,h2 p hp]
  by_cases e1:p=b+n
  · subst e1
    rw [if_pos rfl,if_neg (by omega),if_pos (by omega),hu']
    congr 1;omega
  · rw [if_neg e1]
    by_cases e2:p=a+n
    · subst e2
      rw [if_pos rfl,if_pos (by omega),hv']
      congr 1;omega
    · rw [if_neg e2]
      by_cases c1:a≤p∧p<a+n
      · rw [if_pos c1,if_pos (by omega)]
      · rw [if_neg c1]
        by_cases c2:b≤p∧p<b+n
        · rw [if_pos c2,if_neg (by omega),if_pos (by omega)]
        · rw [if_neg c2,if_neg (by omega),if_neg (by omega)]
theorem Rotated.one {xs ys:List α} {m i:Int} (hm:i≤m) (hi:0≤i) (h:Swapped xs ys (m-i) m i):Rotated xs ys (m-i) m (m+i):=by
  obtain ⟨h1,h2⟩:=h
  refine ⟨h1,fun p hp=>?_⟩
  rw [h2 p hp]
  by_cases c1:p<m-i∨m+i≤p
  · rw [if_neg (by omega),if_neg (by omega),if_pos c1]
  · rw [if_neg c1]
    by_cases c2:p<m
    · rw [if_pos (by omega),if_pos (by omega)]<;>(congr 1;omega)
    · rw [if_neg (by omega),if_pos (by omega),if_neg (by omega)]<;>(congr 1;omega)
theorem Rotated.left {xs cs ys:List α} {m i j:Int} (hm:i≤m) (hj:0≤j) (hij:j<i) (h:Swapped xs cs (m-i) m j) (hr:Rotated cs ys (m-(i-j)) m (m+j)):Rotated xs ys (m-i) m (m+j):=by
  obtain ⟨h1,h2⟩:=h
  obtain ⟨h3,h4⟩:=hr
  refine ⟨by rw [h3,h1],fun p hp=>?_⟩
  rw [h4 p hp]
  by_cases c1:p<m-i∨m+j≤p
  · rw [if_pos (by omega),if_pos c1,h2 p hp,if_neg (by omega),if_neg (by omega)]
  · rw [if_neg c1]
    by_cases c2:p<m-i+j
    · rw [if_pos (by omega),h2 p hp,if_pos (by omega),if_pos (by omega)]<;>(congr 1;omega)
    · rw [if_neg (by omega)]
      by_cases c3:p<m-(i-j)+j
      · rw [if_pos (by omega),h2 _ (by omega),if_neg (by omega),if_pos (by omega),if_neg (by omega)]<;>(congr 1;omega)
      · rw [if_neg (by omega),h2 _ (by omega),if_neg (by omega),if_neg (by omega),if_neg (by omega)]<;>(congr 1;omega)
theorem Rotated.right {xs cs ys:List α} {m i j:Int} (hm:i≤m) (hi:0≤i) (hij:i<j) (h:Swapped xs cs (m-i) (m+j-i) i) (hr:Rotated cs ys (m-i) m (m+(j-i))):Rotated xs ys (m-i) m (m+j):=by
  obtain ⟨h1,h2⟩:=h
  obtain ⟨h3,h4⟩:=hr
  refine ⟨by rw [h3,h1],fun p hp=>?_⟩
  rw [h4 p hp]
  by_cases c1:p<m-i∨m+j≤p
  · rw [if_pos (by omega),if_pos c1,h2 p hp,if_neg (by omega),if_neg (by omega)]
  · rw [if_neg c1]
    by_cases c2:m+(j-i)≤p
    · rw [if_pos (by omega),h2 p hp,if_neg (by omega),if_pos (by omega),if_neg (by omega)]<;>(congr 1;omega)
    · rw [if_neg (by omega)]
      by_cases c3:p<m-i+(j-i)
      · rw [if_pos (by omega),h2 _ (by omega),if_neg (by omega),if_neg (by omega),if_pos (by omega)]<;>(congr 1;omega)
      · rw [if_neg (by omega),h2 _ (by omega)]
        rw [if_pos (by omega),if_pos (by omega)]<;>(congr 1;omega)
def Rises (key:α→Int) (xs:List α) (a b:Int):Prop:= ∀(p q:Int) (x y:α),0≤p→a≤p→p<q→q<b→atI xs p=some x→atI xs q=some y→key x≤key y
theorem Rises.le {key:α→Int} {xs:List α} {a b:Int} (h:Rises key xs a b) {p q:Int} {x y:α} (h0:0≤p) (h1:a≤p) (h2:p≤q) (h3:q<b) (hx:atI xs p=some x) (hy:atI xs q=some y):key x≤key y:=by
  by_cases e:p=q
  · subst e;rw [hx] at hy;cases hy;exact Int.le_refl _
  · exact h p q x y h0 h1 (by omega) h3 hx hy
theorem SortedSeg.rises {key:α→Int} {xs ys:List α} {a b:Int} (h:SortedSeg key xs ys a b):Rises key ys a b:=by
  intro p q x y h0 h1 h2 h3 hx hy
  obtain ⟨p,rfl⟩:=Int.eq_ofNat_of_zero_le h0
  obtain ⟨q,rfl⟩:=Int.eq_ofNat_of_zero_le (show 0≤q by omega)
  rw [atI_nat] at hx hy
  exact h.2.2.1 p q x y h1 (by omega) h3 hx hy
theorem SortedSeg.out {key:α→Int} {xs ys:List α} {a b:Int} (h:SortedSeg key xs ys a b) {p:Int} (h0:0≤p) (hp:p<a∨b≤p):atI ys p=atI xs p:=by
  obtain ⟨p,rfl⟩:=Int.eq_ofNat_of_zero_le h0
  rw [atI_nat,atI_nat]
  exact h.2.1 p hp
theorem SortedSeg.mk2 {key:α→Int} {xs ys:List α} {a b:Int} (h1:ys.length=xs.length) (h2: ∀p:Int,0≤p→(p<a∨b≤p)→atI ys p=atI xs p) (h3:Rises key ys a b) (h4: ∀c,ys.filter (keyIs key c)=xs.filter (keyIs key c)):SortedSeg key xs ys a b:=
  ⟨h1,fun i hi=>by rw [←atI_nat,←atI_nat];exact h2 i (by omega) hi,fun i j x y ha hij hj hx hy=>h3 i j x y (by omega) ha (by omega) hj (by rw [atI_nat];exact hx) (by rw [atI_nat];exact hy),h4⟩
theorem SortedSeg.same {key:α→Int} {xs:List α} {a b:Int} (h:Rises key xs a b):SortedSeg key xs xs a b:= .mk2 rfl (fun _ _ _=>rfl) h fun _=>rfl
theorem split3 (xs:List α) (a b:Nat) (hab:a≤b):xs=xs.take a++(xs.drop a).take (b-a)++xs.drop b:=by
  have h1:xs.drop b=(xs.drop a).drop (b-a):=by rw [List.drop_drop]<;>(congr 1;omega)
  rw [List.append_assoc,h1,List.take_append_drop,List.take_append_drop]
theorem SortedSeg.mem {key:α→Int} {xs ys:List α} {a b:Nat} (h:SortedSeg key xs ys a b) (hab:a≤b) {i:Nat} {x:α} (hi:a≤i) (hi2:i<b) (hx:ys[i]? =some x): ∃(q:Nat) (y:α),a≤q∧q<b∧xs[q]? =some y∧key y=key x:=by
  obtain ⟨h1,h2,_,h4⟩:=h
  have ht:ys.take a=xs.take a:=by
    apply List.ext_getElem?
    intro p
    by_cases hp:p<a
    · rw [List.getElem?_take_of_lt hp,List.getElem?_take_of_lt hp]
      exact h2 p (by omega)
    · rw [List.getElem?_take_eq_none (by omega),List.getElem?_take_eq_none (by omega)]
  have hd:ys.drop b=xs.drop b:=by
    apply List.ext_getElem?
    intro p
    rw [List.getElem?_drop,List.getElem?_drop]
    exact h2 (b+p) (by omega)
  have hc:(ys.countP (keyIs key (key x)))=xs.countP (keyIs key (key x)):=by
    rw [List.countP_eq_length_filter,List.countP_eq_length_filter,h4]
  rw [split3 ys a b hab,split3 xs a b hab,ht,hd] at hc
  simp only [List.countP_append] at hc
  have hpos:0<((ys.drop a).take (b-a)).countP (keyIs key (key x)):=by
    rw [List.countP_pos_iff]
    refine ⟨x,?_,by simp [keyIs]⟩
    refine List.mem_iff_getElem?.2 ⟨i-a,?_⟩
    rw [List.getElem?_take_of_lt (by omega),List.getElem?_drop,show a+(i-a)=i by omega]
    exact hx
  have hpos2:0<((xs.drop a).take (b-a)).countP (keyIs key (key x)):=by omega
  rw [List.countP_pos_iff] at hpos2
  obtain ⟨y,hy,hk⟩:=hpos2
  obtain ⟨q,hq⟩:=List.mem_iff_getElem?.1 hy
  have hql:=(List.getElem?_eq_some_iff.1 hq).1
  simp only [List.length_take,List.length_drop] at hql
  rw [List.getElem?_take_of_lt (by omega),List.getElem?_drop] at hq
  exact ⟨a+q,y,by omega,by omega,hq,by simpa [keyIs] using hk⟩
theorem Rotated.filter {key:α→Int} {xs ys:List α} {s m e:Nat} (h:Rotated xs ys s m e) (hs:s≤m) (hm:m≤e) (he:e≤xs.length) (hlt: ∀(p q:Nat) (x y:α),s≤p→p<m→m≤q→q<e→xs[p]? =some x→xs[q]? =some y→key y<key x) (c:Int):
    ys.filter (keyIs key c)=xs.filter (keyIs key c):=by
  obtain ⟨h1,h2⟩:=h
  have hx:xs=xs.take s++(((xs.drop s).take (m-s)++(xs.drop m).take (e-m))++xs.drop e):=by
    have e1:=split3 xs s e (by omega)
    have e2:(xs.drop s).take (e-s)=(xs.drop s).take (m-s)++(xs.drop m).take (e-m):=by
      have:=List.take_add (l:=xs.drop s) (i:=m-s) (j:=e-m)
      rw [show m-s+(e-m)=e-s by omega,List.drop_drop,show s+(m-s)=m by omega] at this
      exact this
    rw [e2,List.append_assoc] at e1
    exact e1
  have hy:ys=xs.take s++(((xs.drop m).take (e-m)++(xs.drop s).take (m-s))++xs.drop e):=by
    apply List.ext_getElem?
    intro p
    have hp:=h2 (p:Int) (by omega)
    rw [atI_nat] at hp
    rw [hp]
    simp only [List.getElem?_append,List.length_append,List.length_take,List.length_drop]
    by_cases c1:p<s
    · rw [if_pos (by omega),if_pos (by omega),List.getElem?_take_of_lt c1,atI_nat]
    · rw [if_neg (by omega: ¬ p<min s xs.length)]
      by_cases c2:p<s+(e-m)
      · rw [if_neg (by omega),if_pos (by omega),if_pos (by omega),if_pos (by omega),List.getElem?_take_of_lt (by omega),List.getElem?_drop]
        simp only [atI]<;>(congr 1;omega)
      · by_cases c3:p<e
        · rw [if_neg (by omega),if_neg (by omega),if_pos (by omega),if_neg (by omega),List.getElem?_take_of_lt (by omega),List.getElem?_drop]
          simp only [atI]<;>(congr 1;omega)
        · rw [if_pos (by omega),if_neg (by omega),List.getElem?_drop]
          simp only [atI]<;>(congr 1;omega)
  rw [hy]
  conv=>rhs;rw [hx]
  simp only [List.filter_append]
  congr 1
  congr 1
  have hmem: ∀{l n:Nat} {z:α},z∈(xs.drop l).take n→ ∃q,l≤q∧q<l+n∧xs[q]? =some z:=by
    intro l n z hz
    obtain ⟨q,hq⟩:=List.mem_iff_getElem?.1 hz
    have hql:=(List.getElem?_eq_some_iff.1 hq).1
    simp only [List.length_take,List.length_drop] at hql
    rw [List.getElem?_take_of_lt (by omega),List.getElem?_drop] at hq
    exact ⟨l+q,by omega,by omega,hq⟩
  by_cases hA:((xs.drop s).take (m-s)).filter (keyIs key c)=[]
  · rw [hA];simp
  · have hB:((xs.drop m).take (e-m)).filter (keyIs key c)=[]:=by
      rw [List.filter_eq_nil_iff]
      intro y hy hky
      obtain ⟨x,hx⟩:=List.exists_mem_of_ne_nil _ hA
      obtain ⟨hx1,hx2⟩:=List.mem_filter.1 hx
      obtain ⟨p,p1,p2,p3⟩:=hmem hx1
      obtain ⟨q,q1,q2,q3⟩:=hmem hy
      have:=hlt p q x y p1 (by omega) q1 (by omega) p3 q3
      simp only [keyIs,decide_eq_true_eq] at hx2 hky
      omega
    rw [hB];simp
theorem atI_some {xs:List α} {p:Int} (h0:0≤p) (h:p<xs.length): ∃x,atI xs p=some x:=⟨_,List.getElem?_eq_getElem (by omega)⟩
theorem Rotated.triv {xs:List α} {s m e:Int} (h:s=m∨m=e) (hs:s≤m) (he:m≤e):Rotated xs xs s m e:=by
  refine ⟨rfl,fun p _=>?_⟩
  by_cases c1:p<s∨e≤p
  · rw [if_pos c1]
  · rw [if_neg c1]
    by_cases c2:p<s+(e-m)
    · rw [if_pos c2]<;>(congr 1;omega)
    · rw [if_neg c2]<;>(congr 1;omega)
structure Halves (key:α→Int) (xs ys:List α) (a st mid en b:Int):Prop where
  len:ys.length=xs.length
  out: ∀p:Int,0≤p→(p<a∨b≤p)→atI ys p=atI xs p
  r1:Rises key ys a st
  r2:Rises key ys st mid
  r3:Rises key ys mid en
  r4:Rises key ys en b
  cross: ∀(p q:Int) (x y:α),a≤p→p<mid→mid≤q→q<b→atI ys p=some x→atI ys q=some y→key x≤key y
  fil: ∀c,ys.filter (keyIs key c)=xs.filter (keyIs key c)
theorem halves {key:α→Int} {xs ys:List α} {a m b mid st en lo hi:Int} (h0:0≤a) (ham:a<m) (hmb:m<b) (hbl:b≤xs.length) (hm1:a<mid) (hm2:mid<b)
    (hlh:(mid<m∧lo=mid+m-b∧hi=mid)∨(m≤mid∧lo=a∧hi=m)) (hla:a≤lo) (hst1:lo≤st) (hst2:st≤hi) (hen:en=mid+m-st) (heb:en≤b)
    (s1:Rises key xs a m) (s2:Rises key xs m b)
    (c1: ∀(c:Int) (x y:α),lo≤c→c<st→atI xs c=some x→atI xs (mid+m-1-c)=some y→key x≤key y)
    (c2: ∀(c:Int) (x y:α),st≤c→c<hi→atI xs c=some x→atI xs (mid+m-1-c)=some y→key y<key x)
    (hr:Rotated xs ys st m en):Halves key xs ys a st mid en b:=by
  obtain ⟨hl,hr2⟩:=hr
  have e1: ∀p,0≤p→p<st→atI ys p=atI xs p:=fun p hp h=>by rw [hr2 p hp,if_pos (by omega)]
  have e4: ∀p,0≤p→en≤p→atI ys p=atI xs p:=fun p hp h=>by rw [hr2 p hp,if_pos (by omega)]
  have e2: ∀p,st≤p→p<mid→atI ys p=atI xs (p+(m-st)):=fun p h1 h2=>by rw [hr2 p (by omega),if_neg (by omega),if_pos (by omega)]
  have e3: ∀p,mid≤p→p<en→atI ys p=atI xs (p-(en-m)):=fun p h1 h2=>by rw [hr2 p (by omega),if_neg (by omega),if_neg (by omega)]
  have strict: ∀(p q:Int) (x y:α),st≤p→p<m→m≤q→q<en→atI xs p=some x→atI xs q=some y→key y<key x:=by
    intro p q x y p1 p2 q1 q2 hx hy
    obtain ⟨u,hu⟩:=atI_some (xs:=xs) (p:=st) (by omega) (by omega)
    obtain ⟨v,hv⟩:=atI_some (xs:=xs) (p:=en-1) (by omega) (by omega)
    have hs:=c2 st u v (Int.le_refl _) (by omega) hu (by rw [←hv]<;>(congr 1;omega))
    have l1:=s1.le (by omega) (by omega) p1 p2 hu hx
    have l2:=s2.le (by omega) q1 (by omega:q≤en-1) (by omega) hy hv
    omega
  refine ⟨hl,fun p hp ho=>?_,?_,?_,?_,?_,?_,fun c=>?_⟩
  · rcases ho with ho |ho
    · exact e1 p hp (by omega)
    · exact e4 p hp (by omega)
  · intro p q x y p0 p1 pq q1 hx hy
    rw [e1 p p0 (by omega)] at hx
    rw [e1 q (by omega) q1] at hy
    exact s1 p q x y p0 p1 pq (by omega) hx hy
  · intro p q x y p0 p1 pq q1 hx hy
    rw [e2 p p1 (by omega)] at hx
    rw [e2 q (by omega) q1] at hy
    exact s2 _ _ x y (by omega) (by omega) (by omega) (by omega) hx hy
  · intro p q x y p0 p1 pq q1 hx hy
    rw [e3 p p1 (by omega)] at hx
    rw [e3 q (by omega) q1] at hy
    exact s1 _ _ x y (by omega) (by omega) (by omega) (by omega) hx hy
  · intro p q x y p0 p1 pq q1 hx hy
    rw [e4 p p0 p1] at hx
    rw [e4 q (by omega) (by omega)] at hy
    exact s2 _ _ x y p0 (by omega) pq q1 hx hy
  · intro p q x y p1 p2 q1 q2 hx hy
    by_cases hp:p<st
    · rw [e1 p (by omega) hp] at hx
      by_cases hq:q<en
      · rw [e3 q q1 hq] at hy
        exact s1.le (by omega) p1 (by omega) (by omega) hx hy
      · rw [e4 q (by omega) (by omega)] at hy
        obtain ⟨u,hu⟩:=atI_some (xs:=xs) (p:=st-1) (by omega) (by omega)
        obtain ⟨v,hv⟩:=atI_some (xs:=xs) (p:=en) (by omega) (by omega)
        have hs:=c1 (st-1) u v (by omega) (by omega) hu (by rw [←hv]<;>(congr 1;omega))
        have l1:=s1.le (by omega) p1 (by omega:p≤st-1) (by omega) hx hu
        have l2:=s2.le (by omega) (by omega) (by omega:en≤q) q2 hv hy
        omega
    · rw [e2 p (by omega) p2] at hx
      by_cases hq:q<en
      · rw [e3 q q1 hq] at hy
        have:=strict _ _ y x (by omega) (by omega) (by omega) (by omega) hy hx
        omega
      · rw [e4 q (by omega) (by omega)] at hy
        exact s2.le (by omega) (by omega) (by omega) q2 hx hy
  · obtain ⟨s',rfl⟩:=Int.eq_ofNat_of_zero_le (show 0≤st by omega)
    obtain ⟨m',rfl⟩:=Int.eq_ofNat_of_zero_le (show 0≤m by omega)
    obtain ⟨e',rfl⟩:=Int.eq_ofNat_of_zero_le (show 0≤en by omega)
    refine Rotated.filter ⟨hl,hr2⟩ (by omega) (by omega) (by omega) (fun p q x y p1 p2 q1 q2 hx hy=>?_) c
    exact strict p q x y (by omega) (by omega) (by omega) (by omega) (by rw [atI_nat];exact hx) (by rw [atI_nat];exact hy)
theorem Halves.merge {key:α→Int} {xs ys zs ws:List α} {a st mid en b:Int} (h:Halves key xs ys a st mid en b) (h0:0≤a) (ham:a≤mid) (hmb:mid≤b) (hz:SortedSeg key ys zs a mid) (hw:SortedSeg key zs ws mid b):SortedSeg key xs ws a b:=by
  obtain ⟨a,rfl⟩:=Int.eq_ofNat_of_zero_le h0
  obtain ⟨mid,rfl⟩:=Int.eq_ofNat_of_zero_le (show 0≤mid by omega)
  obtain ⟨b,rfl⟩:=Int.eq_ofNat_of_zero_le (show 0≤b by omega)
  refine .mk2 (by rw [hw.1,hz.1,h.len]) (fun p hp ho=>?_) ?_ fun c=>by rw [hw.2.2.2,hz.2.2.2,h.fil]
  · rw [hw.out hp (by omega),hz.out hp (by omega),h.out p hp ho]
  · intro p q x y p0 p1 pq q1 hx hy
    by_cases hq:q<mid
    · rw [hw.out p0 (by omega)] at hx
      rw [hw.out (by omega) (by omega)] at hy
      exact hz.rises p q x y p0 p1 pq hq hx hy
    · by_cases hp:p<mid
      · rw [hw.out p0 (by omega)] at hx
        obtain ⟨p,rfl⟩:=Int.eq_ofNat_of_zero_le p0
        obtain ⟨q,rfl⟩:=Int.eq_ofNat_of_zero_le (show 0≤q by omega)
        rw [atI_nat] at hx hy
        obtain ⟨p',x',u1,u2,u3,u4⟩:=hz.mem (by omega) (by omega) (by omega) hx
        obtain ⟨q',y',v1,v2,v3,v4⟩:=hw.mem (by omega) (by omega) (by omega) hy
        rw [←atI_nat,hz.out (by omega) (by omega)] at v3
        rw [←u4,←v4]
        exact h.cross p' q' x' y' (by omega) (by omega) (by omega) (by omega) (by rw [atI_nat];exact u3) v3
      · exact hw.rises p q x y p0 (by omega) pq q1 hx hy
end Go.Ax.Law
namespace Go.Ax.Law
def SmallIdsB (xs:List Job):Prop:= ∀c∈xs,-9223372036854775808≤c.Id∧c.Id≤9223372036854775807
def InsPreB (xs:List Job) (a b:Int):Prop:=SmallIdsB xs∧0≤a∧a≤b∧b≤xs.length∧xs.length≤1099511627776
def SwapPreB (xs:List Job) (a b n:Int):Prop:=0≤a∧0≤b∧0≤n∧a+n≤xs.length∧b+n≤xs.length∧(a+n≤b∨b+n≤a)∧xs.length≤1099511627776
def RotPreB (xs:List Job) (a m b:Int):Prop:=0≤a∧a<m∧m<b∧b≤xs.length∧xs.length≤1099511627776
def SymPreB (N:Nat) (xs:List Job) (a m b:Int):Prop:=RotPreB xs a m b∧SmallIdsB xs∧(b-a).toNat<N∧Rises Law.keyJ xs a m∧Rises Law.keyJ xs m b
def StabPreB (xs:List Job):Prop:=SmallIdsB xs∧xs.length≤1099511627776
end Go.Ax.Law
namespace Go.Ax.Sp
def sInsB (f:FuncId):Sig:=⟨[(.row .job,true),(.int .i64,false),(.int .i64,false),(.fn f,false)],[]⟩
def oInsB (f:FuncId):(sInsB f).Out:=fun x k=>Law.InsPreB x.1 x.2.1 x.2.2.1∧ ∀ys,Law.SortedSeg Law.keyJ x.1 ys x.2.1 x.2.2.1→k (ys,()) ()
def lIns1B (f:FuncId):LoopAnn:={X:=List Job × Int × Int × Int,live:=fun x=>[(0,.sl 0 10 0 x.1.length),(1,.int .i64 x.2.1),(2,.int .i64 x.2.2.1),(3,.fn f []),(8,.int .i64 x.2.2.2)],heap:=fun x=>[some (.row .job x.1)]}
def lIns2B (f:FuncId):LoopAnn:={X:=List Job × Int × Int × Int × Int,live:=fun x=>[(0,.sl 0 10 0 x.1.length),(1,.int .i64 x.2.1),(2,.int .i64 x.2.2.1),(3,.fn f []),(8,.int .i64 x.2.2.2.1),(9,.int .i64 x.2.2.2.2)],heap:=fun x=>[some (.row .job x.1)]}
def sSortFB (f:FuncId):Sig:=⟨[(.row .job,true),(.fn f,false)],[]⟩
def sSwapRB (f:FuncId):Sig:=⟨[(.row .job,true),(.int .i64,false),(.int .i64,false),(.int .i64,false),(.fn f,false)],[]⟩
def oSwapRB (f:FuncId):(sSwapRB f).Out:=fun x k=>Law.SwapPreB x.1 x.2.1 x.2.2.1 x.2.2.2.1∧ ∀ys,Law.Swapped x.1 ys x.2.1 x.2.2.1 x.2.2.2.1→k (ys,()) ()
def lSwapRB:LoopAnn:={X:=List Job × Int × Int × Int × Int,live:=fun x=>[(0,.sl 0 10 0 x.1.length),(1,.int .i64 x.2.1),(2,.int .i64 x.2.2.1),(3,.int .i64 x.2.2.2.1),(10,.int .i64 x.2.2.2.2)],heap:=fun x=>[some (.row .job x.1)]}
def oRotB (f:FuncId):(sSwapRB f).Out:=fun x k=>Law.RotPreB x.1 x.2.1 x.2.2.1 x.2.2.2.1∧ ∀ys,Law.Rotated x.1 ys x.2.1 x.2.2.1 x.2.2.2.1→k (ys,()) ()
def lRotB (f:FuncId):LoopAnn:={X:=List Job × Int × Int × Int,live:=fun x=>[(0,.sl 0 10 0 x.1.length),(2,.int .i64 x.2.1),(4,.fn f []),(10,.int .i64 x.2.2.1),(11,.int .i64 x.2.2.2)],heap:=fun x=>[some (.row .job x.1)]}
def oSymB (f:FuncId) (N:Nat):(sSwapRB f).Out:=fun x k=>Law.SymPreB N x.1 x.2.1 x.2.2.1 x.2.2.2.1∧ ∀ys,Law.SortedSeg Law.keyJ x.1 ys x.2.1 x.2.2.2.1→k (ys,()) ()
def lSy1B (f:FuncId):LoopAnn:={X:=List Job × Int × Int × Int,live:=fun x=>[(0,.sl 0 10 0 x.1.length),(1,.int .i64 x.2.1),(4,.fn f []),(10,.int .i64 x.2.2.1),(11,.int .i64 x.2.2.2)],heap:=fun x=>[some (.row .job x.1)]}
def lSy2B:LoopAnn:={X:=List Job × Int × Int,live:=fun x=>[(0,.sl 0 10 0 x.1.length),(10,.int .i64 x.2.1),(13,.int .i64 x.2.2)],heap:=fun x=>[some (.row .job x.1)]}
def lSy3B (f:FuncId):LoopAnn:={X:=List Job × Int × Int × Int,live:=fun x=>[(0,.sl 0 10 0 x.1.length),(2,.int .i64 x.2.1),(4,.fn f []),(14,.int .i64 x.2.2.1),(15,.int .i64 x.2.2.2)],heap:=fun x=>[some (.row .job x.1)]}
def lSy4B:LoopAnn:={X:=List Job × Int × Int,live:=fun x=>[(0,.sl 0 10 0 x.1.length),(14,.int .i64 x.2.1),(17,.int .i64 x.2.2)],heap:=fun x=>[some (.row .job x.1)]}
def lSy5B (f:FuncId):LoopAnn:={X:=List Job × Int × Int × Int × Int × Int × Int × Int × Int,live:=fun x=>[(0,.sl 0 10 0 x.1.length),(1,.int .i64 x.2.1),(2,.int .i64 x.2.2.1),(3,.int .i64 x.2.2.2.1),(4,.fn f []),(18,.int .i64 x.2.2.2.2.1),(19,.int .i64 x.2.2.2.2.2.1),(20,.int .i64 x.2.2.2.2.2.2.1),(21,.int .i64 x.2.2.2.2.2.2.2.1),(22,.int .i64 x.2.2.2.2.2.2.2.2)],heap:=fun x=>[some (.row .job x.1)]}
def sStabB (f:FuncId):Sig:=⟨[(.row .job,true),(.int .i64,false),(.fn f,false)],[]⟩
def oStabB (f:FuncId):(sStabB f).Out:=fun x k=>(Law.StabPreB x.1∧x.2.1=x.1.length)∧ ∀ys,Law.SortedSeg Law.keyJ x.1 ys 0 x.1.length→k (ys,()) ()
def lSt1B (f:FuncId):LoopAnn:={X:=List Job × Int × Int × Int × Int,live:=fun x=>[(0,.sl 0 10 0 x.1.length),(1,.int .i64 x.2.1),(2,.fn f []),(6,.int .i64 x.2.2.1),(7,.int .i64 x.2.2.2.1),(8,.int .i64 x.2.2.2.2)],heap:=fun x=>[some (.row .job x.1)]}
def lSt2B (f:FuncId):LoopAnn:={X:=List Job × Int × Int,live:=fun x=>[(0,.sl 0 10 0 x.1.length),(1,.int .i64 x.2.1),(2,.fn f []),(6,.int .i64 x.2.2)],heap:=fun x=>[some (.row .job x.1)]}
def oStabFB (f:FuncId):(sSortFB f).Out:=fun x k=>Law.StabPreB x.1∧ ∀ys,Law.SortedSeg Law.keyJ x.1 ys 0 x.1.length→k (ys,()) ()
end Go.Ax.Sp
namespace Go.Ax
def cutSpec (k:EK) (n:Nat):SpecT:=fun args H K=>match args with
 | [.imm k' xs]=>if h:k'=k then forceL (List.range H.length) fun T=>K (.imm k ((h▸xs:List k.T).take n)) H T else False
 |_=>False
variable [Surr]
theorem cut_sound {E:LEnv} (hE:E.toEnv.OK) {f:FuncId} {fn:Func} (hf:E.P.funcs[f]? =some fn) {k:EK} {n:Nat}
  (hb: ∀(xs:List k.T) (H:AHeap) (K:AV→AHeap→List Nat→Prop),inlSpec E fn [.imm k xs] H K=forceL (List.range H.length) fun T=>br (decide ((xs.length:Int)>(n:Int))) (((0:Int)≤0∧(0:Int)≤(n:Int)∧(n:Int)≤xs.length)∧K (.imm k ((xs.take (Int.toNat (n:Int))).drop (Int.toNat 0))) H T) (K (.imm k xs) H T)):
  SpecOK E.P f (cutSpec k n):=by
 intro args H K h
 have hi:=inl_sound hE hf
 unfold cutSpec at h
 split at h
 ·rename_i k' xs
  split at h
  ·rename_i hk
   subst hk
   refine hi _ _ _ ?_
   rw [hb]
   simp only [forceL_eq] at h ⊢
   by_cases hl:(xs.length:Int)>(n:Int)
   ·simp only [hl,decide_true,br]
    exact ⟨⟨by decide,by omega,by omega⟩,by simpa using h⟩
   ·simp only [hl,decide_false,br]
    rw [List.take_of_length_le (by omega)] at h
    exact h
  ·exact h.elim
 ·exact h.elim
end Go.Ax
namespace Go.Ax.Law
def wholeF:Nat→Int→Work→Core→Int × Work × Core
 |0,_,w,c=>(0,w,c)
 |f+1,n,w,c=>if (stepW w c).1.done then (n,stepW w c) else wholeF f (n+1) (stepW w c).1 (stepW w c).2
def wholeW (w:Work) (c:Core):Int × Work × Core:=wholeF 1999 1 w c
def deedW (d:Deed):Work:=if d.Commit then newX d.X else newW d.R
def doD (c:Core) (d:Deed):Core:=(wholeW (deedW d) c).2.2
def madeC (n:Int) (l:List Deed):Core:=(l.take 60).foldl doD (newCore n)
def eqJ (a b:Job):Bool:=a.Id==b.Id&&(a.User==b.User&&(a.Width==b.Width&&(a.Limit==b.Limit&&(a.Prio==b.Prio&&(a.State==b.State&&(a.Start==b.Start&&(a.End==b.End&&(a.Plan==b.Plan&&(a.Nodes==b.Nodes&&true)))))))))
def eqS (a b:Step):Bool:=a.At==b.At&&(a.Free==b.Free&&true)
def sameJ:List Job→List Job→Bool
 | [],[]=>true
 |a::l,b::r=>eqJ a b&&sameJ l r
 |_,_=>false
def sameS:List Step→List Step→Bool
 | [],[]=>true
 |a::l,b::r=>eqS a b&&sameS l r
 |_,_=>false
end Go.Ax.Law
namespace Go.Ax.Sp
def sWhole:Sig:=⟨[(.obj .core,true),(.obj .work,true)],[.int .i64]⟩
def PreWh (w:Work) (c:Core):Prop:=Law.CW c∧Law.WW w∧c.P.steps.length≤4294900000
def oWhole:sWhole.Out:=fun x k=>PreWh x.2.1 x.1∧k ((Law.wholeW x.2.1 x.1).2.2,(Law.wholeW x.2.1 x.1).2.1,()) ((Law.wholeW x.2.1 x.1).1,())
def lWhole:LoopAnn:={X:=Core × Work × Int,live:=fun x=>[(0,.ptr ⟨0,0,0,0⟩),(1,.ptr ⟨1,0,0,0⟩),(5,.int .i64 x.2.2)],heap:=fun x=>[some (.obj .core x.1),some (.obj .work x.2.1)],norm:=[.fold 0 .core,.fold 1 .work]}
def sMade:Sig:=⟨[(.int .i64,false),(.imm .deed,false)],[.opt .core]⟩
def oMade:sMade.Out:=fun x k=>((x.1<1∨64<x.1)→k () (none,()))∧(1≤x.1∧x.1≤64→k () (some (Law.madeC x.1 x.2.1),()))
def lMade:LoopAnn:={X:=List Deed × Core × Int,live:=fun x=>[(1,.imm .deed x.1),(5,.ptr ⟨0,0,0,0⟩),(7,.int .i64 x.2.2)],heap:=fun x=>[some (.obj .core x.2.1)],norm:=[.fold 0 .core]}
def sYes:Sig:=⟨[],[.bool]⟩
def oYes:sYes.Out:=fun _ k=>k () (true,())
def sSameJ:Sig:=⟨[(.imm .job,false),(.imm .job,false)],[.bool]⟩
def oSameJ:sSameJ.Out:=fun x k=>(x.1.length≤1099511627776)∧k () (Law.sameJ x.1 x.2.1,())
def lSameJ:LoopAnn:={X:=List Job × List Job × Int,live:=fun x=>[(0,.imm .job x.1),(1,.imm .job x.2.1),(5,.int .i64 x.2.2)],heap:=fun _=>[]}
def sSameS:Sig:=⟨[(.imm .step,false),(.imm .step,false)],[.bool]⟩
def oSameS:sSameS.Out:=fun x k=>(x.1.length≤1099511627776)∧k () (Law.sameS x.1 x.2.1,())
def lSameS:LoopAnn:={X:=List Step × List Step × Int,live:=fun x=>[(0,.imm .step x.1),(1,.imm .step x.2.1),(5,.int .i64 x.2.2)],heap:=fun _=>[]}
def sWants:Sig:=⟨[(.int .i64,false),(.imm .deed,false),(.elem .req,false)],[.bool]⟩
def oWants:sWants.Out:=fun _ k=>k () (true,())
def sTwins:Sig:=⟨[(.int .i64,false),(.imm .deed,false),(.imm .deed,false)],[.bool]⟩
def oTwins:sTwins.Out:=fun _ k=>k () (true,())
def lTwins:LoopAnn:={X:=Core × List Job × List Step × Core × List Deed × Int,live:=fun x=>[(2,.imm .deed x.2.2.2.2.1),(7,.ptr ⟨0,0,0,0⟩),(8,.sl 1 10 0 x.2.1.length),(9,.sl 2 2 0 x.2.2.1.length),(10,.ptr ⟨6,0,0,0⟩),(11,.int .i64 x.2.2.2.2.2)],heap:=fun x=>[some (.obj .core x.1),some (.row .job x.2.1),some (.row .step x.2.2.1),none,none,none,some (.obj .core x.2.2.2.1)],norm:=[.fold 0 .core,.home 8 1,.home 9 2,.fold 6 .core]}
end Go.Ax.Sp
