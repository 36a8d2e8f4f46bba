import Derived.Test.YtbmabiedmdlinaaGreatDoorAxG
import Derived.IntWalk
import Derived.Lib.TrailingZeros
set_option linter.all false
namespace Go.Ax
theorem br_dec {p:Prop} [Decidable p] {A B:Prop} (h1:p→A) (h2: ¬ p→B):br (decide p) A B:=by
  by_cases h:p
  · simp only [h,decide_true,br];exact h1 h
  · simp only [h,decide_false,br];exact h2 h
theorem br_bool {b:Bool} {A B:Prop} (h1:b=true→A) (h2:b=false→B):br b A B:=by
  cases b with
  |true=>exact h1 rfl
  |false=>exact h2 rfl
theorem br_not {b:Bool} {A B:Prop} (h1:b=false→A) (h2:b=true→B):br (!b) A B:=by
  cases b with
  |true=>exact h2 rfl
  |false=>exact h1 rfl
theorem w64 {n:Int} (h: -9223372036854775808≤n∧n≤9223372036854775807):IntKind.i64.wrap n=n:=IntWalk.i64_in n h
namespace Law
def keyIs {α:Type} (key:α→Int) (c:Int) (x:α):Bool:=decide (key x=c)
def SortedSeg {α:Type} (key:α→Int) (xs ys:List α) (a b:Int):Prop:=
  ys.length=xs.length∧(∀i:Nat,((i:Int)<a∨b≤i)→ys[i]? =xs[i]?)∧
  (∀(i j:Nat) (x y:α),a≤i→i<j→(j:Int)<b→ys[i]? =some x→ys[j]? =some y→key x≤key y)∧
  ∀c,ys.filter (keyIs key c)=xs.filter (keyIs key c)
theorem swap_split {α:Type} {ys:List α} {j:Nat} {u v:α} (h1:ys[j]? =some u) (h2:ys[j+1]? =some v):
    ∃p s,ys=p++u::v::s∧p.length=j∧(ys.set (j+1) u).set j v=p++v::u::s:=by
  have hlt:=(List.getElem?_eq_some_iff.1 h2).1
  refine ⟨ys.take j,ys.drop (j+2),?_,by simp;omega,?_⟩
  · have e1:ys.drop j=u::ys.drop (j+1):=by
      rw [List.drop_eq_getElem_cons (by omega)]
      rw [(List.getElem?_eq_some_iff.1 h1).2]
    have e2:ys.drop (j+1)=v::ys.drop (j+2):=by
      rw [List.drop_eq_getElem_cons hlt]
      rw [(List.getElem?_eq_some_iff.1 h2).2]
    rw [←e2,←e1,List.take_append_drop]
  · apply List.ext_getElem?
    intro i
    simp only [List.getElem?_set,List.getElem?_append,List.length_take,List.length_set]
    have hm:min j ys.length=j:=by omega
    rw [hm]
    by_cases hi:i<j
    · rw [if_neg (by omega),if_neg (by omega),if_pos hi,List.getElem?_take_of_lt hi]
    · by_cases hj:i=j
      · subst hj;simp;omega
      · by_cases hk:i=j+1
        · subst hk
          rw [if_neg (by omega),if_pos rfl,if_pos hlt,if_neg (by omega)]
          simp
        · rw [if_neg (by omega),if_neg (by omega),if_neg hi]
          obtain ⟨d,rfl⟩:=Nat.exists_eq_add_of_lt (show j+1<i by omega)
          rw [show j+1+d+1-j=d+2 by omega]
          simp [show j+1+d+1=j+2+d by omega]
theorem filter_swap {α:Type} {key:α→Int} {u v:α} (hne:key u≠key v) (p s:List α) (c:Int):
    (p++v::u::s).filter (keyIs key c)=(p++u::v::s).filter (keyIs key c):=by
  simp only [List.filter_append,List.filter_cons,keyIs]
  congr 1
  by_cases h1:key u=c<;>by_cases h2:key v=c
  · omega
  · simp [h1,h2]
  · simp [h1,h2]
  · simp [h1,h2]
def Sinks {α:Type} (key:α→Int) (xs ys:List α) (a i j:Nat):Prop:=
  a≤j∧j≤i∧i<ys.length∧ys.length=xs.length∧(∀p:Nat,(p<a∨i<p)→ys[p]? =xs[p]?)∧
  (∀(p q:Nat) (x y:α),a≤p→p<q→q≤i→q≠j→ys[p]? =some x→ys[q]? =some y→key x≤key y)∧
  ∀c,ys.filter (keyIs key c)=xs.filter (keyIs key c)
theorem Sinks.start {α:Type} {key:α→Int} {xs ys:List α} {a i:Nat} (h:SortedSeg key xs ys a i) (hai:a<i) (hi:i<ys.length):Sinks key xs ys a i i:=by
  obtain ⟨h1,h2,h3,h4⟩:=h
  exact ⟨by omega,Nat.le_refl _,hi,h1,fun p hp=>h2 p (by omega),fun p q x y hp hq hqi hne hx hy=>h3 p q x y (by omega) hq (by omega) hx hy,h4⟩
theorem Sinks.stop {α:Type} {key:α→Int} {xs ys:List α} {a i j:Nat} (h:Sinks key xs ys a i j) (hj:j=a∨ ∀u v,1≤j→ys[j-1]? =some u→ys[j]? =some v→key u≤key v):SortedSeg key xs ys a ((i:Int)+1):=by
  obtain ⟨h1,h2,h3,h4,h5,h6,h7⟩:=h
  refine ⟨h4,fun p hp=>h5 p (by omega),fun p q x y hp hpq hq hx hy=>?_,h7⟩
  by_cases hqj:q=j
  · subst hqj
    rcases hj with hj |hj
    · omega
    · have hlt:q-1<ys.length:=by omega
      have e:ys[q-1]? =some ys[q-1]:=List.getElem?_eq_getElem hlt
      have l1:=hj _ _ (by omega) e hy
      by_cases hpe:p=q-1
      · subst hpe;rw [hx] at e;cases e;exact l1
      · have:=h6 p (q-1) x _ (by omega) (by omega) (by omega) (by omega) hx e
        omega
  · exact h6 p q x y (by omega) hpq (by omega) hqj hx hy
theorem Sinks.step {α:Type} {key:α→Int} {xs ys:List α} {a i j:Nat} {u v:α} (h:Sinks key xs ys a i (j+1)) (ha:a≤j) (hu:ys[j]? =some u) (hv:ys[j+1]? =some v) (hlt:key v<key u):
    Sinks key xs ((ys.set (j+1) u).set j v) a i j:=by
  obtain ⟨h1,h2,h3,h4,h5,h6,h7⟩:=h
  obtain ⟨p,s,e1,e2,e3⟩:=swap_split hu hv
  have hget: ∀q:Nat,((ys.set (j+1) u).set j v)[q]? =if q=j then some v else if q=j+1 then some u else ys[q]? :=by
    intro q
    have l1:j+1<ys.length:=by omega
    simp only [List.getElem?_set,List.length_set]
    by_cases hq:q=j
    · rw [if_pos hq.symm,if_pos (by omega),if_pos hq]
    · rw [if_neg (fun h=>hq h.symm),if_neg hq]
      by_cases hq2:q=j+1
      · rw [if_pos hq2.symm,if_pos l1,if_pos hq2]
      · rw [if_neg (fun h=>hq2 h.symm),if_neg hq2]
  refine ⟨ha,by omega,by simpa using h3,by simpa using h4,fun q hq=>?_,fun p q x y hp hpq hqi hne hx hy=>?_,fun c=>?_⟩
  · rw [hget,if_neg (by omega),if_neg (by omega)]
    exact h5 q hq
  · rw [hget] at hx hy
    rw [if_neg hne] at hy
    by_cases hq1:q=j+1
    · rw [if_pos hq1] at hy
      cases hy
      by_cases hpj:p=j
      · rw [if_pos hpj] at hx;cases hx;omega
      · rw [if_neg hpj,if_neg (by omega)] at hx
        exact h6 p j x u hp (by omega) (by omega) (by omega) hx hu
    · rw [if_neg hq1] at hy
      by_cases hpj:p=j
      · rw [if_pos hpj] at hx;cases hx
        exact h6 (j+1) q v y (by omega) (by omega) hqi (by omega) hv hy
      · rw [if_neg hpj] at hx
        by_cases hp1:p=j+1
        · rw [if_pos hp1] at hx;cases hx
          exact h6 j q u y (by omega) (by omega) hqi (by omega) hu hy
        · rw [if_neg hp1] at hx
          exact h6 p q x y hp hpq hqi (by omega) hx hy
  · rw [e3,filter_swap (by omega),←e1]
    exact h7 c
theorem SortedSeg.refl {α:Type} {key:α→Int} {xs:List α} {a b:Int} (h:b≤a+1):SortedSeg key xs xs a b:=
  ⟨rfl,fun _ _=>rfl,fun i j x y h1 h2 h3 _ _=>by omega,fun _=>rfl⟩
end Law
end Go.Ax
namespace Go.Ax.Law
def U64 (x:Int):Prop:=0≤x∧x<18446744073709551616
abbrev wr (n:Int):Int:=IntKind.i64.wrap n
def hasB (x n:Int):Bool:=decide (0≤n)&&decide (n<64)&&x.toNat.testBit n.toNat
def withS (x n:Int):Int:=if n<0∨64≤n then x else ((x.toNat|||2^n.toNat:Nat):Int)
def minusS (x y:Int):Int:=((x.toNat ^^^ (x.toNat&&&y.toNat):Nat):Int)
def unionS (x y:Int):Int:=((x.toNat|||y.toNat:Nat):Int)
def withoutS (x n:Int):Int:=if n<0∨64≤n then x else minusS x ((2^n.toNat:Nat):Int)
def setOf (l:List Int):Int:=l.foldl withS 0
def lowS (x:Int):Int:=if x=0 then-1 else (Lib.ctz 64 x.toNat:Nat)
def allS (n:Int):Int:=if n≤0 then 0 else if 64≤n then 18446744073709551615 else ((2^n.toNat-1:Nat):Int)
def popN (x:Nat):Nat→Nat
 |0=>0
 |n+1=>popN x n+(if x.testBit n then 1 else 0)
def lenS (x:Int):Int:=(popN x.toNat 64:Nat)
def firstN:Nat→Int→Int→Int
 |0,out,_=>out
 |n+1,out,s=>firstN n (withS out (lowS s)) (withoutS s (lowS s))
def firstS (s n:Int):Int × Bool:=if n<0∨lenS s<n then (0,false) else (firstN n.toNat 0 s,true)
def nowL:List Step→Int
 | []=>0
 |s::_=>s.At
def idxL (l:List Step) (t:Int):Nat:=(l.countP fun s=>decide (s.At≤t))-1
def freeL (l:List Step) (t:Int):Int:=match l[idxL l t]? with |some s=>s.Free |none=>0
def partL (l:List Step) (from_ to:Int):List Step:=(l.drop (idxL l from_)).takeWhile fun s=>decide (s.At<to)
def leastL (l:List Step) (from_ to:Int):Int:=
 if to≤max from_ (nowL l) then 64 else (partL l (max from_ (nowL l)) to).foldl (fun n s=>min n s.Free) 64
def mostL (l:List Step) (from_ to:Int):Int:=(partL l from_ to).foldl (fun n s=>max n s.Free) 0
def splitL (l:List Step) (t:Int):List Step:=match l[idxL l t]? with
 |some s=>if s.At=t then l else l.take (idxL l t+1)++⟨t,s.Free⟩::l.drop (idxL l t+1)
 |none=>l
def splitAt (l:List Step) (t:Int):Nat:=match l[idxL l t]? with
 |some s=>if s.At=t then idxL l t else idxL l t+1
 |none=>0
def bumpL (l:List Step) (i k:Nat) (n:Int):List Step:=l.take i++(((l.drop i).take (k-i)).map fun s=>⟨s.At,wr (s.Free+n)⟩)++l.drop k
def keepL:Step→List Step→List Step
 |_,[]=>[]
 |a,b::r=>if b.Free=a.Free then keepL b r else b::keepL b r
def joinL:List Step→List Step
 | []=>[]
 |s::r=>s::keepL s r
theorem keep_congr {a b:Step} (h:a.Free=b.Free): ∀(l:List Step),keepL a l=keepL b l
 | []=>rfl
 |c::r=>by simp only [keepL,h]
theorem joinL_one (s:Step):joinL [s]=[s]:=rfl
theorem joinL_two (s t:Step) (r:List Step):joinL (s::t::r)=if t.Free=s.Free then joinL (s::r) else s::joinL (t::r):=by
 simp only [joinL,keepL]
 split
 ·rename_i h;rw [keep_congr h]
 ·rfl
def addL (l:List Step) (from_ to n:Int):List Step:=
 let i:=splitAt l from_
 let l1:=splitL l from_
 if to<1152921504606846976 then joinL (bumpL (splitL l1 to) i (splitAt l1 to) n) else joinL (bumpL l1 i l1.length n)
def addP (p:Prof) (from_ to n:Int):Int × Prof:=
 if to≤from_∨1152921504606846976<to∨n< -64∨64<n then (1,p)
 else if to≤max from_ (nowL p.steps)∨n=0 then (0,p)
 else if n<0∧leastL p.steps (max from_ (nowL p.steps)) to< -n∨0<n∧64-n<mostL p.steps (max from_ (nowL p.steps)) to then (5,p)
 else (0,⟨addL p.steps (max from_ (nowL p.steps)) to n,wr (p.ver+1)⟩)
def advP (p:Prof) (t:Int):Int × Prof:=
 if t<nowL p.steps∨1099511627776<t then (5,p) else if t=nowL p.steps then (0,p)
 else (0,⟨match p.steps.drop (idxL p.steps t) with |s::r=>⟨t,s.Free⟩::r | []=>[],wr (p.ver+1)⟩)
def job0:Job:=⟨0,0,0,0,0,0,0,0,0,0⟩
def getJ (l:List Job) (id:Int):Job × Int:=if id<1∨(l.length:Int)<id then (job0,7) else match l[(id-1).toNat]? with |some j=>(j,0) |none=>(job0,7)
def inJ (l:List Job) (st:List Int):List Job:=l.filter fun j=>st.contains j.State
def atJ (l:List Job) (id:Int) (st:List Int) (f:Job→Job):Int × List Job:=
 if id<1∨(l.length:Int)<id then (7,l) else match l[(id-1).toNat]? with
 |some j=>if st.contains j.State then (0,l.set (id-1).toNat (f j)) else (8,l)
 |none=>(7,l)
def rightR (r:Req):Int:=
 if r.User<0∨255<r.User∨r.Prio<0∨1000<r.Prio then 1 else if r.Width<1∨64<r.Width then 9 else if r.Limit<1∨1048576<r.Limit then 10 else 0
def newJ (l:List Job) (r:Req):Job:=⟨(l.length:Int)+1,r.User,r.Width,r.Limit,r.Prio,if r.Held then 2 else 1,-1,-1,-1,0⟩
def submitJ (t:Jobs) (r:Req):(Int × Int) × Jobs:=
 if rightR r≠0 then ((0,rightR r),t) else if 64≤t.live∨1024≤t.jobs.length then ((0,6),t)
 else (((t.jobs.length:Int)+1,0),⟨t.jobs++[newJ t.jobs r],wr (t.live+1),t.made⟩)
def holdJ (t:Jobs) (id:Int):Int × Jobs:=let r:=atJ t.jobs id [1] fun j=>{j with State:=2,Plan:= -1};(r.1,{t with jobs:=r.2})
def freeJ (t:Jobs) (id:Int):Int × Jobs:=let r:=atJ t.jobs id [2] fun j=>{j with State:=1};(r.1,{t with jobs:=r.2})
def planJ (t:Jobs) (id at_:Int):Int × Jobs:=
 if at_< -1∨1099511627776<at_ then (10,t) else let r:=atJ t.jobs id [1] fun j=>{j with Plan:=at_};(r.1,{t with jobs:=r.2})
def beginJ (t:Jobs) (id at_ nodes:Int):Int × Jobs:=
 if at_<0∨1099511627776<at_ then (10,t) else let r:=atJ t.jobs id [1] fun j=>{j with State:=3,Start:=at_,End:=wr (at_+j.Limit),Plan:= -1,Nodes:=nodes};(r.1,{t with jobs:=r.2})
def finishJ (t:Jobs) (id st at_:Int):Int × Jobs:=
 if st<4∨6<st then (1,t) else if at_<0∨2199023255552<at_ then (10,t)
 else let r:=atJ t.jobs id (if st=5 then [3,1,2] else [3]) fun j=>{j with End:=if j.State=3 then at_ else j.End,State:=st,Plan:= -1}
  if r.1=0 then (0,{t with jobs:=r.2,live:=wr (t.live-1)}) else (r.1,t)
def cntJ (l:List Job) (st:Int):Int:=((inJ l [st]).length:Nat)
def cmpI (a b:Int):Int:=if a<b then-1 else if a>b then 1 else 0
def cmpJ (a b:Job):Int:=if cmpI b.Prio a.Prio≠0 then cmpI b.Prio a.Prio else cmpI a.Id b.Id
def lessJ (a b:Job):Bool:=decide (cmpJ a b<0)
def keyJ (j:Job):Int:=j.Id-j.Prio*36893488147419103232
def sortJ (l:List Job):List Job:=l.mergeSort fun a b=>decide (keyJ a≤keyJ b)
def idleN (t:Nodes):Int:=minusS (minusS t.all t.used) t.drain
def stateN (t:Nodes) (n:Int):Int:=
 if hasB t.all n=false then 0 else if hasB t.used n then (if hasB t.drain n then 3 else 2) else if hasB t.drain n then 4 else 1
def takeN (t:Nodes) (n:Int):(Int × Int) × Nodes:=
 if n<1 then ((0,1),t) else if (firstS (idleN t) n).2=false then ((0,6),t) else (((firstS (idleN t) n).1,0),{t with used:=unionS t.used (firstS (idleN t) n).1})
def giveN (t:Nodes) (s:Int):(Int × Int) × Nodes:=
 if minusS s t.used≠0 then ((0,11),t) else ((lenS (minusS s t.drain),0),{t with used:=minusS t.used s})
def drainN (t:Nodes) (n:Int):Int × Nodes:=
 if hasB t.all n=false then (11,t) else if hasB t.drain n then (8,t) else (0,{t with drain:=withS t.drain n})
def resumeN (t:Nodes) (n:Int):Int × Nodes:=
 if hasB t.all n=false then (11,t) else if hasB t.drain n=false then (8,t) else (0,{t with drain:=withoutS t.drain n})
def req0:Req:=⟨0,0,0,0,0,0,false,0,0⟩
def reply0:Reply:=⟨0,0,0,0,0,0,0,0,0⟩
def failR (e:Int):Reply:={reply0 with Err:=e}
def tellR (j:Job):Reply:=⟨0,j.Id,j.State,j.Start,j.End,j.Plan,j.Width,j.Prio,0⟩
def threeR (a b c:Int):Reply:={reply0 with A:=a,B:=b,C:=c}
def cleanR (r:Req):Req:=
 let o:={req0 with Kind:=r.Kind}
 if r.Kind=1 then {o with User:=r.User,Width:=r.Width,Limit:=r.Limit,Prio:=r.Prio,Held:=r.Held}
 else if r.Kind=2∨r.Kind=3∨r.Kind=4∨r.Kind=5∨r.Kind=6 then {o with Id:=r.Id}
 else if r.Kind=7∨r.Kind=8 then {o with Node:=r.Node}
 else if r.Kind=9 then {o with By:=r.By} else o
def span0:Span:=⟨0,0,0⟩
def planS (j:Job):Span × Bool:=if j.State≠1∨j.Plan<0 then (span0,false) else (⟨j.Plan,wr (j.Plan+j.Limit),j.Width⟩,true)
def spansC (l:List Job):List Span:=(inJ l [1]).filterMap fun j=>if (planS j).2 then some (planS j).1 else none
def holderJ (l:List Job) (n:Int):Job:=match (inJ l [3]).find? fun j=>hasB j.Nodes n with |some j=>j |none=>job0
def nowC (c:Core):Int:=nowL c.P.steps
def toldC (c:Core) (id:Int):Reply:=if (getJ c.J.jobs id).2=0 then tellR (getJ c.J.jobs id).1 else failR (getJ c.J.jobs id).2
def wantsC (c:Core) (r:Req):Int:=if r.Kind=1∧lenS c.N.all<r.Width∧r.Width≤64∧0≤r.User∧r.User≤255∧0≤r.Prio∧r.Prio≤1000 then 9 else 0
def addC (c:Core) (from_ to n:Int):Core:={c with P:=(addP c.P from_ to n).2}
def releaseC (c:Core) (s:Span):Core:=addC c s.From s.To s.Width
def setPlanC (c:Core) (id at_:Int):Core:={c with J:=(planJ c.J id at_).2}
def untilC (c:Core) (n:Int):Int:=if (holderJ c.J.jobs n).Id≠0 then max (holderJ c.J.jobs n).End (wr (nowC c+1)) else nowC c
def nextC (c:Core):Int:=(spansC c.J.jobs).foldl (fun t s=>min t s.From) ((inJ c.J.jobs [3]).foldl (fun t j=>min t j.End) 1152921504606846976)
def timeout1 (c:Core) (j:Job):Core:=
 if j.End≤nowC c then {c with J:=(finishJ c.J j.Id 6 j.End).2,N:=(giveN c.N j.Nodes).2} else c
def timeoutsC (c:Core):Core:=(inJ c.J.jobs [3]).foldl timeout1 c
def beginC (c:Core) (j:Job):Core:=
 if (takeN c.N j.Width).1.2=0 then {c with J:=(beginJ c.J j.Id (nowC c) (takeN c.N j.Width).1.1).2,N:=(takeN c.N j.Width).2} else c
def begin1 (c:Core) (j:Job):Core:=if 0≤j.Plan∧j.Plan≤nowC c then beginC c j else c
def beginsC (c:Core):Core:=(sortJ (inJ c.J.jobs [1])).foldl begin1 c
def fitsC (c:Core) (x:Choice):Bool:=
 let j:=(getJ c.J.jobs x.Id).1
 if c.closed then false else if (getJ c.J.jobs x.Id).2≠0∨j.State≠1∨x.At<nowC c∨1099511627776<x.At∨(0≤j.Plan∧j.Plan≤x.At) then false
 else decide (j.Width≤leastL (if (planS j).2 then (addP c.P (planS j).1.From (planS j).1.To (planS j).1.Width).2 else c.P).steps x.At (wr (x.At+j.Limit)))
def advC (c:Core) (t:Int):Core:={c with P:=(advP c.P t).2}
def work0:Work:=⟨req0,⟨0,0⟩,false,reply0,0,false,false,job0,0,0⟩
def newW (r:Req):Work:={work0 with req:=cleanR r}
def newX (x:Choice):Work:={work0 with choice:=x,commit:=true}
def endW (w:Work) (r:Reply):Work:={w with reply:=r,done:=true}
def failW (w:Work) (e:Int):Work:=endW w (failR e)
def dropAt (w:Work) (j:Job):Bool:=(planS j).2&&(decide (w.job.Id=0)||lessJ w.job j)
def dropW (w:Work) (c:Core):Bool × Work × Core:=match (inJ c.J.jobs [1]).find? (dropAt w) with
 |some j=>(true,w,setPlanC (releaseC c (planS j).1) j.Id (-1))
 |none=>(false,{w with done:=decide (w.job.Id≠0)},c)
def unplanC (w:Work) (c:Core):Core:=if (planS w.job).2 then releaseC c (planS w.job).1 else c
def submitW (w:Work) (c:Core):Work × Core:=
 if 0<w.part then (dropW w c).2 else if wantsC c w.req≠0 then (failW w (wantsC c w.req),c)
 else let s:=submitJ c.J w.req
  if s.1.2≠0 then (failW w s.1.2,{c with J:=s.2})
  else let c2:={c with J:=s.2}
   ({w with job:=(getJ c2.J.jobs s.1.1).1,reply:=toldC c2 s.1.1,done:=w.req.Held},c2)
def finishW (w:Work) (c:Core):Work × Core:=
 if w.part=0 then
  let w1:={w with job:=(getJ c.J.jobs w.req.Id).1}
  let f:=finishJ c.J w.req.Id (if w.req.Kind=2 then 5 else 4) (nowC c)
  if f.1≠0 then (failW w1 f.1,{c with J:=f.2}) else ({w1 with reply:=toldC {c with J:=f.2} w.req.Id},{c with J:=f.2})
 else if w.part=1 then
  if w.job.State=3 then ({w with back:=(giveN c.N w.job.Nodes).1.1},{c with N:=(giveN c.N w.job.Nodes).2}) else (w,c)
 else
  let c1:=unplanC w c
  ({w with done:=true},if w.job.State=3∧0<w.back then addC c1 (nowC c1) w.job.End w.back else c1)
def holdW (w:Work) (c:Core):Work × Core:=
 if 0<w.part then ({w with done:=true},unplanC w c) else
  let w1:={w with job:=(getJ c.J.jobs w.req.Id).1}
  let f:=holdJ c.J w.req.Id
  if f.1≠0 then (failW w1 f.1,{c with J:=f.2}) else ({w1 with reply:=toldC {c with J:=f.2} w.req.Id},{c with J:=f.2})
def freeW (w:Work) (c:Core):Work × Core:=
 if 0<w.part then (dropW w c).2 else
  let f:=freeJ c.J w.req.Id
  let c1:={c with J:=f.2}
  if f.1≠0 then (failW w f.1,c1) else ({w with job:=(getJ c1.J.jobs w.req.Id).1,reply:=toldC c1 w.req.Id},c1)
def nodeR (c:Core) (n:Int):Reply:={reply0 with Id:=n,State:=stateN c.N n}
def drainW (w:Work) (c:Core):Work × Core:=
 if w.part=0∧stateN c.N w.req.Node=0 then (failW w 11,c) else if w.part=0∧(stateN c.N w.req.Node=3∨stateN c.N w.req.Node=4) then (failW w 8,c)
 else let d:=dropW w c
  if d.1 then d.2 else
   let c1:={d.2.2 with N:=(drainN d.2.2.N d.2.1.req.Node).2}
   let c2:=addC c1 (untilC c1 d.2.1.req.Node) 1152921504606846976 (-1)
   (endW d.2.1 (nodeR c2 d.2.1.req.Node),c2)
def resumeW (w:Work) (c:Core):Work × Core:=
 let f:=resumeN c.N w.req.Node
 let c1:={c with N:=f.2}
 if f.1≠0 then (failW w f.1,c1) else
  let c2:=addC c1 (untilC c1 w.req.Node) 1152921504606846976 1
  (endW w (nodeR c2 w.req.Node),c2)
def clockR (c:Core):Reply:={reply0 with Start:=nowC c,A:=freeL c.P.steps (nowC c)}
def tickGo (w:Work) (c:Core):Work × Core:=
 if w.to<nextC c then (endW w (clockR (advC c w.to)),advC c w.to)
 else (w,beginsC (timeoutsC (advC c (max (nextC c) (nowC c)))))
def tickW (w:Work) (c:Core):Work × Core:=
 if w.part=0 then
  if w.req.By<1∨wr (1099511627776-nowC c)<w.req.By then (failW w 10,c) else tickGo {w with to:=wr (nowC c+w.req.By)} c
 else tickGo w c
def countW (w:Work) (c:Core):Work × Core:=
 if w.req.Kind=10 then (endW w (threeR (lenS (idleN c.N)) (lenS c.N.used) (lenS (minusS c.N.drain c.N.used))),c)
 else if w.req.Kind=11 then (endW w (threeR (cntJ c.J.jobs 1) (cntJ c.J.jobs 2) (cntJ c.J.jobs 3)),c)
 else if w.req.Kind=12 then (endW w (clockR c),c)
 else if w.req.Kind=13 then (endW w reply0,{c with closed:=true})
 else (failW w 4,c)
def serveW (w:Work) (c:Core):Work × Core:=
 if w.req.Kind=1 then submitW w c else if w.req.Kind=2∨w.req.Kind=5 then finishW w c else if w.req.Kind=3 then holdW w c else if w.req.Kind=4 then freeW w c
 else if w.req.Kind=6 then (endW w (toldC c w.req.Id),c) else if w.req.Kind=7 then drainW w c else if w.req.Kind=8 then resumeW w c else if w.req.Kind=9 then tickW w c
 else countW w c
def settleW (w:Work) (c:Core):Work × Core:=
 if w.part=0 then
  let w1:={w with ok:=fitsC c w.choice}
  if fitsC c w.choice=false then ({w1 with done:=true},c) else ({w1 with job:=(getJ c.J.jobs w.choice.Id).1},c)
 else if w.part=1 then (w,unplanC w c)
 else if w.part=2 then (w,addC c w.choice.At (wr (w.choice.At+w.job.Limit)) (wr (0-w.job.Width)))
 else ({w with done:=true},if w.choice.At=nowC c then beginC c w.job else setPlanC c w.job.Id w.choice.At)
def stepW (w:Work) (c:Core):Work × Core:=
 if w.done then (w,c) else
  let r:=if w.part=0∧c.closed then (failW w 12,c) else if w.commit then settleW w c else serveW w c
  ({r.1 with part:=wr (r.1.part+1)},r.2)
end Go.Ax.Law
