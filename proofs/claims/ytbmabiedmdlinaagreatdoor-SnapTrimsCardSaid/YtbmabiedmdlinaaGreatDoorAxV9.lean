import Derived.Test.YtbmabiedmdlinaaGreatDoorAxG
import Derived.KernelRfl
import Derived.Test.YtbmabiedmdlinaaGreatDoorAxPA
import Derived.Test.YtbmabiedmdlinaaGreatDoorAxP6
set_option linter.all false
namespace Go.Ax
variable [Surr]
theorem addK {P:Program} {ek:List (TypeId × EK)} {L:List (FuncId × SpecT)} (h0:Env.OK {P:=P,spec:=L,ek:=ek}) (lo:List (Nat × LoopAnn)) (b:Bool) {f:FuncId} {fn:Func} {S:Sig} {out:S.Out} {V:S.X→(keepT S.args→prodT S.ret→Prop)→Prop}
  (hO: ∀{x k},out x k→V x k) (hV: ∀x k,V x k=S.case {P:=P,spec:=L,ek:=ek,loops:=lo,n0:=0,sharp:=b} fn x k:=by intro x k;kernel_rfl)
  (hf:P.funcs[f]? =some fn:=by kernel_rfl) (hb:fn.body.isSome=true:=by kernel_rfl) (hn:(fn.name== "runtime.NumGoroutine")=false:=by kernel_rfl) (hS:S.ok=true:=by rfl):
  Env.OK {P:=P,spec:=(f,S.spec out)::L,ek:=ek}:=
 Env.OK.cons h0 hf hb hn (Sig.sound (E:={P:=P,spec:=L,ek:=ek,loops:=lo,n0:=0,sharp:=b}) h0 hf hS fun x k h=>(hV x k)▸hO h)
end Go.Ax
namespace Go.Ax.V
@[reducible] def LP (X:Type) (E:X→Prop) (B:(X→Prop)→(X→Nat)→X→Prop):Prop:= ∃(I:X→Prop) (m:X→Nat) (x:X),I x∧E x∧ ∀(x:X),I x→B I m x
@[reducible] def NX {X:Type} (I:X→Prop) (m:X→Nat) (x:X) (E:X→Prop):Prop:= ∃y,I y∧E y∧m y<m x
@[reducible] def AT {α:Type} (l:List α) (i:Int) (K:α→Prop):Prop:=(0≤i∧i<(l.length:Int))∧0+i.toNat<l.length∧ ∀e,l[0+i.toNat]? =some e→K e
@[reducible] def AI {α:Type} (l:List α) (i:Int) (K:α→Prop):Prop:=(0≤i∧i<(l.length:Int))∧ ∀e,l[i.toNat]? =some e→K e
@[reducible] def NM (a:Int) (K:Int→Prop):Prop:= ∀n,n=IntKind.wrap .i64 a→K n
@[reducible] def SH {α:Type} (a:α) (K:α→Prop):Prop:=K a
@[reducible] def LN {α:Type} (l:List α):Int:=(l.length:Int)
@[reducible] def CT (X:Type) (A:(X→Prop)→Prop) (B:X→Prop):Prop:= ∃J:X→Prop,A J∧ ∀x,J x→B x
@[reducible] def EN {X:Type} (J:X→Prop) (E:X→Prop):Prop:= ∃x,J x∧E x
end Go.Ax.V
namespace Go.Ax.Law
def cntN (p:Nat→Bool):Nat→Int
 |0=>0
 |n+1=>cntN p n+(if p n then 1 else 0)
def plannedJ (j:Job):Bool:=decide (j.State=1)&&decide (0≤j.Plan)
def runsOn (k:Int) (j:Job):Bool:=decide (j.State=3)&&hasB j.Nodes k
def holdI (l:List Job) (k:Int):Int:=match l.findIdx? (runsOn k) with |some i=>(i:Int) |none=> -1
def drainB (m:Model) (k:Nat):Bool:=m.Drain.getD k false
def stateM (m:Model) (k:Int):Int:=
 if k<0∨(m.Drain.length:Int)≤k then 0
 else if decide (0≤holdI m.L k)&&drainB m k.toNat then 3 else if 0≤holdI m.L k then 2 else if drainB m k.toNat then 4 else 1
def openM (m:Model) (t:Int) (k:Nat):Bool:=!drainB m k&&(match m.L.find? (runsOn (k:Int)) with |none=>true |some j=>decide (j.End≤t))
def planAt (t but:Int) (j:Job):Int:=if plannedJ j=true∧j.Id≠but∧j.Plan≤t∧t<j.Plan+j.Limit then j.Width else 0
def planSum (t but:Int):List Job→Int
 | []=>0
 |j::r=>planAt t but j+planSum t but r
def freeM (m:Model) (t but:Int):Int:=cntN (openM m t) m.Drain.length-planSum t but m.L
def sooner (best t last:Int):Int:=if last<t∧(best<0∨t<best) then t else best
def best1 (last b:Int) (j:Job):Int:=
 let b1:=if j.State=3 then sooner b j.End last else b
 if plannedJ j then sooner (sooner b1 j.Plan last) (j.Plan+j.Limit) last else b1
def bestT (l:List Job) (last:Int):Int:=l.foldl (best1 last) (-1)
def timesF (l:List Job):Nat→Int→List Int
 |0,_=>[]
 |f+1,last=>if bestT l last<0 then [] else bestT l last::timesF l f (bestT l last)
def timesM (m:Model):List Int:=m.Now::timesF m.L (2*m.L.length) m.Now
def step1 (m:Model) (out:List Step) (t:Int):List Step:=
 match out.getLast? with
 |none=>out++[⟨t,freeM m t 0⟩]
 |some s=>if s.Free=freeM m t 0 then out else out++[⟨t,freeM m t 0⟩]
def stepsM (m:Model):List Step:=(timesM m).foldl (step1 m) []
def roomOK (m:Model) (at_ long width but:Int) (t:Int):Bool:=!(decide (at_<t)&&decide (t<at_+long)&&decide (freeM m t but<width))
def roomM (m:Model) (at_ long width but:Int):Bool:=if freeM m at_ but<width then false else (timesM m).all (roomOK m at_ long width but)
def getM (m:Model) (id:Int):Job × Bool:=if id<1∨(m.L.length:Int)<id then (job0,false) else match m.L[(id-1).toNat]? with |some j=>(j,true) |none=>(job0,false)
def fitsM (m:Model) (x:Choice):Bool:=
 let j:=(getM m x.Id).1
 if m.Closed=true∨(getM m x.Id).2=false∨j.State≠1∨x.At<m.Now∨1099511627776<x.At∨(0≤j.Plan∧j.Plan≤x.At) then false
 else roomM m x.At j.Limit j.Width j.Id
def aheadJ (a b:Job):Bool:=decide (b.Prio<a.Prio)||(decide (a.Prio=b.Prio)&&decide (a.Id<b.Id))
def dropJ (j x:Job):Job:=if plannedJ x&&(decide (j.Id=0)||aheadJ j x) then {x with Plan:= -1} else x
def dropM (m:Model) (j:Job):Model:={m with L:=m.L.map (dropJ j)}
def pickN (p:Nat→Bool) (w:Int):Nat→Int × Int
 |0=>(0,0)
 |n+1=>if (pickN p w n).2<w∧p n=true then ((pickN p w n).1+((2^n:Nat):Int),(pickN p w n).2+1) else pickN p w n
def idleM (m:Model) (k:Nat):Bool:=decide (stateM m (k:Int)=1)
def beginJm (m:Model) (j:Job):Job:={j with State:=3,Start:=m.Now,End:=m.Now+j.Limit,Plan:= -1,Nodes:=(pickN (idleM m) j.Width m.Drain.length).1}
def beginM (m:Model) (i:Int):Model:=match m.L[i.toNat]? with |some j=>{m with L:=m.L.set i.toNat (beginJm m j)} |none=>m
def commitM (m:Model) (x:Choice):Bool × Model:=
 if fitsM m x=false then (false,m) else if x.At=m.Now then (true,beginM m (x.Id-1)) else (true,{m with L:=m.L.set (x.Id-1).toNat {(getM m x.Id).1 with Plan:=x.At}})
def liveJ (j:Job):Bool:=decide (j.State<4)
def liveN (l:List Job):Int:=(l.countP liveJ:Nat)
def submitM (m:Model) (r:Req):Reply × Model:=
 if r.User<0∨255<r.User∨r.Prio<0∨1000<r.Prio then (failR 1,m)
 else if r.Width<1∨(m.Drain.length:Int)<r.Width then (failR 9,m)
 else if r.Limit<1∨1048576<r.Limit then (failR 10,m)
 else if 63<liveN m.L∨1023<(m.L.length:Int) then (failR 6,m)
 else let j:=newJ m.L r
  let m1:={m with L:=m.L++[j]}
  (tellR j,if r.Held then m1 else dropM m1 j)
def endM (m:Model) (r:Req):Reply × Model:=
 let j:=(getM m r.Id).1
 if (getM m r.Id).2=false then (failR 7,m) else if 3<j.State∨(r.Kind=5∧j.State≠3) then (failR 8,m)
 else let j1:={j with End:=if j.State=3 then m.Now else j.End,Plan:= -1,State:=if r.Kind=5 then 4 else 5}
  (tellR j1,{m with L:=m.L.set (r.Id-1).toNat j1})
def turnM (m:Model) (r:Req):Reply × Model:=
 let j:=(getM m r.Id).1
 if (getM m r.Id).2=false then (failR 7,m) else if (r.Kind=3∧j.State≠1)∨(r.Kind=4∧j.State≠2) then (failR 8,m)
 else let j1:=if r.Kind=3 then {j with State:=2,Plan:= -1} else if r.Kind=4 then {j with State:=1} else j
  let m1:={m with L:=m.L.set (r.Id-1).toNat j1}
  (tellR j1,if r.Kind=4 then dropM m1 j1 else m1)
def nodeM (m:Model) (r:Req):Reply × Model:=
 if r.Node<0∨(m.Drain.length:Int)≤r.Node then (failR 11,m)
 else if drainB m r.Node.toNat=decide (r.Kind=7) then (failR 8,m)
 else let m1:=if r.Kind=7 then dropM m job0 else m
  let m2:={m1 with Drain:=m1.Drain.set r.Node.toNat (decide (r.Kind=7))}
  ({reply0 with Id:=r.Node,State:=stateM m2 r.Node},m2)
def next1 (now b:Int) (j:Job):Int:=
 let b1:=if j.State=3 then sooner b j.End now else b
 if plannedJ j then sooner b1 j.Plan now else b1
def nextM (m:Model):Int:=m.L.foldl (next1 m.Now) (-1)
def overJ (now:Int) (j:Job):Job:=if j.State=3∧j.End=now then {j with State:=6} else j
def dueJ (now:Int) (j:Job):Bool:=plannedJ j&&decide (j.Plan=now)
def selN (now:Int) (l:List Job):Nat→Int
 |0=> -1
 |n+1=>match l[n]? with
  |some j=>if dueJ now j=true∧(selN now l n<0∨aheadJ j (l.getD (selN now l n).toNat job0)=true) then (n:Int) else selN now l n
  |none=>selN now l n
def beginF:Nat→Model→Model
 |0,m=>m
 |f+1,m=>beginF f (if 0≤selN m.Now m.L m.L.length then beginM m (selN m.Now m.L m.L.length) else m)
def happenM (m:Model):Model:=beginF m.L.length {m with L:=m.L.map (overJ m.Now)}
def tickF:Nat→Int→Model→Model
 |0,_,m=>m
 |f+1,to,m=>if nextM m<0∨to<nextM m then m else tickF f to (happenM {m with Now:=nextM m})
def tickM (m:Model) (by_:Int):Reply × Model:=
 if by_<1∨1099511627776-m.Now<by_ then (failR 10,m)
 else let m1:={tickF (2*m.L.length+1) (m.Now+by_) m with Now:=m.Now+by_}
  ({reply0 with Start:=m1.Now,A:=freeM m1 m1.Now 0},m1)
def countM (m:Model) (jobs:Bool) (a b:Int):Int:=
 if jobs then cntJ m.L a else cntN (fun k=>decide (stateM m (k:Int)=a)||decide (stateM m (k:Int)=b)) m.Drain.length
def doM (m:Model) (r:Req):Reply × Model:=
 if m.Closed then (failR 12,m)
 else if r.Kind=1 then submitM m r
 else if r.Kind=2∨r.Kind=5 then endM m r
 else if r.Kind=3∨r.Kind=4∨r.Kind=6 then turnM m r
 else if r.Kind=7∨r.Kind=8 then nodeM m r
 else if r.Kind=9 then tickM m r.By
 else if r.Kind=10 then (threeR (countM m false 1 1) (countM m false 2 3) (countM m false 4 4),m)
 else if r.Kind=11 then (threeR (countM m true 1 1) (countM m true 2 2) (countM m true 3 3),m)
 else if r.Kind=12 then ({reply0 with Start:=m.Now,A:=freeM m m.Now 0},m)
 else if r.Kind=13 then (reply0,{m with Closed:=true})
 else (failR 4,m)
def newM (n:Int):Model:=⟨0,List.replicate n.toNat false,[],false⟩
def MJ (j:Job):Prop:=U64 j.Nodes∧1≤j.State∧j.State≤6∧ -1≤j.Plan∧j.Plan≤1099511627776∧0≤j.Limit∧j.Limit≤1048576∧0≤j.Width∧j.Width≤64∧ -1≤j.End∧j.End≤1099512676352
def MW (m:Model):Prop:=m.L.length≤1024∧1≤m.Drain.length∧m.Drain.length≤64∧0≤m.Now∧m.Now≤1099511627776∧ ∀j∈m.L,MJ j
end Go.Ax.Law
namespace Go.Ax.Sp
end Go.Ax.Sp
namespace Go.Ax.Law
def tk {α:Type} (l:List α):List α:=List.take l.length (List.drop 0 l)
theorem tk_eq {α:Type} (l:List α):tk l=l:=by simp [tk]
end Go.Ax.Law
namespace Go.Ax.Law
variable {α:Type}
def atI (xs:List α) (p:Int):Option α:=xs[p.toNat]?
theorem atI_nat (xs:List α) (i:Nat):atI xs (i:Int)=xs[i]? :=by simp [atI]
def Swapped (xs ys:List α) (a b n:Int):Prop:=
  ys.length=xs.length∧ ∀p:Int,0≤p→atI ys p=if a≤p∧p<a+n then atI xs (p-a+b) else if b≤p∧p<b+n then atI xs (p-b+a) else atI xs p
def Rotated (xs ys:List α) (a m b:Int):Prop:=
  ys.length=xs.length∧ ∀p:Int,0≤p→atI ys p=if p<a∨b≤p then atI xs p else if p<a+(b-m) then atI xs (p+(m-a)) else atI xs (p-(b-m))
theorem Swapped.refl (xs:List α) (a b:Int):Swapped xs xs a b 0:=by
  refine ⟨rfl,fun p _=>?_⟩
  rw [if_neg (by omega),if_neg (by omega)]
theorem Swapped.step {xs ys:List α} {a b n:Int} {u v:α} (h:Swapped xs ys a b n) (ha:0≤a) (hb:0≤b) (hn:0≤n) (hab:a+n<b∨b+n<a) (hu:ys[(a+n).toNat]? =some u) (hv:ys[(b+n).toNat]? =some v):
    Swapped xs ((ys.set (a+n).toNat v).set (b+n).toNat u) a b (n+1):=by
  obtain ⟨h1,h2⟩:=h
  have l1:=(List.getElem?_eq_some_iff.1 hu).1
  have l2:=(List.getElem?_eq_some_iff.1 hv).1
  have hu':=h2 (a+n) (by omega)
  have hv':=h2 (b+n) (by omega)
  rw [if_neg (by omega),if_neg (by omega)] at hu' hv'
  have hu2:atI ys (a+n)=some u:=hu
  have hv2:atI ys (b+n)=some v:=hv
  rw [hu2] at hu'
  rw [hv2] at hv'
  refine ⟨by simpa using h1,fun p hp=>?_⟩
  have hg:atI ((ys.set (a+n).toNat v).set (b+n).toNat u) p=if p=b+n then some u else if p=a+n then some v else atI ys p:=by
    simp only [atI,List.getElem?_set,List.length_set]
    by_cases e1:p=b+n
    · rw [if_pos (by omega),if_pos l2,if_pos e1]
    · rw [if_neg (by omega),if_neg e1]
      by_cases e2:p=a+n
      · rw [if_pos (by omega),if_pos l1,if_pos e2]
      · rw [if_neg (by omega),if_neg e2]
  rw [hg,h2 p hp]
  by_cases e1:p=b+n
  · subst e1
    rw [if_pos rfl,if_neg (by omega),if_pos (by omega),hu']
    congr 1;omega
  · rw [if_neg e1]
    by_cases e2:p=a+n
    · subst e2
      rw [if_pos rfl,if_pos (by omega),hv']
      congr 1;omega
    · rw [if_neg e2]
      by_cases c1:a≤p∧p<a+n
      · rw [if_pos c1,if_pos (by omega)]
      · rw [if_neg c1]
        by_cases c2:b≤p∧p<b+n
        · rw [if_pos c2,if_neg (by omega),if_pos (by omega)]
        · rw [if_neg c2,if_neg (by omega),if_neg (by omega)]
theorem Rotated.one {xs ys:List α} {m i:Int} (hm:i≤m) (hi:0≤i) (h:Swapped xs ys (m-i) m i):Rotated xs ys (m-i) m (m+i):=by
  obtain ⟨h1,h2⟩:=h
  refine ⟨h1,fun p hp=>?_⟩
  rw [h2 p hp]
  by_cases c1:p<m-i∨m+i≤p
  · rw [if_neg (by omega),if_neg (by omega),if_pos c1]
  · rw [if_neg c1]
    by_cases c2:p<m
    · rw [if_pos (by omega),if_pos (by omega)]<;>(congr 1;omega)
    · rw [if_neg (by omega),if_pos (by omega),if_neg (by omega)]<;>(congr 1;omega)
theorem Rotated.left {xs cs ys:List α} {m i j:Int} (hm:i≤m) (hj:0≤j) (hij:j<i) (h:Swapped xs cs (m-i) m j) (hr:Rotated cs ys (m-(i-j)) m (m+j)):Rotated xs ys (m-i) m (m+j):=by
  obtain ⟨h1,h2⟩:=h
  obtain ⟨h3,h4⟩:=hr
  refine ⟨by rw [h3,h1],fun p hp=>?_⟩
  rw [h4 p hp]
  by_cases c1:p<m-i∨m+j≤p
  · rw [if_pos (by omega),if_pos c1,h2 p hp,if_neg (by omega),if_neg (by omega)]
  · rw [if_neg c1]
    by_cases c2:p<m-i+j
    · rw [if_pos (by omega),h2 p hp,if_pos (by omega),if_pos (by omega)]<;>(congr 1;omega)
    · rw [if_neg (by omega)]
      by_cases c3:p<m-(i-j)+j
      · rw [if_pos (by omega),h2 _ (by omega),if_neg (by omega),if_pos (by omega),if_neg (by omega)]<;>(congr 1;omega)
      · rw [if_neg (by omega),h2 _ (by omega),if_neg (by omega),if_neg (by omega),if_neg (by omega)]<;>(congr 1;omega)
theorem Rotated.right {xs cs ys:List α} {m i j:Int} (hm:i≤m) (hi:0≤i) (hij:i<j) (h:Swapped xs cs (m-i) (m+j-i) i) (hr:Rotated cs ys (m-i) m (m+(j-i))):Rotated xs ys (m-i) m (m+j):=by
  obtain ⟨h1,h2⟩:=h
  obtain ⟨h3,h4⟩:=hr
  refine ⟨by rw [h3,h1],fun p hp=>?_⟩
  rw [h4 p hp]
  by_cases c1:p<m-i∨m+j≤p
  · rw [if_pos (by omega),if_pos c1,h2 p hp,if_neg (by omega),if_neg (by omega)]
  · rw [if_neg c1]
    by_cases c2:m+(j-i)≤p
    · rw [if_pos (by omega),h2 p hp,if_neg (by omega),if_pos (by omega),if_neg (by omega)]<;>(congr 1;omega)
    · rw [if_neg (by omega)]
      by_cases c3:p<m-i+(j-i)
      · rw [if_pos (by omega),h2 _ (by omega),if_neg (by omega),if_neg (by omega),if_pos (by omega)]<;>(congr 1;omega)
      · rw [if_neg (by omega),h2 _ (by omega)]
        rw [if_pos (by omega),if_pos (by omega)]<;>(congr 1;omega)
def Rises (key:α→Int) (xs:List α) (a b:Int):Prop:= ∀(p q:Int) (x y:α),0≤p→a≤p→p<q→q<b→atI xs p=some x→atI xs q=some y→key x≤key y
theorem Rises.le {key:α→Int} {xs:List α} {a b:Int} (h:Rises key xs a b) {p q:Int} {x y:α} (h0:0≤p) (h1:a≤p) (h2:p≤q) (h3:q<b) (hx:atI xs p=some x) (hy:atI xs q=some y):key x≤key y:=by
  by_cases e:p=q
  · subst e;rw [hx] at hy;cases hy;exact Int.le_refl _
  · exact h p q x y h0 h1 (by omega) h3 hx hy
theorem SortedSeg.rises {key:α→Int} {xs ys:List α} {a b:Int} (h:SortedSeg key xs ys a b):Rises key ys a b:=by
  intro p q x y h0 h1 h2 h3 hx hy
  obtain ⟨p,rfl⟩:=Int.eq_ofNat_of_zero_le h0
  obtain ⟨q,rfl⟩:=Int.eq_ofNat_of_zero_le (show 0≤q by omega)
  rw [atI_nat] at hx hy
  exact h.2.2.1 p q x y h1 (by omega) h3 hx hy
theorem SortedSeg.out {key:α→Int} {xs ys:List α} {a b:Int} (h:SortedSeg key xs ys a b) {p:Int} (h0:0≤p) (hp:p<a∨b≤p):atI ys p=atI xs p:=by
  obtain ⟨p,rfl⟩:=Int.eq_ofNat_of_zero_le h0
  rw [atI_nat,atI_nat]
  exact h.2.1 p hp
theorem SortedSeg.mk2 {key:α→Int} {xs ys:List α} {a b:Int} (h1:ys.length=xs.length) (h2: ∀p:Int,0≤p→(p<a∨b≤p)→atI ys p=atI xs p) (h3:Rises key ys a b) (h4: ∀c,ys.filter (keyIs key c)=xs.filter (keyIs key c)):SortedSeg key xs ys a b:=
  ⟨h1,fun i hi=>by rw [←atI_nat,←atI_nat];exact h2 i (by omega) hi,fun i j x y ha hij hj hx hy=>h3 i j x y (by omega) ha (by omega) hj (by rw [atI_nat];exact hx) (by rw [atI_nat];exact hy),h4⟩
theorem SortedSeg.same {key:α→Int} {xs:List α} {a b:Int} (h:Rises key xs a b):SortedSeg key xs xs a b:= .mk2 rfl (fun _ _ _=>rfl) h fun _=>rfl
theorem split3 (xs:List α) (a b:Nat) (hab:a≤b):xs=xs.take a++(xs.drop a).take (b-a)++xs.drop b:=by
  have h1:xs.drop b=(xs.drop a).drop (b-a):=by rw [List.drop_drop]<;>(congr 1;omega)
  rw [List.append_assoc,h1,List.take_append_drop,List.take_append_drop]
theorem SortedSeg.mem {key:α→Int} {xs ys:List α} {a b:Nat} (h:SortedSeg key xs ys a b) (hab:a≤b) {i:Nat} {x:α} (hi:a≤i) (hi2:i<b) (hx:ys[i]? =some x): ∃(q:Nat) (y:α),a≤q∧q<b∧xs[q]? =some y∧key y=key x:=by
  obtain ⟨h1,h2,_,h4⟩:=h
  have ht:ys.take a=xs.take a:=by
    apply List.ext_getElem?
    intro p
    by_cases hp:p<a
    · rw [List.getElem?_take_of_lt hp,List.getElem?_take_of_lt hp]
      exact h2 p (by omega)
    · rw [List.getElem?_take_eq_none (by omega),List.getElem?_take_eq_none (by omega)]
  have hd:ys.drop b=xs.drop b:=by
    apply List.ext_getElem?
    intro p
    rw [List.getElem?_drop,List.getElem?_drop]
    exact h2 (b+p) (by omega)
  have hc:(ys.countP (keyIs key (key x)))=xs.countP (keyIs key (key x)):=by
    rw [List.countP_eq_length_filter,List.countP_eq_length_filter,h4]
  rw [split3 ys a b hab,split3 xs a b hab,ht,hd] at hc
  simp only [List.countP_append] at hc
  have hpos:0<((ys.drop a).take (b-a)).countP (keyIs key (key x)):=by
    rw [List.countP_pos_iff]
    refine ⟨x,?_,by simp [keyIs]⟩
    refine List.mem_iff_getElem?.2 ⟨i-a,?_⟩
    rw [List.getElem?_take_of_lt (by omega),List.getElem?_drop,show a+(i-a)=i by omega]
    exact hx
  have hpos2:0<((xs.drop a).take (b-a)).countP (keyIs key (key x)):=by omega
  rw [List.countP_pos_iff] at hpos2
  obtain ⟨y,hy,hk⟩:=hpos2
  obtain ⟨q,hq⟩:=List.mem_iff_getElem?.1 hy
  have hql:=(List.getElem?_eq_some_iff.1 hq).1
  simp only [List.length_take,List.length_drop] at hql
  rw [List.getElem?_take_of_lt (by omega),List.getElem?_drop] at hq
  exact ⟨a+q,y,by omega,by omega,hq,by simpa [keyIs] using hk⟩
theorem Rotated.filter {key:α→Int} {xs ys:List α} {s m e:Nat} (h:Rotated xs ys s m e) (hs:s≤m) (hm:m≤e) (he:e≤xs.length) (hlt: ∀(p q:Nat) (x y:α),s≤p→p<m→m≤q→q<e→xs[p]? =some x→xs[q]? =some y→key y<key x) (c:Int):
    ys.filter (keyIs key c)=xs.filter (keyIs key c):=by
  obtain ⟨h1,h2⟩:=h
  have hx:xs=xs.take s++(((xs.drop s).take (m-s)++(xs.drop m).take (e-m))++xs.drop e):=by
    have e1:=split3 xs s e (by omega)
    have e2:(xs.drop s).take (e-s)=(xs.drop s).take (m-s)++(xs.drop m).take (e-m):=by
      have:=List.take_add (l:=xs.drop s) (i:=m-s) (j:=e-m)
      rw [show m-s+(e-m)=e-s by omega,List.drop_drop,show s+(m-s)=m by omega] at this
      exact this
    rw [e2,List.append_assoc] at e1
    exact e1
  have hy:ys=xs.take s++(((xs.drop m).take (e-m)++(xs.drop s).take (m-s))++xs.drop e):=by
    apply List.ext_getElem?
    intro p
    have hp:=h2 (p:Int) (by omega)
    rw [atI_nat] at hp
    rw [hp]
    simp only [List.getElem?_append,List.length_append,List.length_take,List.length_drop]
    by_cases c1:p<s
    · rw [if_pos (by omega),if_pos (by omega),List.getElem?_take_of_lt c1,atI_nat]
    · rw [if_neg (by omega: ¬ p<min s xs.length)]
      by_cases c2:p<s+(e-m)
      · rw [if_neg (by omega),if_pos (by omega),if_pos (by omega),if_pos (by omega),List.getElem?_take_of_lt (by omega),List.getElem?_drop]
        simp only [atI]<;>(congr 1;omega)
      · by_cases c3:p<e
        · rw [if_neg (by omega),if_neg (by omega),if_pos (by omega),if_neg (by omega),List.getElem?_take_of_lt (by omega),List.getElem?_drop]
          simp only [atI]<;>(congr 1;omega)
        · rw [if_pos (by omega),if_neg (by omega),List.getElem?_drop]
          simp only [atI]<;>(congr 1;omega)
  rw [hy]
  conv=>rhs;rw [hx]
  simp only [List.filter_append]
  congr 1
  congr 1
  have hmem: ∀{l n:Nat} {z:α},z∈(xs.drop l).take n→ ∃q,l≤q∧q<l+n∧xs[q]? =some z:=by
    intro l n z hz
    obtain ⟨q,hq⟩:=List.mem_iff_getElem?.1 hz
    have hql:=(List.getElem?_eq_some_iff.1 hq).1
    simp only [List.length_take,List.length_drop] at hql
    rw [List.getElem?_take_of_lt (by omega),List.getElem?_drop] at hq
    exact ⟨l+q,by omega,by omega,hq⟩
  by_cases hA:((xs.drop s).take (m-s)).filter (keyIs key c)=[]
  · rw [hA];simp
  · have hB:((xs.drop m).take (e-m)).filter (keyIs key c)=[]:=by
      rw [List.filter_eq_nil_iff]
      intro y hy hky
      obtain ⟨x,hx⟩:=List.exists_mem_of_ne_nil _ hA
      obtain ⟨hx1,hx2⟩:=List.mem_filter.1 hx
      obtain ⟨p,p1,p2,p3⟩:=hmem hx1
      obtain ⟨q,q1,q2,q3⟩:=hmem hy
      have:=hlt p q x y p1 (by omega) q1 (by omega) p3 q3
      simp only [keyIs,decide_eq_true_eq] at hx2 hky
      omega
    rw [hB];simp
theorem atI_some {xs:List α} {p:Int} (h0:0≤p) (h:p<xs.length): ∃x,atI xs p=some x:=⟨_,List.getElem?_eq_getElem (by omega)⟩
theorem Rotated.triv {xs:List α} {s m e:Int} (h:s=m∨m=e) (hs:s≤m) (he:m≤e):Rotated xs xs s m e:=by
  refine ⟨rfl,fun p _=>?_⟩
  by_cases c1:p<s∨e≤p
  · rw [if_pos c1]
  · rw [if_neg c1]
    by_cases c2:p<s+(e-m)
    · rw [if_pos c2]<;>(congr 1;omega)
    · rw [if_neg c2]<;>(congr 1;omega)
structure Halves (key:α→Int) (xs ys:List α) (a st mid en b:Int):Prop where
  len:ys.length=xs.length
  out: ∀p:Int,0≤p→(p<a∨b≤p)→atI ys p=atI xs p
  r1:Rises key ys a st
  r2:Rises key ys st mid
  r3:Rises key ys mid en
  r4:Rises key ys en b
  cross: ∀(p q:Int) (x y:α),a≤p→p<mid→mid≤q→q<b→atI ys p=some x→atI ys q=some y→key x≤key y
  fil: ∀c,ys.filter (keyIs key c)=xs.filter (keyIs key c)
theorem halves {key:α→Int} {xs ys:List α} {a m b mid st en lo hi:Int} (h0:0≤a) (ham:a<m) (hmb:m<b) (hbl:b≤xs.length) (hm1:a<mid) (hm2:mid<b)
    (hlh:(mid<m∧lo=mid+m-b∧hi=mid)∨(m≤mid∧lo=a∧hi=m)) (hla:a≤lo) (hst1:lo≤st) (hst2:st≤hi) (hen:en=mid+m-st) (heb:en≤b)
    (s1:Rises key xs a m) (s2:Rises key xs m b)
    (c1: ∀(c:Int) (x y:α),lo≤c→c<st→atI xs c=some x→atI xs (mid+m-1-c)=some y→key x≤key y)
    (c2: ∀(c:Int) (x y:α),st≤c→c<hi→atI xs c=some x→atI xs (mid+m-1-c)=some y→key y<key x)
    (hr:Rotated xs ys st m en):Halves key xs ys a st mid en b:=by
  obtain ⟨hl,hr2⟩:=hr
  have e1: ∀p,0≤p→p<st→atI ys p=atI xs p:=fun p hp h=>by rw [hr2 p hp,if_pos (by omega)]
  have e4: ∀p,0≤p→en≤p→atI ys p=atI xs p:=fun p hp h=>by rw [hr2 p hp,if_pos (by omega)]
  have e2: ∀p,st≤p→p<mid→atI ys p=atI xs (p+(m-st)):=fun p h1 h2=>by rw [hr2 p (by omega),if_neg (by omega),if_pos (by omega)]
  have e3: ∀p,mid≤p→p<en→atI ys p=atI xs (p-(en-m)):=fun p h1 h2=>by rw [hr2 p (by omega),if_neg (by omega),if_neg (by omega)]
  have strict: ∀(p q:Int) (x y:α),st≤p→p<m→m≤q→q<en→atI xs p=some x→atI xs q=some y→key y<key x:=by
    intro p q x y p1 p2 q1 q2 hx hy
    obtain ⟨u,hu⟩:=atI_some (xs:=xs) (p:=st) (by omega) (by omega)
    obtain ⟨v,hv⟩:=atI_some (xs:=xs) (p:=en-1) (by omega) (by omega)
    have hs:=c2 st u v (Int.le_refl _) (by omega) hu (by rw [←hv]<;>(congr 1;omega))
    have l1:=s1.le (by omega) (by omega) p1 p2 hu hx
    have l2:=s2.le (by omega) q1 (by omega:q≤en-1) (by omega) hy hv
    omega
  refine ⟨hl,fun p hp ho=>?_,?_,?_,?_,?_,?_,fun c=>?_⟩
  · rcases ho with ho |ho
    · exact e1 p hp (by omega)
    · exact e4 p hp (by omega)
  · intro p q x y p0 p1 pq q1 hx hy
    rw [e1 p p0 (by omega)] at hx
    rw [e1 q (by omega) q1] at hy
    exact s1 p q x y p0 p1 pq (by omega) hx hy
  · intro p q x y p0 p1 pq q1 hx hy
    rw [e2 p p1 (by omega)] at hx
    rw [e2 q (by omega) q1] at hy
    exact s2 _ _ x y (by omega) (by omega) (by omega) (by omega) hx hy
  · intro p q x y p0 p1 pq q1 hx hy
    rw [e3 p p1 (by omega)] at hx
    rw [e3 q (by omega) q1] at hy
    exact s1 _ _ x y (by omega) (by omega) (by omega) (by omega) hx hy
  · intro p q x y p0 p1 pq q1 hx hy
    rw [e4 p p0 p1] at hx
    rw [e4 q (by omega) (by omega)] at hy
    exact s2 _ _ x y p0 (by omega) pq q1 hx hy
  · intro p q x y p1 p2 q1 q2 hx hy
    by_cases hp:p<st
    · rw [e1 p (by omega) hp] at hx
      by_cases hq:q<en
      · rw [e3 q q1 hq] at hy
        exact s1.le (by omega) p1 (by omega) (by omega) hx hy
      · rw [e4 q (by omega) (by omega)] at hy
        obtain ⟨u,hu⟩:=atI_some (xs:=xs) (p:=st-1) (by omega) (by omega)
        obtain ⟨v,hv⟩:=atI_some (xs:=xs) (p:=en) (by omega) (by omega)
        have hs:=c1 (st-1) u v (by omega) (by omega) hu (by rw [←hv]<;>(congr 1;omega))
        have l1:=s1.le (by omega) p1 (by omega:p≤st-1) (by omega) hx hu
        have l2:=s2.le (by omega) (by omega) (by omega:en≤q) q2 hv hy
        omega
    · rw [e2 p (by omega) p2] at hx
      by_cases hq:q<en
      · rw [e3 q q1 hq] at hy
        have:=strict _ _ y x (by omega) (by omega) (by omega) (by omega) hy hx
        omega
      · rw [e4 q (by omega) (by omega)] at hy
        exact s2.le (by omega) (by omega) (by omega) q2 hx hy
  · obtain ⟨s',rfl⟩:=Int.eq_ofNat_of_zero_le (show 0≤st by omega)
    obtain ⟨m',rfl⟩:=Int.eq_ofNat_of_zero_le (show 0≤m by omega)
    obtain ⟨e',rfl⟩:=Int.eq_ofNat_of_zero_le (show 0≤en by omega)
    refine Rotated.filter ⟨hl,hr2⟩ (by omega) (by omega) (by omega) (fun p q x y p1 p2 q1 q2 hx hy=>?_) c
    exact strict p q x y (by omega) (by omega) (by omega) (by omega) (by rw [atI_nat];exact hx) (by rw [atI_nat];exact hy)
theorem Halves.merge {key:α→Int} {xs ys zs ws:List α} {a st mid en b:Int} (h:Halves key xs ys a st mid en b) (h0:0≤a) (ham:a≤mid) (hmb:mid≤b) (hz:SortedSeg key ys zs a mid) (hw:SortedSeg key zs ws mid b):SortedSeg key xs ws a b:=by
  obtain ⟨a,rfl⟩:=Int.eq_ofNat_of_zero_le h0
  obtain ⟨mid,rfl⟩:=Int.eq_ofNat_of_zero_le (show 0≤mid by omega)
  obtain ⟨b,rfl⟩:=Int.eq_ofNat_of_zero_le (show 0≤b by omega)
  refine .mk2 (by rw [hw.1,hz.1,h.len]) (fun p hp ho=>?_) ?_ fun c=>by rw [hw.2.2.2,hz.2.2.2,h.fil]
  · rw [hw.out hp (by omega),hz.out hp (by omega),h.out p hp ho]
  · intro p q x y p0 p1 pq q1 hx hy
    by_cases hq:q<mid
    · rw [hw.out p0 (by omega)] at hx
      rw [hw.out (by omega) (by omega)] at hy
      exact hz.rises p q x y p0 p1 pq hq hx hy
    · by_cases hp:p<mid
      · rw [hw.out p0 (by omega)] at hx
        obtain ⟨p,rfl⟩:=Int.eq_ofNat_of_zero_le p0
        obtain ⟨q,rfl⟩:=Int.eq_ofNat_of_zero_le (show 0≤q by omega)
        rw [atI_nat] at hx hy
        obtain ⟨p',x',u1,u2,u3,u4⟩:=hz.mem (by omega) (by omega) (by omega) hx
        obtain ⟨q',y',v1,v2,v3,v4⟩:=hw.mem (by omega) (by omega) (by omega) hy
        rw [←atI_nat,hz.out (by omega) (by omega)] at v3
        rw [←u4,←v4]
        exact h.cross p' q' x' y' (by omega) (by omega) (by omega) (by omega) (by rw [atI_nat];exact u3) v3
      · exact hw.rises p q x y p0 (by omega) pq q1 hx hy
end Go.Ax.Law
namespace Go.Ax.Law
def SmallIdsB (xs:List Job):Prop:= ∀c∈xs,-9223372036854775808≤c.Id∧c.Id≤9223372036854775807
def InsPreB (xs:List Job) (a b:Int):Prop:=SmallIdsB xs∧0≤a∧a≤b∧b≤xs.length∧xs.length≤1099511627776
def SwapPreB (xs:List Job) (a b n:Int):Prop:=0≤a∧0≤b∧0≤n∧a+n≤xs.length∧b+n≤xs.length∧(a+n≤b∨b+n≤a)∧xs.length≤1099511627776
def RotPreB (xs:List Job) (a m b:Int):Prop:=0≤a∧a<m∧m<b∧b≤xs.length∧xs.length≤1099511627776
def SymPreB (N:Nat) (xs:List Job) (a m b:Int):Prop:=RotPreB xs a m b∧SmallIdsB xs∧(b-a).toNat<N∧Rises Law.keyJ xs a m∧Rises Law.keyJ xs m b
def StabPreB (xs:List Job):Prop:=SmallIdsB xs∧xs.length≤1099511627776
end Go.Ax.Law
namespace Go.Ax.Sp
def sInsB (f:FuncId):Sig:=⟨[(.row .job,true),(.int .i64,false),(.int .i64,false),(.fn f,false)],[]⟩
def oInsB (f:FuncId):(sInsB f).Out:=fun x k=>Law.InsPreB x.1 x.2.1 x.2.2.1∧ ∀ys,Law.SortedSeg Law.keyJ x.1 ys x.2.1 x.2.2.1→k (ys,()) ()
def lIns1B (f:FuncId):LoopAnn:={X:=List Job × Int × Int × Int,live:=fun x=>[(0,.sl 0 10 0 x.1.length),(1,.int .i64 x.2.1),(2,.int .i64 x.2.2.1),(3,.fn f []),(8,.int .i64 x.2.2.2)],heap:=fun x=>[some (.row .job x.1)]}
def lIns2B (f:FuncId):LoopAnn:={X:=List Job × Int × Int × Int × Int,live:=fun x=>[(0,.sl 0 10 0 x.1.length),(1,.int .i64 x.2.1),(2,.int .i64 x.2.2.1),(3,.fn f []),(8,.int .i64 x.2.2.2.1),(9,.int .i64 x.2.2.2.2)],heap:=fun x=>[some (.row .job x.1)]}
def sSortFB (f:FuncId):Sig:=⟨[(.row .job,true),(.fn f,false)],[]⟩
def sSwapRB (f:FuncId):Sig:=⟨[(.row .job,true),(.int .i64,false),(.int .i64,false),(.int .i64,false),(.fn f,false)],[]⟩
def oSwapRB (f:FuncId):(sSwapRB f).Out:=fun x k=>Law.SwapPreB x.1 x.2.1 x.2.2.1 x.2.2.2.1∧ ∀ys,Law.Swapped x.1 ys x.2.1 x.2.2.1 x.2.2.2.1→k (ys,()) ()
def lSwapRB:LoopAnn:={X:=List Job × Int × Int × Int × Int,live:=fun x=>[(0,.sl 0 10 0 x.1.length),(1,.int .i64 x.2.1),(2,.int .i64 x.2.2.1),(3,.int .i64 x.2.2.2.1),(10,.int .i64 x.2.2.2.2)],heap:=fun x=>[some (.row .job x.1)]}
def oRotB (f:FuncId):(sSwapRB f).Out:=fun x k=>Law.RotPreB x.1 x.2.1 x.2.2.1 x.2.2.2.1∧ ∀ys,Law.Rotated x.1 ys x.2.1 x.2.2.1 x.2.2.2.1→k (ys,()) ()
def lRotB (f:FuncId):LoopAnn:={X:=List Job × Int × Int × Int,live:=fun x=>[(0,.sl 0 10 0 x.1.length),(2,.int .i64 x.2.1),(4,.fn f []),(10,.int .i64 x.2.2.1),(11,.int .i64 x.2.2.2)],heap:=fun x=>[some (.row .job x.1)]}
def oSymB (f:FuncId) (N:Nat):(sSwapRB f).Out:=fun x k=>Law.SymPreB N x.1 x.2.1 x.2.2.1 x.2.2.2.1∧ ∀ys,Law.SortedSeg Law.keyJ x.1 ys x.2.1 x.2.2.2.1→k (ys,()) ()
def lSy1B (f:FuncId):LoopAnn:={X:=List Job × Int × Int × Int,live:=fun x=>[(0,.sl 0 10 0 x.1.length),(1,.int .i64 x.2.1),(4,.fn f []),(10,.int .i64 x.2.2.1),(11,.int .i64 x.2.2.2)],heap:=fun x=>[some (.row .job x.1)]}
def lSy2B:LoopAnn:={X:=List Job × Int × Int,live:=fun x=>[(0,.sl 0 10 0 x.1.length),(10,.int .i64 x.2.1),(13,.int .i64 x.2.2)],heap:=fun x=>[some (.row .job x.1)]}
def lSy3B (f:FuncId):LoopAnn:={X:=List Job × Int × Int × Int,live:=fun x=>[(0,.sl 0 10 0 x.1.length),(2,.int .i64 x.2.1),(4,.fn f []),(14,.int .i64 x.2.2.1),(15,.int .i64 x.2.2.2)],heap:=fun x=>[some (.row .job x.1)]}
def lSy4B:LoopAnn:={X:=List Job × Int × Int,live:=fun x=>[(0,.sl 0 10 0 x.1.length),(14,.int .i64 x.2.1),(17,.int .i64 x.2.2)],heap:=fun x=>[some (.row .job x.1)]}
def lSy5B (f:FuncId):LoopAnn:={X:=List Job × Int × Int × Int × Int × Int × Int × Int × Int,live:=fun x=>[(0,.sl 0 10 0 x.1.length),(1,.int .i64 x.2.1),(2,.int .i64 x.2.2.1),(3,.int .i64 x.2.2.2.1),(4,.fn f []),(18,.int .i64 x.2.2.2.2.1),(19,.int .i64 x.2.2.2.2.2.1),(20,.int .i64 x.2.2.2.2.2.2.1),(21,.int .i64 x.2.2.2.2.2.2.2.1),(22,.int .i64 x.2.2.2.2.2.2.2.2)],heap:=fun x=>[some (.row .job x.1)]}
def sStabB (f:FuncId):Sig:=⟨[(.row .job,true),(.int .i64,false),(.fn f,false)],[]⟩
def oStabB (f:FuncId):(sStabB f).Out:=fun x k=>(Law.StabPreB x.1∧x.2.1=x.1.length)∧ ∀ys,Law.SortedSeg Law.keyJ x.1 ys 0 x.1.length→k (ys,()) ()
def lSt1B (f:FuncId):LoopAnn:={X:=List Job × Int × Int × Int × Int,live:=fun x=>[(0,.sl 0 10 0 x.1.length),(1,.int .i64 x.2.1),(2,.fn f []),(6,.int .i64 x.2.2.1),(7,.int .i64 x.2.2.2.1),(8,.int .i64 x.2.2.2.2)],heap:=fun x=>[some (.row .job x.1)]}
def lSt2B (f:FuncId):LoopAnn:={X:=List Job × Int × Int,live:=fun x=>[(0,.sl 0 10 0 x.1.length),(1,.int .i64 x.2.1),(2,.fn f []),(6,.int .i64 x.2.2)],heap:=fun x=>[some (.row .job x.1)]}
def oStabFB (f:FuncId):(sSortFB f).Out:=fun x k=>Law.StabPreB x.1∧ ∀ys,Law.SortedSeg Law.keyJ x.1 ys 0 x.1.length→k (ys,()) ()
end Go.Ax.Sp
namespace Go.Ax
def cutSpec (k:EK) (n:Nat):SpecT:=fun args H K=>match args with
 | [.imm k' xs]=>if h:k'=k then forceL (List.range H.length) fun T=>K (.imm k ((h▸xs:List k.T).take n)) H T else False
 |_=>False
variable [Surr]
theorem cut_sound {E:LEnv} (hE:E.toEnv.OK) {f:FuncId} {fn:Func} (hf:E.P.funcs[f]? =some fn) {k:EK} {n:Nat}
  (hb: ∀(xs:List k.T) (H:AHeap) (K:AV→AHeap→List Nat→Prop),inlSpec E fn [.imm k xs] H K=forceL (List.range H.length) fun T=>br (decide ((xs.length:Int)>(n:Int))) (((0:Int)≤0∧(0:Int)≤(n:Int)∧(n:Int)≤xs.length)∧K (.imm k ((xs.take (Int.toNat (n:Int))).drop (Int.toNat 0))) H T) (K (.imm k xs) H T)):
  SpecOK E.P f (cutSpec k n):=by
 intro args H K h
 have hi:=inl_sound hE hf
 unfold cutSpec at h
 split at h
 ·rename_i k' xs
  split at h
  ·rename_i hk
   subst hk
   refine hi _ _ _ ?_
   rw [hb]
   simp only [forceL_eq] at h ⊢
   by_cases hl:(xs.length:Int)>(n:Int)
   ·simp only [hl,decide_true,br]
    exact ⟨⟨by decide,by omega,by omega⟩,by simpa using h⟩
   ·simp only [hl,decide_false,br]
    rw [List.take_of_length_le (by omega)] at h
    exact h
  ·exact h.elim
 ·exact h.elim
end Go.Ax
namespace Go.Ax.Law
def wholeF:Nat→Int→Work→Core→Int × Work × Core
 |0,_,w,c=>(0,w,c)
 |f+1,n,w,c=>if (stepW w c).1.done then (n,stepW w c) else wholeF f (n+1) (stepW w c).1 (stepW w c).2
def wholeW (w:Work) (c:Core):Int × Work × Core:=wholeF 1999 1 w c
def eqJ (a b:Job):Bool:=a.Id==b.Id&&(a.User==b.User&&(a.Width==b.Width&&(a.Limit==b.Limit&&(a.Prio==b.Prio&&(a.State==b.State&&(a.Start==b.Start&&(a.End==b.End&&(a.Plan==b.Plan&&(a.Nodes==b.Nodes&&true)))))))))
def eqS (a b:Step):Bool:=a.At==b.At&&(a.Free==b.Free&&true)
def sameJ:List Job→List Job→Bool
 | [],[]=>true
 |a::l,b::r=>eqJ a b&&sameJ l r
 |_,_=>false
def sameS:List Step→List Step→Bool
 | [],[]=>true
 |a::l,b::r=>eqS a b&&sameS l r
 |_,_=>false
end Go.Ax.Law
namespace Go.Ax.Sp
def sYes:Sig:=⟨[],[.bool]⟩
def oYes:sYes.Out:=fun _ k=>k () (true,())
def sSameJ:Sig:=⟨[(.imm .job,false),(.imm .job,false)],[.bool]⟩
def oSameJ:sSameJ.Out:=fun x k=>(x.1.length≤1099511627776)∧k () (Law.sameJ x.1 x.2.1,())
def lSameJ:LoopAnn:={X:=List Job × List Job × Int,live:=fun x=>[(0,.imm .job x.1),(1,.imm .job x.2.1),(5,.int .i64 x.2.2)],heap:=fun _=>[]}
def sSameS:Sig:=⟨[(.imm .step,false),(.imm .step,false)],[.bool]⟩
def oSameS:sSameS.Out:=fun x k=>(x.1.length≤1099511627776)∧k () (Law.sameS x.1 x.2.1,())
def lSameS:LoopAnn:={X:=List Step × List Step × Int,live:=fun x=>[(0,.imm .step x.1),(1,.imm .step x.2.1),(5,.int .i64 x.2.2)],heap:=fun _=>[]}
end Go.Ax.Sp
namespace Go.Ax.V
open Go.Ax.Sp Go.Ax.Law List Int IntKind
set_option maxRecDepth 100000
end Go.Ax.V

