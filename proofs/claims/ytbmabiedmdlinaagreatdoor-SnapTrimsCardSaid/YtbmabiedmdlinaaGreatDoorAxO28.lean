import Derived.Test.YtbmabiedmdlinaaGreatDoorAxO23
import Derived.Test.YtbmabiedmdlinaaGreatDoorAxV9
set_option linter.all false
namespace Go.Ax.O
open Go.Ax.Sp Go.Ax.Law
end Go.Ax.O
namespace Go.Ax.Law
theorem MW.now {m:Model} (h:MW m) {t:Int} (h0:0≤t) (h1:t≤1099511627776):MW {m with Now:=t}:=⟨h.1,h.2.1,h.2.2.1,h0,h1,h.2.2.2.2.2⟩
theorem MW.map {m:Model} (h:MW m) {f:Job→Job} (hf: ∀j,MJ j→MJ (f j)):MW {m with L:=m.L.map f}:=
  ⟨by simpa using h.1,h.2.1,h.2.2.1,h.2.2.2.1,h.2.2.2.2.1,fun j hj=>by
    obtain ⟨x,hx,rfl⟩:=List.mem_map.1 hj
    exact hf x (h.2.2.2.2.2 x hx)⟩
theorem MJ.drop {j:Job} (h:MJ j) (a:Job):MJ (dropJ a j):=by
  unfold dropJ
  split
  · obtain ⟨h1,h2,h3,h4,h5,h6⟩:=h
    exact ⟨h1,h2,h3,by simp,by simp,h6⟩
  · exact h
theorem MJ.over {j:Job} (h:MJ j) (t:Int):MJ (overJ t j):=by
  unfold overJ
  split
  · obtain ⟨h1,h2,h3,h6⟩:=h
    exact ⟨h1,by simp,by simp,h6⟩
  · exact h
theorem MW.drain {m:Model} (h:MW m) (i:Nat) (b:Bool):MW {m with Drain:=m.Drain.set i b}:=⟨h.1,by simpa using h.2.1,by simpa using h.2.2.1,h.2.2.2⟩
theorem pick_U64 {p:Nat→Bool} {w:Int} (hw:0≤w) {n:Nat} (hn:n≤64):U64 (pickN p w n).1:=by
  obtain ⟨_,a,h1,h2,_⟩:=pickN_bits (p:=p) hw n hn
  rw [h2]
  have:(2:Nat)^n≤2^64:=Nat.pow_le_pow_right (by decide) hn
  have e:(2:Nat)^64=18446744073709551616:=by decide
  exact U64.nat (by omega)
theorem MW.begin {m:Model} (h:MW m) (i:Int):MW (beginM m i):=by
  unfold beginM
  split
  · rename_i j hj
    have hJ:=h.job hj
    obtain ⟨h1,h2,h3,h4,h5,h6,h7,h8,h9,h10⟩:=hJ
    have hn:=h.2.2.2
    refine h.set _ ⟨pick_U64 h8 h.2.2.1,by simp [beginJm],by simp [beginJm],by simp [beginJm],by simp [beginJm],h6,h7,h8,h9,?_⟩
    simp only [beginJm];omega
  · exact h
theorem begin_now (m:Model) (i:Int):(beginM m i).Now=m.Now∧(beginM m i).L.length=m.L.length:=by
  unfold beginM;split<;>simp
theorem MW.beginF: ∀(f:Nat) {m:Model},MW m→MW (Law.beginF f m)∧(Law.beginF f m).L.length=m.L.length
  |0,_,h=>⟨h,rfl⟩
  |f+1,m,h=>by
    simp only [Law.beginF]
    split
    · obtain ⟨a,b⟩:=MW.beginF f (h.begin (selN m.Now m.L m.L.length))
      exact ⟨a,b.trans (begin_now _ _).2⟩
    · exact MW.beginF f h
theorem MW.happen {m:Model} (h:MW m):MW (happenM m)∧(happenM m).L.length=m.L.length:=by
  obtain ⟨a,b⟩:=MW.beginF m.L.length (h.map (f:=overJ m.Now) fun j hj=>hj.over m.Now)
  exact ⟨a,b.trans (by simp)⟩
theorem MW.dropM {m:Model} (h:MW m) (j:Job):MW (Law.dropM m j):=h.map fun _ hx=>hx.drop j
end Go.Ax.Law
namespace Go.Ax.O
open Go.Ax.Sp Go.Ax.Law
end Go.Ax.O
namespace Go.Ax.O
open Go.Ax.Sp Go.Ax.Law
theorem df {p:Prop} [Decidable p] (h:decide p=false): ¬ p:=of_decide_eq_false h
end Go.Ax.O
namespace Go.Ax.Sp
end Go.Ax.Sp
namespace Go.Ax.V
open Go.Ax.Sp Go.Ax.Law List Int IntKind
set_option maxRecDepth 100000
end Go.Ax.V
namespace Go.Ax.Law
theorem Stb.cw {n:Nat} {c:Core} {m:Model} (h:Stb n c m):CW c:=h.rep.deep.cw
theorem Stb.len {n:Nat} {c:Core} {m:Model} (h:Stb n c m):c.P.steps.length≤3073:=h.rep.deep.len
theorem whole_do {n:Nat} {c:Core} {m:Model} (h:Stb n c m) (r:Req):1≤(wholeW (newW r) c).1∧(wholeW (newW r) c).2.1.done=true∧(wholeW (newW r) c).2.1.ok=false∧(wholeW (newW r) c).2.1.reply=(doM m r).1∧Stb n (wholeW (newW r) c).2.2 (doM m r).2:=by
 obtain ⟨k,w',c',h1,h2,h3,h4,_,h5⟩:=do_done h r
 have hw:=h2.whole 1999 1 (by omega)
 unfold wholeW
 rw [hw]
 have:=h2.pos
 exact ⟨by simp only [];omega,h2.done,h3,h4,h5⟩
theorem whole_commit {n:Nat} {c:Core} {m:Model} (h:Stb n c m) (x:Choice):1≤(wholeW (newX x) c).1∧(wholeW (newX x) c).2.1.done=true∧(wholeW (newX x) c).2.1.ok=(commitM m x).1∧Stb n (wholeW (newX x) c).2.2 (commitM m x).2∧fitsC c x=(commitM m x).1∧((commitM m x).1=true→ProfX c x (wholeW (newX x) c).2.2):=by
 obtain ⟨⟨k,w',c',h1,h2,h3,_,h5,h7⟩,h6⟩:=commit_done h x
 have hw:=h2.whole 1999 1 (by omega)
 unfold wholeW
 rw [hw]
 have:=h2.pos
 exact ⟨by simp only [];omega,h2.done,h3,h5,h6,h7⟩
end Go.Ax.Law
namespace Go.Ax.O
open Go.Ax.Sp Go.Ax.Law
end Go.Ax.O
namespace Go.Ax
def nilSpec (S1 S2:SpecT):SpecT:=fun args H K=>match args with
 | .nilp::_=>S2 args H K
 |_=>S1 args H K
theorem nil_ok {P:Program} {f:FuncId} [Surr] {S1 S2:SpecT} (h1:SpecOK P f S1) (h2:SpecOK P f S2):SpecOK P f (nilSpec S1 S2):=by
 intro args H K hk
 unfold nilSpec at hk
 split at hk
 ·exact h2 _ H K hk
 ·exact h1 _ H K hk
end Go.Ax
namespace Go.Ax.Law
def isK (k:Int):Bool:=decide (1≤k)&&decide (k≤13)
def doS (c:Core) (r:Req):Reply × Core:=if isK r.Kind then ((wholeW (newW r) c).2.1.reply,(wholeW (newW r) c).2.2) else (failR 4,c)
def comS (c:Core) (x:Choice):Bool × Core:=((wholeW (newX x) c).2.1.ok,(wholeW (newX x) c).2.2)
def deedS (c:Core) (d:Deed):Core:=if d.Commit then (comS c d.X).2 else (doS c d.R).2
def madeS (n:Int) (l:List Deed):Core:=(l.take 60).foldl deedS (newCore n)
def OkS (c:Core):Prop:= ∃n m,Stb n c m
def itemJ (j:Job):Item:=⟨j.Id,j.Width,j.Limit,j.Plan⟩
def waitC (c:Core):List Job:=sortJ (inJ c.J.jobs [1])
def noneS:Option Sched→Bool
 |none=>true
 |some s=>noneC (some s.C)
end Go.Ax.Law
namespace Go.Ax.Sp
def sIsR:Sig:=⟨[(.int .i64,false)],[.bool]⟩
def oIsR:sIsR.Out:=fun x k=>k () (Law.isK x.1,())
def sNewS:Sig:=⟨[(.int .i64,false)],[.opt .sched,.int .i64]⟩
def oNewS:sNewS.Out:=fun x k=>((x.1<1∨64<x.1)→k () (none,1,()))∧(1≤x.1∧x.1≤64→k () (some ⟨Law.newCore x.1⟩,0,()))
def sNoneS:Sig:=⟨[(.vopt .sched,false)],[.bool]⟩
def oNoneS:sNoneS.Out:=fun x k=>k () (Law.noneS x.1,())
def sRunS:Sig:=⟨[(.obj .sched,true),(.obj .work,true)],[]⟩
def PreRun (w:Work) (c:Core) (j:Nat) (w':Work) (c':Core):Prop:=Law.Ends w c j w' c'∧Law.CW c∧Law.WW w∧c.P.steps.length+4*j≤4294960000
def oRunS:sRunS.Out:=fun x k=> ∃j w' c',PreRun x.2.1 x.1.C j w' c'∧k (⟨c'⟩,w',()) ()
def lRunS:LoopAnn:={X:=Core × Work × Nat,live:=fun _=>[(0,.ptr ⟨0,0,0,0⟩),(1,.ptr ⟨1,0,0,0⟩)],heap:=fun x=>[some (.obj .sched ⟨x.1⟩),some (.obj .work x.2.1)],norm:=[.fold 0 .sched,.fold 1 .work]}
def sDoS:Sig:=⟨[(.obj .sched,true),(.elem .req,false)],[.elem .reply]⟩
def oDoS:sDoS.Out:=fun x k=>Law.OkS x.1.C∧k (⟨(Law.doS x.1.C x.2.1).2⟩,()) ((Law.doS x.1.C x.2.1).1,())
def sComS:Sig:=⟨[(.obj .sched,true),(.elem .choice,false)],[.bool]⟩
def oComS:sComS.Out:=fun x k=>Law.OkS x.1.C∧k (⟨(Law.comS x.1.C x.2.1).2⟩,()) ((Law.comS x.1.C x.2.1).1,())
def sTwinS:Sig:=⟨[(.view .sched,false)],[.opt .sched]⟩
def oTwinS:sTwinS.Out:=fun x k=>Law.CW x.1.C∧k () (some x.1,())
def sItems:Sig:=⟨[(.imm .job,false)],[.row .item]⟩
def oItems:sItems.Out:=fun x k=>(x.1.length≤4294967296)∧k () (x.1.map Law.itemJ,())
def lItems:LoopAnn:={X:=List Job × List Item × Int,live:=fun x=>[(3,.sl 0 4 0 x.2.1.length),(6,.imm .job x.1),(7,.int .i64 x.1.length),(8,.int .i64 x.2.2)],heap:=fun x=>[some (.row .item x.2.1)],norm:=[.row 3 .item,.home 3 0]}
def sItemsS:Sig:=⟨[(.view .sched,false)],[.row .item]⟩
def oItemsS:sItemsS.Out:=fun x k=>Law.CW x.1.C∧k () ((Law.waitC x.1.C).map Law.itemJ,())
def sMadeS:Sig:=⟨[(.int .i64,false),(.imm .deed,false)],[.opt .sched]⟩
def oMadeS:sMadeS.Out:=fun x k=>((x.1<1∨64<x.1)→k () (none,()))∧(1≤x.1∧x.1≤64→k () (some ⟨Law.madeS x.1 x.2.1⟩,()))
def lMadeS:LoopAnn:={X:=List Deed × Core × Int,live:=fun x=>[(1,.imm .deed x.1),(5,.ptr ⟨0,0,0,0⟩),(7,.int .i64 x.2.2)],heap:=fun x=>[some (.obj .sched ⟨x.2.1⟩)],norm:=[.fold 0 .sched]}
end Go.Ax.Sp
namespace Go.Ax.V
open Go.Ax.Sp Go.Ax.Law List Int IntKind
set_option maxRecDepth 100000
def vComS (s:Sched) (x:Choice) (k:Sched × Unit→Bool × Unit→Prop):Prop:=
∃j w' c',(Law.Ends (newX x) s.C j w' c'∧CW s.C∧WW (newX x)∧length s.C.P.steps+4*j≤4294960000)∧k (Sched.mk c',()) (w'.ok,())
def vDoS (s:Sched) (r:Req) (k:Sched × Unit→Reply × Unit→Prop):Prop:=
br (!isK r.Kind) (k (s,()) (Reply.mk 4 0 0 0 0 0 0 0 0,())) (∃j w' c',(Law.Ends (newW r) s.C j w' c'∧CW s.C∧WW (newW r)∧length s.C.P.steps+4*j≤4294960000)∧k (Sched.mk c',()) (w'.reply,()))
def vIsR (q:Int) (k:Unit→Bool × Unit→Prop):Prop:=
br (decide (q≥1)) (k () (decide (q≤13),())) (k () (false,()))
def vItems (l:List Job) (k:Unit→List Ax.Item × Unit→Prop):Prop:=
LP (List Job × List Ax.Item × Int) (fun x=>((0=0∧0=length x.2.1)∧l=x.1∧LN l=LN x.1∧0=x.2.2∧True)∧[]=x.2.1∧True) fun I m x=>SH (length x.2.1) fun s0=>br (decide (x.2.2<LN x.1)) (AI x.1 x.2.2 fun e=>1≤1∧0+s0≤s0∧s0+1≤68719476736∧NM (x.2.2+1) fun n=>NX I m x fun y=>((0=0∧s0+1=length y.2.1)∧x.1=y.1∧LN x.1=LN y.1∧n=y.2.2∧True)∧tk x.2.1++[Item.mk e.Id e.Width e.Limit e.Plan]=y.2.1∧True) (s0=s0∧k () (x.2.1,()))
def vItemsS (s:Sched) (k:Unit→List Ax.Item × Unit→Prop):Prop:=
SH (sortJ (inJ s.C.J.jobs [1])) fun s0=>JW s.C.J∧0+length s0≤length s0∧length (tk s0)≤4294967296∧length (map itemJ (tk s0))=length (map itemJ (tk s0))∧k () (map itemJ (tk s0),())
def vMadeS (n:Int) (l:List Deed) (k:Unit→Option Sched × Unit→Prop):Prop:=
(n<1∨64<n→k () (none,()))∧(1≤n∧n≤64→LP (List Deed × Core × Int) (fun x=>(take 60 l=x.1∧0=0∧0=x.2.2∧True)∧Sched.mk (newCore n)=Sched.mk x.2.1∧True) fun I m x=>br (decide (x.2.2<LN x.1)) (AI x.1 x.2.2 fun e=>br e.Commit (AI x.1 x.2.2 fun e=>OkS x.2.1∧NM (x.2.2+1) fun n=>NX I m x fun y=>(x.1=y.1∧0=0∧n=y.2.2∧True)∧Sched.mk (wholeW (newX e.X) x.2.1).2.2=Sched.mk y.2.1∧True) (AI x.1 x.2.2 fun e=>OkS x.2.1∧NM (x.2.2+1) fun n=>NX I m x fun y=>(x.1=y.1∧0=0∧n=y.2.2∧True)∧Sched.mk (doS x.2.1 e.R).2=Sched.mk y.2.1∧True)) (k () (some (Sched.mk x.2.1),())))
def vNewS (n:Int) (k:Unit→Option Sched × Int × Unit→Prop):Prop:=
(n<1∨64<n→k () (none,1,()))∧(1≤n∧n≤64→k () (some (Sched.mk (newCore n)),0,()))
def vNoneS (s:Sched) (k:Unit→Bool × Unit→Prop):Prop:=
k () (noneC (some s.C),())
def vNoneSN (k:Unit→Bool × Unit→Prop):Prop:=
k () (true,())
def vRunS (s:Sched) (w:Work) (k:Sched × Work × Unit→Unit→Prop):Prop:=
LP (Core × Work × Nat) (fun x=>(0=0∧0=0∧True)∧s=Sched.mk x.1∧w=x.2.1∧True) fun I m x=>SH (stepW x.2.1 x.1) fun s0=>(CW x.1∧WW x.2.1∧length x.1.P.steps≤4294967280)∧br (!s0.1.done) (NX I m x fun y=>(0=0∧0=0∧True)∧Sched.mk s0.2=Sched.mk y.1∧s0.1=y.2.1∧True) (k (Sched.mk s0.2,s0.1,()) ())
def vTwinS (s:Sched) (k:Unit→Option Sched × Unit→Prop):Prop:=
CW s.C∧k () (some s,())
end Go.Ax.V
namespace Go.Ax.Law
def doSM (m:Model) (r:Req):Reply × Model:=if isK r.Kind then doM m r else (failR 4,m)
def deedSM (m:Model) (d:Deed):Model:=if d.Commit then (commitM m d.X).2 else (doSM m d.R).2
theorem doS_stb {n:Nat} {c:Core} {m:Model} (h:Stb n c m) (r:Req):(doS c r).1=(doSM m r).1∧Stb n (doS c r).2 (doSM m r).2:=by
 unfold doS doSM
 cases isK r.Kind with
 |true=>obtain ⟨_,_,_,a4,a5⟩:=whole_do h r;exact ⟨a4,a5⟩
 |false=>exact ⟨rfl,h⟩
theorem comS_stb {n:Nat} {c:Core} {m:Model} (h:Stb n c m) (x:Choice):(comS c x).1=(commitM m x).1∧Stb n (comS c x).2 (commitM m x).2:=by
 obtain ⟨_,_,a3,a4,_⟩:=whole_commit h x
 exact ⟨a3,a4⟩
theorem deedS_stb {n:Nat} {c:Core} {m:Model} (h:Stb n c m) (d:Deed):Stb n (deedS c d) (deedSM m d):=by
 unfold deedS deedSM
 cases d.Commit with
 |true=>exact (comS_stb h d.X).2
 |false=>exact (doS_stb h d.R).2
theorem Stb.same {n:Nat} {c c':Core} {m:Model} (h:Stb n c m) (h':Stb n c' m):c'.J.jobs=c.J.jobs∧c'.P.steps=c.P.steps∧c'.N=c.N∧c'.closed=c.closed:=by
 have hj:c'.J.jobs=c.J.jobs:=h'.rep.jobs.symm.trans h.rep.jobs
 have hd:=h.rep.deep
 have hd':=h'.rep.deep
 refine ⟨hj,h'.rep.steps.symm.trans h.rep.steps,?_,h'.rep.closed.symm.trans h.rep.closed⟩
 have e1:c'.N.all=c.N.all:=by rw [hd.all,hd'.all]
 have e2:c'.N.used=c.N.used:=bits_ext hd'.cw.2.1.2.1 hd.cw.2.1.2.1 fun k _=>by rw [hd.us,hd'.us,hj]
 have e3:c'.N.drain=c.N.drain:=bits_ext hd'.cw.2.1.2.2.1 hd.cw.2.1.2.2.1 fun k _=>by
  by_cases hk:k<n
  ·exact (h'.rep.dr k hk).symm.trans (h.rep.dr k hk)
  ·have a1:=hd.dn k
   have a2:=hd'.dn k
   cases b1:hasB c.N.drain (k:Int)<;>cases b2:hasB c'.N.drain (k:Int)<;>simp only [b1,b2] at a1 a2<;>first |rfl |exact absurd (a1 trivial) hk |exact absurd (a2 trivial) hk
 cases hc:c.N;cases hc':c'.N
 simp only [hc,hc'] at e1 e2 e3
 rw [e1,e2,e3]
theorem ends_do {n:Nat} {c:Core} {m:Model} (h:Stb n c m) (r:Req): ∃j,j≤140∧Ends (newW r) c j (wholeW (newW r) c).2.1 (wholeW (newW r) c).2.2:=by
 obtain ⟨k,w',c',h1,h2,_⟩:=do_done h r
 refine ⟨k,h1,?_⟩
 unfold wholeW
 rw [h2.whole 1999 1 (by omega)];exact h2
theorem ends_com {n:Nat} {c:Core} {m:Model} (h:Stb n c m) (x:Choice): ∃j,j≤4∧Ends (newX x) c j (wholeW (newX x) c).2.1 (wholeW (newX x) c).2.2:=by
 obtain ⟨⟨k,w',c',h1,h2,_⟩,_⟩:=commit_done h x
 refine ⟨k,h1,?_⟩
 unfold wholeW
 rw [h2.whole 1999 1 (by omega)];exact h2
theorem wait_len {c:Core} (h:CW c):(sortJ (inJ c.J.jobs [1])).length≤4294967296:=by
 have a1:=h.1.2.1
 have a2:(inJ c.J.jobs [1]).length≤c.J.jobs.length:=List.length_filter_le _ _
 rw [sort_len];omega
def Ref (m:Model) (p:Reply × Model):Prop:=p.1.Err≠0→p=(failR p.1.Err,m)
theorem Ref.fail {m:Model} {e:Int}:Ref m (failR e,m):=fun _=>rfl
theorem OkS.step {c:Core} (h:OkS c) (r:Req):OkS (doS c r).2:=by
 obtain ⟨n,m,h⟩:=h
 exact ⟨_,_,(doS_stb h r).2⟩
theorem OkS.cw {c:Core} (h:OkS c):CW c:=by obtain ⟨n,m,h⟩:=h;exact h.cw
theorem OkS.len {c:Core} (h:OkS c):c.P.steps.length≤3073:=by obtain ⟨n,m,h⟩:=h;exact h.len
end Go.Ax.Law
namespace Go.Ax.O
open Go.Ax.Sp Go.Ax.Law
theorem vIsR {q:Int} {k:Unit→Bool × Unit→Prop} (h:oIsR (q,()) k):V.vIsR q k:=by
 have h:k () (isK q,()):=h
 unfold isK at h
 unfold V.vIsR
 refine br_dec (fun h1=>?_) (fun h1=>?_)
 ·rw [show decide (1≤q)=true from decide_eq_true h1,Bool.true_and] at h;exact h
 ·rw [show decide (1≤q)=false from decide_eq_false h1,Bool.false_and] at h;exact h
theorem vNewS {n:Int} {k:Unit→Option Sched × Int × Unit→Prop} (h:oNewS (n,()) k):V.vNewS n k:=h
theorem vNoneS {s:Sched} {k:Unit→Bool × Unit→Prop} (h:oNoneS (some s,()) k):V.vNoneS s k:=h
theorem vNoneSN {k:Unit→Bool × Unit→Prop} (h:oNoneS (none,()) k):V.vNoneSN k:=h
theorem vRunS {s:Sched} {w:Work} {k:Sched × Work × Unit→Unit→Prop} (h:oRunS (s,w,()) k):V.vRunS s w k:=by
 obtain ⟨j,w',c',⟨h1,h2,h3,h4⟩,hk⟩:=h
 have hk:k (⟨c'⟩,w',()) ():=hk
 unfold V.vRunS V.LP V.NX V.SH
 simp only [true_and,and_true]
 refine ⟨fun x=>Law.Ends x.2.1 x.1 x.2.2 w' c'∧CW x.1∧WW x.2.1∧x.1.P.steps.length+4*x.2.2≤4294960000,fun x=>x.2.2,(s.C,w,j),⟨h1,h2,h3,h4⟩,by simp,?_⟩
 rintro ⟨c,v,i⟩ ⟨g1,g2,g3,g4⟩
 simp only [] at g1 g2 g3 g4
 dsimp only
 have:=g1.pos
 obtain ⟨s1,s2,s3⟩:=stepW_ok g2 g3 (by omega)
 refine ⟨⟨g2,g3,by omega⟩,br_not (fun hd=>?_) (fun hd=>?_)⟩
 ·cases g1 with
  |one h=>rw [h] at hd;cases hd
  | @more _ _ i _ _ _ he=>exact ⟨((stepW v c).2,(stepW v c).1,i),⟨he,s1,s2,by simp only [];omega⟩,by simp,by simp only [];omega⟩
 ·cases g1 with
  |one h=>exact hk
  |more h _=>rw [h] at hd;cases hd
theorem vDoS {s:Sched} {r:Req} {k:Sched × Unit→Reply × Unit→Prop} (h:oDoS (s,r,()) k):V.vDoS s r k:=by
 obtain ⟨⟨n,m,hs⟩,hk⟩:=h
 have hs:Stb n s.C m:=hs
 have hk:k (⟨(doS s.C r).2⟩,()) ((doS s.C r).1,()):=hk
 have hl:=hs.len
 unfold doS at hk
 unfold V.vDoS
 refine br_not (fun hb=>?_) (fun hb=>?_)
 ·rw [if_neg (by rw [hb];decide)] at hk;exact hk
 ·rw [if_pos hb] at hk
  obtain ⟨j,h1,h2⟩:=ends_do hs r
  exact ⟨j,_,_,⟨h2,hs.cw,newW_WW _,by omega⟩,hk⟩
theorem vComS {s:Sched} {x:Choice} {k:Sched × Unit→Bool × Unit→Prop} (h:oComS (s,x,()) k):V.vComS s x k:=by
 obtain ⟨⟨n,m,hs⟩,hk⟩:=h
 have hs:Stb n s.C m:=hs
 have hl:=hs.len
 obtain ⟨j,h1,h2⟩:=ends_com hs x
 exact ⟨j,_,_,⟨h2,hs.cw,newX_WW _,by omega⟩,hk⟩
theorem vTwinS {s:Sched} {k:Unit→Option Sched × Unit→Prop} (h:oTwinS (s,()) k):V.vTwinS s k:=h
theorem vItems {l:List Job} {k:Unit→List Go.Ax.Item × Unit→Prop} (h:oItems (l,()) k):V.vItems l k:=by
 obtain ⟨hl,hk⟩:=h
 have hl:l.length≤4294967296:=hl
 have hk:k () (l.map itemJ,()):=hk
 unfold V.vItems V.LP V.NX V.AI V.NM V.SH V.LN
 simp only [tk_eq,tkset,Nat.zero_add,Nat.le_refl,true_and,and_true,List.length_set]
 refine ⟨fun x=>x.1=l∧0≤x.2.2∧x.2.2≤l.length∧x.2.1=(l.take x.2.2.toNat).map itemJ,fun x=>(l.length-x.2.2).toNat,(l,[],0),⟨rfl,Int.le_refl _,by simp,by simp⟩,by simp,?_⟩
 rintro ⟨l',o,i⟩ ⟨g1,g2,g3,g4⟩
 simp only [] at g1 g2 g3 g4
 subst g1 g4
 obtain ⟨i,rfl⟩:=Int.eq_ofNat_of_zero_le g2
 simp only [Int.toNat_natCast]
 have hlen:((l'.take i).map itemJ).length≤l'.length:=by simp;omega
 refine br_dec (fun hi=>⟨⟨g2,hi⟩,fun e he=>⟨by omega,fun q hq=>?_⟩⟩) (fun hi=>?_)
 ·rw [w64 (by omega)] at hq
  subst hq
  refine ⟨(l',(l'.take (i+1)).map itemJ,i+1),⟨rfl,by simp only [];omega,by simp only [];omega,by simp only [show ((i:Int)+1).toNat=i+1 by omega]⟩,?_,by simp only [];omega⟩
  rw [List.take_add_one,he]
  simp [itemJ]
 ·rw [List.take_of_length_le (by omega)];exact hk
theorem vItemsS {s:Sched} {k:Unit→List Go.Ax.Item × Unit→Prop} (h:oItemsS (s,()) k):V.vItemsS s k:=by
 obtain ⟨hc,hk⟩:=h
 have hc:CW s.C:=hc
 have hk:k () ((waitC s.C).map itemJ,()):=hk
 unfold V.vItemsS V.SH
 simp only [tk_eq,tkset,Nat.zero_add,Nat.le_refl,true_and,and_true,List.length_set]
 exact ⟨hc.1,wait_len hc,hk⟩
theorem vMadeS {n:Int} {l:List Deed} {k:Unit→Option Sched × Unit→Prop} (h:oMadeS (n,l,()) k):V.vMadeS n l k:=by
 obtain ⟨hk1,hk2⟩:=h
 unfold V.vMadeS V.LP V.NX V.AI V.NM V.LN
 simp only [tk_eq,tkset,Nat.zero_add,Nat.le_refl,true_and,and_true,List.length_set]
 refine ⟨hk1,fun hn=>?_⟩
 obtain ⟨n1,n2⟩:=hn
 have hk:k () (some ⟨madeS n l⟩,()):=hk2 ⟨n1,n2⟩
 unfold madeS at hk
 have hs:=new_stb (n:=n.toNat) (by omega) (by omega)
 rw [Int.toNat_of_nonneg (by omega)] at hs
 have ht:=List.length_take_le 60 l
 generalize List.take 60 l=L at*
 refine ⟨fun x=>x.1=L∧OkS x.2.1∧0≤x.2.2∧x.2.2≤L.length∧x.2.1=(L.take x.2.2.toNat).foldl deedS (newCore n),fun x=>(L.length-x.2.2).toNat,(L,newCore n,0),⟨rfl,⟨_,_,hs⟩,Int.le_refl _,by simp,by simp⟩,by simp,?_⟩
 rintro ⟨L',d,i⟩ ⟨g1,g2,g3,g4,g5⟩
 simp only [] at g1 g2 g3 g4 g5
 subst g1
 obtain ⟨i,rfl⟩:=Int.eq_ofNat_of_zero_le g3
 simp only [Int.toNat_natCast] at g5 ⊢
 refine br_dec (fun hi=>⟨⟨g3,hi⟩,fun e he=>?_⟩) (fun hi=>?_)
 ·have nx: ∀d2,d2=deedS d e→ ∀q,q=IntKind.i64.wrap ((i:Int)+1)→ ∃y:List Deed × Core × Int,(y.1=L'∧OkS y.2.1∧0≤y.2.2∧y.2.2≤L'.length∧y.2.1=(L'.take y.2.2.toNat).foldl deedS (newCore n))∧((L'=y.1∧q=y.2.2)∧Sched.mk d2=Sched.mk y.2.1)∧(L'.length-y.2.2).toNat<(L'.length-(i:Int)).toNat:=by
   intro d2 hd2 q hq
   rw [w64 (by omega)] at hq
   subst hq hd2
   obtain ⟨n',m',g2⟩:=g2
   refine ⟨(L',deedS d e,i+1),⟨rfl,⟨_,_,deedS_stb g2 e⟩,by simp only [];omega,by simp only [];omega,?_⟩,by simp,by simp only [];omega⟩
   have:((i:Int)+1).toNat=i+1:=by omega
   simp only [this]
   rw [List.take_add_one,he,List.foldl_append,←g5]
   rfl
  refine br_bool (fun hb=>⟨⟨g3,hi⟩,fun e1 he1=>?_⟩) (fun hb=>⟨⟨g3,hi⟩,fun e1 he1=>?_⟩)<;>(rw [he] at he1;cases he1)
  ·exact ⟨g2,nx _ (by unfold deedS comS;rw [if_pos hb])⟩
  ·exact ⟨g2,nx _ (by unfold deedS;rw [if_neg (by rw [hb];decide)])⟩
 ·rw [List.take_of_length_le (by omega)] at g5
  rw [g5];exact hk
end Go.Ax.O

