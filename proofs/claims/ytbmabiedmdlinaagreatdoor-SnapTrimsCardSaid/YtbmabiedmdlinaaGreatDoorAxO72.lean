import Derived.Test.YtbmabiedmdlinaaGreatDoorAxV9
import Derived.Test.YtbmabiedmdlinaaGreatDoorAxV22
import Derived.Test.YtbmabiedmdlinaaGreatDoorAxO70
import Derived.KernelRfl
import Derived.Test.YtbmabiedmdlinaaGreatDoorAxO23
import Derived.Test.YtbmabiedmdlinaaGreatDoorAxO14
import Derived.Test.YtbmabiedmdlinaaGreatDoorAxD11
set_option linter.all false
namespace Go.Ax.V
open Go.Ax.Sp Go.Ax.Law List Int IntKind
set_option maxRecDepth 100000
def vBytes0 (d:Diary) (k:Diary × Unit→List Int × Unit→Prop):Prop:=
SH (length ((66:Int)::(82:Int)::(84:Int)::(49:Int)::List.append [] (varL d.nodes))) fun s0=>SH ((66:Int)::(82:Int)::(84:Int)::(49:Int)::List.append (List.append [] (varL d.nodes)) (varL (LN d.deeds))) fun s1=>SH d.deeds fun s2=>SH (length s2) fun s3=>SH ((4:Nat)≤(1000000:Nat)∧(0:Int)≤d.nodes∧d.nodes≤(9223372036854775807:Int)) fun s4=>SH (s0≤(1000000:Nat)∧(0:Int)≤LN s2∧LN s2≤(9223372036854775807:Int)) fun s5=>br (Option.isNone d.S) (k (d,()) ([],())) ((0:Nat)<(4:Nat)∧oc d.S ((4:Nat)=(4:Nat)∧s4∧s0=s0∧s5∧LP (Diary × List Int × Int × Int) (fun x=>(0:Nat)+s3≤s3∧(((0:Nat)=(0:Nat)∧length s1=length x.2.1)∧LN s2=x.2.2.1∧(0:Int)=x.2.2.2∧True)∧Diary.mk none d.nodes (take s3 (drop (0:Nat) s2))=x.1∧s1=x.2.1∧True) fun I m x=>br (decide (x.2.2.2<x.2.2.1)) False (length x.2.1=length x.2.1∧k (x.1,()) (x.2.1,()))) fun dS=>(4:Nat)=(4:Nat)∧s4∧s0=s0∧s5∧LP (Diary × List Int × Int × Int) (fun x=>(0:Nat)+s3≤s3∧(((0:Nat)=(0:Nat)∧length s1=length x.2.1)∧LN s2=x.2.2.1∧(0:Int)=x.2.2.2∧True)∧Diary.mk (some dS) d.nodes (take s3 (drop (0:Nat) s2))=x.1∧s1=x.2.1∧True) fun I m x=>br (decide (x.2.2.2<x.2.2.1)) False (length x.2.1=length x.2.1∧k (x.1,()) (x.2.1,())))
def vAwakeSn (u:Unit) (k:Unit→Bool × Unit→Prop):Prop:=
((2:Int)<1∨(64:Int)<2→k () (false,()))∧((1:Int)≤2∧(2:Int)≤64→(false=false→(0:Nat)=0∧(0:Int)≤2∧(2:Int)≤1000)∧((6:Nat)≤6∧(0:Nat)<6)∧k () (ByteArray.toList (strOf [(66:Int),(82:Int),(84:Int),(49:Int),wrap .u8 (2:Int),wrap .u8 (0:Int)])==ByteArray.toList (ByteArray.mk (Array.mk [UInt8.ofNat (66:Nat),UInt8.ofNat (82:Nat),UInt8.ofNat (84:Nat),UInt8.ofNat (49:Nat),UInt8.ofNat (2:Nat),UInt8.ofNat (0:Nat)])),()))
end Go.Ax.V
namespace Go.Ax.O
open Go.Ax.Sp Go.Ax.Law
theorem vBytes0 {d:Diary} {k:Diary × Unit→List Int × Unit→Prop} (h:oBytes0 (d,()) k):V.vBytes0 d k:=by
 obtain ⟨hp,h⟩:=h
 replace hp:d.S.isNone=false→d.deeds.length=0∧0≤d.nodes∧d.nodes≤1000:=hp
 replace h:k (d,()) (bytes0 d,()):=h
 unfold V.vBytes0
 simp only [V.LP,V.NX,V.NM,V.SH,V.AT,V.AI,V.LN,tkl70,Nat.zero_add,Nat.le_refl,true_and,and_true]
 obtain ⟨S,n,l⟩:=d
 cases S with
 |none=>exact br_bool (fun _=>h) (fun hh=>by cases hh)
 |some s=>
  obtain ⟨q1,q2,q3⟩:=hp rfl
  replace q2:0≤n:=q2
  replace q3:n≤1000:=q3
  obtain rfl:l=[]:=List.eq_nil_of_length_eq_zero q1
  have hv:(varL n).length≤10:=varF_len 9 n
  have hb:bytes0 ⟨some s,n,[]⟩=66::82::84::49::List.append (List.append [] (varL n)) (varL 0):=by
   unfold bytes0
   rw [if_neg (by simp)]
   rfl
  rw [hb] at h
  refine br_bool (fun hh=>by cases hh) (fun _=>⟨by decide,oc_s (fun e=>by cases e) (fun s' e=>?_)⟩)
  cases e
  refine ⟨⟨by decide,q2,by simp only [];omega⟩,⟨?_,by simp,by simp⟩,fun x=>x=(⟨some s,n,[]⟩,66::82::84::49::List.append (List.append [] (varL n)) (varL 0),0,0),fun _=>0,_,rfl,by simp,?_⟩
  ·show (66::82::84::49::([]++varL n)).length≤1000000
   simp only [List.nil_append,List.length_cons];omega
  ·rintro _ rfl
   exact br_dec (fun hh=>absurd hh (by simp)) (fun _=>h)
theorem vAwakeSn {u:Unit} {k:Unit→Bool × Unit→Prop} (h:oYes u k):V.vAwakeSn u k:=by
 have h:k () (true,()):=h
 unfold V.vAwakeSn
 have ht: ∀b:Bool,b=true→k () (b,()):=fun b hb=>by subst hb;exact h
 exact ⟨fun hh=>absurd hh (by decide),fun _=>⟨fun _=>by decide,by decide,ht _ (by kernel_rfl)⟩⟩
end Go.Ax.O
namespace Go.Ax.Law
def sameC (a b:Core):Bool:=sameJ a.J.jobs b.J.jobs&&(sameS a.P.steps b.P.steps&&((a.closed==b.closed)&&(decide (lenS a.N.all=lenS b.N.all)&&(List.range (lenS a.N.all).toNat).all fun k=>decide (stateN a.N k=stateN b.N k))))
end Go.Ax.Law
namespace Go.Ax.Law
def ofDeed (d:Deed):SDeed:=⟨d.R,d.X,d.Commit⟩
def cleanS (x:SDeed):SDeed:=if x.Commit then ⟨req0,x.Choice,true⟩ else ⟨x.Req,⟨0,0⟩,false⟩
def keepS (x:SDeed):Bool:=x.Commit||(decide (x.Req.Kind≠6)&&(decide (x.Req.Kind≠10)&&(decide (x.Req.Kind≠11)&&decide (x.Req.Kind≠12))))
def trimS (l:List SDeed):List SDeed:=(l.filter keepS).map cleanS
def actL (d:Diary) (l:List SDeed):Diary:=l.foldl (fun d x=>(actD d x).1) d
end Go.Ax.Law
namespace Go.Ax.Sp
def lEqJ:LoopAnn:={X:=List Job × List Job × Int × Int,live:=fun x=>[(0,.imm .job x.1),(1,.imm .job x.2.1),(12,.int .i64 x.2.2.1),(13,.int .i64 x.2.2.2)],heap:=fun _=>[]}
def lEqS:LoopAnn:={X:=List Step × List Step × Int × Int,live:=fun x=>[(0,.imm .step x.1),(1,.imm .step x.2.1),(12,.int .i64 x.2.2.1),(13,.int .i64 x.2.2.2)],heap:=fun _=>[]}
def sSameA:Sig:=⟨[(.obj .core,true),(.obj .core,true)],[.bool]⟩
def oSameA:sSameA.Out:=fun x k=>(Law.CW x.1∧Law.CW x.2.1)∧k (x.1,x.2.1,()) (Law.sameC x.1 x.2.1,())
def lSameA:LoopAnn:={X:=Core × Core × Int × Int,live:=fun x=>[(0,.ptr ⟨0,0,0,0⟩),(1,.ptr ⟨1,0,0,0⟩),(68,.int .i64 x.2.2.1),(69,.int .i64 x.2.2.2)],heap:=fun x=>[some (.obj .core x.1),some (.obj .core x.2.1)],norm:=[.fold 0 .core,.fold 1 .core]}
def sDeed40:Sig:=⟨[(.elem .deed,false)],[.elem .sdeed]⟩
def oDeed40:sDeed40.Out:=fun x k=>k () (Law.ofDeed x.1,())
def sClean40:Sig:=⟨[(.elem .sdeed,false)],[.elem .sdeed]⟩
def oClean40:sClean40.Out:=fun x k=>k () (Law.cleanS x.1,())
def sTrim:Sig:=⟨[(.imm .sdeed,false)],[.row .sdeed]⟩
def oTrim:sTrim.Out:=fun x k=>x.1.length≤1000000∧k () (Law.trimS x.1,())
def lTrim:LoopAnn:={X:=List SDeed × List SDeed × Int,live:=fun x=>[(3,.sl 0 12 0 x.2.1.length),(7,.imm .sdeed x.1),(8,.int .i64 x.1.length),(9,.int .i64 x.2.2)],heap:=fun x=>[some (.row .sdeed x.2.1)],norm:=[.row 3 .sdeed,.home 3 0]}
def sSnapT:Sig:=⟨[(.int .i64,false),(.imm .deed,false)],[.bool]⟩
def oSnapT:sSnapT.Out:=fun _ k=>k () (true,())
def lSnapT1:LoopAnn:={X:=Int × List Deed × List SDeed × List SDeed × Int,live:=fun x=>[(0,.int .i64 x.1),(1,.imm .deed x.2.1),(5,.sl 0 12 0 x.2.2.1.length),(6,.sl 1 12 0 x.2.2.2.1.length),(7,.int .i64 x.2.2.2.2)],heap:=fun x=>[some (.row .sdeed x.2.2.1),some (.row .sdeed x.2.2.2.1)],norm:=[.row 5 .sdeed,.home 5 0,.row 6 .sdeed,.home 6 1]}
def lSnapT2:LoopAnn:={X:=Int × List SDeed × List SDeed × List SDeed × Int,live:=fun x=>[(0,.int .i64 x.1),(5,.sl 0 12 0 x.2.1.length),(6,.sl 1 12 0 x.2.2.1.length),(10,.sl 2 12 0 x.2.2.2.1.length),(11,.int .i64 x.2.2.2.2)],heap:=fun x=>[some (.row .sdeed x.2.1),some (.row .sdeed x.2.2.1),some (.row .sdeed x.2.2.2.1)]}
def lSnapT3:LoopAnn:={X:=List SDeed × List SDeed × Diary × Diary × Int,live:=fun x=>[(5,.sl 0 12 0 x.1.length),(10,.sl 2 12 0 x.2.1.length),(12,.ptr ⟨3,0,0,0⟩),(14,.ptr ⟨4,0,0,0⟩),(16,.int .i64 x.2.2.2.2)],heap:=fun x=>[some (.row .sdeed x.1),none,some (.row .sdeed x.2.1),some (.obj .diary x.2.2.1),some (.obj .diary x.2.2.2.1)]}
def lSnapT4:LoopAnn:={X:=List SDeed × Diary × Diary × Int,live:=fun x=>[(10,.sl 2 12 0 x.1.length),(12,.ptr ⟨3,0,0,0⟩),(14,.ptr ⟨4,0,0,0⟩),(17,.int .i64 x.2.2.2)],heap:=fun x=>[none,none,some (.row .sdeed x.1),some (.obj .diary x.2.1),some (.obj .diary x.2.2.1)]}
end Go.Ax.Sp
namespace Go.Ax.V
open Go.Ax.Sp Go.Ax.Law List Int IntKind
set_option maxRecDepth 100000
def vEqJ (a:List Job) (b:List Job) (k:Unit→Bool × Unit→Prop):Prop:=
br (!LN a==LN b) (k () (false,())) (LP (List Job × List Job × Int × Int) (fun x=>(a=x.1∧b=x.2.1∧LN a=x.2.2.1∧0=x.2.2.2∧True)∧True) fun I m x=>br (decide (x.2.2.2<x.2.2.1)) (AI x.1 x.2.2.2 fun e=>AI x.2.1 x.2.2.2 fun e_1=>br (!(e.Id==e_1.Id&&(e.User==e_1.User&&(e.Width==e_1.Width&&(e.Limit==e_1.Limit&&(e.Prio==e_1.Prio&&(e.State==e_1.State&&(e.Start==e_1.Start&&(e.End==e_1.End&&(e.Plan==e_1.Plan&&(e.Nodes==e_1.Nodes&&true))))))))))) (k () (false,())) (NM (x.2.2.2+1) fun n=>NX I m x fun y=>(x.1=y.1∧x.2.1=y.2.1∧x.2.2.1=y.2.2.1∧n=y.2.2.2∧True)∧True)) (k () (true,())))
def vEqS (a:List Step) (b:List Step) (k:Unit→Bool × Unit→Prop):Prop:=
br (!LN a==LN b) (k () (false,())) (LP (List Step × List Step × Int × Int) (fun x=>(a=x.1∧b=x.2.1∧LN a=x.2.2.1∧0=x.2.2.2∧True)∧True) fun I m x=>br (decide (x.2.2.2<x.2.2.1)) (AI x.1 x.2.2.2 fun e=>AI x.2.1 x.2.2.2 fun e_1=>br (!(e.At==e_1.At&&(e.Free==e_1.Free&&true))) (k () (false,())) (NM (x.2.2.2+1) fun n=>NX I m x fun y=>(x.1=y.1∧x.2.1=y.2.1∧x.2.2.1=y.2.2.1∧n=y.2.2.2∧True)∧True)) (k () (true,())))
def vSameA (a:Core) (b:Core) (k:Core × Core × Unit→Bool × Unit→Prop):Prop:=
SH (length a.P.steps) fun s0=>SH (length a.J.jobs) fun s1=>SH (a,b,()) fun s2=>SH (length b.P.steps) fun s3=>SH (length b.J.jobs) fun s4=>SH ((k s2 (false,())∧True)∧True) fun s5=>(JW a.J∧(JW b.J∧(0+s4≤s4∧0+s1≤s1∧length (take s1 (drop 0 a.J.jobs))≤1099511627776∧br (!sameJ (take s1 (drop 0 a.J.jobs)) (take s4 (drop 0 b.J.jobs))) (((((s5∧True)∧True)∧True)∧True)∧True) ((PW a.P∧(PW b.P∧(0+s3≤s3∧0+s0≤s0∧length (take s0 (drop 0 a.P.steps))≤1099511627776∧br (!sameS (take s0 (drop 0 a.P.steps)) (take s3 (drop 0 b.P.steps))) ((s5∧True)∧True) ((br (!closedC (some a)==closedC (some b)) s5 ((NW a.N∧(NW b.N∧br (!lenS a.N.all==lenS b.N.all) (k s2 (false,())) (NW a.N∧LP (Core × Core × Int × Int) (fun x=>(0=0∧0=0∧lenS a.N.all=x.2.2.1∧0=x.2.2.2∧True)∧a=x.1∧b=x.2.1∧True) fun I m x=>br (decide (x.2.2.2<x.2.2.1)) ((NW x.1.N∧(NW x.2.1.N∧br (!stateN x.1.N x.2.2.2==stateN x.2.1.N x.2.2.2) (k (x.1,x.2.1,()) (false,())) (NM (x.2.2.2+1) fun n=>NX I m x fun y=>(0=0∧0=0∧x.2.2.1=y.2.2.1∧n=y.2.2.2∧True)∧x.1=y.1∧x.2.1=y.2.1∧True))∧True)∧True) (k (x.1,x.2.1,()) (true,()))))∧True)∧True)∧True)∧True))∧True)∧True)∧True))∧True)∧True)∧True
def vDeed40 (d:Deed) (k:Unit→SDeed × Unit→Prop):Prop:=
k () (SDeed.mk d.R d.X d.Commit,())
def vClean40 (x:SDeed) (k:Unit→SDeed × Unit→Prop):Prop:=
br x.Commit (k () (SDeed.mk (Req.mk 0 0 0 0 0 0 false 0 0) x.Choice true,())) (k () (SDeed.mk x.Req (Choice.mk 0 0) false,()))
def vClean41 (x:SDeed) (k:Unit→SDeed × Unit→Prop):Prop:=
br x.Commit (k () (SDeed.mk (Req.mk 0 0 0 0 0 0 false 0 0) x.Choice true,())) (k () (SDeed.mk x.Req (Choice.mk 0 0) false,()))
def vTrim (l:List SDeed) (k:Unit→List SDeed × Unit→Prop):Prop:=
LP (List SDeed × List SDeed × Int) (fun x=>((0=0∧0=length x.2.1)∧l=x.1∧LN l=LN x.1∧0=x.2.2∧True)∧[]=x.2.1∧True) fun I m x=>SH (length x.2.1) fun s0=>SH (x.2.2+1) fun s1=>SH (NM s1 fun n=>NX I m x fun y=>((0=0∧s0=length y.2.1)∧x.1=y.1∧LN x.1=LN y.1∧n=y.2.2∧True)∧x.2.1=y.2.1∧True) fun s2=>br (decide (x.2.2<LN x.1)) (AI x.1 x.2.2 fun e=>SH (take s0 (drop 0 x.2.1)++[cleanS e]) fun s3=>SH (1≤1∧0+s0≤s0∧s0+1≤68719476736∧NM s1 fun n=>NX I m x fun y=>((0=0∧s0+1=length y.2.1)∧x.1=y.1∧LN x.1=LN y.1∧n=y.2.2∧True)∧s3=y.2.1∧True) fun s4=>br e.Commit s4 (br (!e.Req.Kind==6) (br (!e.Req.Kind==10) (br (!e.Req.Kind==11) (br (!e.Req.Kind==12) s4 s2) s2) s2) s2)) (s0=s0∧k () (x.2.1,()))
end Go.Ax.V
namespace Go.Ax.Law
open Go.Ax.O
theorem ask_step {w:Work} {c:Core} (hd:w.done=false) (hp:w.part=0) (hc:w.commit=false) (hk:w.req.Kind=6∨w.req.Kind=10∨w.req.Kind=11∨w.req.Kind=12):(stepW w c).1.done=true∧(stepW w c).2=c:=by
  unfold stepW
  rw [if_neg (by simp [hd])]
  simp only []
  by_cases hcl:w.part=0∧c.closed=true
  · rw [if_pos hcl];exact ⟨rfl,rfl⟩
  · rw [if_neg hcl,if_neg (by simp [hc])]
    unfold serveW
    rw [if_neg (by omega),if_neg (by omega),if_neg (by omega),if_neg (by omega)]
    by_cases h6:w.req.Kind=6
    · rw [if_pos h6];exact ⟨rfl,rfl⟩
    · rw [if_neg h6,if_neg (by omega),if_neg (by omega),if_neg (by omega)]
      unfold countW
      by_cases h10:w.req.Kind=10
      · rw [if_pos h10];exact ⟨rfl,rfl⟩
      · rw [if_neg h10]
        by_cases h11:w.req.Kind=11
        · rw [if_pos h11];exact ⟨rfl,rfl⟩
        · rw [if_neg h11,if_pos (by omega)];exact ⟨rfl,rfl⟩
theorem wholeF_once (f:Nat) (n:Int) {w:Work} {c:Core} (h:(stepW w c).1.done=true):wholeF (f+1) n w c=(n,stepW w c):=by
  simp only [wholeF]
  rw [if_pos h]
theorem ask_same (c:Core) {r:Req} (hk:r.Kind=6∨r.Kind=10∨r.Kind=11∨r.Kind=12):(doS c r).2=c:=by
  unfold doS
  split
  · obtain ⟨g1,g2⟩:=ask_step (w:=newW r) (c:=c) rfl rfl rfl (by rw [show (newW r).req=cleanR r from rfl,clean_kind];exact hk)
    show (wholeF (1998+1) 1 (newW r) c).2.2=c
    rw [wholeF_once 1998 1 g1];exact g2
  · rfl
def actC (c:Core) (x:SDeed):Core:=if x.Commit then (comS c x.Choice).2 else (doS c x.Req).2
theorem act_core {d:Diary} {s:Sched} (hs:d.S=some s) (hl:d.deeds.length<4096) (x:SDeed):(actD d x).1=⟨some ⟨actC s.C x⟩,d.nodes,d.deeds++[x]⟩:=by
  obtain ⟨S,n,l⟩:=d
  replace hs:S=some s:=hs
  subst hs
  unfold actD actC
  simp only []
  rw [if_neg (by simp only [] at hl;omega)]
  split<;>rfl
theorem actC_ok {c:Core} (h:OkS c) (x:SDeed):OkS (actC c x):=by
  unfold actC
  split
  · exact h.com _
  · exact h.step _
theorem actC_clean (c:Core) (x:SDeed):actC c (cleanS x)=actC c x:=by
  unfold actC cleanS
  split<;>simp_all
theorem trim_same: ∀(l:List SDeed) (c:Core),(trimS l).foldl actC c=l.foldl actC c
  | [],_=>rfl
  |x::l,c=>by
    unfold trimS
    by_cases hk:keepS x=true
    · rw [List.filter_cons_of_pos hk,List.map_cons,List.foldl_cons,List.foldl_cons,actC_clean]
      exact trim_same l _
    · rw [List.filter_cons_of_neg hk,List.foldl_cons]
      have:actC c x=c:=by
        unfold keepS at hk
        simp only [Bool.or_eq_true,Bool.and_eq_true,decide_eq_true_eq,not_or] at hk
        obtain ⟨h1,h2⟩:=hk
        unfold actC
        rw [if_neg h1]
        exact ask_same c (by omega)
      rw [this]
      exact trim_same l c
theorem act_fold: ∀(l:List SDeed) {d:Diary} {s:Sched},d.S=some s→OkS s.C→d.deeds.length+l.length≤4096→
    (l.foldl (fun d x=>(actD d x).1) d).S=some ⟨l.foldl actC s.C⟩∧OkS (l.foldl actC s.C)∧(l.foldl (fun d x=>(actD d x).1) d).deeds.length=d.deeds.length+l.length
  | [],d,s,hs,ho,_=>⟨hs,ho,rfl⟩
  |x::l,d,s,hs,ho,hl=>by
    simp only [List.length_cons] at hl
    have e:=act_core hs (by omega) x
    simp only [List.foldl_cons]
    rw [e]
    obtain ⟨g1,g2,g3⟩:=act_fold l (d:=⟨some ⟨actC s.C x⟩,d.nodes,d.deeds++[x]⟩) rfl (actC_ok ho x) (by show (d.deeds++[x]).length+l.length≤4096;rw [List.length_append,List.length_singleton];omega)
    refine ⟨g1,g2,g3.trans ?_⟩
    show (d.deeds++[x]).length+l.length=d.deeds.length+(x::l).length
    have e1:(d.deeds++[x]).length=d.deeds.length+1:=by simp
    have e2:(x::l).length=l.length+1:=rfl
    omega
end Go.Ax.Law
namespace Go.Ax.O
open Go.Ax.Sp Go.Ax.Law
theorem vEqJ {a b:List Job} {k:Unit→Bool × Unit→Prop} (h:oSameJ (a,b,()) k):V.vEqJ a b k:=by
  unfold V.vEqJ V.LP V.NX V.AI V.NM V.LN
  obtain ⟨hl,hk⟩:=h
  simp only [] at hl hk
  refine br_ne (fun h1=>?_) (fun h1=>?_)
  · have:sameJ a b=false:=by
      cases hs:sameJ a b with
      |false=>rfl
      |true=>rw [sameJ_iff.1 hs] at h1;exact absurd rfl h1
    rw [this] at hk;exact hk
  refine ⟨fun x=>x.1=a∧x.2.1=b∧x.2.2.1=a.length∧0≤x.2.2.2∧x.2.2.2≤a.length∧sameJ (a.drop x.2.2.2.toNat) (b.drop x.2.2.2.toNat)=sameJ a b,fun x=>(a.length-x.2.2.2).toNat,(a,b,a.length,0),⟨rfl,rfl,rfl,Int.le_refl _,by simp,by simp⟩,by simp,?_⟩
  rintro ⟨a',b',n0,i⟩ ⟨g1,g2,g0,g3,g4,g5⟩
  simp only [] at g1 g2 g0 g3 g4 g5
  subst g1 g2 g0
  obtain ⟨i,rfl⟩:=Int.eq_ofNat_of_zero_le g3
  rw [Int.toNat_natCast] at g5
  dsimp only
  refine br_dec (fun hi=>⟨⟨g3,hi⟩,fun e he=>⟨⟨g3,by omega⟩,fun e1 he1=>?_⟩⟩) (fun hi=>?_)
  · rw [Int.toNat_natCast] at he he1
    have d1:a'.drop i=e::a'.drop (i+1):=by rw [List.drop_eq_getElem_cons (List.getElem?_eq_some_iff.1 he).1,(List.getElem?_eq_some_iff.1 he).2]
    have d2:b'.drop i=e1::b'.drop (i+1):=by rw [List.drop_eq_getElem_cons (List.getElem?_eq_some_iff.1 he1).1,(List.getElem?_eq_some_iff.1 he1).2]
    rw [d1,d2] at g5
    simp only [sameJ] at g5
    refine br_not (fun hq=>?_) (fun hq n hn=>?_)
    · have hq:eqJ e e1=false:=hq
      rw [hq,Bool.false_and] at g5
      rw [←g5] at hk;exact hk
    · have hq:eqJ e e1=true:=hq
      rw [hq,Bool.true_and] at g5
      rw [w64 (by omega)] at hn
      subst hn
      refine ⟨(a',b',a'.length,(i:Int)+1),⟨rfl,rfl,rfl,by simp only [];omega,by simp only [];omega,?_⟩,by simp,by simp only [];omega⟩
      simp only []
      rw [show ((i:Int)+1).toNat=i+1 by omega];exact g5
  · rw [List.drop_of_length_le (by omega),List.drop_of_length_le (by omega)] at g5
    rw [←g5] at hk;exact hk
theorem vEqS {a b:List Step} {k:Unit→Bool × Unit→Prop} (h:oSameS (a,b,()) k):V.vEqS a b k:=by
  unfold V.vEqS V.LP V.NX V.AI V.NM V.LN
  obtain ⟨hl,hk⟩:=h
  simp only [] at hl hk
  refine br_ne (fun h1=>?_) (fun h1=>?_)
  · have:sameS a b=false:=by
      cases hs:sameS a b with
      |false=>rfl
      |true=>rw [sameS_iff.1 hs] at h1;exact absurd rfl h1
    rw [this] at hk;exact hk
  refine ⟨fun x=>x.1=a∧x.2.1=b∧x.2.2.1=a.length∧0≤x.2.2.2∧x.2.2.2≤a.length∧sameS (a.drop x.2.2.2.toNat) (b.drop x.2.2.2.toNat)=sameS a b,fun x=>(a.length-x.2.2.2).toNat,(a,b,a.length,0),⟨rfl,rfl,rfl,Int.le_refl _,by simp,by simp⟩,by simp,?_⟩
  rintro ⟨a',b',n0,i⟩ ⟨g1,g2,g0,g3,g4,g5⟩
  simp only [] at g1 g2 g0 g3 g4 g5
  subst g1 g2 g0
  obtain ⟨i,rfl⟩:=Int.eq_ofNat_of_zero_le g3
  rw [Int.toNat_natCast] at g5
  dsimp only
  refine br_dec (fun hi=>⟨⟨g3,hi⟩,fun e he=>⟨⟨g3,by omega⟩,fun e1 he1=>?_⟩⟩) (fun hi=>?_)
  · rw [Int.toNat_natCast] at he he1
    have d1:a'.drop i=e::a'.drop (i+1):=drop_cons he
    have d2:b'.drop i=e1::b'.drop (i+1):=drop_cons he1
    rw [d1,d2] at g5
    simp only [sameS] at g5
    refine br_not (fun hq=>?_) (fun hq n hn=>?_)
    · have hq:eqS e e1=false:=hq
      rw [hq,Bool.false_and] at g5
      rw [←g5] at hk;exact hk
    · have hq:eqS e e1=true:=hq
      rw [hq,Bool.true_and] at g5
      rw [w64 (by omega)] at hn
      subst hn
      refine ⟨(a',b',a'.length,(i:Int)+1),⟨rfl,rfl,rfl,by simp only [];omega,by simp only [];omega,?_⟩,by simp,by simp only [];omega⟩
      simp only []
      rw [show ((i:Int)+1).toNat=i+1 by omega];exact g5
  · rw [List.drop_of_length_le (by omega),List.drop_of_length_le (by omega)] at g5
    rw [←g5] at hk;exact hk
theorem vSameA {a b:Core} {k:Core × Core × Unit→Bool × Unit→Prop} (h:oSameA (a,b,()) k):V.vSameA a b k:=by
  obtain ⟨⟨ha,hb⟩,h⟩:=h
  replace ha:CW a:=ha
  replace hb:CW b:=hb
  replace h:k (a,b,()) (sameC a b,()):=h
  have hj:=ha.1.2.1
  have hf:sameC a b=false→k (a,b,()) (false,()):=fun e=>by rw [e] at h;exact h
  have hlen:=lenS_le a.N.all
  unfold V.vSameA
  simp only [V.LP,V.NX,V.NM,V.SH,V.AT,V.AI,V.LN,tkl70,Nat.zero_add,Nat.le_refl,true_and,and_true]
  unfold sameC at h hf
  refine ⟨ha.1,hb.1,by omega,br_not (fun e1=>hf (by rw [e1];rfl)) (fun e1=>⟨ha.2.2,hb.2.2,?_,br_not (fun e2=>hf (by rw [e1,e2];rfl)) (fun e2=>br_not (fun e3=>hf ?_) (fun e3=>⟨ha.2.1,hb.2.1,br_ne (fun e4=>hf ?_) (fun e4=>⟨ha.2.1,?_⟩)⟩))⟩)⟩
  · have:=ha.2.2.2.2
    omega
  · have e3:(a.closed==b.closed)=false:=e3
    rw [e1,e2,e3];rfl
  · have e3:(a.closed==b.closed)=true:=e3
    rw [e1,e2,e3,decide_eq_false e4];rfl
  · have e3:(a.closed==b.closed)=true:=e3
    rw [e1,e2,e3,decide_eq_true e4] at h hf
    simp only [Bool.true_and] at h hf
    refine ⟨fun x=>x.1=a∧x.2.1=b∧x.2.2.1=lenS a.N.all∧0≤x.2.2.2∧x.2.2.2≤lenS a.N.all∧ ∀q:Nat,q<x.2.2.2.toNat→stateN a.N q=stateN b.N q,fun x=>(lenS a.N.all-x.2.2.2).toNat,(a,b,lenS a.N.all,0),⟨rfl,rfl,rfl,Int.le_refl _,hlen.1,fun q hq=>absurd hq (by simp)⟩,by simp,?_⟩
    rintro ⟨a',b',n0,i⟩ ⟨g1,g2,g0,g3,g4,g5⟩
    simp only [] at g1 g2 g0 g3 g4 g5
    subst g1 g2 g0
    obtain ⟨i,rfl⟩:=Int.eq_ofNat_of_zero_le g3
    rw [Int.toNat_natCast] at g5
    dsimp only
    refine br_dec (fun hi=>⟨ha.2.1,hb.2.1,br_ne (fun hq=>hf ?_) (fun hq n hn=>?_)⟩) (fun hi=>?_)
    · rw [List.all_eq_false]
      exact ⟨i,List.mem_range.2 (by omega),by simpa using hq⟩
    · rw [w64 (by omega)] at hn
      subst hn
      refine ⟨(a',b',lenS a'.N.all,(i:Int)+1),⟨rfl,rfl,rfl,by simp only [];omega,by simp only [];omega,fun q hq'=>?_⟩,by simp,by simp only [];omega⟩
      simp only [] at hq'
      by_cases hqi:q=i
      · subst hqi;exact hq
      · exact g5 q (by omega)
    · have:((List.range (lenS a'.N.all).toNat).all fun k=>decide (stateN a'.N k=stateN b'.N k))=true:=by
        rw [List.all_eq_true]
        intro q hq
        rw [List.mem_range] at hq
        exact decide_eq_true (g5 q (by omega))
      rw [this] at h;exact h
theorem vDeed40 {d:Deed} {k:Unit→SDeed × Unit→Prop} (h:oDeed40 (d,()) k):V.vDeed40 d k:=h
theorem vClean40 {x:SDeed} {k:Unit→SDeed × Unit→Prop} (h:oClean40 (x,()) k):V.vClean40 x k:=by
  have h:k () (cleanS x,()):=h
  unfold cleanS at h
  unfold V.vClean40
  exact br_bool (fun hc=>by rw [if_pos hc] at h;exact h) (fun hc=>by rw [if_neg (by simp [hc])] at h;exact h)
theorem vClean41 {x:SDeed} {k:Unit→SDeed × Unit→Prop} (h:oClean40 (x,()) k):V.vClean41 x k:=vClean40 h
theorem keep_step {l:List SDeed} {i:Nat} {e:SDeed} (he:l[i]? =some e):trimS (l.take (i+1))=trimS (l.take i)++(if keepS e=true then [cleanS e] else []):=by
  unfold trimS
  rw [List.take_add_one,he,List.filter_append,List.map_append]
  by_cases hk:keepS e=true
  · simp [hk]
  · simp [hk]
theorem vTrim {l:List SDeed} {k:Unit→List SDeed × Unit→Prop} (h:oTrim (l,()) k):V.vTrim l k:=by
  obtain ⟨hl,h⟩:=h
  replace hl:l.length≤1000000:=hl
  replace h:k () (trimS l,()):=h
  unfold V.vTrim
  simp only [V.LP,V.NX,V.NM,V.SH,V.AT,V.AI,V.LN,tkl70,Nat.zero_add,Nat.le_refl,true_and,and_true]
  refine ⟨fun x=>x.1=l∧0≤x.2.2∧x.2.2≤l.length∧x.2.1=trimS (l.take x.2.2.toNat)∧x.2.1.length≤x.2.2,fun x=>(l.length-x.2.2).toNat,(l,[],0),⟨rfl,Int.le_refl _,by simp only [];omega,rfl,by simp⟩,by simp,?_⟩
  rintro ⟨l',out,i⟩ ⟨e0,p1,p2,e1,p3⟩
  simp only [] at e0 p1 p2 e1 p3
  subst e0
  refine br_dec (fun hi=>⟨⟨p1,hi⟩,fun e he=>?_⟩) (fun hi=>?_)
  · have hi:i<(l'.length:Int):=hi
    have hks:=keep_step he
    have yes:keepS e=true→out.length+1≤68719476736∧ ∀n,n=IntKind.i64.wrap (i+1)→ ∃y:List SDeed × List SDeed × Int,(y.1=l'∧0≤y.2.2∧y.2.2≤l'.length∧y.2.1=trimS (l'.take y.2.2.toNat)∧y.2.1.length≤y.2.2)∧((out.length+1=y.2.1.length∧l'=y.1∧(l'.length:Int)=(y.1.length:Int)∧n=y.2.2)∧out++[cleanS e]=y.2.1)∧(l'.length-y.2.2).toNat<(l'.length-i).toNat:=fun hk=>⟨by omega,fun n hn=>by
      rw [w64 (by omega)] at hn
      subst hn
      rw [if_pos hk] at hks
      refine ⟨(l',out++[cleanS e],i+1),⟨rfl,by simp only [];omega,by simp only [];omega,?_,by simp only [List.length_append,List.length_singleton];omega⟩,by simp,by simp only [];omega⟩
      simp only []
      rw [show (i+1).toNat=i.toNat+1 by omega,hks,e1]⟩
    have no:keepS e=false→ ∀n,n=IntKind.i64.wrap (i+1)→ ∃y:List SDeed × List SDeed × Int,(y.1=l'∧0≤y.2.2∧y.2.2≤l'.length∧y.2.1=trimS (l'.take y.2.2.toNat)∧y.2.1.length≤y.2.2)∧((out.length=y.2.1.length∧l'=y.1∧(l'.length:Int)=(y.1.length:Int)∧n=y.2.2)∧out=y.2.1)∧(l'.length-y.2.2).toNat<(l'.length-i).toNat:=fun hk n hn=>by
      rw [w64 (by omega)] at hn
      subst hn
      rw [if_neg (by simp [hk]),List.append_nil] at hks
      refine ⟨(l',out,i+1),⟨rfl,by simp only [];omega,by simp only [];omega,?_,by simp only [];omega⟩,by simp,by simp only [];omega⟩
      simp only []
      rw [show (i+1).toNat=i.toNat+1 by omega,hks,e1]
    refine br_bool (fun hc=>yes (by unfold keepS;rw [hc];rfl)) (fun hc=>br_ne (fun h6=>br_ne (fun h10=>br_ne (fun h11=>br_ne (fun h12=>yes ?_) (fun h12=>no ?_)) (fun h11=>no ?_)) (fun h10=>no ?_)) (fun h6=>no ?_))
    all_goals (unfold keepS;rw [hc];simp_all)
  · have hi: ¬ i<(l'.length:Int):=hi
    rw [List.take_of_length_le (by omega)] at e1
    simp only []
    rw [e1];exact h
end Go.Ax.O

