import Derived.Test.YtbmabiedmdlinaaGreatDoorAxO49
import Derived.Test.YtbmabiedmdlinaaGreatDoorAxV9
set_option linter.all false
namespace Go.Ax.Law
def forever:Int:=1152921504606846976
def clampF (v:Int):Int:=min (max v 0) forever
def addF (l:List Int):Int:=l.foldl (fun s v=>min (s+clampF v) forever) 0
def subF (a b:Int):Int:=max (clampF a-clampF b) 0
def lastF (l:List Told37) (id:Int):Option Int:=l.foldl (fun o y=>if y.Id=id then some y.Start else o) none
def delay1 (now:List Told37) (never:Int) (sum:Int) (x:Told37):Int:=
 match lastF now x.Id with
 |some y=>addF [sum,subF y x.Start]
 |none=>addF [sum,never]
def delayC (c:Core) (r:Req) (never:Int):Int:=
 if r.Kind≠1 then 0 else if (doS c r).1.Err≠0 then 0 else (foreC c).foldl (delay1 (foreC (doS c r).2) never) 0
end Go.Ax.Law
namespace Go.Ax.Sp
def sSumF:Sig:=⟨[(.imm .i64,false)],[.int .i64]⟩
def oSumF:sSumF.Out:=fun x k=>x.1.length≤1000000∧k () (Law.addF x.1,())
def sSubF:Sig:=⟨[(.int .i64,false),(.int .i64,false)],[.int .i64]⟩
def oSubF:sSubF.Out:=fun x k=>k () (Law.subF x.1 x.2.1,())
def sDelay:Sig:=⟨[(.obj .sched,true),(.elem .req,false),(.int .i64,false)],[.int .i64]⟩
def oDelay:sDelay.Out:=fun x k=>Law.OkS x.1.C∧k (x.1,()) (Law.delayC x.1.C x.2.1 x.2.2.1,())
def sForeW:Sig:=⟨[(.int .i64,false),(.imm .deed,false),(.elem .req,false),(.int .i64,false)],[.bool]⟩
def oForeW:sForeW.Out:=fun _ k=>k () (true,())
def lSumF:LoopAnn:={X:=List Int × Int × Int,live:=fun x=>[(3,.int .i64 x.2.1),(6,.imm .i64 x.1),(7,.int .i64 x.1.length),(8,.int .i64 x.2.2)],heap:=fun _=>[]}
def lDelay1:LoopAnn:={X:=Core × List Told37 × List (Int × Int) × List Told37 × Int × Int,live:=fun x=>[(0,.ptr ⟨0,0,0,0⟩),(2,.int .i64 x.2.2.2.2.1),(7,.sl 2 3 0 x.2.1.length),(9,.mp 4),(37,.sl 5 3 0 x.2.2.2.1.length),(38,.int .i64 x.2.2.2.1.length),(39,.int .i64 x.2.2.2.2.2)],heap:=fun x=>[some (.obj .sched ⟨x.1⟩),none,some (.row .told37 x.2.1),none,some (.map .i64 x.2.2.1),some (.row .told37 x.2.2.2.1)],norm:=[.fold 0 .sched]}
def lDelay2:LoopAnn:={X:=Core × List Told37 × List (Int × Int) × Int × Int × Int,live:=fun x=>[(0,.ptr ⟨0,0,0,0⟩),(2,.int .i64 x.2.2.2.1),(9,.mp 4),(12,.int .i64 x.2.2.2.2.1),(49,.sl 2 3 0 x.2.1.length),(50,.int .i64 x.2.1.length),(51,.int .i64 x.2.2.2.2.2)],heap:=fun x=>[some (.obj .sched ⟨x.1⟩),none,some (.row .told37 x.2.1),none,some (.map .i64 x.2.2.1)],norm:=[.fold 0 .sched]}
def lForeW1:LoopAnn:={X:=Reply × List Told37 × List Told37 × Int × Int × Int × Int × Int,live:=fun x=>[(3,.int .i64 x.2.2.2.1),(11,.int .i64 x.2.2.2.2.1),(12,.int .i64 x.2.2.2.2.2.1),(13,.sl 12 3 0 x.2.1.length),(15,.ptr ⟨14,0,0,0⟩),(16,.sl 15 3 0 x.2.2.1.length),(17,.int .i64 x.2.2.2.2.2.2.1),(18,.int .i64 0),(19,.int .i64 x.2.2.2.2.2.2.2)],heap:=fun x=>[none,none,none,none,none,none,none,none,none,none,none,none,some (.row .told37 x.2.1),none,some (.raw (EK.enc .reply x.1)),some (.row .told37 x.2.2.1)]}
def lForeW2:LoopAnn:={X:=List Told37 × List Told37 × Int × Int × Int × Int × Int × Int,live:=fun x=>[(3,.int .i64 x.2.2.1),(11,.int .i64 x.2.2.2.1),(12,.int .i64 x.2.2.2.2.1),(13,.sl 12 3 0 x.1.length),(16,.sl 15 3 0 x.2.1.length),(17,.int .i64 x.2.2.2.2.2.1),(18,.int .i64 x.2.2.2.2.2.2.1),(20,.int .i64 x.2.2.2.2.2.2.2)],heap:=fun x=>[none,none,none,none,none,none,none,none,none,none,none,none,some (.row .told37 x.1),none,none,some (.row .told37 x.2.1)]}
def lForeW3:LoopAnn:={X:=List Told37 × List Told37 × Int × Int × Int × Int × Int × Int × Int × Int,live:=fun x=>[(3,.int .i64 x.2.2.1),(11,.int .i64 x.2.2.2.1),(12,.int .i64 x.2.2.2.2.1),(13,.sl 12 3 0 x.1.length),(16,.sl 15 3 0 x.2.1.length),(17,.int .i64 x.2.2.2.2.2.1),(18,.int .i64 x.2.2.2.2.2.2.1),(20,.int .i64 x.2.2.2.2.2.2.2.1),(21,.int .i64 x.2.2.2.2.2.2.2.2.1),(22,.int .i64 x.2.2.2.2.2.2.2.2.2)],heap:=fun x=>[none,none,none,none,none,none,none,none,none,none,none,none,some (.row .told37 x.1),none,none,some (.row .told37 x.2.1)]}
end Go.Ax.Sp
namespace Go.Ax.V
open Go.Ax.Sp Go.Ax.Law List Int IntKind
set_option maxRecDepth 100000
def vSumF (l:List Int) (k:Unit→Int × Unit→Prop):Prop:=
LP (List Int × Int × Int) (fun x=>(0=x.2.1∧l=x.1∧LN l=LN x.1∧0=x.2.2∧True)∧True) fun I m x=>br (decide (x.2.2<LN x.1)) (AI x.1 x.2.2 fun e=>NM (x.2.1+if 1152921504606846976<if 0>e then 0 else e then 1152921504606846976 else if 0>e then 0 else e) fun n=>NM (x.2.2+1) fun n_1=>NX I m x fun y=>((if 1152921504606846976<n then 1152921504606846976 else n)=y.2.1∧x.1=y.1∧LN x.1=LN y.1∧n_1=y.2.2∧True)∧True) (k () (x.2.1,()))
def vSubF (a:Int) (b:Int) (k:Unit→Int × Unit→Prop):Prop:=
NM ((if 1152921504606846976<if 0>a then 0 else a then 1152921504606846976 else if 0>a then 0 else a)-if 1152921504606846976<if 0>b then 0 else b then 1152921504606846976 else if 0>b then 0 else b) fun n=>k () (if 0>n then 0 else n,())
def vDelay (s:Sched) (r:Req) (n:Int) (k:Sched × Unit→Int × Unit→Prop):Prop:=
SH (doS s.C r) fun s0=>OkS s.C∧CW s.C∧br (!r.Kind==1) (k (s,()) (0,())) (OkS s.C∧br (!s0.1.Err==0) (k (s,()) (0,())) (OkS s0.2∧LP (Core × List Told37 × List (Int × Int) × List Told37 × Int × Int) (fun x=>(0=0∧n=x.2.2.2.2.1∧(0=0∧length (foreC s.C)=length x.2.1)∧True∧(0=0∧length (foreC s0.2)=length x.2.2.2.1)∧LN (foreC s0.2)=LN x.2.2.2.1∧0=x.2.2.2.2.2∧True)∧s=Sched.mk x.1∧foreC s.C=x.2.1∧[]=x.2.2.1∧foreC s0.2=x.2.2.2.1∧True) fun I m x=>SH x.2.2.2 fun s1=>br (decide (s1.2.2<LN s1.1)) (AT s1.1 s1.2.2 fun e=>NM (s1.2.2+1) fun n=>NX I m x fun y=>(0=0∧s1.2.1=y.2.2.2.2.1∧(0=0∧length x.2.1=length y.2.1)∧True∧(0=0∧length s1.1=length y.2.2.2.1)∧LN s1.1=LN y.2.2.2.1∧n=y.2.2.2.2.2∧True)∧Sched.mk x.1=Sched.mk y.1∧x.2.1=y.2.1∧mput x.2.2.1 e.Id e.Start=y.2.2.1∧s1.1=y.2.2.2.1∧True) (LP (Core × List Told37 × List (Int × Int) × Int × Int × Int) (fun x_1=>(0=0∧s1.2.1=x_1.2.2.2.1∧True∧0=x_1.2.2.2.2.1∧(0=0∧length x.2.1=length x_1.2.1)∧LN x.2.1=LN x_1.2.1∧0=x_1.2.2.2.2.2∧True)∧Sched.mk x.1=Sched.mk x_1.1∧x.2.1=x_1.2.1∧x.2.2.1=x_1.2.2.1∧True) fun I m x=>SH x.2.2.2 fun s2=>SH [s2.2.1,s2.1] fun s3=>br (decide (s2.2.2<LN x.2.1)) (AT x.2.1 s2.2.2 fun e=> ∀(e_1:Int) (b:Bool),e_1=Option.getD (mget x.2.2.1 e.Id) 0→b=Option.isSome (mget x.2.2.1 e.Id)→SH [s2.2.1,subF e_1 e.Start] fun s4=>br b (2≤length s4∧length s4≤1000000∧NM (s2.2.2+1) fun n=>NX I m x fun y=>(0=0∧s2.1=y.2.2.2.1∧True∧addF s4=y.2.2.2.2.1∧(0=0∧length x.2.1=length y.2.1)∧LN x.2.1=LN y.2.1∧n=y.2.2.2.2.2∧True)∧Sched.mk x.1=Sched.mk y.1∧x.2.1=y.2.1∧x.2.2.1=y.2.2.1∧True) (2≤length s3∧length s3≤1000000∧NM (s2.2.2+1) fun n=>NX I m x fun y=>(0=0∧s2.1=y.2.2.2.1∧True∧addF s3=y.2.2.2.2.1∧(0=0∧length x.2.1=length y.2.1)∧LN x.2.1=LN y.2.1∧n=y.2.2.2.2.2∧True)∧Sched.mk x.1=Sched.mk y.1∧x.2.1=y.2.1∧x.2.2.1=y.2.2.1∧True)) (k (Sched.mk x.1,()) (s2.2.1,())))))
end Go.Ax.V
namespace Go.Ax.V
open Go.Ax.Sp Go.Ax.Law List Int IntKind
set_option maxRecDepth 100000
def vForeW (n:Int) (l:List Deed) (r:Req) (m:Int) (k:Unit→Bool × Unit→Prop):Prop:=
SH (madeS n l) fun s0=>SH (doS s0 r) fun s1=>SH (length s0.J.jobs) fun s2=>SH (take s2 (drop (0:Nat) s0.J.jobs)) fun s3=>SH (br (whatC s0 r==(-1)) (br (delayC s0 r m==0) (k () (true,())) (k () (false,()))) (k () (false,()))) fun s4=>(n<1∨64<n→k () (true,()))∧(1≤n∧n≤64→JW s0.J∧OkS s0∧OkS s0∧JW s0.J∧0+s2≤s2∧0+s2≤s2∧length s3≤1099511627776∧br (!sameJ s3 s3) (k () (false,())) (OkS s0∧CW s0∧br (!r.Kind==1) s4 (OkS s0∧br (!s1.1.Err==0) s4 (OkS s1.2∧LP (Reply × List Told37 × List Told37 × Int × Int × Int × Int × Int) (fun x=>(m=x.2.2.2.1∧whatC s0 r=x.2.2.2.2.1∧delayC s0 r m=x.2.2.2.2.2.1∧((0:Nat)=0∧length (foreC s0)=length x.2.1)∧(0:Nat)=0∧((0:Nat)=0∧length (foreC s1.2)=length x.2.2.1)∧(-1:Int)=x.2.2.2.2.2.2.1∧(0:Int)=0∧0=x.2.2.2.2.2.2.2∧True)∧foreC s0=x.2.1∧(s1.1.Err=x.1.Err∧s1.1.Id=x.1.Id∧s1.1.State=x.1.State∧s1.1.Start=x.1.Start∧s1.1.End=x.1.End∧s1.1.Plan=x.1.Plan∧s1.1.A=x.1.A∧s1.1.B=x.1.B∧s1.1.C=x.1.C∧True)∧foreC s1.2=x.2.2.1∧True) fun I m x=>SH x.2.2.2.2 fun s5=>SH x.2.2.1 fun s6=>br (decide (s5.2.2.2<LN s6)) (AT s6 s5.2.2.2 fun e=>br (e.Id==x.1.Id) (AT s6 s5.2.2.2 fun e=>NM (s5.2.2.2+1) fun n=>NX I m x fun y=>(x.2.2.2.1=y.2.2.2.1∧s5.1=y.2.2.2.2.1∧s5.2.1=y.2.2.2.2.2.1∧((0:Nat)=0∧length x.2.1=length y.2.1)∧(0:Nat)=0∧((0:Nat)=0∧length s6=length y.2.2.1)∧e.Start=y.2.2.2.2.2.2.1∧(0:Int)=0∧n=y.2.2.2.2.2.2.2∧True)∧x.2.1=y.2.1∧(x.1.Err=y.1.Err∧x.1.Id=y.1.Id∧x.1.State=y.1.State∧x.1.Start=y.1.Start∧x.1.End=y.1.End∧x.1.Plan=y.1.Plan∧x.1.A=y.1.A∧x.1.B=y.1.B∧x.1.C=y.1.C∧True)∧s6=y.2.2.1∧True) (NM (s5.2.2.2+1) fun n=>NX I m x fun y=>(x.2.2.2.1=y.2.2.2.1∧s5.1=y.2.2.2.2.1∧s5.2.1=y.2.2.2.2.2.1∧((0:Nat)=0∧length x.2.1=length y.2.1)∧(0:Nat)=0∧((0:Nat)=0∧length s6=length y.2.2.1)∧s5.2.2.1=y.2.2.2.2.2.2.1∧(0:Int)=0∧n=y.2.2.2.2.2.2.2∧True)∧x.2.1=y.2.1∧(x.1.Err=y.1.Err∧x.1.Id=y.1.Id∧x.1.State=y.1.State∧x.1.Start=y.1.Start∧x.1.End=y.1.End∧x.1.Plan=y.1.Plan∧x.1.A=y.1.A∧x.1.B=y.1.B∧x.1.C=y.1.C∧True)∧s6=y.2.2.1∧True)) (LP (List Told37 × List Told37 × Int × Int × Int × Int × Int × Int) (fun x_1=>(x.2.2.2.1=x_1.2.2.1∧s5.1=x_1.2.2.2.1∧s5.2.1=x_1.2.2.2.2.1∧((0:Nat)=0∧length x.2.1=length x_1.1)∧((0:Nat)=0∧length s6=length x_1.2.1)∧s5.2.2.1=x_1.2.2.2.2.2.1∧0=x_1.2.2.2.2.2.2.1∧0=x_1.2.2.2.2.2.2.2∧True)∧x.2.1=x_1.1∧s6=x_1.2.1∧True) fun I m x=>SH x.2.2.2 fun s7=>br (decide (s7.2.2.2.2<LN x.1)) (LP (List Told37 × List Told37 × Int × Int × Int × Int × Int × Int × Int × Int) (fun x_1=>SH x_1.2.2.2.2 fun s8=>(x.2.2.1=x_1.2.2.1∧s7.1=x_1.2.2.2.1∧s7.2.1=s8.1∧((0:Nat)=0∧length x.1=length x_1.1)∧((0:Nat)=0∧length x.2.1=length x_1.2.1)∧s7.2.2.1=s8.2.1∧s7.2.2.2.1=s8.2.2.1∧s7.2.2.2.2=s8.2.2.2.1∧x.2.2.1=s8.2.2.2.2.1∧0=s8.2.2.2.2.2∧True)∧x.1=x_1.1∧x.2.1=x_1.2.1∧True) fun I_1 m_1 x_1=>SH x_1.2.2.2.2.2.2 fun s8=>SH x_1.2.2.2 fun s9=>SH [s8.1,s8.2.2.1] fun s10=>br (decide (s8.2.2.2<LN x_1.2.1)) (AT x_1.2.1 s8.2.2.2 fun e=>AT x_1.1 s8.2.1 fun e_1=>br (e.Id==e_1.Id) (AT x_1.2.1 s8.2.2.2 fun e=>AT x_1.1 s8.2.1 fun e_2=>(NM (s8.2.2.2+1) fun n=>NX I_1 m_1 x_1 fun y=>SH y.2.2.2.2 fun s11=>(x_1.2.2.1=y.2.2.1∧s9.1=y.2.2.2.1∧s9.2.1=s11.1∧((0:Nat)=0∧length x_1.1=length y.1)∧((0:Nat)=0∧length x_1.2.1=length y.2.1)∧s9.2.2.1=s11.2.1∧s8.1=s11.2.2.1∧s8.2.1=s11.2.2.2.1∧subF e.Start e_2.Start=s11.2.2.2.2.1∧n=s11.2.2.2.2.2∧True)∧x_1.1=y.1∧x_1.2.1=y.2.1∧True)∧True) (NM (s8.2.2.2+1) fun n=>NX I_1 m_1 x_1 fun y=>SH y.2.2.2.2 fun s11=>(x_1.2.2.1=y.2.2.1∧s9.1=y.2.2.2.1∧s9.2.1=s11.1∧((0:Nat)=0∧length x_1.1=length y.1)∧((0:Nat)=0∧length x_1.2.1=length y.2.1)∧s9.2.2.1=s11.2.1∧s8.1=s11.2.2.1∧s8.2.1=s11.2.2.2.1∧s8.2.2.1=s11.2.2.2.2.1∧n=s11.2.2.2.2.2∧True)∧x_1.1=y.1∧x_1.2.1=y.2.1∧True)) (2≤length s10∧length s10≤1000000∧NM (s8.2.1+1) fun n=>NX I m x fun y=>(x_1.2.2.1=y.2.2.1∧s9.1=y.2.2.2.1∧s9.2.1=y.2.2.2.2.1∧((0:Nat)=0∧length x_1.1=length y.1)∧((0:Nat)=0∧length x_1.2.1=length y.2.1)∧s9.2.2.1=y.2.2.2.2.2.1∧addF s10=y.2.2.2.2.2.2.1∧n=y.2.2.2.2.2.2.2∧True)∧x_1.1=y.1∧x_1.2.1=y.2.1∧True)) (br (s7.1==s7.2.2.1) (br (s7.2.1==s7.2.2.2.1) (k () (true,())) (k () (false,()))) (k () (false,()))))))))
end Go.Ax.V
namespace Go.Ax.Law
open Go.Ax.O
theorem fold_stepG {α β:Type} {l:List α} {f:β→α→β} {i:Int} {e:α} {t0:β} (h0:0≤i) (he:l[i.toNat]? =some e):(l.take (i+1).toNat).foldl f t0=f ((l.take i.toNat).foldl f t0) e:=by
 rw [show (i+1).toNat=i.toNat+1 by omega,List.take_add_one,he,List.foldl_append];rfl
theorem clamp_if (e:Int):(if 1152921504606846976<if 0>e then 0 else e then 1152921504606846976 else if 0>e then 0 else e)=clampF e:=by
 unfold clampF forever;omega
theorem clamp_range (e:Int):0≤clampF e∧clampF e≤1152921504606846976:=by unfold clampF forever;omega
theorem sum_range: ∀(l:List Int) {s:Int},0≤s∧s≤1152921504606846976→0≤l.foldl (fun s v=>min (s+clampF v) forever) s∧l.foldl (fun s v=>min (s+clampF v) forever) s≤1152921504606846976
 | [],s,h=>h
 |v::l,s,h=>by
  have:=clamp_range v
  exact sum_range l (s:=min (s+clampF v) forever) (by unfold forever;omega)
theorem mget_put {α:Type}: ∀(m:List (Int × α)) (i:Int) (x:α) (j:Int),mget (mput m i x) j=if i=j then some x else mget m j
 | [],i,x,j=>by simp [mput,mget]
 |p::m,i,x,j=>by
  simp only [mput]
  by_cases hp:p.1=i
  ·rw [if_pos hp]
   simp only [mget]
   by_cases hj:i=j
   ·simp [hj]
   ·simp [hj,show ¬ p.1=j by omega]
  ·rw [if_neg hp]
   simp only [mget]
   by_cases hj:p.1=j
   ·rw [if_pos hj,if_neg (by omega),if_pos hj]
   ·rw [if_neg hj,mget_put m i x j,if_neg hj]
theorem getJ_same {l:List Job} (hid: ∀(i:Nat) (j:Job),l[i]? =some j→j.Id=(i:Int)+1) {a b:Int} (h:(getJ l a).1.Id=(getJ l b).1.Id):(getJ l a).1=(getJ l b).1:=by
 have key: ∀c:Int,((getJ l c).1=job0)∨(∃i:Nat,l[i]? =some (getJ l c).1∧(getJ l c).1.Id=(i:Int)+1):=fun c=>by
  unfold getJ
  by_cases hc:c<1∨(l.length:Int)<c
  ·rw [if_pos hc];exact .inl rfl
  ·rw [if_neg hc]
   have hi:l[(c-1).toNat]? =some l[(c-1).toNat]:=List.getElem?_eq_getElem (by omega)
   rw [hi]
   exact .inr ⟨_,hi,hid _ _ hi⟩
 have h0:job0.Id=0:=rfl
 rcases key a with e1 |⟨i,e1,e2⟩<;>rcases key b with e3 |⟨j,e3,e4⟩
 ·rw [e1,e3]
 ·rw [e1] at h;omega
 ·rw [e3] at h;omega
 ·have:i=j:=by omega
  subst this
  rw [e1] at e3;exact Option.some.inj e3
theorem fore_same {c:Core} (h:OkS c) {y z:Told37} (hy:y∈foreC c) (hz:z∈foreC c) (hi:y.Id=z.Id):y.Start=z.Start:=by
 obtain ⟨n,m,hp⟩:=h.pass 64
 have hid: ∀(i:Nat) (j:Job),(passS c 64).2.J.jobs[i]? =some j→j.Id=(i:Int)+1:=fun i j hj=>id_at hp.cw hj
 obtain ⟨a,_,ha⟩:=List.mem_flatMap.1 hy
 obtain ⟨b,_,hb⟩:=List.mem_flatMap.1 hz
 have e: ∀(q:Job) (w:Told37),w∈foreJ (passS c 64).2 q→w.Id=(getJ (passS c 64).2.J.jobs q.Id).1.Id∧w.Start=(if (getJ (passS c 64).2.J.jobs q.Id).1.State=3 then (getJ (passS c 64).2.J.jobs q.Id).1.Start else (getJ (passS c 64).2.J.jobs q.Id).1.Plan):=fun q w hw=>by
  unfold foreJ at hw
  simp only [] at hw
  split at hw
  ·rename_i g;simp at hw;subst hw;simp [g]
  ·rename_i g
   split at hw
   ·simp at hw;subst hw;simp [g]
   ·cases hw
 obtain ⟨a1,a2⟩:=e a y ha
 obtain ⟨b1,b2⟩:=e b z hb
 rw [a2,b2,getJ_same hid (a1.symm.trans (hi.trans b1))]
theorem last_get: ∀(l:List Told37) (id:Int) (o:Option Int) (w:Int),(l.foldl (fun o y=>if y.Id=id then some y.Start else o) o).getD w=l.foldl (fun w y=>if y.Id=id then y.Start else w) (o.getD w)
 | [],id,o,w=>rfl
 |y::l,id,o,w=>by
  simp only [List.foldl_cons]
  rw [last_get l id]
  split<;>rfl
theorem last_map (f:Int→Int): ∀(l:List Told37) (id:Int) (o:Option Int) (w:Int),(match l.foldl (fun o y=>if y.Id=id then some y.Start else o) o with |some y=>f y |none=>w)=l.foldl (fun w y=>if y.Id=id then f y.Start else w) (match o with |some y=>f y |none=>w)
 | [],id,o,w=>rfl
 |y::l,id,o,w=>by
  simp only [List.foldl_cons]
  by_cases hy:y.Id=id
  ·rw [if_pos hy,if_pos hy,last_map f l id]
  ·rw [if_neg hy,if_neg hy,last_map f l id]
theorem last_same {s:Int} {id:Int}: ∀(l:List Told37) (o:Option Int),(∀y∈l,y.Id=id→y.Start=s)→(o=none∨o=some s)→l.foldl (fun o y=>if y.Id=id then some y.Start else o) o=(if (l.any fun y=>decide (y.Id=id))=true then some s else o)
 | [],o,_,_=>rfl
 |y::l,o,h,ho=>by
  have hl: ∀z∈l,z.Id=id→z.Start=s:=fun z hz=>h z (List.mem_cons_of_mem _ hz)
  simp only [List.foldl_cons,List.any_cons]
  by_cases hy:y.Id=id
  ·have hs:=h y (by simp) hy
   rw [if_pos hy,last_same l (some y.Start) hl (.inr (by rw [hs]))]
   simp [hy,hs]
  ·rw [if_neg hy,last_same l o hl ho]
   simp [hy]
theorem what_last {c:Core} (h:OkS c) (id:Int):(match (foreC c).find? fun y=>decide (y.Id=id) with |some y=>y.Start |none=> -1)=(foreC c).foldl (fun w y=>if y.Id=id then y.Start else w) (-1):=by
 rw [show (-1:Int)=(none:Option Int).getD (-1) from rfl,←last_get]
 cases hf:(foreC c).find? fun y=>decide (y.Id=id) with
 |none=>
  have hn:=List.find?_eq_none.1 hf
  rw [last_same (s:=0) (foreC c) none (fun y hy hi=>absurd (by simpa using hi) (hn y hy)) (.inl rfl),if_neg]
  ·intro hh
   obtain ⟨y,hy,hi⟩:=List.any_eq_true.1 hh
   exact hn y hy hi
 |some y=>
  have hy:=List.mem_of_find?_eq_some hf
  have hi:y.Id=id:=by simpa using List.find?_some hf
  rw [last_same (s:=y.Start) (foreC c) none (fun z hz hzi=>fore_same h hz hy (by rw [hzi,hi])) (.inl rfl),if_pos (List.any_eq_true.2 ⟨y,hy,by simpa using hi⟩)]
  rfl
end Go.Ax.Law
namespace Go.Ax.O
theorem tkl2 {α:Type} (l:List α):List.take l.length (List.drop 0 l)=l:=by simp
open Go.Ax.Sp Go.Ax.Law
theorem vSumF {l:List Int} {k:Unit→Int × Unit→Prop} (h:oSumF (l,()) k):V.vSumF l k:=by
 obtain ⟨hl,h⟩:=h
 have hl:l.length≤1000000:=hl
 have h:k () (addF l,()):=h
 unfold V.vSumF V.LP V.NX V.AI V.NM V.LN
 refine ⟨fun x=>x.2.1=(l.take x.2.2.toNat).foldl (fun s v=>min (s+clampF v) forever) 0∧x.1=l∧0≤x.2.2∧x.2.2≤l.length,fun x=>(l.length-x.2.2).toNat,(l,0,0),⟨rfl,rfl,Int.le_refl _,by simp only [];omega⟩,by simp,?_⟩
 rintro ⟨l',s,i⟩ ⟨e0,e1,g1,g2⟩
 simp only [] at e0 e1 g1 g2
 subst e1
 have hr:=sum_range (l'.take i.toNat) (s:=0) (by decide)
 rw [←e0] at hr
 refine br_dec (fun hi=>?_) (fun hi=>?_)
 ·have hi:i<(l'.length:Int):=hi
  refine ⟨⟨g1,hi⟩,fun e he=>?_⟩
  have hc:=clamp_range e
  have hmin: ∀a:Int,(if 1152921504606846976<a then 1152921504606846976 else a)=min a forever:=fun a=>by unfold forever;split<;>omega
  simp only [clamp_if]
  intro q hq q2 hq2
  rw [w64 (by omega)] at hq
  rw [w64 (by omega)] at hq2
  replace hq:q=s+clampF e:=hq
  replace hq2:q2=i+1:=hq2
  subst hq hq2
  exact ⟨(l',min (s+clampF e) forever,i+1),⟨by simp only [];rw [fold_step g1 he,←e0],rfl,by simp only [];omega,by simp only [];omega⟩,⟨⟨hmin _,rfl,rfl,rfl,trivial⟩,trivial⟩,by simp only [];omega⟩
 ·have hi: ¬ i<(l'.length:Int):=hi
  rw [List.take_of_length_le (by omega)] at e0
  simp only []
  rw [e0];exact h
theorem vSubF {a b:Int} {k:Unit→Int × Unit→Prop} (h:oSubF (a,b,()) k):V.vSubF a b k:=by
 have h:k () (subF a b,()):=h
 unfold V.vSubF V.NM
 simp only [clamp_if]
 have h1:=clamp_range a
 have h2:=clamp_range b
 intro n hn
 rw [w64 (by omega)] at hn
 subst hn
 have:(if 0>clampF a-clampF b then 0 else clampF a-clampF b)=subF a b:=by unfold subF;omega
 rw [this];exact h
theorem vDelay {s:Sched} {r:Req} {n:Int} {k:Sched × Unit→Int × Unit→Prop} (h:oDelay (s,r,n,()) k):V.vDelay s r n k:=by
 obtain ⟨hs,h⟩:=h
 obtain ⟨c0⟩:=s
 replace hs:OkS c0:=hs
 have h:k (⟨c0⟩,()) (delayC c0 r n,()):=h
 have hd:=hs.step r
 have h64:=fore_len hd
 have h64b:=fore_len hs
 unfold delayC at h
 unfold V.vDelay V.LP V.NX V.AT V.NM V.SH V.LN
 refine ⟨hs,hs.cw,br_ne (fun hh=>?_) (fun hh=>⟨hs,br_ne (fun h2=>?_) (fun h2=>⟨hd,?_⟩)⟩)⟩
 ·rw [if_pos hh] at h;exact h
 ·rw [if_neg (by simpa using hh),if_pos h2] at h;exact h
 rw [if_neg (by simpa using hh),if_neg (by simpa using h2)] at h
 generalize doS c0 r=d at h hd h64 ⊢
 obtain ⟨rp,c1⟩:=d
 simp only [] at h hd h64 ⊢
 generalize foreC c1=nw at h h64 ⊢
 generalize foreC c0=was at h h64b ⊢
 refine ⟨fun x=>x.1=c0∧x.2.1=was∧x.2.2.2.1=nw∧x.2.2.2.2.1=n∧0≤x.2.2.2.2.2∧x.2.2.2.2.2≤nw.length∧ ∀id,mget x.2.2.1 id=lastF (nw.take x.2.2.2.2.2.toNat) id,fun x=>(nw.length-x.2.2.2.2.2).toNat,(c0,was,[],nw,n,0),⟨rfl,rfl,rfl,rfl,Int.le_refl _,by simp only [];omega,fun id=>rfl⟩,by simp,?_⟩
 rintro ⟨c,w,M,nw',n',i⟩ ⟨e0,e1,e2,e3,g1,g2,e4⟩
 simp only [] at e0 e1 e2 e3 g1 g2 e4
 subst e0 e1 e2 e3
 refine br_dec (fun hl=>?_) (fun hl=>?_)
 ·have hl:i<(nw'.length:Int):=hl
  refine ⟨⟨g1,hl⟩,by simp only [];omega,fun e he q hq=>?_⟩
  have he:nw'[i.toNat]? =some e:=by rw [←he];simp
  rw [w64 (by simp only [];omega)] at hq
  replace hq:q=i+1:=hq
  subst hq
  refine ⟨(c,w,mput M e.Id e.Start,nw',n',i+1),⟨rfl,rfl,rfl,rfl,by simp only [];omega,by simp only [];omega,fun id=>?_⟩,by simp,by simp only [];omega⟩
  simp only []
  rw [mget_put,e4 id]
  unfold lastF
  rw [fold_stepG g1 he]
 ·have hl: ¬ i<(nw'.length:Int):=hl
  rw [List.take_of_length_le (by omega)] at e4
  refine ⟨fun x=>x.1=c∧x.2.1=w∧x.2.2.1=M∧x.2.2.2.1=n'∧0≤x.2.2.2.2.2∧x.2.2.2.2.2≤w.length∧x.2.2.2.2.1=(w.take x.2.2.2.2.2.toNat).foldl (delay1 nw' n') 0,fun x=>(w.length-x.2.2.2.2.2).toNat,(c,w,M,n',0,0),⟨rfl,rfl,rfl,rfl,Int.le_refl _,by simp only [];omega,rfl⟩,by simp,?_⟩
  rintro ⟨c2,w2,M2,n2,sm,j⟩ ⟨e0,e1,e2,e3,k1,k2,e5⟩
  simp only [] at e0 e1 e2 e3 k1 k2 e5
  subst e0 e1 e2 e3
  refine br_dec (fun hj=>?_) (fun hj=>?_)
  ·have hj:j<(w2.length:Int):=hj
   refine ⟨⟨k1,hj⟩,by simp only [];omega,fun e he v b hv hb=>?_⟩
   have he:w2[j.toNat]? =some e:=by rw [←he];simp
   have nx: ∀(q z:Int),q=IntKind.i64.wrap (j+1)→z=delay1 nw' n2 sm e→ ∃y:Core × List Told37 × List (Int × Int) × Int × Int × Int,(y.1=c2∧y.2.1=w2∧y.2.2.1=M2∧y.2.2.2.1=n2∧0≤y.2.2.2.2.2∧y.2.2.2.2.2≤w2.length∧y.2.2.2.2.1=(w2.take y.2.2.2.2.2.toNat).foldl (delay1 nw' n2) 0)∧
     y=(c2,w2,M2,n2,z,q)∧(w2.length-y.2.2.2.2.2).toNat<(w2.length-j).toNat:=fun q z hq hz=>by
    rw [w64 (by omega)] at hq
    subst hq hz
    exact ⟨_,⟨rfl,rfl,rfl,rfl,by simp only [];omega,by simp only [];omega,by simp only [];rw [fold_stepG k1 he,←e5]⟩,rfl,by simp only [];omega⟩
   have hlf:=e4 e.Id
   simp only [] at hv hb
   refine br_bool (fun hbt=>⟨by simp,by simp,fun q hq=>?_⟩) (fun hbf=>⟨by simp,by simp,fun q hq=>?_⟩)
   ·rw [hbt] at hb
    obtain ⟨v0,hv0⟩:=Option.isSome_iff_exists.1 hb.symm
    rw [hv0] at hv
    rw [hv0] at hlf
    obtain ⟨y,hy,hye,hm⟩:=nx q (addF [sm,subF v e.Start]) hq (by unfold delay1;rw [←hlf,hv];rfl)
    exact ⟨y,hy,by rw [hye];simp,hm⟩
   ·rw [hbf] at hb
    have hn:mget M2 e.Id=none:=by
     cases hg:mget M2 e.Id with
     |none=>rfl
     |some x=>rw [hg] at hb;cases hb
    rw [hn] at hlf
    obtain ⟨y,hy,hye,hm⟩:=nx q (addF [sm,n2]) hq (by unfold delay1;rw [←hlf])
    exact ⟨y,hy,by rw [hye];simp,hm⟩
  ·have hj: ¬ j<(w2.length:Int):=hj
   rw [List.take_of_length_le (by omega)] at e5
   rw [←e5] at h;exact h
theorem vForeW {n:Int} {l:List Deed} {r:Req} {m:Int} {k:Unit→Bool × Unit→Prop} (h:oForeW (n,l,r,m,()) k):V.vForeW n l r m k:=by
 have h:k () (true,()):=h
 unfold V.vForeW V.LP V.NX V.AT V.NM V.SH V.LN
 refine ⟨fun _=>h,fun hn=>?_⟩
 have hs:=(show OkS (madeS n l) from ⟨_,_,madeS_stb hn.1 hn.2 l⟩)
 generalize madeS n l=c0 at hs ⊢
 have hjl:=hs.cw.1.2.1
 have hd:=hs.step r
 have h64:=fore_len hd
 have h64b:=fore_len hs
 have hw:whatC c0 r=if r.Kind≠1 then-1 else if (doS c0 r).1.Err≠0 then-1 else (foreC (doS c0 r).2).foldl (fun w y=>if y.Id=(doS c0 r).1.Id then y.Start else w) (-1):=by
  unfold whatC
  split
  ·rfl
  ·split
   ·rfl
   ·exact what_last hd _
 have hdl:delayC c0 r m=if r.Kind≠1 then 0 else if (doS c0 r).1.Err≠0 then 0 else (foreC c0).foldl (delay1 (foreC (doS c0 r).2) m) 0:=rfl
 simp only [tkl2,Nat.zero_add,Nat.le_refl,true_and]
 refine ⟨hs.cw.1,hs,hs,hs.cw.1,by omega,br_bool (fun hh=>?_) (fun _=>⟨hs,hs.cw,br_ne (fun hk=>?_) (fun hk=>⟨hs,br_ne (fun he=>?_) (fun he=>⟨hd,?_⟩)⟩)⟩)⟩
 ·rw [sameJ_iff.2 rfl] at hh;cases hh
 ·rw [if_pos hk] at hw hdl
  exact br_eq (fun _=>br_eq (fun _=>h) (fun hh=>absurd hdl hh)) (fun hh=>absurd hw hh)
 ·rw [if_neg (by simpa using hk),if_pos he] at hw hdl
  exact br_eq (fun _=>br_eq (fun _=>h) (fun hh=>absurd hdl hh)) (fun hh=>absurd hw hh)
 rw [if_neg (by simpa using hk),if_neg (by simpa using he)] at hw hdl
 generalize whatC c0 r=at_ at hw ⊢
 generalize delayC c0 r m=dl at hdl ⊢
 generalize doS c0 r=dd at hw hdl hd h64 ⊢
 obtain ⟨rp,c1⟩:=dd
 simp only [] at hw hdl hd h64 ⊢
 generalize foreC c1=nw at hw hdl h64 ⊢
 generalize foreC c0=was at hdl h64b ⊢
 refine ⟨fun x=>x.1=rp∧x.2.1=was∧x.2.2.1=nw∧x.2.2.2.1=m∧x.2.2.2.2.1=at_∧x.2.2.2.2.2.1=dl∧0≤x.2.2.2.2.2.2.2∧x.2.2.2.2.2.2.2≤nw.length∧x.2.2.2.2.2.2.1=(nw.take x.2.2.2.2.2.2.2.toNat).foldl (fun w y=>if y.Id=rp.Id then y.Start else w) (-1),fun x=>(nw.length-x.2.2.2.2.2.2.2).toNat,(rp,was,nw,m,at_,dl,-1,0),⟨rfl,rfl,rfl,rfl,rfl,rfl,Int.le_refl _,by simp only [];omega,rfl⟩,by simp,?_⟩
 rintro ⟨rp',was',nw',m',at',dl',wt,i⟩ ⟨e0,e1,e2,e3,e4,e5,g1,g2,e6⟩
 simp only [] at e0 e1 e2 e3 e4 e5 g1 g2 e6
 subst e0 e1 e2 e3 e4 e5
 refine br_dec (fun hl=>?_) (fun hl=>?_)
 ·have hl:i<(nw'.length:Int):=hl
  obtain ⟨e,he⟩: ∃e,nw'[i.toNat]? =some e:=⟨_,List.getElem?_eq_getElem (by omega)⟩
  have nx: ∀q z:Int,q=IntKind.i64.wrap (i+1)→z=(if e.Id=rp'.Id then e.Start else wt)→ ∃y:Reply × List Told37 × List Told37 × Int × Int × Int × Int × Int,(y.1=rp'∧y.2.1=was'∧y.2.2.1=nw'∧y.2.2.2.1=m'∧y.2.2.2.2.1=at'∧y.2.2.2.2.2.1=dl'∧0≤y.2.2.2.2.2.2.2∧y.2.2.2.2.2.2.2≤nw'.length∧y.2.2.2.2.2.2.1=(nw'.take y.2.2.2.2.2.2.2.toNat).foldl (fun w y=>if y.Id=rp'.Id then y.Start else w) (-1))∧
    y=(rp',was',nw',m',at',dl',z,q)∧(nw'.length-y.2.2.2.2.2.2.2).toNat<(nw'.length-i).toNat:=fun q z hq hz=>by
   rw [w64 (by omega)] at hq
   subst hq hz
   exact ⟨_,⟨rfl,rfl,rfl,rfl,rfl,rfl,by simp only [];omega,by simp only [];omega,by simp only [];rw [fold_step g1 he,←e6]⟩,rfl,by simp only [];omega⟩
  refine ⟨⟨g1,hl⟩,by simp only [];omega,fun e' he'=>?_⟩
  rw [he] at he';cases he'
  refine br_eq (fun hi=>⟨⟨g1,hl⟩,by simp only [];omega,fun e' he' q hq=>?_⟩) (fun hi q hq=>?_)
  ·rw [he] at he';cases he'
   have hi:e.Id=rp'.Id:=hi
   obtain ⟨y,hy,hye,hm⟩:=nx q e.Start hq (by rw [if_pos hi])
   exact ⟨y,hy,by rw [hye];simp,hm⟩
  ·have hi: ¬ e.Id=rp'.Id:=hi
   obtain ⟨y,hy,hye,hm⟩:=nx q wt hq (by rw [if_neg hi])
   exact ⟨y,hy,by rw [hye];simp,hm⟩
 ·have hl: ¬ i<(nw'.length:Int):=hl
  rw [List.take_of_length_le (by omega),←hw] at e6
  subst e6
  refine ⟨fun x=>x.1=was'∧x.2.1=nw'∧x.2.2.1=m'∧x.2.2.2.1=wt∧x.2.2.2.2.1=dl'∧x.2.2.2.2.2.1=wt∧0≤x.2.2.2.2.2.2.2∧x.2.2.2.2.2.2.2≤was'.length∧x.2.2.2.2.2.2.1=(was'.take x.2.2.2.2.2.2.2.toNat).foldl (delay1 nw' m') 0,fun x=>(was'.length-x.2.2.2.2.2.2.2).toNat,(was',nw',m',wt,dl',wt,0,0),⟨rfl,rfl,rfl,rfl,rfl,rfl,Int.le_refl _,by simp only [];omega,rfl⟩,by simp,?_⟩
  rintro ⟨w2,n2,m2,a2,d2,t2,sm,j⟩ ⟨e0,e1,e2,e3,e4,e5,k1,k2,e7⟩
  simp only [] at e0 e1 e2 e3 e4 e5 k1 k2 e7
  subst e0 e1 e2 e3 e4 e5
  refine br_dec (fun hj=>?_) (fun hj=>?_)
  ·have hj:j<(w2.length:Int):=hj
   obtain ⟨o,ho⟩: ∃o,w2[j.toNat]? =some o:=⟨_,List.getElem?_eq_getElem (by omega)⟩
   refine ⟨fun x=>x.1=w2∧x.2.1=n2∧x.2.2.1=m2∧x.2.2.2.1=t2∧x.2.2.2.2.1=d2∧x.2.2.2.2.2.1=t2∧x.2.2.2.2.2.2.1=sm∧x.2.2.2.2.2.2.2.1=j∧0≤x.2.2.2.2.2.2.2.2.2∧x.2.2.2.2.2.2.2.2.2≤n2.length∧x.2.2.2.2.2.2.2.2.1=(n2.take x.2.2.2.2.2.2.2.2.2.toNat).foldl (fun w y=>if y.Id=o.Id then subF y.Start o.Start else w) m2,fun x=>(n2.length-x.2.2.2.2.2.2.2.2.2).toNat,(w2,n2,m2,t2,d2,t2,sm,j,m2,0),⟨rfl,rfl,rfl,rfl,rfl,rfl,rfl,rfl,Int.le_refl _,by simp only [];omega,rfl⟩,by simp,?_⟩
   rintro ⟨w3,n3,m3,a3,d3,t3,s3,j3,mo,q⟩ ⟨e0,e1,e2,e3,e4,e5,e8,e9,p1,p2,e10⟩
   simp only [] at e0 e1 e2 e3 e4 e5 e8 e9 p1 p2 e10
   subst e0 e1 e2 e3 e4 e5 e8 e9
   refine br_dec (fun hq=>?_) (fun hq=>?_)
   ·have hq:q<(n3.length:Int):=hq
    obtain ⟨e,he⟩: ∃e,n3[q.toNat]? =some e:=⟨_,List.getElem?_eq_getElem (by omega)⟩
    have nx: ∀u z:Int,u=IntKind.i64.wrap (q+1)→z=(if e.Id=o.Id then subF e.Start o.Start else mo)→ ∃y:List Told37 × List Told37 × Int × Int × Int × Int × Int × Int × Int × Int,(y.1=w3∧y.2.1=n3∧y.2.2.1=m3∧y.2.2.2.1=t3∧y.2.2.2.2.1=d3∧y.2.2.2.2.2.1=t3∧y.2.2.2.2.2.2.1=s3∧y.2.2.2.2.2.2.2.1=j3∧0≤y.2.2.2.2.2.2.2.2.2∧y.2.2.2.2.2.2.2.2.2≤n3.length∧y.2.2.2.2.2.2.2.2.1=(n3.take y.2.2.2.2.2.2.2.2.2.toNat).foldl (fun w y=>if y.Id=o.Id then subF y.Start o.Start else w) m3)∧
      y=(w3,n3,m3,t3,d3,t3,s3,j3,z,u)∧(n3.length-y.2.2.2.2.2.2.2.2.2).toNat<(n3.length-q).toNat:=fun u z hu hz=>by
     rw [w64 (by omega)] at hu
     subst hu hz
     exact ⟨_,⟨rfl,rfl,rfl,rfl,rfl,rfl,rfl,rfl,by simp only [];omega,by simp only [];omega,by simp only [];rw [fold_step p1 he,←e10]⟩,rfl,by simp only [];omega⟩
    refine ⟨⟨p1,hq⟩,by simp only [];omega,fun e' he'=>⟨⟨k1,hj⟩,by simp only [];omega,fun o' ho'=>?_⟩⟩
    rw [he] at he';cases he'
    rw [ho] at ho';cases ho'
    refine br_eq (fun hi=>⟨⟨p1,hq⟩,by simp only [];omega,fun e' he'=>⟨⟨k1,hj⟩,by simp only [];omega,fun o' ho'=>⟨fun u hu=>?_,trivial⟩⟩⟩) (fun hi u hu=>?_)
    ·rw [he] at he';cases he'
     rw [ho] at ho';cases ho'
     have hi:e.Id=o.Id:=hi
     obtain ⟨y,hy,hye,hm⟩:=nx u (subF e.Start o.Start) hu (by rw [if_pos hi])
     exact ⟨y,hy,by rw [hye];simp,hm⟩
    ·have hi: ¬ e.Id=o.Id:=hi
     obtain ⟨y,hy,hye,hm⟩:=nx u mo hu (by rw [if_neg hi])
     exact ⟨y,hy,by rw [hye];simp,hm⟩
   ·have hq: ¬ q<(n3.length:Int):=hq
    rw [List.take_of_length_le (by omega)] at e10
    refine ⟨by simp,by simp,fun u hu=>?_⟩
    rw [w64 (by simp only [];omega)] at hu
    replace hu:u=j3+1:=hu
    subst hu
    have hmo:addF [s3,mo]=delay1 n3 m3 s3 o:=by
     have:=last_map (fun y=>subF y o.Start) n3 o.Id none m3
     simp only [] at this
     unfold delay1 lastF
     rw [e10,←this]
     generalize (List.foldl (fun (o':Option Int) (y:Told37)=>if y.Id=o.Id then some y.Start else o') none n3)=oo
     cases oo<;>rfl
    refine ⟨(w3,n3,m3,t3,d3,t3,addF [s3,mo],j3+1),⟨rfl,rfl,rfl,rfl,rfl,rfl,by simp only [];omega,by simp only [];omega,?_⟩,by simp,by simp only [];omega⟩
    simp only []
    rw [fold_step k1 ho,←e7,hmo]
  ·have hj: ¬ j<(w2.length:Int):=hj
   rw [List.take_of_length_le (by omega),←hdl] at e7
   exact br_eq (fun _=>br_eq (fun _=>h) (fun hh=>absurd e7.symm hh)) (fun hh=>absurd rfl hh)
end Go.Ax.O
