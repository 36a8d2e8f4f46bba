import Derived.Test.YtnoinchifbckcaaGreatDoorAxV9
import Derived.Test.YtnoinchifbckcaaGreatDoorAxO33
set_option linter.all false
namespace Go.Ax.V
open Go.Ax.Sp Go.Ax.Law List Int IntKind
set_option maxRecDepth 100000
def vLineR_1 (n:Int) (k:Unit→Bool × Unit→Prop) (I:Core × List Answer × Int × List Answer × Reply × Bool × Int × Int→Prop) (m:Core × List Answer × Int × List Answer × Reply × Bool × Int × Int→Nat) (x:Core × List Answer × Int × List Answer × Reply × Bool × Int × Int):Prop:=
SH x.2.2.2 fun s0=>SH s0.2.2.2 fun s1=>SH (NM (s1.2+1) fun n=>NX I m x fun y=>SH y.2.2.2.2 fun s3=>(s1.1=s3.2.2.1∧0=0∧(0=0∧length s0.1=length y.2.2.2.1)∧0=0∧s0.2.2.1=s3.2.1∧n=s3.2.2.2∧True)∧Sched.mk x.1=Sched.mk y.1∧x.2.1=y.2.1∧(0=0∧(0=0∧length x.2.1=length y.2.1)∧x.2.2.1=y.2.2.1∧True)∧s0.1=y.2.2.2.1∧(s0.2.1.Err=s3.1.Err∧s0.2.1.Id=s3.1.Id∧s0.2.1.State=s3.1.State∧s0.2.1.Start=s3.1.Start∧s0.2.1.End=s3.1.End∧s0.2.1.Plan=s3.1.Plan∧s0.2.1.A=s3.1.A∧s0.2.1.B=s3.1.B∧s0.2.1.C=s3.1.C∧True)∧True) fun s2=>AT s0.1 s1.2 fun e=>SH e.Reply fun s3=>AT x.2.1 s1.2 fun e_1=>SH e_1.Reply fun s4=>br (!(e.Task==e_1.Task&&(s3.Err==s4.Err&&(s3.Id==s4.Id&&(s3.State==s4.State&&(s3.Start==s4.Start&&(s3.End==s4.End&&(s3.Plan==s4.Plan&&(s3.A==s4.A&&(s3.B==s4.B&&(s3.C==s4.C&&true))))))))&&true))) (k () (false,())) (AT s0.1 s1.2 fun e=>br (e.Task==s1.1) (br (!s0.2.2.1) (AT s0.1 s1.2 fun e=>SH e.Reply fun s5=>NM (s1.2+1) fun n=>NX I m x fun y=>SH y.2.2.2.2 fun s6=>(s1.1=s6.2.2.1∧0=0∧(0=0∧length s0.1=length y.2.2.2.1)∧0=0∧true=s6.2.1∧n=s6.2.2.2∧True)∧Sched.mk x.1=Sched.mk y.1∧x.2.1=y.2.1∧(0=0∧(0=0∧length x.2.1=length y.2.1)∧x.2.2.1=y.2.2.1∧True)∧s0.1=y.2.2.2.1∧(s5.Err=s6.1.Err∧s5.Id=s6.1.Id∧s5.State=s6.1.State∧s5.Start=s6.1.Start∧s5.End=s6.1.End∧s5.Plan=s6.1.Plan∧s5.A=s6.1.A∧s5.B=s6.1.B∧s5.C=s6.1.C∧True)∧True) s2) s2)
def vLineR_2 (k:Unit→Bool × Unit→Prop) (x:Core × List Answer × Int × List Answer × Reply × Bool × Int × Int):Prop:=
SH (tellA (tk x.2.1) x.2.2.2.2.2.2.1) fun s0=>SH x.2.2.2.2.1 fun s1=>0+length x.2.1≤length x.2.1∧length (tk x.2.1)≤1099511627776∧br (s0.1.Err==s1.Err&&(s0.1.Id==s1.Id&&(s0.1.State==s1.State&&(s0.1.Start==s1.Start&&(s0.1.End==s1.End&&(s0.1.Plan==s1.Plan&&(s0.1.A==s1.A&&(s0.1.B==s1.B&&(s0.1.C==s1.C&&true))))))))) (br (s0.2==x.2.2.2.2.2.1) (k () (true,())) (k () (false,()))) (k () (false,()))
def vLineR_3 (x:Core × List Answer × Int × List Answer × Reply × Bool × Int × Int):Prop:=
SH x.2.2.2.2.1 fun s0=>0=s0.Err∧0=s0.Id∧0=s0.State∧0=s0.Start∧0=s0.End∧0=s0.Plan∧0=s0.A∧0=s0.B∧0=s0.C∧True
def vLineR (n:Int) (l:List Ax.Event) (t:Int) (k:Unit→Bool × Unit→Prop):Prop:=
SH (drop (toNat (0:Int)) (take (toNat (60:Int)) l)) fun s0=>SH (replayMF (newM n) [] (-1:Int) (0:Int) l) fun s1=>SH (replayMF (newM n) [] (-1:Int) (0:Int) s0) fun s2=>SH (replayS n l) fun s3=>SH (replayS n s0) fun s4=>SH (decide (n>64)) fun s5=>SH (decide (n<1)) fun s6=>SH (k () (false,())) fun s7=>SH (∃n_1 c,Stb n_1 c (newM n)) fun s8=>SH (length l≤1073741824) fun s9=>SH (length s0≤1073741824) fun s10=>SH (0≤n∧n≤1000) fun s11=>SH (s9∧br (!agreesS n l) (k () (true,())) s7) fun s12=>SH (s10∧br (!agreesS n s0) (k () (true,())) s7) fun s13=>br (decide (LN l>60)) (((0:Int)≤0∧(0:Int)≤60∧60≤LN l)∧s10∧(n<1∨64<n→br s6 s13 (br s5 s13 (s11∧(s8∧s10)∧s7)))∧(1≤n∧n≤64→br s6 (br (LN s4.2.1==0) s7 s7) (br s5 (br (LN s4.2.1==0) s7 s7) (s11∧(s8∧s10)∧br (!LN s2.2.1==LN s4.2.1) s7 (br (!s4.2.2==s2.2.2) s7 ((∃n_1,Stb n_1 s4.1 s2.1)∧LP (Core × List Answer × Int × List Answer × Reply × Bool × Int × Int) (fun x=>(t=x.2.2.2.2.2.2.1∧(0:Nat)=0∧((0:Nat)=0∧length s2.2.1=length x.2.2.2.1)∧(0:Nat)=0∧false=x.2.2.2.2.2.1∧0=x.2.2.2.2.2.2.2∧True)∧Sched.mk s4.1=Sched.mk x.1∧s4.2.1=x.2.1∧((0:Nat)=0∧((0:Nat)=0∧length s4.2.1=length x.2.1)∧s4.2.2=x.2.2.1∧True)∧s2.2.1=x.2.2.2.1∧vLineR_3 x∧True) fun I m x=>br (decide (x.2.2.2.2.2.2.2<LN x.2.2.2.1)) (vLineR_1 n k I m x) (vLineR_2 k x))))))) (s9∧(n<1∨64<n→br s6 s12 (br s5 s12 (s11∧(s8∧s9)∧s7)))∧(1≤n∧n≤64→br s6 (br (LN s3.2.1==0) s7 s7) (br s5 (br (LN s3.2.1==0) s7 s7) (s11∧(s8∧s9)∧br (!LN s1.2.1==LN s3.2.1) s7 (br (!s3.2.2==s1.2.2) s7 ((∃n_1,Stb n_1 s3.1 s1.1)∧LP (Core × List Answer × Int × List Answer × Reply × Bool × Int × Int) (fun x=>(t=x.2.2.2.2.2.2.1∧(0:Nat)=0∧((0:Nat)=0∧length s1.2.1=length x.2.2.2.1)∧(0:Nat)=0∧false=x.2.2.2.2.2.1∧0=x.2.2.2.2.2.2.2∧True)∧Sched.mk s3.1=Sched.mk x.1∧s3.2.1=x.2.1∧((0:Nat)=0∧((0:Nat)=0∧length s3.2.1=length x.2.1)∧s3.2.2=x.2.2.1∧True)∧s1.2.1=x.2.2.2.1∧vLineR_3 x∧True) fun I m x=>br (decide (x.2.2.2.2.2.2.2<LN x.2.2.2.1)) (vLineR_1 n k I m x) (vLineR_2 k x)))))))
end Go.Ax.V
namespace Go.Ax.Law
theorem tellA_snoc (as:List Answer) (e:Answer) (t:Int):tellA (as++[e]) t=if (tellA as t).2 then tellA as t else if e.Task=t then (e.Reply,true) else tellA as t:=by
 unfold tellA
 rw [List.find?_append]
 cases h:as.find? fun a=>decide (a.Task=t) with
 |some a=>simp
 |none=>
  by_cases he:e.Task=t
  ·simp [he]
  ·simp [he]
end Go.Ax.Law
namespace Go.Ax.O
open Go.Ax.Sp Go.Ax.Law
theorem lineR_loop {nn t bad:Int} {k:Unit→Bool × Unit→Prop} {c:Core} {A:List Answer} (hk:k () (true,())) (hA:A.length≤1073741824):
  ∃(I:Core × List Answer × Int × List Answer × Reply × Bool × Int × Int→Prop),∃(m:Core × List Answer × Int × List Answer × Reply × Bool × Int × Int→Nat),∃(x:Core × List Answer × Int × List Answer × Reply × Bool × Int × Int),I x∧((t=x.2.2.2.2.2.2.1∧A.length=x.2.2.2.1.length∧false=x.2.2.2.2.2.1∧0=x.2.2.2.2.2.2.2)∧Sched.mk c=Sched.mk x.1∧A=x.2.1∧(A.length=x.2.1.length∧bad=x.2.2.1)∧A=x.2.2.2.1∧V.vLineR_3 x)∧
   ∀(x:Core × List Answer × Int × List Answer × Reply × Bool × Int × Int),I x→br (decide (x.2.2.2.2.2.2.2<(x.2.2.2.1.length:Int))) (V.vLineR_1 nn k I m x) (V.vLineR_2 k x):=by
 refine ⟨fun x=>x.1=c∧x.2.1=A∧x.2.2.1=bad∧x.2.2.2.1=A∧x.2.2.2.2.2.2.1=t∧0≤x.2.2.2.2.2.2.2∧x.2.2.2.2.2.2.2≤A.length∧tellA (A.take x.2.2.2.2.2.2.2.toNat) t=(x.2.2.2.2.1,x.2.2.2.2.2.1),fun x=>(A.length-x.2.2.2.2.2.2.2).toNat,(c,A,bad,A,reply0,false,t,0),⟨rfl,rfl,rfl,rfl,rfl,Int.le_refl _,by simp,rfl⟩,⟨⟨rfl,rfl,rfl,rfl⟩,rfl,rfl,⟨rfl,rfl⟩,rfl,by simp [V.vLineR_3,V.SH,reply0]⟩,?_⟩
 rintro ⟨c',A1,b',A2,rep,is,t',i⟩ ⟨g1,g2,g3,g4,g5,g6,g7,g8⟩
 simp only [] at g1 g2 g3 g4 g5 g6 g7 g8
 subst g1 g2 g3 g4 g5
 obtain ⟨i,rfl⟩:=Int.eq_ofNat_of_zero_le g6
 simp only [Int.toNat_natCast] at g8
 have hn1:((i:Int)+1).toNat=i+1:=by omega
 refine br_dec (fun hi=>?_) (fun hi=>?_)
 ·have hi:(i:Int)<(A2.length:Int):=hi
  unfold V.vLineR_1 V.NX V.AT V.NM V.SH
  simp only [Nat.zero_add,Int.toNat_natCast,true_and,and_true]
  refine ⟨⟨g6,hi⟩,by omega,fun e he=>⟨⟨g6,hi⟩,by omega,fun e1 he1=>?_⟩⟩
  rw [he] at he1;cases he1
  have hs:=tellA_snoc (A2.take i) e t'
  have ht:A2.take (i+1)=A2.take i++[e]:=by rw [List.take_add_one,he];rfl
  rw [←ht,g8] at hs
  refine br_not (fun hh=>by simp at hh) (fun _=>⟨⟨g6,hi⟩,by omega,fun e1 he1=>?_⟩)
  rw [he] at he1;cases he1
  refine br_eq (fun h1=>br_not (fun h2=>⟨⟨g6,hi⟩,by omega,fun e1 he1 q hq=>?_⟩) (fun h2 q hq=>?_)) (fun h1 q hq=>?_)
  ·rw [he] at he1;cases he1
   rw [w64 (by omega)] at hq
   subst hq
   have h2:is=false:=h2
   rw [h2] at hs
   simp [h1] at hs
   exact ⟨(c',A2,b',A2,e.Reply,true,t',(i:Int)+1),⟨rfl,rfl,rfl,rfl,rfl,by simp only [];omega,by simp only [];omega,by simp only [hn1];exact hs⟩,by simp,by simp only [];omega⟩
  ·rw [w64 (by omega)] at hq
   subst hq
   have h2:is=true:=h2
   rw [h2] at hs
   simp at hs
   exact ⟨(c',A2,b',A2,rep,is,t',(i:Int)+1),⟨rfl,rfl,rfl,rfl,rfl,by simp only [];omega,by simp only [];omega,by simp only [hn1];rw [hs,h2]⟩,by simp,by simp only [];omega⟩
  ·rw [w64 (by omega)] at hq
   subst hq
   simp [h1] at hs
   exact ⟨(c',A2,b',A2,rep,is,t',(i:Int)+1),⟨rfl,rfl,rfl,rfl,rfl,by simp only [];omega,by simp only [];omega,by simp only [hn1];exact hs⟩,by simp,by simp only [];omega⟩
 ·have hi: ¬ (i:Int)<(A2.length:Int):=hi
  rw [List.take_of_length_le (by omega)] at g8
  unfold V.vLineR_2 V.SH
  simp only [tk_eq,Nat.zero_add,Nat.le_refl,true_and,and_true,g8]
  refine ⟨by omega,br_bool (fun _=>br_bool (fun _=>hk) (fun hh=>by simp at hh)) (fun hh=>by simp at hh)⟩
theorem vLineR {n:Int} {l:List Go.Ax.Event} {t:Int} {k:Unit→Bool × Unit→Prop} (h:oLineR (n,l,t,()) k):V.vLineR n l t k:=by
 have hk:k () (true,()):=h
 have e60:List.drop (Int.toNat 0) (List.take (Int.toNat 60) l)=l.take 60:=rfl
 unfold V.vLineR V.LP V.SH V.LN
 simp only [e60,tk_eq,Nat.zero_add,Nat.le_refl,true_and,and_true]
 have key: ∀(L:List Go.Ax.Event),L.length≤60→(∀(h:n<1∨64<n),agreesS n L=false)∧(1≤n∧n≤64→(∃c,Stb n.toNat c (newM n))∧Stb n.toNat (replayS n L).1 (replayMF (newM n) [] (-1) 0 L).1∧(replayS n L).2=(replayMF (newM n) [] (-1) 0 L).2∧(replayS n L).2.1.length≤60):=by
  intro L hL
  refine ⟨fun hn=>?_,fun hn=>?_⟩
  ·unfold agreesS
   rcases hn with h1 |h1
   ·rw [decide_eq_false (by omega),Bool.false_and]
   ·rw [decide_eq_false (p:=n≤64) (by omega),Bool.false_and,Bool.and_false]
  ·have hs:=new_stb (n:=n.toNat) (by omega) (by omega)
   rw [Int.toNat_of_nonneg (by omega)] at hs
   have hr:=replay_stb L (as:=[]) (bad:= -1) (i:=0) hs
   have hl:=replay_len L (newCore n) [] (-1) 0
   exact ⟨⟨_,hs⟩,hr.1,hr.2,by unfold replayS;simp at hl;omega⟩
 have h60:=List.length_take_le 60 l
 refine br_dec (fun hgt=>⟨⟨by omega,by omega,by omega⟩,?_⟩) (fun hgt=>?_)
 ·obtain ⟨k1,k2⟩:=key (l.take 60) h60
  generalize List.take 60 l=L at*
  refine ⟨by omega,fun hn=>br_dec (fun _=>⟨by omega,br_not (fun _=>hk) (fun hh=>by rw [k1 hn] at hh;cases hh)⟩) (fun _=>br_dec (fun _=>⟨by omega,br_not (fun _=>hk) (fun hh=>by rw [k1 hn] at hh;cases hh)⟩) (fun _=>by omega)),fun hn=>br_dec (fun _=>by omega) (fun _=>br_dec (fun _=>by omega) (fun _=>?_))⟩
  obtain ⟨⟨c0,hs⟩,hst,heq,hlen⟩:=k2 hn
  rw [heq] at hlen
  refine ⟨⟨by omega,by omega⟩,⟨⟨_,_,hs⟩,by omega⟩,?_⟩
  rw [heq]
  exact br_ne (fun hh=>absurd rfl hh) (fun _=>br_ne (fun hh=>absurd rfl hh) (fun _=>⟨⟨_,hst⟩,lineR_loop (nn:=n) hk (by omega)⟩))
 ·obtain ⟨k1,k2⟩:=key l (by omega)
  refine ⟨by omega,fun hn=>br_dec (fun _=>⟨by omega,br_not (fun _=>hk) (fun hh=>by rw [k1 hn] at hh;cases hh)⟩) (fun _=>br_dec (fun _=>⟨by omega,br_not (fun _=>hk) (fun hh=>by rw [k1 hn] at hh;cases hh)⟩) (fun _=>by omega)),fun hn=>br_dec (fun _=>by omega) (fun _=>br_dec (fun _=>by omega) (fun _=>?_))⟩
  obtain ⟨⟨c0,hs⟩,hst,heq,hlen⟩:=k2 hn
  rw [heq] at hlen
  refine ⟨⟨by omega,by omega⟩,⟨⟨_,_,hs⟩,by omega⟩,?_⟩
  rw [heq]
  exact br_ne (fun hh=>absurd rfl hh) (fun _=>br_ne (fun hh=>absurd rfl hh) (fun _=>⟨⟨_,hst⟩,lineR_loop (nn:=n) hk (by omega)⟩))
end Go.Ax.O
