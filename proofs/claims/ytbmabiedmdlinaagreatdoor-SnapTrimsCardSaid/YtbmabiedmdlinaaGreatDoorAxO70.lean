import Derived.Test.YtbmabiedmdlinaaGreatDoorAxO28
import Derived.Test.YtbmabiedmdlinaaGreatDoorAxV22
import Derived.Test.YtbmabiedmdlinaaGreatDoorAxV9
import Derived.Test.YtbmabiedmdlinaaGreatDoorAxO40
set_option linter.all false
namespace Go.Ax.Law
def newD (n:Int):Diary:=⟨some ⟨newCore n⟩,n,[]⟩
def actD (d:Diary) (x:SDeed):Diary × Reply × Int:=match d.S with
 |none=>(d,reply0,8)
 |some s=>if 4096≤d.deeds.length then (d,reply0,6)
  else if x.Commit then (⟨some ⟨(comS s.C x.Choice).2⟩,d.nodes,d.deeds++[x]⟩,if (comS s.C x.Choice).1 then reply0 else failR 5,0)
  else (⟨some ⟨(doS s.C x.Req).2⟩,d.nodes,d.deeds++[x]⟩,(doS s.C x.Req).1,0)
def OkD (d:Diary):Prop:= ∀s,d.S=some s→OkS s.C
def varF:Nat→Int→List Int
 |0,v=>[IntKind.u8.wrap v]
 |f+1,v=>if 128≤v then lorI .u8 (IntKind.u8.wrap v) 128::varF f (v/128) else [IntKind.u8.wrap v]
def varL (v:Int):List Int:=varF 9 v
def bytes0 (d:Diary):List Int:=if d.S.isNone then [] else [66,82,84,49]++varL d.nodes++varL 0
end Go.Ax.Law
namespace Go.Ax.Sp
def sPutW:Sig:=⟨[(.row .u8,false),(.int .i64,false)],[.row .u8]⟩
def oPutW:sPutW.Out:=fun x k=>(x.1.length≤1000000∧0≤x.2.1∧x.2.1≤9223372036854775807)∧k () (x.1++Law.varL x.2.1,())
def lPutW:LoopAnn:={X:=List Int × Int,live:=fun x=>[(0,.sl 1 1 0 x.1.length),(1,.int .i64 x.2)],heap:=fun x=>[none,some (.row .u8 x.1)],norm:=[.grow,.home 0 1]}
def sNewD:Sig:=⟨[(.int .i64,false)],[.opt .diary,.int .i64]⟩
def oNewD:sNewD.Out:=fun x k=>((x.1<1∨64<x.1)→k () (none,1,()))∧(1≤x.1∧x.1≤64→k () (some (Law.newD x.1),0,()))
def sNoneD:Sig:=⟨[(.obj .diary,true)],[.bool]⟩
def oNoneD:sNoneD.Out:=fun x k=>k (x.1,()) (x.1.S.isNone,())
def sActD:Sig:=⟨[(.obj .diary,true),(.elem .sdeed,false)],[.elem .reply,.int .i64]⟩
def oActD:sActD.Out:=fun x k=>Law.OkD x.1∧k ((Law.actD x.1 x.2.1).1,()) ((Law.actD x.1 x.2.1).2.1,(Law.actD x.1 x.2.1).2.2,())
def sBytesD:Sig:=⟨[(.obj .diary,true)],[.row .u8]⟩
def oBytes0:sBytesD.Out:=fun x k=>(x.1.S.isNone=false→x.1.deeds.length=0∧0≤x.1.nodes∧x.1.nodes≤1000)∧k (x.1,()) (Law.bytes0 x.1,())
def lBytes0:LoopAnn:={X:=Diary × List Int × Int × Int,live:=fun x=>[(3,.sl 1 1 0 x.2.1.length),(26,.int .i64 x.2.2.1),(27,.int .i64 x.2.2.2)],heap:=fun x=>[some (.obj .diary x.1),some (.row .u8 x.2.1)],norm:=[.fold 0 .diary,.home 3 1]}
def sSnapN:Sig:=⟨[(.int .i64,false)],[.bool]⟩
def lSnapN:LoopAnn:={X:=Int × Diary × Int,live:=fun x=>[(0,.int .i64 x.1),(9,.ptr ⟨6,0,0,0⟩),(11,.int .i64 x.2.2)],heap:=fun x=>[none,none,none,none,none,none,some (.obj .diary x.2.1)],norm:=[.fold 6 .diary]}
def oSnapN:sSnapN.Out:=fun _ k=>k () (true,())
end Go.Ax.Sp
namespace Go.Ax.V
open Go.Ax.Sp Go.Ax.Law List Int IntKind
set_option maxRecDepth 100000
def vPutW (b:List Int) (v:Int) (k:Unit→List Int × Unit→Prop):Prop:=
br (decide (v<0)) (length b=length b∧k () (b,())) (LP (List Int × Int) (fun x=>(((0:Nat)=0∧length b=length x.1)∧v=x.2∧True)∧b=x.1∧True) fun I m x=>SH (length x.1) fun s0=>SH (take s0 (drop (0:Nat) x.1)) fun s1=>br (decide (x.2≥128)) (∀(n:Int),n=wrap .u8 x.2→ ∀(n_1:Int),n_1=lorI IntKind.u8 n (128:Int)→(1:Nat)≤1∧0+s0≤s0∧s0+1≤68719476736∧(0:Int)≤7∧ ∀(n:Int),n=fdiv x.2 ((2:Int)^min (toNat (7:Int)) (64:Nat))→NX I m x fun y=>(((0:Nat)=0∧s0+1=length y.1)∧n=y.2∧True)∧s1++[n_1]=y.1∧True) (∀(n:Int),n=wrap .u8 x.2→(1:Nat)≤1∧0+s0≤s0∧s0+1≤68719476736∧s0+1=length (s1++[n])∧k () (s1++[n],())))
def vNewD (n:Int) (k:Unit→Option Diary × Int × Unit→Prop):Prop:=
(n<1∨64<n→k () (none,1,()))∧(1≤n∧n≤64→k () (some (Diary.mk (some (Sched.mk (newCore n))) n []),0,()))
def vNoneD (d:Diary) (k:Diary × Unit→Bool × Unit→Prop):Prop:=
SH (length d.deeds) fun s0=>oc d.S (0+s0≤s0∧k (Diary.mk none d.nodes (take s0 (drop 0 d.deeds)),()) (true,())) fun dS=>0+s0≤s0∧k (Diary.mk (some dS) d.nodes (take s0 (drop 0 d.deeds)),()) (false,())
def vActD (d:Diary) (x:SDeed) (k:Diary × Unit→Reply × Int × Unit→Prop):Prop:=
SH (take (length d.deeds) (drop 0 d.deeds)++[x]) fun s0=>SH (length d.deeds) fun s1=>SH (take (s1+1) (drop 0 s0)) fun s2=>SH (Reply.mk 0 0 0 0 0 0 0 0 0) fun s3=>SH d.nodes fun s4=>SH (0+(s1+1)) fun s5=>SH (Reply.mk 5 0 0 0 0 0 0 0 0,0,()) fun s6=>SH (s5≤length s0) fun s7=>SH (0+s1≤s1) fun s8=>br (Option.isNone d.S) (k (d,()) (s3,8,())) (oc d.S (br (decide (LN d.deeds≥4096)) (s8∧k (Diary.mk none s4 (take s1 (drop 0 d.deeds)),()) (s3,6,())) (((1≤1∧s8∧s1+1≤68719476736∧br (!x.Commit) (((s7∧k (Diary.mk none s4 s2,()) (Reply.mk 8 0 0 0 0 0 0 0 0,0,()))∧True)∧True) ((s7∧k (Diary.mk none s4 s2,()) s6)∧True)∧True)∧True)∧True)) fun dS=>SH (wholeW (newX x.Choice) dS.C).2 fun s9=>br (decide (LN d.deeds≥4096)) (s8∧k (Diary.mk (some dS) s4 (take s1 (drop 0 d.deeds)),()) (s3,6,())) (((1≤1∧s8∧s1+1≤68719476736∧br (!x.Commit) ((OkS dS.C∧(s7∧k (Diary.mk (some (Sched.mk (doS dS.C x.Req).2)) s4 s2,()) ((doS dS.C x.Req).1,0,()))∧True)∧True) ((OkS dS.C∧br (!s9.1.ok) (s7∧k (Diary.mk (some (Sched.mk s9.2)) s4 s2,()) s6) (s7∧k (Diary.mk (some (Sched.mk s9.2)) s4 s2,()) (s3,0,())))∧True)∧True)∧True)∧True))
end Go.Ax.V
namespace Go.Ax.Law
theorem fdiv128 {v:Int} (h:0≤v):Int.fdiv v ((2:Int)^min (Int.toNat 7) 64)=v/128:=by
 rw [show (2:Int)^min (Int.toNat 7) 64=128 by decide]
 exact Int.fdiv_eq_ediv_of_nonneg v (by decide)
theorem varF_len: ∀(f:Nat) (v:Int),(varF f v).length≤f+1
 |0,_=>by simp [varF]
 |f+1,v=>by
  unfold varF
  split
  ·have:=varF_len f (v/128)
   simp only [List.length_cons];omega
  ·simp
end Go.Ax.Law
namespace Go.Ax.O
open Go.Ax.Sp Go.Ax.Law
theorem oc_s {α:Type} {o:Option α} {n:Prop} {s:α→Prop} (h1:o=none→n) (h2: ∀d,o=some d→s d):oc o n s:=by
 cases o with
 |none=>exact h1 rfl
 |some d=>exact h2 d rfl
theorem tkl70 {α:Type} (l:List α):List.take l.length (List.drop 0 l)=l:=by simp
theorem tkl71 {α:Type} (l:List α) (x:α):List.take (l.length+1) (List.drop 0 (l++[x]))=l++[x]:=by simp [List.take_of_length_le]
theorem vPutW {b:List Int} {v:Int} {k:Unit→List Int × Unit→Prop} (h:oPutW (b,v,()) k):V.vPutW b v k:=by
 obtain ⟨⟨hb,h0,h1⟩,h⟩:=h
 replace hb:b.length≤1000000:=hb
 replace h0:0≤v:=h0
 replace h1:v≤9223372036854775807:=h1
 replace h:k () (b++varL v,()):=h
 unfold V.vPutW
 simp only [V.LP,V.NX,V.NM,V.SH,V.AT,V.AI,V.LN,tkl70,Nat.zero_add,Nat.le_refl,true_and,and_true]
 refine br_dec (fun hh=>absurd hh (by omega)) (fun _=>?_)
 refine ⟨fun x=> ∃f:Nat,f≤9∧x.1++varF f x.2=b++varL v∧0≤x.2∧x.2<128^(f+1)∧x.1.length+f≤b.length+9,fun x=>x.2.toNat,(b,v),⟨9,Nat.le_refl _,rfl,h0,by simp only [];omega,Nat.le_refl _⟩,by simp,?_⟩
 rintro ⟨c,u⟩ ⟨f,hf,e1,p1,p2,p3⟩
 simp only [] at e1 p1 p2 p3
 refine br_dec (fun hu=>?_) (fun hu=>?_)
 ·have hu:u≥128:=hu
  intro n hn n1 hn1
  refine ⟨by simp only [];omega,by decide,fun n2 hn2=>?_⟩
  simp only [] at hn2
  rw [fdiv128 p1] at hn2
  subst hn hn1 hn2
  cases f with
  |zero=>simp at p2;omega
  |succ f=>
   have e2:varF (f+1) u=lorI .u8 (IntKind.u8.wrap u) 128::varF f (u/128):=by
    show (if 128≤u then _ else _)=_
    rw [if_pos hu]
   rw [e2] at e1
   refine ⟨(c++[lorI .u8 (IntKind.u8.wrap u) 128],u/128),⟨f,by omega,by simpa using e1,by simp only [];omega,?_,by simp only [List.length_append,List.length_singleton];omega⟩,by simp,by simp only [];omega⟩
   simp only []
   rw [Int.pow_succ] at p2
   omega
 ·have hu: ¬ u≥128:=hu
  intro n hn
  subst hn
  refine ⟨by simp only [];omega,by simp,?_⟩
  have e2:varF f u=[IntKind.u8.wrap u]:=by
   cases f with
   |zero=>rfl
   |succ f=>
    show (if 128≤u then _ else _)=_
    rw [if_neg hu]
  rw [e2] at e1
  simp only []
  rw [e1];exact h
theorem vNewD {n:Int} {k:Unit→Option Diary × Int × Unit→Prop} (h:oNewD (n,()) k):V.vNewD n k:=h
theorem vNoneD {d:Diary} {k:Diary × Unit→Bool × Unit→Prop} (h:oNoneD (d,()) k):V.vNoneD d k:=by
 have h:k (d,()) (d.S.isNone,()):=h
 unfold V.vNoneD
 simp only [V.LP,V.NX,V.NM,V.SH,V.AT,V.AI,V.LN,tkl70,Nat.zero_add,Nat.le_refl,true_and]
 obtain ⟨S,n,l⟩:=d
 refine oc_s (fun e=>?_) (fun s e=>?_)
 ·replace e:S=none:=e
  subst e;exact h
 ·replace e:S=some s:=e
  subst e;exact h
theorem vActD {d:Diary} {x:SDeed} {k:Diary × Unit→Reply × Int × Unit→Prop} (h:oActD (d,x,()) k):V.vActD d x k:=by
 obtain ⟨hd,h⟩:=h
 replace hd:OkD d:=hd
 replace h:k ((actD d x).1,()) ((actD d x).2.1,(actD d x).2.2,()):=h
 unfold V.vActD
 simp only [V.LP,V.NX,V.NM,V.SH,V.AT,V.AI,V.LN,tkl70,tkl71,Nat.zero_add,Nat.le_refl,true_and,and_true,List.length_append,List.length_singleton]
 obtain ⟨S,n,l⟩:=d
 cases S with
 |none=>exact br_bool (fun _=>h) (fun hh=>by cases hh)
 |some s=>
  refine br_bool (fun hh=>by cases hh) (fun _=>oc_s (fun e=>by cases e) (fun s' e=>?_))
  cases e
  have hs:=hd s rfl
  unfold actD at h
  simp only [] at h
  refine br_dec (fun hl=>?_) (fun hl=>?_)
  ·have hl:4096≤l.length:=by have hl:(l.length:Int)≥4096:=hl;omega
   rw [if_pos hl] at h;exact h
  ·have hl: ¬ 4096≤l.length:=by have hl: ¬ (l.length:Int)≥4096:=hl;omega
   rw [if_neg hl] at h
   refine ⟨by simp only [];omega,br_not (fun hc=>⟨hs,?_⟩) (fun hc=>⟨hs,br_not (fun hb=>?_) (fun hb=>?_)⟩)⟩
   ·rw [if_neg (by simp [hc])] at h;exact h
   ·rw [if_pos hc] at h
    have hb:(comS s.C x.Choice).1=false:=hb
    rw [hb] at h;exact h
   ·rw [if_pos hc] at h
    have hb:(comS s.C x.Choice).1=true:=hb
    rw [hb] at h;exact h
end Go.Ax.O
