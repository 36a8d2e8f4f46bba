import Derived.Test.YtbmabiedmdlinaaGreatDoorAxV9
import Derived.Test.YtbmabiedmdlinaaGreatDoorAxV22
import Derived.Test.YtbmabiedmdlinaaGreatDoorAxO70
import Derived.KernelRfl
set_option linter.all false
namespace Go.Ax.V
open Go.Ax.Sp Go.Ax.Law List Int IntKind
set_option maxRecDepth 100000
def vBytes0 (d:Diary) (k:Diary × Unit→List Int × Unit→Prop):Prop:=
SH (length ((66:Int)::(82:Int)::(84:Int)::(49:Int)::List.append [] (varL d.nodes))) fun s0=>SH ((66:Int)::(82:Int)::(84:Int)::(49:Int)::List.append (List.append [] (varL d.nodes)) (varL (LN d.deeds))) fun s1=>SH d.deeds fun s2=>SH (length s2) fun s3=>SH ((4:Nat)≤(1000000:Nat)∧(0:Int)≤d.nodes∧d.nodes≤(9223372036854775807:Int)) fun s4=>SH (s0≤(1000000:Nat)∧(0:Int)≤LN s2∧LN s2≤(9223372036854775807:Int)) fun s5=>br (Option.isNone d.S) (k (d,()) ([],())) ((0:Nat)<(4:Nat)∧oc d.S ((4:Nat)=(4:Nat)∧s4∧s0=s0∧s5∧LP (Diary × List Int × Int × Int) (fun x=>(0:Nat)+s3≤s3∧(((0:Nat)=(0:Nat)∧length s1=length x.2.1)∧LN s2=x.2.2.1∧(0:Int)=x.2.2.2∧True)∧Diary.mk none d.nodes (take s3 (drop (0:Nat) s2))=x.1∧s1=x.2.1∧True) fun I m x=>br (decide (x.2.2.2<x.2.2.1)) False (length x.2.1=length x.2.1∧k (x.1,()) (x.2.1,()))) fun dS=>(4:Nat)=(4:Nat)∧s4∧s0=s0∧s5∧LP (Diary × List Int × Int × Int) (fun x=>(0:Nat)+s3≤s3∧(((0:Nat)=(0:Nat)∧length s1=length x.2.1)∧LN s2=x.2.2.1∧(0:Int)=x.2.2.2∧True)∧Diary.mk (some dS) d.nodes (take s3 (drop (0:Nat) s2))=x.1∧s1=x.2.1∧True) fun I m x=>br (decide (x.2.2.2<x.2.2.1)) False (length x.2.1=length x.2.1∧k (x.1,()) (x.2.1,())))
def vAwakeSn (u:Unit) (k:Unit→Bool × Unit→Prop):Prop:=
((2:Int)<1∨(64:Int)<2→k () (false,()))∧((1:Int)≤2∧(2:Int)≤64→(false=false→(0:Nat)=0∧(0:Int)≤2∧(2:Int)≤1000)∧((6:Nat)≤6∧(0:Nat)<6)∧k () (ByteArray.toList (strOf [(66:Int),(82:Int),(84:Int),(49:Int),wrap .u8 (2:Int),wrap .u8 (0:Int)])==ByteArray.toList (ByteArray.mk (Array.mk [UInt8.ofNat (66:Nat),UInt8.ofNat (82:Nat),UInt8.ofNat (84:Nat),UInt8.ofNat (49:Nat),UInt8.ofNat (2:Nat),UInt8.ofNat (0:Nat)])),()))
def vSnapN (n:Int) (k:Unit→Bool × Unit→Prop):Prop:=
SH (SDeed.mk (Req.mk (11:Int) (0:Int) (0:Int) (0:Int) (0:Int) (0:Int) false (0:Int) (0:Int)) (Choice.mk (0:Int) (0:Int)) false) fun s0=>OkD (Diary.mk none (0:Int) [])∧(true=false→(0:Nat)=0∧(0:Int)≤0∧(0:Int)≤1000)∧NM (0:Int) fun n_1=>br (!n_1==0) (k () (false,())) (br (decide (n<4090)) (k () (true,())) (br (decide (n>4100)) (k () (true,())) (((1:Int)<1∨(64:Int)<1→k () (false,()))∧((1:Int)≤1∧(1:Int)≤64→LP (Int × Diary × Int) (fun x=>(n=x.1∧(0:Nat)=0∧1=x.2.2∧True)∧newD 1=x.2.1∧True) fun I m x=>br (decide (x.2.2≤x.1)) (OkD x.2.1∧br (!((actD x.2.1 s0).2.2==0)==decide (x.2.2≤4096)) (k () (false,())) (NM (x.2.2+1) fun n=>NX I m x fun y=>(x.1=y.1∧(0:Nat)=0∧n=y.2.2∧True)∧(actD x.2.1 s0).1=y.2.1∧True)) (k () (true,()))))))
end Go.Ax.V
namespace Go.Ax.O
open Go.Ax.Sp Go.Ax.Law
theorem vBytes0 {d:Diary} {k:Diary × Unit→List Int × Unit→Prop} (h:oBytes0 (d,()) k):V.vBytes0 d k:=by
 obtain ⟨hp,h⟩:=h
 replace hp:d.S.isNone=false→d.deeds.length=0∧0≤d.nodes∧d.nodes≤1000:=hp
 replace h:k (d,()) (bytes0 d,()):=h
 unfold V.vBytes0
 simp only [V.LP,V.NX,V.NM,V.SH,V.AT,V.AI,V.LN,tkl70,Nat.zero_add,Nat.le_refl,true_and,and_true]
 obtain ⟨S,n,l⟩:=d
 cases S with
 |none=>exact br_bool (fun _=>h) (fun hh=>by cases hh)
 |some s=>
  obtain ⟨q1,q2,q3⟩:=hp rfl
  replace q2:0≤n:=q2
  replace q3:n≤1000:=q3
  obtain rfl:l=[]:=List.eq_nil_of_length_eq_zero q1
  have hv:(varL n).length≤10:=varF_len 9 n
  have hb:bytes0 ⟨some s,n,[]⟩=66::82::84::49::List.append (List.append [] (varL n)) (varL 0):=by
   unfold bytes0
   rw [if_neg (by simp)]
   rfl
  rw [hb] at h
  refine br_bool (fun hh=>by cases hh) (fun _=>⟨by decide,oc_s (fun e=>by cases e) (fun s' e=>?_)⟩)
  cases e
  refine ⟨⟨by decide,q2,by simp only [];omega⟩,⟨?_,by simp,by simp⟩,fun x=>x=(⟨some s,n,[]⟩,66::82::84::49::List.append (List.append [] (varL n)) (varL 0),0,0),fun _=>0,_,rfl,by simp,?_⟩
  ·show (66::82::84::49::([]++varL n)).length≤1000000
   simp only [List.nil_append,List.length_cons];omega
  ·rintro _ rfl
   exact br_dec (fun hh=>absurd hh (by simp)) (fun _=>h)
theorem vAwakeSn {u:Unit} {k:Unit→Bool × Unit→Prop} (h:oYes u k):V.vAwakeSn u k:=by
 have h:k () (true,()):=h
 unfold V.vAwakeSn
 have ht: ∀b:Bool,b=true→k () (b,()):=fun b hb=>by subst hb;exact h
 exact ⟨fun hh=>absurd hh (by decide),fun _=>⟨fun _=>by decide,by decide,ht _ (by kernel_rfl)⟩⟩
theorem act_ask {d:Diary} {s:Sched} (hs:d.S=some s) (ho:OkS s.C) (x:SDeed) (hx:x.Commit=false):
  OkD (actD d x).1∧(actD d x).1.S.isSome=true∧(4096≤d.deeds.length→(actD d x).1=d∧(actD d x).2.2=6)∧(d.deeds.length<4096→(actD d x).1.deeds.length=d.deeds.length+1∧(actD d x).2.2=0):=by
 obtain ⟨S,n,l⟩:=d
 replace hs:S=some s:=hs
 subst hs
 unfold actD
 simp only []
 by_cases hl:4096≤l.length
 ·rw [if_pos hl]
  exact ⟨fun s' e=>by cases e;exact ho,rfl,fun _=>⟨rfl,rfl⟩,fun hh=>absurd hl (by omega)⟩
 ·rw [if_neg hl,if_neg (by simp [hx])]
  exact ⟨fun s' e=>by cases e;exact ho.step _,rfl,fun hh=>absurd hh hl,fun _=>⟨by simp,rfl⟩⟩
theorem vSnapN {n:Int} {k:Unit→Bool × Unit→Prop} (h:oSnapN (n,()) k):V.vSnapN n k:=by
 have h:k () (true,()):=h
 unfold V.vSnapN
 simp only [V.LP,V.NX,V.NM,V.SH,V.AT,V.AI,V.LN]
 refine ⟨fun s hs=>(by cases hs),fun hh=>(by cases hh),fun q hq=>?_⟩
 rw [w64 (by decide)] at hq
 subst hq
 refine br_ne (fun hh=>absurd rfl hh) (fun _=>br_dec (fun _=>h) (fun h1=>br_dec (fun _=>h) (fun h2=>⟨fun hh=>absurd hh (by decide),fun _=>?_⟩)))
 have hn:OkS (newCore 1):=⟨_,_,new_stb (n:=1) (by decide) (by decide)⟩
 refine ⟨fun x=>x.1=n∧1≤x.2.2∧OkD x.2.1∧x.2.1.S.isSome=true∧(x.2.1.deeds.length:Int)=min (x.2.2-1) 4096,fun x=>(n+1-x.2.2).toNat,(n,newD 1,1),⟨rfl,Int.le_refl _,fun s hs=>by cases hs;exact hn,rfl,rfl⟩,by simp,?_⟩
 rintro ⟨n',d,i⟩ ⟨e0,p1,hd,hsm,hl⟩
 simp only [] at e0 p1 hd hsm hl
 subst e0
 refine br_dec (fun hi=>⟨hd,?_⟩) (fun _=>h)
 have hi:i≤n':=hi
 obtain ⟨s,hs⟩:=Option.isSome_iff_exists.1 hsm
 obtain ⟨a1,a2,a3,a4⟩:=act_ask hs (hd s hs) ⟨⟨11,0,0,0,0,0,false,0,0⟩,⟨0,0⟩,false⟩ rfl
 generalize actD d ⟨⟨11,0,0,0,0,0,false,0,0⟩,⟨0,0⟩,false⟩=r at a1 a2 a3 a4 ⊢
 refine br_not (fun hh=>?_) (fun _ q hq=>?_)
 ·exfalso
  by_cases hc:i≤4096
  ·rw [(a4 (by omega)).2] at hh
   simp [hc] at hh
  ·rw [(a3 (by omega)).2] at hh
   simp [hc] at hh
 ·rw [w64 (by simp only [];omega)] at hq
  replace hq:q=i+1:=hq
  subst hq
  refine ⟨(n',r.1,i+1),⟨rfl,by simp only [];omega,a1,a2,?_⟩,by simp,by simp only [];omega⟩
  simp only []
  by_cases hc:i≤4096
  ·rw [(a4 (by omega)).1];omega
  ·rw [(a3 (by omega)).1];omega
end Go.Ax.O
