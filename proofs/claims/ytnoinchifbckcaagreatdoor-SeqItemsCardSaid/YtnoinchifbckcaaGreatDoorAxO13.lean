import Derived.Test.YtnoinchifbckcaaGreatDoorAxV6
import Derived.Test.YtnoinchifbckcaaGreatDoorAxS9
set_option linter.all false
namespace Go.Ax.O
open Go.Ax.Sp Go.Ax.Law
theorem idxI_at {l:List Int} {v:Int} {i:Nat} (h:l[i]? =some v) (hn: ∀(p:Nat) (y:Int),p<i→l[p]? =some y→y≠v):idxI l v=(i:Int):=by
 have:l.findIdx? (fun x=>decide (x=v))=some i:=by
  rw [List.findIdx?_eq_some_iff_getElem]
  refine ⟨(List.getElem?_eq_some_iff.1 h).1,by simp [(List.getElem?_eq_some_iff.1 h).2],fun j hj=>?_⟩
  have:=hn j _ hj (List.getElem?_eq_getElem (by have:=(List.getElem?_eq_some_iff.1 h).1;omega))
  simpa using this
 simp [idxI,this]
theorem idxI_none {l:List Int} {v:Int} (hn: ∀(p:Nat) (y:Int),l[p]? =some y→y≠v):idxI l v= -1:=by
 have:l.findIdx? (fun x=>decide (x=v))=none:=by
  rw [List.findIdx?_eq_none_iff]
  intro x hx
  obtain ⟨p,hp⟩:=List.getElem?_of_mem hx
  simpa using hn p x hp
 simp [idxI,this]
theorem vIdxI {l:List Int} {n:Int} {k:Unit→Int × Unit→Prop} (h:oIdxI (l,n,()) k):V.vIdxI l n k:=by
 obtain ⟨hl,hk⟩:=h
 simp only [] at hl hk
 refine ⟨fun x=>x.1=l∧x.2.1=n∧0≤x.2.2∧x.2.2≤l.length∧ ∀(p:Nat) (y:Int),(p:Int)<x.2.2→l[p]? =some y→y≠n,fun x=>(l.length-x.2.2).toNat,(l,n,0),⟨rfl,rfl,Int.le_refl _,by simp,fun p y hp=>by simp only [] at hp;omega⟩,⟨⟨rfl,rfl,rfl,rfl,trivial⟩,trivial⟩,?_⟩
 rintro ⟨l',n',i⟩ ⟨g1,g2,g3,g4,g5⟩
 simp only [] at g1 g2 g3 g4 g5
 subst g1 g2
 obtain ⟨i,rfl⟩:=Int.eq_ofNat_of_zero_le g3
 dsimp only
 refine br_dec (fun hi=>⟨⟨g3,hi⟩,fun e he=>?_⟩) (fun hi=>?_)
 ·rw [Int.toNat_natCast] at he
  refine br_bool (fun hne=>?_) (fun hne m hm=>?_)
  ·have hne:n'=e:=by simpa using hne
   subst hne
   rw [idxI_at he fun p y hp hy=>g5 p y (by omega) hy] at hk
   exact hk
  ·have hne:n'≠e:=by simpa using hne
   rw [w64 (by omega)] at hm
   subst hm
   refine ⟨(l',n',(i:Int)+1),⟨rfl,rfl,by simp only [];omega,by simp only [];omega,fun p y hp hy=>?_⟩,⟨⟨rfl,rfl,rfl,rfl,trivial⟩,trivial⟩,by simp only [];omega⟩
   simp only [] at hp
   by_cases hpi:p=i
   ·subst hpi;rw [he] at hy;cases hy;exact fun h=>hne h.symm
   ·exact g5 p y (by omega) hy
 ·rw [idxI_none fun p y hy=>g5 p y (by have:=(List.getElem?_eq_some_iff.1 hy).1;omega) hy] at hk
  exact hk
theorem idxI_ge {l:List Int} {v:Int}:decide (idxI l v≥0)=l.contains v:=by
 unfold idxI
 cases h:l.findIdx? fun x=>decide (x=v) with
 |some i=>
  have:=List.findIdx?_eq_some_iff_getElem.1 h
  obtain ⟨h1,h2,_⟩:=this
  have:v∈l:=by
   have:l[i]=v:=by simpa using h2
   rw [←this];exact List.getElem_mem h1
  simp [this]
 |none=>
  rw [List.findIdx?_eq_none_iff] at h
  have:v∉l:=fun hm=>by simpa using h v hm
  simp [this]
theorem vConI {l:List Int} {n:Int} {k:Unit→Bool × Unit→Prop} (h:oConI (l,n,()) k):V.vConI l n k:=by
 obtain ⟨hl,hk⟩:=h
 refine ⟨hl,?_⟩
 rw [idxI_ge]
 exact hk
theorem vNaN {n:Int} {k:Unit→Bool × Unit→Prop} (h:oNaN (n,()) k):V.vNaN n k:=by
 have h:k () (false,()):=h
 unfold V.vNaN
 simpa using h
theorem vCmpI {n m:Int} {k:Unit→Int × Unit→Prop} (h:oCmpI (n,m,()) k):V.vCmpI n m k:=by
 have h:k () (cmpI n m,()):=h
 unfold cmpI at h
 refine br_dec (fun h1=>?_) (fun h1=>br_dec (fun h2=>?_) (fun h2=>?_))
 ·rw [if_pos h1] at h;exact h
 ·rw [if_neg h1,if_pos h2] at h;exact h
 ·rw [if_neg h1,if_neg h2] at h;exact h
theorem vOrI {l:List Int} {k:Unit→Int × Unit→Prop} (h:oOrI (l,()) k):V.vOrI l k:=by
 obtain ⟨hl,hk⟩:=h
 simp only [] at hl hk
 refine ⟨fun x=>x.1=l∧0≤x.2∧x.2≤l.length∧orI (l.drop x.2.toNat)=orI l,fun x=>(l.length-x.2).toNat,(l,0),⟨rfl,Int.le_refl _,by simp,by simp⟩,⟨⟨rfl,rfl,rfl,rfl,trivial⟩,trivial⟩,?_⟩
 rintro ⟨l',i⟩ ⟨g1,g3,g4,g5⟩
 simp only [] at g1 g3 g4 g5
 subst g1
 obtain ⟨i,rfl⟩:=Int.eq_ofNat_of_zero_le g3
 rw [Int.toNat_natCast] at g5
 dsimp only
 refine br_dec (fun hi=>⟨⟨g3,hi⟩,fun e he=>?_⟩) (fun hi=>?_)
 ·rw [Int.toNat_natCast] at he
  have hd:l'.drop i=e::l'.drop (i+1):=by
   rw [List.drop_eq_getElem_cons (by omega)]
   congr 1
   exact (List.getElem?_eq_some_iff.1 he).2
  rw [hd] at g5
  refine br_not (fun hne=>?_) (fun hne m hm=>?_)
  ·have hne:e≠0:=by simpa using hne
   have:orI (e::l'.drop (i+1))=e:=by simp [orI,hne]
   rw [←g5,this] at hk
   exact hk
  ·have hne:e=0:=by simpa using hne
   subst hne
   rw [w64 (by omega)] at hm
   subst hm
   refine ⟨(l',(i:Int)+1),⟨rfl,by simp only [];omega,by simp only [];omega,?_⟩,⟨⟨rfl,rfl,rfl,rfl,trivial⟩,trivial⟩,by simp only [];omega⟩
   simp only []
   rw [show ((i:Int)+1).toNat=i+1 by omega,←g5]
   simp [orI]
 ·have:l'.drop i=[]:=by simp;omega
  rw [this] at g5
  rw [←g5] at hk
  exact hk
theorem vLeastI {l:List Int} {k:Unit→Int × Unit→Prop} (h:oLeastI (l,()) k):V.vLeastI l k:=by
 obtain ⟨hl,hk⟩:=h
 simp only [] at hl hk
 refine ⟨fun x=>x.1=l∧0≤x.2.2∧x.2.2≤l.length∧x.2.1=leastI (l.take x.2.2.toNat),fun x=>(l.length-x.2.2).toNat,(l,1152921504606846976,0),⟨rfl,Int.le_refl _,by simp,by simp [leastI]⟩,⟨⟨rfl,rfl,rfl,rfl,trivial⟩,trivial⟩,?_⟩
 rintro ⟨l',v,i⟩ ⟨g1,g3,g4,g5⟩
 simp only [] at g1 g3 g4 g5
 subst g1
 obtain ⟨i,rfl⟩:=Int.eq_ofNat_of_zero_le g3
 rw [Int.toNat_natCast] at g5
 dsimp only
 refine br_dec (fun hi=>⟨⟨g3,hi⟩,fun e he m hm=>?_⟩) (fun hi=>?_)
 ·rw [Int.toNat_natCast] at he
  rw [w64 (by omega)] at hm
  subst hm
  refine ⟨(l',if e<v then e else v,(i:Int)+1),⟨rfl,by simp only [];omega,by simp only [];omega,?_⟩,⟨⟨rfl,rfl,rfl,rfl,trivial⟩,trivial⟩,by simp only [];omega⟩
  simp only []
  rw [show ((i:Int)+1).toNat=i+1 by omega,List.take_add_one,he]
  simp only [leastI,Option.toList_some,List.foldl_append,List.foldl_cons,List.foldl_nil]
  simp only [leastI] at g5
  rw [←g5]
  simp only [Int.min_def]
  split<;>split<;>omega
 ·rw [List.take_of_length_le (by omega)] at g5
  rw [g5]
  exact hk
theorem popsum1 {p0 p1 p2 p3 p4 p5 p6 p7 A:Nat} (h0:p0≤8) (h1:p1≤8) (h2:p2≤8) (h3:p3≤8) (h4:p4≤8) (h5:p5≤8) (h6:p6≤8) (h7:p7≤8)
  (hA:A=p0+256*(p1+256*(p2+256*(p3+256*(p4+256*(p5+256*(p6+256*p7))))))):A+A/256=(p0+p1)+256*((p1+p2)+256*((p2+p3)+256*((p3+p4)+256*((p4+p5)+256*((p5+p6)+256*((p6+p7)+256*p7)))))):=by
 have:A/256=p1+256*(p2+256*(p3+256*(p4+256*(p5+256*(p6+256*p7))))):=by omega
 omega
theorem popsum2 {q0 q1 q2 q3 q4 q5 q6 q7 A:Nat} (h0:q0≤16) (h1:q1≤16) (h2:q2≤16) (h3:q3≤16) (h4:q4≤16) (h5:q5≤16) (h6:q6≤16) (h7:q7≤16)
  (hA:A=q0+256*(q1+256*(q2+256*(q3+256*(q4+256*(q5+256*(q6+256*q7))))))):A+A/65536=(q0+q2)+256*((q1+q3)+256*((q2+q4)+256*((q3+q5)+256*((q4+q6)+256*((q5+q7)+256*(q6+256*q7)))))):=by
 have:A/65536=q2+256*(q3+256*(q4+256*(q5+256*(q6+256*q7)))):=by omega
 omega
theorem popsum3 {q0 q1 q2 q3 q4 q5 q6 q7 A:Nat} (h0:q0≤32) (h1:q1≤32) (h2:q2≤32) (h3:q3≤32) (h4:q4≤32) (h5:q5≤32) (h6:q6≤32) (h7:q7≤32)
  (hA:A=q0+256*(q1+256*(q2+256*(q3+256*(q4+256*(q5+256*(q6+256*q7))))))):A+A/4294967296<9223372036854775808∧(A+A/4294967296)%128=(q0+q4)%128:=by
 have:A/4294967296=q4+256*(q5+256*(q6+256*q7)):=by omega
 constructor<;>omega
theorem land127 {a:Nat} (h:a<9223372036854775808):landI .i64 (a:Int) 127=((a%128:Nat):Int):=by
 unfold landI
 show IntKind.i64.wrap ((BitVec.ofInt 64 (a:Int)&&&BitVec.ofInt 64 ((127:Nat):Int)).toNat:Nat)=_
 rw [BitVec.toNat_and,bv64 (by omega),bv64 (by decide),show (127:Nat)=2^7-1 from rfl,Nat.and_two_pow_sub_one_eq_mod,w64 (by omega)]
theorem vOnes {x:Int} {k:Unit→Int × Unit→Prop} (h:oOnes (x,()) k):V.vOnes x k:=by
 obtain ⟨hx,hk⟩:=h
 obtain ⟨a,ha,rfl⟩:=U64.ex hx
 obtain ⟨p0,p1,p2,p3,p4,p5,p6,p7,h0,h1,h2,h3,h4,h5,h6,h7,b1,b2,b3,e1,e2⟩:=ones_sum ha
 have hk:k () (((popN a 64:Nat):Int),()):=by simpa [lenS] using hk
 rw [e2] at hk
 refine ⟨by decide,fun n hn n1 hn1 n2 hn2 n3 hn3=>⟨by decide,fun n4 hn4 n5 hn5 n6 hn6 n7 hn7=>⟨by decide,fun n8 hn8 n9 hn9 n10 hn10=>⟨by decide,fun n11 hn11 n12 hn12=>⟨by decide,fun n13 hn13 n14 hn14=>⟨by decide,fun n15 hn15 n16 hn16 n17 hn17 n18 hn18=>?_⟩⟩⟩⟩⟩⟩
 have m1:min (Int.toNat 1) 64=1:=by decide
 have m2:min (Int.toNat 2) 64=2:=by decide
 have m4:min (Int.toNat 4) 64=4:=by decide
 have m8:min (Int.toNat 8) 64=8:=by decide
 have m16:min (Int.toNat 16) 64=16:=by decide
 have m32:min (Int.toNat 32) 64=32:=by decide
 rw [m1,fdiv2] at hn
 subst hn
 rw [show (6148914691236517205:Int)=((6148914691236517205:Nat):Int) from rfl,landU (by omega) (by decide)] at hn1
 rw [show (6148914691236517205:Int)=((6148914691236517205:Nat):Int) from rfl,landU ha (by decide)] at hn2
 subst hn1 hn2
 rw [←Int.natCast_add,wuN (by exact b1)] at hn3
 have hn3:n3=((f1 6148914691236517205 a:Nat):Int):=hn3
 subst hn3
 clear ha hx m1
 generalize f1 6148914691236517205 a=y1 at*
 rw [m2,fdiv2] at hn4
 subst hn4
 rw [show (3689348814741910323:Int)=((3689348814741910323:Nat):Int) from rfl,landU (by omega) (by decide)] at hn5
 rw [show (3689348814741910323:Int)=((3689348814741910323:Nat):Int) from rfl,landU b1 (by decide)] at hn6
 subst hn5 hn6
 rw [←Int.natCast_add,wuN (by exact b2)] at hn7
 have hn7:n7=((f2 3689348814741910323 y1:Nat):Int):=hn7
 subst hn7
 clear b1 m2
 generalize f2 3689348814741910323 y1=y2 at*
 rw [m4,fdiv2] at hn8
 subst hn8
 rw [←Int.natCast_add,wuN (by exact b3)] at hn9
 subst hn9
 rw [show (1085102592571150095:Int)=((1085102592571150095:Nat):Int) from rfl,landU b3 (by decide),show (y2/2^4+y2)&&&1085102592571150095=_ from e1] at hn10
 clear e1 b2 b3 m4
 obtain ⟨A,hA⟩: ∃A,A=p0+256*(p1+256*(p2+256*(p3+256*(p4+256*(p5+256*(p6+256*p7)))))):=⟨_,rfl⟩
 rw [←hA] at hn10
 subst hn10
 have s1:=popsum1 h0 h1 h2 h3 h4 h5 h6 h7 hA
 have s2:=popsum2 (by omega) (by omega) (by omega) (by omega) (by omega) (by omega) (by omega) (by omega) s1
 obtain ⟨s3,s4⟩:=popsum3 (by omega) (by omega) (by omega) (by omega) (by omega) (by omega) (by omega) (by omega) s2
 clear hA s1 s2
 rw [m8,fdiv2] at hn11
 subst hn11
 rw [←Int.natCast_add,wuN (by omega)] at hn12
 subst hn12
 rw [m16,fdiv2] at hn13
 subst hn13
 rw [←Int.natCast_add,wuN (by omega)] at hn14
 subst hn14
 rw [m32,fdiv2] at hn15
 subst hn15
 rw [←Int.natCast_add,wuN (by omega)] at hn16
 subst hn16
 rw [w64 (by omega)] at hn17
 subst hn17
 rw [land127 (by exact s3)] at hn18
 have e:n18=((p0+p1+p2+p3+p4+p5+p6+p7:Nat):Int):=by
  rw [hn18]
  congr 1
  refine Eq.trans s4 ?_
  rw [Nat.mod_eq_of_lt (by omega)]
  omega
 rw [e]
 exact hk
theorem vLenS {x:Int} {k:Unit→Int × Unit→Prop} (h:oOnes (x,()) k):V.vLenS x k:=h
theorem vLowS {x:Int} {k:Unit→Int × Unit→Prop} (h:oLow (x,()) k):V.vLowS x k:=by
 obtain ⟨hx,hk⟩:=h
 simp only [] at hx hk
 unfold lowS at hk
 refine br_bool (fun h0=>?_) (fun h0=>?_)
 ·have h0:x=0:=by simpa using h0
  rw [if_pos h0] at hk;exact hk
 ·have h0:x≠0:=by simpa using h0
  rw [if_neg h0] at hk;exact ⟨hx,hk⟩
theorem vHas {x n:Int} {k:Unit→Bool × Unit→Prop} (h:oHas (x,n,()) k):V.vHas x n k:=by
 obtain ⟨hx,hk⟩:=h
 simp only [] at hx hk
 obtain ⟨a,ha,rfl⟩:=U64.ex hx
 unfold hasB at hk
 refine br_dec (fun h0=>br_dec (fun h1=>⟨h0,fun n1 hn1 n2 hn2=>?_⟩) (fun h1=>?_)) (fun h0=>?_)
 ·obtain ⟨m,rfl⟩:=Int.eq_ofNat_of_zero_le h0
  rw [Int.toNat_natCast,show min m 64=m by omega,fdiv2] at hn1
  subst hn1
  have hlt:a/2^m<18446744073709551616:=Nat.lt_of_le_of_lt (Nat.div_le_self _ _) ha
  rw [show (1:Int)=((1:Nat):Int) from rfl,landU hlt (by decide),Nat.and_one_is_mod] at hn2
  subst hn2
  have e:(((a/2^m%2:Nat):Int)==1)=a.testBit m:=by
   rw [Nat.testBit_eq_decide_div_mod_eq]
   generalize a/2^m%2=q
   by_cases h:q=1
   ·simp [h]
   ·have h2:(q:Int)≠1:=by omega
    simp [h,h2]
  rw [e]
  have h1:(m:Int)<64:=h1
  simp only [Int.toNat_natCast,decide_eq_true h0,decide_eq_true h1,Bool.true_and] at hk
  exact hk
 ·simp only [decide_eq_false h1,Bool.and_false,Bool.false_and] at hk;exact hk
 ·simp only [decide_eq_false h0,Bool.false_and] at hk;exact hk
theorem pow_lt {m:Nat} (h:m<64):2^m<18446744073709551616:=Nat.pow_lt_pow_right (a:=2) (by decide) (show m<64 from h)
theorem shl1 {m:Nat} (h:m<64):IntKind.u64.wrap (1*2^(min (Int.toNat (m:Int)) 64))=((2^m:Nat):Int):=by
 rw [Int.toNat_natCast,show min m 64=m by omega,Int.one_mul,show ((2:Int)^m)=((2^m:Nat):Int) by simp]
 exact wuN (pow_lt h)
theorem vWith {x n:Int} {k:Unit→Int × Unit→Prop} (h:oWith (x,n,()) k):V.vWith x n k:=by
 obtain ⟨hx,hk⟩:=h
 simp only [] at hx hk
 obtain ⟨a,ha,rfl⟩:=U64.ex hx
 unfold withS at hk
 refine br_dec (fun h0=>?_) (fun h0=>br_dec (fun h1=>?_) (fun h1=>⟨by omega,fun n1 hn1 n2 hn2=>?_⟩))
 ·rw [if_pos (.inl h0)] at hk;exact hk
 ·rw [if_pos (.inr h1)] at hk;exact hk
 ·rw [if_neg (by omega)] at hk
  obtain ⟨m,rfl⟩:=Int.eq_ofNat_of_zero_le (show 0≤n by omega)
  rw [shl1 (by omega)] at hn1
  subst hn1
  rw [lorU ha (pow_lt (by omega))] at hn2
  subst hn2
  simpa using hk
theorem vWithout {x n:Int} {k:Unit→Int × Unit→Prop} (h:oWithout (x,n,()) k):V.vWithout x n k:=by
 obtain ⟨hx,hk⟩:=h
 simp only [] at hx hk
 obtain ⟨a,ha,rfl⟩:=U64.ex hx
 unfold withoutS at hk
 refine br_dec (fun h0=>?_) (fun h0=>br_dec (fun h1=>?_) (fun h1=>⟨by omega,fun n1 hn1 n2 hn2=>?_⟩))
 ·rw [if_pos (.inl h0)] at hk;exact hk
 ·rw [if_pos (.inr h1)] at hk;exact hk
 ·rw [if_neg (by omega)] at hk
  obtain ⟨m,rfl⟩:=Int.eq_ofNat_of_zero_le (show 0≤n by omega)
  rw [shl1 (by omega)] at hn1
  subst hn1
  rw [landnU ha (pow_lt (by omega))] at hn2
  subst hn2
  rw [Int.toNat_natCast] at hk
  unfold minusS at hk
  rw [Int.toNat_natCast,Int.toNat_natCast] at hk
  exact hk
theorem vAllS {n:Int} {k:Unit→Int × Unit→Prop} (h:oAllS (n,()) k):V.vAllS n k:=by
 have hk:k () (allS n,()):=h
 unfold allS at hk
 refine br_dec (fun h0=>?_) (fun h0=>br_dec (fun h1=>?_) (fun h1=>⟨by omega,fun n1 hn1 n2 hn2=>?_⟩))
 ·rw [if_pos h0] at hk;exact hk
 ·rw [if_neg h0,if_pos h1] at hk;exact hk
 ·rw [if_neg h0,if_neg h1] at hk
  obtain ⟨m,rfl⟩:=Int.eq_ofNat_of_zero_le (show 0≤n by omega)
  rw [shl1 (by omega)] at hn1
  subst hn1
  have hp:=pow_lt (show m<64 by omega)
  have h1:1≤2^m:=Nat.one_le_two_pow
  rw [show (((2^m:Nat):Int)-1)=((2^m-1:Nat):Int) by omega,wuN (by omega)] at hn2
  subst hn2
  simpa using hk
theorem U64_with {x n:Int} (h:U64 x):U64 (withS x n):=by
 obtain ⟨a,ha,rfl⟩:=U64.ex h
 unfold withS
 split
 ·exact h
 ·exact U64.nat (Nat.or_lt_two_pow (n:=64) (by simpa using ha) (Nat.pow_lt_pow_right (a:=2) (by decide) (by omega)))
theorem U64_minus {x y:Int} (h:U64 x):U64 (minusS x y):=by
 obtain ⟨a,ha,rfl⟩:=U64.ex h
 unfold minusS
 exact U64.nat (minus_lt (by simpa using ha))
theorem U64_union {x y:Int} (h:U64 x) (h':U64 y):U64 (unionS x y):=by
 obtain ⟨a,ha,rfl⟩:=U64.ex h
 obtain ⟨b,hb,rfl⟩:=U64.ex h'
 unfold unionS
 exact U64.nat (Nat.or_lt_two_pow (n:=64) (by simpa using ha) (by simpa using hb))
theorem U64_without {x n:Int} (h:U64 x):U64 (withoutS x n):=by
 unfold withoutS
 split
 ·exact h
 ·exact U64_minus h
theorem U64_firstN: ∀{n:Nat} {out s:Int},U64 out→U64 (firstN n out s)
 |0,_,_,h=>h
 |n+1,out,s,h=>by
  simp only [firstN]
  exact U64_firstN (U64_with h)
theorem U64_first {s n:Int}:U64 (firstS s n).1:=by
 unfold firstS
 split
 ·exact U64.zero
 ·exact U64_firstN U64.zero
theorem popN_le (x:Nat): ∀n,popN x n≤n
 |0=>Nat.le_refl _
 |n+1=>by
  have:=popN_le x n
  simp only [popN]
  split<;>omega
theorem lenS_le (x:Int):0≤lenS x∧lenS x≤64:=by
 have:=popN_le x.toNat 64
 unfold lenS
 omega
theorem vFirst {x n:Int} {k:Unit→Int × Bool × Unit→Prop} (h:oFirst (x,n,()) k):V.vFirst x n k:=by
 obtain ⟨hx,hk⟩:=h
 simp only [] at hx hk
 unfold firstS at hk
 refine br_dec (fun h0=>?_) (fun h0=>⟨hx,br_dec (fun h1=>?_) (fun h1=>?_)⟩)
 ·rw [if_pos (.inl h0)] at hk;exact hk
 ·rw [if_pos (.inr h1)] at hk;exact hk
 ·rw [if_neg (by omega)] at hk
  have hle:=lenS_le x
  refine ⟨fun y=>y.2.2.1=n∧0≤y.2.2.2∧y.2.2.2≤n∧U64 y.1∧U64 y.2.1∧firstN (n-y.2.2.2).toNat y.2.1 y.1=firstN n.toNat 0 x,fun y=>(n-y.2.2.2).toNat,(x,0,n,0),⟨rfl,Int.le_refl _,by simp only [];omega,hx,U64.zero,by simp⟩,⟨⟨rfl,rfl,rfl,rfl,trivial⟩,trivial⟩,?_⟩
  rintro ⟨s,out,n',i⟩ ⟨g1,g2,g3,g4,g5,g6⟩
  simp only [] at g1 g2 g3 g4 g5 g6
  subst g1
  dsimp only
  refine br_dec (fun hi=>⟨g4,g5,g4,fun m hm=>?_⟩) (fun hi=>?_)
  ·rw [w64 (by omega)] at hm
   subst hm
   refine ⟨(withoutS s (lowS s),withS out (lowS s),n',i+1),⟨rfl,by simp only [];omega,by simp only [];omega,U64_without g4,U64_with g5,?_⟩,⟨⟨rfl,rfl,rfl,rfl,trivial⟩,trivial⟩,by simp only [];omega⟩
   simp only []
   rw [←g6,show (n'-i).toNat=(n'-(i+1)).toNat+1 by omega]
   rfl
  ·rw [show (n'-i).toNat=0 by omega] at g6
   simp only [firstN] at g6
   rw [←g6] at hk
   exact hk
end Go.Ax.O
