import Derived.Test.YtnoinchifbckcaaGreatDoorAxO14
import Derived.Test.YtnoinchifbckcaaGreatDoorAxS9
set_option linter.all false
namespace Go.Ax.O
open Go.Ax.Sp Go.Ax.Law
theorem ins_grow {α:Type} {l sp W R T:List α} {x:α} {i:Nat} (hi:i≤l.length):
  List.take (l.length+1) (List.take (i+1) (List.take i (List.take i (l++sp)++R)++([x]++W))++(l.drop i++T))=l.take i++[x]++l.drop i:=by
 have e1:List.take i (l++sp)=l.take i:=List.take_append_of_le_length hi
 have hl:(l.take i).length=i:=by simp;omega
 have e2:List.take i (l.take i++R)=l.take i:=by rw [List.take_append_of_le_length (by omega),List.take_of_length_le (by omega)]
 have e3:List.take (i+1) (l.take i++([x]++W))=l.take i++[x]:=by
  rw [←List.append_assoc,List.take_append_of_le_length (by simp;omega),List.take_of_length_le (by simp;omega)]
 rw [e1,e2,e3,←List.append_assoc,List.take_append_of_le_length (by simp;omega),List.take_of_length_le (by simp;omega)]
theorem ins_place {α:Type} {l sp W:List α} {x:α} {i:Nat} (hi:i<l.length):
  List.take (l.length+1) (List.take i (List.take (i+1) (l++sp)++(l.drop i++W))++([x]++List.drop (i+1) (List.take (i+1) (l++sp)++(l.drop i++W))))=l.take i++[x]++l.drop i:=by
 have hl:(List.take (i+1) (l++sp)).length=i+1:=by simp;omega
 have e1:List.take i (List.take (i+1) (l++sp)++(l.drop i++W))=l.take i:=by
  rw [List.take_append_of_le_length (by omega),List.take_take,show min i (i+1)=i by omega,List.take_append_of_le_length (by omega)]
 have e2:List.drop (i+1) (List.take (i+1) (l++sp)++(l.drop i++W))=l.drop i++W:=by
  rw [List.drop_append_of_le_length (by omega),List.drop_of_length_le (by omega),List.nil_append]
 rw [e1,e2,show l.take i++([x]++(l.drop i++W))=(l.take i++[x]++l.drop i)++W by simp,List.take_append_of_le_length (by simp;omega),List.take_of_length_le (by simp;omega)]
theorem vInsT {l:List Step} {i:Int} {s:List Step} {k:List Step × Unit→List Step × Unit→Prop} (h:oInsT (l,i,s,()) k):V.vInsT l i s k:=by
 obtain ⟨⟨h1,h2,h3,h4⟩,hk⟩:=h
 have h1:(0:Int)<i:=h1
 have h2:i≤(l.length:Int):=h2
 have h3:l.length≤8589934592:=h3
 obtain ⟨x,rfl⟩: ∃x,s=[x]:=List.length_eq_one_iff.1 h4
 obtain ⟨i,rfl⟩:=Int.eq_ofNat_of_zero_le (show 0≤i by omega)
 have hk:k ([x],()) (l.take i++[x]++l.drop i,()):=hk
 refine ⟨⟨by omega,h2,by omega⟩,br_bool (fun hs=>by simp at hs) (fun _=>br_bool (fun hi=>?_) (fun hi n hn sp=>br_dec (fun hc=>?_) (fun hc=>?_)))⟩
 ·have hi:i=l.length:=by
   have:(i:Int)=l.length:=by simpa using hi
   omega
  subst hi
  refine ⟨by simp,by simp,by simp;omega,rfl,by simp,?_⟩
  have e:List.take (l.length+1) (l++[x])=l++[x]:=List.take_of_length_le (by simp)
  simpa [e] using hk
 ·have hi:i<l.length:=by
   have:(i:Int)≠l.length:=by simpa using hi
   omega
  have hn:n=(l.length:Int)+1:=by rw [hn];exact w64 (by simp;omega)
  subst hn
  simp only [Nat.sub_zero] at hc
  refine ⟨⟨by decide,by omega,by simp;omega⟩,fun n hn n1 hn1=>?_⟩
  have hn:n=(l.length:Int)+1:=by rw [hn];exact w64 (by simp;omega)
  subst hn
  rw [w64 (by omega)] at hn1
  obtain ⟨c,hc'⟩: ∃c:Nat,c=l.length+1-i:=⟨_,rfl⟩
  have hn1:n1=(c:Int):=by rw [hn1];omega
  subst hn1
  simp only [Int.toNat_natCast,Int.toNat_zero,Nat.zero_add,Nat.add_zero,Nat.sub_zero,List.drop_zero,List.length_singleton,List.take_length] at hc ⊢
  refine ⟨⟨trivial,by simp;omega,by omega,by omega,by omega,by omega⟩,⟨by omega,by omega,by simp;omega⟩,by omega,by simp;omega,fun m hm n hn=>?_⟩
  have hm:m=1:=by rw [hm];simp;omega
  subst hm
  have hn:n=((i+1:Nat):Int):=by rw [hn];rw [w64 (by simp;omega)];simp
  subst hn
  simp only [Int.toNat_natCast,List.take_one,List.head?_cons,Option.toList_some]
  have e1:i+c=l.length+1:=by omega
  have e2:List.take (l.length-i) (List.drop i (l++sp))=l.drop i:=by
   rw [List.drop_append_of_le_length (by omega),List.take_append_of_le_length (by simp),List.take_of_length_le (by simp)]
  refine ⟨⟨by omega,by omega,?_⟩,⟨by omega,by omega,by simp;omega⟩,⟨by simp;omega,?_,fun m hm=>?_⟩,trivial⟩
  ·simp;omega
  ·simp;omega
  ·rw [e2] at hm ⊢
   have hm:m=l.length-i:=by rw [hm];simp;omega
   subst hm
   refine ⟨trivial,by simp;omega,?_⟩
   rw [e1,List.take_of_length_le (show (l.drop i).length≤l.length-i by simp),ins_grow (by omega)]
   exact hk
 ·have hi:i<l.length:=by
   have:(i:Int)≠l.length:=by simpa using hi
   omega
  have hn:n=(l.length:Int)+1:=by rw [hn];exact w64 (by simp;omega)
  subst hn
  simp only [Nat.sub_zero] at hc
  intro n hn
  have hn:n=((l.length+1:Nat):Int):=by rw [hn];rw [w64 (by simp;omega)];simp
  subst hn
  refine ⟨⟨by decide,by omega,by simp;omega⟩,fun n1 hn1=>?_⟩
  have hn1:n1=((i+1:Nat):Int):=by rw [hn1];rw [w64 (by simp;omega)];simp
  subst hn1
  simp only [Int.toNat_natCast,Int.toNat_zero,Nat.zero_add,Nat.add_zero,Nat.sub_zero,List.drop_zero,List.length_singleton,List.take_one,List.head?_cons,Option.toList_some] at hc ⊢
  refine ⟨⟨by omega,by omega,by simp;omega⟩,⟨by omega,by omega,by omega⟩,fun n2 hn2=>?_⟩
  have hn2:n2=((i+1:Nat):Int):=by rw [hn2];rw [w64 (by simp;omega)];simp
  subst hn2
  simp only [Int.toNat_natCast]
  refine ⟨⟨by omega,by omega,by simp;omega⟩,⟨by omega,by omega,by simp;omega⟩,⟨by simp;omega,by simp;omega,fun m hm=>?_⟩,trivial⟩
  have hm:m=l.length-i:=by rw [hm];simp;omega
  subst hm
  have e2:List.take (l.length-i) (List.take (l.length+1-i) (List.drop i (l++sp)))=l.drop i:=by
   rw [List.take_take,show min (l.length-i) (l.length+1-i)=l.length-i by omega,List.drop_append_of_le_length (by omega),List.take_append_of_le_length (by simp),List.take_of_length_le (by simp)]
  rw [e2]
  refine ⟨⟨by omega,by omega,by simp;omega⟩,by omega,by simp;omega,fun m hm=>?_⟩
  have hm:m=1:=by rw [hm];exact Nat.min_eq_left (by omega)
  subst hm
  refine ⟨trivial,by simp;omega,?_⟩
  rw [List.take_of_length_le (show [x].length≤1 by simp),ins_place hi]
  exact hk
theorem vSplit {p:Prof} {t:Int} {k:Prof × Unit→Int × Unit→Prop} (h:oSplit (p,t,()) k):V.vSplit p t k:=by
 obtain ⟨⟨hp,ht⟩,hk⟩:=h
 simp only [] at hp ht hk
 have hlt:=idx_lt hp.1 t
 have hlen:=hp.2.2
 unfold V.vSplit
 simp only [Int.toNat_natCast,Nat.zero_add,td]
 refine ⟨hp,⟨by omega,by omega⟩,hlt,fun e he=>br_bool (fun hb=>?_) (fun hb n hn=>⟨⟨by omega,by omega⟩,hlt,fun e2 he2=>?_⟩)⟩
 ·have hb:e.At=t:=by simpa using hb
  have e1:splitL p.steps t=p.steps:=by simp [splitL,he,hb]
  have e2:splitAt p.steps t=idxL p.steps t:=by simp [splitAt,he,hb]
  rw [e1,e2] at hk
  exact ⟨Nat.le_refl _,hk⟩
 ·have hb:e.At≠t:=by simpa using hb
  rw [he] at he2;cases he2
  have e1:splitL p.steps t=p.steps.take (idxL p.steps t+1)++⟨t,e.Free⟩::p.steps.drop (idxL p.steps t+1):=by simp [splitL,he,hb]
  have e2:splitAt p.steps t=idxL p.steps t+1:=by simp [splitAt,he,hb]
  rw [e1,e2] at hk
  have hn:n=((idxL p.steps t+1:Nat):Int):=by rw [hn,w64 (by omega)];simp
  subst hn
  refine ⟨⟨⟨trivial,trivial,⟨by omega,by omega,by omega,trivial⟩,fun m hm=>⟨Nat.le_refl _,?_⟩,trivial⟩,trivial⟩,trivial⟩
  have hm:m=((idxL p.steps t+1:Nat):Int):=by rw [hm,w64 (by omega)];simp
  subst hm
  rw [Int.toNat_natCast]
  simpa using hk
theorem join_drop {l:List Step} {i:Nat} {a b:Step} (ha:l[i]? =some a) (hb:l[i+1]? =some b) (he:b.Free=a.Free):joinL (a::l.drop (i+1))=joinL (a::l.drop (i+2)):=by
 have:l.drop (i+1)=b::l.drop (i+2):=by
  rw [List.drop_eq_getElem_cons (List.getElem?_eq_some_iff.1 hb).1,(List.getElem?_eq_some_iff.1 hb).2]
 rw [this,joinL_two,if_pos he]
theorem join_keep (a:Step) (l:List Step):joinL (a::l)=a::keepL a l:=rfl
theorem drop_cons {l:List Step} {i:Nat} {e:Step} (h:l[i]? =some e):l.drop i=e::l.drop (i+1):=by
 rw [List.drop_eq_getElem_cons (List.getElem?_eq_some_iff.1 h).1,(List.getElem?_eq_some_iff.1 h).2]
theorem take_snoc {l:List Step} {i:Nat} {e:Step} (h:l[i]? =some e):l.take (i+1)=l.take i++[e]:=by
 rw [List.take_add_one,h];rfl
theorem keep_snoc: ∀(a:Step) (l:List Step) (b c:Step),keepL a (l++[b,c])=keepL a (l++[b])++(if c.Free=b.Free then [] else [c])
 |a,[],b,c=>by
  simp only [List.nil_append,keepL]
  split<;>split<;>simp_all
 |a,d::l,b,c=>by
  simp only [List.cons_append,keepL]
  split
  ·exact keep_snoc d l b c
  ·rw [keep_snoc d l b c];rfl
theorem join_take {l:List Step} {k:Nat} {a b:Step} (hb:l[k]? =some b) (ha:l[k+1]? =some a):joinL (l.take (k+2))=if a.Free=b.Free then joinL (l.take (k+1)) else joinL (l.take (k+1))++[a]:=by
 have e1:l.take (k+1)=l.take k++[b]:=take_snoc hb
 have e2:l.take (k+2)=l.take k++[b,a]:=by rw [show k+2=(k+1)+1 from rfl,take_snoc ha,e1];simp
 rw [e1,e2]
 cases hm:l.take k with
 |nil=>
  simp only [List.nil_append]
  have j1:joinL [b]=[b]:=rfl
  have j2:joinL [a]=[a]:=rfl
  have j3:joinL [b,a]=if a.Free=b.Free then [b] else [b,a]:=by rw [joinL_two,j1,j2]
  rw [j3,j1]
  rfl
 |cons x m=>
  simp only [List.cons_append]
  rw [join_keep,join_keep,keep_snoc]
  split<;>simp
theorem vCompact {l:List Step} {k:Unit→List Step × Unit→Prop} (h:oCompact 0 (l,(),()) k):V.vCompact l k:=by
 obtain ⟨hl,h⟩:=h
 simp only [] at hl h
 refine br_dec (fun h2=>⟨by omega,?_⟩) (fun h2=>?_)
 ·have:joinL l=l:=by
   match l,h2 with
   | [],_=>rfl
   | [a],_=>rfl
   |a::b::r,h2=>simp at h2;omega
  rw [this] at h
  simpa using h
 refine ⟨fun x=>x.1=l∧1≤x.2∧x.2≤l.length∧joinL (l.take x.2.toNat)=l.take x.2.toNat,fun x=>(l.length-x.2).toNat,(l,1),⟨rfl,Int.le_refl _,by simp only [];omega,?_⟩,⟨⟨⟨rfl,rfl⟩,trivial,rfl,trivial⟩,rfl,trivial⟩,?_⟩
 ·match l,h2 with
  | [],h2=>simp at h2
  |a::r,_=>rfl
 rintro ⟨l',i⟩ ⟨h1,h3,h4,h5⟩
 simp only [] at h1 h3 h4 h5
 subst h1
 obtain ⟨i,rfl⟩:=Int.eq_ofNat_of_zero_le (show 0≤i by omega)
 obtain ⟨i,rfl⟩: ∃q,i=q+1:=⟨i-1,by omega⟩
 simp only [Int.toNat_natCast] at h5
 refine br_dec (fun hi=>⟨⟨by simp only [];omega,hi⟩,by simp only [] at hi ⊢;omega,fun e he n hn=>?_⟩) (fun hi=>⟨by simp only [];omega,?_⟩)
 ·simp only [Int.toNat_natCast,Nat.zero_add] at hi he hn
  rw [w64 (by omega)] at hn
  have hn2:n=(i:Int):=by omega
  subst hn2
  simp only [Int.toNat_natCast,Nat.zero_add]
  refine ⟨⟨by omega,by omega⟩,by omega,fun e1 he1=>⟨br_dec (fun hee=>?_) (fun hee=>?_),trivial⟩⟩
  ·have hc0:=join_take he1 he
   rw [if_pos hee] at hc0
   refine ⟨⟨by omega,by omega,by omega⟩,fun x=>x.1.length=l'.length∧(i:Int)+1≤x.2.1∧x.2.2.1=i+1∧x.2.2.2.1=l'.length-(i+1)∧1≤x.2.2.2.2∧x.2.2.2.2≤l'.length-(i+1)∧x.2.1≤(i:Int)+x.2.2.2.2∧
     x.1.take x.2.1.toNat=joinL (l'.take (i+1+x.2.2.2.2.toNat))∧ ∀q:Nat,(i:Int)+x.2.2.2.2≤q→x.1[q]? =l'[q]?,
    fun x=>(l'.length-x.2.2.2.2).toNat,(l',(i:Int)+1,i+1,l'.length-(i+1),1),⟨rfl,Int.le_refl _,rfl,rfl,Int.le_refl _,by simp only [];omega,Int.le_refl _,?_,fun _ _=>rfl⟩,⟨⟨⟨trivial,rfl⟩,trivial,rfl,⟨rfl,by simp⟩,rfl,trivial⟩,rfl,trivial⟩,?_⟩
   ·simp only []
    rw [show ((i:Int)+1).toNat=i+1 by omega,show i+1+(1:Int).toNat=i+2 by simp,hc0]
    exact h5.symm
   rintro ⟨ys,j,b0,n,q⟩ ⟨g1,g2,g3,g4,g5,g6,g7,g8,g9⟩
   simp only [] at g1 g2 g3 g4 g5 g6 g7 g8 g9
   subst g3 g4
   obtain ⟨j,rfl⟩:=Int.eq_ofNat_of_zero_le (show 0≤j by omega)
   obtain ⟨q,rfl⟩:=Int.eq_ofNat_of_zero_le (show 0≤q by omega)
   obtain ⟨q,rfl⟩: ∃p,q=p+1:=⟨q-1,by omega⟩
   simp only [Int.toNat_natCast] at g8
   refine br_dec (fun hq=>⟨⟨by simp only [];omega,hq⟩,by simp only [] at hq ⊢;omega,fun e he n hn=>?_⟩) (fun hq=>?_)
   ·simp only [Int.toNat_natCast] at hq he hn
    rw [w64 (by omega)] at hn
    have hn2:n=(q:Int):=by omega
    subst hn2
    simp only [Int.toNat_natCast]
    refine ⟨⟨by omega,by omega⟩,by omega,fun e2 he2=>?_⟩
    rw [g9 _ (by omega)] at he he2
    have hct:=join_take (k:=i+1+q) he2 (by rw [←he];congr 1)
    refine ⟨br_not (fun hne=>?_) (fun heq=>?_),trivial⟩
    ·have hne: ¬ e.Free=e2.Free:=by simpa using hne
     refine ⟨⟨by omega,by omega⟩,by omega,fun e3 he3=>⟨⟨by omega,by omega⟩,by omega,fun e4 he4 n hn n1 hn1=>?_⟩⟩
     rw [g9 _ (by omega),he] at he3
     cases he3
     rw [w64 (by omega)] at hn hn1
     subst hn hn1
     refine ⟨(ys.set j e,(j:Int)+1,i+1,l'.length-(i+1),(q:Int)+1+1),⟨by simpa using g1,by simp only [];omega,rfl,rfl,by simp only [];omega,by simp only [];omega,by simp only [];omega,?_,fun p hp=>?_⟩,⟨⟨⟨trivial,by simp⟩,trivial,rfl,⟨rfl,rfl⟩,rfl,trivial⟩,rfl,trivial⟩,by simp only [];omega⟩
     ·simp only []
      have hjl:j<ys.length:=by omega
      rw [show ((j:Int)+1).toNat=j+1 by omega,show ((q:Int)+1+1).toNat=q+2 by omega,show i+1+(q+2)=i+1+q+2 by omega,hct,if_neg hne,List.take_add_one,List.getElem?_set_self hjl,List.take_set_of_le (Nat.le_refl j)]
      rw [show i+1+q+1=i+1+(q+1) by omega,←g8]
      rfl
     ·simp only [] at hp ⊢
      rw [List.getElem?_set_ne (by omega)]
      exact g9 p (by omega)
    ·have heq:e.Free=e2.Free:=by simpa using heq
     intro n hn
     rw [w64 (by omega)] at hn
     subst hn
     refine ⟨(ys,(j:Int),i+1,l'.length-(i+1),(q:Int)+1+1),⟨g1,by simp only [];omega,rfl,rfl,by simp only [];omega,by simp only [];omega,by simp only [];omega,?_,fun p hp=>g9 p (by simp only [] at hp;omega)⟩,⟨⟨⟨trivial,rfl⟩,trivial,rfl,⟨rfl,rfl⟩,rfl,trivial⟩,rfl,trivial⟩,by simp only [];omega⟩
     simp only [Int.toNat_natCast]
     rw [show ((q:Int)+1+1).toNat=q+2 by omega,show i+1+(q+2)=i+1+q+2 by omega,hct,if_pos heq,g8]
     rfl
   ·simp only [Int.toNat_natCast,Nat.zero_add] at hq ⊢
    have hqe:i+1+(q+1)=l'.length:=by omega
    rw [hqe,List.take_length] at g8
    have hjl:j≤ys.length:=by omega
    have hmin:min j ys.length=j:=by omega
    refine ⟨⟨by omega,by omega,by omega⟩,by omega,⟨by omega,by omega,by simp;omega⟩,by simp;omega,?_⟩
    have:List.take (j-Int.toNat 0) (List.drop (Int.toNat 0) (List.take j ys++(List.replicate (ys.length-j) (⟨0,0⟩:Step)++List.drop (j+(ys.length-j)) ys)))=joinL l':=by
     simp only [Int.toNat_zero,Nat.sub_zero,List.drop_zero]
     rw [List.take_append_of_le_length (by simp;omega),List.take_take,Nat.min_self,g8]
    have h0:ys.length-j=(ys.length:Int).toNat-j:=by omega
    rw [←this] at h
    simpa using h
  ·intro n hn
   rw [w64 (by omega)] at hn
   subst hn
   have hc0:=join_take he1 he
   rw [if_neg hee,h5] at hc0
   refine ⟨(l',(i:Int)+1+1),⟨rfl,by simp only [];omega,by simp only [];omega,?_⟩,⟨⟨⟨trivial,rfl⟩,trivial,rfl,trivial⟩,rfl,trivial⟩,by simp only [];omega⟩
   simp only []
   rw [show ((i:Int)+1+1).toNat=i+2 by omega,hc0,List.take_add_one (i:=i+1),he]
   rfl
 ·simp only [] at hi ⊢
  rw [show i+1=l'.length by omega,List.take_length] at h5
  rw [h5] at h
  simpa using h
def addI (L:List Step) (ver n:Int) (i k:Nat) (x:List Step × Int × Int × Int × Int):Prop:=
 x.2.1=ver∧x.2.2.1=n∧x.2.2.2.2=(k:Int)∧ ∃j:Nat,x.2.2.2.1=(j:Int)∧i≤j∧j≤k∧x.1=bumpL L i j n
def addM (x:List Step × Int × Int × Int × Int):Nat:=(x.2.2.2.2-x.2.2.2.1).toNat
theorem addBody {L:List Step} {ver n':Int} {i k:Nat} (hik:i≤k) (hk:k≤L.length) (hL:L.length≤4294967300) {K:Prof × Unit→Int × Unit→Prop}
  (h:K (⟨joinL (bumpL L i k n'),wr (ver+1)⟩,()) (0,())): ∀(x:List Step × Int × Int × Int × Int),addI L ver n' i k x→
  br (decide (x.snd.snd.snd.fst<x.snd.snd.snd.snd)) (((0:Int)≤x.snd.snd.snd.fst∧x.snd.snd.snd.fst<(↑(List.length x.fst):Int))∧(0:Nat)+Int.toNat x.snd.snd.snd.fst<List.length x.fst∧ ∀(e:Step),x.fst[(0:Nat)+Int.toNat x.snd.snd.snd.fst]? =some e→ ∀(n:Int),n=IntKind.wrap IntKind.i64 (e.Free+x.snd.snd.fst)→((0:Int)≤x.snd.snd.snd.fst∧x.snd.snd.snd.fst<(↑(List.length x.fst):Int))∧(0:Nat)+Int.toNat x.snd.snd.snd.fst<List.length x.fst∧ ∀(e:Step),x.fst[(0:Nat)+Int.toNat x.snd.snd.snd.fst]? =some e→ ∀(n_3:Int),n_3=IntKind.wrap IntKind.i64 (x.snd.snd.snd.fst+(1:Int))→ ∃(y:List Step × Int × Int × Int × Int),addI L ver n' i k y∧((0:Nat)+List.length x.fst≤List.length (List.set x.fst ((0:Nat)+Int.toNat x.snd.snd.snd.fst) (Step.mk e.At n))∧((0:Nat)=(0:Nat)∧x.snd.snd.fst=y.snd.snd.fst∧n_3=y.snd.snd.snd.fst∧x.snd.snd.snd.snd=y.snd.snd.snd.snd∧True)∧Prof.mk (List.take (List.length x.fst) (List.drop (0:Nat) (List.set x.fst ((0:Nat)+Int.toNat x.snd.snd.snd.fst) (Step.mk e.At n)))) x.snd.fst=Prof.mk y.fst y.snd.fst∧True)∧addM y<addM x) (List.length x.fst≤(1099511627776:Nat)∧ ∀(n:Int),n=IntKind.wrap IntKind.i64 (x.snd.fst+(1:Int))→(0:Nat)+List.length (Law.joinL x.fst)≤List.length (Law.joinL x.fst)∧K (Prof.mk (List.take (List.length (Law.joinL x.fst)) (List.drop (0:Nat) (Law.joinL x.fst))) n,PUnit.unit) ((0:Int),PUnit.unit)):=by
 rintro ⟨ys,v,n'',j',k'⟩ ⟨g1,g2,g3,j,g4,g5,g6,g7⟩
 simp only [] at g1 g2 g3 g4 g5 g6 g7
 subst g1 g2 g3 g4 g7
 have hlen:=bump_len (n:=n'') g5 (by omega:j≤L.length)
 dsimp only
 simp only [Int.toNat_natCast,Nat.zero_add,hlen]
 refine br_dec (fun hj=>⟨⟨by omega,by omega⟩,by omega,fun e he m hm=>⟨⟨by omega,by omega⟩,by omega,fun e2 he2 q hq=>?_⟩⟩) (fun hj=>⟨by omega,fun m hm=>⟨Nat.le_refl _,?_⟩⟩)
 ·rw [he] at he2;cases he2
  rw [w64 (by omega)] at hq
  subst hq hm
  have hb:=bump_step (n:=n'') g5 (by omega) he
  refine ⟨(bumpL L i (j+1) n'',v,n'',(j:Int)+1,(k:Int)),⟨rfl,rfl,rfl,j+1,by simp,by omega,by omega,rfl⟩,⟨by simp [hlen],⟨trivial,rfl,rfl,rfl,trivial⟩,?_,trivial⟩,by unfold addM;simp only [];omega⟩
  rw [hb]
  congr 1
  rw [List.drop_zero,List.take_of_length_le (by simp [hlen])]
 ·have e:j=k:=by omega
  subst e
  rw [td]
  subst hm
  exact h
theorem vAdd {p:Prof} {t u n:Int} {k:Prof × Unit→Int × Unit→Prop} (h:oAdd (p,t,u,n,()) k):V.vAdd p t u n k:=by
 obtain ⟨⟨hp,hlen⟩,hk⟩:=h
 simp only [] at hp hlen hk
 unfold addP at hk
 unfold V.vAdd
 simp only [max_if,td]
 refine br_f (noneP_no hp) (br_dec (fun h1=>?_) (fun h1=>br_dec (fun h2=>?_) (fun h2=>br_dec (fun h3=>?_) (fun h3=>br_dec (fun h4=>?_) (fun h4=>⟨hp,br_dec (fun h5=>?_) (fun h5=>br_bool (fun h6=>?_) (fun h6=>?_))⟩)))))
 ·rw [if_pos (by omega)] at hk;exact hk
 ·rw [if_pos (by omega)] at hk;exact hk
 ·rw [if_pos (by omega)] at hk;exact hk
 ·rw [if_pos (by omega)] at hk;exact hk
 ·rw [if_neg (by omega),if_pos (.inl h5)] at hk;exact hk
 ·have h6:n=0:=by simpa using h6
  rw [if_neg (by omega),if_pos (.inr h6)] at hk;exact hk
 have h6:n≠0:=by simpa using h6
 rw [if_neg (by omega),if_neg (by omega)] at hk
 have hge:nowL p.steps≤max t (nowL p.steps):=by omega
 have hlt:max t (nowL p.steps)<u:=by omega
 generalize max t (nowL p.steps)=f at*
 have sl:=split_len hp.2.1 hp.1 hge
 have sr:=split_rising hp.2.1 hp.1 hge
 have sn:=split_ne hp.2.1 hp.1 hge
 have sw:=split_now hp.2.1 hp.1 hge
 have hu:nowL (splitL p.steps f)≤u:=by rw [sw];omega
 have sl2:=split_len sr sn hu
 obtain ⟨q1,q2,q3⟩:=add_places hp.2.1 hp.1 hge hlt
 have hso:StepsOK (splitL p.steps f):=⟨sn,sr,by omega⟩
 refine br_dec (fun h7=>⟨hp,fun m hm=>br_dec (fun h8=>?e1) (fun h8=>br_dec (fun h9=>absurd h9 (by omega)) (fun h9=>?t1))⟩) (fun h7=>br_dec (fun h9=>⟨hp,fun m hm=>br_dec (fun h8=>?e2) (fun h8=>?t2)⟩) (fun h9=>absurd h9 (by omega)))
 case e1=>
  rw [w64 (by omega)] at hm
  rw [if_pos (.inl ⟨h7,by omega⟩)] at hk
  exact hk
 case e2=>
  rw [w64 (by omega)] at hm
  rw [if_pos (.inr ⟨by omega,by omega⟩)] at hk
  exact hk
 all_goals
  rw [w64 (by omega)] at hm
  rw [if_neg (by omega)] at hk
  unfold addL at hk
  simp only [] at hk
  refine ⟨⟨hp,hge⟩,br_dec (fun h10=>?_) (fun h10=>?_)⟩
  ·rw [if_pos h10] at hk
   have hb:=addBody (ver:=p.ver) (n':=n) q1 q2 (by omega) hk
   simp only [td] at hb
   exact ⟨by omega,⟨hso,hu⟩,addI (splitL (splitL p.steps f) u) p.ver n (splitAt p.steps f) (splitAt (splitL p.steps f) u),addM,(splitL (splitL p.steps f) u,p.ver,n,(splitAt p.steps f:Nat),(splitAt (splitL p.steps f) u:Nat)),⟨rfl,rfl,rfl,_,rfl,Nat.le_refl _,q1,bump_same.symm⟩,⟨⟨trivial,rfl,rfl,rfl,trivial⟩,rfl,trivial⟩,hb⟩
  ·rw [if_neg h10] at hk
   have hb:=addBody (ver:=p.ver) (n':=n) q3 (Nat.le_refl _) (by omega) hk
   simp only [td] at hb
   exact ⟨addI (splitL p.steps f) p.ver n (splitAt p.steps f) (splitL p.steps f).length,addM,(splitL p.steps f,p.ver,n,(splitAt p.steps f:Nat),((splitL p.steps f).length:Nat)),⟨rfl,rfl,rfl,_,rfl,Nat.le_refl _,q3,bump_same.symm⟩,⟨by omega,⟨trivial,rfl,rfl,rfl,trivial⟩,rfl,trivial⟩,hb⟩
theorem vAdv {p:Prof} {t:Int} {k:Prof × Unit→Int × Unit→Prop} (h:oAdv (p,t,()) k):V.vAdv p t k:=by
 obtain ⟨hp,hk⟩:=h
 simp only [] at hp hk
 have hlt:=idx_lt hp.1 t
 have hlen:=hp.2.2
 unfold advP at hk
 unfold V.vAdv
 simp only [td,Int.toNat_natCast,Int.toNat_zero,Nat.zero_add,Nat.add_zero]
 refine br_f (noneP_no hp) ⟨hp,br_dec (fun h1=>?_) (fun h1=>br_dec (fun h2=>?_) (fun h2=>⟨hp,br_bool (fun h3=>?_) (fun h3=>?_)⟩))⟩
 ·rw [if_pos (.inl h1)] at hk;exact hk
 ·rw [if_pos (.inr h2)] at hk;exact hk
 ·have h3:t=nowL p.steps:=by simpa using h3
  rw [if_neg (by omega),if_pos h3] at hk;exact hk
 ·have h3:t≠nowL p.steps:=by simpa using h3
  rw [if_neg (by omega),if_neg h3] at hk
  refine ⟨⟨Nat.le_refl _,hp,⟨by omega,by omega,by omega⟩,⟨⟨by decide,by omega⟩,hlt,fun e he n hn=>⟨by simp;omega,?_⟩⟩,trivial⟩,trivial⟩
  subst hn
  have hd:p.steps.drop (idxL p.steps t)=e::p.steps.drop (idxL p.steps t+1):=drop_cons he
  rw [hd] at hk
  simp only [] at hk
  have e2:List.take (p.steps.length-idxL p.steps t) (List.drop (idxL p.steps t) (p.steps.set (idxL p.steps t) ⟨t,e.Free⟩))=⟨t,e.Free⟩::p.steps.drop (idxL p.steps t+1):=by
   rw [List.take_of_length_le (by simp),List.drop_set,if_neg (Nat.lt_irrefl _),Nat.sub_self,hd]
   rfl
  rw [e2]
  exact hk
end Go.Ax.O
