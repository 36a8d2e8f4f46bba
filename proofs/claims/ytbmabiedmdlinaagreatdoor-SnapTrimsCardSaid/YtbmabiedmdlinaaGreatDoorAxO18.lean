import Derived.Test.YtbmabiedmdlinaaGreatDoorAxO14
import Derived.Test.YtbmabiedmdlinaaGreatDoorAxS9
set_option linter.all false
namespace Go.Ax.O
open Go.Ax.Sp Go.Ax.Law
theorem ins_grow {α:Type} {l sp W R T:List α} {x:α} {i:Nat} (hi:i≤l.length):
  List.take (l.length+1) (List.take (i+1) (List.take i (List.take i (l++sp)++R)++([x]++W))++(l.drop i++T))=l.take i++[x]++l.drop i:=by
 have e1:List.take i (l++sp)=l.take i:=List.take_append_of_le_length hi
 have hl:(l.take i).length=i:=by simp;omega
 have e2:List.take i (l.take i++R)=l.take i:=by rw [List.take_append_of_le_length (by omega),List.take_of_length_le (by omega)]
 have e3:List.take (i+1) (l.take i++([x]++W))=l.take i++[x]:=by
  rw [←List.append_assoc,List.take_append_of_le_length (by simp;omega),List.take_of_length_le (by simp;omega)]
 rw [e1,e2,e3,←List.append_assoc,List.take_append_of_le_length (by simp;omega),List.take_of_length_le (by simp;omega)]
theorem ins_place {α:Type} {l sp W:List α} {x:α} {i:Nat} (hi:i<l.length):
  List.take (l.length+1) (List.take i (List.take (i+1) (l++sp)++(l.drop i++W))++([x]++List.drop (i+1) (List.take (i+1) (l++sp)++(l.drop i++W))))=l.take i++[x]++l.drop i:=by
 have hl:(List.take (i+1) (l++sp)).length=i+1:=by simp;omega
 have e1:List.take i (List.take (i+1) (l++sp)++(l.drop i++W))=l.take i:=by
  rw [List.take_append_of_le_length (by omega),List.take_take,show min i (i+1)=i by omega,List.take_append_of_le_length (by omega)]
 have e2:List.drop (i+1) (List.take (i+1) (l++sp)++(l.drop i++W))=l.drop i++W:=by
  rw [List.drop_append_of_le_length (by omega),List.drop_of_length_le (by omega),List.nil_append]
 rw [e1,e2,show l.take i++([x]++(l.drop i++W))=(l.take i++[x]++l.drop i)++W by simp,List.take_append_of_le_length (by simp;omega),List.take_of_length_le (by simp;omega)]
theorem vInsT {l:List Step} {i:Int} {s:List Step} {k:List Step × Unit→List Step × Unit→Prop} (h:oInsT (l,i,s,()) k):V.vInsT l i s k:=by
 unfold V.vInsT V.NM V.SH V.LN
 obtain ⟨⟨h1,h2,h3,h4⟩,hk⟩:=h
 have h1:(0:Int)<i:=h1
 have h2:i≤(l.length:Int):=h2
 have h3:l.length≤8589934592:=h3
 obtain ⟨x,rfl⟩: ∃x,s=[x]:=List.length_eq_one_iff.1 h4
 obtain ⟨i,rfl⟩:=Int.eq_ofNat_of_zero_le (show 0≤i by omega)
 have hk:k ([x],()) (l.take i++[x]++l.drop i,()):=hk
 refine ⟨⟨by omega,h2,by omega⟩,br_bool (fun hs=>by simp at hs) (fun _=>br_bool (fun hi=>?_) (fun hi n hn sp=>br_dec (fun hc=>?_) (fun hc=>?_)))⟩
 ·have hi:i=l.length:=by
   have:(i:Int)=l.length:=by simpa using hi
   omega
  subst hi
  refine ⟨by simp,by simp,by simp;omega,rfl,by simp,?_⟩
  have e:List.take (l.length+1) (l++[x])=l++[x]:=List.take_of_length_le (by simp)
  simpa [e] using hk
 ·have hi:i<l.length:=by
   have:(i:Int)≠l.length:=by simpa using hi
   omega
  have hn:n=(l.length:Int)+1:=by rw [hn];exact w64 (by simp;omega)
  subst hn
  simp only [Nat.sub_zero] at hc
  refine ⟨⟨by decide,by omega,by simp;omega⟩,fun n hn n1 hn1=>?_⟩
  have hn:n=(l.length:Int)+1:=by rw [hn];exact w64 (by simp;omega)
  subst hn
  rw [w64 (by omega)] at hn1
  obtain ⟨c,hc'⟩: ∃c:Nat,c=l.length+1-i:=⟨_,rfl⟩
  have hn1:n1=(c:Int):=by rw [hn1];omega
  subst hn1
  simp only [Int.toNat_natCast,Int.toNat_zero,Nat.zero_add,Nat.add_zero,Nat.sub_zero,List.drop_zero,List.length_singleton,List.take_length] at hc ⊢
  refine ⟨⟨trivial,by simp;omega,by omega,by omega,by omega,by omega⟩,⟨by omega,by omega,by simp;omega⟩,by omega,by simp;omega,fun m hm n hn=>?_⟩
  have hm:m=1:=by rw [hm];simp;omega
  subst hm
  have hn:n=((i+1:Nat):Int):=by rw [hn];rw [w64 (by simp;omega)];simp
  subst hn
  simp only [Int.toNat_natCast,List.take_one,List.head?_cons,Option.toList_some]
  have e1:i+c=l.length+1:=by omega
  have e2:List.take (l.length-i) (List.drop i (l++sp))=l.drop i:=by
   rw [List.drop_append_of_le_length (by omega),List.take_append_of_le_length (by simp),List.take_of_length_le (by simp)]
  refine ⟨⟨by omega,by omega,?_⟩,⟨by omega,by omega,by simp;omega⟩,⟨by simp;omega,?_,fun m hm=>?_⟩,trivial⟩
  ·simp;omega
  ·simp;omega
  ·rw [e2] at hm ⊢
   have hm:m=l.length-i:=by rw [hm];simp;omega
   subst hm
   refine ⟨trivial,by simp;omega,?_⟩
   rw [e1,List.take_of_length_le (show (l.drop i).length≤l.length-i by simp),ins_grow (by omega)]
   exact hk
 ·have hi:i<l.length:=by
   have:(i:Int)≠l.length:=by simpa using hi
   omega
  have hn:n=(l.length:Int)+1:=by rw [hn];exact w64 (by simp;omega)
  subst hn
  simp only [Nat.sub_zero] at hc
  intro n hn
  have hn:n=((l.length+1:Nat):Int):=by rw [hn];rw [w64 (by simp;omega)];simp
  subst hn
  refine ⟨⟨by decide,by omega,by simp;omega⟩,fun n1 hn1=>?_⟩
  have hn1:n1=((i+1:Nat):Int):=by rw [hn1];rw [w64 (by simp;omega)];simp
  subst hn1
  simp only [Int.toNat_natCast,Int.toNat_zero,Nat.zero_add,Nat.add_zero,Nat.sub_zero,List.drop_zero,List.length_singleton,List.take_one,List.head?_cons,Option.toList_some] at hc ⊢
  refine ⟨⟨by omega,by omega,by simp;omega⟩,⟨by omega,by omega,by omega⟩,fun n2 hn2=>?_⟩
  have hn2:n2=((i+1:Nat):Int):=by rw [hn2];rw [w64 (by simp;omega)];simp
  subst hn2
  simp only [Int.toNat_natCast]
  refine ⟨⟨by omega,by omega,by simp;omega⟩,⟨by omega,by omega,by simp;omega⟩,⟨by simp;omega,by simp;omega,fun m hm=>?_⟩,trivial⟩
  have hm:m=l.length-i:=by rw [hm];simp;omega
  subst hm
  have e2:List.take (l.length-i) (List.take (l.length+1-i) (List.drop i (l++sp)))=l.drop i:=by
   rw [List.take_take,show min (l.length-i) (l.length+1-i)=l.length-i by omega,List.drop_append_of_le_length (by omega),List.take_append_of_le_length (by simp),List.take_of_length_le (by simp)]
  rw [e2]
  refine ⟨⟨by omega,by omega,by simp;omega⟩,by omega,by simp;omega,fun m hm=>?_⟩
  have hm:m=1:=by rw [hm];exact Nat.min_eq_left (by omega)
  subst hm
  refine ⟨trivial,by simp;omega,?_⟩
  rw [List.take_of_length_le (show [x].length≤1 by simp),ins_place hi]
  exact hk
theorem vSplit {p:Prof} {t:Int} {k:Prof × Unit→Int × Unit→Prop} (h:oSplit (p,t,()) k):V.vSplit p t k:=by
 obtain ⟨⟨hp,ht⟩,hk⟩:=h
 simp only [] at hp ht hk
 have hlt:=idx_lt hp.1 t
 have hlen:=hp.2.2
 unfold V.vSplit V.AT V.NM V.SH V.LN
 simp only [Int.toNat_natCast,Nat.zero_add,td]
 refine ⟨hp,⟨by omega,by omega⟩,hlt,fun e he=>br_bool (fun hb=>?_) (fun hb n hn=>⟨⟨by omega,by omega⟩,hlt,fun e2 he2=>?_⟩)⟩
 ·have hb:e.At=t:=by simpa using hb
  have e1:splitL p.steps t=p.steps:=by simp [splitL,he,hb]
  have e2:splitAt p.steps t=idxL p.steps t:=by simp [splitAt,he,hb]
  rw [e1,e2] at hk
  exact ⟨Nat.le_refl _,hk⟩
 ·have hb:e.At≠t:=by simpa using hb
  rw [he] at he2;cases he2
  have e1:splitL p.steps t=p.steps.take (idxL p.steps t+1)++⟨t,e.Free⟩::p.steps.drop (idxL p.steps t+1):=by simp [splitL,he,hb]
  have e2:splitAt p.steps t=idxL p.steps t+1:=by simp [splitAt,he,hb]
  rw [e1,e2] at hk
  have hn:n=((idxL p.steps t+1:Nat):Int):=by rw [hn,w64 (by omega)];simp
  subst hn
  refine ⟨⟨⟨trivial,trivial,⟨by omega,by omega,by omega,trivial⟩,fun m hm=>⟨Nat.le_refl _,?_⟩,trivial⟩,trivial⟩,trivial⟩
  have hm:m=((idxL p.steps t+1:Nat):Int):=by rw [hm,w64 (by omega)];simp
  subst hm
  rw [Int.toNat_natCast]
  simpa using hk
theorem join_drop {l:List Step} {i:Nat} {a b:Step} (ha:l[i]? =some a) (hb:l[i+1]? =some b) (he:b.Free=a.Free):joinL (a::l.drop (i+1))=joinL (a::l.drop (i+2)):=by
 have:l.drop (i+1)=b::l.drop (i+2):=by
  rw [List.drop_eq_getElem_cons (List.getElem?_eq_some_iff.1 hb).1,(List.getElem?_eq_some_iff.1 hb).2]
 rw [this,joinL_two,if_pos he]
theorem join_keep (a:Step) (l:List Step):joinL (a::l)=a::keepL a l:=rfl
theorem drop_cons {l:List Step} {i:Nat} {e:Step} (h:l[i]? =some e):l.drop i=e::l.drop (i+1):=by
 rw [List.drop_eq_getElem_cons (List.getElem?_eq_some_iff.1 h).1,(List.getElem?_eq_some_iff.1 h).2]
theorem take_snoc {l:List Step} {i:Nat} {e:Step} (h:l[i]? =some e):l.take (i+1)=l.take i++[e]:=by
 rw [List.take_add_one,h];rfl
theorem keep_snoc: ∀(a:Step) (l:List Step) (b c:Step),keepL a (l++[b,c])=keepL a (l++[b])++(if c.Free=b.Free then [] else [c])
 |a,[],b,c=>by
  simp only [List.nil_append,keepL]
  split<;>split<;>simp_all
 |a,d::l,b,c=>by
  simp only [List.cons_append,keepL]
  split
  ·exact keep_snoc d l b c
  ·rw [keep_snoc d l b c];rfl
theorem join_take {l:List Step} {k:Nat} {a b:Step} (hb:l[k]? =some b) (ha:l[k+1]? =some a):joinL (l.take (k+2))=if a.Free=b.Free then joinL (l.take (k+1)) else joinL (l.take (k+1))++[a]:=by
 have e1:l.take (k+1)=l.take k++[b]:=take_snoc hb
 have e2:l.take (k+2)=l.take k++[b,a]:=by rw [show k+2=(k+1)+1 from rfl,take_snoc ha,e1];simp
 rw [e1,e2]
 cases hm:l.take k with
 |nil=>
  simp only [List.nil_append]
  have j1:joinL [b]=[b]:=rfl
  have j2:joinL [a]=[a]:=rfl
  have j3:joinL [b,a]=if a.Free=b.Free then [b] else [b,a]:=by rw [joinL_two,j1,j2]
  rw [j3,j1]
  rfl
 |cons x m=>
  simp only [List.cons_append]
  rw [join_keep,join_keep,keep_snoc]
  split<;>simp
theorem vCompact {l:List Step} {k:Unit→List Step × Unit→Prop} (h:oCompact 0 (l,(),()) k):V.vCompact l k:=by
 unfold V.vCompact V.LP V.NX V.AT V.NM V.SH V.LN
 obtain ⟨hl,h⟩:=h
 simp only [] at hl h
 refine br_dec (fun h2=>⟨by omega,?_⟩) (fun h2=>?_)
 ·have:joinL l=l:=by
   match l,h2 with
   | [],_=>rfl
   | [a],_=>rfl
   |a::b::r,h2=>simp at h2;omega
  rw [this] at h
  simpa using h
 refine ⟨fun x=>x.1=l∧1≤x.2∧x.2≤l.length∧joinL (l.take x.2.toNat)=l.take x.2.toNat,fun x=>(l.length-x.2).toNat,(l,1),⟨rfl,Int.le_refl _,by simp only [];omega,?_⟩,⟨⟨⟨rfl,rfl⟩,trivial,rfl,trivial⟩,rfl,trivial⟩,?_⟩
 ·match l,h2 with
  | [],h2=>simp at h2
  |a::r,_=>rfl
 rintro ⟨l',i⟩ ⟨h1,h3,h4,h5⟩
 simp only [] at h1 h3 h4 h5
 subst h1
 obtain ⟨i,rfl⟩:=Int.eq_ofNat_of_zero_le (show 0≤i by omega)
 obtain ⟨i,rfl⟩: ∃q,i=q+1:=⟨i-1,by omega⟩
 simp only [Int.toNat_natCast] at h5
 refine br_dec (fun hi=>⟨⟨by simp only [];omega,hi⟩,by simp only [] at hi ⊢;omega,fun e he n hn=>?_⟩) (fun hi=>⟨by simp only [];omega,?_⟩)
 ·simp only [Int.toNat_natCast,Nat.zero_add] at hi he hn
  rw [w64 (by omega)] at hn
  have hn2:n=(i:Int):=by omega
  subst hn2
  simp only [Int.toNat_natCast,Nat.zero_add]
  refine ⟨⟨by omega,by omega⟩,by omega,fun e1 he1=>⟨br_dec (fun hee=>?_) (fun hee=>?_),trivial⟩⟩
  ·have hc0:=join_take he1 he
   rw [if_pos hee] at hc0
   refine ⟨⟨by omega,by omega,by omega⟩,fun x=>x.1.length=l'.length∧(i:Int)+1≤x.2.1∧x.2.2.1=i+1∧x.2.2.2.1=l'.length-(i+1)∧1≤x.2.2.2.2∧x.2.2.2.2≤l'.length-(i+1)∧x.2.1≤(i:Int)+x.2.2.2.2∧
     x.1.take x.2.1.toNat=joinL (l'.take (i+1+x.2.2.2.2.toNat))∧ ∀q:Nat,(i:Int)+x.2.2.2.2≤q→x.1[q]? =l'[q]?,
    fun x=>(l'.length-x.2.2.2.2).toNat,(l',(i:Int)+1,i+1,l'.length-(i+1),1),⟨rfl,Int.le_refl _,rfl,rfl,Int.le_refl _,by simp only [];omega,Int.le_refl _,?_,fun _ _=>rfl⟩,⟨⟨⟨trivial,rfl⟩,trivial,rfl,⟨rfl,by simp⟩,rfl,trivial⟩,rfl,trivial⟩,?_⟩
   ·simp only []
    rw [show ((i:Int)+1).toNat=i+1 by omega,show i+1+(1:Int).toNat=i+2 by simp,hc0]
    exact h5.symm
   rintro ⟨ys,j,b0,n,q⟩ ⟨g1,g2,g3,g4,g5,g6,g7,g8,g9⟩
   simp only [] at g1 g2 g3 g4 g5 g6 g7 g8 g9
   subst g3 g4
   obtain ⟨j,rfl⟩:=Int.eq_ofNat_of_zero_le (show 0≤j by omega)
   obtain ⟨q,rfl⟩:=Int.eq_ofNat_of_zero_le (show 0≤q by omega)
   obtain ⟨q,rfl⟩: ∃p,q=p+1:=⟨q-1,by omega⟩
   simp only [Int.toNat_natCast] at g8
   refine br_dec (fun hq=>⟨⟨by simp only [];omega,hq⟩,by simp only [] at hq ⊢;omega,fun e he n hn=>?_⟩) (fun hq=>?_)
   ·simp only [Int.toNat_natCast] at hq he hn
    rw [w64 (by omega)] at hn
    have hn2:n=(q:Int):=by omega
    subst hn2
    simp only [Int.toNat_natCast]
    refine ⟨⟨by omega,by omega⟩,by omega,fun e2 he2=>?_⟩
    rw [g9 _ (by omega)] at he he2
    have hct:=join_take (k:=i+1+q) he2 (by rw [←he];congr 1)
    refine ⟨br_not (fun hne=>?_) (fun heq=>?_),trivial⟩
    ·have hne: ¬ e.Free=e2.Free:=by simpa using hne
     refine ⟨⟨by omega,by omega⟩,by omega,fun e3 he3=>⟨⟨by omega,by omega⟩,by omega,fun e4 he4 n hn n1 hn1=>?_⟩⟩
     rw [g9 _ (by omega),he] at he3
     cases he3
     rw [w64 (by omega)] at hn hn1
     subst hn hn1
     refine ⟨(ys.set j e,(j:Int)+1,i+1,l'.length-(i+1),(q:Int)+1+1),⟨by simpa using g1,by simp only [];omega,rfl,rfl,by simp only [];omega,by simp only [];omega,by simp only [];omega,?_,fun p hp=>?_⟩,⟨⟨⟨trivial,by simp⟩,trivial,rfl,⟨rfl,rfl⟩,rfl,trivial⟩,rfl,trivial⟩,by simp only [];omega⟩
     ·simp only []
      have hjl:j<ys.length:=by omega
      rw [show ((j:Int)+1).toNat=j+1 by omega,show ((q:Int)+1+1).toNat=q+2 by omega,show i+1+(q+2)=i+1+q+2 by omega,hct,if_neg hne,List.take_add_one,List.getElem?_set_self hjl,List.take_set_of_le (Nat.le_refl j)]
      rw [show i+1+q+1=i+1+(q+1) by omega,←g8]
      rfl
     ·simp only [] at hp ⊢
      rw [List.getElem?_set_ne (by omega)]
      exact g9 p (by omega)
    ·have heq:e.Free=e2.Free:=by simpa using heq
     intro n hn
     rw [w64 (by omega)] at hn
     subst hn
     refine ⟨(ys,(j:Int),i+1,l'.length-(i+1),(q:Int)+1+1),⟨g1,by simp only [];omega,rfl,rfl,by simp only [];omega,by simp only [];omega,by simp only [];omega,?_,fun p hp=>g9 p (by simp only [] at hp;omega)⟩,⟨⟨⟨trivial,rfl⟩,trivial,rfl,⟨rfl,rfl⟩,rfl,trivial⟩,rfl,trivial⟩,by simp only [];omega⟩
     simp only [Int.toNat_natCast]
     rw [show ((q:Int)+1+1).toNat=q+2 by omega,show i+1+(q+2)=i+1+q+2 by omega,hct,if_pos heq,g8]
     rfl
   ·simp only [Int.toNat_natCast,Nat.zero_add] at hq ⊢
    have hqe:i+1+(q+1)=l'.length:=by omega
    rw [hqe,List.take_length] at g8
    have hjl:j≤ys.length:=by omega
    have hmin:min j ys.length=j:=by omega
    refine ⟨⟨by omega,by omega,by omega⟩,by omega,⟨by omega,by omega,by simp;omega⟩,by simp;omega,?_⟩
    have:List.take (j-Int.toNat 0) (List.drop (Int.toNat 0) (List.take j ys++(List.replicate (ys.length-j) (⟨0,0⟩:Step)++List.drop (j+(ys.length-j)) ys)))=joinL l':=by
     simp only [Int.toNat_zero,Nat.sub_zero,List.drop_zero]
     rw [List.take_append_of_le_length (by simp;omega),List.take_take,Nat.min_self,g8]
    have h0:ys.length-j=(ys.length:Int).toNat-j:=by omega
    rw [←this] at h
    simpa using h
  ·intro n hn
   rw [w64 (by omega)] at hn
   subst hn
   have hc0:=join_take he1 he
   rw [if_neg hee,h5] at hc0
   refine ⟨(l',(i:Int)+1+1),⟨rfl,by simp only [];omega,by simp only [];omega,?_⟩,⟨⟨⟨trivial,rfl⟩,trivial,rfl,trivial⟩,rfl,trivial⟩,by simp only [];omega⟩
   simp only []
   rw [show ((i:Int)+1+1).toNat=i+2 by omega,hc0,List.take_add_one (i:=i+1),he]
   rfl
 ·simp only [] at hi ⊢
  rw [show i+1=l'.length by omega,List.take_length] at h5
  rw [h5] at h
  simpa using h
def addI (L:List Step) (ver n:Int) (i k:Nat) (x:List Step × Int × Int × Int × Int):Prop:=
 x.2.1=ver∧x.2.2.1=n∧x.2.2.2.2=(k:Int)∧ ∃j:Nat,x.2.2.2.1=(j:Int)∧i≤j∧j≤k∧x.1=bumpL L i j n
def addM (x:List Step × Int × Int × Int × Int):Nat:=(x.2.2.2.2-x.2.2.2.1).toNat
theorem addBody {L:List Step} {ver n':Int} {i k:Nat} (hik:i≤k) (hk:k≤L.length) (hL:L.length≤4294967300) {K:Prof × Unit→Int × Unit→Prop}
  (h:K (⟨joinL (bumpL L i k n'),wr (ver+1)⟩,()) (0,())): ∀(x:List Step × Int × Int × Int × Int),addI L ver n' i k x→
  br (decide (x.2.2.2.1<x.2.2.2.2)) (((0:Int)≤x.2.2.2.1∧x.2.2.2.1<(↑(List.length x.1):Int))∧(0:Nat)+Int.toNat x.2.2.2.1<List.length x.1∧ ∀(e:Step),x.1[(0:Nat)+Int.toNat x.2.2.2.1]? =some e→ ∀(n:Int),n=IntKind.wrap IntKind.i64 (e.Free+x.2.2.1)→((0:Int)≤x.2.2.2.1∧x.2.2.2.1<(↑(List.length x.1):Int))∧(0:Nat)+Int.toNat x.2.2.2.1<List.length x.1∧ ∀(e:Step),x.1[(0:Nat)+Int.toNat x.2.2.2.1]? =some e→ ∀(n_3:Int),n_3=IntKind.wrap IntKind.i64 (x.2.2.2.1+(1:Int))→ ∃(y:List Step × Int × Int × Int × Int),addI L ver n' i k y∧((0:Nat)+List.length x.1≤List.length (List.set x.1 ((0:Nat)+Int.toNat x.2.2.2.1) (Step.mk e.At n))∧((0:Nat)=(0:Nat)∧x.2.2.1=y.2.2.1∧n_3=y.2.2.2.1∧x.2.2.2.2=y.2.2.2.2∧True)∧Prof.mk (List.take (List.length x.1) (List.drop (0:Nat) (List.set x.1 ((0:Nat)+Int.toNat x.2.2.2.1) (Step.mk e.At n)))) x.2.1=Prof.mk y.1 y.2.1∧True)∧addM y<addM x) (List.length x.1≤(1099511627776:Nat)∧ ∀(n:Int),n=IntKind.wrap IntKind.i64 (x.2.1+(1:Int))→(0:Nat)+List.length (Law.joinL x.1)≤List.length (Law.joinL x.1)∧K (Prof.mk (List.take (List.length (Law.joinL x.1)) (List.drop (0:Nat) (Law.joinL x.1))) n,PUnit.unit) ((0:Int),PUnit.unit)):=by
 rintro ⟨ys,v,n'',j',k'⟩ ⟨g1,g2,g3,j,g4,g5,g6,g7⟩
 simp only [] at g1 g2 g3 g4 g5 g6 g7
 subst g1 g2 g3 g4 g7
 have hlen:=bump_len (n:=n'') g5 (by omega:j≤L.length)
 dsimp only
 simp only [Int.toNat_natCast,Nat.zero_add,hlen]
 refine br_dec (fun hj=>⟨⟨by omega,by omega⟩,by omega,fun e he m hm=>⟨⟨by omega,by omega⟩,by omega,fun e2 he2 q hq=>?_⟩⟩) (fun hj=>⟨by omega,fun m hm=>⟨Nat.le_refl _,?_⟩⟩)
 ·rw [he] at he2;cases he2
  rw [w64 (by omega)] at hq
  subst hq hm
  have hb:=bump_step (n:=n'') g5 (by omega) he
  refine ⟨(bumpL L i (j+1) n'',v,n'',(j:Int)+1,(k:Int)),⟨rfl,rfl,rfl,j+1,by simp,by omega,by omega,rfl⟩,⟨by simp [hlen],⟨trivial,rfl,rfl,rfl,trivial⟩,?_,trivial⟩,by unfold addM;simp only [];omega⟩
  rw [hb]
  congr 1
  rw [List.drop_zero,List.take_of_length_le (by simp [hlen])]
 ·have e:j=k:=by omega
  subst e
  rw [td]
  subst hm
  exact h
theorem vAdd {p:Prof} {t u n:Int} {k:Prof × Unit→Int × Unit→Prop} (h:oAdd (p,t,u,n,()) k):V.vAdd p t u n k:=by
 obtain ⟨⟨hp,hlen⟩,hk⟩:=h
 simp only [] at hp hlen hk
 unfold addP at hk
 unfold V.vAdd V.LP V.NX V.AT V.NM V.SH V.LN
 simp only [max_if,td]
 refine br_f (noneP_no hp) (br_dec (fun h1=>?_) (fun h1=>br_dec (fun h2=>?_) (fun h2=>br_dec (fun h3=>?_) (fun h3=>br_dec (fun h4=>?_) (fun h4=>⟨hp,br_dec (fun h5=>?_) (fun h5=>br_bool (fun h6=>?_) (fun h6=>?_))⟩)))))
 ·rw [if_pos (by omega)] at hk;exact hk
 ·rw [if_pos (by omega)] at hk;exact hk
 ·rw [if_pos (by omega)] at hk;exact hk
 ·rw [if_pos (by omega)] at hk;exact hk
 ·rw [if_neg (by omega),if_pos (.inl h5)] at hk;exact hk
 ·have h6:n=0:=by simpa using h6
  rw [if_neg (by omega),if_pos (.inr h6)] at hk;exact hk
 have h6:n≠0:=by simpa using h6
 rw [if_neg (by omega),if_neg (by omega)] at hk
 have hge:nowL p.steps≤max t (nowL p.steps):=by omega
 have hlt:max t (nowL p.steps)<u:=by omega
 generalize max t (nowL p.steps)=f at*
 have sl:=split_len hp.2.1 hp.1 hge
 have sr:=split_rising hp.2.1 hp.1 hge
 have sn:=split_ne hp.2.1 hp.1 hge
 have sw:=split_now hp.2.1 hp.1 hge
 have hu:nowL (splitL p.steps f)≤u:=by rw [sw];omega
 have sl2:=split_len sr sn hu
 obtain ⟨q1,q2,q3⟩:=add_places hp.2.1 hp.1 hge hlt
 have hso:StepsOK (splitL p.steps f):=⟨sn,sr,by omega⟩
 refine br_dec (fun h7=>⟨hp,fun m hm=>br_dec (fun h8=>?e1) (fun h8=>br_dec (fun h9=>absurd h9 (by omega)) (fun h9=>?t1))⟩) (fun h7=>br_dec (fun h9=>⟨hp,fun m hm=>br_dec (fun h8=>?e2) (fun h8=>?t2)⟩) (fun h9=>absurd h9 (by omega)))
 case e1=>
  rw [w64 (by omega)] at hm
  rw [if_pos (.inl ⟨h7,by omega⟩)] at hk
  exact hk
 case e2=>
  rw [w64 (by omega)] at hm
  rw [if_pos (.inr ⟨by omega,by omega⟩)] at hk
  exact hk
 all_goals
  rw [w64 (by omega)] at hm
  rw [if_neg (by omega)] at hk
  unfold addL at hk
  simp only [] at hk
  refine ⟨⟨hp,hge⟩,br_dec (fun h10=>?_) (fun h10=>?_)⟩
  ·rw [if_pos h10] at hk
   have hb:=addBody (ver:=p.ver) (n':=n) q1 q2 (by omega) hk
   simp only [td] at hb
   exact ⟨by omega,⟨hso,hu⟩,addI (splitL (splitL p.steps f) u) p.ver n (splitAt p.steps f) (splitAt (splitL p.steps f) u),addM,(splitL (splitL p.steps f) u,p.ver,n,(splitAt p.steps f:Nat),(splitAt (splitL p.steps f) u:Nat)),⟨rfl,rfl,rfl,_,rfl,Nat.le_refl _,q1,bump_same.symm⟩,⟨⟨trivial,rfl,rfl,rfl,trivial⟩,rfl,trivial⟩,hb⟩
  ·rw [if_neg h10] at hk
   have hb:=addBody (ver:=p.ver) (n':=n) q3 (Nat.le_refl _) (by omega) hk
   simp only [td] at hb
   exact ⟨addI (splitL p.steps f) p.ver n (splitAt p.steps f) (splitL p.steps f).length,addM,(splitL p.steps f,p.ver,n,(splitAt p.steps f:Nat),((splitL p.steps f).length:Nat)),⟨rfl,rfl,rfl,_,rfl,Nat.le_refl _,q3,bump_same.symm⟩,⟨by omega,⟨trivial,rfl,rfl,rfl,trivial⟩,rfl,trivial⟩,hb⟩
theorem vAdv {p:Prof} {t:Int} {k:Prof × Unit→Int × Unit→Prop} (h:oAdv (p,t,()) k):V.vAdv p t k:=by
 obtain ⟨hp,hk⟩:=h
 simp only [] at hp hk
 have hlt:=idx_lt hp.1 t
 have hlen:=hp.2.2
 unfold advP at hk
 unfold V.vAdv V.NM V.SH V.LN
 simp only [td,Int.toNat_natCast,Int.toNat_zero,Nat.zero_add,Nat.add_zero]
 refine br_f (noneP_no hp) ⟨hp,br_dec (fun h1=>?_) (fun h1=>br_dec (fun h2=>?_) (fun h2=>⟨hp,br_bool (fun h3=>?_) (fun h3=>?_)⟩))⟩
 ·rw [if_pos (.inl h1)] at hk;exact hk
 ·rw [if_pos (.inr h2)] at hk;exact hk
 ·have h3:t=nowL p.steps:=by simpa using h3
  rw [if_neg (by omega),if_pos h3] at hk;exact hk
 ·have h3:t≠nowL p.steps:=by simpa using h3
  rw [if_neg (by omega),if_neg h3] at hk
  refine ⟨⟨Nat.le_refl _,hp,⟨by omega,by omega,by omega⟩,⟨⟨by decide,by omega⟩,hlt,fun e he n hn=>⟨by simp;omega,?_⟩⟩,trivial⟩,trivial⟩
  subst hn
  have hd:p.steps.drop (idxL p.steps t)=e::p.steps.drop (idxL p.steps t+1):=drop_cons he
  rw [hd] at hk
  simp only [] at hk
  have e2:List.take (p.steps.length-idxL p.steps t) (List.drop (idxL p.steps t) (p.steps.set (idxL p.steps t) ⟨t,e.Free⟩))=⟨t,e.Free⟩::p.steps.drop (idxL p.steps t+1):=by
   rw [List.take_of_length_le (by simp),List.drop_set,if_neg (Nat.lt_irrefl _),Nat.sub_self,hd]
   rfl
  rw [e2]
  exact hk
end Go.Ax.O
namespace Go.Ax.Law
theorem get_cases (l:List Job) (n:Int):((n<1∨(l.length:Int)<n)∧getJ l n=(job0,7)∧ ∀st f,atJ l n st f=(7,l))∨
    ∃(i:Nat) (j:Job),n=(i:Int)+1∧i<l.length∧l[i]? =some j∧getJ l n=(j,0)∧ ∀st f,atJ l n st f=if st.contains j.State then (0,l.set i (f j)) else (8,l):=by
  by_cases h:n<1∨(l.length:Int)<n
  · exact .inl ⟨h,by simp only [getJ,if_pos h],fun st f=>by simp only [atJ,if_pos h]⟩
  · right
    obtain ⟨i,hi⟩:=Int.eq_ofNat_of_zero_le (show 0≤n-1 by omega)
    have hl:i<l.length:=by omega
    have hs:l[(n-1).toNat]? =some l[i]:=by rw [hi];exact List.getElem?_eq_getElem hl
    have hn:(n-1).toNat=i:=by rw [hi];rfl
    refine ⟨i,l[i],by omega,hl,List.getElem?_eq_getElem hl,by simp only [getJ,if_neg h,hs],fun st f=>by simp only [atJ,if_neg h,hn,List.getElem?_eq_getElem hl]⟩
theorem set_get {l:List Job} {i:Nat} {a e:Job} (hi:i<l.length) (h:(l.set i a)[i]? =some e):e=a:=by
  rw [List.getElem?_set_self hi] at h;cases h;rfl
theorem noneJ_no {t:Jobs} (h:JW t):noneJ (some t)=false:=by simp [noneJ,h.1]
theorem inJ_len (l:List Job) (st:List Int):(inJ l st).length≤l.length:=List.length_filter_le _ _
theorem inJ_mem {l:List Job} {st:List Int} {j:Job} (h:j∈inJ l st):j∈l∧st.contains j.State=true:=List.mem_filter.1 h
theorem ids_mem {l:List Job} (h:IdsOK l) {j:Job} (hj:j∈l):1≤j.Id∧j.Id≤l.length∧U64 j.Nodes:=by
  obtain ⟨i,hi⟩:=List.getElem?_of_mem hj
  have:=(List.getElem?_eq_some_iff.1 hi).1
  obtain ⟨h1,h2⟩:=h i j hi
  exact ⟨by omega,by omega,h2⟩
theorem in_small {t:Jobs} (h:JW t) (st:List Int):SmallJs (inJ t.jobs st):=by
  refine ⟨fun j hj=>?_,by have:=inJ_len t.jobs st;have:=h.2.1;omega⟩
  obtain ⟨a,b,_⟩:=ids_mem h.2.2 (inJ_mem hj).1
  have:=h.2.1
  omega
theorem sort_perm (l:List Job):(sortJ l).Perm l:=List.mergeSort_perm l _
theorem sort_len (l:List Job):(sortJ l).length=l.length:=List.length_mergeSort _
end Go.Ax.Law
namespace Go.Ax.O
open Go.Ax.Sp Go.Ax.Law
theorem vCloneB {l:List Job} {k:Unit→List Job × Unit→Prop} (h:oCloneB (l,()) k):V.vCloneB l k:=by
  obtain ⟨hl,hk⟩:=h
  simp only [] at hl hk
  intro b hb
  refine br_bool (fun h=>?_) (fun _=>⟨Nat.le_refl _,by omega,by simp,hk⟩)
  have:l=[]:=by
    cases l with
    |nil=>rfl
    |cons a r=>rw [hb (by simp)] at h;cases h
  subst this;exact hk
theorem vNoneJ {t:Jobs} {k:Unit→Bool × Unit→Prop} (h:oNoneJ (some t,()) k):V.vNoneJ t k:=h
theorem vNoneJN {k:Unit→Bool × Unit→Prop} (h:oNoneJ (none,()) k):V.vNoneJN k:=h
theorem vNewJ {u:Unit} {k:Unit→Jobs × Unit→Prop} (h:oNewJ u k):V.vNewJ u k:=h
theorem vAllJ {t:Jobs} {k:Unit→List Job × Unit→Prop} (h:oAllJ (t,()) k):V.vAllJ t k:=by
  obtain ⟨ht,hk⟩:=h
  simp only [] at ht hk
  exact br_f (noneJ_no ht) ⟨by have:=ht.2.1;omega,rfl,hk⟩
theorem take_snoc' {α:Type} {l:List α} {i:Nat} {e:α} (h:l[i]? =some e):l.take (i+1)=l.take i++[e]:=by
  rw [List.take_add_one,h];rfl
theorem vInJ {t:Jobs} {l:List Int} {k:Unit→List Job × Unit→Prop} (h:oInJ (t,l,()) k):V.vInJ t l k:=by
  unfold V.vInJ V.LP V.NX V.AT V.NM V.SH V.LN
  obtain ⟨⟨ht,hl⟩,hk⟩:=h
  simp only [] at ht hl hk
  have hjl:=ht.2.1
  refine ⟨ht,fun x=>x.1=l∧x.2.1=t.jobs∧0≤x.2.2.2∧x.2.2.2≤t.jobs.length∧x.2.2.1=inJ (t.jobs.take x.2.2.2.toNat) l,fun x=>(t.jobs.length-x.2.2.2).toNat,(l,t.jobs,[],0),⟨rfl,rfl,Int.le_refl _,by simp,rfl⟩,⟨⟨rfl,⟨rfl,rfl⟩,⟨rfl,rfl⟩,rfl,rfl,trivial⟩,rfl,rfl,trivial⟩,?_⟩
  rintro ⟨l',js,out,i⟩ ⟨g1,g2,g3,g4,g5⟩
  simp only [] at g1 g2 g3 g4 g5
  subst g1 g2
  obtain ⟨i,rfl⟩:=Int.eq_ofNat_of_zero_le g3
  rw [Int.toNat_natCast] at g5
  have hol:out.length≤1024:=by
    rw [g5]
    have:=inJ_len (t.jobs.take i) l'
    have:=List.length_take_le i t.jobs
    omega
  dsimp only
  refine br_dec (fun hi=>⟨⟨g3,hi⟩,by simp;omega,fun e he=>⟨by omega,br_bool (fun hc=>?_) (fun hc=>?_)⟩⟩) (fun hi=>⟨rfl,?_⟩)
  · rw [Nat.zero_add,Int.toNat_natCast] at he
    refine ⟨Nat.le_refl _,by omega,by omega,fun n hn=>?_⟩
    rw [w64 (by omega)] at hn
    subst hn
    refine ⟨(l',t.jobs,out++[e],(i:Int)+1),⟨rfl,rfl,by simp only [];omega,by simp only [];omega,?_⟩,⟨⟨rfl,⟨rfl,by simp⟩,⟨rfl,rfl⟩,rfl,rfl,trivial⟩,rfl,by rw [td],trivial⟩,by simp only [];omega⟩
    simp only []
    rw [show ((i:Int)+1).toNat=i+1 by omega,take_snoc' he,g5]
    simp only [inJ,List.filter_append,List.filter_cons,hc,if_true,List.filter_nil]
  · rw [Nat.zero_add,Int.toNat_natCast] at he
    intro n hn
    rw [w64 (by omega)] at hn
    subst hn
    refine ⟨(l',t.jobs,out,(i:Int)+1),⟨rfl,rfl,by simp only [];omega,by simp only [];omega,?_⟩,⟨⟨rfl,⟨rfl,rfl⟩,⟨rfl,rfl⟩,rfl,rfl,trivial⟩,rfl,rfl,trivial⟩,by simp only [];omega⟩
    simp only []
    rw [show ((i:Int)+1).toNat=i+1 by omega,take_snoc' he,g5]
    simp only [inJ,List.filter_append,List.filter_cons,hc,List.filter_nil]
    simp
  · rw [List.take_of_length_le (by omega)] at g5
    rw [g5];exact hk
theorem vCmpB {a b:Job} {k:Unit→Int × Unit→Prop} (h:oCmpB (a,b,()) k):V.vCmpB a b k:=by
  unfold V.vCmpB V.SH
  have h:k () (cmpJ a b,()):=h
  refine ⟨⟨⟨⟨⟨by simp,by simp,?_⟩,trivial⟩,trivial⟩,trivial⟩,trivial⟩
  have e:orI [cmpI b.Prio a.Prio,cmpI a.Id b.Id]=cmpJ a b:=by
    unfold orI cmpJ
    by_cases h1:cmpI b.Prio a.Prio=0
    · by_cases h2:cmpI a.Id b.Id=0<;>simp [h1,h2]
    · simp [h1]
  rw [e];exact h
theorem vLessB {a b:Job} {k:Unit→Bool × Unit→Prop} (h:oLessB (a,b,()) k):V.vLessB a b k:=h
theorem vOrdS {l:List Job} {k:Unit→List Job × Unit→Prop} (h:oOrdS (l,()) k):V.vOrdS l k:=by
  obtain ⟨hs,hk⟩:=h
  exact ⟨by have:=hs.2;simp only [] at this;omega,rfl,hs,(sort_len l).symm,hk⟩
theorem vWaiting {t:Jobs} {k:Unit→List Job × Unit→Prop} (h:oWaiting (t,()) k):V.vWaiting t k:=by
  obtain ⟨ht,hk⟩:=h
  unfold V.vWaiting V.SH
  simp only [td]
  exact ⟨Nat.le_refl _,⟨ht,by decide⟩,by omega,in_small ht _,trivial,hk⟩
theorem vCountsJ {t:Jobs} {k:Unit→Int × Int × Int × Unit→Prop} (h:oCountsJ (t,()) k):V.vCountsJ t k:=by
  unfold V.vCountsJ V.LN
  obtain ⟨ht,hk⟩:=h
  exact ⟨Nat.le_refl _,⟨ht,by decide⟩,Nat.le_refl _,⟨ht,by decide⟩,Nat.le_refl _,⟨ht,by decide⟩,hk⟩
theorem vGetJ {t:Jobs} {n:Int} {k:Unit→Job × Int × Unit→Prop} (h:oGetJ (t,n,()) k):V.vGetJ t n k:=by
  unfold V.vGetJ V.AI V.NM V.SH V.LN
  obtain ⟨ht,hk⟩:=h
  simp only [] at ht hk
  have hjl:=ht.2.1
  rcases get_cases t.jobs n with ⟨h1,e,_⟩ |⟨i,j,h1,h2,h3,e,_⟩
  · rw [e] at hk
    exact br_f (noneJ_no ht) (br_dec (fun _=>hk) (fun _=>br_dec (fun _=>hk) (fun _=>by omega)))
  · rw [e] at hk
    refine br_f (noneJ_no ht) (br_dec (fun _=>by omega) (fun _=>br_dec (fun _=>by omega) (fun _ m hm=>?_)))
    rw [w64 (by omega)] at hm
    subst hm
    refine ⟨⟨by omega,by omega⟩,fun x hx=>?_⟩
    rw [h1,show ((i:Int)+1-1).toNat=i by omega,h3] at hx
    cases hx
    exact hk
theorem vRightR {r:Req} {k:Unit→Int × Unit→Prop} (h:oRightR (r,()) k):V.vRightR r k:=by
  have h:k () (rightR r,()):=h
  unfold rightR at h
  refine br_dec (fun h1=>?_) (fun h1=>br_dec (fun h2=>?_) (fun h2=>br_dec (fun h3=>?_) (fun h3=>br_dec (fun h4=>?_) (fun h4=>br_dec (fun h5=>?_) (fun h5=>br_dec (fun h6=>?_) (fun h6=>br_dec (fun h7=>?_) (fun h7=>br_dec (fun h8=>?_) (fun h8=>?_))))))))
  · rw [if_pos (by omega)] at h;exact h
  · rw [if_pos (by omega)] at h;exact h
  · rw [if_pos (by omega)] at h;exact h
  · rw [if_pos (by omega)] at h;exact h
  · rw [if_neg (by omega),if_pos (by omega)] at h;exact h
  · rw [if_neg (by omega),if_pos (by omega)] at h;exact h
  · rw [if_neg (by omega),if_neg (by omega),if_pos (by omega)] at h;exact h
  · rw [if_neg (by omega),if_neg (by omega),if_pos (by omega)] at h;exact h
  · rw [if_neg (by omega),if_neg (by omega),if_neg (by omega)] at h;exact h
theorem vCopyJ {t:Jobs} {k:Unit→Option Jobs × Unit→Prop} (h:oCopyJ (t,()) k):V.vCopyJ t k:=by
  obtain ⟨ht,hk⟩:=h
  simp only [] at ht hk
  refine br_f (noneJ_no ht) ⟨⟨ht,⟨by omega,?_⟩,trivial⟩,trivial⟩
  rw [td]
  obtain ⟨js,l,m⟩:=t
  have:m=true:=ht.1
  subst this
  exact hk
theorem vSubJ {t:Jobs} {r:Req} {k:Jobs × Unit→Int × Int × Unit→Prop} (h:oSubJ (t,r,()) k):V.vSubJ t r k:=by
  obtain ⟨ht,hk⟩:=h
  simp only [] at ht hk
  have hjl:=ht.2.1
  unfold submitJ at hk
  unfold V.vSubJ V.NM V.SH V.LN
  simp only [td]
  refine br_f (noneJ_no ht) (br_not (fun h1=>?_) (fun h1=>br_dec (fun h2=>?_) (fun h2=>br_dec (fun h3=>?_) (fun h3 n hn=>⟨⟨br_bool (fun hh=>⟨⟨⟨Nat.le_refl _,by omega,by omega,fun m hm=>⟨by simp,?_⟩,trivial⟩,trivial⟩,trivial⟩) (fun hh=>⟨⟨⟨Nat.le_refl _,by omega,by omega,fun m hm=>⟨by simp,?_⟩,trivial⟩,trivial⟩,trivial⟩),trivial⟩,trivial⟩))))
  · have h1:rightR r≠0:=by simpa using h1
    rw [if_pos h1] at hk;exact hk
  · have h1:rightR r=0:=by simpa using h1
    rw [if_neg (by omega),if_pos (by omega)] at hk;exact ⟨by omega,hk⟩
  · have h1:rightR r=0:=by simpa using h1
    rw [if_neg (by omega),if_pos (by omega)] at hk;exact ⟨by omega,hk⟩
  all_goals
    have h1:rightR r=0:=by simpa using h1
    rw [if_neg (by omega),if_neg (by omega)] at hk
    rw [w64 (by omega)] at hn
    subst hn hm
    rw [List.drop_zero,List.take_of_length_le (by simp)]
    simp only [newJ,hh] at hk
    exact hk
theorem at_go {t:Jobs} (ht:JW t) {n m:Int} {i:Nat} {j:Job} (h1:n=(i:Int)+1) (h2:i<t.jobs.length) (hm:m=IntKind.i64.wrap (n-1)):m=(i:Int):=by
  have:=ht.2.1
  rw [hm,w64 (by omega)];omega
theorem vHoldJ {t:Jobs} {n:Int} {k:Jobs × Unit→Int × Unit→Prop} (h:oHoldJ (t,n,()) k):V.vHoldJ t n k:=by
  unfold V.vHoldJ V.AT V.NM V.SH
  obtain ⟨ht,hk⟩:=h
  simp only [] at ht hk
  unfold holdJ at hk
  simp only [] at hk
  rcases get_cases t.jobs n with ⟨h1,e,e2⟩ |⟨i,j,h1,h2,h3,e,e2⟩
  · rw [e2] at hk
    refine ⟨ht,br_not (fun _=>br_bool (fun hx=>?_) (fun _=>?_)) (fun hx=>?_)⟩
    · rw [e] at hx;simp at hx
    · rw [e];exact hk
    · rw [e] at hx;simp at hx
  · rw [e2] at hk
    refine ⟨ht,br_not (fun hx=>?_) (fun hx m hm=>?_)⟩
    · rw [e] at hx;simp at hx
    · have hm:=at_go (j:=j) ht h1 h2 hm
      subst hm
      simp only [Nat.zero_add,Int.toNat_natCast,List.length_set,td]
      refine ⟨⟨by omega,by omega⟩,h2,fun x hx=>⟨Nat.le_refl _,by decide,?_⟩⟩
      rw [h3] at hx;cases hx
      refine br_not (fun hc=>?_) (fun hc=>⟨h2,fun x hx=>⟨h2,fun y hy=>⟨Nat.le_refl _,?_⟩⟩⟩)
      · rw [if_neg (by rw [hc];exact Bool.false_ne_true)] at hk;exact ⟨Nat.le_refl _,hk⟩
      · rw [h3] at hx;cases hx
        have:=set_get h2 hy
        subst this
        rw [if_pos hc] at hk
        rw [List.set_set,List.drop_zero,List.take_of_length_le (by simp)]
        exact hk
theorem vFreeJ {t:Jobs} {n:Int} {k:Jobs × Unit→Int × Unit→Prop} (h:oFreeJ (t,n,()) k):V.vFreeJ t n k:=by
  unfold V.vFreeJ V.AT V.NM V.SH
  obtain ⟨ht,hk⟩:=h
  simp only [] at ht hk
  unfold freeJ at hk
  simp only [] at hk
  rcases get_cases t.jobs n with ⟨h1,e,e2⟩ |⟨i,j,h1,h2,h3,e,e2⟩
  · rw [e2] at hk
    refine ⟨ht,br_not (fun _=>br_bool (fun hx=>?_) (fun _=>?_)) (fun hx=>?_)⟩
    · rw [e] at hx;simp at hx
    · rw [e];exact hk
    · rw [e] at hx;simp at hx
  · rw [e2] at hk
    refine ⟨ht,br_not (fun hx=>?_) (fun hx m hm=>?_)⟩
    · rw [e] at hx;simp at hx
    · have hm:=at_go (j:=j) ht h1 h2 hm
      subst hm
      simp only [Nat.zero_add,Int.toNat_natCast,List.length_set,td]
      refine ⟨⟨by omega,by omega⟩,h2,fun x hx=>⟨Nat.le_refl _,by decide,?_⟩⟩
      rw [h3] at hx;cases hx
      refine br_not (fun hc=>?_) (fun hc=>⟨h2,fun x hx=>⟨Nat.le_refl _,?_⟩⟩)
      · rw [if_neg (by rw [hc];exact Bool.false_ne_true)] at hk;exact ⟨Nat.le_refl _,hk⟩
      · rw [h3] at hx;cases hx
        rw [if_pos hc] at hk
        rw [List.drop_zero,List.take_of_length_le (by simp)]
        exact hk
theorem vPlanJ {t:Jobs} {n m:Int} {k:Jobs × Unit→Int × Unit→Prop} (h:oPlanJ (t,n,m,()) k):V.vPlanJ t n m k:=by
  unfold V.vPlanJ V.AT V.NM V.SH
  obtain ⟨ht,hk⟩:=h
  simp only [] at ht hk
  unfold planJ at hk
  refine br_dec (fun h1=>?_) (fun h1=>br_dec (fun h2=>?_) (fun h2=>?_))
  · rw [if_pos (by omega)] at hk;exact hk
  · rw [if_pos (by omega)] at hk;exact hk
  rw [if_neg (by omega)] at hk
  simp only [] at hk
  rcases get_cases t.jobs n with ⟨h1,e,e2⟩ |⟨i,j,h1,h2,h3,e,e2⟩
  · rw [e2] at hk
    refine ⟨ht,br_not (fun _=>br_bool (fun hx=>?_) (fun _=>?_)) (fun hx=>?_)⟩
    · rw [e] at hx;simp at hx
    · rw [e];exact hk
    · rw [e] at hx;simp at hx
  · rw [e2] at hk
    refine ⟨ht,br_not (fun hx=>?_) (fun hx m hm=>?_)⟩
    · rw [e] at hx;simp at hx
    · have hm:=at_go (j:=j) ht h1 h2 hm
      subst hm
      simp only [Nat.zero_add,Int.toNat_natCast,List.length_set,td]
      refine ⟨⟨by omega,by omega⟩,h2,fun x hx=>⟨Nat.le_refl _,by decide,?_⟩⟩
      rw [h3] at hx;cases hx
      refine br_not (fun hc=>?_) (fun hc=>⟨h2,fun x hx=>⟨Nat.le_refl _,?_⟩⟩)
      · rw [if_neg (by rw [hc];exact Bool.false_ne_true)] at hk;exact ⟨Nat.le_refl _,hk⟩
      · rw [h3] at hx;cases hx
        rw [if_pos hc] at hk
        rw [List.drop_zero,List.take_of_length_le (by simp)]
        exact hk
theorem vBeginJ {t:Jobs} {n m s:Int} {k:Jobs × Unit→Int × Unit→Prop} (h:oBeginJ (t,n,m,s,()) k):V.vBeginJ t n m s k:=by
  unfold V.vBeginJ V.AT V.NM V.SH
  obtain ⟨ht,hk⟩:=h
  simp only [] at ht hk
  unfold beginJ at hk
  refine br_dec (fun h1=>?_) (fun h1=>br_dec (fun h2=>?_) (fun h2=>?_))
  · rw [if_pos (by omega)] at hk;exact hk
  · rw [if_pos (by omega)] at hk;exact hk
  rw [if_neg (by omega)] at hk
  simp only [] at hk
  rcases get_cases t.jobs n with ⟨h1,e,e2⟩ |⟨i,j,h1,h2,h3,e,e2⟩
  · rw [e2] at hk
    refine ⟨ht,br_not (fun _=>br_bool (fun hx=>?_) (fun _=>?_)) (fun hx=>?_)⟩
    · rw [e] at hx;simp at hx
    · rw [e];exact hk
    · rw [e] at hx;simp at hx
  · rw [e2] at hk
    refine ⟨ht,br_not (fun hx=>?_) (fun hx m hm=>?_)⟩
    · rw [e] at hx;simp at hx
    · have hm:=at_go (j:=j) ht h1 h2 hm
      subst hm
      simp only [Nat.zero_add,Int.toNat_natCast,List.length_set,td]
      refine ⟨⟨by omega,by omega⟩,h2,fun x hx=>⟨Nat.le_refl _,by decide,?_⟩⟩
      rw [h3] at hx;cases hx
      refine br_not (fun hc=>?_) (fun hc=>⟨h2,fun x hx q hq=>⟨h2,fun x0 hx0=>⟨h2,fun x1 hx1=>⟨h2,fun x2 hx2=>⟨h2,fun x3 hx3=>⟨h2,fun x4 hx4=>⟨Nat.le_refl _,?_⟩⟩⟩⟩⟩⟩⟩)
      · rw [if_neg (by rw [hc];exact Bool.false_ne_true)] at hk;exact ⟨Nat.le_refl _,hk⟩
      · rw [h3] at hx hx0;cases hx;cases hx0
        have:=set_get h2 hx1
        subst this
        rw [List.set_set] at hx2
        have:=set_get h2 hx2
        subst this
        rw [List.set_set,List.set_set] at hx3
        have:=set_get h2 hx3
        subst this
        rw [List.set_set,List.set_set,List.set_set] at hx4
        have:=set_get h2 hx4
        subst this
        rw [if_pos hc] at hk
        subst hq
        rw [List.set_set,List.set_set,List.set_set,List.set_set,List.drop_zero,List.take_of_length_le (by simp)]
        exact hk
end Go.Ax.O
namespace Go.Ax.Law
open Go.Ax.O
theorem atJ_ok {l:List Job} (h:IdsOK l) (n:Int) (st:List Int) (f:Job→Job) (hf: ∀j,j∈l→(f j).Id=j.Id∧U64 (f j).Nodes):IdsOK (atJ l n st f).2∧(atJ l n st f).2.length=l.length:=by
  rcases get_cases l n with ⟨_,_,e⟩ |⟨i,j,_,hi,hj,_,e⟩
  · rw [e];exact ⟨h,rfl⟩
  · rw [e]
    split
    · refine ⟨fun p q hq=>?_,by simp⟩
      simp only [] at hq
      rw [List.getElem?_set] at hq
      split at hq
      · rename_i hp
        subst hp
        simp at hq
        obtain ⟨_,rfl⟩:=hq
        have:=h i j hj
        have h2:=hf j (List.mem_of_getElem? hj)
        exact ⟨by rw [h2.1];exact this.1,h2.2⟩
      · exact h p q hq
    · exact ⟨h,rfl⟩
theorem holdJ_ok {t:Jobs} (h:JW t) (n:Int):JW (holdJ t n).2:=by
  have:=atJ_ok h.2.2 n [1] (fun j=>{j with State:=2,Plan:= -1}) fun j hj=>⟨rfl,(ids_mem h.2.2 hj).2.2⟩
  exact ⟨h.1,by have:=h.2.1;simp only [holdJ];omega,this.1⟩
theorem freeJ_ok {t:Jobs} (h:JW t) (n:Int):JW (freeJ t n).2:=by
  have:=atJ_ok h.2.2 n [2] (fun j=>{j with State:=1}) fun j hj=>⟨rfl,(ids_mem h.2.2 hj).2.2⟩
  exact ⟨h.1,by have:=h.2.1;simp only [freeJ];omega,this.1⟩
theorem planJ_ok {t:Jobs} (h:JW t) (n m:Int):JW (planJ t n m).2:=by
  have:=atJ_ok h.2.2 n [1] (fun j=>{j with Plan:=m}) fun j hj=>⟨rfl,(ids_mem h.2.2 hj).2.2⟩
  unfold planJ
  split
  · exact h
  · exact ⟨h.1,by have:=h.2.1;simp only [];omega,this.1⟩
theorem beginJ_ok {t:Jobs} (h:JW t) (n m:Int) {s:Int} (hs:U64 s):JW (beginJ t n m s).2:=by
  have:=atJ_ok h.2.2 n [1] (fun j=>{j with State:=3,Start:=m,End:=wr (m+j.Limit),Plan:= -1,Nodes:=s}) fun j hj=>⟨rfl,hs⟩
  unfold beginJ
  split
  · exact h
  · exact ⟨h.1,by have:=h.2.1;simp only [];omega,this.1⟩
theorem finishJ_ok {t:Jobs} (h:JW t) (n s m:Int):JW (finishJ t n s m).2:=by
  have:=atJ_ok h.2.2 n (if s=5 then [3,1,2] else [3]) (fun j=>{j with End:=if j.State=3 then m else j.End,State:=s,Plan:= -1}) fun j hj=>⟨rfl,(ids_mem h.2.2 hj).2.2⟩
  unfold finishJ
  generalize (if s=5 then [3,1,2] else [3]:List Int)=st at*
  split
  · exact h
  · split
    · exact h
    · simp only []
      split
      · exact ⟨h.1,by have:=h.2.1;simp only [];omega,this.1⟩
      · exact h
theorem submitJ_ok {t:Jobs} (h:JW t) (r:Req):JW (submitJ t r).2:=by
  unfold submitJ
  split
  · exact h
  · split
    · exact h
    · rename_i h1 h2
      refine ⟨h.1,by simp only [List.length_append,List.length_singleton];omega,fun i j hj=>?_⟩
      simp only [] at hj
      by_cases hi:i<t.jobs.length
      · rw [List.getElem?_append_left hi] at hj;exact h.2.2 i j hj
      · rw [List.getElem?_append_right (by omega)] at hj
        have hz:i-t.jobs.length=0:=by
          have:=(List.getElem?_eq_some_iff.1 hj).1
          simpa using this
        rw [hz] at hj
        simp at hj
        subst hj
        exact ⟨by simp only [newJ];omega,U64.zero⟩
theorem getJ_U64 {t:Jobs} (h:JW t) (n:Int):U64 (getJ t.jobs n).1.Nodes:=by
  rcases get_cases t.jobs n with ⟨_,e,_⟩ |⟨i,j,_,_,hj,e,_⟩
  · rw [e];exact U64.zero
  · rw [e];exact (h.2.2 i j hj).2
theorem takeN_ok {t:Nodes} (h:NW t) (n:Int):NW (takeN t n).2∧U64 (takeN t n).1.1:=by
  unfold takeN
  split
  · exact ⟨h,U64.zero⟩
  · split
    · exact ⟨h,U64.zero⟩
    · exact ⟨⟨h.1,U64_union h.2.1 U64_first,h.2.2.1,h.2.2.2⟩,U64_first⟩
theorem takeN_fail {t:Nodes} {n:Int} (h:(takeN t n).1.2≠0):(takeN t n).2=t:=by
  unfold takeN at h ⊢
  split
  · rfl
  · split
    · rfl
    · rename_i h1 h2;rw [if_neg h1,if_neg h2] at h;exact absurd rfl h
theorem giveN_ok {t:Nodes} (h:NW t) (s:Int):NW (giveN t s).2:=by
  unfold giveN
  split
  · exact h
  · exact ⟨h.1,U64_minus h.2.1,h.2.2.1,h.2.2.2⟩
theorem drainN_ok {t:Nodes} (h:NW t) (n:Int):NW (drainN t n).2:=by
  unfold drainN
  split
  · exact h
  · split
    · exact h
    · exact ⟨h.1,h.2.1,U64_with h.2.2.1,h.2.2.2⟩
theorem resumeN_ok {t:Nodes} (h:NW t) (n:Int):NW (resumeN t n).2:=by
  unfold resumeN
  split
  · exact h
  · split
    · exact h
    · exact ⟨h.1,h.2.1,U64_without h.2.2.1,h.2.2.2⟩
theorem noneN_no {t:Nodes} (h:NW t):noneN (some t)=false:=by simp [noneN,h.2.2.2]
theorem idle_U64 {t:Nodes} (h:NW t):U64 (idleN t):=U64_minus (U64_minus h.1)
theorem timeout1_ok {c:Core} (h:CW c) (j:Job):CW (timeout1 c j)∧(timeout1 c j).P=c.P:=by
  unfold timeout1
  split
  · exact ⟨⟨finishJ_ok h.1 _ _ _,giveN_ok h.2.1 _,h.2.2⟩,rfl⟩
  · exact ⟨h,rfl⟩
theorem timeouts_ok: ∀{l:List Job} {c:Core},CW c→CW (l.foldl timeout1 c)∧(l.foldl timeout1 c).P=c.P
  | [],_,h=>⟨h,rfl⟩
  |j::r,c,h=>by
    obtain ⟨h1,h2⟩:=timeout1_ok h j
    obtain ⟨h3,h4⟩:=timeouts_ok (l:=r) h1
    exact ⟨h3,h4.trans h2⟩
theorem beginC_ok {c:Core} (h:CW c) (j:Job):CW (beginC c j)∧(beginC c j).P=c.P:=by
  unfold beginC
  split
  · exact ⟨⟨beginJ_ok h.1 _ _ (takeN_ok h.2.1 _).2,(takeN_ok h.2.1 _).1,h.2.2⟩,rfl⟩
  · exact ⟨h,rfl⟩
theorem begin1_ok {c:Core} (h:CW c) (j:Job):CW (begin1 c j)∧(begin1 c j).P=c.P:=by
  unfold begin1
  split
  · exact beginC_ok h j
  · exact ⟨h,rfl⟩
theorem begins_ok: ∀{l:List Job} {c:Core},CW c→CW (l.foldl begin1 c)∧(l.foldl begin1 c).P=c.P
  | [],_,h=>⟨h,rfl⟩
  |j::r,c,h=>by
    obtain ⟨h1,h2⟩:=begin1_ok h j
    obtain ⟨h3,h4⟩:=begins_ok (l:=r) h1
    exact ⟨h3,h4.trans h2⟩
theorem addC_ok {c:Core} (h:CW c) (hl:c.P.steps.length≤4294967294) (f t n:Int):CW (addC c f t n)∧(addC c f t n).P.steps.length≤c.P.steps.length+2:=by
  obtain ⟨h1,h2,_⟩:=addP_ok (f:=f) (t:=t) (n:=n) h.2.2 hl
  exact ⟨⟨h.1,h.2.1,h1⟩,h2⟩
end Go.Ax.Law
namespace Go.Ax.O
open Go.Ax.Sp Go.Ax.Law
theorem vFinJ {t:Jobs} {n s m:Int} {k:Jobs × Unit→Int × Unit→Prop} (h:oFinJ (t,n,s,m,()) k):V.vFinJ t n s m k:=by
  unfold V.vFinJ V.AT V.NM V.SH
  obtain ⟨ht,hk⟩:=h
  simp only [] at ht hk
  unfold finishJ at hk
  refine br_dec (fun h1=>?_) (fun h1=>br_dec (fun h2=>?_) (fun h2=>br_dec (fun h3=>?_) (fun h3=>br_dec (fun h4=>?_) (fun h4=>?_))))
  · rw [if_pos (by omega)] at hk;exact hk
  · rw [if_pos (by omega)] at hk;exact hk
  · rw [if_neg (by omega),if_pos (by omega)] at hk;exact hk
  · rw [if_neg (by omega),if_pos (by omega)] at hk;exact hk
  rw [if_neg (by omega),if_neg (by omega)] at hk
  simp only [] at hk
  rcases get_cases t.jobs n with ⟨h1,e,e2⟩ |⟨i,j,h1,h2,h3,e,e2⟩
  · rw [e2] at hk
    refine br_bool (fun hs=>⟨Nat.le_refl _,Nat.le_refl _,by decide,ht,br_not (fun _=>br_not (fun _=>?_) (fun hx=>?_)) (fun hx=>?_)⟩) (fun hs=>⟨ht,br_not (fun _=>br_not (fun _=>?_) (fun hx=>?_)) (fun hx=>?_)⟩)
    · rw [e];exact hk
    · rw [e] at hx;simp at hx
    · rw [e] at hx;simp at hx
    · rw [e];exact hk
    · rw [e] at hx;simp at hx
    · rw [e] at hx;simp at hx
  · rw [e2] at hk
    refine br_bool (fun hs=>⟨Nat.le_refl _,Nat.le_refl _,by decide,ht,br_not (fun hx=>?_) (fun hx q hq=>?_)⟩) (fun hs=>⟨ht,br_not (fun hx=>?_) (fun hx q hq=>?_)⟩)
    · rw [e] at hx;simp at hx
    · have hs:s=5:=by simpa using hs
      rw [if_pos hs] at hk
      have hm:=at_go (j:=j) ht h1 h2 hq
      subst hm
      simp only [Nat.zero_add,Int.toNat_natCast,List.length_set,td]
      refine ⟨⟨by omega,by omega⟩,h2,fun x hx=>⟨Nat.le_refl _,by decide,?_⟩⟩
      rw [h3] at hx;cases hx
      refine br_not (fun hc=>?_) (fun hc=>⟨h2,fun x hx=>br_bool (fun hst=>⟨h2,fun x0 hx0=>⟨h2,fun x1 hx1=>⟨h2,fun x2 hx2 q hq=>⟨Nat.le_refl _,?_⟩⟩⟩⟩) (fun hst=>⟨h2,fun x0 hx0=>⟨h2,fun x1 hx1 q hq=>⟨Nat.le_refl _,?_⟩⟩⟩)⟩)
      · rw [hc] at hk;exact ⟨Nat.le_refl _,hk⟩
      · rw [h3] at hx hx0;cases hx;cases hx0
        have hst:j.State=3:=by simpa using hst
        have:=set_get h2 hx1
        subst this
        rw [List.set_set] at hx2
        have:=set_get h2 hx2
        subst this
        subst hq
        rw [hc] at hk
        simp only [if_pos hst,if_true] at hk
        rw [List.set_set,List.set_set,List.drop_zero,List.take_of_length_le (by simp)]
        exact hk
      · rw [h3] at hx hx0;cases hx;cases hx0
        have hst:j.State≠3:=by simpa using hst
        have:=set_get h2 hx1
        subst this
        subst hq
        rw [hc] at hk
        simp only [if_neg hst,if_true] at hk
        rw [List.set_set,List.drop_zero,List.take_of_length_le (by simp)]
        exact hk
    · rw [e] at hx;simp at hx
    · have hs:s≠5:=by simpa using hs
      rw [if_neg hs] at hk
      have hm:=at_go (j:=j) ht h1 h2 hq
      subst hm
      simp only [Nat.zero_add,Int.toNat_natCast,List.length_set,td]
      refine ⟨⟨by omega,by omega⟩,h2,fun x hx=>⟨Nat.le_refl _,by decide,?_⟩⟩
      rw [h3] at hx;cases hx
      refine br_not (fun hc=>?_) (fun hc=>⟨h2,fun x hx=>br_bool (fun hst=>⟨h2,fun x0 hx0=>⟨h2,fun x1 hx1=>⟨h2,fun x2 hx2 q hq=>⟨Nat.le_refl _,?_⟩⟩⟩⟩) (fun hst=>⟨h2,fun x0 hx0=>⟨h2,fun x1 hx1 q hq=>⟨Nat.le_refl _,?_⟩⟩⟩)⟩)
      · rw [hc] at hk;exact ⟨Nat.le_refl _,hk⟩
      · rw [h3] at hx hx0;cases hx;cases hx0
        have hst:j.State=3:=by simpa using hst
        have:=set_get h2 hx1
        subst this
        rw [List.set_set] at hx2
        have:=set_get h2 hx2
        subst this
        subst hq
        rw [hc] at hk
        simp only [if_pos hst,if_true] at hk
        rw [List.set_set,List.set_set,List.drop_zero,List.take_of_length_le (by simp)]
        exact hk
      · rw [h3] at hx hx0;cases hx;cases hx0
        have hst:j.State≠3:=by simpa using hst
        have:=set_get h2 hx1
        subst this
        subst hq
        rw [hc] at hk
        simp only [if_neg hst,if_true] at hk
        rw [List.set_set,List.drop_zero,List.take_of_length_le (by simp)]
        exact hk
theorem landn_minus {a b:Int} (ha:U64 a) (hb:U64 b):landnI .u64 a b=minusS a b:=by
  obtain ⟨x,hx,rfl⟩:=U64.ex ha
  obtain ⟨y,hy,rfl⟩:=U64.ex hb
  rw [landnU hx hy];rfl
theorem lor_union {a b:Int} (ha:U64 a) (hb:U64 b):lorI .u64 a b=unionS a b:=by
  obtain ⟨x,hx,rfl⟩:=U64.ex ha
  obtain ⟨y,hy,rfl⟩:=U64.ex hb
  rw [lorU hx hy];rfl
theorem vNoneN {t:Nodes} {k:Unit→Bool × Unit→Prop} (h:oNoneN (some t,()) k):V.vNoneN t k:=by
  have h:k () (decide (t.all=0),()):=h
  exact h
theorem vNoneNN {k:Unit→Bool × Unit→Prop} (h:oNoneN (none,()) k):V.vNoneNN k:=h
theorem vIdleI {t:Nodes} {k:Unit→Int × Unit→Prop} (h:oIdleN (t,()) k):V.vIdleI t k:=by
  obtain ⟨ht,hk⟩:=h
  intro n hn m hm
  rw [landn_minus ht.1 ht.2.1] at hn
  subst hn
  rw [landn_minus (U64_minus ht.1) ht.2.2.1] at hm
  subst hm
  exact hk
theorem vSizeN {t:Nodes} {k:Unit→Int × Unit→Prop} (h:oSizeN (t,()) k):V.vSizeN t k:=by
  obtain ⟨ht,hk⟩:=h
  exact br_f (noneN_no ht) ⟨ht.1,hk⟩
theorem vStateN {t:Nodes} {n:Int} {k:Unit→Int × Unit→Prop} (h:oStateN (t,n,()) k):V.vStateN t n k:=by
  unfold V.vStateN V.SH
  obtain ⟨ht,hk⟩:=h
  simp only [] at ht hk
  unfold stateN at hk
  refine br_f (noneN_no ht) ⟨ht.1,br_not (fun h1=>?_) (fun h1=>⟨⟨ht.2.1,⟨ht.2.2.1,br_bool (fun h2=>br_bool (fun h3=>?_) (fun h3=>br_bool (fun h4=>?_) (fun h4=>by rw [h2] at h4;cases h4))) (fun h2=>br_bool (fun h3=>by rw [h2] at h3;cases h3) (fun h3=>br_bool (fun h4=>?_) (fun h4=>?_)))⟩,trivial⟩,trivial⟩)⟩
  · rw [if_pos h1] at hk;exact hk
  · simp only [h1,h2,h3] at hk;exact hk
  · simp only [h1,h2,h3] at hk;exact hk
  · simp only [h1,h2,h4] at hk;exact hk
  · simp only [h1,h2,h4] at hk;exact hk
theorem vUsedN {t:Nodes} {k:Unit→Int × Unit→Prop} (h:oUsedN (t,()) k):V.vUsedN t k:=by
  obtain ⟨ht,hk⟩:=h
  exact br_f (noneN_no ht) hk
theorem vIdleN {t:Nodes} {k:Unit→Int × Unit→Prop} (h:oIdleN (t,()) k):V.vIdleN t k:=by
  obtain ⟨ht,hk⟩:=h
  exact br_f (noneN_no ht) ⟨ht,hk⟩
theorem vCountsN {t:Nodes} {k:Unit→Int × Int × Int × Unit→Prop} (h:oCountsN (t,()) k):V.vCountsN t k:=by
  obtain ⟨ht,hk⟩:=h
  simp only [] at ht hk
  refine br_f (noneN_no ht) fun n hn=>?_
  rw [landn_minus ht.2.2.1 ht.2.1] at hn
  subst hn
  exact ⟨⟨ht,⟨idle_U64 ht,⟨ht.2.1,⟨U64_minus ht.2.2.1,hk⟩,trivial⟩,trivial⟩,trivial⟩,trivial⟩
theorem vTakeN {t:Nodes} {n:Int} {k:Nodes × Unit→Int × Int × Unit→Prop} (h:oTakeN (t,n,()) k):V.vTakeN t n k:=by
  unfold V.vTakeN V.SH
  obtain ⟨ht,hk⟩:=h
  simp only [] at ht hk
  unfold takeN at hk
  refine br_f (noneN_no ht) (br_dec (fun h1=>?_) (fun h1=>⟨ht,idle_U64 ht,br_not (fun h2=>?_) (fun h2 m hm=>?_)⟩))
  · rw [if_pos h1] at hk;exact hk
  · rw [if_neg h1,if_pos h2] at hk;exact hk
  · rw [if_neg h1,if_neg (by rw [h2];decide)] at hk
    rw [lor_union ht.2.1 U64_first] at hm
    subst hm
    exact hk
theorem vGiveN {t:Nodes} {s:Int} {k:Nodes × Unit→Int × Int × Unit→Prop} (h:oGiveN (t,s,()) k):V.vGiveN t s k:=by
  obtain ⟨⟨ht,hs⟩,hk⟩:=h
  simp only [] at ht hs hk
  unfold giveN at hk
  refine br_f (noneN_no ht) fun n hn=>br_not (fun h1=>?_) (fun h1 m hm q hq=>?_)
  · have h1:n≠0:=by simpa using h1
    rw [landn_minus hs ht.2.1] at hn
    rw [if_pos (by omega)] at hk;exact hk
  · have h1:n=0:=by simpa using h1
    rw [landn_minus hs ht.2.1] at hn
    rw [if_neg (by omega)] at hk
    rw [landn_minus ht.2.1 hs] at hm
    rw [landn_minus hs ht.2.2.1] at hq
    subst hm hq
    exact ⟨U64_minus hs,hk⟩
theorem vDrainN {t:Nodes} {n:Int} {k:Nodes × Unit→Int × Unit→Prop} (h:oDrainN (t,n,()) k):V.vDrainN t n k:=by
  obtain ⟨ht,hk⟩:=h
  simp only [] at ht hk
  unfold drainN at hk
  refine br_f (noneN_no ht) ⟨ht.1,br_not (fun h1=>?_) (fun h1=>⟨ht.2.2.1,br_bool (fun h2=>?_) (fun h2=>⟨ht.2.2.1,?_⟩)⟩)⟩
  · rw [if_pos h1] at hk;exact hk
  · rw [if_neg (by rw [h1];decide),if_pos h2] at hk;exact hk
  · rw [if_neg (by rw [h1];decide),if_neg (by rw [h2];decide)] at hk;exact hk
theorem vResumeN {t:Nodes} {n:Int} {k:Nodes × Unit→Int × Unit→Prop} (h:oResumeN (t,n,()) k):V.vResumeN t n k:=by
  obtain ⟨ht,hk⟩:=h
  simp only [] at ht hk
  unfold resumeN at hk
  refine br_f (noneN_no ht) ⟨ht.1,br_not (fun h1=>?_) (fun h1=>⟨ht.2.2.1,br_not (fun h2=>?_) (fun h2=>⟨ht.2.2.1,?_⟩)⟩)⟩
  · rw [if_pos h1] at hk;exact hk
  · rw [if_neg (by rw [h1];decide),if_pos h2] at hk;exact hk
  · rw [if_neg (by rw [h1];decide),if_neg (by rw [h2];decide)] at hk;exact hk
theorem vCopyN {t:Nodes} {k:Unit→Option Nodes × Unit→Prop} (h:oCopyN (t,()) k):V.vCopyN t k:=by
  obtain ⟨ht,hk⟩:=h
  exact br_f (noneN_no ht) hk
theorem vNewN {n:Int} {k:Unit→Option Nodes × Int × Unit→Prop} (h:oNewN (n,()) k):V.vNewN n k:=by
  obtain ⟨h1,h2⟩:=h
  refine br_dec (fun h=>h1 (.inl h)) (fun h=>br_dec (fun h'=>h1 (.inr h')) (fun h'=>h2 ⟨?_,?_⟩))
  · show (1:Int)≤n;omega
  · show n≤(64:Int);omega
theorem vFailR {e:Int} {k:Unit→Reply × Unit→Prop} (h:oFailR (e,()) k):V.vFailR e k:=h
theorem vTellR {j:Job} {k:Unit→Reply × Unit→Prop} (h:oTellR (j,()) k):V.vTellR j k:=h
theorem vThreeR {a b c:Int} {k:Unit→Reply × Unit→Prop} (h:oThreeR (a,b,c,()) k):V.vThreeR a b c k:=h
theorem vCleanR {r:Req} {k:Unit→Req × Unit→Prop} (h:oCleanR (r,()) k):V.vCleanR r k:=by
  have h:k () (cleanR r,()):=h
  unfold cleanR at h
  unfold V.vCleanR V.vCleanR_1 V.SH
  by_cases h1:r.Kind=1
  · simp only [h1] at h ⊢;exact ⟨⟨⟨⟨⟨h,trivial⟩,trivial⟩,trivial⟩,trivial⟩,trivial⟩
  by_cases h2:r.Kind=2
  · simp only [h2] at h ⊢;exact h
  by_cases h3:r.Kind=3
  · simp only [h3] at h ⊢;exact h
  by_cases h4:r.Kind=4
  · simp only [h4] at h ⊢;exact h
  by_cases h5:r.Kind=5
  · simp only [h5] at h ⊢;exact h
  by_cases h6:r.Kind=6
  · simp only [h6] at h ⊢;exact h
  by_cases h7:r.Kind=7
  · simp only [h7] at h ⊢;exact h
  by_cases h8:r.Kind=8
  · simp only [h8] at h ⊢;exact h
  by_cases h9:r.Kind=9
  · simp only [h9] at h ⊢;exact h
  have b: ∀{m:Int},r.Kind≠m→(r.Kind==m)=false:=fun hm=>by simp [hm]
  simp only [b h1,b h2,b h3,b h4,b h5,b h6,b h7,b h8,b h9,br]
  simp only [h1,h2,h3,h4,h5,h6,h7,h8,h9,if_false,or_self] at h
  exact h
end Go.Ax.O
namespace Go.Ax.Law
open Go.Ax.O
theorem planS_some {j:Job} (h:(planS j).2=true):j.State=1∧0≤j.Plan∧(planS j).1=⟨j.Plan,wr (j.Plan+j.Limit),j.Width⟩:=by
 unfold planS at h ⊢
 split
 ·rename_i hc;rw [if_pos hc] at h;cases h
 ·exact ⟨by omega,by omega,rfl⟩
theorem spans_len (l:List Job):(spansC l).length≤l.length:=by
 unfold spansC
 have:=List.length_filterMap_le (f:=fun j=>if (planS j).2 then some (planS j).1 else none) (l:=inJ l [1])
 have:=inJ_len l [1]
 omega
theorem newN_ok {n:Int} (h1:1≤n) (h2:n≤64):NW (newN n):=by
 have:U64 (allS n)∧allS n≠0:=by
  unfold allS
  rw [if_neg (by omega)]
  split
  ·exact ⟨⟨by decide,by decide⟩,by decide⟩
  ·obtain ⟨m,rfl⟩:=Int.eq_ofNat_of_zero_le (show 0≤n by omega)
   rw [Int.toNat_natCast]
   have h3:=pow_lt (show m<64 by omega)
   have h4:2^1≤2^m:=Nat.pow_le_pow_right (by decide) (by omega)
   exact ⟨U64.nat (by omega),by omega⟩
 exact ⟨this.1,U64.zero,U64.zero,this.2⟩
theorem newCore_ok {n:Int} (h1:1≤n) (h2:n≤64):CW (newCore n):=
 ⟨⟨rfl,Nat.zero_le _,fun i j hj=>by simp [newCore,newJs] at hj⟩,newN_ok h1 h2,⟨by simp [newCore,newP],by simp [newCore,newP,Rising],by simp [newCore,newP]⟩⟩
end Go.Ax.Law
namespace Go.Ax.O
open Go.Ax.Sp Go.Ax.Law
theorem vNoneC {c:Core} {k:Unit→Bool × Unit→Prop} (h:oNoneC (some c,()) k):V.vNoneC c k:=h
theorem vNoneCN {k:Unit→Bool × Unit→Prop} (h:oNoneC (none,()) k):V.vNoneCN k:=h
theorem vClosedC {c:Core} {k:Unit→Bool × Unit→Prop} (h:oClosedC (some c,()) k):V.vClosedC c k:=h
theorem vClosedCN {k:Unit→Bool × Unit→Prop} (h:oClosedC (none,()) k):V.vClosedCN k:=h
theorem vNewC {n:Int} {k:Unit→Option Core × Int × Unit→Prop} (h:oNewC (n,()) k):V.vNewC n k:=⟨h.1,fun hn=>⟨hn,h.2 hn⟩⟩
theorem vTwinC {c:Core} {k:Unit→Option Core × Unit→Prop} (h:oTwinC (c,()) k):V.vTwinC c k:=by
 obtain ⟨hc,hk⟩:=h
 exact ⟨⟨hc.1,⟨hc.2.1,⟨hc.2.2,hk,trivial⟩,trivial⟩,trivial⟩,trivial⟩
theorem vPlanS {j:Job} {k:Unit→Span × Bool × Unit→Prop} (h:oPlanS (j,()) k):V.vPlanS j k:=by
 unfold V.vPlanS V.NM
 have h:k () ((planS j).1,(planS j).2,()):=h
 unfold planS at h
 refine br_not (fun h1=>?_) (fun h1=>br_dec (fun h2=>?_) (fun h2 n hn=>?_))
 ·have h1:j.State≠1:=by simpa using h1
  rw [if_pos (.inl h1)] at h;exact h
 ·rw [if_pos (.inr h2)] at h;exact h
 ·have h1:j.State=1:=by simpa using h1
  rw [if_neg (by omega)] at h
  subst hn;exact h
theorem vSpansC {c:Core} {k:Unit→List Span × Unit→Prop} (h:oSpansC (c,()) k):V.vSpansC c k:=by
 unfold V.vSpansC V.LP V.NX V.AT V.NM V.SH V.LN
 obtain ⟨hc,hk⟩:=h
 simp only [] at hc hk
 have hl:=hc.1.2.1
 have hil:=inJ_len c.J.jobs [1]
 refine ⟨Nat.le_refl _,⟨hc.1,by decide⟩,fun x=>x.1=inJ c.J.jobs [1]∧0≤x.2.2∧x.2.2≤(inJ c.J.jobs [1]).length∧x.2.1.length≤1024∧x.2.1=((inJ c.J.jobs [1]).take x.2.2.toNat).filterMap fun j=>if (planS j).2 then some (planS j).1 else none,
  fun x=>((inJ c.J.jobs [1]).length-x.2.2).toNat,(inJ c.J.jobs [1],[],0),⟨rfl,Int.le_refl _,by simp,by simp,by simp⟩,⟨⟨⟨rfl,rfl⟩,⟨rfl,rfl⟩,rfl,rfl,trivial⟩,rfl,rfl,trivial⟩,?_⟩
 rintro ⟨js,out,i⟩ ⟨g1,g2,g3,g4,g5⟩
 simp only [] at g1 g2 g3 g4 g5
 subst g1
 obtain ⟨i,rfl⟩:=Int.eq_ofNat_of_zero_le g2
 rw [Int.toNat_natCast] at g5
 have hol:out.length≤i:=by
  rw [g5]
  have:=List.length_filterMap_le (f:=fun j=>if (planS j).2 then some (planS j).1 else none) (l:=(inJ c.J.jobs [1]).take i)
  have:=List.length_take_le i (inJ c.J.jobs [1])
  omega
 dsimp only
 refine br_dec (fun hi=>⟨⟨g2,hi⟩,by simp;omega,fun e he=>br_bool (fun hp=>⟨Nat.le_refl _,by omega,by omega,fun n hn=>?_⟩) (fun hp n hn=>?_)⟩) (fun hi=>⟨rfl,?_⟩)
 ·rw [Nat.zero_add,Int.toNat_natCast] at he
  rw [w64 (by omega)] at hn
  subst hn
  refine ⟨(inJ c.J.jobs [1],out++[(planS e).1],(i:Int)+1),⟨rfl,by simp only [];omega,by simp only [];omega,by simp;omega,?_⟩,⟨⟨⟨rfl,by simp⟩,⟨rfl,rfl⟩,rfl,rfl,trivial⟩,rfl,by rw [td],trivial⟩,by simp only [];omega⟩
  simp only []
  rw [show ((i:Int)+1).toNat=i+1 by omega,take_snoc' he,List.filterMap_append,←g5]
  simp [hp]
 ·rw [Nat.zero_add,Int.toNat_natCast] at he
  rw [w64 (by omega)] at hn
  subst hn
  refine ⟨(inJ c.J.jobs [1],out,(i:Int)+1),⟨rfl,by simp only [];omega,by simp only [];omega,g4,?_⟩,⟨⟨⟨rfl,rfl⟩,⟨rfl,rfl⟩,rfl,rfl,trivial⟩,rfl,rfl,trivial⟩,by simp only [];omega⟩
  simp only []
  rw [show ((i:Int)+1).toNat=i+1 by omega,take_snoc' he,List.filterMap_append,←g5]
  simp [hp]
 ·rw [List.take_of_length_le (by omega)] at g5
  rw [g5];exact hk
theorem find_take {α:Type} {p:α→Bool} {l:List α} {i:Nat} {e:α} (h:l[i]? =some e) (hn:(l.take i).find? p=none) (hp:p e=true):l.find? p=some e:=by
 have hd:l.drop i=e::l.drop (i+1):=by rw [List.drop_eq_getElem_cons (List.getElem?_eq_some_iff.1 h).1,(List.getElem?_eq_some_iff.1 h).2]
 have:l=l.take i++e::l.drop (i+1):=by rw [←hd];exact (List.take_append_drop i l).symm
 rw [this,List.find?_append,hn]
 simp [hp]
theorem vHolderC {c:Core} {n:Int} {k:Unit→Job × Unit→Prop} (h:oHolderC (c,n,()) k):V.vHolderC c n k:=by
 unfold V.vHolderC V.LP V.NX V.AT V.NM V.SH V.LN
 obtain ⟨hc,hk⟩:=h
 simp only [] at hc hk
 have hl:=hc.1.2.1
 have hil:=inJ_len c.J.jobs [3]
 unfold holderJ at hk
 refine ⟨Nat.le_refl _,⟨hc.1,by decide⟩,fun x=>x.1=inJ c.J.jobs [3]∧x.2.1=n∧0≤x.2.2∧x.2.2≤(inJ c.J.jobs [3]).length∧((inJ c.J.jobs [3]).take x.2.2.toNat).find? (fun j=>hasB j.Nodes n)=none,
  fun x=>((inJ c.J.jobs [3]).length-x.2.2).toNat,(inJ c.J.jobs [3],n,0),⟨rfl,rfl,Int.le_refl _,by simp,by simp⟩,⟨⟨rfl,rfl,⟨rfl,rfl⟩,rfl,rfl,trivial⟩,⟨rfl,rfl,rfl,rfl,rfl,rfl,rfl,rfl,rfl,rfl,trivial⟩,rfl,trivial⟩,?_⟩
 rintro ⟨js,m,i⟩ ⟨g1,g0,g2,g3,g5⟩
 simp only [] at g1 g0 g2 g3 g5
 subst g1 g0
 obtain ⟨i,rfl⟩:=Int.eq_ofNat_of_zero_le g2
 rw [Int.toNat_natCast] at g5
 dsimp only
 refine br_dec (fun hi=>⟨⟨g2,hi⟩,by simp;omega,fun e he=>?_⟩) (fun hi=>?_)
 ·rw [Nat.zero_add,Int.toNat_natCast] at he
  refine ⟨(ids_mem hc.1.2.2 (inJ_mem (List.mem_of_getElem? he)).1).2.2,br_bool (fun hb=>?_) (fun hb q hq=>?_)⟩
  ·rw [find_take he g5 hb] at hk;exact hk
  ·rw [w64 (by omega)] at hq
   subst hq
   refine ⟨(inJ c.J.jobs [3],m,(i:Int)+1),⟨rfl,rfl,by simp only [];omega,by simp only [];omega,?_⟩,⟨⟨rfl,rfl,⟨rfl,rfl⟩,rfl,rfl,trivial⟩,⟨rfl,rfl,rfl,rfl,rfl,rfl,rfl,rfl,rfl,rfl,trivial⟩,rfl,trivial⟩,by simp only [];omega⟩
   simp only []
   rw [show ((i:Int)+1).toNat=i+1 by omega,take_snoc' he,List.find?_append,g5]
   simp [hb]
 ·rw [List.take_of_length_le (by omega)] at g5
  rw [g5] at hk;exact hk
theorem vToldC {c:Core} {n:Int} {k:Unit→Reply × Unit→Prop} (h:oToldC (c,n,()) k):V.vToldC c n k:=by
 unfold V.vToldC V.SH
 obtain ⟨hc,hk⟩:=h
 simp only [] at hc hk
 unfold toldC at hk
 refine ⟨hc.1,br_not (fun h1=>?_) (fun h1=>?_)⟩
 ·have h1:(getJ c.J.jobs n).2≠0:=by simpa using h1
  rw [if_neg h1] at hk;exact hk
 ·have h1:(getJ c.J.jobs n).2=0:=by simpa using h1
  rw [if_pos h1] at hk;exact hk
theorem vWantsC {c:Core} {r:Req} {k:Unit→Int × Unit→Prop} (h:oWantsC (c,r,()) k):V.vWantsC c r k:=by
 unfold V.vWantsC V.SH
 obtain ⟨hc,hk⟩:=h
 simp only [] at hc hk
 unfold wantsC at hk
 have no: ∀{P:Prop} [Decidable P],¬ P→k () ((if P then 9 else 0:Int),())→k () (0,()):=fun hn h=>by rw [if_neg hn] at h;exact h
 refine ⟨br_bool (fun h1=>⟨⟨hc.2.1,br_dec (fun h2=>br_dec (fun h3=>br_dec (fun h4=>br_dec (fun h5=>br_dec (fun h6=>br_dec (fun h7=>?_) (fun h7=>no (fun hh=>h7 (by omega)) hk)) (fun h6=>no (fun hh=>h6 (by omega)) hk)) (fun h5=>no (fun hh=>h5 (by omega)) hk)) (fun h4=>no (fun hh=>h4 (by omega)) hk)) (fun h3=>no (fun hh=>h3 (by omega)) hk)) (fun h2=>no (fun hh=>h2 (by omega)) hk)⟩,trivial⟩) (fun h1=>⟨no (fun hh=>?_) hk,trivial⟩),trivial⟩
 ·have h1:r.Kind=1:=by simpa using h1
  rw [if_pos (by omega)] at hk;exact hk
 ·have h1:r.Kind≠1:=by simpa using h1
  exact h1 hh.1
theorem vUntilC {c:Core} {n:Int} {k:Unit→Int × Unit→Prop} (h:oUntilC (c,n,()) k):V.vUntilC c n k:=by
 unfold V.vUntilC V.NM V.SH
 obtain ⟨hc,hk⟩:=h
 simp only [] at hc hk
 unfold untilC at hk
 refine ⟨hc,br_not (fun h1=>⟨⟨hc.2.2,fun m hm=>?_⟩,trivial⟩) (fun h1=>⟨hc.2.2,?_⟩)⟩
 ·have h1:(holderJ c.J.jobs n).Id≠0:=by simpa using h1
  rw [if_pos h1] at hk
  subst hm
  simp only [max_if];exact hk
 ·have h1:(holderJ c.J.jobs n).Id=0:=by simpa using h1
  rw [if_neg (by omega)] at hk;exact hk
theorem core_eq {c d:Core} (h1:(c.J.jobs=d.J.jobs∧c.J.live=d.J.live∧c.J.made=d.J.made∧True)∧(c.N.all=d.N.all∧c.N.used=d.N.used∧c.N.drain=d.N.drain∧True)∧(c.P.steps=d.P.steps∧c.P.ver=d.P.ver∧True)∧c.closed=d.closed∧True):c=d:=by
 obtain ⟨⟨a1,a2,a3⟩,⟨b1,b2,b3⟩,⟨c1,c2⟩,e⟩:=c
 obtain ⟨⟨a1',a2',a3'⟩,⟨b1',b2',b3'⟩,⟨c1',c2'⟩,e'⟩:=d
 simp only [] at h1
 obtain ⟨⟨rfl,rfl,rfl,_⟩,⟨rfl,rfl,rfl,_⟩,⟨rfl,rfl,_⟩,rfl,_⟩:=h1
 rfl
theorem least2 {a b:Int} (h:a≤1152921504606846976):leastI [a,b]=min a b:=by
 simp only [leastI,List.foldl_cons,List.foldl_nil]
 omega
theorem fold_le {l:List Job}: ∀{a:Int},a≤1152921504606846976→l.foldl (fun t j=>min t j.End) a≤1152921504606846976:=by
 induction l with
 |nil=>intro a h;exact h
 |cons j r ih=>intro a h;exact ih (show min a j.End≤_ by omega)
theorem fold_le2 {l:List Span}: ∀{a:Int},a≤1152921504606846976→l.foldl (fun t s=>min t s.From) a≤1152921504606846976:=by
 induction l with
 |nil=>intro a h;exact h
 |cons j r ih=>intro a h;exact ih (show min a j.From≤_ by omega)
theorem vNextC {c:Core} {k:Unit→Int × Unit→Prop} (h:oNextC (c,()) k):V.vNextC c k:=by
 unfold V.vNextC V.LP V.NX V.AT V.NM V.SH V.LN
 obtain ⟨hc,hk⟩:=h
 simp only [] at hc hk
 have hl:=hc.1.2.1
 have hil:=inJ_len c.J.jobs [3]
 have hsl:=spans_len c.J.jobs
 unfold nextC at hk
 refine ⟨Nat.le_refl _,⟨hc.1,by decide⟩,fun x=>x.1=c∧x.2.1=inJ c.J.jobs [3]∧0≤x.2.2.2∧x.2.2.2≤(inJ c.J.jobs [3]).length∧x.2.2.1≤1152921504606846976∧x.2.2.1=((inJ c.J.jobs [3]).take x.2.2.2.toNat).foldl (fun t j=>min t j.End) 1152921504606846976,
  fun x=>((inJ c.J.jobs [3]).length-x.2.2.2).toNat,(c,inJ c.J.jobs [3],1152921504606846976,0),⟨rfl,rfl,Int.le_refl _,by simp,Int.le_refl _,by simp⟩,⟨⟨⟨⟨rfl,rfl,rfl,trivial⟩,⟨rfl,rfl,rfl,trivial⟩,⟨rfl,rfl,trivial⟩,rfl,trivial⟩,rfl,⟨rfl,rfl⟩,rfl,rfl,trivial⟩,rfl,trivial⟩,?_⟩
 rintro ⟨d,js,v,i⟩ ⟨g1,g0,g2,g3,g4,g5⟩
 simp only [] at g1 g0 g2 g3 g4 g5
 subst g1 g0
 obtain ⟨i,rfl⟩:=Int.eq_ofNat_of_zero_le g2
 rw [Int.toNat_natCast] at g5
 dsimp only
 refine br_dec (fun hi=>⟨⟨g2,hi⟩,by simp;omega,fun e he=>⟨Nat.le_refl _,by simp,fun n hn=>?_⟩⟩) (fun hi=>⟨hc,?_⟩)
 ·rw [Nat.zero_add,Int.toNat_natCast] at he
  rw [w64 (by omega)] at hn
  subst hn
  rw [least2 g4]
  refine ⟨(d,inJ d.J.jobs [3],min v e.End,(i:Int)+1),⟨rfl,rfl,by simp only [];omega,by simp only [];omega,by simp only [];omega,?_⟩,⟨⟨⟨⟨rfl,rfl,rfl,trivial⟩,⟨rfl,rfl,rfl,trivial⟩,⟨rfl,rfl,trivial⟩,rfl,trivial⟩,rfl,⟨rfl,rfl⟩,rfl,rfl,trivial⟩,rfl,trivial⟩,by simp only [];omega⟩
  simp only []
  rw [show ((i:Int)+1).toNat=i+1 by omega,take_snoc' he,List.foldl_append,←g5]
  rfl
 ·rw [List.take_of_length_le (by omega)] at g5
  rw [←g5] at hk
  refine ⟨fun x=>x.1=spansC d.J.jobs∧0≤x.2.2∧x.2.2≤(spansC d.J.jobs).length∧x.2.1≤1152921504606846976∧x.2.1=((spansC d.J.jobs).take x.2.2.toNat).foldl (fun t s=>min t s.From) v,
   fun x=>((spansC d.J.jobs).length-x.2.2).toNat,(spansC d.J.jobs,v,0),⟨rfl,Int.le_refl _,by simp,g4,by simp⟩,⟨⟨rfl,⟨rfl,rfl⟩,rfl,rfl,trivial⟩,rfl,trivial⟩,?_⟩
  rintro ⟨ss,u,q⟩ ⟨f1,f2,f3,f4,f5⟩
  simp only [] at f1 f2 f3 f4 f5
  subst f1
  obtain ⟨q,rfl⟩:=Int.eq_ofNat_of_zero_le f2
  rw [Int.toNat_natCast] at f5
  dsimp only
  refine br_dec (fun hi=>⟨⟨f2,hi⟩,by simp;omega,fun e he=>⟨Nat.le_refl _,by simp,fun n hn=>?_⟩⟩) (fun hi=>?_)
  ·rw [Nat.zero_add,Int.toNat_natCast] at he
   rw [w64 (by omega)] at hn
   subst hn
   rw [least2 f4]
   refine ⟨(spansC d.J.jobs,min u e.From,(q:Int)+1),⟨rfl,by simp only [];omega,by simp only [];omega,by simp only [];omega,?_⟩,⟨⟨rfl,⟨rfl,rfl⟩,rfl,rfl,trivial⟩,rfl,trivial⟩,by simp only [];omega⟩
   simp only []
   rw [show ((q:Int)+1).toNat=q+1 by omega,take_snoc' he,List.foldl_append,←f5]
   rfl
  ·rw [List.take_of_length_le (by omega)] at f5
   rw [←f5] at hk;exact hk
theorem vTimeC {c:Core} {k:Core × Unit→Unit→Prop} (h:oTimeC (c,()) k):V.vTimeC c k:=by
 obtain ⟨hc,hk⟩:=h
 simp only [] at hc hk
 have hl:=hc.1.2.1
 have hil:=inJ_len c.J.jobs [3]
 unfold timeoutsC at hk
 have hU: ∀e∈inJ c.J.jobs [3],U64 e.Nodes:=fun e he=>(ids_mem hc.1.2.2 (inJ_mem he).1).2.2
 generalize hL:inJ c.J.jobs [3]=L at hil hk hU
 unfold V.vTimeC V.LP V.NX V.AT V.NM V.SH V.LN
 rw [hL]
 refine ⟨Nat.le_refl _,⟨hc.1,by decide⟩,fun x=>CW x.1∧x.2.1=L∧0≤x.2.2∧x.2.2≤L.length∧x.1=(L.take x.2.2.toNat).foldl timeout1 c,
  fun x=>(L.length-x.2.2).toNat,(c,L,0),⟨hc,rfl,Int.le_refl _,by simp,by simp⟩,⟨⟨rfl,⟨rfl,rfl⟩,rfl,rfl,trivial⟩,rfl,rfl,trivial⟩,?_⟩
 rintro ⟨d,js,i⟩ ⟨g1,g0,g2,g3,g5⟩
 simp only [] at g1 g0 g2 g3 g5
 subst g0
 obtain ⟨i,rfl⟩:=Int.eq_ofNat_of_zero_le g2
 rw [Int.toNat_natCast] at g5
 dsimp only
 refine br_dec (fun hi=>⟨⟨g2,hi⟩,by simp;omega,fun e he=>?_⟩) (fun hi=>?_)
 ·rw [Nat.zero_add,Int.toNat_natCast] at he
  have nx: ∀d2,d2=timeout1 d e→ ∀n,n=IntKind.i64.wrap ((i:Int)+1)→ ∃y:Core × List Job × Int,(CW y.1∧y.2.1=js∧0≤y.2.2∧y.2.2≤js.length∧y.1=(js.take y.2.2.toNat).foldl timeout1 c)∧((0=0∧(0=0∧js.length=y.2.1.length)∧(js.length:Int)=y.2.1.length∧n=y.2.2∧True)∧d2=y.1∧js=y.2.1∧True)∧(js.length-y.2.2).toNat<(js.length-(i:Int)).toNat:=by
   intro d2 hd2 n hn
   rw [w64 (by omega)] at hn
   subst hn hd2
   refine ⟨(timeout1 d e,js,(i:Int)+1),⟨(timeout1_ok g1 e).1,rfl,by simp only [];omega,by simp only [];omega,?_⟩,⟨⟨rfl,⟨rfl,rfl⟩,rfl,rfl,trivial⟩,rfl,rfl,trivial⟩,by simp only [];omega⟩
   simp only []
   rw [show ((i:Int)+1).toNat=i+1 by omega,take_snoc' he,List.foldl_append,←g5]
   rfl
  refine ⟨⟨g1.2.2,br_dec (fun h1=>⟨⟨g1.1,⟨⟨g1.2.1,hU e (List.mem_of_getElem? he)⟩,fun n hn=>?_⟩,trivial⟩,trivial⟩) (fun h1 n hn=>?_)⟩,trivial⟩
  ·exact nx _ (by unfold timeout1;rw [if_pos (show e.End≤nowC d from h1)]) n hn
  ·exact nx _ (by unfold timeout1;rw [if_neg (show ¬ e.End≤nowC d from h1)]) n hn
 ·rw [List.take_of_length_le (by omega)] at g5
  rw [g5];exact hk
theorem vBeginC {c:Core} {j:Job} {k:Core × Unit→Unit→Prop} (h:oBeginC (c,j,()) k):V.vBeginC c j k:=by
 unfold V.vBeginC V.SH
 obtain ⟨hc,hk⟩:=h
 simp only [] at hc hk
 unfold beginC at hk
 refine ⟨⟨hc.2.1,br_bool (fun h1=>⟨⟨hc.2.2,⟨hc.1,?_⟩,trivial⟩,trivial⟩) (fun h1=>?_)⟩,trivial⟩
 ·have h1:(takeN c.N j.Width).1.2=0:=by simpa using h1
  rw [if_pos h1] at hk;exact hk
 ·have h1:(takeN c.N j.Width).1.2≠0:=by simpa using h1
  rw [if_neg h1] at hk
  rw [takeN_fail h1];exact hk
theorem vBeginsC {c:Core} {k:Core × Unit→Unit→Prop} (h:oBeginsC (c,()) k):V.vBeginsC c k:=by
 obtain ⟨hc,hk⟩:=h
 simp only [] at hc hk
 have hl:=hc.1.2.1
 have hil:=inJ_len c.J.jobs [1]
 rw [←sort_len] at hil
 unfold beginsC at hk
 generalize hL:sortJ (inJ c.J.jobs [1])=L at hil hk
 unfold V.vBeginsC V.vBeginsC_1 V.LP V.NX V.AT V.NM V.SH V.LN
 rw [hL]
 refine ⟨hc.1,fun x=>CW x.1∧x.2.1=L∧0≤x.2.2∧x.2.2≤L.length∧x.1=(L.take x.2.2.toNat).foldl begin1 c,
  fun x=>(L.length-x.2.2).toNat,(c,L,0),⟨hc,rfl,Int.le_refl _,by simp,by simp⟩,⟨⟨rfl,⟨rfl,rfl⟩,rfl,rfl,trivial⟩,rfl,rfl,trivial⟩,?_⟩
 rintro ⟨d,js,i⟩ ⟨g1,g0,g2,g3,g5⟩
 simp only [] at g1 g0 g2 g3 g5
 subst g0
 obtain ⟨i,rfl⟩:=Int.eq_ofNat_of_zero_le g2
 rw [Int.toNat_natCast] at g5
 dsimp only
 refine br_dec (fun hi=>⟨⟨g2,hi⟩,by simp;omega,fun e he=>?_⟩) (fun hi=>?_)
 ·rw [Nat.zero_add,Int.toNat_natCast] at he
  have nx: ∀d2,d2=begin1 d e→ ∀n,n=IntKind.i64.wrap ((i:Int)+1)→ ∃y:Core × List Job × Int,(CW y.1∧y.2.1=js∧0≤y.2.2∧y.2.2≤js.length∧y.1=(js.take y.2.2.toNat).foldl begin1 c)∧((0=0∧(0=0∧js.length=y.2.1.length)∧(js.length:Int)=y.2.1.length∧n=y.2.2∧True)∧d2=y.1∧js=y.2.1∧True)∧(js.length-y.2.2).toNat<(js.length-(i:Int)).toNat:=by
   intro d2 hd2 n hn
   rw [w64 (by omega)] at hn
   subst hn hd2
   refine ⟨(begin1 d e,js,(i:Int)+1),⟨(begin1_ok g1 e).1,rfl,by simp only [];omega,by simp only [];omega,?_⟩,⟨⟨rfl,⟨rfl,rfl⟩,rfl,rfl,trivial⟩,rfl,rfl,trivial⟩,by simp only [];omega⟩
   simp only []
   rw [show ((i:Int)+1).toNat=i+1 by omega,take_snoc' he,List.foldl_append,←g5]
   rfl
  refine br_dec (fun h1=>⟨⟨g1.2.2,br_dec (fun h2=>⟨g1,fun n hn=>?_⟩) (fun h2 n hn=>?_)⟩,trivial⟩) (fun h1=>⟨fun n hn=>?_,trivial⟩)
  ·exact nx _ (by unfold begin1;rw [if_pos (show 0≤e.Plan∧e.Plan≤nowC d from ⟨h1,h2⟩)]) n hn
  ·exact nx _ (by unfold begin1;rw [if_neg (fun hh=>h2 hh.2)]) n hn
  ·exact nx _ (by unfold begin1;rw [if_neg (fun hh=>h1 hh.1)]) n hn
 ·rw [List.take_of_length_le (by omega)] at g5
  rw [g5];exact hk
theorem vFitsC {c:Core} {x:Choice} {k:Unit→Bool × Unit→Prop} (h:oFitsC (c,x,()) k):V.vFitsC c x k:=by
 unfold V.vFitsC V.NM V.SH
 obtain ⟨⟨hc,hlen⟩,hk⟩:=h
 simp only [] at hc hlen hk
 have hk0:fitsC c x=false→k () (false,()):=fun h=>by rw [h] at hk;exact hk
 have key: ∀(h1:c.closed=false) (h2:(getJ c.J.jobs x.Id).2=0) (h3:(getJ c.J.jobs x.Id).1.State=1) (h4: ¬ x.At<nowL c.P.steps) (h5: ¬ x.At>1099511627776) (h6: ¬ (0≤(getJ c.J.jobs x.Id).1.Plan∧(getJ c.J.jobs x.Id).1.Plan≤x.At)) (n:Int),n=IntKind.i64.wrap (x.At+(getJ c.J.jobs x.Id).1.Limit)→
   fitsC c x=decide ((getJ c.J.jobs x.Id).1.Width≤leastL (if (planS (getJ c.J.jobs x.Id).1).2 then (addP c.P (planS (getJ c.J.jobs x.Id).1).1.From (planS (getJ c.J.jobs x.Id).1).1.To (planS (getJ c.J.jobs x.Id).1).1.Width).2 else c.P).steps x.At n):=by
  intro h1 h2 h3 h4 h5 h6 n hn
  subst hn
  unfold fitsC
  simp only []
  rw [if_neg (by rw [h1];decide),if_neg]
  intro hh
  rcases hh with hh |hh |hh |hh |hh
  ·exact hh h2
  ·exact hh h3
  ·exact h4 hh
  ·exact h5 hh
  ·exact h6 hh
 have no: ∀(hh:c.closed=true∨(getJ c.J.jobs x.Id).2≠0∨(getJ c.J.jobs x.Id).1.State≠1∨x.At<nowC c∨1099511627776<x.At∨(0≤(getJ c.J.jobs x.Id).1.Plan∧(getJ c.J.jobs x.Id).1.Plan≤x.At)),fitsC c x=false:=by
  intro hh
  unfold fitsC
  simp only []
  split
  ·rfl
  ·rename_i hc
   rw [if_pos]
   rcases hh with hh |hh
   ·exact absurd hh hc
   ·exact hh
 have ha:=fun f t n=>addP_ok (f:=f) (t:=t) (n:=n) hc.2.2 (by omega)
 have body: ∀(h1:c.closed=false) (h2:(getJ c.J.jobs x.Id).2=0) (h3:(getJ c.J.jobs x.Id).1.State=1) (h4: ¬ x.At<nowL c.P.steps) (h5: ¬ x.At>1099511627776) (h6: ¬ (0≤(getJ c.J.jobs x.Id).1.Plan∧(getJ c.J.jobs x.Id).1.Plan≤x.At)),
   br (planS (getJ c.J.jobs x.Id).1).2 (PW c.P∧(PW c.P∧c.P.steps.length≤4294967290)∧ ∀n,n=IntKind.wrap IntKind.i64 (x.At+(getJ c.J.jobs x.Id).1.Limit)→(PW (addP c.P (planS (getJ c.J.jobs x.Id).1).1.From (planS (getJ c.J.jobs x.Id).1).1.To (planS (getJ c.J.jobs x.Id).1).1.Width).2∧k () (decide (leastL (addP c.P (planS (getJ c.J.jobs x.Id).1).1.From (planS (getJ c.J.jobs x.Id).1).1.To (planS (getJ c.J.jobs x.Id).1).1.Width).2.steps x.At n≥(getJ c.J.jobs x.Id).1.Width),()))∧True)
    (∀n,n=IntKind.wrap IntKind.i64 (x.At+(getJ c.J.jobs x.Id).1.Limit)→(PW c.P∧k () (decide (leastL c.P.steps x.At n≥(getJ c.J.jobs x.Id).1.Width),()))∧True):=by
  intro h1 h2 h3 h4 h5 h6
  refine br_bool (fun hp=>⟨hc.2.2,⟨hc.2.2,hlen⟩,fun n hn=>⟨⟨(ha _ _ _).1,?_⟩,trivial⟩⟩) (fun hp n hn=>⟨⟨hc.2.2,?_⟩,trivial⟩)
  ·have:=key h1 h2 h3 h4 h5 h6 n hn
   rw [if_pos hp] at this
   rw [this] at hk;exact hk
  ·have:=key h1 h2 h3 h4 h5 h6 n hn
   rw [if_neg (by rw [hp];decide)] at this
   rw [this] at hk;exact hk
 refine br_bool (fun h1=>hk0 (no (.inl h1))) (fun h1=>?_)
 have h1:c.closed=false:=h1
 refine ⟨⟨hc.1,⟨?_,trivial⟩,trivial⟩,⟨⟨hc.1,?_,trivial⟩,trivial⟩,trivial⟩
 all_goals
  refine br_not (fun h2=>?_) (fun h2=>br_not (fun h3=>?_) (fun h3=>?_))
  ·have h2:(getJ c.J.jobs x.Id).2≠0:=by simpa using h2
   exact ⟨hk0 (no (.inr (.inl h2))),trivial⟩
  ·have h3:(getJ c.J.jobs x.Id).1.State≠1:=by simpa using h3
   exact ⟨hk0 (no (.inr (.inr (.inl h3)))),trivial⟩
  ·have h2:(getJ c.J.jobs x.Id).2=0:=by simpa using h2
   have h3:(getJ c.J.jobs x.Id).1.State=1:=by simpa using h3
   refine ⟨⟨hc.2.2,br_dec (fun h4=>?_) (fun h4=>br_dec (fun h5=>?_) (fun h5=>br_dec (fun h6=>br_dec (fun h7=>?_) (fun h7=>body h1 h2 h3 h4 h5 (fun hh=>h7 hh.2))) (fun h6=>body h1 h2 h3 h4 h5 (fun hh=>h6 hh.1))))⟩,trivial⟩
   ·exact hk0 (no (.inr (.inr (.inr (.inl h4)))))
   ·exact hk0 (no (.inr (.inr (.inr (.inr (.inl h5))))))
   ·exact hk0 (no (.inr (.inr (.inr (.inr (.inr ⟨h6,h7⟩))))))
end Go.Ax.O
