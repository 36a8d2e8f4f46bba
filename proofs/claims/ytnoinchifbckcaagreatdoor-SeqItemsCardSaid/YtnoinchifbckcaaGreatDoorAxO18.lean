import Derived.Test.YtnoinchifbckcaaGreatDoorAxO17
set_option linter.all false
namespace Go.Ax.Law
open Go.Ax.O
theorem planS_some {j:Job} (h:(planS j).2=true):j.State=1∧0≤j.Plan∧(planS j).1=⟨j.Plan,wr (j.Plan+j.Limit),j.Width⟩:=by
 unfold planS at h ⊢
 split
 ·rename_i hc;rw [if_pos hc] at h;cases h
 ·exact ⟨by omega,by omega,rfl⟩
theorem spans_len (l:List Job):(spansC l).length≤l.length:=by
 unfold spansC
 have:=List.length_filterMap_le (f:=fun j=>if (planS j).2 then some (planS j).1 else none) (l:=inJ l [1])
 have:=inJ_len l [1]
 omega
theorem newN_ok {n:Int} (h1:1≤n) (h2:n≤64):NW (newN n):=by
 have:U64 (allS n)∧allS n≠0:=by
  unfold allS
  rw [if_neg (by omega)]
  split
  ·exact ⟨⟨by decide,by decide⟩,by decide⟩
  ·obtain ⟨m,rfl⟩:=Int.eq_ofNat_of_zero_le (show 0≤n by omega)
   rw [Int.toNat_natCast]
   have h3:=pow_lt (show m<64 by omega)
   have h4:2^1≤2^m:=Nat.pow_le_pow_right (by decide) (by omega)
   exact ⟨U64.nat (by omega),by omega⟩
 exact ⟨this.1,U64.zero,U64.zero,this.2⟩
theorem newCore_ok {n:Int} (h1:1≤n) (h2:n≤64):CW (newCore n):=
 ⟨⟨rfl,Nat.zero_le _,fun i j hj=>by simp [newCore,newJs] at hj⟩,newN_ok h1 h2,⟨by simp [newCore,newP],by simp [newCore,newP,Rising],by simp [newCore,newP]⟩⟩
end Go.Ax.Law
namespace Go.Ax.O
open Go.Ax.Sp Go.Ax.Law
theorem vNoneC {c:Core} {k:Unit→Bool × Unit→Prop} (h:oNoneC (some c,()) k):V.vNoneC c k:=h
theorem vNoneCN {k:Unit→Bool × Unit→Prop} (h:oNoneC (none,()) k):V.vNoneCN k:=h
theorem vClosedC {c:Core} {k:Unit→Bool × Unit→Prop} (h:oClosedC (some c,()) k):V.vClosedC c k:=h
theorem vClosedCN {k:Unit→Bool × Unit→Prop} (h:oClosedC (none,()) k):V.vClosedCN k:=h
theorem vNewC {n:Int} {k:Unit→Option Core × Int × Unit→Prop} (h:oNewC (n,()) k):V.vNewC n k:=⟨h.1,fun hn=>⟨hn,h.2 hn⟩⟩
theorem vTwinC {c:Core} {k:Unit→Option Core × Unit→Prop} (h:oTwinC (c,()) k):V.vTwinC c k:=by
 obtain ⟨hc,hk⟩:=h
 exact ⟨⟨hc.1,⟨hc.2.1,⟨hc.2.2,hk,trivial⟩,trivial⟩,trivial⟩,trivial⟩
theorem vPlanS {j:Job} {k:Unit→Span × Bool × Unit→Prop} (h:oPlanS (j,()) k):V.vPlanS j k:=by
 have h:k () ((planS j).1,(planS j).2,()):=h
 unfold planS at h
 refine br_not (fun h1=>?_) (fun h1=>br_dec (fun h2=>?_) (fun h2 n hn=>?_))
 ·have h1:j.State≠1:=by simpa using h1
  rw [if_pos (.inl h1)] at h;exact h
 ·rw [if_pos (.inr h2)] at h;exact h
 ·have h1:j.State=1:=by simpa using h1
  rw [if_neg (by omega)] at h
  subst hn;exact h
theorem vSpansC {c:Core} {k:Unit→List Span × Unit→Prop} (h:oSpansC (c,()) k):V.vSpansC c k:=by
 obtain ⟨hc,hk⟩:=h
 simp only [] at hc hk
 have hl:=hc.1.2.1
 have hil:=inJ_len c.J.jobs [1]
 refine ⟨Nat.le_refl _,⟨hc.1,by decide⟩,fun x=>x.1=inJ c.J.jobs [1]∧0≤x.2.2∧x.2.2≤(inJ c.J.jobs [1]).length∧x.2.1.length≤1024∧x.2.1=((inJ c.J.jobs [1]).take x.2.2.toNat).filterMap fun j=>if (planS j).2 then some (planS j).1 else none,
  fun x=>((inJ c.J.jobs [1]).length-x.2.2).toNat,(inJ c.J.jobs [1],[],0),⟨rfl,Int.le_refl _,by simp,by simp,by simp⟩,⟨⟨⟨rfl,rfl⟩,⟨rfl,rfl⟩,rfl,rfl,trivial⟩,rfl,rfl,trivial⟩,?_⟩
 rintro ⟨js,out,i⟩ ⟨g1,g2,g3,g4,g5⟩
 simp only [] at g1 g2 g3 g4 g5
 subst g1
 obtain ⟨i,rfl⟩:=Int.eq_ofNat_of_zero_le g2
 rw [Int.toNat_natCast] at g5
 have hol:out.length≤i:=by
  rw [g5]
  have:=List.length_filterMap_le (f:=fun j=>if (planS j).2 then some (planS j).1 else none) (l:=(inJ c.J.jobs [1]).take i)
  have:=List.length_take_le i (inJ c.J.jobs [1])
  omega
 dsimp only
 refine br_dec (fun hi=>⟨⟨g2,hi⟩,by simp;omega,fun e he=>br_bool (fun hp=>⟨Nat.le_refl _,by omega,by omega,fun n hn=>?_⟩) (fun hp n hn=>?_)⟩) (fun hi=>⟨rfl,?_⟩)
 ·rw [Nat.zero_add,Int.toNat_natCast] at he
  rw [w64 (by omega)] at hn
  subst hn
  refine ⟨(inJ c.J.jobs [1],out++[(planS e).1],(i:Int)+1),⟨rfl,by simp only [];omega,by simp only [];omega,by simp;omega,?_⟩,⟨⟨⟨rfl,by simp⟩,⟨rfl,rfl⟩,rfl,rfl,trivial⟩,rfl,by rw [td],trivial⟩,by simp only [];omega⟩
  simp only []
  rw [show ((i:Int)+1).toNat=i+1 by omega,take_snoc' he,List.filterMap_append,←g5]
  simp [hp]
 ·rw [Nat.zero_add,Int.toNat_natCast] at he
  rw [w64 (by omega)] at hn
  subst hn
  refine ⟨(inJ c.J.jobs [1],out,(i:Int)+1),⟨rfl,by simp only [];omega,by simp only [];omega,g4,?_⟩,⟨⟨⟨rfl,rfl⟩,⟨rfl,rfl⟩,rfl,rfl,trivial⟩,rfl,rfl,trivial⟩,by simp only [];omega⟩
  simp only []
  rw [show ((i:Int)+1).toNat=i+1 by omega,take_snoc' he,List.filterMap_append,←g5]
  simp [hp]
 ·rw [List.take_of_length_le (by omega)] at g5
  rw [g5];exact hk
theorem find_take {α:Type} {p:α→Bool} {l:List α} {i:Nat} {e:α} (h:l[i]? =some e) (hn:(l.take i).find? p=none) (hp:p e=true):l.find? p=some e:=by
 have hd:l.drop i=e::l.drop (i+1):=by rw [List.drop_eq_getElem_cons (List.getElem?_eq_some_iff.1 h).1,(List.getElem?_eq_some_iff.1 h).2]
 have:l=l.take i++e::l.drop (i+1):=by rw [←hd];exact (List.take_append_drop i l).symm
 rw [this,List.find?_append,hn]
 simp [hp]
theorem vHolderC {c:Core} {n:Int} {k:Unit→Job × Unit→Prop} (h:oHolderC (c,n,()) k):V.vHolderC c n k:=by
 obtain ⟨hc,hk⟩:=h
 simp only [] at hc hk
 have hl:=hc.1.2.1
 have hil:=inJ_len c.J.jobs [3]
 unfold holderJ at hk
 refine ⟨Nat.le_refl _,⟨hc.1,by decide⟩,fun x=>x.1=inJ c.J.jobs [3]∧x.2.1=n∧0≤x.2.2∧x.2.2≤(inJ c.J.jobs [3]).length∧((inJ c.J.jobs [3]).take x.2.2.toNat).find? (fun j=>hasB j.Nodes n)=none,
  fun x=>((inJ c.J.jobs [3]).length-x.2.2).toNat,(inJ c.J.jobs [3],n,0),⟨rfl,rfl,Int.le_refl _,by simp,by simp⟩,⟨⟨rfl,rfl,⟨rfl,rfl⟩,rfl,rfl,trivial⟩,⟨rfl,rfl,rfl,rfl,rfl,rfl,rfl,rfl,rfl,rfl,trivial⟩,rfl,trivial⟩,?_⟩
 rintro ⟨js,m,i⟩ ⟨g1,g0,g2,g3,g5⟩
 simp only [] at g1 g0 g2 g3 g5
 subst g1 g0
 obtain ⟨i,rfl⟩:=Int.eq_ofNat_of_zero_le g2
 rw [Int.toNat_natCast] at g5
 dsimp only
 refine br_dec (fun hi=>⟨⟨g2,hi⟩,by simp;omega,fun e he=>?_⟩) (fun hi=>?_)
 ·rw [Nat.zero_add,Int.toNat_natCast] at he
  refine ⟨(ids_mem hc.1.2.2 (inJ_mem (List.mem_of_getElem? he)).1).2.2,br_bool (fun hb=>?_) (fun hb q hq=>?_)⟩
  ·rw [find_take he g5 hb] at hk;exact hk
  ·rw [w64 (by omega)] at hq
   subst hq
   refine ⟨(inJ c.J.jobs [3],m,(i:Int)+1),⟨rfl,rfl,by simp only [];omega,by simp only [];omega,?_⟩,⟨⟨rfl,rfl,⟨rfl,rfl⟩,rfl,rfl,trivial⟩,⟨rfl,rfl,rfl,rfl,rfl,rfl,rfl,rfl,rfl,rfl,trivial⟩,rfl,trivial⟩,by simp only [];omega⟩
   simp only []
   rw [show ((i:Int)+1).toNat=i+1 by omega,take_snoc' he,List.find?_append,g5]
   simp [hb]
 ·rw [List.take_of_length_le (by omega)] at g5
  rw [g5] at hk;exact hk
theorem vToldC {c:Core} {n:Int} {k:Unit→Reply × Unit→Prop} (h:oToldC (c,n,()) k):V.vToldC c n k:=by
 obtain ⟨hc,hk⟩:=h
 simp only [] at hc hk
 unfold toldC at hk
 refine ⟨hc.1,br_not (fun h1=>?_) (fun h1=>?_)⟩
 ·have h1:(getJ c.J.jobs n).2≠0:=by simpa using h1
  rw [if_neg h1] at hk;exact hk
 ·have h1:(getJ c.J.jobs n).2=0:=by simpa using h1
  rw [if_pos h1] at hk;exact hk
theorem vWantsC {c:Core} {r:Req} {k:Unit→Int × Unit→Prop} (h:oWantsC (c,r,()) k):V.vWantsC c r k:=by
 obtain ⟨hc,hk⟩:=h
 simp only [] at hc hk
 unfold wantsC at hk
 have no: ∀{P:Prop} [Decidable P],¬ P→k () ((if P then 9 else 0:Int),())→k () (0,()):=fun hn h=>by rw [if_neg hn] at h;exact h
 refine ⟨br_bool (fun h1=>⟨⟨hc.2.1,br_dec (fun h2=>br_dec (fun h3=>br_dec (fun h4=>br_dec (fun h5=>br_dec (fun h6=>br_dec (fun h7=>?_) (fun h7=>no (fun hh=>h7 (by omega)) hk)) (fun h6=>no (fun hh=>h6 (by omega)) hk)) (fun h5=>no (fun hh=>h5 (by omega)) hk)) (fun h4=>no (fun hh=>h4 (by omega)) hk)) (fun h3=>no (fun hh=>h3 (by omega)) hk)) (fun h2=>no (fun hh=>h2 (by omega)) hk)⟩,trivial⟩) (fun h1=>⟨no (fun hh=>?_) hk,trivial⟩),trivial⟩
 ·have h1:r.Kind=1:=by simpa using h1
  rw [if_pos (by omega)] at hk;exact hk
 ·have h1:r.Kind≠1:=by simpa using h1
  exact h1 hh.1
theorem vUntilC {c:Core} {n:Int} {k:Unit→Int × Unit→Prop} (h:oUntilC (c,n,()) k):V.vUntilC c n k:=by
 obtain ⟨hc,hk⟩:=h
 simp only [] at hc hk
 unfold untilC at hk
 refine ⟨hc,br_not (fun h1=>⟨⟨hc.2.2,fun m hm=>?_⟩,trivial⟩) (fun h1=>⟨hc.2.2,?_⟩)⟩
 ·have h1:(holderJ c.J.jobs n).Id≠0:=by simpa using h1
  rw [if_pos h1] at hk
  subst hm
  rw [max_if];exact hk
 ·have h1:(holderJ c.J.jobs n).Id=0:=by simpa using h1
  rw [if_neg (by omega)] at hk;exact hk
theorem core_eq {c d:Core} (h1:(c.J.jobs=d.J.jobs∧c.J.live=d.J.live∧c.J.made=d.J.made∧True)∧(c.N.all=d.N.all∧c.N.used=d.N.used∧c.N.drain=d.N.drain∧True)∧(c.P.steps=d.P.steps∧c.P.ver=d.P.ver∧True)∧c.closed=d.closed∧True):c=d:=by
 obtain ⟨⟨a1,a2,a3⟩,⟨b1,b2,b3⟩,⟨c1,c2⟩,e⟩:=c
 obtain ⟨⟨a1',a2',a3'⟩,⟨b1',b2',b3'⟩,⟨c1',c2'⟩,e'⟩:=d
 simp only [] at h1
 obtain ⟨⟨rfl,rfl,rfl,_⟩,⟨rfl,rfl,rfl,_⟩,⟨rfl,rfl,_⟩,rfl,_⟩:=h1
 rfl
theorem least2 {a b:Int} (h:a≤1152921504606846976):leastI [a,b]=min a b:=by
 simp only [leastI,List.foldl_cons,List.foldl_nil]
 omega
theorem fold_le {l:List Job}: ∀{a:Int},a≤1152921504606846976→l.foldl (fun t j=>min t j.End) a≤1152921504606846976:=by
 induction l with
 |nil=>intro a h;exact h
 |cons j r ih=>intro a h;exact ih (show min a j.End≤_ by omega)
theorem fold_le2 {l:List Span}: ∀{a:Int},a≤1152921504606846976→l.foldl (fun t s=>min t s.From) a≤1152921504606846976:=by
 induction l with
 |nil=>intro a h;exact h
 |cons j r ih=>intro a h;exact ih (show min a j.From≤_ by omega)
theorem vNextC {c:Core} {k:Unit→Int × Unit→Prop} (h:oNextC (c,()) k):V.vNextC c k:=by
 obtain ⟨hc,hk⟩:=h
 simp only [] at hc hk
 have hl:=hc.1.2.1
 have hil:=inJ_len c.J.jobs [3]
 have hsl:=spans_len c.J.jobs
 unfold nextC at hk
 refine ⟨Nat.le_refl _,⟨hc.1,by decide⟩,fun x=>x.1=c∧x.2.1=inJ c.J.jobs [3]∧0≤x.2.2.2∧x.2.2.2≤(inJ c.J.jobs [3]).length∧x.2.2.1≤1152921504606846976∧x.2.2.1=((inJ c.J.jobs [3]).take x.2.2.2.toNat).foldl (fun t j=>min t j.End) 1152921504606846976,
  fun x=>((inJ c.J.jobs [3]).length-x.2.2.2).toNat,(c,inJ c.J.jobs [3],1152921504606846976,0),⟨rfl,rfl,Int.le_refl _,by simp,Int.le_refl _,by simp⟩,⟨⟨⟨⟨rfl,rfl,rfl,trivial⟩,⟨rfl,rfl,rfl,trivial⟩,⟨rfl,rfl,trivial⟩,rfl,trivial⟩,rfl,⟨rfl,rfl⟩,rfl,rfl,trivial⟩,rfl,trivial⟩,?_⟩
 rintro ⟨d,js,v,i⟩ ⟨g1,g0,g2,g3,g4,g5⟩
 simp only [] at g1 g0 g2 g3 g4 g5
 subst g1 g0
 obtain ⟨i,rfl⟩:=Int.eq_ofNat_of_zero_le g2
 rw [Int.toNat_natCast] at g5
 dsimp only
 refine br_dec (fun hi=>⟨⟨g2,hi⟩,by simp;omega,fun e he=>⟨Nat.le_refl _,by simp,fun n hn=>?_⟩⟩) (fun hi=>⟨hc,?_⟩)
 ·rw [Nat.zero_add,Int.toNat_natCast] at he
  rw [w64 (by omega)] at hn
  subst hn
  rw [least2 g4]
  refine ⟨(d,inJ d.J.jobs [3],min v e.End,(i:Int)+1),⟨rfl,rfl,by simp only [];omega,by simp only [];omega,by simp only [];omega,?_⟩,⟨⟨⟨⟨rfl,rfl,rfl,trivial⟩,⟨rfl,rfl,rfl,trivial⟩,⟨rfl,rfl,trivial⟩,rfl,trivial⟩,rfl,⟨rfl,rfl⟩,rfl,rfl,trivial⟩,rfl,trivial⟩,by simp only [];omega⟩
  simp only []
  rw [show ((i:Int)+1).toNat=i+1 by omega,take_snoc' he,List.foldl_append,←g5]
  rfl
 ·rw [List.take_of_length_le (by omega)] at g5
  rw [←g5] at hk
  refine ⟨fun x=>x.1=spansC d.J.jobs∧0≤x.2.2∧x.2.2≤(spansC d.J.jobs).length∧x.2.1≤1152921504606846976∧x.2.1=((spansC d.J.jobs).take x.2.2.toNat).foldl (fun t s=>min t s.From) v,
   fun x=>((spansC d.J.jobs).length-x.2.2).toNat,(spansC d.J.jobs,v,0),⟨rfl,Int.le_refl _,by simp,g4,by simp⟩,⟨⟨rfl,⟨rfl,rfl⟩,rfl,rfl,trivial⟩,rfl,trivial⟩,?_⟩
  rintro ⟨ss,u,q⟩ ⟨f1,f2,f3,f4,f5⟩
  simp only [] at f1 f2 f3 f4 f5
  subst f1
  obtain ⟨q,rfl⟩:=Int.eq_ofNat_of_zero_le f2
  rw [Int.toNat_natCast] at f5
  dsimp only
  refine br_dec (fun hi=>⟨⟨f2,hi⟩,by simp;omega,fun e he=>⟨Nat.le_refl _,by simp,fun n hn=>?_⟩⟩) (fun hi=>?_)
  ·rw [Nat.zero_add,Int.toNat_natCast] at he
   rw [w64 (by omega)] at hn
   subst hn
   rw [least2 f4]
   refine ⟨(spansC d.J.jobs,min u e.From,(q:Int)+1),⟨rfl,by simp only [];omega,by simp only [];omega,by simp only [];omega,?_⟩,⟨⟨rfl,⟨rfl,rfl⟩,rfl,rfl,trivial⟩,rfl,trivial⟩,by simp only [];omega⟩
   simp only []
   rw [show ((q:Int)+1).toNat=q+1 by omega,take_snoc' he,List.foldl_append,←f5]
   rfl
  ·rw [List.take_of_length_le (by omega)] at f5
   rw [←f5] at hk;exact hk
theorem vTimeC {c:Core} {k:Core × Unit→Unit→Prop} (h:oTimeC (c,()) k):V.vTimeC c k:=by
 obtain ⟨hc,hk⟩:=h
 simp only [] at hc hk
 have hl:=hc.1.2.1
 have hil:=inJ_len c.J.jobs [3]
 unfold timeoutsC at hk
 have hU: ∀e∈inJ c.J.jobs [3],U64 e.Nodes:=fun e he=>(ids_mem hc.1.2.2 (inJ_mem he).1).2.2
 generalize hL:inJ c.J.jobs [3]=L at hil hk hU
 unfold V.vTimeC
 rw [hL]
 refine ⟨Nat.le_refl _,⟨hc.1,by decide⟩,fun x=>CW x.1∧x.2.1=L∧0≤x.2.2∧x.2.2≤L.length∧x.1=(L.take x.2.2.toNat).foldl timeout1 c,
  fun x=>(L.length-x.2.2).toNat,(c,L,0),⟨hc,rfl,Int.le_refl _,by simp,by simp⟩,⟨⟨rfl,⟨rfl,rfl⟩,rfl,rfl,trivial⟩,rfl,rfl,trivial⟩,?_⟩
 rintro ⟨d,js,i⟩ ⟨g1,g0,g2,g3,g5⟩
 simp only [] at g1 g0 g2 g3 g5
 subst g0
 obtain ⟨i,rfl⟩:=Int.eq_ofNat_of_zero_le g2
 rw [Int.toNat_natCast] at g5
 dsimp only
 refine br_dec (fun hi=>⟨⟨g2,hi⟩,by simp;omega,fun e he=>?_⟩) (fun hi=>?_)
 ·rw [Nat.zero_add,Int.toNat_natCast] at he
  have nx: ∀d2,d2=timeout1 d e→ ∀n,n=IntKind.i64.wrap ((i:Int)+1)→ ∃y:Core × List Job × Int,(CW y.1∧y.2.1=js∧0≤y.2.2∧y.2.2≤js.length∧y.1=(js.take y.2.2.toNat).foldl timeout1 c)∧((0=0∧(0=0∧js.length=y.2.1.length)∧(js.length:Int)=y.2.1.length∧n=y.2.2∧True)∧d2=y.1∧js=y.2.1∧True)∧(js.length-y.2.2).toNat<(js.length-(i:Int)).toNat:=by
   intro d2 hd2 n hn
   rw [w64 (by omega)] at hn
   subst hn hd2
   refine ⟨(timeout1 d e,js,(i:Int)+1),⟨(timeout1_ok g1 e).1,rfl,by simp only [];omega,by simp only [];omega,?_⟩,⟨⟨rfl,⟨rfl,rfl⟩,rfl,rfl,trivial⟩,rfl,rfl,trivial⟩,by simp only [];omega⟩
   simp only []
   rw [show ((i:Int)+1).toNat=i+1 by omega,take_snoc' he,List.foldl_append,←g5]
   rfl
  refine ⟨⟨g1.2.2,br_dec (fun h1=>⟨⟨g1.1,⟨⟨g1.2.1,hU e (List.mem_of_getElem? he)⟩,fun n hn=>?_⟩,trivial⟩,trivial⟩) (fun h1 n hn=>?_)⟩,trivial⟩
  ·exact nx _ (by unfold timeout1;rw [if_pos (show e.End≤nowC d from h1)]) n hn
  ·exact nx _ (by unfold timeout1;rw [if_neg (show ¬ e.End≤nowC d from h1)]) n hn
 ·rw [List.take_of_length_le (by omega)] at g5
  rw [g5];exact hk
theorem vBeginC {c:Core} {j:Job} {k:Core × Unit→Unit→Prop} (h:oBeginC (c,j,()) k):V.vBeginC c j k:=by
 obtain ⟨hc,hk⟩:=h
 simp only [] at hc hk
 unfold beginC at hk
 refine ⟨⟨hc.2.1,br_bool (fun h1=>⟨⟨hc.2.2,⟨hc.1,?_⟩,trivial⟩,trivial⟩) (fun h1=>?_)⟩,trivial⟩
 ·have h1:(takeN c.N j.Width).1.2=0:=by simpa using h1
  rw [if_pos h1] at hk;exact hk
 ·have h1:(takeN c.N j.Width).1.2≠0:=by simpa using h1
  rw [if_neg h1] at hk
  rw [takeN_fail h1];exact hk
theorem vBeginsC {c:Core} {k:Core × Unit→Unit→Prop} (h:oBeginsC (c,()) k):V.vBeginsC c k:=by
 obtain ⟨hc,hk⟩:=h
 simp only [] at hc hk
 have hl:=hc.1.2.1
 have hil:=inJ_len c.J.jobs [1]
 rw [←sort_len] at hil
 unfold beginsC at hk
 generalize hL:sortJ (inJ c.J.jobs [1])=L at hil hk
 unfold V.vBeginsC V.vBeginsC_1
 rw [hL]
 refine ⟨hc.1,fun x=>CW x.1∧x.2.1=L∧0≤x.2.2∧x.2.2≤L.length∧x.1=(L.take x.2.2.toNat).foldl begin1 c,
  fun x=>(L.length-x.2.2).toNat,(c,L,0),⟨hc,rfl,Int.le_refl _,by simp,by simp⟩,⟨⟨rfl,⟨rfl,rfl⟩,rfl,rfl,trivial⟩,rfl,rfl,trivial⟩,?_⟩
 rintro ⟨d,js,i⟩ ⟨g1,g0,g2,g3,g5⟩
 simp only [] at g1 g0 g2 g3 g5
 subst g0
 obtain ⟨i,rfl⟩:=Int.eq_ofNat_of_zero_le g2
 rw [Int.toNat_natCast] at g5
 dsimp only
 refine br_dec (fun hi=>⟨⟨g2,hi⟩,by simp;omega,fun e he=>?_⟩) (fun hi=>?_)
 ·rw [Nat.zero_add,Int.toNat_natCast] at he
  have nx: ∀d2,d2=begin1 d e→ ∀n,n=IntKind.i64.wrap ((i:Int)+1)→ ∃y:Core × List Job × Int,(CW y.1∧y.2.1=js∧0≤y.2.2∧y.2.2≤js.length∧y.1=(js.take y.2.2.toNat).foldl begin1 c)∧((0=0∧(0=0∧js.length=y.2.1.length)∧(js.length:Int)=y.2.1.length∧n=y.2.2∧True)∧d2=y.1∧js=y.2.1∧True)∧(js.length-y.2.2).toNat<(js.length-(i:Int)).toNat:=by
   intro d2 hd2 n hn
   rw [w64 (by omega)] at hn
   subst hn hd2
   refine ⟨(begin1 d e,js,(i:Int)+1),⟨(begin1_ok g1 e).1,rfl,by simp only [];omega,by simp only [];omega,?_⟩,⟨⟨rfl,⟨rfl,rfl⟩,rfl,rfl,trivial⟩,rfl,rfl,trivial⟩,by simp only [];omega⟩
   simp only []
   rw [show ((i:Int)+1).toNat=i+1 by omega,take_snoc' he,List.foldl_append,←g5]
   rfl
  refine br_dec (fun h1=>⟨⟨g1.2.2,br_dec (fun h2=>⟨g1,fun n hn=>?_⟩) (fun h2 n hn=>?_)⟩,trivial⟩) (fun h1=>⟨fun n hn=>?_,trivial⟩)
  ·exact nx _ (by unfold begin1;rw [if_pos (show 0≤e.Plan∧e.Plan≤nowC d from ⟨h1,h2⟩)]) n hn
  ·exact nx _ (by unfold begin1;rw [if_neg (fun hh=>h2 hh.2)]) n hn
  ·exact nx _ (by unfold begin1;rw [if_neg (fun hh=>h1 hh.1)]) n hn
 ·rw [List.take_of_length_le (by omega)] at g5
  rw [g5];exact hk
theorem vFitsC {c:Core} {x:Choice} {k:Unit→Bool × Unit→Prop} (h:oFitsC (c,x,()) k):V.vFitsC c x k:=by
 obtain ⟨⟨hc,hlen⟩,hk⟩:=h
 simp only [] at hc hlen hk
 have hk0:fitsC c x=false→k () (false,()):=fun h=>by rw [h] at hk;exact hk
 have key: ∀(h1:c.closed=false) (h2:(getJ c.J.jobs x.Id).2=0) (h3:(getJ c.J.jobs x.Id).1.State=1) (h4: ¬ x.At<nowL c.P.steps) (h5: ¬ x.At>1099511627776) (h6: ¬ (0≤(getJ c.J.jobs x.Id).1.Plan∧(getJ c.J.jobs x.Id).1.Plan≤x.At)) (n:Int),n=IntKind.i64.wrap (x.At+(getJ c.J.jobs x.Id).1.Limit)→
   fitsC c x=decide ((getJ c.J.jobs x.Id).1.Width≤leastL (if (planS (getJ c.J.jobs x.Id).1).2 then (addP c.P (planS (getJ c.J.jobs x.Id).1).1.From (planS (getJ c.J.jobs x.Id).1).1.To (planS (getJ c.J.jobs x.Id).1).1.Width).2 else c.P).steps x.At n):=by
  intro h1 h2 h3 h4 h5 h6 n hn
  subst hn
  unfold fitsC
  simp only []
  rw [if_neg (by rw [h1];decide),if_neg]
  intro hh
  rcases hh with hh |hh |hh |hh |hh
  ·exact hh h2
  ·exact hh h3
  ·exact h4 hh
  ·exact h5 hh
  ·exact h6 hh
 have no: ∀(hh:c.closed=true∨(getJ c.J.jobs x.Id).2≠0∨(getJ c.J.jobs x.Id).1.State≠1∨x.At<nowC c∨1099511627776<x.At∨(0≤(getJ c.J.jobs x.Id).1.Plan∧(getJ c.J.jobs x.Id).1.Plan≤x.At)),fitsC c x=false:=by
  intro hh
  unfold fitsC
  simp only []
  split
  ·rfl
  ·rename_i hc
   rw [if_pos]
   rcases hh with hh |hh
   ·exact absurd hh hc
   ·exact hh
 have ha:=fun f t n=>addP_ok (f:=f) (t:=t) (n:=n) hc.2.2 (by omega)
 have body: ∀(h1:c.closed=false) (h2:(getJ c.J.jobs x.Id).2=0) (h3:(getJ c.J.jobs x.Id).1.State=1) (h4: ¬ x.At<nowL c.P.steps) (h5: ¬ x.At>1099511627776) (h6: ¬ (0≤(getJ c.J.jobs x.Id).1.Plan∧(getJ c.J.jobs x.Id).1.Plan≤x.At)),
   br (planS (getJ c.J.jobs x.Id).1).2 (PW c.P∧(PW c.P∧c.P.steps.length≤4294967290)∧ ∀n,n=IntKind.wrap IntKind.i64 (x.At+(getJ c.J.jobs x.Id).1.Limit)→(PW (addP c.P (planS (getJ c.J.jobs x.Id).1).1.From (planS (getJ c.J.jobs x.Id).1).1.To (planS (getJ c.J.jobs x.Id).1).1.Width).2∧k () (decide (leastL (addP c.P (planS (getJ c.J.jobs x.Id).1).1.From (planS (getJ c.J.jobs x.Id).1).1.To (planS (getJ c.J.jobs x.Id).1).1.Width).2.steps x.At n≥(getJ c.J.jobs x.Id).1.Width),()))∧True)
    (∀n,n=IntKind.wrap IntKind.i64 (x.At+(getJ c.J.jobs x.Id).1.Limit)→(PW c.P∧k () (decide (leastL c.P.steps x.At n≥(getJ c.J.jobs x.Id).1.Width),()))∧True):=by
  intro h1 h2 h3 h4 h5 h6
  refine br_bool (fun hp=>⟨hc.2.2,⟨hc.2.2,hlen⟩,fun n hn=>⟨⟨(ha _ _ _).1,?_⟩,trivial⟩⟩) (fun hp n hn=>⟨⟨hc.2.2,?_⟩,trivial⟩)
  ·have:=key h1 h2 h3 h4 h5 h6 n hn
   rw [if_pos hp] at this
   rw [this] at hk;exact hk
  ·have:=key h1 h2 h3 h4 h5 h6 n hn
   rw [if_neg (by rw [hp];decide)] at this
   rw [this] at hk;exact hk
 refine br_bool (fun h1=>hk0 (no (.inl h1))) (fun h1=>?_)
 have h1:c.closed=false:=h1
 refine ⟨⟨hc.1,⟨?_,trivial⟩,trivial⟩,⟨⟨hc.1,?_,trivial⟩,trivial⟩,trivial⟩
 all_goals
  refine br_not (fun h2=>?_) (fun h2=>br_not (fun h3=>?_) (fun h3=>?_))
  ·have h2:(getJ c.J.jobs x.Id).2≠0:=by simpa using h2
   exact ⟨hk0 (no (.inr (.inl h2))),trivial⟩
  ·have h3:(getJ c.J.jobs x.Id).1.State≠1:=by simpa using h3
   exact ⟨hk0 (no (.inr (.inr (.inl h3)))),trivial⟩
  ·have h2:(getJ c.J.jobs x.Id).2=0:=by simpa using h2
   have h3:(getJ c.J.jobs x.Id).1.State=1:=by simpa using h3
   refine ⟨⟨hc.2.2,br_dec (fun h4=>?_) (fun h4=>br_dec (fun h5=>?_) (fun h5=>br_dec (fun h6=>br_dec (fun h7=>?_) (fun h7=>body h1 h2 h3 h4 h5 (fun hh=>h7 hh.2))) (fun h6=>body h1 h2 h3 h4 h5 (fun hh=>h6 hh.1))))⟩,trivial⟩
   ·exact hk0 (no (.inr (.inr (.inr (.inl h4)))))
   ·exact hk0 (no (.inr (.inr (.inr (.inr (.inl h5))))))
   ·exact hk0 (no (.inr (.inr (.inr (.inr (.inr ⟨h6,h7⟩))))))
end Go.Ax.O
