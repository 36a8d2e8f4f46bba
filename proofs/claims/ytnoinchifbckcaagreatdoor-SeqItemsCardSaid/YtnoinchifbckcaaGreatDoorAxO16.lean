import Derived.Test.YtnoinchifbckcaaGreatDoorAxO15
set_option linter.all false
namespace Go.Ax.Law
theorem get_cases (l:List Job) (n:Int):((n<1∨(l.length:Int)<n)∧getJ l n=(job0,7)∧ ∀st f,atJ l n st f=(7,l))∨
    ∃(i:Nat) (j:Job),n=(i:Int)+1∧i<l.length∧l[i]? =some j∧getJ l n=(j,0)∧ ∀st f,atJ l n st f=if st.contains j.State then (0,l.set i (f j)) else (8,l):=by
  by_cases h:n<1∨(l.length:Int)<n
  · exact .inl ⟨h,by simp only [getJ,if_pos h],fun st f=>by simp only [atJ,if_pos h]⟩
  · right
    obtain ⟨i,hi⟩:=Int.eq_ofNat_of_zero_le (show 0≤n-1 by omega)
    have hl:i<l.length:=by omega
    have hs:l[(n-1).toNat]? =some l[i]:=by rw [hi];exact List.getElem?_eq_getElem hl
    have hn:(n-1).toNat=i:=by rw [hi];rfl
    refine ⟨i,l[i],by omega,hl,List.getElem?_eq_getElem hl,by simp only [getJ,if_neg h,hs],fun st f=>by simp only [atJ,if_neg h,hn,List.getElem?_eq_getElem hl]⟩
theorem set_get {l:List Job} {i:Nat} {a e:Job} (hi:i<l.length) (h:(l.set i a)[i]? =some e):e=a:=by
  rw [List.getElem?_set_self hi] at h;cases h;rfl
theorem noneJ_no {t:Jobs} (h:JW t):noneJ (some t)=false:=by simp [noneJ,h.1]
theorem inJ_len (l:List Job) (st:List Int):(inJ l st).length≤l.length:=List.length_filter_le _ _
theorem inJ_mem {l:List Job} {st:List Int} {j:Job} (h:j∈inJ l st):j∈l∧st.contains j.State=true:=List.mem_filter.1 h
theorem ids_mem {l:List Job} (h:IdsOK l) {j:Job} (hj:j∈l):1≤j.Id∧j.Id≤l.length∧U64 j.Nodes:=by
  obtain ⟨i,hi⟩:=List.getElem?_of_mem hj
  have:=(List.getElem?_eq_some_iff.1 hi).1
  obtain ⟨h1,h2⟩:=h i j hi
  exact ⟨by omega,by omega,h2⟩
theorem in_small {t:Jobs} (h:JW t) (st:List Int):SmallJs (inJ t.jobs st):=by
  refine ⟨fun j hj=>?_,by have:=inJ_len t.jobs st;have:=h.2.1;omega⟩
  obtain ⟨a,b,_⟩:=ids_mem h.2.2 (inJ_mem hj).1
  have:=h.2.1
  omega
theorem sort_perm (l:List Job):(sortJ l).Perm l:=List.mergeSort_perm l _
theorem sort_len (l:List Job):(sortJ l).length=l.length:=List.length_mergeSort _
end Go.Ax.Law
namespace Go.Ax.O
open Go.Ax.Sp Go.Ax.Law
theorem vCloneB {l:List Job} {k:Unit→List Job × Unit→Prop} (h:oCloneB (l,()) k):V.vCloneB l k:=by
  obtain ⟨hl,hk⟩:=h
  simp only [] at hl hk
  intro b hb
  refine br_bool (fun h=>?_) (fun _=>⟨Nat.le_refl _,by omega,by simp,hk⟩)
  have:l=[]:=by
    cases l with
    |nil=>rfl
    |cons a r=>rw [hb (by simp)] at h;cases h
  subst this;exact hk
theorem vNoneJ {t:Jobs} {k:Unit→Bool × Unit→Prop} (h:oNoneJ (some t,()) k):V.vNoneJ t k:=h
theorem vNoneJN {k:Unit→Bool × Unit→Prop} (h:oNoneJ (none,()) k):V.vNoneJN k:=h
theorem vNewJ {u:Unit} {k:Unit→Jobs × Unit→Prop} (h:oNewJ u k):V.vNewJ u k:=h
theorem vAllJ {t:Jobs} {k:Unit→List Job × Unit→Prop} (h:oAllJ (t,()) k):V.vAllJ t k:=by
  obtain ⟨ht,hk⟩:=h
  simp only [] at ht hk
  exact br_f (noneJ_no ht) ⟨by have:=ht.2.1;omega,rfl,hk⟩
theorem take_snoc' {α:Type} {l:List α} {i:Nat} {e:α} (h:l[i]? =some e):l.take (i+1)=l.take i++[e]:=by
  rw [List.take_add_one,h];rfl
theorem vInJ {t:Jobs} {l:List Int} {k:Unit→List Job × Unit→Prop} (h:oInJ (t,l,()) k):V.vInJ t l k:=by
  obtain ⟨⟨ht,hl⟩,hk⟩:=h
  simp only [] at ht hl hk
  have hjl:=ht.2.1
  refine ⟨ht,fun x=>x.1=l∧x.2.1=t.jobs∧0≤x.2.2.2∧x.2.2.2≤t.jobs.length∧x.2.2.1=inJ (t.jobs.take x.2.2.2.toNat) l,fun x=>(t.jobs.length-x.2.2.2).toNat,(l,t.jobs,[],0),⟨rfl,rfl,Int.le_refl _,by simp,rfl⟩,⟨⟨rfl,⟨rfl,rfl⟩,⟨rfl,rfl⟩,rfl,rfl,trivial⟩,rfl,rfl,trivial⟩,?_⟩
  rintro ⟨l',js,out,i⟩ ⟨g1,g2,g3,g4,g5⟩
  simp only [] at g1 g2 g3 g4 g5
  subst g1 g2
  obtain ⟨i,rfl⟩:=Int.eq_ofNat_of_zero_le g3
  rw [Int.toNat_natCast] at g5
  have hol:out.length≤1024:=by
    rw [g5]
    have:=inJ_len (t.jobs.take i) l'
    have:=List.length_take_le i t.jobs
    omega
  dsimp only
  refine br_dec (fun hi=>⟨⟨g3,hi⟩,by simp;omega,fun e he=>⟨by omega,br_bool (fun hc=>?_) (fun hc=>?_)⟩⟩) (fun hi=>⟨rfl,?_⟩)
  · rw [Nat.zero_add,Int.toNat_natCast] at he
    refine ⟨Nat.le_refl _,by omega,by omega,fun n hn=>?_⟩
    rw [w64 (by omega)] at hn
    subst hn
    refine ⟨(l',t.jobs,out++[e],(i:Int)+1),⟨rfl,rfl,by simp only [];omega,by simp only [];omega,?_⟩,⟨⟨rfl,⟨rfl,by simp⟩,⟨rfl,rfl⟩,rfl,rfl,trivial⟩,rfl,by rw [td],trivial⟩,by simp only [];omega⟩
    simp only []
    rw [show ((i:Int)+1).toNat=i+1 by omega,take_snoc' he,g5]
    simp only [inJ,List.filter_append,List.filter_cons,hc,if_true,List.filter_nil]
  · rw [Nat.zero_add,Int.toNat_natCast] at he
    intro n hn
    rw [w64 (by omega)] at hn
    subst hn
    refine ⟨(l',t.jobs,out,(i:Int)+1),⟨rfl,rfl,by simp only [];omega,by simp only [];omega,?_⟩,⟨⟨rfl,⟨rfl,rfl⟩,⟨rfl,rfl⟩,rfl,rfl,trivial⟩,rfl,rfl,trivial⟩,by simp only [];omega⟩
    simp only []
    rw [show ((i:Int)+1).toNat=i+1 by omega,take_snoc' he,g5]
    simp only [inJ,List.filter_append,List.filter_cons,hc,List.filter_nil]
    simp
  · rw [List.take_of_length_le (by omega)] at g5
    rw [g5];exact hk
theorem vCmpB {a b:Job} {k:Unit→Int × Unit→Prop} (h:oCmpB (a,b,()) k):V.vCmpB a b k:=by
  have h:k () (cmpJ a b,()):=h
  refine ⟨⟨⟨⟨⟨by simp,by simp,?_⟩,trivial⟩,trivial⟩,trivial⟩,trivial⟩
  have e:orI [cmpI b.Prio a.Prio,cmpI a.Id b.Id]=cmpJ a b:=by
    unfold orI cmpJ
    by_cases h1:cmpI b.Prio a.Prio=0
    · by_cases h2:cmpI a.Id b.Id=0<;>simp [h1,h2]
    · simp [h1]
  rw [e];exact h
theorem vLessB {a b:Job} {k:Unit→Bool × Unit→Prop} (h:oLessB (a,b,()) k):V.vLessB a b k:=h
theorem vOrdS {l:List Job} {k:Unit→List Job × Unit→Prop} (h:oOrdS (l,()) k):V.vOrdS l k:=by
  obtain ⟨hs,hk⟩:=h
  exact ⟨by have:=hs.2;simp only [] at this;omega,rfl,hs,(sort_len l).symm,hk⟩
theorem vWaiting {t:Jobs} {k:Unit→List Job × Unit→Prop} (h:oWaiting (t,()) k):V.vWaiting t k:=by
  obtain ⟨ht,hk⟩:=h
  unfold V.vWaiting
  simp only [td]
  exact ⟨Nat.le_refl _,⟨ht,by decide⟩,by omega,in_small ht _,trivial,hk⟩
theorem vCountsJ {t:Jobs} {k:Unit→Int × Int × Int × Unit→Prop} (h:oCountsJ (t,()) k):V.vCountsJ t k:=by
  obtain ⟨ht,hk⟩:=h
  exact ⟨Nat.le_refl _,⟨ht,by decide⟩,Nat.le_refl _,⟨ht,by decide⟩,Nat.le_refl _,⟨ht,by decide⟩,hk⟩
theorem vGetJ {t:Jobs} {n:Int} {k:Unit→Job × Int × Unit→Prop} (h:oGetJ (t,n,()) k):V.vGetJ t n k:=by
  obtain ⟨ht,hk⟩:=h
  simp only [] at ht hk
  have hjl:=ht.2.1
  rcases get_cases t.jobs n with ⟨h1,e,_⟩ |⟨i,j,h1,h2,h3,e,_⟩
  · rw [e] at hk
    exact br_f (noneJ_no ht) (br_dec (fun _=>hk) (fun _=>br_dec (fun _=>hk) (fun _=>by omega)))
  · rw [e] at hk
    refine br_f (noneJ_no ht) (br_dec (fun _=>by omega) (fun _=>br_dec (fun _=>by omega) (fun _ m hm=>?_)))
    rw [w64 (by omega)] at hm
    subst hm
    refine ⟨⟨by omega,by omega⟩,fun x hx=>?_⟩
    rw [h1,show ((i:Int)+1-1).toNat=i by omega,h3] at hx
    cases hx
    exact hk
theorem vRightR {r:Req} {k:Unit→Int × Unit→Prop} (h:oRightR (r,()) k):V.vRightR r k:=by
  have h:k () (rightR r,()):=h
  unfold rightR at h
  refine br_dec (fun h1=>?_) (fun h1=>br_dec (fun h2=>?_) (fun h2=>br_dec (fun h3=>?_) (fun h3=>br_dec (fun h4=>?_) (fun h4=>br_dec (fun h5=>?_) (fun h5=>br_dec (fun h6=>?_) (fun h6=>br_dec (fun h7=>?_) (fun h7=>br_dec (fun h8=>?_) (fun h8=>?_))))))))
  · rw [if_pos (by omega)] at h;exact h
  · rw [if_pos (by omega)] at h;exact h
  · rw [if_pos (by omega)] at h;exact h
  · rw [if_pos (by omega)] at h;exact h
  · rw [if_neg (by omega),if_pos (by omega)] at h;exact h
  · rw [if_neg (by omega),if_pos (by omega)] at h;exact h
  · rw [if_neg (by omega),if_neg (by omega),if_pos (by omega)] at h;exact h
  · rw [if_neg (by omega),if_neg (by omega),if_pos (by omega)] at h;exact h
  · rw [if_neg (by omega),if_neg (by omega),if_neg (by omega)] at h;exact h
theorem vCopyJ {t:Jobs} {k:Unit→Option Jobs × Unit→Prop} (h:oCopyJ (t,()) k):V.vCopyJ t k:=by
  obtain ⟨ht,hk⟩:=h
  simp only [] at ht hk
  refine br_f (noneJ_no ht) ⟨⟨ht,⟨by omega,?_⟩,trivial⟩,trivial⟩
  rw [td]
  obtain ⟨js,l,m⟩:=t
  have:m=true:=ht.1
  subst this
  exact hk
theorem vSubJ {t:Jobs} {r:Req} {k:Jobs × Unit→Int × Int × Unit→Prop} (h:oSubJ (t,r,()) k):V.vSubJ t r k:=by
  obtain ⟨ht,hk⟩:=h
  simp only [] at ht hk
  have hjl:=ht.2.1
  unfold submitJ at hk
  unfold V.vSubJ
  simp only [td]
  refine br_f (noneJ_no ht) (br_not (fun h1=>?_) (fun h1=>br_dec (fun h2=>?_) (fun h2=>br_dec (fun h3=>?_) (fun h3 n hn=>⟨⟨br_bool (fun hh=>⟨⟨⟨Nat.le_refl _,by omega,by omega,fun m hm=>⟨by simp,?_⟩,trivial⟩,trivial⟩,trivial⟩) (fun hh=>⟨⟨⟨Nat.le_refl _,by omega,by omega,fun m hm=>⟨by simp,?_⟩,trivial⟩,trivial⟩,trivial⟩),trivial⟩,trivial⟩))))
  · have h1:rightR r≠0:=by simpa using h1
    rw [if_pos h1] at hk;exact hk
  · have h1:rightR r=0:=by simpa using h1
    rw [if_neg (by omega),if_pos (by omega)] at hk;exact ⟨by omega,hk⟩
  · have h1:rightR r=0:=by simpa using h1
    rw [if_neg (by omega),if_pos (by omega)] at hk;exact ⟨by omega,hk⟩
  all_goals
    have h1:rightR r=0:=by simpa using h1
    rw [if_neg (by omega),if_neg (by omega)] at hk
    rw [w64 (by omega)] at hn
    subst hn hm
    rw [List.drop_zero,List.take_of_length_le (by simp)]
    simp only [newJ,hh] at hk
    exact hk
theorem at_go {t:Jobs} (ht:JW t) {n m:Int} {i:Nat} {j:Job} (h1:n=(i:Int)+1) (h2:i<t.jobs.length) (hm:m=IntKind.i64.wrap (n-1)):m=(i:Int):=by
  have:=ht.2.1
  rw [hm,w64 (by omega)];omega
theorem vHoldJ {t:Jobs} {n:Int} {k:Jobs × Unit→Int × Unit→Prop} (h:oHoldJ (t,n,()) k):V.vHoldJ t n k:=by
  obtain ⟨ht,hk⟩:=h
  simp only [] at ht hk
  unfold holdJ at hk
  simp only [] at hk
  rcases get_cases t.jobs n with ⟨h1,e,e2⟩ |⟨i,j,h1,h2,h3,e,e2⟩
  · rw [e2] at hk
    refine ⟨ht,br_not (fun _=>br_bool (fun hx=>?_) (fun _=>?_)) (fun hx=>?_)⟩
    · rw [e] at hx;simp at hx
    · rw [e];exact hk
    · rw [e] at hx;simp at hx
  · rw [e2] at hk
    refine ⟨ht,br_not (fun hx=>?_) (fun hx m hm=>?_)⟩
    · rw [e] at hx;simp at hx
    · have hm:=at_go (j:=j) ht h1 h2 hm
      subst hm
      simp only [Nat.zero_add,Int.toNat_natCast,List.length_set,td]
      refine ⟨⟨by omega,by omega⟩,h2,fun x hx=>⟨Nat.le_refl _,by decide,?_⟩⟩
      rw [h3] at hx;cases hx
      refine br_not (fun hc=>?_) (fun hc=>⟨h2,fun x hx=>⟨h2,fun y hy=>⟨Nat.le_refl _,?_⟩⟩⟩)
      · rw [if_neg (by rw [hc];exact Bool.false_ne_true)] at hk;exact ⟨Nat.le_refl _,hk⟩
      · rw [h3] at hx;cases hx
        have:=set_get h2 hy
        subst this
        rw [if_pos hc] at hk
        rw [List.set_set,List.drop_zero,List.take_of_length_le (by simp)]
        exact hk
theorem vFreeJ {t:Jobs} {n:Int} {k:Jobs × Unit→Int × Unit→Prop} (h:oFreeJ (t,n,()) k):V.vFreeJ t n k:=by
  obtain ⟨ht,hk⟩:=h
  simp only [] at ht hk
  unfold freeJ at hk
  simp only [] at hk
  rcases get_cases t.jobs n with ⟨h1,e,e2⟩ |⟨i,j,h1,h2,h3,e,e2⟩
  · rw [e2] at hk
    refine ⟨ht,br_not (fun _=>br_bool (fun hx=>?_) (fun _=>?_)) (fun hx=>?_)⟩
    · rw [e] at hx;simp at hx
    · rw [e];exact hk
    · rw [e] at hx;simp at hx
  · rw [e2] at hk
    refine ⟨ht,br_not (fun hx=>?_) (fun hx m hm=>?_)⟩
    · rw [e] at hx;simp at hx
    · have hm:=at_go (j:=j) ht h1 h2 hm
      subst hm
      simp only [Nat.zero_add,Int.toNat_natCast,List.length_set,td]
      refine ⟨⟨by omega,by omega⟩,h2,fun x hx=>⟨Nat.le_refl _,by decide,?_⟩⟩
      rw [h3] at hx;cases hx
      refine br_not (fun hc=>?_) (fun hc=>⟨h2,fun x hx=>⟨Nat.le_refl _,?_⟩⟩)
      · rw [if_neg (by rw [hc];exact Bool.false_ne_true)] at hk;exact ⟨Nat.le_refl _,hk⟩
      · rw [h3] at hx;cases hx
        rw [if_pos hc] at hk
        rw [List.drop_zero,List.take_of_length_le (by simp)]
        exact hk
theorem vPlanJ {t:Jobs} {n m:Int} {k:Jobs × Unit→Int × Unit→Prop} (h:oPlanJ (t,n,m,()) k):V.vPlanJ t n m k:=by
  obtain ⟨ht,hk⟩:=h
  simp only [] at ht hk
  unfold planJ at hk
  refine br_dec (fun h1=>?_) (fun h1=>br_dec (fun h2=>?_) (fun h2=>?_))
  · rw [if_pos (by omega)] at hk;exact hk
  · rw [if_pos (by omega)] at hk;exact hk
  rw [if_neg (by omega)] at hk
  simp only [] at hk
  rcases get_cases t.jobs n with ⟨h1,e,e2⟩ |⟨i,j,h1,h2,h3,e,e2⟩
  · rw [e2] at hk
    refine ⟨ht,br_not (fun _=>br_bool (fun hx=>?_) (fun _=>?_)) (fun hx=>?_)⟩
    · rw [e] at hx;simp at hx
    · rw [e];exact hk
    · rw [e] at hx;simp at hx
  · rw [e2] at hk
    refine ⟨ht,br_not (fun hx=>?_) (fun hx m hm=>?_)⟩
    · rw [e] at hx;simp at hx
    · have hm:=at_go (j:=j) ht h1 h2 hm
      subst hm
      simp only [Nat.zero_add,Int.toNat_natCast,List.length_set,td]
      refine ⟨⟨by omega,by omega⟩,h2,fun x hx=>⟨Nat.le_refl _,by decide,?_⟩⟩
      rw [h3] at hx;cases hx
      refine br_not (fun hc=>?_) (fun hc=>⟨h2,fun x hx=>⟨Nat.le_refl _,?_⟩⟩)
      · rw [if_neg (by rw [hc];exact Bool.false_ne_true)] at hk;exact ⟨Nat.le_refl _,hk⟩
      · rw [h3] at hx;cases hx
        rw [if_pos hc] at hk
        rw [List.drop_zero,List.take_of_length_le (by simp)]
        exact hk
theorem vBeginJ {t:Jobs} {n m s:Int} {k:Jobs × Unit→Int × Unit→Prop} (h:oBeginJ (t,n,m,s,()) k):V.vBeginJ t n m s k:=by
  obtain ⟨ht,hk⟩:=h
  simp only [] at ht hk
  unfold beginJ at hk
  refine br_dec (fun h1=>?_) (fun h1=>br_dec (fun h2=>?_) (fun h2=>?_))
  · rw [if_pos (by omega)] at hk;exact hk
  · rw [if_pos (by omega)] at hk;exact hk
  rw [if_neg (by omega)] at hk
  simp only [] at hk
  rcases get_cases t.jobs n with ⟨h1,e,e2⟩ |⟨i,j,h1,h2,h3,e,e2⟩
  · rw [e2] at hk
    refine ⟨ht,br_not (fun _=>br_bool (fun hx=>?_) (fun _=>?_)) (fun hx=>?_)⟩
    · rw [e] at hx;simp at hx
    · rw [e];exact hk
    · rw [e] at hx;simp at hx
  · rw [e2] at hk
    refine ⟨ht,br_not (fun hx=>?_) (fun hx m hm=>?_)⟩
    · rw [e] at hx;simp at hx
    · have hm:=at_go (j:=j) ht h1 h2 hm
      subst hm
      simp only [Nat.zero_add,Int.toNat_natCast,List.length_set,td]
      refine ⟨⟨by omega,by omega⟩,h2,fun x hx=>⟨Nat.le_refl _,by decide,?_⟩⟩
      rw [h3] at hx;cases hx
      refine br_not (fun hc=>?_) (fun hc=>⟨h2,fun x hx q hq=>⟨h2,fun x0 hx0=>⟨h2,fun x1 hx1=>⟨h2,fun x2 hx2=>⟨h2,fun x3 hx3=>⟨h2,fun x4 hx4=>⟨Nat.le_refl _,?_⟩⟩⟩⟩⟩⟩⟩)
      · rw [if_neg (by rw [hc];exact Bool.false_ne_true)] at hk;exact ⟨Nat.le_refl _,hk⟩
      · rw [h3] at hx hx0;cases hx;cases hx0
        have:=set_get h2 hx1
        subst this
        rw [List.set_set] at hx2
        have:=set_get h2 hx2
        subst this
        rw [List.set_set,List.set_set] at hx3
        have:=set_get h2 hx3
        subst this
        rw [List.set_set,List.set_set,List.set_set] at hx4
        have:=set_get h2 hx4
        subst this
        rw [if_pos hc] at hk
        subst hq
        rw [List.set_set,List.set_set,List.set_set,List.set_set,List.drop_zero,List.take_of_length_le (by simp)]
        exact hk
end Go.Ax.O
