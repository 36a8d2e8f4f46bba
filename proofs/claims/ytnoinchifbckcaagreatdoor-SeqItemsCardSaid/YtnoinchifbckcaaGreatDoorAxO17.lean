import Derived.Test.YtnoinchifbckcaaGreatDoorAxO16
set_option linter.all false
namespace Go.Ax.Law
open Go.Ax.O
theorem atJ_ok {l:List Job} (h:IdsOK l) (n:Int) (st:List Int) (f:Job→Job) (hf: ∀j,j∈l→(f j).Id=j.Id∧U64 (f j).Nodes):IdsOK (atJ l n st f).2∧(atJ l n st f).2.length=l.length:=by
  rcases get_cases l n with ⟨_,_,e⟩ |⟨i,j,_,hi,hj,_,e⟩
  · rw [e];exact ⟨h,rfl⟩
  · rw [e]
    split
    · refine ⟨fun p q hq=>?_,by simp⟩
      simp only [] at hq
      rw [List.getElem?_set] at hq
      split at hq
      · rename_i hp
        subst hp
        simp at hq
        obtain ⟨_,rfl⟩:=hq
        have:=h i j hj
        have h2:=hf j (List.mem_of_getElem? hj)
        exact ⟨by rw [h2.1];exact this.1,h2.2⟩
      · exact h p q hq
    · exact ⟨h,rfl⟩
theorem holdJ_ok {t:Jobs} (h:JW t) (n:Int):JW (holdJ t n).2:=by
  have:=atJ_ok h.2.2 n [1] (fun j=>{j with State:=2,Plan:= -1}) fun j hj=>⟨rfl,(ids_mem h.2.2 hj).2.2⟩
  exact ⟨h.1,by have:=h.2.1;simp only [holdJ];omega,this.1⟩
theorem freeJ_ok {t:Jobs} (h:JW t) (n:Int):JW (freeJ t n).2:=by
  have:=atJ_ok h.2.2 n [2] (fun j=>{j with State:=1}) fun j hj=>⟨rfl,(ids_mem h.2.2 hj).2.2⟩
  exact ⟨h.1,by have:=h.2.1;simp only [freeJ];omega,this.1⟩
theorem planJ_ok {t:Jobs} (h:JW t) (n m:Int):JW (planJ t n m).2:=by
  have:=atJ_ok h.2.2 n [1] (fun j=>{j with Plan:=m}) fun j hj=>⟨rfl,(ids_mem h.2.2 hj).2.2⟩
  unfold planJ
  split
  · exact h
  · exact ⟨h.1,by have:=h.2.1;simp only [];omega,this.1⟩
theorem beginJ_ok {t:Jobs} (h:JW t) (n m:Int) {s:Int} (hs:U64 s):JW (beginJ t n m s).2:=by
  have:=atJ_ok h.2.2 n [1] (fun j=>{j with State:=3,Start:=m,End:=wr (m+j.Limit),Plan:= -1,Nodes:=s}) fun j hj=>⟨rfl,hs⟩
  unfold beginJ
  split
  · exact h
  · exact ⟨h.1,by have:=h.2.1;simp only [];omega,this.1⟩
theorem finishJ_ok {t:Jobs} (h:JW t) (n s m:Int):JW (finishJ t n s m).2:=by
  have:=atJ_ok h.2.2 n (if s=5 then [3,1,2] else [3]) (fun j=>{j with End:=if j.State=3 then m else j.End,State:=s,Plan:= -1}) fun j hj=>⟨rfl,(ids_mem h.2.2 hj).2.2⟩
  unfold finishJ
  generalize (if s=5 then [3,1,2] else [3]:List Int)=st at*
  split
  · exact h
  · split
    · exact h
    · simp only []
      split
      · exact ⟨h.1,by have:=h.2.1;simp only [];omega,this.1⟩
      · exact h
theorem submitJ_ok {t:Jobs} (h:JW t) (r:Req):JW (submitJ t r).2:=by
  unfold submitJ
  split
  · exact h
  · split
    · exact h
    · rename_i h1 h2
      refine ⟨h.1,by simp only [List.length_append,List.length_singleton];omega,fun i j hj=>?_⟩
      simp only [] at hj
      by_cases hi:i<t.jobs.length
      · rw [List.getElem?_append_left hi] at hj;exact h.2.2 i j hj
      · rw [List.getElem?_append_right (by omega)] at hj
        have hz:i-t.jobs.length=0:=by
          have:=(List.getElem?_eq_some_iff.1 hj).1
          simpa using this
        rw [hz] at hj
        simp at hj
        subst hj
        exact ⟨by simp only [newJ];omega,U64.zero⟩
theorem getJ_U64 {t:Jobs} (h:JW t) (n:Int):U64 (getJ t.jobs n).1.Nodes:=by
  rcases get_cases t.jobs n with ⟨_,e,_⟩ |⟨i,j,_,_,hj,e,_⟩
  · rw [e];exact U64.zero
  · rw [e];exact (h.2.2 i j hj).2
theorem takeN_ok {t:Nodes} (h:NW t) (n:Int):NW (takeN t n).2∧U64 (takeN t n).1.1:=by
  unfold takeN
  split
  · exact ⟨h,U64.zero⟩
  · split
    · exact ⟨h,U64.zero⟩
    · exact ⟨⟨h.1,U64_union h.2.1 U64_first,h.2.2.1,h.2.2.2⟩,U64_first⟩
theorem takeN_fail {t:Nodes} {n:Int} (h:(takeN t n).1.2≠0):(takeN t n).2=t:=by
  unfold takeN at h ⊢
  split
  · rfl
  · split
    · rfl
    · rename_i h1 h2;rw [if_neg h1,if_neg h2] at h;exact absurd rfl h
theorem giveN_ok {t:Nodes} (h:NW t) (s:Int):NW (giveN t s).2:=by
  unfold giveN
  split
  · exact h
  · exact ⟨h.1,U64_minus h.2.1,h.2.2.1,h.2.2.2⟩
theorem drainN_ok {t:Nodes} (h:NW t) (n:Int):NW (drainN t n).2:=by
  unfold drainN
  split
  · exact h
  · split
    · exact h
    · exact ⟨h.1,h.2.1,U64_with h.2.2.1,h.2.2.2⟩
theorem resumeN_ok {t:Nodes} (h:NW t) (n:Int):NW (resumeN t n).2:=by
  unfold resumeN
  split
  · exact h
  · split
    · exact h
    · exact ⟨h.1,h.2.1,U64_without h.2.2.1,h.2.2.2⟩
theorem noneN_no {t:Nodes} (h:NW t):noneN (some t)=false:=by simp [noneN,h.2.2.2]
theorem idle_U64 {t:Nodes} (h:NW t):U64 (idleN t):=U64_minus (U64_minus h.1)
theorem timeout1_ok {c:Core} (h:CW c) (j:Job):CW (timeout1 c j)∧(timeout1 c j).P=c.P:=by
  unfold timeout1
  split
  · exact ⟨⟨finishJ_ok h.1 _ _ _,giveN_ok h.2.1 _,h.2.2⟩,rfl⟩
  · exact ⟨h,rfl⟩
theorem timeouts_ok: ∀{l:List Job} {c:Core},CW c→CW (l.foldl timeout1 c)∧(l.foldl timeout1 c).P=c.P
  | [],_,h=>⟨h,rfl⟩
  |j::r,c,h=>by
    obtain ⟨h1,h2⟩:=timeout1_ok h j
    obtain ⟨h3,h4⟩:=timeouts_ok (l:=r) h1
    exact ⟨h3,h4.trans h2⟩
theorem beginC_ok {c:Core} (h:CW c) (j:Job):CW (beginC c j)∧(beginC c j).P=c.P:=by
  unfold beginC
  split
  · exact ⟨⟨beginJ_ok h.1 _ _ (takeN_ok h.2.1 _).2,(takeN_ok h.2.1 _).1,h.2.2⟩,rfl⟩
  · exact ⟨h,rfl⟩
theorem begin1_ok {c:Core} (h:CW c) (j:Job):CW (begin1 c j)∧(begin1 c j).P=c.P:=by
  unfold begin1
  split
  · exact beginC_ok h j
  · exact ⟨h,rfl⟩
theorem begins_ok: ∀{l:List Job} {c:Core},CW c→CW (l.foldl begin1 c)∧(l.foldl begin1 c).P=c.P
  | [],_,h=>⟨h,rfl⟩
  |j::r,c,h=>by
    obtain ⟨h1,h2⟩:=begin1_ok h j
    obtain ⟨h3,h4⟩:=begins_ok (l:=r) h1
    exact ⟨h3,h4.trans h2⟩
theorem addC_ok {c:Core} (h:CW c) (hl:c.P.steps.length≤4294967294) (f t n:Int):CW (addC c f t n)∧(addC c f t n).P.steps.length≤c.P.steps.length+2:=by
  obtain ⟨h1,h2,_⟩:=addP_ok (f:=f) (t:=t) (n:=n) h.2.2 hl
  exact ⟨⟨h.1,h.2.1,h1⟩,h2⟩
end Go.Ax.Law
namespace Go.Ax.O
open Go.Ax.Sp Go.Ax.Law
theorem vFinJ {t:Jobs} {n s m:Int} {k:Jobs × Unit→Int × Unit→Prop} (h:oFinJ (t,n,s,m,()) k):V.vFinJ t n s m k:=by
  obtain ⟨ht,hk⟩:=h
  simp only [] at ht hk
  unfold finishJ at hk
  refine br_dec (fun h1=>?_) (fun h1=>br_dec (fun h2=>?_) (fun h2=>br_dec (fun h3=>?_) (fun h3=>br_dec (fun h4=>?_) (fun h4=>?_))))
  · rw [if_pos (by omega)] at hk;exact hk
  · rw [if_pos (by omega)] at hk;exact hk
  · rw [if_neg (by omega),if_pos (by omega)] at hk;exact hk
  · rw [if_neg (by omega),if_pos (by omega)] at hk;exact hk
  rw [if_neg (by omega),if_neg (by omega)] at hk
  simp only [] at hk
  rcases get_cases t.jobs n with ⟨h1,e,e2⟩ |⟨i,j,h1,h2,h3,e,e2⟩
  · rw [e2] at hk
    refine br_bool (fun hs=>⟨Nat.le_refl _,Nat.le_refl _,by decide,ht,br_not (fun _=>br_not (fun _=>?_) (fun hx=>?_)) (fun hx=>?_)⟩) (fun hs=>⟨ht,br_not (fun _=>br_not (fun _=>?_) (fun hx=>?_)) (fun hx=>?_)⟩)
    · rw [e];exact hk
    · rw [e] at hx;simp at hx
    · rw [e] at hx;simp at hx
    · rw [e];exact hk
    · rw [e] at hx;simp at hx
    · rw [e] at hx;simp at hx
  · rw [e2] at hk
    refine br_bool (fun hs=>⟨Nat.le_refl _,Nat.le_refl _,by decide,ht,br_not (fun hx=>?_) (fun hx q hq=>?_)⟩) (fun hs=>⟨ht,br_not (fun hx=>?_) (fun hx q hq=>?_)⟩)
    · rw [e] at hx;simp at hx
    · have hs:s=5:=by simpa using hs
      rw [if_pos hs] at hk
      have hm:=at_go (j:=j) ht h1 h2 hq
      subst hm
      simp only [Nat.zero_add,Int.toNat_natCast,List.length_set,td]
      refine ⟨⟨by omega,by omega⟩,h2,fun x hx=>⟨Nat.le_refl _,by decide,?_⟩⟩
      rw [h3] at hx;cases hx
      refine br_not (fun hc=>?_) (fun hc=>⟨h2,fun x hx=>br_bool (fun hst=>⟨h2,fun x0 hx0=>⟨h2,fun x1 hx1=>⟨h2,fun x2 hx2 q hq=>⟨Nat.le_refl _,?_⟩⟩⟩⟩) (fun hst=>⟨h2,fun x0 hx0=>⟨h2,fun x1 hx1 q hq=>⟨Nat.le_refl _,?_⟩⟩⟩)⟩)
      · rw [hc] at hk;exact ⟨Nat.le_refl _,hk⟩
      · rw [h3] at hx hx0;cases hx;cases hx0
        have hst:j.State=3:=by simpa using hst
        have:=set_get h2 hx1
        subst this
        rw [List.set_set] at hx2
        have:=set_get h2 hx2
        subst this
        subst hq
        rw [hc] at hk
        simp only [if_pos hst,if_true] at hk
        rw [List.set_set,List.set_set,List.drop_zero,List.take_of_length_le (by simp)]
        exact hk
      · rw [h3] at hx hx0;cases hx;cases hx0
        have hst:j.State≠3:=by simpa using hst
        have:=set_get h2 hx1
        subst this
        subst hq
        rw [hc] at hk
        simp only [if_neg hst,if_true] at hk
        rw [List.set_set,List.drop_zero,List.take_of_length_le (by simp)]
        exact hk
    · rw [e] at hx;simp at hx
    · have hs:s≠5:=by simpa using hs
      rw [if_neg hs] at hk
      have hm:=at_go (j:=j) ht h1 h2 hq
      subst hm
      simp only [Nat.zero_add,Int.toNat_natCast,List.length_set,td]
      refine ⟨⟨by omega,by omega⟩,h2,fun x hx=>⟨Nat.le_refl _,by decide,?_⟩⟩
      rw [h3] at hx;cases hx
      refine br_not (fun hc=>?_) (fun hc=>⟨h2,fun x hx=>br_bool (fun hst=>⟨h2,fun x0 hx0=>⟨h2,fun x1 hx1=>⟨h2,fun x2 hx2 q hq=>⟨Nat.le_refl _,?_⟩⟩⟩⟩) (fun hst=>⟨h2,fun x0 hx0=>⟨h2,fun x1 hx1 q hq=>⟨Nat.le_refl _,?_⟩⟩⟩)⟩)
      · rw [hc] at hk;exact ⟨Nat.le_refl _,hk⟩
      · rw [h3] at hx hx0;cases hx;cases hx0
        have hst:j.State=3:=by simpa using hst
        have:=set_get h2 hx1
        subst this
        rw [List.set_set] at hx2
        have:=set_get h2 hx2
        subst this
        subst hq
        rw [hc] at hk
        simp only [if_pos hst,if_true] at hk
        rw [List.set_set,List.set_set,List.drop_zero,List.take_of_length_le (by simp)]
        exact hk
      · rw [h3] at hx hx0;cases hx;cases hx0
        have hst:j.State≠3:=by simpa using hst
        have:=set_get h2 hx1
        subst this
        subst hq
        rw [hc] at hk
        simp only [if_neg hst,if_true] at hk
        rw [List.set_set,List.drop_zero,List.take_of_length_le (by simp)]
        exact hk
theorem landn_minus {a b:Int} (ha:U64 a) (hb:U64 b):landnI .u64 a b=minusS a b:=by
  obtain ⟨x,hx,rfl⟩:=U64.ex ha
  obtain ⟨y,hy,rfl⟩:=U64.ex hb
  rw [landnU hx hy];rfl
theorem lor_union {a b:Int} (ha:U64 a) (hb:U64 b):lorI .u64 a b=unionS a b:=by
  obtain ⟨x,hx,rfl⟩:=U64.ex ha
  obtain ⟨y,hy,rfl⟩:=U64.ex hb
  rw [lorU hx hy];rfl
theorem vNoneN {t:Nodes} {k:Unit→Bool × Unit→Prop} (h:oNoneN (some t,()) k):V.vNoneN t k:=by
  have h:k () (decide (t.all=0),()):=h
  exact h
theorem vNoneNN {k:Unit→Bool × Unit→Prop} (h:oNoneN (none,()) k):V.vNoneNN k:=h
theorem vIdleI {t:Nodes} {k:Unit→Int × Unit→Prop} (h:oIdleN (t,()) k):V.vIdleI t k:=by
  obtain ⟨ht,hk⟩:=h
  intro n hn m hm
  rw [landn_minus ht.1 ht.2.1] at hn
  subst hn
  rw [landn_minus (U64_minus ht.1) ht.2.2.1] at hm
  subst hm
  exact hk
theorem vSizeN {t:Nodes} {k:Unit→Int × Unit→Prop} (h:oSizeN (t,()) k):V.vSizeN t k:=by
  obtain ⟨ht,hk⟩:=h
  exact br_f (noneN_no ht) ⟨ht.1,hk⟩
theorem vStateN {t:Nodes} {n:Int} {k:Unit→Int × Unit→Prop} (h:oStateN (t,n,()) k):V.vStateN t n k:=by
  obtain ⟨ht,hk⟩:=h
  simp only [] at ht hk
  unfold stateN at hk
  refine br_f (noneN_no ht) ⟨ht.1,br_not (fun h1=>?_) (fun h1=>⟨⟨ht.2.1,⟨ht.2.2.1,br_bool (fun h2=>br_bool (fun h3=>?_) (fun h3=>br_bool (fun h4=>?_) (fun h4=>by rw [h2] at h4;cases h4))) (fun h2=>br_bool (fun h3=>by rw [h2] at h3;cases h3) (fun h3=>br_bool (fun h4=>?_) (fun h4=>?_)))⟩,trivial⟩,trivial⟩)⟩
  · rw [if_pos h1] at hk;exact hk
  · simp only [h1,h2,h3] at hk;exact hk
  · simp only [h1,h2,h3] at hk;exact hk
  · simp only [h1,h2,h4] at hk;exact hk
  · simp only [h1,h2,h4] at hk;exact hk
theorem vUsedN {t:Nodes} {k:Unit→Int × Unit→Prop} (h:oUsedN (t,()) k):V.vUsedN t k:=by
  obtain ⟨ht,hk⟩:=h
  exact br_f (noneN_no ht) hk
theorem vIdleN {t:Nodes} {k:Unit→Int × Unit→Prop} (h:oIdleN (t,()) k):V.vIdleN t k:=by
  obtain ⟨ht,hk⟩:=h
  exact br_f (noneN_no ht) ⟨ht,hk⟩
theorem vCountsN {t:Nodes} {k:Unit→Int × Int × Int × Unit→Prop} (h:oCountsN (t,()) k):V.vCountsN t k:=by
  obtain ⟨ht,hk⟩:=h
  simp only [] at ht hk
  refine br_f (noneN_no ht) fun n hn=>?_
  rw [landn_minus ht.2.2.1 ht.2.1] at hn
  subst hn
  exact ⟨⟨ht,⟨idle_U64 ht,⟨ht.2.1,⟨U64_minus ht.2.2.1,hk⟩,trivial⟩,trivial⟩,trivial⟩,trivial⟩
theorem vTakeN {t:Nodes} {n:Int} {k:Nodes × Unit→Int × Int × Unit→Prop} (h:oTakeN (t,n,()) k):V.vTakeN t n k:=by
  obtain ⟨ht,hk⟩:=h
  simp only [] at ht hk
  unfold takeN at hk
  refine br_f (noneN_no ht) (br_dec (fun h1=>?_) (fun h1=>⟨ht,idle_U64 ht,br_not (fun h2=>?_) (fun h2 m hm=>?_)⟩))
  · rw [if_pos h1] at hk;exact hk
  · rw [if_neg h1,if_pos h2] at hk;exact hk
  · rw [if_neg h1,if_neg (by rw [h2];decide)] at hk
    rw [lor_union ht.2.1 U64_first] at hm
    subst hm
    exact hk
theorem vGiveN {t:Nodes} {s:Int} {k:Nodes × Unit→Int × Int × Unit→Prop} (h:oGiveN (t,s,()) k):V.vGiveN t s k:=by
  obtain ⟨⟨ht,hs⟩,hk⟩:=h
  simp only [] at ht hs hk
  unfold giveN at hk
  refine br_f (noneN_no ht) fun n hn=>br_not (fun h1=>?_) (fun h1 m hm q hq=>?_)
  · have h1:n≠0:=by simpa using h1
    rw [landn_minus hs ht.2.1] at hn
    rw [if_pos (by omega)] at hk;exact hk
  · have h1:n=0:=by simpa using h1
    rw [landn_minus hs ht.2.1] at hn
    rw [if_neg (by omega)] at hk
    rw [landn_minus ht.2.1 hs] at hm
    rw [landn_minus hs ht.2.2.1] at hq
    subst hm hq
    exact ⟨U64_minus hs,hk⟩
theorem vDrainN {t:Nodes} {n:Int} {k:Nodes × Unit→Int × Unit→Prop} (h:oDrainN (t,n,()) k):V.vDrainN t n k:=by
  obtain ⟨ht,hk⟩:=h
  simp only [] at ht hk
  unfold drainN at hk
  refine br_f (noneN_no ht) ⟨ht.1,br_not (fun h1=>?_) (fun h1=>⟨ht.2.2.1,br_bool (fun h2=>?_) (fun h2=>⟨ht.2.2.1,?_⟩)⟩)⟩
  · rw [if_pos h1] at hk;exact hk
  · rw [if_neg (by rw [h1];decide),if_pos h2] at hk;exact hk
  · rw [if_neg (by rw [h1];decide),if_neg (by rw [h2];decide)] at hk;exact hk
theorem vResumeN {t:Nodes} {n:Int} {k:Nodes × Unit→Int × Unit→Prop} (h:oResumeN (t,n,()) k):V.vResumeN t n k:=by
  obtain ⟨ht,hk⟩:=h
  simp only [] at ht hk
  unfold resumeN at hk
  refine br_f (noneN_no ht) ⟨ht.1,br_not (fun h1=>?_) (fun h1=>⟨ht.2.2.1,br_not (fun h2=>?_) (fun h2=>⟨ht.2.2.1,?_⟩)⟩)⟩
  · rw [if_pos h1] at hk;exact hk
  · rw [if_neg (by rw [h1];decide),if_pos h2] at hk;exact hk
  · rw [if_neg (by rw [h1];decide),if_neg (by rw [h2];decide)] at hk;exact hk
theorem vCopyN {t:Nodes} {k:Unit→Option Nodes × Unit→Prop} (h:oCopyN (t,()) k):V.vCopyN t k:=by
  obtain ⟨ht,hk⟩:=h
  exact br_f (noneN_no ht) hk
theorem vNewN {n:Int} {k:Unit→Option Nodes × Int × Unit→Prop} (h:oNewN (n,()) k):V.vNewN n k:=by
  obtain ⟨h1,h2⟩:=h
  refine br_dec (fun h=>h1 (.inl h)) (fun h=>br_dec (fun h'=>h1 (.inr h')) (fun h'=>h2 ⟨?_,?_⟩))
  · show (1:Int)≤n;omega
  · show n≤(64:Int);omega
theorem vFailR {e:Int} {k:Unit→Reply × Unit→Prop} (h:oFailR (e,()) k):V.vFailR e k:=h
theorem vTellR {j:Job} {k:Unit→Reply × Unit→Prop} (h:oTellR (j,()) k):V.vTellR j k:=h
theorem vThreeR {a b c:Int} {k:Unit→Reply × Unit→Prop} (h:oThreeR (a,b,c,()) k):V.vThreeR a b c k:=h
theorem vCleanR {r:Req} {k:Unit→Req × Unit→Prop} (h:oCleanR (r,()) k):V.vCleanR r k:=by
  have h:k () (cleanR r,()):=h
  unfold cleanR at h
  unfold V.vCleanR V.vCleanR_1
  by_cases h1:r.Kind=1
  · simp only [h1] at h ⊢;exact ⟨⟨⟨⟨⟨h,trivial⟩,trivial⟩,trivial⟩,trivial⟩,trivial⟩
  by_cases h2:r.Kind=2
  · simp only [h2] at h ⊢;exact h
  by_cases h3:r.Kind=3
  · simp only [h3] at h ⊢;exact h
  by_cases h4:r.Kind=4
  · simp only [h4] at h ⊢;exact h
  by_cases h5:r.Kind=5
  · simp only [h5] at h ⊢;exact h
  by_cases h6:r.Kind=6
  · simp only [h6] at h ⊢;exact h
  by_cases h7:r.Kind=7
  · simp only [h7] at h ⊢;exact h
  by_cases h8:r.Kind=8
  · simp only [h8] at h ⊢;exact h
  by_cases h9:r.Kind=9
  · simp only [h9] at h ⊢;exact h
  have b: ∀{m:Int},r.Kind≠m→(r.Kind==m)=false:=fun hm=>by simp [hm]
  simp only [b h1,b h2,b h3,b h4,b h5,b h6,b h7,b h8,b h9,br]
  simp only [h1,h2,h3,h4,h5,h6,h7,h8,h9,if_false,or_self] at h
  exact h
end Go.Ax.O
