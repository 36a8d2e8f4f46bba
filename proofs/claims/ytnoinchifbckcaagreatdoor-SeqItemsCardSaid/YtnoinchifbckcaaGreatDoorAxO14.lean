import Derived.Test.YtnoinchifbckcaaGreatDoorAxO13
set_option linter.all false
namespace Go.Ax.O
open Go.Ax.Sp Go.Ax.Law
theorem td {α:Type} (l:List α):List.take l.length (List.drop 0 l)=l:=by simp
theorem noneP_no {p:Prof} (h:PW p):noneP (some p)=false:=by
  have:=h.1
  simp only [noneP,List.isEmpty_eq_false_iff]
  exact this
theorem br_f {b:Bool} {A B:Prop} (h:b=false) (h2:B):br b A B:=by subst h;exact h2
theorem vCloneT {l:List Step} {k:Unit→List Step × Unit→Prop} (h:oCloneT (l,()) k):V.vCloneT l k:=by
  obtain ⟨hl,hk⟩:=h
  simp only [] at hl hk
  intro b hb
  refine br_bool (fun h=>?_) (fun _=>⟨Nat.le_refl _,by omega,by simp,hk⟩)
  have:l=[]:=by
    cases l with
    |nil=>rfl
    |cons a r=>rw [hb (by simp)] at h;cases h
  subst this;exact hk
theorem vNoneP {p:Prof} {k:Unit→Bool × Unit→Prop} (h:oNoneP (some p,()) k):V.vNoneP p k:=by
  have h:k () (p.steps.isEmpty,()):=h
  unfold V.vNoneP
  have:((p.steps.length:Int)==0)=p.steps.isEmpty:=by
    cases p.steps with
    |nil=>rfl
    |cons a r=>simp;omega
  rw [this];exact h
theorem vNonePN {k:Unit→Bool × Unit→Prop} (h:oNoneP (none,()) k):V.vNonePN k:=h
theorem vNow {p:Prof} {k:Unit→Int × Unit→Prop} (h:oNow (p,()) k):V.vNow p k:=by
  obtain ⟨hp,hk⟩:=h
  simp only [] at hp hk
  have hl:=List.length_pos_iff.2 hp.1
  refine br_f (noneP_no hp) ⟨⟨by decide,by omega⟩,fun e he=>?_⟩
  obtain ⟨l,v⟩:=p
  cases l with
  |nil=>exact absurd rfl hp.1
  |cons a r=>simp at he;subst he;exact hk
theorem vPSteps {p:Prof} {k:Unit→List Step × Unit→Prop} (h:oPSteps (p,()) k):V.vPSteps p k:=by
  obtain ⟨hp,hk⟩:=h
  simp only [] at hp hk
  exact br_f (noneP_no hp) ⟨by have:=hp.2.2;omega,rfl,hk⟩
theorem vPCopy {p:Prof} {k:Unit→Option Prof × Unit→Prop} (h:oPCopy (p,()) k):V.vPCopy p k:=by
  obtain ⟨hp,hk⟩:=h
  simp only [] at hp hk
  refine br_f (noneP_no hp) ⟨⟨hp,⟨by omega,?_⟩,trivial⟩,trivial⟩
  rw [td];exact hk
theorem vCmpS {s:Step} {t:Int} {k:Unit→Int × Unit→Prop} (h:oCmpS (s,t,()) k):V.vCmpS s t k:=by
  have h:k () (cmpS s.At t,()):=h
  unfold cmpS at h
  refine br_dec (fun h1=>?_) (fun h1=>br_dec (fun h2=>?_) (fun h2=>?_))
  · rw [if_pos h1] at h;exact h
  · rw [if_neg h1,if_pos h2] at h;exact h
  · rw [if_neg h1,if_neg h2] at h;exact h
theorem cmpS_lt {a t:Int}:cmpS a t<0↔a<t:=by
  unfold cmpS;split
  · simp [*]
  · split<;>simp<;>omega
theorem cmpS_eq {a t:Int}:(cmpS a t==0)=decide (a=t):=by
  unfold cmpS;split
  · simp;omega
  · split
    · simp;omega
    · simp;omega
theorem half2 {x n n1 n2 n3:Int} (h0:0≤x) (h1:x≤4611686018427387904) (e1:n=IntKind.i64.wrap x) (e2:n1=IntKind.u64.wrap n) (e3:n2=Int.fdiv n1 (2^min (Int.toNat 1) 64)) (e4:n3=IntKind.i64.wrap n2):n3=x/2:=by
  rw [w64 (by omega)] at e1
  subst e1
  obtain ⟨a,rfl⟩:=Int.eq_ofNat_of_zero_le h0
  rw [wuN (by omega)] at e2
  subst e2
  rw [show min (Int.toNat 1) 64=1 by decide,fdiv2] at e3
  subst e3
  rw [w64 (by omega)] at e4
  rw [e4];omega
theorem vBin {l:List Step} {t:Int} {k:Unit→Int × Bool × Unit→Prop} (h:oBin 0 (l,t,(),()) k):V.vBin l t k:=by
  obtain ⟨⟨hr,hl⟩,hk⟩:=h
  simp only [] at hr hl hk
  have hal:=ahead_le l t
  refine ⟨fun x=>x.1=l∧x.2.1=t∧0≤x.2.2.1∧x.2.2.1≤aheadL l t∧(aheadL l t:Int)≤x.2.2.2∧x.2.2.2≤l.length,fun x=>(x.2.2.2-x.2.2.1).toNat,(l,t,0,l.length),⟨rfl,rfl,Int.le_refl _,by simp only [];omega,by simp only [];omega,Int.le_refl _⟩,⟨⟨rfl,rfl,trivial,rfl,rfl,rfl,trivial⟩,trivial⟩,?_⟩
  rintro ⟨l',t',i,j⟩ ⟨g1,g2,g3,g4,g5,g6⟩
  simp only [] at g1 g2 g3 g4 g5 g6
  subst g1 g2
  dsimp only
  refine br_dec (fun hij n hn n1 hn1=>⟨by decide,fun n2 hn2 n3 hn3=>?_⟩) (fun hij=>?_)
  · have e:=half2 (by omega) (by omega) hn hn1 hn2 hn3
    subst e
    refine ⟨⟨by omega,by omega⟩,fun s hs=>?_⟩
    have hiff:=ahead_iff hr (t:=t') hs
    refine br_dec (fun hc m hm=>?_) (fun hc=>?_)
    · have:=hiff.1 (cmpS_lt.1 hc)
      rw [w64 (by omega)] at hm
      subst hm
      exact ⟨(l',t',(i+j)/2+1,j),⟨rfl,rfl,by simp only [];omega,by simp only [];omega,g5,g6⟩,⟨⟨rfl,rfl,trivial,rfl,rfl,rfl,trivial⟩,trivial⟩,by simp only [];omega⟩
    · have: ¬ ((i+j)/2).toNat<aheadL l' t':=fun h=>hc (cmpS_lt.2 (hiff.2 h))
      exact ⟨(l',t',i,(i+j)/2),⟨rfl,rfl,g3,g4,by simp only [];omega,by simp only [];omega⟩,⟨⟨rfl,rfl,trivial,rfl,rfl,rfl,trivial⟩,trivial⟩,by simp only [];omega⟩
  · have e:i=(aheadL l' t':Int):=by omega
    subst e
    have hany:l'.any (fun s=>decide (s.At=t'))=(match l'[aheadL l' t']? with |some s=>decide (s.At=t') |none=>false):=by
      have hu:=upto_ahead hr t'
      cases hs:l'[aheadL l' t']? with
      |none=>
        have:l'.length≤aheadL l' t':=by simpa using hs
        have:=upto_le l' t'
        cases hb:l'.any (fun s=>decide (s.At=t')) with
        |false=>rfl
        |true=>rw [hb] at hu;simp at hu;omega
      |some s=>
        simp only []
        have h1:=upto_iff hr (t:=t') hs
        have h2:=ahead_iff hr (t:=t') hs
        cases hb:l'.any (fun s=>decide (s.At=t')) with
        |false=>
          rw [hb] at hu;simp at hu
          have: ¬ s.At≤t':=fun h=>by have:=h1.1 h;omega
          have:s.At≠t':=by omega
          simp [this]
        |true=>
          rw [hb] at hu;simp at hu
          have g1:s.At≤t':=h1.2 (by omega)
          have g2: ¬ s.At<t':=fun h=>by have:=h2.1 h;omega
          have:s.At=t':=by omega
          simp [this]
    refine br_dec (fun hi=>⟨⟨by omega,hi⟩,fun s hs=>?_⟩) (fun hi=>?_)
    · rw [Int.toNat_natCast] at hs
      rw [hs] at hany
      simp only [] at hany
      rw [cmpS_eq,←hany]
      exact hk
    · have:l'[aheadL l' t']? =none:=by simp;omega
      rw [this] at hany
      simp only [] at hany
      rw [←hany]
      exact hk
theorem vIndex {p:Prof} {t:Int} {k:Unit→Int × Unit→Prop} (h:oIndex (p,t,()) k):V.vIndex p t k:=by
  obtain ⟨hp,hk⟩:=h
  simp only [] at hp hk
  obtain ⟨h0,hr,hl⟩:=hp
  have hal:=ahead_le p.steps t
  rw [idx_eq hr] at hk
  refine ⟨⟨hr,by omega⟩,br_not (fun hb n hn=>?_) (fun hb=>?_)⟩
  · rw [w64 (by omega)] at hn
    subst hn
    simp only [hb] at hk
    exact hk
  · rw [if_neg (by omega)]
    simp only [hb] at hk
    exact hk
theorem vFreeP {p:Prof} {t:Int} {k:Unit→Int × Unit→Prop} (h:oFree (p,t,()) k):V.vFreeP p t k:=by
  obtain ⟨hp,hk⟩:=h
  simp only [] at hp hk
  have hlt:=idx_lt hp.1 t
  refine br_f (noneP_no hp) ⟨⟨hp,⟨by omega,by omega⟩,fun e he=>?_⟩,trivial⟩
  rw [Int.toNat_natCast] at he
  unfold freeL at hk
  rw [he] at hk
  exact hk
theorem takeWhile_take {l:List Step} {u:Int} {i:Nat} {f:Int→Step→Int} {a:Int} {e:Step} (h:l[i]? =some e) (hall: ∀(p:Nat) (s:Step),p<i→l[p]? =some s→s.At<u):
    (e.At≥u→(l.takeWhile fun s=>decide (s.At<u)).foldl f a=(l.take i).foldl f a):=by
  induction l generalizing i a with
  |nil=>simp at h
  |cons s r ih=>
    intro hu
    cases i with
    |zero=>
      simp at h;subst h
      simp [List.takeWhile_cons,show ¬ s.At<u by omega]
    |succ i=>
      have hs:=hall 0 s (by omega) (by simp)
      rw [List.takeWhile_cons,if_pos (by simpa using hs)]
      simp only [List.foldl_cons,List.take_succ_cons]
      exact ih (by simpa using h) (fun p s hp hps=>hall (p+1) s (by omega) (by simpa using hps)) hu
theorem takeWhile_all {u:Int}: ∀{l:List Step},(∀(p:Nat) (s:Step),l[p]? =some s→s.At<u)→l.takeWhile (fun s=>decide (s.At<u))=l
  | [],_=>rfl
  |s::r,h=>by
    have hs:=h 0 s (by simp)
    rw [List.takeWhile_cons,if_pos (by simpa using hs),takeWhile_all fun p s hp=>h (p+1) s (by simpa using hp)]
theorem max_if (a b:Int):(if b>a then b else a)=max a b:=by simp only [Int.max_def];split<;>split<;>omega
theorem min_if (a b:Int):(if b<a then b else a)=min a b:=by simp only [Int.min_def];split<;>split<;>omega
theorem vLeast {p:Prof} {t u:Int} {k:Unit→Int × Unit→Prop} (h:oLeast (p,t,u,()) k):V.vLeast p t u k:=by
  obtain ⟨hp,hk⟩:=h
  simp only [] at hp hk
  have hlen:=hp.2.2
  unfold leastL at hk
  unfold V.vLeast
  simp only [max_if]
  refine br_f (noneP_no hp) ⟨hp,br_dec (fun h1=>?_) (fun h1=>⟨⟨hp,⟨by omega,by have:=idx_lt hp.1 (max t (nowL p.steps));omega,by omega⟩,?_⟩,trivial⟩)⟩
  · rw [if_pos h1] at hk;exact hk
  · rw [if_neg h1] at hk
    unfold partL at hk
    simp only [Int.toNat_natCast,List.take_length]
    generalize hd:p.steps.drop (idxL p.steps (max t (nowL p.steps)))=d at hk ⊢
    have hdl:d.length≤p.steps.length:=by rw [←hd];simp
    refine ⟨fun x=>x.1=d∧x.2.1=u∧0≤x.2.2.2∧x.2.2.2≤d.length∧x.2.2.1=(d.take x.2.2.2.toNat).foldl (fun n s=>min n s.Free) 64∧ ∀(p:Nat) (s:Step),(p:Int)<x.2.2.2→d[p]? =some s→s.At<u,fun x=>(d.length-x.2.2.2).toNat,(d,u,64,0),⟨rfl,rfl,Int.le_refl _,by simp,by simp,fun p s hp=>by simp only [] at hp;omega⟩,⟨⟨rfl,rfl,rfl,rfl,rfl,trivial⟩,trivial⟩,?_⟩
    rintro ⟨d',u',n,i⟩ ⟨g1,g2,g3,g4,g5,g6⟩
    simp only [] at g1 g2 g3 g4 g5 g6
    subst g1 g2
    obtain ⟨i,rfl⟩:=Int.eq_ofNat_of_zero_le g3
    rw [Int.toNat_natCast] at g5
    dsimp only
    refine br_dec (fun hi=>⟨⟨g3,hi⟩,fun e he=>?_⟩) (fun hi=>?_)
    · rw [Int.toNat_natCast] at he
      refine br_dec (fun hu=>?_) (fun hu m hm=>?_)
      · rw [takeWhile_take he (fun p s hp hs=>g6 p s (by omega) hs) hu,←g5] at hk
        exact hk
      · rw [w64 (by omega)] at hm
        subst hm
        refine ⟨(d',u',min n e.Free,(i:Int)+1),⟨rfl,rfl,by simp only [];omega,by simp only [];omega,?_,fun p s hp hs=>?_⟩,⟨⟨rfl,min_if _ _,rfl,rfl,rfl,trivial⟩,trivial⟩,by simp only [];omega⟩
        · simp only []
          rw [show ((i:Int)+1).toNat=i+1 by omega,List.take_add_one,he]
          simp [g5]
        · simp only [] at hp
          by_cases hpi:p=i
          · subst hpi;rw [he] at hs;cases hs;omega
          · exact g6 p s (by omega) hs
    · rw [takeWhile_all (fun p s hs=>g6 p s (by have:=(List.getElem?_eq_some_iff.1 hs).1;omega) hs)] at hk
      rw [List.take_of_length_le (by omega)] at g5
      rw [←g5] at hk
      exact hk
theorem vMost {p:Prof} {t u:Int} {k:Unit→Int × Unit→Prop} (h:oMost (p,t,u,()) k):V.vMost p t u k:=by
  obtain ⟨hp,hk⟩:=h
  simp only [] at hp hk
  have hlen:=hp.2.2
  unfold mostL partL at hk
  refine ⟨⟨hp,⟨by omega,by have:=idx_lt hp.1 t;omega,by omega⟩,?_⟩,trivial⟩
  simp only [Int.toNat_natCast,List.take_length]
  generalize hd:p.steps.drop (idxL p.steps t)=d at hk ⊢
  have hdl:d.length≤p.steps.length:=by rw [←hd];simp
  refine ⟨fun x=>x.1=d∧x.2.1=u∧0≤x.2.2.2∧x.2.2.2≤d.length∧x.2.2.1=(d.take x.2.2.2.toNat).foldl (fun n s=>max n s.Free) 0∧ ∀(p:Nat) (s:Step),(p:Int)<x.2.2.2→d[p]? =some s→s.At<u,fun x=>(d.length-x.2.2.2).toNat,(d,u,0,0),⟨rfl,rfl,Int.le_refl _,by simp,by simp,fun p s hp=>by simp only [] at hp;omega⟩,⟨⟨rfl,rfl,rfl,rfl,rfl,trivial⟩,trivial⟩,?_⟩
  rintro ⟨d',u',n,i⟩ ⟨g1,g2,g3,g4,g5,g6⟩
  simp only [] at g1 g2 g3 g4 g5 g6
  subst g1 g2
  obtain ⟨i,rfl⟩:=Int.eq_ofNat_of_zero_le g3
  rw [Int.toNat_natCast] at g5
  dsimp only
  refine br_dec (fun hi=>⟨⟨g3,hi⟩,fun e he=>?_⟩) (fun hi=>?_)
  · rw [Int.toNat_natCast] at he
    refine br_dec (fun hu=>?_) (fun hu m hm=>?_)
    · rw [takeWhile_take he (fun p s hp hs=>g6 p s (by omega) hs) hu,←g5] at hk
      exact hk
    · rw [w64 (by omega)] at hm
      subst hm
      refine ⟨(d',u',max n e.Free,(i:Int)+1),⟨rfl,rfl,by simp only [];omega,by simp only [];omega,?_,fun p s hp hs=>?_⟩,⟨⟨rfl,max_if _ _,rfl,rfl,rfl,trivial⟩,trivial⟩,by simp only [];omega⟩
      · simp only []
        rw [show ((i:Int)+1).toNat=i+1 by omega,List.take_add_one,he]
        simp [g5]
      · simp only [] at hp
        by_cases hpi:p=i
        · subst hpi;rw [he] at hs;cases hs;omega
        · exact g6 p s (by omega) hs
  · rw [takeWhile_all (fun p s hs=>g6 p s (by have:=(List.getElem?_eq_some_iff.1 hs).1;omega) hs)] at hk
    rw [List.take_of_length_le (by omega)] at g5
    rw [←g5] at hk
    exact hk
theorem vSame {a b:Step} {k:Unit→Bool × Unit→Prop} (h:oSame (a,b,()) k):V.vSame a b k:=by
  have h:k () (decide (a.Free=b.Free),()):=h
  exact h
theorem vRel {p:Prof} {s:Span} {k:Prof × Unit→Int × Unit→Prop} (h:oRel (p,s,()) k):V.vRel p s k:=h
theorem vRes {p:Prof} {s:Span} {k:Prof × Unit→Int × Unit→Prop} (h:oRes (p,s,()) k):V.vRes p s k:=by
  intro n hn
  subst hn
  exact h
theorem vNewP {n:Int} {k:Unit→Option Prof × Int × Unit→Prop} (h:oNewP (n,()) k):V.vNewP n k:=by
  obtain ⟨⟨h1,h2⟩,hk⟩:=h
  have h1:(1:Int)≤n:=h1
  have h2:n≤(64:Int):=h2
  exact br_dec (fun h=>absurd h (by omega)) (fun _=>br_dec (fun h=>absurd h (by omega)) (fun _=>⟨Nat.le_refl _,hk⟩))
theorem vJoin1 {p:Prof} {k:Prof × Unit→Unit→Prop} (h:oJoin1 (p,()) k):V.vJoin1 p k:=by
  obtain ⟨hl,hk⟩:=h
  refine ⟨rfl,hl,by omega,?_⟩
  rw [td];exact hk
end Go.Ax.O
