import Derived.Test.YtnoinchifbckcaaGreatDoorAxS9
import Derived.Test.YtnoinchifbckcaaGreatDoorAxP8
import Derived.Test.YtnoinchifbckcaaGreatDoorAxO19
set_option linter.all false
namespace Go.Ax.Law
theorem cntN_add {p q r:Nat→Bool}: ∀{n:Nat},(∀k,k<n→(if p k then (1:Int) else 0)=(if q k then 1 else 0)+(if r k then 1 else 0))→cntN p n=cntN q n+cntN r n
  |0,_=>rfl
  |n+1,h=>by
    have ih:=cntN_add (n:=n) fun k hk=>h k (by omega)
    have:=h n (by omega)
    simp only [cntN];omega
theorem cntN_congr {p q:Nat→Bool}: ∀{n:Nat},(∀k,k<n→p k=q k)→cntN p n=cntN q n
  |0,_=>rfl
  |n+1,h=>by
    simp only [cntN,cntN_congr (n:=n) fun k hk=>h k (by omega),h n (by omega)]
theorem cntN_nonneg (p:Nat→Bool): ∀n,0≤cntN p n
  |0=>Int.le_refl _
  |n+1=>by have:=cntN_nonneg p n;simp only [cntN];split<;>omega
theorem cntN_le (p:Nat→Bool): ∀n,cntN p n≤n
  |0=>Int.le_refl _
  |n+1=>by have:=cntN_le p n;simp only [cntN];split<;>omega
theorem cntN_none {p:Nat→Bool}: ∀{n:Nat},(∀k,k<n→p k=false)→cntN p n=0
  |0,_=>rfl
  |n+1,h=>by simp only [cntN,cntN_none (n:=n) fun k hk=>h k (by omega),h n (by omega)];simp
theorem cntN_more {p:Nat→Bool} {m:Nat}: ∀{d:Nat},(∀k,m≤k→k<m+d→p k=false)→cntN p (m+d)=cntN p m
  |0,_=>rfl
  |d+1,h=>by
    have ih:=cntN_more (d:=d) fun k h1 h2=>h k h1 (by omega)
    rw [←Nat.add_assoc]
    simp only [cntN,ih,h (m+d) (by omega) (by omega)];simp
theorem cntN_mono {p q:Nat→Bool}: ∀{n:Nat},(∀k,k<n→p k=true→q k=true)→cntN p n≤cntN q n
  |0,_=>Int.le_refl _
  |n+1,h=>by
    have ih:=cntN_mono (n:=n) fun k hk=>h k (by omega)
    have:=h n (by omega)
    simp only [cntN]
    cases hp:p n<;>cases hq:q n<;>simp_all<;>omega
theorem cntN_one {m:Nat}: ∀{n:Nat},cntN (fun k=>decide (k=m)) n=if m<n then 1 else 0
  |0=>by simp [cntN]
  |n+1=>by
    simp only [cntN,cntN_one (n:=n)]
    by_cases h:n=m
    · subst h;simp
    · simp [h];by_cases h2:m<n
      · rw [if_pos h2,if_pos (by omega)]
      · rw [if_neg h2,if_neg (by omega)]
theorem hasB_nat (x:Int) (k:Nat):hasB x (k:Int)=(decide (k<64)&&x.toNat.testBit k):=by
  unfold hasB
  simp
  by_cases h:k<64
  · have:(k:Int)<64:=by omega
    simp [h,this]
  · have: ¬ (k:Int)<64:=by omega
    simp [h];intro h2;omega
theorem popN_cnt (x:Nat): ∀n,n≤64→((popN x n:Nat):Int)=cntN (fun k=>hasB (x:Int) k) n
  |0,_=>rfl
  |n+1,h=>by
    have ih:=popN_cnt x n (by omega)
    simp only [popN,cntN,hasB_nat,Int.toNat_natCast] at ih ⊢
    rw [←ih]
    by_cases hb:x.testBit n
    · simp [hb,show n<64 by omega]
    · simp [hb]
theorem lenS_cnt {x:Int} (h:U64 x):lenS x=cntN (fun k=>hasB x k) 64:=by
  obtain ⟨a,_,rfl⟩:=h.ex
  unfold lenS
  rw [Int.toNat_natCast,popN_cnt a 64 (Nat.le_refl _)]
theorem lenS_cut {x:Int} (h:U64 x) {n:Nat} (hn:n≤64) (hx: ∀k:Nat,hasB x k=true→k<n):lenS x=cntN (fun k=>hasB x k) n:=by
  rw [lenS_cnt h]
  obtain ⟨d,hd⟩: ∃d,64=n+d:=⟨64-n,by omega⟩
  rw [hd]
  refine cntN_more fun k h1 h2=>?_
  cases hb:hasB x k with
  |false=>rfl
  |true=>have:=hx k hb;omega
theorem hasB_minus {x y:Int} (hx:U64 x) (hy:U64 y) (k:Nat):hasB (minusS x y) k=(hasB x k&&!hasB y k):=by
  obtain ⟨a,_,rfl⟩:=hx.ex
  obtain ⟨b,_,rfl⟩:=hy.ex
  simp only [minusS,hasB_nat,Int.toNat_natCast,Nat.testBit_xor,Nat.testBit_and]
  cases decide (k<64)<;>cases a.testBit k<;>cases b.testBit k<;>rfl
theorem hasB_union {x y:Int} (hx:U64 x) (hy:U64 y) (k:Nat):hasB (unionS x y) k=(hasB x k||hasB y k):=by
  obtain ⟨a,_,rfl⟩:=hx.ex
  obtain ⟨b,_,rfl⟩:=hy.ex
  simp only [unionS,hasB_nat,Int.toNat_natCast,Nat.testBit_or]
  cases decide (k<64)<;>cases a.testBit k<;>cases b.testBit k<;>rfl
theorem hasB_with {x n:Int} (hx:U64 x) (hn:0≤n∧n<64) (k:Nat):hasB (withS x n) k=(hasB x k||decide ((k:Int)=n)):=by
  obtain ⟨a,_,rfl⟩:=hx.ex
  obtain ⟨m,rfl⟩:=Int.eq_ofNat_of_zero_le hn.1
  unfold withS
  rw [if_neg (by omega)]
  simp only [hasB_nat,Int.toNat_natCast,Nat.testBit_or,Nat.testBit_two_pow]
  by_cases h:k=m
  · subst h;simp;omega
  · have h1: ¬ m=k:=fun e=>h e.symm
    have h2: ¬ (k:Int)=(m:Int):=by omega
    simp [h1,h2]
theorem hasB_without {x n:Int} (hx:U64 x) (hn:0≤n∧n<64) (k:Nat):hasB (withoutS x n) k=(hasB x k&&!decide ((k:Int)=n)):=by
  obtain ⟨a,_,rfl⟩:=hx.ex
  obtain ⟨m,rfl⟩:=Int.eq_ofNat_of_zero_le hn.1
  have hp:(2:Nat)^m<18446744073709551616:=by
    have:(2:Nat)^m≤2^63:=Nat.pow_le_pow_right (by decide) (by omega)
    have:(2:Nat)^63<18446744073709551616:=by decide
    omega
  unfold withoutS
  rw [if_neg (by omega),hasB_minus hx (by rw [Int.toNat_natCast];exact U64.nat hp)]
  simp only [hasB_nat,Int.toNat_natCast,Nat.testBit_two_pow]
  by_cases h:k=m
  · subst h;simp;omega
  · have h1: ¬ m=k:=fun e=>h e.symm
    have h2: ¬ (k:Int)=(m:Int):=by omega
    simp [h1,h2]
theorem hasB_all {n:Nat} (h1:1≤n) (h2:n≤64) (k:Nat):hasB (allS n) k=decide (k<n):=by
  unfold allS
  rw [if_neg (by omega)]
  split
  · have:n=64:=by omega
    subst this
    rw [hasB_nat,show Int.toNat 18446744073709551615=2^64-1 by decide,Nat.testBit_two_pow_sub_one]
    simp
  · rw [hasB_nat,Int.toNat_natCast,Int.toNat_natCast,Nat.testBit_two_pow_sub_one]
    by_cases h:k<n
    · simp [h];omega
    · simp [h]
theorem hasB_zero (k:Nat):hasB 0 k=false:=by rw [hasB_nat];simp
theorem bits_ext {x y:Int} (hx:U64 x) (hy:U64 y) (h: ∀k:Nat,k<64→hasB x k=hasB y k):x=y:=by
  obtain ⟨a,ha,rfl⟩:=hx.ex
  obtain ⟨b,hb,rfl⟩:=hy.ex
  congr 1
  refine Nat.eq_of_testBit_eq fun k=>?_
  by_cases hk:k<64
  · have:=h k hk
    simpa [hasB_nat,hk] using this
  · have e:(18446744073709551616:Nat)=2^64:=by decide
    have hp:(2:Nat)^64≤2^k:=Nat.pow_le_pow_right (by decide) (by omega)
    rw [Nat.testBit_lt_two_pow (by omega),Nat.testBit_lt_two_pow (by omega)]
theorem hasB_neg {x n:Int} (h:n<0):hasB x n=false:=by
  unfold hasB;have: ¬ 0≤n:=by omega
  simp [this]
theorem hasB_big {x n:Int} (h:64≤n):hasB x n=false:=by
  unfold hasB;have: ¬ n<64:=by omega
  simp [this]
def takeJ (n:Nat) (d:Nat→Bool) (t:Int) (j:Job):Int:=
  if j.State=3 then (if t<j.End then cntN (fun k=>hasB j.Nodes k&&!d k) n else 0) else planAt t 0 j
def sumT (n:Nat) (d:Nat→Bool) (t:Int):List Job→Int
  | []=>0
  |j::r=>takeJ n d t j+sumT n d t r
def reqF (n:Nat) (d:Nat→Bool) (l:List Job) (t:Int):Int:=cntN (fun k=>!d k) n-sumT n d t l
def Apart (a b:Job):Prop:=a.State=3→b.State=3→ ∀k:Nat,hasB a.Nodes k=true→hasB b.Nodes k=false
def AllApart (l:List Job):Prop:=l.Pairwise Apart
structure JobOK (n:Nat) (now:Int) (j:Job):Prop where
  st:1≤j.State∧j.State≤6
  wd:1≤j.Width∧j.Width≤n
  lm:1≤j.Limit∧j.Limit≤1048576
  pl:j.Plan= -1∨(j.State=1∧now≤j.Plan∧j.Plan≤1099511627776)
  rn:j.State=3→now≤j.End∧lenS j.Nodes=j.Width∧ ∀k:Nat,hasB j.Nodes k=true→k<n
  en: -1≤j.End∧j.End≤1099512676352
  un:U64 j.Nodes
theorem planAt_nonneg {n:Nat} {now t b:Int} {j:Job} (h:JobOK n now j):0≤planAt t b j:=by
  have:=h.wd.1
  unfold planAt;split<;>omega
theorem takeJ_nonneg {n:Nat} {d:Nat→Bool} {now t:Int} {j:Job} (h:JobOK n now j):0≤takeJ n d t j:=by
  unfold takeJ
  split
  · split
    · exact cntN_nonneg _ _
    · exact Int.le_refl _
  · exact planAt_nonneg h
theorem sumT_nonneg {n:Nat} {d:Nat→Bool} {now t:Int}: ∀{l:List Job},(∀j∈l,JobOK n now j)→0≤sumT n d t l
  | [],_=>Int.le_refl _
  |j::r,h=>by
    have:=sumT_nonneg (d:=d) (t:=t) fun x hx=>h x (List.mem_cons_of_mem _ hx)
    have:=takeJ_nonneg (d:=d) (t:=t) (h j (by simp))
    simp only [sumT];omega
theorem sumT_mem {n:Nat} {d:Nat→Bool} {now t:Int}: ∀{l:List Job} {j:Job},(∀j∈l,JobOK n now j)→j∈l→takeJ n d t j≤sumT n d t l
  | [],_,_,h=>by cases h
  |a::r,j,h,hj=>by
    have h1:=sumT_nonneg (d:=d) (t:=t) fun x hx=>h x (List.mem_cons_of_mem _ hx)
    have h2:=takeJ_nonneg (d:=d) (t:=t) (h a (by simp))
    simp only [sumT]
    rcases List.mem_cons.1 hj with rfl |hj
    · omega
    · have:=sumT_mem (d:=d) (t:=t) (fun x hx=>h x (List.mem_cons_of_mem _ hx)) hj
      omega
theorem sumT_set {n:Nat} {d:Nat→Bool} {t:Int} {b:Job}: ∀{l:List Job} {i:Nat} {a:Job},l[i]? =some a→sumT n d t (l.set i b)=sumT n d t l-takeJ n d t a+takeJ n d t b
  | [],_,_,h=>by simp at h
  |x::r,0,a,h=>by simp at h;subst h;simp only [List.set,sumT];omega
  |x::r,i+1,a,h=>by
    have:=sumT_set (n:=n) (d:=d) (t:=t) (b:=b) (l:=r) (i:=i) (a:=a) (by simpa using h)
    simp only [List.set,sumT,this];omega
theorem sumT_append {n:Nat} {d:Nat→Bool} {t:Int} {b:Job}: ∀{l:List Job},sumT n d t (l++[b])=sumT n d t l+takeJ n d t b
  | []=>by simp [sumT]
  |x::r=>by simp only [List.cons_append,sumT,sumT_append (l:=r)];omega
theorem sumT_map {n:Nat} {d:Nat→Bool} {t:Int} {f:Job→Job}: ∀{l:List Job},(∀j∈l,takeJ n d t (f j)=takeJ n d t j)→sumT n d t (l.map f)=sumT n d t l
  | [],_=>rfl
  |x::r,h=>by simp only [List.map_cons,sumT,h x (by simp),sumT_map (l:=r) fun j hj=>h j (List.mem_cons_of_mem _ hj)]
theorem reqF_set {n:Nat} {d:Nat→Bool} {t:Int} {l:List Job} {i:Nat} {a b:Job} (h:l[i]? =some a):reqF n d (l.set i b) t=reqF n d l t+takeJ n d t a-takeJ n d t b:=by
  unfold reqF;rw [sumT_set h];omega
theorem reqF_le {n:Nat} {d:Nat→Bool} {now t:Int} {l:List Job} (h: ∀j∈l,JobOK n now j):reqF n d l t≤n:=by
  have:=sumT_nonneg (d:=d) (t:=t) h
  have:=cntN_le (fun k=>!d k) n
  unfold reqF;omega
def sumN (n:Nat) (d:Nat→Bool) (act:Job→Bool):List Job→Int
  | []=>0
  |j::r=>(if j.State=3∧act j=true then cntN (fun k=>hasB j.Nodes k&&!d k) n else 0)+sumN n d act r
theorem cnt_open {n:Nat} {d:Nat→Bool} {act:Job→Bool}: ∀{l:List Job},AllApart l→
    cntN (fun k=>!d k&&!l.any fun j=>runsOn (k:Int) j&&act j) n=cntN (fun k=>!d k) n-sumN n d act l
  | [],_=>by simp [sumN]
  |j::r,h=>by
    have ih:=cnt_open (n:=n) (d:=d) (act:=act) (List.pairwise_cons.1 h).2
    have hj:=(List.pairwise_cons.1 h).1
    simp only [sumN]
    have key:cntN (fun k=>!d k&&!r.any fun j=>runsOn (k:Int) j&&act j) n=cntN (fun k=>!d k&&!(j::r).any fun j=>runsOn (k:Int) j&&act j) n+(if j.State=3∧act j=true then cntN (fun k=>hasB j.Nodes k&&!d k) n else 0):=by
      by_cases hc:j.State=3∧act j=true
      · rw [if_pos hc]
        refine cntN_add fun k _=>?_
        simp only [List.any_cons,runsOn,hc.1,hc.2,decide_true,Bool.true_and,Bool.and_true]
        cases hb:hasB j.Nodes k with
        |false=>simp
        |true=>
          have hr:(r.any fun j=>(decide (j.State=3)&&hasB j.Nodes k)&&act j)=false:=by
            rw [List.any_eq_false]
            intro x hx
            by_cases h3:x.State=3
            · simp [hj x hx hc.1 h3 k hb]
            · simp [h3]
          cases d k<;>simp [hr]
      · rw [if_neg hc,Int.add_zero]
        refine cntN_congr fun k _=>?_
        have:(runsOn (k:Int) j&&act j)=false:=by
          unfold runsOn
          by_cases h3:j.State=3
          · have:act j=false:=by cases ha:act j with |false=>rfl |true=>exact absurd ⟨h3,ha⟩ hc
            simp [this]
          · simp [h3]
        simp [this]
    omega
theorem sumT_split {n:Nat} {d:Nat→Bool} {t:Int}: ∀{l:List Job},sumT n d t l=sumN n d (fun j=>decide (t<j.End)) l+planSum t 0 l
  | []=>rfl
  |j::r=>by
    simp only [sumT,sumN,planSum,sumT_split (l:=r),takeJ]
    by_cases h3:j.State=3
    · have hp:planAt t 0 j=0:=by unfold planAt plannedJ;simp [h3]
      by_cases he:t<j.End
      · simp [h3,he,hp];omega
      · simp [h3,he,hp]
    · simp [h3];omega
end Go.Ax.Law
namespace Go.Ax.Law
structure Match (p:Prof) (now:Int) (f:Int→Int):Prop where
  pw:PW p
  nw:nowL p.steps=now
  cn:Canon p.steps
  fr: ∀t,now≤t→freeL p.steps t=f t
theorem Match.congr {p:Prof} {now:Int} {f g:Int→Int} (h:Match p now f) (hg: ∀t,now≤t→f t=g t):Match p now g:=
  ⟨h.pw,h.nw,h.cn,fun t ht=>(h.fr t ht).trans (hg t ht)⟩
theorem Match.add {p:Prof} {now:Int} {f g:Int→Int} (h:Match p now f) (hl:p.steps.length≤4294967290) {from_ to n:Int} (hf:now≤from_) (hf2:from_<1152921504606846976) (ht:to≤1152921504606846976) (hn: -64≤n∧n≤64)
    (hb: ∀t,now≤t→0≤f t∧f t≤64) (hc: ∀t,now≤t→0≤g t∧g t≤64)
    (hg: ∀t,now≤t→g t=f t+(if from_≤t∧(t<to∨1152921504606846976≤to) then n else 0)):
    Match (addP p from_ to n).2 now g∧(addP p from_ to n).2.steps.length≤p.steps.length+2:=by
  obtain ⟨a1,a2,a3⟩:=addP_ok (p:=p) (f:=from_) (t:=to) (n:=n) h.pw (by omega)
  refine ⟨?_,a2⟩
  by_cases hlt:from_<to
  · obtain ⟨b1,b2,b3⟩:=addP_free (p:=p) (f:=from_) (t:=to) (n:=n) h.pw.2.1 h.pw.1 (by rw [h.nw];exact hf) hlt ht hn
      (fun u hu=>by rw [h.nw] at hu;rw [h.fr u hu];exact hb u hu)
      (fun u h1 h2=>by
        have h3:=hg u (by omega)
        rw [if_pos ⟨h1,.inl h2⟩] at h3
        rw [h.fr u (by omega),←h3];exact hc u (by omega))
    refine ⟨a1,a3.trans h.nw,b3 h.cn,fun t ht=>?_⟩
    rw [b2 t (by rw [h.nw];exact ht),h.fr t ht,hg t ht]
  · rw [addP_none (.inl (by omega))]
    refine h.congr fun t ht=>?_
    rw [hg t ht,if_neg (by omega),Int.add_zero]
theorem Match.adv {p:Prof} {now:Int} {f:Int→Int} (h:Match p now f) {t:Int} (ht:now≤t) (ht2:t≤1099511627776):(advP p t).1=0∧Match (advP p t).2 t f:=by
  obtain ⟨a1,a2,a3⟩:=advP_ok (p:=p) (t:=t) h.pw
  obtain ⟨b1,b2,b3,b4⟩:=advP_free (p:=p) h.pw.2.1 h.pw.1 (t:=t) (by rw [h.nw];exact ht) ht2
  exact ⟨b1,a1,b2,b4 h.cn,fun u hu=>by rw [b3 u hu,h.fr u (by omega)]⟩
def usedL (l:List Job) (k:Nat):Bool:=l.any (runsOn (k:Int))
def dr (c:Core) (k:Nat):Bool:=hasB c.N.drain (k:Int)
def ApartL (l:List Job):Prop:= ∀(a b:Nat) (x y:Job),a≠b→l[a]? =some x→l[b]? =some y→Apart x y
theorem ApartL.all {l:List Job} (h:ApartL l):AllApart l:=by
  rw [AllApart,List.pairwise_iff_getElem]
  intro i j hi hj hij
  exact h i j _ _ (by omega) (List.getElem?_eq_getElem hi) (List.getElem?_eq_getElem hj)
theorem Apart.symm {a b:Job} (h:Apart a b):Apart b a:=fun h1 h2 k hk=>by
  cases hb:hasB a.Nodes k with
  |false=>rfl
  |true=>rw [h h2 h1 k hb] at hk;cases hk
theorem ApartL.set {l:List Job} (h:ApartL l) {i:Nat} {j:Job} (hj: ∀b y,b≠i→l[b]? =some y→Apart j y):ApartL (l.set i j):=by
  intro a b x y hab hx hy
  rw [List.getElem?_set] at hx hy
  by_cases h1:i=a
  · subst h1
    rw [if_pos rfl] at hx
    rw [if_neg hab] at hy
    split at hx
    · cases hx;exact hj b y (Ne.symm hab) hy
    · cases hx
  · rw [if_neg h1] at hx
    by_cases h2:i=b
    · subst h2
      rw [if_pos rfl] at hy
      split at hy
      · cases hy;exact (hj a x hab hx).symm
      · cases hy
    · rw [if_neg h2] at hy
      exact h a b x y hab hx hy
theorem ApartL.less {l:List Job} (h:ApartL l) {i:Nat} {a j:Job} (ha:l[i]? =some a) (hj:j.State=3→a.State=3∧j.Nodes=a.Nodes):ApartL (l.set i j):=
  h.set fun b y hb hy h3 hy3 k hk=>by
    obtain ⟨e1,e2⟩:=hj h3
    exact h i b a y (Ne.symm hb) ha hy e1 hy3 k (e2▸hk)
structure Deep (n:Nat) (c:Core):Prop where
  n1:1≤n
  n64:n≤64
  cw:CW c
  all:c.N.all=allS n
  dn: ∀k:Nat,hasB c.N.drain (k:Int)=true→k<n
  us: ∀k:Nat,hasB c.N.used (k:Int)=usedL c.J.jobs k
  jobs: ∀j∈c.J.jobs,JobOK n (nowC c) j
  ap:ApartL c.J.jobs
  mt:Match c.P (nowC c) (reqF n (dr c) c.J.jobs)
  nn: ∀t,nowC c≤t→0≤reqF n (dr c) c.J.jobs t
  lv:c.J.live=liveN c.J.jobs
  l64:liveN c.J.jobs≤64
  nw:0≤nowC c∧nowC c≤1099511627776
def FreshE (l:List Job) (now:Int):Prop:= ∀j∈l,j.State=3→now<j.End
def FreshP (l:List Job) (now:Int):Prop:= ∀j∈l,plannedJ j=true→now<j.Plan
theorem Deep.bound {n:Nat} {c:Core} (h:Deep n c): ∀t,nowC c≤t→0≤reqF n (dr c) c.J.jobs t∧reqF n (dr c) c.J.jobs t≤64:=fun t ht=>
  ⟨h.nn t ht,by have:=reqF_le (d:=dr c) (t:=t) h.jobs;have:=h.n64;omega⟩
theorem nodup_len: ∀{a b:List Int},a.Nodup→(∀x∈a,x∈b)→a.length≤b.length
  | [],b,_,_=>Nat.zero_le _
  |x::a,b,h,hs=>by
    have hx:=hs x (by simp)
    have h1:=(List.nodup_cons.1 h)
    have ih:=nodup_len (a:=a) (b:=b.erase x) h1.2 fun y hy=>(List.mem_erase_of_ne (fun e=>by subst e;exact h1.1 hy)).2 (hs y (by simp [hy]))
    rw [List.length_erase_of_mem hx] at ih
    have:0<b.length:=List.length_pos_of_mem hx
    simp;omega
def eventsL (l:List Job):List Int:=l.flatMap fun j=>[j.End,j.Plan,j.Plan+j.Limit]
theorem events_len (l:List Job):(eventsL l).length=3*l.length:=by
  unfold eventsL
  induction l with
  |nil=>rfl
  |cons j r ih=>simp only [List.flatMap_cons,List.length_append,List.length_cons,ih,List.length_nil];omega
theorem takeJ_event {n:Nat} {d:Nat→Bool} {t u:Int} {j:Job} (htu:t≤u) (h1: ¬(t<j.End∧j.End≤u)) (h2: ¬(t<j.Plan∧j.Plan≤u)) (h3: ¬(t<j.Plan+j.Limit∧j.Plan+j.Limit≤u)):takeJ n d u j=takeJ n d t j:=by
  unfold takeJ planAt
  split
  · by_cases h:t<j.End
    · rw [if_pos h,if_pos (by omega)]
    · rw [if_neg h,if_neg (by omega)]
  · by_cases hp:plannedJ j=true∧j.Id≠0
    · obtain ⟨p1,p2⟩:=hp
      by_cases h:j.Plan≤t∧t<j.Plan+j.Limit
      · rw [if_pos ⟨p1,p2,by omega,by omega⟩,if_pos ⟨p1,p2,h.1,h.2⟩]
      · rw [if_neg (fun g=>by have:=g.2.2.1;have:=g.2.2.2;omega),if_neg (fun g=>h ⟨g.2.2.1,g.2.2.2⟩)]
    · rw [if_neg (fun g=>hp ⟨g.1,g.2.1⟩),if_neg (fun g=>hp ⟨g.1,g.2.1⟩)]
theorem reqF_same {n:Nat} {d:Nat→Bool} {t u:Int} (htu:t≤u): ∀{l:List Job},(∀e∈eventsL l,¬(t<e∧e≤u))→reqF n d l u=reqF n d l t:=by
  intro l h
  unfold reqF
  have:sumT n d u l=sumT n d t l:=by
    induction l with
    |nil=>rfl
    |cons j r ih=>
      have hj: ∀e,e=j.End∨e=j.Plan∨e=j.Plan+j.Limit→ ¬(t<e∧e≤u):=fun e he=>h e (by simp [eventsL];rcases he with h |h |h<;>simp [h])
      simp only [sumT]
      rw [takeJ_event htu (hj _ (.inl rfl)) (hj _ (.inr (.inl rfl))) (hj _ (.inr (.inr rfl))),ih fun e he=>h e (by simp only [eventsL,List.flatMap_cons,List.mem_append];right;exact he)]
  rw [this]
theorem Match.len {n:Nat} {d:Nat→Bool} {p:Prof} {now:Int} {l:List Job} (h:Match p now (reqF n d l)):p.steps.length≤1+3*l.length:=by
  have hr:=h.pw.2.1
  cases hs:p.steps with
  |nil=>simp
  |cons s r=>
    have hnd:(r.map Step.At).Nodup:=by
      rw [hs] at hr
      have:=hr.tail
      rw [List.Nodup,List.pairwise_map]
      exact this.imp fun h e=>by omega
    have := nodup_len (b:=eventsL l) hnd (fun x hx=>by
      obtain ⟨y,hy,rfl⟩:=List.mem_map.1 hx
      apply Classical.byContradiction
      intro hno
      obtain ⟨i,hi⟩:=List.getElem?_of_mem hy
      have h1:p.steps[i+1]? =some y:=by rw [hs];simpa using hi
      have hil:=(List.getElem?_eq_some_iff.1 h1).1
      have h0:p.steps[i]? =some p.steps[i]:=List.getElem?_eq_getElem (by omega)
      have hlt:=hr.get h0 h1 (by omega)
      have e1:=free_get hr (t:=y.At) h1 (Int.le_refl _) fun s' hs'=>hr.get h1 hs' (by omega)
      have e0:=free_get hr (t:=y.At-1) h0 (by omega) fun s' hs'=>by rw [h1] at hs';cases hs';omega
      have hnow:=now_le_get hr h0
      rw [h.nw] at hnow
      rw [h.fr _ (by omega)] at e1 e0
      have hsame:=reqF_same (n:=n) (d:=d) (t:=y.At-1) (u:=y.At) (by omega) (l:=l) fun e he hh=>hno (by rwa [show y.At=e by omega])
      rw [e1,e0] at hsame
      have hc:=h.cn
      have gen: ∀(l:List Step) (i:Nat) (a b:Step),Canon l→l[i]? =some a→l[i+1]? =some b→a.Free≠b.Free:=by
        intro l
        induction l with
        |nil=>intro i a b _ h;simp at h
        |cons x l ih=>
          intro i a b hc ha hb
          cases l with
          |nil=>simp at hb
          |cons z l=>
            cases i with
            |zero=>simp at ha hb;subst ha hb;exact hc.1
            |succ i=>exact ih i a b hc.2 (by simpa using ha) (by simpa using hb)
      exact gen _ _ _ _ hc h0 h1 hsame.symm)
    rw [events_len] at this
    simp at this ⊢;omega
theorem Deep.len {n:Nat} {c:Core} (h:Deep n c):c.P.steps.length≤3073:=by
  have:=h.mt.len
  have:=h.cw.1.2.1
  omega
theorem id_at {c:Core} (h:CW c) {i:Nat} {j:Job} (hj:c.J.jobs[i]? =some j):j.Id=(i:Int)+1:=(h.1.2.2 i j hj).1
theorem atJ_at {l:List Job} {i:Nat} {j:Job} (hj:l[i]? =some j) {id:Int} (hid:id=(i:Int)+1) (st:List Int) (f:Job→Job):atJ l id st f=if st.contains j.State then (0,l.set i (f j)) else (8,l):=by
  have hl:=(List.getElem?_eq_some_iff.1 hj).1
  subst hid
  unfold atJ
  rw [if_neg (by omega),show ((i:Int)+1-1).toNat=i by omega,hj]
theorem getJ_at {l:List Job} {i:Nat} {j:Job} (hj:l[i]? =some j) {id:Int} (hid:id=(i:Int)+1):getJ l id=(j,0):=by
  have hl:=(List.getElem?_eq_some_iff.1 hj).1
  subst hid
  unfold getJ
  rw [if_neg (by omega),show ((i:Int)+1-1).toNat=i by omega,hj]
theorem getJ_cases (l:List Job) (id:Int):((id<1∨(l.length:Int)<id)∧getJ l id=(job0,7))∨ ∃(i:Nat) (j:Job),id=(i:Int)+1∧l[i]? =some j∧getJ l id=(j,0):=by
  by_cases h:id<1∨(l.length:Int)<id
  · left;exact ⟨h,by unfold getJ;rw [if_pos h]⟩
  · right
    obtain ⟨i,hi⟩:=Int.eq_ofNat_of_zero_le (show 0≤id-1 by omega)
    have hl:i<l.length:=by omega
    exact ⟨i,l[i],by omega,List.getElem?_eq_getElem hl,getJ_at (List.getElem?_eq_getElem hl) (by omega)⟩
theorem liveN_set {l:List Job} {i:Nat} {a b:Job} (h:l[i]? =some a):liveN (l.set i b)=liveN l-(if liveJ a then 1 else 0)+(if liveJ b then 1 else 0):=by
  unfold liveN
  induction l generalizing i with
  |nil=>simp at h
  |cons x r ih=>
    cases i with
    |zero=>
      simp at h;subst h
      simp only [List.set,List.countP_cons]
      cases liveJ x<;>cases liveJ b<;>simp<;>omega
    |succ i=>
      have:=ih (i:=i) (by simpa using h)
      simp only [List.set,List.countP_cons]
      cases liveJ x<;>simp<;>omega
theorem liveN_nonneg (l:List Job):0≤liveN l:=Int.natCast_nonneg _
theorem any_set_same {l:List Job} {p:Job→Bool} {i:Nat} {a b:Job} (h:l[i]? =some a) (hp:p b=p a):(l.set i b).any p=l.any p:=by
  induction l generalizing i with
  |nil=>simp at h
  |cons x r ih=>
    cases i with
    |zero=>simp at h;subst h;simp [hp]
    |succ i=>simp only [List.set,List.any_cons,ih (i:=i) (by simpa using h)]
theorem any_set {l:List Job} {p:Job→Bool} {i:Nat} {a b:Job} (h:l[i]? =some a):(l.set i b).any p=(p b||(l.set i b).any fun x=>p x&&true):=by
  have hl:=(List.getElem?_eq_some_iff.1 h).1
  have hm:b∈l.set i b:=List.mem_of_getElem? (i:=i) (by rw [List.getElem?_set_self hl])
  cases hb:p b with
  |false=>simp
  |true=>simp;exact ⟨b,hm,hb⟩
theorem ids_set {l:List Job} (h:IdsOK l) {i:Nat} {a b:Job} (ha:l[i]? =some a) (h1:b.Id=a.Id) (h2:U64 b.Nodes):IdsOK (l.set i b):=by
  intro p q hq
  rw [List.getElem?_set] at hq
  split at hq
  · rename_i hp;subst hp
    split at hq
    · cases hq;exact ⟨h1.trans (h _ _ ha).1,h2⟩
    · cases hq
  · exact h p q hq
theorem Deep.set {n:Nat} {c:Core} (h:Deep n c) {i:Nat} {a b:Job} (ha:c.J.jobs[i]? =some a) (hid:b.Id=a.Id) (hb:JobOK n (nowC c) b) {N':Nodes} {P':Prof} {live':Int} {cl:Bool}
    (hall:N'.all=c.N.all) (hdr:N'.drain=c.N.drain) (hu:U64 N'.used) (hus: ∀k:Nat,hasB N'.used (k:Int)=usedL (c.J.jobs.set i b) k) (hap:ApartL (c.J.jobs.set i b))
    (hm:Match P' (nowC c) (reqF n (dr c) (c.J.jobs.set i b))) (hnn: ∀t,nowC c≤t→0≤reqF n (dr c) (c.J.jobs.set i b) t)
    (hlv:live'=liveN (c.J.jobs.set i b)) (hl64:liveN (c.J.jobs.set i b)≤64):Deep n ⟨⟨c.J.jobs.set i b,live',c.J.made⟩,N',P',cl⟩:=by
  have hcw:=h.cw
  have hnow:nowC (⟨⟨c.J.jobs.set i b,live',c.J.made⟩,N',P',cl⟩:Core)=nowC c:=hm.nw
  have hd:dr (⟨⟨c.J.jobs.set i b,live',c.J.made⟩,N',P',cl⟩:Core)=dr c:=by unfold dr;simp only [hdr]
  refine ⟨h.n1,h.n64,⟨⟨hcw.1.1,by simpa using hcw.1.2.1,ids_set hcw.1.2.2 ha hid hb.un⟩,⟨by rw [hall];exact hcw.2.1.1,hu,by rw [hdr];exact hcw.2.1.2.2.1,by rw [hall];exact hcw.2.1.2.2.2⟩,hm.pw⟩,hall.trans h.all,by simp only [hdr];exact h.dn,hus,?_,hap,?_,?_,hlv,hl64,by rw [hnow];exact h.nw⟩
  · rw [hnow]
    intro j hj
    rcases List.mem_or_eq_of_mem_set hj with hj |rfl
    · exact h.jobs j hj
    · exact hb
  · rw [hnow,hd];exact hm
  · rw [hnow,hd];exact hnn
end Go.Ax.Law
namespace Go.Ax.Law
theorem planned_iff {j:Job}:plannedJ j=true↔j.State=1∧0≤j.Plan:=by simp [plannedJ]
theorem planned_not {j:Job}:plannedJ j=false↔(j.State≠1∨j.Plan<0):=by
 unfold plannedJ
 by_cases h1:j.State=1<;>by_cases h2:0≤j.Plan<;>simp [h1,h2]<;>omega
theorem planS_snd (j:Job):(planS j).2=plannedJ j:=by
 unfold planS
 split
 ·rename_i h;rw [planned_not.2 h]
 ·rename_i h;rw [planned_iff.2 (by omega)]
theorem planS_fst {j:Job} (h:plannedJ j=true):(planS j).1=⟨j.Plan,wr (j.Plan+j.Limit),j.Width⟩:=(planS_some (by rw [planS_snd];exact h)).2.2
theorem JobOK.plan {n:Nat} {now:Int} {j:Job} (h:JobOK n now j) (hp:plannedJ j=true):now≤j.Plan∧j.Plan≤1099511627776:=by
 have h1:=planned_iff.1 hp
 rcases h.pl with h2 |h2
 ·omega
 ·exact h2.2
theorem JobOK.wrp {n:Nat} {now:Int} {j:Job} (h:JobOK n now j) (hp:plannedJ j=true):wr (j.Plan+j.Limit)=j.Plan+j.Limit:=by
 have h1:=planned_iff.1 hp
 have h2:=h.plan hp
 have h3:=h.lm
 exact wr_in (by omega)
theorem take_planned {n:Nat} {d:Nat→Bool} {t:Int} {j:Job} (hp:plannedJ j=true) (hi:j.Id≠0):takeJ n d t j=if j.Plan≤t∧t<j.Plan+j.Limit then j.Width else 0:=by
 have h1:=planned_iff.1 hp
 unfold takeJ planAt
 rw [if_neg (by omega)]
 simp [hp,hi]
theorem take_rest {n:Nat} {d:Nat→Bool} {t:Int} {j:Job} (hp:plannedJ j=false) (h3:j.State≠3):takeJ n d t j=0:=by
 unfold takeJ planAt
 rw [if_neg h3,if_neg (by simp [hp])]
theorem lessJ_ahead (a b:Job):lessJ a b=aheadJ a b:=by
 unfold lessJ aheadJ cmpJ cmpI
 by_cases h1:b.Prio<a.Prio
 ·simp [h1]
 ·by_cases h2:b.Prio>a.Prio
  ·have: ¬ a.Prio=b.Prio:=by omega
   simp [h1,h2,this]
  ·have:a.Prio=b.Prio:=by omega
   by_cases h3:a.Id<b.Id
   ·simp [this,h3]
   ·by_cases h4:a.Id>b.Id
    ·simp [this,h3,h4]
    ·simp [this,h3,h4]
theorem dropAt_eq (w:Work) (x:Job):dropAt w x=(plannedJ x&&(decide (w.job.Id=0)||aheadJ w.job x)):=by
 unfold dropAt;rw [planS_snd,lessJ_ahead]
theorem dropJ_not {w:Work} {x:Job} (h:dropAt w x=false):dropJ w.job x=x:=by
 rw [dropAt_eq] at h;unfold dropJ;rw [if_neg (by rw [h];decide)]
theorem dropJ_yes {w:Work} {x:Job} (h:dropAt w x=true):dropJ w.job x={x with Plan:= -1}:=by
 rw [dropAt_eq] at h;unfold dropJ;rw [if_pos h]
theorem dropJ_off (a x:Job):dropJ a {x with Plan:= -1}={x with Plan:= -1}:=by
 unfold dropJ;split<;>rfl
theorem drop_find {l:List Job} (w:Work):(inJ l [1]).find? (dropAt w)=l.find? (dropAt w):=by
 unfold inJ
 rw [List.find?_filter]
 congr 1
 funext x
 cases h:dropAt w x with
 |false=>simp
 |true=>
  rw [dropAt_eq] at h
  simp only [Bool.and_eq_true] at h
  have:=(planned_iff.1 h.1).1
  simp [this]
theorem job_mem {l:List Job} {i:Nat} {j:Job} (h:l[i]? =some j):j∈l:=List.mem_of_getElem? h
theorem jobs_set {l:List Job} {n:Nat} {now:Int} (h: ∀j∈l,JobOK n now j) {i:Nat} {b:Job} (hb:JobOK n now b): ∀j∈l.set i b,JobOK n now j:=fun j hj=>by
 rcases List.mem_or_eq_of_mem_set hj with hj |rfl
 ·exact h j hj
 ·exact hb
theorem Deep.unplan {n:Nat} {c:Core} (h:Deep n c) {i:Nat} {j:Job} (hj:c.J.jobs[i]? =some j) (hp:plannedJ j=true):
  ∃P',nowL P'.steps=nowC c∧setPlanC (releaseC c (planS j).1) j.Id (-1)=⟨⟨c.J.jobs.set i {j with Plan:= -1},c.J.live,c.J.made⟩,c.N,P',c.closed⟩∧Deep n ⟨⟨c.J.jobs.set i {j with Plan:= -1},c.J.live,c.J.made⟩,c.N,P',c.closed⟩:=by
 have hok:=h.jobs j (job_mem hj)
 have hid:=id_at h.cw hj
 have hpi:=planned_iff.1 hp
 have hpl:=hok.plan hp
 have hlm:=hok.lm
 have hwd:=hok.wd
 have hnw:=h.nw
 have hn:=h.n64
 refine ⟨(addP c.P j.Plan (j.Plan+j.Limit) j.Width).2,(addP_ok h.cw.2.2 (by have:=h.len;omega)).2.2,?_,?_⟩
 ·rw [planS_fst hp,hok.wrp hp]
  unfold setPlanC releaseC addC planJ
  simp only []
  rw [if_neg (by omega)]
  simp only []
  rw [atJ_at hj hid,if_pos (by rw [hpi.1];decide)]
 ·have hb:JobOK n (nowC c) {j with Plan:= -1}:=⟨hok.st,hok.wd,hok.lm,.inl rfl,fun h3=>by simp only [] at h3;omega,hok.en,hok.un⟩
  have hnp:plannedJ {j with Plan:= -1}=false:=planned_not.2 (.inr (by simp))
  have hr: ∀t,reqF n (dr c) (c.J.jobs.set i {j with Plan:= -1}) t=reqF n (dr c) c.J.jobs t+(if j.Plan≤t∧t<j.Plan+j.Limit then j.Width else 0):=fun t=>by
   rw [reqF_set hj,take_planned hp (by omega),take_rest hnp (by simp only [];omega)]
   omega
  have hle: ∀t,reqF n (dr c) (c.J.jobs.set i {j with Plan:= -1}) t≤n:=fun t=>reqF_le (jobs_set h.jobs hb)
  have hge: ∀t,nowC c≤t→0≤reqF n (dr c) (c.J.jobs.set i {j with Plan:= -1}) t:=fun t ht=>by
   have:=h.nn t ht
   rw [hr];split<;>omega
  have hlv:liveN (c.J.jobs.set i {j with Plan:= -1})=liveN c.J.jobs:=by
   rw [liveN_set hj]
   have:liveJ {j with Plan:= -1}=liveJ j:=rfl
   rw [this];omega
  refine h.set (b:={j with Plan:= -1}) hj rfl hb rfl rfl h.cw.2.1.2.1 (fun k=>?_) (h.ap.less hj fun h3=>⟨h3,rfl⟩) ?_ hge (by rw [hlv];exact h.lv) (by rw [hlv];exact h.l64)
  ·rw [h.us];unfold usedL;rw [any_set_same hj];rfl
  ·refine (h.mt.add (by have:=h.len;omega) hpl.1 (by omega) (by omega) (by omega) h.bound (fun t ht=>⟨hge t ht,by have:=hle t;omega⟩) fun t ht=>?_).1
   rw [hr t]
   congr 1
   by_cases hc:j.Plan≤t∧t<j.Plan+j.Limit
   ·rw [if_pos hc,if_pos ⟨hc.1,.inl hc.2⟩]
   ·rw [if_neg hc,if_neg (by omega)]
inductive Ends:Work→Core→Nat→Work→Core→Prop
 |one {w:Work} {c:Core}:(stepW w c).1.done=true→Ends w c 1 (stepW w c).1 (stepW w c).2
 |more {w:Work} {c:Core} {k:Nat} {w':Work} {c':Core}:(stepW w c).1.done=false→Ends (stepW w c).1 (stepW w c).2 k w' c'→Ends w c (k+1) w' c'
theorem Ends.whole {w:Work} {c:Core} {k:Nat} {w':Work} {c':Core} (h:Ends w c k w' c'): ∀(f:Nat) (n:Int),k≤f→wholeF f n w c=(n+k-1,w',c'):=by
 induction h with
 |one hd=>
  intro f n hf
  cases f with
  |zero=>omega
  |succ f=>
   simp only [wholeF];rw [if_pos hd]
   have:n+((1:Nat):Int)-1=n:=by omega
   rw [this]
 | @more w c k w' c' hd _ ih=>
  intro f n hf
  cases f with
  |zero=>omega
  |succ f=>
   simp only [wholeF];rw [if_neg (by rw [hd];decide),ih f (n+1) (by omega)]
   have:n+1+(k:Int)-1=n+((k+1:Nat):Int)-1:=by omega
   rw [this]
theorem Ends.pos {w:Work} {c:Core} {k:Nat} {w':Work} {c':Core} (h:Ends w c k w' c'):1≤k:=by cases h<;>omega
theorem Ends.done {w:Work} {c:Core} {k:Nat} {w':Work} {c':Core} (h:Ends w c k w' c'):w'.done=true:=by
 induction h with
 |one h=>exact h
 |more _ _ ih=>exact ih
theorem Ends.first {w:Work} {c:Core} {r:Work × Core} (h:stepW w c=r) (hd:r.1.done=true):Ends w c 1 r.1 r.2:=by
 subst h;exact .one hd
theorem Ends.next {w:Work} {c:Core} {r:Work × Core} {k:Nat} {w':Work} {c':Core} (h:stepW w c=r) (hd:r.1.done=false) (he:Ends r.1 r.2 k w' c'):Ends w c (k+1) w' c':=by
 subst h;exact .more hd he
theorem count_set {l:List Job} {p:Job→Bool} {i:Nat} {a b:Job} (h:l[i]? =some a) (ha:p a=true) (hb:p b=false):(l.set i b).countP p+1=l.countP p:=by
 induction l generalizing i with
 |nil=>simp at h
 |cons x r ih=>
  cases i with
  |zero=>simp at h;subst h;simp [ha,hb]
  |succ i=>
   have:=ih (i:=i) (by simpa using h)
   simp only [List.set,List.countP_cons];omega
theorem map_set_same {l:List Job} {f:Job→Job} {i:Nat} {a b:Job} (h:l[i]? =some a) (hb:f b=f a):(l.set i b).map f=l.map f:=by
 induction l generalizing i with
 |nil=>simp at h
 |cons x r ih=>
  cases i with
  |zero=>simp at h;subst h;simp [hb]
  |succ i=>simp only [List.set,List.map_cons,ih (i:=i) (by simpa using h)]
theorem step_drop {w:Work} {c:Core} (hd:w.done=false) (hc:w.commit=false) (hp:0<w.part) (hk:w.req.Kind=1∨w.req.Kind=4):
  stepW w c=({(dropW w c).2.1 with part:=wr ((dropW w c).2.1.part+1)},(dropW w c).2.2):=by
 have h0: ¬ (w.part=0∧c.closed=true):=by omega
 unfold stepW
 simp only [hd,hc,h0,if_false,Bool.false_eq_true]
 unfold serveW
 rcases hk with hk |hk
 ·rw [if_pos hk];unfold submitW;rw [if_pos hp]
 ·rw [if_neg (by omega),if_neg (by omega),if_neg (by omega),if_pos hk];unfold freeW;rw [if_pos hp]
theorem drops_ends {n:Nat}: ∀(N:Nat) {c:Core} {w:Work},Deep n c→w.done=false→w.commit=false→0<w.part→w.part+N≤1000000→(w.req.Kind=1∨w.req.Kind=4)→w.job.Id≠0→c.J.jobs.countP (dropAt w)=N→
  ∃P',nowL P'.steps=nowC c∧Ends w c (N+1) {w with done:=true,part:=w.part+N+1} ⟨⟨c.J.jobs.map (dropJ w.job),c.J.live,c.J.made⟩,c.N,P',c.closed⟩∧Deep n ⟨⟨c.J.jobs.map (dropJ w.job),c.J.live,c.J.made⟩,c.N,P',c.closed⟩
 |0,c,w,h,hd,hc,hp,hs,hk,hid,hn=>by
  have hno: ∀x∈c.J.jobs,dropAt w x=false:=fun x hx=>by
   have:=List.countP_eq_zero.1 hn x hx
   cases hb:dropAt w x with
   |false=>rfl
   |true=>exact absurd hb this
  have hf:(inJ c.J.jobs [1]).find? (dropAt w)=none:=by
   rw [drop_find,List.find?_eq_none]
   intro x hx;rw [hno x hx];decide
  have hst:=step_drop (c:=c) hd hc hp hk
  have hdw:dropW w c=(false,{w with done:=decide (w.job.Id≠0)},c):=by unfold dropW;rw [hf]
  rw [hdw] at hst
  have hm:c.J.jobs.map (dropJ w.job)=c.J.jobs:=by
   conv=>rhs;rw [←List.map_id c.J.jobs]
   exact List.map_congr_left fun x hx=>dropJ_not (hno x hx)
  refine ⟨c.P,rfl,?_,?_⟩
  ·rw [hm]
   have:=Ends.first hst (by simp [hid])
   simp only [wr_in (n:=w.part+1) (by omega)] at this
   simpa [hid] using this
  ·rw [hm];exact h
 |N+1,c,w,h,hd,hc,hp,hs,hk,hid,hn=>by
  cases hf:(inJ c.J.jobs [1]).find? (dropAt w) with
  |none=>
   exfalso
   rw [drop_find,List.find?_eq_none] at hf
   have:c.J.jobs.countP (dropAt w)=0:=List.countP_eq_zero.2 fun x hx=>hf x hx
   omega
  |some j=>
   have hf':=hf
   rw [drop_find] at hf'
   have hat:=List.find?_some hf'
   obtain ⟨i,hi⟩:=List.getElem?_of_mem (List.mem_of_find?_eq_some hf')
   have hpj:plannedJ j=true:=by rw [dropAt_eq] at hat;simp only [Bool.and_eq_true] at hat;exact hat.1
   obtain ⟨P1,e0,e1,h1⟩:=h.unplan hi hpj
   have hdw:dropW w c=(true,w,setPlanC (releaseC c (planS j).1) j.Id (-1)):=by unfold dropW;rw [hf]
   have hst:=step_drop (c:=c) hd hc hp hk
   rw [hdw,e1] at hst
   simp only [wr_in (n:=w.part+1) (by omega)] at hst
   have hoff:dropAt w {j with Plan:= -1}=false:=by rw [dropAt_eq];simp [plannedJ]
   have hcnt:=count_set (b:={j with Plan:= -1}) hi hat hoff
   obtain ⟨P2,e3,e2,h2⟩:=drops_ends N (w:={w with part:=w.part+1}) h1 hd hc (by simp only [];omega) (by simp only [];omega) hk hid (by show List.countP (dropAt w) _=N;simp only [];omega)
   simp only [] at e2 h2
   rw [map_set_same hi ((dropJ_off _ _).trans (dropJ_yes hat).symm)] at e2 h2
   refine ⟨P2,e3.trans e0,?_,h2⟩
   have:=Ends.next hst hd e2
   simp only [show w.part+1+(N:Int)+1=w.part+((N+1:Nat):Int)+1 by omega] at this
   exact this
end Go.Ax.Law
