import Derived.Test.YtbmabiedmdlinaaGreatDoorAxP6
set_option linter.all false
namespace Go.Ax.Law
theorem wu (n:Int):IntKind.u64.wrap n=n%18446744073709551616:=by simp [IntKind.wrap,IntKind.bits,IntKind.signed]
theorem wuN {a:Nat} (h:a<18446744073709551616):IntKind.u64.wrap (a:Int)=(a:Int):=by rw [wu];omega
theorem wrdef (n:Int):wr n=(n+9223372036854775808)%18446744073709551616-9223372036854775808:=by
 unfold wr;simp [IntKind.wrap,IntKind.bits,IntKind.signed,IntKind.max,IntKind.min];try omega
theorem wr_in {n:Int} (h: -9223372036854775808≤n∧n≤9223372036854775807):wr n=n:=w64 h
theorem U64.nat {a:Nat} (h:a<18446744073709551616):U64 (a:Int):=⟨Int.natCast_nonneg _,by omega⟩
theorem U64.ex {x:Int} (h:U64 x): ∃a:Nat,a<18446744073709551616∧x=(a:Int):=⟨x.toNat,by have:=h.1;have:=h.2;omega,by have:=h.1;omega⟩
theorem U64.zero:U64 0:=⟨by decide,by decide⟩
theorem bv64 {a:Nat} (h:a<18446744073709551616):(BitVec.ofInt 64 (a:Int)).toNat=a:=by
 simp [BitVec.toNat_ofInt];omega
theorem landU {a b:Nat} (ha:a<18446744073709551616) (hb:b<18446744073709551616):landI .u64 (a:Int) (b:Int)=((a&&&b:Nat):Int):=by
 unfold landI
 show IntKind.u64.wrap ((BitVec.ofInt 64 (a:Int)&&&BitVec.ofInt 64 (b:Int)).toNat:Nat)=_
 rw [BitVec.toNat_and,bv64 ha,bv64 hb]
 exact wuN (Nat.lt_of_le_of_lt Nat.and_le_left ha)
theorem lorU {a b:Nat} (ha:a<18446744073709551616) (hb:b<18446744073709551616):lorI .u64 (a:Int) (b:Int)=((a|||b:Nat):Int):=by
 unfold lorI
 show IntKind.u64.wrap ((BitVec.ofInt 64 (a:Int)|||BitVec.ofInt 64 (b:Int)).toNat:Nat)=_
 rw [BitVec.toNat_or,bv64 ha,bv64 hb]
 exact wuN (Nat.or_lt_two_pow (n:=64) ha hb)
theorem minus_lt {a b:Nat} (ha:a<18446744073709551616):a ^^^ (a&&&b)<18446744073709551616:=
 Nat.xor_lt_two_pow (n:=64) ha (Nat.lt_of_le_of_lt Nat.and_le_left ha)
theorem landnU {a b:Nat} (ha:a<18446744073709551616) (hb:b<18446744073709551616):landnI .u64 (a:Int) (b:Int)=((a ^^^ (a&&&b):Nat):Int):=by
 unfold landnI
 show IntKind.u64.wrap ((BitVec.ofInt 64 (a:Int)&&& ~~~ BitVec.ofInt 64 (b:Int)).toNat:Nat)=_
 rw [BitVec.toNat_and,BitVec.toNat_not,bv64 ha,bv64 hb]
 have e:(a&&&(2^64-1-b))=a ^^^ (a&&&b):=by
  apply Nat.eq_of_testBit_eq
  intro i
  have hx:(2^64-1-b)=2^64-(b+1):=by omega
  rw [Nat.testBit_and,Nat.testBit_xor,Nat.testBit_and,hx,Nat.testBit_two_pow_sub_succ (n:=64) hb]
  by_cases hi:i<64
  ·simp [hi];cases a.testBit i<;>cases b.testBit i<;>rfl
  ·have:a.testBit i=false:=Nat.testBit_lt_two_pow (Nat.lt_of_lt_of_le (show a<2^64 from ha) (Nat.pow_le_pow_right (n:=2) (by omega) (by omega:64≤i)))
   simp [this]
 rw [e]
 exact wuN (minus_lt ha)
theorem fdiv2 (a k:Nat):Int.fdiv (a:Int) (2^k)=((a/2^k:Nat):Int):=by
 have h:(0:Int)≤2^k:=Int.pow_nonneg (by omega)
 rw [Int.fdiv_eq_ediv_of_nonneg _ h]
 simp
def val:List Nat→Nat
 | []=>0
 |c::r=>c+256*val r
theorem bits_cut (k:Nat) {c m:Nat} (y M:Nat) (hc:c<256) (hk:k≤8) (hm:m<2^(8-k)):((c+256*y)/2^k&&&(m+256*M))=(c/2^k&&&m)+256*(y/2^k&&&M):=by
 have hm8:m<2^8:=Nat.lt_of_lt_of_le hm (Nat.pow_le_pow_right (n:=2) (by omega) (by omega))
 have hr:(c/2^k&&&m)<2^8:=Nat.lt_of_le_of_lt Nat.and_le_right hm8
 apply Nat.eq_of_testBit_eq
 intro j
 rw [show c+256*y=2^8*y+c by omega,show m+256*M=2^8*M+m by omega,show (c/2^k&&&m)+256*(y/2^k&&&M)=2^8*(y/2^k&&&M)+(c/2^k&&&m) by omega]
 rw [Nat.testBit_and,Nat.testBit_two_pow_mul_add _ hm8,Nat.testBit_two_pow_mul_add _ hr,Nat.testBit_div_two_pow,Nat.testBit_two_pow_mul_add _ (show c<2^8 from hc),Nat.testBit_and,Nat.testBit_and,Nat.testBit_div_two_pow,Nat.testBit_div_two_pow]
 by_cases hj:j<8
 ·rw [if_pos hj,if_pos hj]
  by_cases hjk:j+k<8
  ·rw [if_pos (by omega)]
  ·have:m.testBit j=false:=Nat.testBit_lt_two_pow (Nat.lt_of_lt_of_le hm (Nat.pow_le_pow_right (n:=2) (by omega) (by omega)))
   rw [this];simp
 ·rw [if_neg hj,if_neg hj,if_neg (by omega)]
  congr 2;congr 1;omega
def f1 (m x:Nat):Nat:=(x/2^1&&&m)+(x&&&m)
def f2 (m x:Nat):Nat:=(x/2^2&&&m)+(x&&&m)
def msk (m:Nat):Nat→Nat
 |0=>0
 |n+1=>m+256*msk m n
theorem cut0 {c m:Nat} (y M:Nat) (hc:c<256) (hm:m<256):((c+256*y)&&&(m+256*M))=(c&&&m)+256*(y&&&M):=by
 have:=bits_cut 0 y M hc (by decide) (m:=m) (by simpa using hm)
 simpa using this
theorem f1_val: ∀(cs:List Nat),(∀c∈cs,c<256)→f1 (msk 85 cs.length) (val cs)=val (cs.map (f1 85))
 | [],_=>rfl
 |c::r,h=>by
  have ih:=f1_val r (fun c hc=>h c (by simp [hc]))
  simp only [val,List.map_cons,List.length_cons,msk,←ih]
  unfold f1
  rw [bits_cut 1 _ _ (h c (by simp)) (by decide) (by decide),cut0 _ _ (h c (by simp)) (by decide)]
  omega
theorem f2_val: ∀(cs:List Nat),(∀c∈cs,c<256)→f2 (msk 51 cs.length) (val cs)=val (cs.map (f2 51))
 | [],_=>rfl
 |c::r,h=>by
  have ih:=f2_val r (fun c hc=>h c (by simp [hc]))
  simp only [val,List.map_cons,List.length_cons,msk,←ih]
  unfold f2
  rw [bits_cut 2 _ _ (h c (by simp)) (by decide) (by decide),cut0 _ _ (h c (by simp)) (by decide)]
  omega
theorem f3_val: ∀(cs:List Nat),(∀c∈cs,c/16≤4∧c%16≤4)→((val cs/16+val cs)&&&msk 15 cs.length)=val (cs.map fun c=>c/16+c%16)
 | [],_=>rfl
 |c::r,h=>by
  have ih:=f3_val r (fun c hc=>h c (by simp [hc]))
  have hc:=h c (by simp)
  have hl:val r%16≤4:=by
   cases r with
   |nil=>decide
   |cons d r=>have:=(h d (by simp)).2;simp only [val];omega
  simp only [val,List.map_cons,List.length_cons,msk,←ih]
  have e:(c+256*val r)/16+(c+256*val r)=((c/16+c%16)+16*(c/16+val r%16))+256*(val r/16+val r):=by omega
  rw [e,cut0 _ _ (by omega) (by decide)]
  congr 1
  have:(15:Nat)=2^4-1:=by decide
  rw [this,Nat.and_two_pow_sub_one_eq_mod]
  omega
theorem popN_cut (c y:Nat) (hc:c<256): ∀n,popN (c+256*y) (8+n)=popN c 8+popN y n
 |0=>by
  have hb: ∀j,j<8→(c+256*y).testBit j=c.testBit j:=fun j hj=>by
   rw [show c+256*y=2^8*y+c by omega,Nat.testBit_two_pow_mul_add _ (show c<2^8 from hc),if_pos hj]
  show popN _ 8=popN c 8+popN y 0
  simp only [popN,hb 0 (by decide),hb 1 (by decide),hb 2 (by decide),hb 3 (by decide),hb 4 (by decide),hb 5 (by decide),hb 6 (by decide),hb 7 (by decide),Nat.add_zero]
 |n+1=>by
  have ih:=popN_cut c y hc n
  have hb:(c+256*y).testBit (8+n)=y.testBit n:=by
   rw [show c+256*y=2^8*y+c by omega,Nat.testBit_two_pow_mul_add _ (show c<2^8 from hc),if_neg (by omega)]
   congr 1;omega
  show popN _ (8+n)+_=popN c 8+(popN y n+_)
  rw [ih,show Nat.add 8 n=8+n from rfl,hb];omega
theorem byte_facts: ∀c:Fin 256,f1 85 c.val<256∧f2 51 (f1 85 c.val)/16≤4∧f2 51 (f1 85 c.val)%16≤4∧f2 51 (f1 85 c.val)/16+f2 51 (f1 85 c.val)%16=popN c.val 8∧popN c.val 8≤8:=by decide+kernel
theorem popN_val: ∀(cs:List Nat),(∀c∈cs,c<256)→popN (val cs) (8*cs.length)=(cs.map fun c=>popN c 8).sum
 | [],_=>rfl
 |c::r,h=>by
  rw [show 8*(c::r).length=8+8*r.length by simp;omega]
  simp only [val]
  rw [popN_cut _ _ (h c (by simp)),popN_val r (fun c hc=>h c (by simp [hc]))]
  simp
def bytes8 (x:Nat):List Nat:=[x%256,x/256%256,x/65536%256,x/16777216%256,x/4294967296%256,x/1099511627776%256,x/281474976710656%256,x/72057594037927936%256]
theorem val_bytes8 {x:Nat} (h:x<18446744073709551616):val (bytes8 x)=x:=by
 simp only [bytes8,val];omega
theorem bytes8_lt (x:Nat): ∀c∈bytes8 x,c<256:=by
 intro c hc
 simp only [bytes8,List.mem_cons,List.not_mem_nil,or_false] at hc
 omega
theorem ones_sum {x:Nat} (h:x<18446744073709551616):
  ∃p0 p1 p2 p3 p4 p5 p6 p7:Nat,p0≤8∧p1≤8∧p2≤8∧p3≤8∧p4≤8∧p5≤8∧p6≤8∧p7≤8∧
   f1 6148914691236517205 x<18446744073709551616∧f2 3689348814741910323 (f1 6148914691236517205 x)<18446744073709551616∧
   f2 3689348814741910323 (f1 6148914691236517205 x)/16+f2 3689348814741910323 (f1 6148914691236517205 x)<18446744073709551616∧
   ((f2 3689348814741910323 (f1 6148914691236517205 x)/16+f2 3689348814741910323 (f1 6148914691236517205 x))&&&1085102592571150095)=p0+256*(p1+256*(p2+256*(p3+256*(p4+256*(p5+256*(p6+256*p7))))))∧
   popN x 64=p0+p1+p2+p3+p4+p5+p6+p7:=by
 have hv:=val_bytes8 h
 have hb:=bytes8_lt x
 have e1:=f1_val (bytes8 x) hb
 rw [hv,show msk 85 (bytes8 x).length=6148914691236517205 by simp [bytes8,msk]] at e1
 have g1: ∀c∈(bytes8 x).map (f1 85),c<256:=by
  intro c hc
  obtain ⟨d,hd,rfl⟩:=List.mem_map.1 hc
  exact (byte_facts ⟨d,hb d hd⟩).1
 have e2:=f2_val _ g1
 rw [←e1,show msk 51 ((bytes8 x).map (f1 85)).length=3689348814741910323 by simp [bytes8,msk],List.map_map] at e2
 have g2: ∀c∈(bytes8 x).map (f2 51 ∘ f1 85),c/16≤4∧c%16≤4:=by
  intro c hc
  obtain ⟨d,hd,rfl⟩:=List.mem_map.1 hc
  have:=byte_facts ⟨d,hb d hd⟩
  exact ⟨this.2.1,this.2.2.1⟩
 have e3:=f3_val _ g2
 rw [←e2,show msk 15 ((bytes8 x).map (f2 51 ∘ f1 85)).length=1085102592571150095 by simp [bytes8,msk],List.map_map] at e3
 have e4:=popN_val (bytes8 x) hb
 rw [hv,show 8*(bytes8 x).length=64 by rfl] at e4
 have hmap:(bytes8 x).map ((fun c=>c/16+c%16) ∘ (f2 51 ∘ f1 85))=(bytes8 x).map fun c=>popN c 8:=by
  apply List.map_congr_left
  intro c hc
  exact (byte_facts ⟨c,hb c hc⟩).2.2.2.1
 rw [hmap] at e3
 have hp: ∀c∈bytes8 x,popN c 8≤8:=fun c hc=>(byte_facts ⟨c,hb c hc⟩).2.2.2.2
 have hle: ∀(cs:List Nat),(∀c∈cs,c<256)→val cs<256^cs.length:=by
  intro cs
  induction cs with
  |nil=>intro _;decide
  |cons c r ih=>
   intro h
   have:=ih fun c hc=>h c (by simp [hc])
   have:=h c (by simp)
   simp only [val,List.length_cons,Nat.pow_succ]
   omega
 have hl1:=hle _ g1
 have hl2:=hle ((bytes8 x).map (f2 51 ∘ f1 85)) (fun c hc=>by have:=g2 c hc;omega)
 rw [←e1] at hl1
 rw [←e2] at hl2
 have h44:f2 3689348814741910323 (f1 6148914691236517205 x)≤4919131752989213764:=by
  rw [e2]
  have hle4: ∀(cs:List Nat),(∀c∈cs,c/16≤4∧c%16≤4)→val cs≤msk 68 cs.length:=by
   intro cs
   induction cs with
   |nil=>intro _;decide
   |cons c r ih=>
    intro h
    have:=ih fun c hc=>h c (by simp [hc])
    have:=h c (by simp)
    simp only [val,List.length_cons,msk]
    omega
  have:=hle4 _ g2
  rw [show msk 68 ((bytes8 x).map (f2 51 ∘ f1 85)).length=4919131752989213764 by simp [bytes8,msk]] at this
  exact this
 simp only [bytes8,List.map_cons,List.map_nil,val,List.sum_cons,List.sum_nil] at e3 e4
 refine ⟨popN (x%256) 8,popN (x/256%256) 8,popN (x/65536%256) 8,popN (x/16777216%256) 8,popN (x/4294967296%256) 8,popN (x/1099511627776%256) 8,popN (x/281474976710656%256) 8,popN (x/72057594037927936%256) 8,hp _ (by simp [bytes8]),hp _ (by simp [bytes8]),hp _ (by simp [bytes8]),hp _ (by simp [bytes8]),hp _ (by simp [bytes8]),hp _ (by simp [bytes8]),hp _ (by simp [bytes8]),hp _ (by simp [bytes8]),by simpa [bytes8] using hl1,by simpa [bytes8] using hl2,by omega,by rw [e3,Nat.mul_zero,Nat.add_zero],by rw [e4];omega⟩
theorem ctz_spec {x:Nat} (h0:x≠0) (h:x<18446744073709551616):Lib.ctz 64 x<64∧x.testBit (Lib.ctz 64 x)=true∧ ∀j,j<Lib.ctz 64 x→x.testBit j=false:=by
 have e:Lib.ctz 64 x=Lib.ctzFrom 64 x:=by simp [Lib.ctz,h0]
 obtain ⟨m,hm,hk⟩:=Lib.ctzFrom_spec 64 x (by omega) h
 rw [e]
 generalize Lib.ctzFrom 64 x=k at hm hk
 refine ⟨hk,?_,fun j hj=>?_⟩
 ·rw [hm,Nat.testBit_two_pow_mul]
  simp
 ·rw [hm,Nat.testBit_two_pow_mul]
  simp;omega
theorem Rising.tail {s:Step} {l:List Step} (h:Rising (s::l)):Rising l:=(List.pairwise_cons.1 h).2
theorem prefix_count {p:Step→Bool} (hp: ∀a b:Step,a.At<b.At→p b=true→p a=true): ∀{l:List Step},Rising l→ ∀(i:Nat) (s:Step),l[i]? =some s→(p s=true↔i<l.countP p)
 | [],_,i,s,h=>by simp at h
 |a::l,hr,i,s,h=>by
  have ih:=prefix_count hp hr.tail
  have ha:=(List.pairwise_cons.1 hr).1
  cases hpa:p a with
  |true=>
   rw [List.countP_cons_of_pos hpa]
   cases i with
   |zero=>simp at h;subst h;simp [hpa]
   |succ i=>
    have:=ih i s (by simpa using h)
    rw [this];omega
  |false=>
   rw [List.countP_cons_of_neg (by simp [hpa])]
   have hall: ∀b∈l,p b=false:=fun b hb=>by
    cases hpb:p b with
    |false=>rfl
    |true=>rw [hp a b (ha b hb) hpb] at hpa;cases hpa
   have h0:l.countP p=0:=by rw [List.countP_eq_zero];intro b hb;simp [hall b hb]
   rw [h0]
   have hs:p s=false:=by
    cases i with
    |zero=>simp at h;subst h;exact hpa
    |succ i=>exact hall s (List.mem_of_getElem? (by simpa using h))
   simp [hs]
theorem ahead_iff {l:List Step} (h:Rising l) {t:Int} {i:Nat} {s:Step} (hs:l[i]? =some s):s.At<t↔i<aheadL l t:=by
 have:=prefix_count (p:=fun s=>decide (s.At<t)) (fun a b hab hb=>by simp at hb ⊢;omega) h i s hs
 simpa [aheadL] using this
def uptoL (l:List Step) (t:Int):Nat:=l.countP fun s=>decide (s.At≤t)
theorem upto_iff {l:List Step} (h:Rising l) {t:Int} {i:Nat} {s:Step} (hs:l[i]? =some s):s.At≤t↔i<uptoL l t:=by
 have:=prefix_count (p:=fun s=>decide (s.At≤t)) (fun a b hab hb=>by simp at hb ⊢;omega) h i s hs
 simpa [uptoL] using this
theorem ahead_le (l:List Step) (t:Int):aheadL l t≤l.length:=List.countP_le_length
theorem upto_le (l:List Step) (t:Int):uptoL l t≤l.length:=List.countP_le_length
theorem Rising.get {l:List Step} (h:Rising l) {i j:Nat} {a b:Step} (hi:l[i]? =some a) (hj:l[j]? =some b) (hij:i<j):a.At<b.At:=by
 have:=List.pairwise_iff_getElem.1 h i j (List.getElem?_eq_some_iff.1 hi).1 (List.getElem?_eq_some_iff.1 hj).1 hij
 rw [(List.getElem?_eq_some_iff.1 hi).2,(List.getElem?_eq_some_iff.1 hj).2] at this
 exact this
theorem upto_ahead {l:List Step} (h:Rising l) (t:Int):uptoL l t=aheadL l t+(if l.any (fun s=>decide (s.At=t)) then 1 else 0):=by
 induction l with
 |nil=>simp [uptoL,aheadL]
 |cons a l ih=>
  have ih:=ih h.tail
  have ha:=(List.pairwise_cons.1 h).1
  simp only [uptoL,aheadL] at ih ⊢
  rcases Int.lt_trichotomy a.At t with h1 |h1 |h1
  ·rw [List.countP_cons_of_pos (by simp;omega),List.countP_cons_of_pos (by simp;omega),ih]
   have:decide (a.At=t)=false:=by simp;omega
   simp only [List.any_cons,this,Bool.false_or];omega
  ·rw [List.countP_cons_of_pos (by simp;omega),List.countP_cons_of_neg (by simp;omega)]
   have e1:l.countP (fun s=>decide (s.At≤t))=0:=by
    rw [List.countP_eq_zero];intro b hb;have:=ha b hb;simp;omega
   have e2:l.countP (fun s=>decide (s.At<t))=0:=by
    rw [List.countP_eq_zero];intro b hb;have:=ha b hb;simp;omega
   rw [e1,e2];simp [h1]
  ·have e1:l.countP (fun s=>decide (s.At≤t))=0:=by
    rw [List.countP_eq_zero];intro b hb;have:=ha b hb;simp;omega
   have e2:l.countP (fun s=>decide (s.At<t))=0:=by
    rw [List.countP_eq_zero];intro b hb;have:=ha b hb;simp;omega
   rw [List.countP_cons_of_neg (by simp;omega),List.countP_cons_of_neg (by simp;omega),e1,e2]
   have e3:((a::l).any fun s=>decide (s.At=t))=false:=by
    simp only [List.any_cons,Bool.or_eq_false_iff,decide_eq_false_iff_not,List.any_eq_false]
    exact ⟨by omega,fun b hb=>by have:=ha b hb;simp;omega⟩
   rw [e3];simp
theorem idx_eq {l:List Step} (h:Rising l) (t:Int):(idxL l t:Int)=(if l.any (fun s=>decide (s.At=t)) then (aheadL l t:Int) else if 0>(aheadL l t:Int)-1 then 0 else (aheadL l t:Int)-1):=by
 have:=upto_ahead h t
 unfold idxL
 change ((uptoL l t-1:Nat):Int)=_
 rw [this]
 split
 ·simp
 ·split<;>simp<;>omega
theorem idx_lt {l:List Step} (h:l≠[]) (t:Int):idxL l t<l.length:=by
 have:=upto_le l t
 have:=List.length_pos_iff.2 h
 unfold idxL
 change uptoL l t-1<_
 omega
end Go.Ax.Law
namespace Go.Ax.Law
theorem now_le_get {l:List Step} (h:Rising l) {i:Nat} {s:Step} (hs:l[i]? =some s):nowL l≤s.At:=by
  cases l with
  |nil=>simp at hs
  |cons a r=>
    cases i with
    |zero=>simp at hs;subst hs;exact Int.le_refl _
    |succ i=>exact Int.le_of_lt (h.get (i:=0) (j:=i+1) (a:=a) (by simp) hs (by omega))
theorem upto_pos {l:List Step} (h:Rising l) (h0:l≠[]) {t:Int} (ht:nowL l≤t):0<uptoL l t:=by
  cases l with
  |nil=>exact absurd rfl h0
  |cons a r=>exact (upto_iff h (i:=0) (s:=a) (by simp)).1 ht
theorem idx_at {l:List Step} (h:Rising l) (h0:l≠[]) {t:Int} (ht:nowL l≤t): ∃s,l[idxL l t]? =some s∧s.At≤t∧ ∀(j:Nat) (s':Step),idxL l t<j→l[j]? =some s'→t<s'.At:=by
  have hp:=upto_pos h h0 ht
  have hlt:=idx_lt h0 t
  have e:idxL l t=uptoL l t-1:=rfl
  refine ⟨_,List.getElem?_eq_getElem hlt,?_,fun j s' hj hs'=>?_⟩
  · exact (upto_iff h (List.getElem?_eq_getElem hlt)).2 (by omega)
  · have:=upto_iff h (t:=t) hs'
    have h2: ¬ j<uptoL l t:=by omega
    have: ¬ s'.At≤t:=fun hh=>h2 (this.1 hh)
    omega
theorem idx_mono {l:List Step} {t u:Int} (h:t≤u):idxL l t≤idxL l u:=by
  have:uptoL l t≤uptoL l u:=List.countP_mono_left fun s _ hs=>by simp at hs ⊢;omega
  show uptoL l t-1≤uptoL l u-1
  omega
theorem split_cases {l:List Step} (h:Rising l) (h0:l≠[]) {t:Int} (ht:nowL l≤t):
    (∃s,l[idxL l t]? =some s∧s.At=t∧splitL l t=l∧splitAt l t=idxL l t)∨
    (∃s,l[idxL l t]? =some s∧s.At<t∧splitL l t=l.take (idxL l t+1)++⟨t,s.Free⟩::l.drop (idxL l t+1)∧splitAt l t=idxL l t+1):=by
  obtain ⟨s,hs,hle,_⟩:=idx_at h h0 ht
  by_cases he:s.At=t
  · exact .inl ⟨s,hs,he,by simp [splitL,hs,he],by simp [splitAt,hs,he]⟩
  · exact .inr ⟨s,hs,by omega,by simp [splitL,hs,he],by simp [splitAt,hs,he]⟩
theorem split_rising {l:List Step} (h:Rising l) (h0:l≠[]) {t:Int} (ht:nowL l≤t):Rising (splitL l t):=by
  rcases split_cases h h0 ht with ⟨s,hs,_,e,_⟩ |⟨s,hs,hlt,e,_⟩
  · rw [e];exact h
  · rw [e]
    obtain ⟨_,_,_,hup⟩:=idx_at h h0 ht
    refine List.pairwise_append.2 ⟨List.Pairwise.sublist (List.take_sublist _ _) h,List.pairwise_cons.2 ⟨fun b hb=>?_,List.Pairwise.sublist (List.drop_sublist _ _) h⟩,fun a ha b hb=>?_⟩
    · obtain ⟨q,hq⟩:=List.getElem?_of_mem hb
      rw [List.getElem?_drop] at hq
      exact hup _ b (by omega) hq
    · obtain ⟨p,hp⟩:=List.getElem?_of_mem ha
      have hpl:p<idxL l t+1:=by
        have:=(List.getElem?_eq_some_iff.1 hp).1
        simp at this;omega
      rw [List.getElem?_take_of_lt hpl] at hp
      have ha1:a.At≤s.At:=by
        by_cases hpe:p=idxL l t
        · subst hpe;rw [hp] at hs;cases hs;exact Int.le_refl _
        · exact Int.le_of_lt (h.get hp hs (by omega))
      rcases List.mem_cons.1 hb with rfl |hb
      · show a.At<t;omega
      · obtain ⟨q,hq⟩:=List.getElem?_of_mem hb
        rw [List.getElem?_drop] at hq
        have:=hup _ b (by omega) hq
        omega
theorem split_len {l:List Step} (h:Rising l) (h0:l≠[]) {t:Int} (ht:nowL l≤t):l.length≤(splitL l t).length∧(splitL l t).length≤l.length+1:=by
  have hlt:=idx_lt h0 t
  rcases split_cases h h0 ht with ⟨s,hs,_,e,_⟩ |⟨s,hs,_,e,_⟩
  · rw [e];omega
  · rw [e];simp;omega
theorem split_ne {l:List Step} (h:Rising l) (h0:l≠[]) {t:Int} (ht:nowL l≤t):splitL l t≠[]:=by
  have h1:=split_len h h0 ht
  have h2:=List.length_pos_iff.2 h0
  intro he
  rw [he] at h1
  simp only [List.length_nil] at h1
  omega
theorem split_now {l:List Step} (h:Rising l) (h0:l≠[]) {t:Int} (ht:nowL l≤t):nowL (splitL l t)=nowL l:=by
  rcases split_cases h h0 ht with ⟨s,hs,_,e,_⟩ |⟨s,hs,_,e,_⟩
  · rw [e]
  · rw [e]
    cases l with
    |nil=>exact absurd rfl h0
    |cons a r=>rfl
theorem split_at {l:List Step} (h:Rising l) (h0:l≠[]) {t:Int} (ht:nowL l≤t): ∃s,(splitL l t)[splitAt l t]? =some s∧s.At=t:=by
  have hlt:=idx_lt h0 t
  rcases split_cases h h0 ht with ⟨s,hs,h1,e,e2⟩ |⟨s,hs,h1,e,e2⟩
  · rw [e,e2];exact ⟨s,hs,h1⟩
  · rw [e,e2]
    refine ⟨⟨t,s.Free⟩,?_,rfl⟩
    rw [List.getElem?_append_right (by simp;omega)]
    simp [show min (idxL l t+1) l.length=idxL l t+1 by omega]
theorem bump_get {l:List Step} {i k:Nat} {n:Int} (hik:i≤k) (hk:k≤l.length) (p:Nat):
    (bumpL l i k n)[p]? =if i≤p∧p<k then (l[p]?).map (fun s=>⟨s.At,wr (s.Free+n)⟩) else l[p]? :=by
  unfold bumpL
  have hl1:(l.take i).length=i:=by simp;omega
  have hl2:(((l.drop i).take (k-i)).map fun s=>(⟨s.At,wr (s.Free+n)⟩:Step)).length=k-i:=by simp;omega
  by_cases h1:p<i
  · rw [if_neg (by omega),List.getElem?_append_left (by simp;omega),List.getElem?_append_left (by omega),List.getElem?_take_of_lt h1]
  · by_cases h2:p<k
    · rw [if_pos ⟨by omega,h2⟩,List.getElem?_append_left (by rw [List.length_append];omega),List.getElem?_append_right (by omega),hl1,List.getElem?_map,List.getElem?_take_of_lt (by omega),List.getElem?_drop]
      congr 2;omega
    · rw [if_neg (by omega),List.getElem?_append_right (by rw [List.length_append];omega),List.length_append,hl1,hl2,List.getElem?_drop]
      congr 1;omega
theorem bump_len {l:List Step} {i k:Nat} {n:Int} (hik:i≤k) (hk:k≤l.length):(bumpL l i k n).length=l.length:=by
  unfold bumpL;simp;omega
theorem bump_same {l:List Step} {i:Nat} {n:Int}:bumpL l i i n=l:=by
  unfold bumpL;simp
theorem bump_step {l:List Step} {i j:Nat} {n:Int} {e:Step} (hij:i≤j) (hj:j<l.length) (he:(bumpL l i j n)[j]? =some e):
    bumpL l i (j+1) n=(bumpL l i j n).set j ⟨e.At,wr (e.Free+n)⟩:=by
  have hb:=bump_get (n:=n) hij (Nat.le_of_lt hj) j
  rw [if_neg (by omega),he] at hb
  apply List.ext_getElem?
  intro p
  rw [bump_get (by omega) (by omega),List.getElem?_set,bump_get hij (by omega),bump_len hij (by omega)]
  by_cases hp:j=p
  · subst hp
    rw [if_pos ⟨hij,by omega⟩,if_pos rfl,if_pos hj,←hb]
    rfl
  · rw [if_neg hp]
    by_cases h1:i≤p∧p<j
    · rw [if_pos ⟨h1.1,by omega⟩,if_pos h1]
    · rw [if_neg (by omega),if_neg h1]
theorem bump_at {l:List Step} {i k:Nat} {n:Int} (hik:i≤k) (hk:k≤l.length):(bumpL l i k n).map Step.At=l.map Step.At:=by
  apply List.ext_getElem?
  intro p
  rw [List.getElem?_map,bump_get hik hk,List.getElem?_map]
  split
  · cases l[p]? <;>rfl
  · rfl
theorem rising_map {l l':List Step} (h:l'.map Step.At=l.map Step.At) (hr:Rising l):Rising l':=by
  have h1:(l.map Step.At).Pairwise (· < ·):=List.pairwise_map.2 hr
  rw [←h] at h1
  exact List.pairwise_map.1 h1
theorem join_sub: ∀(l:List Step),(joinL l).Sublist l
  | []=>by simp [joinL]
  | [s]=>by simp [joinL_one]
  |s::t::r=>by
    rw [joinL_two]
    split
    · exact (join_sub (s::r)).trans (List.Sublist.cons_cons _ (List.sublist_cons_self _ _))
    · exact (join_sub (t::r)).cons_cons _
termination_by l=>l.length
theorem join_ne: ∀(l:List Step),l≠[]→joinL l≠[]
  | [],h=>absurd rfl h
  | [s],_=>by simp [joinL_one]
  |s::t::r,_=>by
    rw [joinL_two]
    split
    · exact join_ne (s::r) (by simp)
    · simp
termination_by l=>l.length
theorem join_now: ∀(l:List Step),nowL (joinL l)=nowL l
  | []=>by simp [joinL]
  | [s]=>by simp [joinL_one]
  |s::t::r=>by
    rw [joinL_two]
    split
    · exact join_now (s::r)
    · rfl
termination_by l=>l.length
theorem add_ok {l:List Step} {f t n:Int} (h:Rising l) (h0:l≠[]) (hf:nowL l≤f) (hft:f<t):
    Rising (addL l f t n)∧addL l f t n≠[]∧(addL l f t n).length≤l.length+2∧nowL (addL l f t n)=nowL l:=by
  have r1:=split_rising h h0 hf
  have n1:=split_ne h h0 hf
  have l1:=split_len h h0 hf
  have w1:=split_now h h0 hf
  obtain ⟨s1,hs1,ha1⟩:=split_at h h0 hf
  have hi1:=(List.getElem?_eq_some_iff.1 hs1).1
  have fin: ∀(L:List Step) (i k:Nat),i≤k→k≤L.length→Rising L→L≠[]→nowL L=nowL l→L.length≤l.length+2→
      Rising (joinL (bumpL L i k n))∧joinL (bumpL L i k n)≠[]∧(joinL (bumpL L i k n)).length≤l.length+2∧nowL (joinL (bumpL L i k n))=nowL l:=by
    intro L i k hik hk hr hne hnow hlen
    have hb:=bump_at (n:=n) hik hk
    have hr2:=rising_map hb hr
    have hl2:=bump_len (n:=n) hik hk
    have hne2:bumpL L i k n≠[]:=by
      intro he;rw [he] at hl2;exact hne (List.eq_nil_of_length_eq_zero hl2.symm)
    have hnow2:nowL (bumpL L i k n)=nowL L:=by
      cases hx:bumpL L i k n with
      |nil=>exact absurd hx hne2
      |cons a r=>
        rw [hx] at hb
        cases hL:L with
        |nil=>exact absurd hL hne
        |cons b q=>rw [hL] at hb;simp at hb;exact hb.1
    refine ⟨List.Pairwise.sublist (join_sub _) hr2,join_ne _ hne2,?_,by rw [join_now,hnow2,hnow]⟩
    have:=(join_sub (bumpL L i k n)).length_le
    omega
  unfold addL
  simp only []
  split
  · have ht:nowL (splitL l f)≤t:=by rw [w1];omega
    have r2:=split_rising r1 n1 ht
    have n2:=split_ne r1 n1 ht
    have l2:=split_len r1 n1 ht
    have w2:=split_now r1 n1 ht
    obtain ⟨s2,hs2,ha2⟩:=split_at r1 n1 ht
    have hi2:=(List.getElem?_eq_some_iff.1 hs2).1
    have hle:splitAt l f≤splitAt (splitL l f) t:=by
      obtain ⟨s3,hs3,hs3t,_⟩:=idx_at r1 n1 ht
      have h3:splitAt l f≤idxL (splitL l f) t:=by
        have:=upto_iff r1 (t:=t) hs1
        have h4:splitAt l f<uptoL (splitL l f) t:=this.1 (by omega)
        show _≤uptoL (splitL l f) t-1
        omega
      rcases split_cases r1 n1 ht with ⟨_,_,_,_,e⟩ |⟨_,_,_,_,e⟩<;>omega
    exact fin _ _ _ hle (by omega) r2 n2 (by rw [w2,w1]) (by omega)
  · exact fin _ _ _ (by omega) (Nat.le_refl _) r1 n1 w1 (by omega)
theorem add_places {l:List Step} {f t:Int} (h:Rising l) (h0:l≠[]) (hf:nowL l≤f) (hft:f<t):
    splitAt l f≤splitAt (splitL l f) t∧splitAt (splitL l f) t≤(splitL (splitL l f) t).length∧splitAt l f≤(splitL l f).length:=by
  have r1:=split_rising h h0 hf
  have n1:=split_ne h h0 hf
  have w1:=split_now h h0 hf
  obtain ⟨s1,hs1,ha1⟩:=split_at h h0 hf
  have hi1:=(List.getElem?_eq_some_iff.1 hs1).1
  have ht:nowL (splitL l f)≤t:=by rw [w1];omega
  obtain ⟨s2,hs2,ha2⟩:=split_at r1 n1 ht
  have hi2:=(List.getElem?_eq_some_iff.1 hs2).1
  have h3:splitAt l f≤idxL (splitL l f) t:=by
    have:=upto_iff r1 (t:=t) hs1
    have h4:splitAt l f<uptoL (splitL l f) t:=this.1 (by omega)
    show _≤uptoL (splitL l f) t-1
    omega
  refine ⟨?_,by omega,by omega⟩
  rcases split_cases r1 n1 ht with ⟨_,_,_,_,e⟩ |⟨_,_,_,_,e⟩<;>omega
theorem addP_ok {p:Prof} {f t n:Int} (h:PW p) (hl:p.steps.length≤4294967294):PW (addP p f t n).2∧(addP p f t n).2.steps.length≤p.steps.length+2∧nowL (addP p f t n).2.steps=nowL p.steps:=by
  unfold addP
  split
  · exact ⟨h,by simp only [];omega,rfl⟩
  · split
    · exact ⟨h,by simp only [];omega,rfl⟩
    · split
      · exact ⟨h,by simp only [];omega,rfl⟩
      · rename_i h1 h2 h3
        obtain ⟨a1,a2,a3,a4⟩:=add_ok (n:=n) h.2.1 h.1 (show nowL p.steps≤max f (nowL p.steps) by omega) (t:=t) (by omega)
        exact ⟨⟨a2,a1,by simp only [];omega⟩,a3,a4⟩
theorem adv_rising {l:List Step} (h:Rising l) (h0:l≠[]) {t:Int} (ht:nowL l≤t) {s:Step} {r:List Step} (hd:l.drop (idxL l t)=s::r):Rising (⟨t,s.Free⟩::r):=by
  obtain ⟨_,_,_,hup⟩:=idx_at h h0 ht
  have hr:=List.Pairwise.sublist (List.drop_sublist (idxL l t) l) h
  rw [hd] at hr
  refine List.pairwise_cons.2 ⟨fun b hb=>?_,(List.pairwise_cons.1 hr).2⟩
  obtain ⟨q,hq⟩:=List.getElem?_of_mem hb
  have:l[idxL l t+(q+1)]? =some b:=by
    rw [←List.getElem?_drop,hd];simpa using hq
  exact hup _ b (by omega) this
theorem advP_ok {p:Prof} {t:Int} (h:PW p):PW (advP p t).2∧(advP p t).2.steps.length≤p.steps.length∧((advP p t).1=0→nowL (advP p t).2.steps=t):=by
  unfold advP
  split
  · exact ⟨h,Nat.le_refl _,fun h=>by cases h⟩
  · split
    · rename_i h1 h2;exact ⟨h,Nat.le_refl _,fun _=>h2.symm⟩
    · rename_i h1 h2
      have hlt:=idx_lt h.1 t
      cases hd:p.steps.drop (idxL p.steps t) with
      |nil=>simp at hd;omega
      |cons s r=>
        simp only []
        have hr:=adv_rising h.2.1 h.1 (show nowL p.steps≤t by omega) hd
        have hl:(s::r).length≤p.steps.length:=by rw [←hd];simp
        have:=h.2.2
        exact ⟨⟨by simp,hr,by simp only [List.length_cons] at hl ⊢;omega⟩,by simp only [List.length_cons] at hl ⊢;omega,fun _=>rfl⟩
end Go.Ax.Law
namespace Go.Ax.Law
def atF (v:Int):List Step→Int→Int
  | [],_=>v
  |s::r,t=>if s.At≤t then atF s.Free r t else v
theorem count_none {l:List Step} {t:Int} (h: ∀s∈l,t<s.At):l.countP (fun s=>decide (s.At≤t))=0:=by
  rw [List.countP_eq_zero]
  intro s hs
  have:=h s hs
  simp;omega
theorem Rising.head {s:Step} {l:List Step} (h:Rising (s::l)): ∀x∈l,s.At<x.At:=(List.pairwise_cons.1 h).1
theorem atF_below {v t:Int}: ∀{l:List Step},(∀s∈l,t<s.At)→atF v l t=v
  | [],_=>rfl
  |s::r,h=>by simp only [atF];rw [if_neg];have:=h s (by simp);omega
theorem free_atF: ∀{s:Step} {r:List Step} {t:Int},Rising (s::r)→freeL (s::r) t=atF s.Free r t
  |s,[],t,_=>by
    simp only [freeL,atF,idxL]
    have:(List.countP (fun s=>decide (s.At≤t)) [s])-1=0:=by
      have:=List.countP_le_length (p:=fun s:Step=>decide (s.At≤t)) (l:=[s])
      simp at this;simp;omega
    rw [this];rfl
  |s,a::r,t,h=>by
    simp only [atF]
    split
    · rename_i ha
      have hs:s.At≤t:=by have:=h.head a (by simp);omega
      rw [←free_atF h.tail]
      simp only [freeL,idxL]
      have e1:List.countP (fun s=>decide (s.At≤t)) (s::a::r)-1=(List.countP (fun s=>decide (s.At≤t)) (a::r)-1)+1:=by
        rw [List.countP_cons_of_pos (by simpa using hs),List.countP_cons_of_pos (by simpa using ha)];omega
      rw [e1]
      simp
    · rename_i ha
      have h0:List.countP (fun s=>decide (s.At≤t)) (a::r)=0:=count_none (fun x hx=>by
        rcases List.mem_cons.1 hx with rfl |hx
        · omega
        · have:=h.tail.head x hx;omega)
      simp only [freeL,idxL]
      have:List.countP (fun s=>decide (s.At≤t)) (s::a::r)-1=0:=by
        by_cases hs:s.At≤t
        · rw [List.countP_cons_of_pos (by simpa using hs),h0]
        · rw [List.countP_cons_of_neg (by simpa using hs),h0]
      rw [this];rfl
theorem atF_get {v:Int}: ∀{l:List Step} {i:Nat} {s:Step} {t:Int},Rising l→l[i]? =some s→s.At≤t→(∀s',l[i+1]? =some s'→t<s'.At)→atF v l t=s.Free
  | [],i,s,t,_,h,_,_=>by simp at h
  |a::r,0,s,t,hr,h,h1,h2=>by
    simp at h;subst h
    simp only [atF,if_pos h1]
    refine atF_below fun x hx=>?_
    cases r with
    |nil=>cases hx
    |cons b q=>
      have hb:=h2 b (by simp)
      rcases List.mem_cons.1 hx with rfl |hx
      · exact hb
      · have:=hr.tail.head x hx;omega
  |a::r,i+1,s,t,hr,h,h1,h2=>by
    have ha:a.At≤t:=by
      have:=hr.get (i:=0) (j:=i+1) (a:=a) (by simp) h (by omega);omega
    simp only [atF,if_pos ha]
    exact atF_get hr.tail (by simpa using h) h1 (fun s' hs=>h2 s' (by simpa using hs))
theorem free_get {l:List Step} (h:Rising l) {i:Nat} {s:Step} {t:Int} (hs:l[i]? =some s) (h1:s.At≤t) (h2: ∀s',l[i+1]? =some s'→t<s'.At):freeL l t=s.Free:=by
  cases l with
  |nil=>simp at hs
  |cons a r=>
    rw [free_atF h]
    cases i with
    |zero=>
      simp at hs;subst hs
      refine atF_below fun x hx=>?_
      cases r with
      |nil=>cases hx
      |cons b q=>
        have hb:=h2 b (by simp)
        rcases List.mem_cons.1 hx with rfl |hx
        · exact hb
        · have:=h.tail.head x hx;omega
    |succ i=>exact atF_get h.tail (by simpa using hs) h1 (fun s' hs=>h2 s' (by simpa using hs))
theorem free_idx {l:List Step} (h:Rising l) (h0:l≠[]) {t:Int} (ht:nowL l≤t): ∃s,l[idxL l t]? =some s∧s.At≤t∧freeL l t=s.Free:=by
  obtain ⟨s,h1,h2,h3⟩:=idx_at h h0 ht
  exact ⟨s,h1,h2,free_get h h1 h2 fun s' hs=>h3 _ s' (by omega) hs⟩
theorem join_free: ∀{l:List Step} {t:Int},Rising l→freeL (joinL l) t=freeL l t
  | [],_,_=>rfl
  | [s],_,_=>rfl
  |s::a::r,t,h=>by
    rw [joinL_two]
    have hsr:Rising (s::r):=List.pairwise_cons.2 ⟨fun x hx=>h.head x (by simp [hx]),h.tail.tail⟩
    split
    · rename_i he
      rw [join_free hsr,free_atF hsr,free_atF h]
      simp only [atF]
      split
      · rw [he]
      · exact atF_below fun x hx=>by have:=h.tail.head x hx;omega
    · have hj:joinL (a::r)=a::keepL a r:=rfl
      have hr:Rising (s::joinL (a::r)):=List.Pairwise.sublist ((join_sub (a::r)).cons₂ s) h
      rw [hj] at hr ⊢
      rw [free_atF hr,free_atF h]
      have ih:=join_free (t:=t) h.tail
      rw [hj,free_atF hr.tail,free_atF h.tail] at ih
      simp only [atF]
      rw [ih]
def Canon:List Step→Prop
  |a::b::r=>a.Free≠b.Free∧Canon (b::r)
  |_=>True
theorem keep_canon: ∀(s:Step) (l:List Step),Canon (s::keepL s l)
  |s,[]=>trivial
  |s,b::r=>by
    simp only [keepL]
    split
    · rename_i h;rw [keep_congr h];exact keep_canon s r
    · rename_i h;exact ⟨fun e=>h e.symm,keep_canon b r⟩
theorem join_canon: ∀(l:List Step),Canon (joinL l)
  | []=>trivial
  |s::r=>keep_canon s r
theorem canon_eq: ∀{l1 l2:List Step},Rising l1→Rising l2→Canon l1→Canon l2→l1≠[]→l2≠[]→nowL l1=nowL l2→(∀t,nowL l1≤t→freeL l1 t=freeL l2 t)→l1=l2
  | [],_,_,_,_,_,h,_,_,_=>absurd rfl h
  |_::_,[],_,_,_,_,_,h,_,_=>absurd rfl h
  |s1::r1,s2::r2,h1,h2,c1,c2,_,_,hn,hf=>by
    obtain ⟨a1,f1⟩:=s1
    obtain ⟨a2,f2⟩:=s2
    have hn:a1=a2:=hn
    subst hn
    have e1:=fun t=>free_atF (t:=t) h1
    have e2:=fun t=>free_atF (t:=t) h2
    have hv:f1=f2:=by
      have:=hf a1 (Int.le_refl _)
      rw [e1,e2,atF_below (fun x hx=>h1.head x hx),atF_below (fun x hx=>h2.head x hx)] at this
      exact this
    subst hv
    cases r1 with
    |nil=>
      cases r2 with
      |nil=>rfl
      |cons b q=>
        have hb:=h2.head b (by simp)
        have:=hf b.At (Int.le_of_lt hb)
        rw [e1,e2] at this
        simp only [atF,Int.le_refl,if_true] at this
        rw [atF_below (fun x hx=>h2.tail.head x hx)] at this
        exact absurd this c2.1
    |cons a p=>
      cases r2 with
      |nil=>
        have hb:=h1.head a (by simp)
        have:=hf a.At (Int.le_of_lt hb)
        rw [e1,e2] at this
        simp only [atF,Int.le_refl,if_true] at this
        rw [atF_below (fun x hx=>h1.tail.head x hx)] at this
        exact absurd this.symm c1.1
      |cons b q=>
        have ha:=h1.head a (by simp)
        have hb:=h2.head b (by simp)
        have hab:a.At=b.At:=by
          rcases Int.lt_trichotomy a.At b.At with h |h |h
          · have:=hf a.At (Int.le_of_lt ha)
            rw [e1,e2] at this
            simp only [atF,Int.le_refl,if_true] at this
            rw [atF_below (fun x hx=>h1.tail.head x hx),if_neg (by omega)] at this
            exact absurd this.symm c1.1
          · exact h
          · have:=hf b.At (Int.le_of_lt hb)
            rw [e1,e2] at this
            simp only [atF,Int.le_refl,if_true] at this
            rw [atF_below (fun x hx=>h2.tail.head x hx),if_neg (by omega)] at this
            exact absurd this c2.1
        have:a::p=b::q:=canon_eq h1.tail h2.tail c1.2 c2.2 (by simp) (by simp) hab (fun t ht=>by
          have ht:a.At≤t:=ht
          have:=hf t (by show a1≤t;simp only [] at ha;omega)
          rw [e1,e2] at this
          simp only [atF,if_pos ht,if_pos (show b.At≤t by omega)] at this
          rw [free_atF h1.tail,free_atF h2.tail];exact this)
        rw [this]
theorem split_free {l:List Step} (h:Rising l) (h0:l≠[]) {t:Int} (ht:nowL l≤t) {u:Int} (hu:nowL l≤u):freeL (splitL l t) u=freeL l u:=by
  have hr:=split_rising h h0 ht
  obtain ⟨s,h1,h2,h3⟩:=idx_at h h0 ht
  unfold splitL at hr ⊢
  rw [h1] at hr ⊢
  simp only [] at hr ⊢
  split
  · rfl
  rename_i hne
  rw [if_neg hne] at hr
  generalize hi:idxL l t=i at*
  have hil:i<l.length:=(List.getElem?_eq_some_iff.1 h1).1
  have hlt:(l.take (i+1)).length=i+1:=by simp;omega
  have gA: ∀p,p≤i→(l.take (i+1)++⟨t,s.Free⟩::l.drop (i+1))[p]? =l[p]? :=fun p hp=>by
    rw [List.getElem?_append_left (by omega),List.getElem?_take_of_lt (by omega)]
  have gB:(l.take (i+1)++⟨t,s.Free⟩::l.drop (i+1))[i+1]? =some ⟨t,s.Free⟩:=by
    rw [List.getElem?_append_right (by omega),hlt];simp
  have gC: ∀p,i<p→(l.take (i+1)++⟨t,s.Free⟩::l.drop (i+1))[p+1]? =l[p]? :=fun p hp=>by
    rw [List.getElem?_append_right (by omega),hlt,show p+1-(i+1)=(p-i-1)+1 by omega,List.getElem?_cons_succ,List.getElem?_drop]
    congr 1;omega
  obtain ⟨q,q1,q2,q3⟩:=idx_at h h0 hu
  rw [free_get h q1 q2 (fun s' hs=>q3 _ s' (by omega) hs)]
  generalize hj:idxL l u=j at*
  rcases Nat.lt_trichotomy j i with hji |hji |hji
  · exact free_get hr (i:=j) ((gA j (by omega)).trans q1) q2 (fun s' hs=>q3 (j+1) s' (by omega) ((gA (j+1) (by omega)).symm.trans hs))
  · subst hji
    rw [h1] at q1;cases q1
    by_cases htu:t≤u
    · refine free_get (s:=⟨t,s.Free⟩) hr gB htu (fun s' hs=>q3 (j+1) s' (by omega) ?_)
      rwa [gC (j+1) (by omega)] at hs
    · refine free_get hr ((gA j (Nat.le_refl _)).trans h1) q2 (fun s' hs=>?_)
      rw [gB] at hs;cases hs;simp only [];omega
  · refine free_get hr (i:=j+1) ((gC j hji).trans q1) q2 (fun s' hs=>q3 (j+1) s' (by omega) ?_)
    rwa [gC (j+1) (by omega)] at hs
theorem bump_free {l:List Step} (h:Rising l) (h0:l≠[]) {i k:Nat} {n:Int} (hik:i≤k) (hk:k≤l.length) {u:Int} (hu:nowL l≤u)
    (hw: ∀s∈l,-9223372036854775808≤s.Free+n∧s.Free+n≤9223372036854775807):
    freeL (bumpL l i k n) u=freeL l u+(if i≤idxL l u∧idxL l u<k then n else 0):=by
  have hr:Rising (bumpL l i k n):=rising_map (bump_at hik hk) h
  obtain ⟨q,q1,q2,q3⟩:=idx_at h h0 hu
  rw [free_get h q1 q2 (fun s' hs=>q3 _ s' (by omega) hs)]
  generalize hj:idxL l u=j at*
  have hat: ∀(p:Nat) (s':Step),(bumpL l i k n)[p]? =some s'→ ∃s,l[p]? =some s∧s'.At=s.At:=fun p s' hs=>by
    have:=congrArg (fun x=>x[p]?) (bump_at (n:=n) hik hk)
    simp only [List.getElem?_map,hs,Option.map_some] at this
    cases hx:l[p]? with
    |none=>rw [hx] at this;simp at this
    |some s=>rw [hx] at this;simp at this;exact ⟨s,rfl,this⟩
  have hb:=bump_get (n:=n) hik hk j
  have nx: ∀s',(bumpL l i k n)[j+1]? =some s'→u<s'.At:=fun s' hs=>by
    obtain ⟨s,e1,e2⟩:=hat _ _ hs
    rw [e2];exact q3 (j+1) s (by omega) e1
  by_cases hc:i≤j∧j<k
  · rw [if_pos hc,q1] at hb
    simp only [Option.map_some] at hb
    rw [free_get hr hb q2 nx,if_pos hc]
    exact wr_in (hw q (List.mem_of_getElem? q1))
  · rw [if_neg hc,q1] at hb
    rw [free_get hr hb q2 nx,if_neg hc]
    omega
theorem at_ge_now {l:List Step} (h:Rising l) {s:Step} (hs:s∈l):nowL l≤s.At:=by
  obtain ⟨i,hi⟩:=List.getElem?_of_mem hs
  exact now_le_get h hi
theorem free_self {l:List Step} (h:Rising l) {s:Step} (hs:s∈l):freeL l s.At=s.Free:=by
  obtain ⟨i,hi⟩:=List.getElem?_of_mem hs
  exact free_get h hi (Int.le_refl _) fun s' hs'=>h.get hi hs' (by omega)
theorem add_free {l:List Step} (h:Rising l) (h0:l≠[]) {f t n:Int} (hf:nowL l≤f) (hft:f<t) {u:Int} (hu:nowL l≤u)
    (hw: ∀v,nowL l≤v→ -9223372036854775808≤freeL l v+n∧freeL l v+n≤9223372036854775807):
    freeL (addL l f t n) u=freeL l u+(if f≤u∧(u<t∨1152921504606846976≤t) then n else 0):=by
  have r1:=split_rising h h0 hf
  have n1:=split_ne h h0 hf
  have w1:=split_now h h0 hf
  obtain ⟨s1,hs1,ha1⟩:=split_at h h0 hf
  have hi1:=(List.getElem?_eq_some_iff.1 hs1).1
  have fin: ∀(L:List Step) (i k:Nat),i≤k→k≤L.length→Rising L→L≠[]→nowL L=nowL l→(∀v,nowL l≤v→freeL L v=freeL l v)→(i≤idxL L u↔f≤u)→(idxL L u<k↔(u<t∨1152921504606846976≤t))→
      freeL (joinL (bumpL L i k n)) u=freeL l u+(if f≤u∧(u<t∨1152921504606846976≤t) then n else 0):=by
    intro L i k hik hk hr hne hnow hval c1 c2
    have hb:=bump_at (n:=n) hik hk
    rw [join_free (rising_map hb hr),bump_free hr hne hik hk (by rw [hnow];exact hu) (fun s hs=>?_),hval u hu]
    · congr 1
      simp only [c1,c2]
    · rw [←free_self hr hs]
      have:=at_ge_now hr hs
      rw [hval _ (by omega)]
      exact hw _ (by omega)
  have ix: ∀(L:List Step),Rising L→L≠[]→nowL L≤u→ ∀(i:Nat) (s:Step),L[i]? =some s→(i≤idxL L u↔s.At≤u):=by
    intro L hr hne hnu i s hs
    have h1:=upto_iff hr (t:=u) hs
    have h2:=upto_pos hr hne hnu
    show i≤uptoL L u-1↔_
    rw [h1];omega
  unfold addL
  simp only []
  split
  · rename_i hlt
    have ht:nowL (splitL l f)≤t:=by rw [w1];omega
    have r2:=split_rising r1 n1 ht
    have n2:=split_ne r1 n1 ht
    have w2:=split_now r1 n1 ht
    obtain ⟨s2,hs2,ha2⟩:=split_at r1 n1 ht
    have hi2:=(List.getElem?_eq_some_iff.1 hs2).1
    obtain ⟨p1,p2,p3⟩:=add_places h h0 hf hft
    have hnu:nowL (splitL (splitL l f) t)≤u:=by rw [w2,w1];exact hu
    have hs1':(splitL (splitL l f) t)[splitAt l f]? =some s1:=by
      have hne:splitAt l f<splitAt (splitL l f) t:=by
        rcases Nat.lt_or_ge (splitAt l f) (splitAt (splitL l f) t) with h |h
        · exact h
        · have he:splitAt l f=splitAt (splitL l f) t:=by omega
          rcases split_cases r1 n1 ht with ⟨s,e1,e2,e3,e4⟩ |⟨s,e1,e2,e3,e4⟩
          · rw [←e4,←he,hs1] at e1;cases e1;omega
          · obtain ⟨s3,hs3,hs3t,_⟩:=idx_at r1 n1 ht
            have h3:=(upto_iff r1 (t:=t) hs1).1 (by omega)
            have h4:=upto_pos r1 n1 ht
            have:splitAt l f≤idxL (splitL l f) t:=by show _≤uptoL (splitL l f) t-1;omega
            omega
      rcases split_cases r1 n1 ht with ⟨s,e1,e2,e3,e4⟩ |⟨s,e1,e2,e3,e4⟩
      · rw [e3];exact hs1
      · rw [e3]
        have hil:=(List.getElem?_eq_some_iff.1 e1).1
        rw [List.getElem?_append_left (by simp;omega),List.getElem?_take_of_lt (by omega)]
        exact hs1
    refine fin _ _ _ p1 (by omega) r2 n2 (by rw [w2,w1]) (fun v hv=>?_) ?_ ?_
    · rw [split_free r1 n1 ht (by rw [w1];exact hv),split_free h h0 hf hv]
    · rw [ix _ r2 n2 hnu _ _ hs1',ha1]
    · have:=ix _ r2 n2 hnu _ _ hs2
      rw [ha2] at this
      omega
  · rename_i hge
    refine fin _ _ _ (by omega) (Nat.le_refl _) r1 n1 w1 (fun v hv=>split_free h h0 hf hv) ?_ ?_
    · rw [ix _ r1 n1 (by rw [w1];exact hu) _ _ hs1,ha1]
    · have:=idx_lt n1 u
      constructor
      · intro _;right;omega
      · intro _;exact this
theorem fold_min (w:Int): ∀(l:List Step) (a:Int),w≤l.foldl (fun n s=>min n s.Free) a↔w≤a∧ ∀s∈l,w≤s.Free
  | [],a=>by simp
  |s::r,a=>by
    simp only [List.foldl_cons,fold_min w r,List.mem_cons,forall_eq_or_imp]
    constructor
    · rintro ⟨h1,h2⟩;exact ⟨by omega,by omega,h2⟩
    · rintro ⟨h1,h2,h3⟩;exact ⟨by omega,h3⟩
theorem fold_max (w:Int): ∀(l:List Step) (a:Int),l.foldl (fun n s=>max n s.Free) a≤w↔a≤w∧ ∀s∈l,s.Free≤w
  | [],a=>by simp
  |s::r,a=>by
    simp only [List.foldl_cons,fold_max w r,List.mem_cons,forall_eq_or_imp]
    constructor
    · rintro ⟨h1,h2⟩;exact ⟨by omega,by omega,h2⟩
    · rintro ⟨h1,h2,h3⟩;exact ⟨by omega,h3⟩
theorem takeWhile_mem {t:Int}: ∀{l:List Step} {s:Step},Rising l→(s∈l.takeWhile (fun s=>decide (s.At<t))↔s∈l∧s.At<t)
  | [],s,_=>by simp
  |a::r,s,h=>by
    simp only [List.takeWhile_cons]
    split
    · rename_i ha
      simp only [decide_eq_true_eq] at ha
      simp only [List.mem_cons,takeWhile_mem h.tail]
      constructor
      · rintro (rfl |⟨h1,h2⟩)
        · exact ⟨.inl rfl,ha⟩
        · exact ⟨.inr h1,h2⟩
      · rintro ⟨rfl |h1,h2⟩
        · exact .inl rfl
        · exact .inr ⟨h1,h2⟩
    · rename_i ha
      simp only [decide_eq_true_eq] at ha
      constructor
      · intro h;cases h
      · rintro ⟨h1,h2⟩
        rcases List.mem_cons.1 h1 with rfl |h1
        · exact absurd h2 ha
        · have:=h.head s h1;omega
theorem part_all {l:List Step} (h:Rising l) (h0:l≠[]) {f t:Int} (hf:nowL l≤f) (hft:f<t) (p:Int→Prop):
    (∀s∈partL l f t,p s.Free)↔ ∀u,f≤u→u<t→p (freeL l u):=by
  unfold partL
  have hrd:Rising (l.drop (idxL l f)):=List.Pairwise.sublist (List.drop_sublist _ _) h
  obtain ⟨q,q1,q2,q3⟩:=idx_at h h0 hf
  constructor
  · intro hp u hu1 hu2
    obtain ⟨s,e1,e2,e3⟩:=free_idx h h0 (show nowL l≤u by omega)
    rw [e3]
    refine hp s ((takeWhile_mem hrd).2 ⟨?_,by omega⟩)
    have:=idx_mono (l:=l) hu1
    exact List.mem_of_getElem? (i:=idxL l u-idxL l f) (by rw [List.getElem?_drop,show idxL l f+(idxL l u-idxL l f)=idxL l u by omega];exact e1)
  · intro hp s hs
    obtain ⟨h1,h2⟩:=(takeWhile_mem hrd).1 hs
    obtain ⟨i,hi⟩:=List.getElem?_of_mem h1
    rw [List.getElem?_drop] at hi
    by_cases hc:f≤s.At
    · rw [←free_self h (List.mem_of_getElem? hi)]
      exact hp _ hc h2
    · have:i=0:=by
        rcases Nat.eq_zero_or_pos i with h |h
        · exact h
        · have:=q3 (idxL l f+i) s (by omega) hi;omega
      subst this
      have:=hp f (Int.le_refl _) hft
      rwa [free_get h hi (by omega) (fun s' hs'=>q3 _ s' (by omega) hs')] at this
theorem least_iff {l:List Step} (h:Rising l) (h0:l≠[]) {f t w:Int} (hf:nowL l≤f) (hw:w≤64):w≤leastL l f t↔ ∀u,f≤u→u<t→w≤freeL l u:=by
  unfold leastL
  rw [Int.max_eq_left hf]
  split
  · constructor
    · intro _ u h1 h2;omega
    · intro _;exact hw
  · rename_i hlt
    rw [fold_min,←part_all h h0 hf (by omega)]
    exact ⟨fun h=>h.2,fun h=>⟨hw,h⟩⟩
theorem most_iff {l:List Step} (h:Rising l) (h0:l≠[]) {f t w:Int} (hf:nowL l≤f) (hft:f<t) (hw:0≤w):mostL l f t≤w↔ ∀u,f≤u→u<t→freeL l u≤w:=by
  unfold mostL
  rw [fold_max,←part_all h h0 hf hft (fun x=>x≤w)]
  exact ⟨fun h=>h.2,fun h=>⟨hw,h⟩⟩
structure Fine (p:Prof):Prop where
  pw:PW p
  len:p.steps.length≤4294967200
  canon:Canon p.steps
theorem addP_free {p:Prof} (h:Rising p.steps) (h0:p.steps≠[]) {f t n:Int} (hf:nowL p.steps≤f) (hft:f<t) (ht:t≤1152921504606846976) (hn: -64≤n∧n≤64)
    (hb: ∀u,nowL p.steps≤u→0≤freeL p.steps u∧freeL p.steps u≤64) (hb2: ∀u,f≤u→u<t→0≤freeL p.steps u+n∧freeL p.steps u+n≤64):
    (addP p f t n).1=0∧(∀u,nowL p.steps≤u→freeL (addP p f t n).2.steps u=freeL p.steps u+(if f≤u∧(u<t∨1152921504606846976≤t) then n else 0))∧(Canon p.steps→Canon (addP p f t n).2.steps):=by
  unfold addP
  rw [if_neg (by omega),Int.max_eq_left hf]
  split
  · rename_i hc
    have:n=0:=by omega
    subst this
    exact ⟨rfl,fun u _=>by simp,fun h=>h⟩
  · rename_i hc
    split
    · rename_i hc2
      exfalso
      rcases hc2 with ⟨c1,c2⟩ |⟨c1,c2⟩
      · have: -n≤leastL p.steps f t:=(least_iff h h0 hf (by omega)).2 fun u u1 u2=>by have:=hb2 u u1 u2;omega
        omega
      · have:mostL p.steps f t≤64-n:=(most_iff h h0 hf hft (by omega)).2 fun u u1 u2=>by have:=hb2 u u1 u2;omega
        omega
    · refine ⟨rfl,fun u hu=>?_,fun _=>?_⟩
      · exact add_free h h0 hf hft hu fun v hv=>by have:=hb v hv;omega
      · show Canon (addL p.steps f t n)
        unfold addL
        simp only []
        split<;>exact join_canon _
theorem addP_none {p:Prof} {f t n:Int} (h:t≤max f (nowL p.steps)∨n=0):(addP p f t n).2=p:=by
  unfold addP
  by_cases c:t≤f∨1152921504606846976<t∨n< -64∨64<n
  · rw [if_pos c]
  · rw [if_neg c,if_pos h]
theorem addP_now {p:Prof} {f t n:Int} (hf:f≤nowL p.steps) (ht:nowL p.steps<t):(addP p f t n).2=(addP p (nowL p.steps) t n).2:=by
  unfold addP
  rw [Int.max_eq_right hf,Int.max_eq_left (Int.le_refl _)]
  by_cases c:1152921504606846976<t∨n< -64∨64<n
  · rw [if_pos (by omega),if_pos (by omega)]
  · have e1: ¬ (t≤f∨1152921504606846976<t∨n< -64∨64<n):=by omega
    have e2: ¬ (t≤nowL p.steps∨1152921504606846976<t∨n< -64∨64<n):=by omega
    simp only [e1,e2,if_false]
theorem advP_free {p:Prof} (h:Rising p.steps) (h0:p.steps≠[]) {t:Int} (ht:nowL p.steps≤t) (ht2:t≤1099511627776):
    (advP p t).1=0∧nowL (advP p t).2.steps=t∧(∀u,t≤u→freeL (advP p t).2.steps u=freeL p.steps u)∧(Canon p.steps→Canon (advP p t).2.steps):=by
  unfold advP
  rw [if_neg (by omega)]
  split
  · rename_i he;exact ⟨rfl,he.symm,fun _ _=>rfl,fun h=>h⟩
  · obtain ⟨s,e1,e2,e3⟩:=idx_at h h0 ht
    have hd:p.steps.drop (idxL p.steps t)=s::p.steps.drop (idxL p.steps t+1):=by
      rw [List.drop_eq_getElem_cons (List.getElem?_eq_some_iff.1 e1).1,(List.getElem?_eq_some_iff.1 e1).2]
    simp only [hd]
    have hr:=adv_rising h h0 ht hd
    refine ⟨trivial,rfl,fun u hu=>?_,fun hc=>?_⟩
    · obtain ⟨q,q1,q2,q3⟩:=idx_at h h0 (show nowL p.steps≤u by omega)
      rw [free_get h q1 q2 (fun s' hs=>q3 _ s' (by omega) hs)]
      have hm:=idx_mono (l:=p.steps) hu
      generalize idxL p.steps u=j at*
      generalize idxL p.steps t=i at*
      have nx: ∀s',(⟨t,s.Free⟩::p.steps.drop (i+1):List Step)[j-i+1]? =some s'→u<s'.At:=fun s' hs=>by
        rw [List.getElem?_cons_succ,List.getElem?_drop] at hs
        exact q3 _ s' (by omega) hs
      rcases Nat.eq_or_lt_of_le hm with he |hlt
      · subst he
        rw [e1] at q1;cases q1
        exact free_get (s:=⟨t,s.Free⟩) hr (i:=0) rfl hu (by simpa using nx)
      · refine free_get hr (i:=j-i) ?_ q2 nx
        rw [show j-i=(j-i-1)+1 by omega,List.getElem?_cons_succ,List.getElem?_drop,show i+1+(j-i-1)=j by omega]
        exact q1
    · have gen: ∀(l:List Step) (i:Nat) (a b:Step) (r:List Step),Canon l→l.drop i=a::r→b.Free=a.Free→Canon (b::r):=by
        intro l
        induction l with
        |nil=>intro i a b r _ h;simp at h
        |cons x l ih=>
          intro i a b r hc hd hf
          cases i with
          |zero=>
            simp at hd
            obtain ⟨rfl,rfl⟩:=hd
            cases l with
            |nil=>trivial
            |cons y l=>exact ⟨by rw [hf];exact hc.1,hc.2⟩
          |succ i=>
            cases l with
            |nil=>simp at hd
            |cons y l=>exact ih i a b r hc.2 (by simpa using hd) hf
      exact gen _ _ _ _ _ hc hd rfl
end Go.Ax.Law
