import Derived.Test.YtnoinchifbckcaaGreatDoorAxV8
import Derived.Test.YtnoinchifbckcaaGreatDoorAxO19
import Derived.KernelRfl
set_option linter.all false
namespace Go.Ax.Law
open Go.Ax.O
theorem wholeF_ok: ∀(f:Nat) (n:Int) {w:Work} {c:Core} {m:Nat},CW c→WW w→c.P.steps.length≤m→m+4*f≤4294967280→CW (wholeF f n w c).2.2∧WW (wholeF f n w c).2.1∧(wholeF f n w c).2.2.P.steps.length≤m+4*f
  |0,n,w,c,m,h,hw,hm,hf=>⟨h,hw,by simpa [wholeF] using hm⟩
  |f+1,n,w,c,m,h,hw,hm,hf=>by
    obtain ⟨h1,h2,h3⟩:=stepW_ok h hw (by omega)
    simp only [wholeF]
    split
    · exact ⟨h1,h2,by simp only [];omega⟩
    · obtain ⟨g1,g2,g3⟩:=wholeF_ok f (n+1) h1 h2 (m:=m+4) (by omega) (by omega)
      exact ⟨g1,g2,by omega⟩
theorem wholeW_ok {w:Work} {c:Core} (h:CW c) (hw:WW w) (hl:c.P.steps.length≤4294900000):CW (wholeW w c).2.2∧WW (wholeW w c).2.1∧(wholeW w c).2.2.P.steps.length≤c.P.steps.length+8000:=by
  obtain ⟨g1,g2,g3⟩:=wholeF_ok 1999 1 h hw (Nat.le_refl _) (by omega)
  exact ⟨g1,g2,by have:(wholeW w c).2.2.P.steps.length≤c.P.steps.length+4*1999:=g3;omega⟩
theorem newW_WW (r:Req):WW (newW r):=U64.zero
theorem newX_WW (x:Choice):WW (newX x):=U64.zero
theorem deedW_WW (d:Deed):WW (deedW d):=by
  unfold deedW;split<;>exact U64.zero
theorem doD_ok {c:Core} (h:CW c) (hl:c.P.steps.length≤4294900000) (d:Deed):CW (doD c d)∧(doD c d).P.steps.length≤c.P.steps.length+8000:=by
  obtain ⟨h1,_,h3⟩:=wholeW_ok h (deedW_WW d) hl
  exact ⟨h1,h3⟩
theorem doDs_ok: ∀{l:List Deed} {c:Core},CW c→c.P.steps.length+8000*l.length≤4294900000→CW (l.foldl doD c)∧(l.foldl doD c).P.steps.length≤c.P.steps.length+8000*l.length
  | [],_,h,_=>⟨h,by simp⟩
  |d::r,c,h,hl=>by
    simp only [List.length_cons] at hl
    obtain ⟨h1,h2⟩:=doD_ok h (by omega) d
    obtain ⟨h3,h4⟩:=doDs_ok (l:=r) h1 (by omega)
    exact ⟨h3,by simp only [List.foldl_cons,List.length_cons];omega⟩
theorem madeC_ok {n:Int} (h1:1≤n) (h2:n≤64) (l:List Deed):CW (madeC n l)∧(madeC n l).P.steps.length≤500000:=by
  have h:=newCore_ok h1 h2
  have hl:(newCore n).P.steps.length=1:=rfl
  have ht:=List.length_take_le 60 l
  obtain ⟨h3,h4⟩:=doDs_ok (l:=l.take 60) h (by omega)
  exact ⟨h3,by unfold madeC;omega⟩
theorem takeN_all (t:Nodes) (n:Int):(takeN t n).2.all=t.all:=by unfold takeN;repeat' split<;>try rfl
theorem giveN_all (t:Nodes) (s:Int):(giveN t s).2.all=t.all:=by unfold giveN;split<;>rfl
theorem drainN_all (t:Nodes) (n:Int):(drainN t n).2.all=t.all:=by unfold drainN;repeat' split<;>try rfl
theorem resumeN_all (t:Nodes) (n:Int):(resumeN t n).2.all=t.all:=by unfold resumeN;repeat' split<;>try rfl
theorem beginC_all (c:Core) (j:Job):(beginC c j).N.all=c.N.all:=by
  unfold beginC;split
  · exact takeN_all _ _
  · rfl
theorem timeouts_all: ∀(l:List Job) (c:Core),(l.foldl timeout1 c).N.all=c.N.all
  | [],_=>rfl
  |j::r,c=>by
    simp only [List.foldl_cons]
    rw [timeouts_all r]
    unfold timeout1;split
    · exact giveN_all _ _
    · rfl
theorem begins_all: ∀(l:List Job) (c:Core),(l.foldl begin1 c).N.all=c.N.all
  | [],_=>rfl
  |j::r,c=>by
    simp only [List.foldl_cons]
    rw [begins_all r]
    unfold begin1;split
    · exact beginC_all _ _
    · rfl
theorem dropW_all (w:Work) (c:Core):(dropW w c).2.2.N.all=c.N.all:=by unfold dropW;split<;>rfl
theorem unplan_all (w:Work) (c:Core):(unplanC w c).N.all=c.N.all:=by unfold unplanC;split<;>rfl
theorem tickGo_all (w:Work) (c:Core):(tickGo w c).2.N.all=c.N.all:=by
  unfold tickGo;split
  · rfl
  · exact (begins_all _ _).trans (timeouts_all _ _)
theorem serveW_all (w:Work) (c:Core):(serveW w c).2.N.all=c.N.all:=by
  unfold serveW
  repeat' split
  · unfold submitW;split
    · exact dropW_all _ _
    · split
      · rfl
      · simp only [];split<;>rfl
  · unfold finishW;split
    · simp only [];generalize (if w.req.Kind=2 then 5 else 4:Int)=st;split<;>rfl
    · split
      · split
        · exact giveN_all _ _
        · rfl
      · simp only [];split
        · exact unplan_all _ _
        · exact unplan_all _ _
  · unfold holdW;split
    · exact unplan_all _ _
    · simp only [];split<;>rfl
  · unfold freeW;split
    · exact dropW_all _ _
    · simp only [];split<;>rfl
  · rfl
  · unfold drainW;split
    · rfl
    · split
      · rfl
      · simp only [];split
        · exact dropW_all _ _
        · exact (drainN_all _ _).trans (dropW_all _ _)
  · unfold resumeW;simp only [];split
    · exact resumeN_all _ _
    · exact resumeN_all _ _
  · unfold tickW;split
    · split
      · rfl
      · exact tickGo_all _ _
    · exact tickGo_all _ _
  · unfold countW;repeat' split<;>try rfl
theorem settleW_all (w:Work) (c:Core):(settleW w c).2.N.all=c.N.all:=by
  unfold settleW;simp only []
  split
  · split<;>rfl
  · split
    · exact unplan_all _ _
    · split
      · rfl
      · split
        · exact beginC_all _ _
        · rfl
theorem stepW_all (w:Work) (c:Core):(stepW w c).2.N.all=c.N.all:=by
  unfold stepW
  split
  · rfl
  · simp only []
    split
    · rfl
    · split
      · exact settleW_all _ _
      · exact serveW_all _ _
theorem wholeF_all: ∀(f:Nat) (n:Int) (w:Work) (c:Core),(wholeF f n w c).2.2.N.all=c.N.all
  |0,_,_,_=>rfl
  |f+1,n,w,c=>by
    simp only [wholeF]
    split
    · exact stepW_all _ _
    · rw [wholeF_all f];exact stepW_all _ _
theorem doDs_all: ∀(l:List Deed) (c:Core),(l.foldl doD c).N.all=c.N.all
  | [],_=>rfl
  |d::r,c=>by
    simp only [List.foldl_cons]
    rw [doDs_all r]
    exact wholeF_all _ _ _ _
theorem popN_ones (m:Nat): ∀n,popN (2^m-1) n=min m n
  |0=>by simp [popN]
  |n+1=>by
    simp only [popN,popN_ones m n,Nat.testBit_two_pow_sub_one]
    by_cases h:n<m
    · simp [h];omega
    · simp [h];omega
theorem lenS_all {n:Int} (h1:1≤n) (h2:n≤64):lenS (allS n)=n:=by
  unfold allS
  rw [if_neg (by omega)]
  obtain ⟨m,rfl⟩:=Int.eq_ofNat_of_zero_le (show 0≤n by omega)
  split
  · have:m=64:=by omega
    subst this
    have:=popN_ones 64 64
    show ((popN (Int.toNat 18446744073709551615) 64:Nat):Int)=_
    rw [show Int.toNat 18446744073709551615=2^64-1 by decide,this]
    rfl
  · unfold lenS
    rw [Int.toNat_natCast,Int.toNat_natCast,popN_ones]
    omega
theorem madeC_size {n:Int} (h1:1≤n) (h2:n≤64) (l:List Deed):lenS (madeC n l).N.all=n:=by
  unfold madeC
  rw [doDs_all]
  exact lenS_all h1 h2
theorem eqJ_iff {a b:Job}:eqJ a b=true↔a=b:=by
  obtain ⟨a1,a2,a3,a4,a5,a6,a7,a8,a9,a10⟩:=a
  obtain ⟨b1,b2,b3,b4,b5,b6,b7,b8,b9,b10⟩:=b
  simp [eqJ]
theorem eqS_iff {a b:Step}:eqS a b=true↔a=b:=by
  obtain ⟨a1,a2⟩:=a
  obtain ⟨b1,b2⟩:=b
  simp [eqS]
theorem sameJ_iff: ∀{a b:List Job},sameJ a b=true↔a=b
  | [],[]=>by simp [sameJ]
  | [],_::_=>by simp [sameJ]
  |_::_,[]=>by simp [sameJ]
  |x::a,y::b=>by simp [sameJ,eqJ_iff,sameJ_iff (a:=a) (b:=b)]
theorem sameS_iff: ∀{a b:List Step},sameS a b=true↔a=b
  | [],[]=>by simp [sameS]
  | [],_::_=>by simp [sameS]
  |_::_,[]=>by simp [sameS]
  |x::a,y::b=>by simp [sameS,eqS_iff,sameS_iff (a:=a) (b:=b)]
theorem awake12:(wholeW (newW ⟨1,0,0,2,10,0,false,0,0⟩) (newCore 4)).2.1.reply.Id=1∧
    (wholeW (newX ⟨1,0⟩) (wholeW (newW ⟨1,0,0,2,10,0,false,0,0⟩) (newCore 4)).2.2).2.1.ok=true∧
    (wholeW (newX ⟨1,0⟩) (wholeW (newW ⟨1,0,0,2,10,0,false,0,0⟩) (newCore 4)).2.2).2.2.P.steps=[⟨0,2⟩,⟨10,4⟩]:=by
  refine ⟨?_,?_,?_⟩<;>kernel_rfl
end Go.Ax.Law
namespace Go.Ax.O
open Go.Ax.Sp Go.Ax.Law
theorem vWhole {c:Core} {w:Work} {k:Core × Work × Unit→Int × Unit→Prop} (h:oWhole (c,w,()) k):V.vWhole c w k:=by
  obtain ⟨⟨hc,hw,hl⟩,hk⟩:=h
  simp only [] at hc hw hl hk
  unfold wholeW at hk
  have hR:wholeF (2000-1:Int).toNat 1 w c=wholeF 1999 1 w c:=rfl
  generalize wholeF 1999 1 w c=R at hk hR
  refine ⟨fun x=>CW x.1∧WW x.2.1∧1≤x.2.2∧x.2.2≤2000∧x.1.P.steps.length+4*(2000-x.2.2).toNat≤4294960000∧wholeF (2000-x.2.2).toNat x.2.2 x.2.1 x.1=R,fun x=>(2000-x.2.2).toNat,(c,w,1),⟨hc,hw,Int.le_refl _,by simp,by simp only [];omega,hR⟩,⟨⟨rfl,rfl,rfl,trivial⟩,rfl,rfl,trivial⟩,?_⟩
  rintro ⟨d,v,i⟩ ⟨g1,g2,g3,g4,g5,g6⟩
  simp only [] at g1 g2 g3 g4 g5 g6
  dsimp only
  refine br_dec (fun hi=>⟨⟨g1,g2,by omega⟩,?_⟩) (fun hi=>?_)
  · obtain ⟨s1,s2,s3⟩:=stepW_ok g1 g2 (by omega)
    rw [show (2000-i).toNat=(2000-(i+1)).toNat+1 by omega] at g6
    simp only [wholeF] at g6
    refine br_bool (fun hd=>?_) (fun hd n hn=>?_)
    · rw [if_pos hd] at g6
      rw [←g6] at hk;exact hk
    · rw [if_neg (by rw [hd];decide)] at g6
      rw [w64 (by omega)] at hn
      subst hn
      exact ⟨((stepW v d).2,(stepW v d).1,i+1),⟨s1,s2,by simp only [];omega,by simp only [];omega,by simp only [];omega,g6⟩,⟨⟨rfl,rfl,rfl,trivial⟩,rfl,rfl,trivial⟩,by simp only [];omega⟩
  · rw [show (2000-i).toNat=0 by omega] at g6
    simp only [wholeF] at g6
    rw [←g6] at hk;exact hk
theorem vMade {n:Int} {l:List Deed} {k:Unit→Option Core × Unit→Prop} (h:oMade (n,l,()) k):V.vMade n l k:=by
  obtain ⟨hk1,hk2⟩:=h
  refine ⟨hk1,fun hn=>?_⟩
  obtain ⟨n1,n2⟩:=hn
  have hk:=hk2 ⟨n1,n2⟩
  simp only [] at hk
  unfold madeC at hk
  have hc:=newCore_ok n1 n2
  have ht:=List.length_take_le 60 l
  generalize l.take 60=L at*
  refine ⟨fun x=>CW x.2.1∧x.1=L∧0≤x.2.2∧x.2.2≤L.length∧x.2.1.P.steps.length≤1+8000*x.2.2.toNat∧x.2.1=(L.take x.2.2.toNat).foldl doD (newCore n),fun x=>(L.length-x.2.2).toNat,(L,newCore n,0),⟨hc,rfl,Int.le_refl _,by simp,Nat.le_refl _,by simp⟩,⟨⟨rfl,rfl,rfl,trivial⟩,rfl,trivial⟩,?_⟩
  rintro ⟨L',d,i⟩ ⟨g1,g2,g3,g4,g5,g6⟩
  simp only [] at g1 g2 g3 g4 g5 g6
  subst g2
  obtain ⟨i,rfl⟩:=Int.eq_ofNat_of_zero_le g3
  rw [Int.toNat_natCast] at g5 g6
  dsimp only
  refine br_dec (fun hi=>⟨⟨g3,hi⟩,fun e he=>⟨⟨g3,hi⟩,fun e1 he1=>?_⟩⟩) (fun hi=>?_)
  · rw [Int.toNat_natCast] at he he1
    rw [he] at he1;cases he1
    have nx: ∀d2,d2=doD d e→ ∀q,q=IntKind.i64.wrap ((i:Int)+1)→ ∃y:List Deed × Core × Int,(CW y.2.1∧y.1=L'∧0≤y.2.2∧y.2.2≤L'.length∧y.2.1.P.steps.length≤1+8000*y.2.2.toNat∧y.2.1=(L'.take y.2.2.toNat).foldl doD (newCore n))∧((L'=y.1∧0=0∧q=y.2.2∧True)∧d2=y.2.1∧True)∧(L'.length-y.2.2).toNat<(L'.length-(i:Int)).toNat:=by
      intro d2 hd q hq
      rw [w64 (by omega)] at hq
      subst hq hd
      obtain ⟨f1,f2⟩:=doD_ok g1 (by omega) e
      refine ⟨(L',doD d e,(i:Int)+1),⟨f1,rfl,by simp only [];omega,by simp only [];omega,by simp only [];omega,?_⟩,⟨⟨rfl,rfl,rfl,trivial⟩,rfl,trivial⟩,by simp only [];omega⟩
      simp only []
      rw [show ((i:Int)+1).toNat=i+1 by omega,take_snoc' he,List.foldl_append,←g6]
      rfl
    refine br_bool (fun hb=>⟨⟨g3,hi⟩,fun e2 he2=>?_⟩) (fun hb=>⟨⟨g1,newW_WW _,by omega⟩,nx _ (by simp [doD,deedW,hb])⟩)
    rw [Int.toNat_natCast,he] at he2;cases he2
    exact ⟨⟨g1,newX_WW _,by omega⟩,nx _ (by simp [doD,deedW,hb])⟩
  · rw [List.take_of_length_le (by omega)] at g6
    rw [←g6] at hk;exact hk
theorem vAwake12 {u:Unit} {k:Unit→Bool × Unit→Prop} (h:oYes u k):V.vAwake12 u k:=by
  have h:k () (true,()):=h
  obtain ⟨a1,a2,a3⟩:=awake12
  refine ⟨fun hn=>by omega,fun _=>?_⟩
  have hc:=newCore_ok (n:=4) (by decide) (by decide)
  obtain ⟨b1,b2,b3⟩:=wholeW_ok hc (newW_WW ⟨1,0,0,2,10,0,false,0,0⟩) (by decide)
  have hl:(newCore 4).P.steps.length=1:=rfl
  obtain ⟨c1,c2,c3⟩:=wholeW_ok b1 (newX_WW ⟨1,0⟩) (by omega)
  refine ⟨⟨hc,newW_WW _,by decide⟩,⟨b1,newX_WW _,by omega⟩,c1.2.2,?_⟩
  rw [a3]
  refine br_eq (fun _=>br_bool (fun _=>br_eq (fun _=>⟨⟨by decide,by decide⟩,by decide,fun e he=>?_⟩) (fun hh=>absurd rfl hh)) (fun hh=>by rw [a2] at hh;cases hh)) (fun hh=>absurd a1 hh)
  simp at he
  subst he
  refine br_eq (fun _=>⟨⟨by decide,by decide⟩,by decide,fun e he=>?_⟩) (fun hh=>absurd rfl hh)
  simp at he
  subst he
  exact h
theorem vSameJ {a b:List Job} {k:Unit→Bool × Unit→Prop} (h:oSameJ (a,b,()) k):V.vSameJ a b k:=by
  obtain ⟨hl,hk⟩:=h
  simp only [] at hl hk
  refine br_ne (fun h1=>?_) (fun h1=>?_)
  · have:sameJ a b=false:=by
      cases hs:sameJ a b with
      |false=>rfl
      |true=>rw [sameJ_iff.1 hs] at h1;exact absurd rfl h1
    rw [this] at hk;exact hk
  refine ⟨fun x=>x.1=a∧x.2.1=b∧0≤x.2.2∧x.2.2≤a.length∧sameJ (a.drop x.2.2.toNat) (b.drop x.2.2.toNat)=sameJ a b,fun x=>(a.length-x.2.2).toNat,(a,b,0),⟨rfl,rfl,Int.le_refl _,by simp,by simp⟩,⟨⟨rfl,rfl,rfl,trivial⟩,trivial⟩,?_⟩
  rintro ⟨a',b',i⟩ ⟨g1,g2,g3,g4,g5⟩
  simp only [] at g1 g2 g3 g4 g5
  subst g1 g2
  obtain ⟨i,rfl⟩:=Int.eq_ofNat_of_zero_le g3
  rw [Int.toNat_natCast] at g5
  dsimp only
  refine br_dec (fun hi=>⟨⟨g3,hi⟩,fun e he=>⟨⟨g3,by omega⟩,fun e1 he1=>?_⟩⟩) (fun hi=>?_)
  · rw [Int.toNat_natCast] at he he1
    have d1:a'.drop i=e::a'.drop (i+1):=by rw [List.drop_eq_getElem_cons (List.getElem?_eq_some_iff.1 he).1,(List.getElem?_eq_some_iff.1 he).2]
    have d2:b'.drop i=e1::b'.drop (i+1):=by rw [List.drop_eq_getElem_cons (List.getElem?_eq_some_iff.1 he1).1,(List.getElem?_eq_some_iff.1 he1).2]
    rw [d1,d2] at g5
    simp only [sameJ] at g5
    refine br_not (fun hq=>?_) (fun hq n hn=>?_)
    · have hq:eqJ e e1=false:=hq
      rw [hq,Bool.false_and] at g5
      rw [←g5] at hk;exact hk
    · have hq:eqJ e e1=true:=hq
      rw [hq,Bool.true_and] at g5
      rw [w64 (by omega)] at hn
      subst hn
      refine ⟨(a',b',(i:Int)+1),⟨rfl,rfl,by simp only [];omega,by simp only [];omega,?_⟩,⟨⟨rfl,rfl,rfl,trivial⟩,trivial⟩,by simp only [];omega⟩
      simp only []
      rw [show ((i:Int)+1).toNat=i+1 by omega];exact g5
  · rw [List.drop_of_length_le (by omega),List.drop_of_length_le (by omega)] at g5
    rw [←g5] at hk;exact hk
theorem vSameS {a b:List Step} {k:Unit→Bool × Unit→Prop} (h:oSameS (a,b,()) k):V.vSameS a b k:=by
  obtain ⟨hl,hk⟩:=h
  simp only [] at hl hk
  refine br_ne (fun h1=>?_) (fun h1=>?_)
  · have:sameS a b=false:=by
      cases hs:sameS a b with
      |false=>rfl
      |true=>rw [sameS_iff.1 hs] at h1;exact absurd rfl h1
    rw [this] at hk;exact hk
  refine ⟨fun x=>x.1=a∧x.2.1=b∧0≤x.2.2∧x.2.2≤a.length∧sameS (a.drop x.2.2.toNat) (b.drop x.2.2.toNat)=sameS a b,fun x=>(a.length-x.2.2).toNat,(a,b,0),⟨rfl,rfl,Int.le_refl _,by simp,by simp⟩,⟨⟨rfl,rfl,rfl,trivial⟩,trivial⟩,?_⟩
  rintro ⟨a',b',i⟩ ⟨g1,g2,g3,g4,g5⟩
  simp only [] at g1 g2 g3 g4 g5
  subst g1 g2
  obtain ⟨i,rfl⟩:=Int.eq_ofNat_of_zero_le g3
  rw [Int.toNat_natCast] at g5
  dsimp only
  refine br_dec (fun hi=>⟨⟨g3,hi⟩,fun e he=>⟨⟨g3,by omega⟩,fun e1 he1=>?_⟩⟩) (fun hi=>?_)
  · rw [Int.toNat_natCast] at he he1
    have d1:a'.drop i=e::a'.drop (i+1):=drop_cons he
    have d2:b'.drop i=e1::b'.drop (i+1):=drop_cons he1
    rw [d1,d2] at g5
    simp only [sameS] at g5
    refine br_not (fun hq=>?_) (fun hq n hn=>?_)
    · have hq:eqS e e1=false:=hq
      rw [hq,Bool.false_and] at g5
      rw [←g5] at hk;exact hk
    · have hq:eqS e e1=true:=hq
      rw [hq,Bool.true_and] at g5
      rw [w64 (by omega)] at hn
      subst hn
      refine ⟨(a',b',(i:Int)+1),⟨rfl,rfl,by simp only [];omega,by simp only [];omega,?_⟩,⟨⟨rfl,rfl,rfl,trivial⟩,trivial⟩,by simp only [];omega⟩
      simp only []
      rw [show ((i:Int)+1).toNat=i+1 by omega];exact g5
  · rw [List.drop_of_length_le (by omega),List.drop_of_length_le (by omega)] at g5
    rw [←g5] at hk;exact hk
theorem vWants {n:Int} {l:List Deed} {r:Req} {k:Unit→Bool × Unit→Prop} (h:oWants (n,l,r,()) k):V.vWants n l r k:=by
  have h:k () (true,()):=h
  refine ⟨fun hn=>br_dec (fun _=>h) (fun h1=>br_dec (fun _=>h) (fun h2=>by omega)),fun hn=>?_⟩
  obtain ⟨n1,n2⟩:=hn
  obtain ⟨hc,_⟩:=madeC_ok n1 n2 l
  have hs:=madeC_size n1 n2 l
  have yes:r.Kind=1→r.User≥0→r.User≤255→r.Prio≥0→r.Prio≤1000→r.Width>n→r.Width≤64→wantsC (madeC n l) r=9:=by
    intro a1 a2 a3 a4 a5 a6 a7
    unfold wantsC
    rw [hs,if_pos (by omega)]
  have no: ¬ (r.Kind=1∧n<r.Width∧r.Width≤64∧0≤r.User∧r.User≤255∧0≤r.Prio∧r.Prio≤1000)→CW (madeC n l)∧br (wantsC (madeC n l) r==0) (k () (true,())) (k () (false,())):=by
    intro hh
    refine ⟨hc,br_eq (fun _=>h) (fun h2=>absurd ?_ h2)⟩
    unfold wantsC
    rw [hs,if_neg hh]
  refine br_eq (fun a1=>br_dec (fun a2=>br_dec (fun a3=>br_dec (fun a4=>br_dec (fun a5=>br_dec (fun a6=>br_dec (fun a7=>⟨hc,br_eq (fun _=>h) (fun h2=>absurd (yes a1 a2 a3 a4 a5 a6 a7) h2)⟩) (fun a7=>no (by omega))) (fun a6=>no (by omega))) (fun a5=>no (by omega))) (fun a4=>no (by omega))) (fun a3=>no (by omega))) (fun a2=>no (by omega))) (fun a1=>no (fun hh=>a1 hh.1))
theorem vTwins {n:Int} {l m:List Deed} {k:Unit→Bool × Unit→Prop} (h:oTwins (n,l,m,()) k):V.vTwins n l m k:=by
  have h:k () (true,()):=h
  refine ⟨fun hn=>h,fun hn=>?_⟩
  obtain ⟨n1,n2⟩:=hn
  obtain ⟨hc,hl⟩:=madeC_ok n1 n2 l
  generalize madeC n l=c at hc hl
  have hjl:=hc.1.2.1
  simp only [td]
  refine ⟨hc.1,hc.2.2,hc,hc.1,by omega,by omega,by omega,br_not (fun hh=>?_) (fun _=>⟨hc.2.2,by omega,by omega,by omega,br_not (fun hh=>?_) (fun _=>br_not (fun hh=>?_) (fun _=>?_))⟩)⟩
  · rw [sameJ_iff.2 rfl] at hh;cases hh
  · rw [sameS_iff.2 rfl] at hh;cases hh
  · simp at hh
  have fin: ∀(x:Core × List Job × List Step × Core × List Deed × Int),x.1=c→x.2.1=c.J.jobs→x.2.2.1=c.P.steps→True:=fun _ _ _ _=>trivial
  refine ⟨fun x=>x.1=c∧x.2.1=c.J.jobs∧x.2.2.1=c.P.steps∧CW x.2.2.2.1∧x.2.2.2.2.1=m∧0≤x.2.2.2.2.2∧x.2.2.2.2.2≤20∧x.2.2.2.2.2≤m.length∧x.2.2.2.1.P.steps.length≤500000+8000*x.2.2.2.2.2.toNat,fun x=>(20-x.2.2.2.2.2).toNat,(c,c.J.jobs,c.P.steps,c,m,0),⟨rfl,rfl,rfl,hc,rfl,Int.le_refl _,by simp only [];omega,by simp,by simpa using hl⟩,⟨⟨rfl,trivial,⟨trivial,rfl⟩,⟨trivial,rfl⟩,trivial,rfl,trivial⟩,rfl,rfl,rfl,rfl,trivial⟩,?_⟩
  rintro ⟨c',js,ss,d,m',i⟩ ⟨g1,g2,g3,g4,g5,g6,g7,g8,g9⟩
  simp only [] at g1 g2 g3 g4 g5 g6 g7 g8 g9
  subst g1 g2 g3 g5
  obtain ⟨i,rfl⟩:=Int.eq_ofNat_of_zero_le g6
  rw [Int.toNat_natCast] at g9
  dsimp only
  refine br_dec (fun hi=>br_dec (fun hi2=>⟨⟨g6,hi⟩,fun e he=>⟨⟨g6,hi⟩,fun e1 he1=>?_⟩⟩) (fun _=>?_)) (fun _=>?_)
  · rw [he] at he1;cases he1
    have nx: ∀d2,d2=doD d e→ ∀q,q=IntKind.i64.wrap ((i:Int)+1)→ ∃y:Core × List Job × List Step × Core × List Deed × Int,(y.1=c'∧y.2.1=c'.J.jobs∧y.2.2.1=c'.P.steps∧CW y.2.2.2.1∧y.2.2.2.2.1=m'∧0≤y.2.2.2.2.2∧y.2.2.2.2.2≤20∧y.2.2.2.2.2≤m'.length∧y.2.2.2.1.P.steps.length≤500000+8000*y.2.2.2.2.2.toNat)∧
        ((m'=y.2.2.2.2.1∧True∧(True∧c'.J.jobs.length=y.2.1.length)∧(True∧c'.P.steps.length=y.2.2.1.length)∧True∧q=y.2.2.2.2.2∧True)∧c'=y.1∧c'.J.jobs=y.2.1∧c'.P.steps=y.2.2.1∧d2=y.2.2.2.1∧True)∧(20-y.2.2.2.2.2).toNat<(20-(i:Int)).toNat:=by
      intro d2 hd q hq
      rw [w64 (by omega)] at hq
      subst hq hd
      obtain ⟨f1,f2⟩:=doD_ok g4 (by omega) e
      exact ⟨(c',c'.J.jobs,c'.P.steps,doD d e,m',(i:Int)+1),⟨rfl,rfl,rfl,f1,rfl,by simp only [];omega,by simp only [];omega,by simp only [];omega,by simp only [];omega⟩,⟨⟨rfl,trivial,⟨trivial,rfl⟩,⟨trivial,rfl⟩,trivial,rfl,trivial⟩,rfl,rfl,rfl,rfl,trivial⟩,by simp only [];omega⟩
    refine br_bool (fun hb=>⟨⟨g6,hi⟩,fun e2 he2=>?_⟩) (fun hb=>⟨⟨g4,newW_WW _,by omega⟩,nx _ (by simp [doD,deedW,hb])⟩)
    rw [he] at he2;cases he2
    exact ⟨⟨g4,newX_WW _,by omega⟩,nx _ (by simp [doD,deedW,hb])⟩
  · refine ⟨hc.1,by omega,by omega,by omega,br_bool (fun _=>⟨hc.2.2,by omega,by omega,by omega,br_bool (fun _=>h) (fun hh=>?_)⟩) (fun hh=>?_)⟩
    · rw [sameS_iff.2 rfl] at hh;cases hh
    · rw [sameJ_iff.2 rfl] at hh;cases hh
  · refine ⟨hc.1,by omega,by omega,by omega,br_bool (fun _=>⟨hc.2.2,by omega,by omega,by omega,br_bool (fun _=>h) (fun hh=>?_)⟩) (fun hh=>?_)⟩
    · rw [sameS_iff.2 rfl] at hh;cases hh
    · rw [sameJ_iff.2 rfl] at hh;cases hh
end Go.Ax.O
