import Derived.Test.YtbmabiedmdlinaaGreatDoorAxO18
import Derived.Test.YtbmabiedmdlinaaGreatDoorAxS9
import Derived.Test.YtbmabiedmdlinaaGreatDoorAxV9
set_option linter.all false
namespace Go.Ax.Law
open Go.Ax.O
theorem br_eq {n m:Int} {A B:Prop} (h1:n=m→A) (h2:n≠m→B):br (n==m) A B:=br_bool (fun h=>h1 (by simpa using h)) (fun h=>h2 (by simpa using h))
theorem br_ne {n m:Int} {A B:Prop} (h1:n≠m→A) (h2:n=m→B):br (!(n==m)) A B:=br_not (fun h=>h1 (by simpa using h)) (fun h=>h2 (by simpa using h))
def Keeps (c:Core) (r:Work × Core) (n:Nat):Prop:=CW r.2∧WW r.1∧r.2.P.steps.length≤c.P.steps.length+n
theorem release_ok {c:Core} (h:CW c) (hl:c.P.steps.length≤4294967290) (s:Span):CW (releaseC c s)∧(releaseC c s).P.steps.length≤c.P.steps.length+2:=addC_ok h (by omega) _ _ _
theorem dropW_ok {w:Work} {c:Core} (h:CW c) (hw:WW w) (hl:c.P.steps.length≤4294967290):Keeps c (dropW w c).2 2∧((dropW w c).1=false→(dropW w c).2.2=c):=by
 unfold dropW
 split
 ·rename_i j _
  obtain ⟨h1,h2⟩:=release_ok h hl (planS j).1
  exact ⟨⟨⟨planJ_ok h1.1 _ _,h1.2.1,h1.2.2⟩,hw,h2⟩,fun h=>by cases h⟩
 ·exact ⟨⟨h,hw,by simp only [];omega⟩,fun _=>rfl⟩
theorem unplan_ok {w:Work} {c:Core} (h:CW c) (hl:c.P.steps.length≤4294967290):CW (unplanC w c)∧(unplanC w c).P.steps.length≤c.P.steps.length+2:=by
 unfold unplanC
 split
 ·exact release_ok h hl _
 ·exact ⟨h,by omega⟩
theorem same_ok {w:Work} {c:Core} (h:CW c) (hw:WW w) (n:Nat):Keeps c (w,c) n:=⟨h,hw,by simp only [];omega⟩
theorem withJ_ok {c:Core} (h:CW c) {t:Jobs} (ht:JW t):CW {c with J:=t}:=⟨ht,h.2.1,h.2.2⟩
theorem withN_ok {c:Core} (h:CW c) {t:Nodes} (ht:NW t):CW {c with N:=t}:=⟨h.1,ht,h.2.2⟩
theorem submitW_ok {w:Work} {c:Core} (h:CW c) (hw:WW w) (hl:c.P.steps.length≤4294967280):Keeps c (submitW w c) 4:=by
 unfold submitW
 split
 ·obtain ⟨h1,h2,h3⟩:=(dropW_ok h hw (by omega)).1
  exact ⟨h1,h2,by omega⟩
 ·split
  ·exact same_ok h hw _
  ·simp only []
   split
   ·exact ⟨withJ_ok h (submitJ_ok h.1 _),hw,by simp only [];omega⟩
   ·exact ⟨withJ_ok h (submitJ_ok h.1 _),getJ_U64 (submitJ_ok h.1 _) _,by simp only [];omega⟩
theorem finishW_ok {w:Work} {c:Core} (h:CW c) (hw:WW w) (hl:c.P.steps.length≤4294967280):Keeps c (finishW w c) 4:=by
 unfold finishW
 generalize (if w.req.Kind=2 then 5 else 4:Int)=st
 split
 ·simp only []
  split
  ·exact ⟨withJ_ok h (finishJ_ok h.1 _ _ _),getJ_U64 h.1 _,by simp only [];omega⟩
  ·exact ⟨withJ_ok h (finishJ_ok h.1 _ _ _),getJ_U64 h.1 _,by simp only [];omega⟩
 ·split
  ·split
   ·exact ⟨withN_ok h (giveN_ok h.2.1 _),hw,by simp only [];omega⟩
   ·exact same_ok h hw _
  ·simp only []
   obtain ⟨h1,h2⟩:=unplan_ok (w:=w) h (by omega)
   split
   ·obtain ⟨h3,h4⟩:=addC_ok h1 (by omega) (nowC (unplanC w c)) w.job.End w.back
    exact ⟨h3,hw,by simp only [];omega⟩
   ·exact ⟨h1,hw,by simp only [];omega⟩
theorem holdW_ok {w:Work} {c:Core} (h:CW c) (hw:WW w) (hl:c.P.steps.length≤4294967280):Keeps c (holdW w c) 4:=by
 unfold holdW
 split
 ·obtain ⟨h1,h2⟩:=unplan_ok (w:=w) h (by omega)
  exact ⟨h1,hw,by simp only [];omega⟩
 ·simp only []
  split
  ·exact ⟨withJ_ok h (holdJ_ok h.1 _),getJ_U64 h.1 _,by simp only [];omega⟩
  ·exact ⟨withJ_ok h (holdJ_ok h.1 _),getJ_U64 h.1 _,by simp only [];omega⟩
theorem freeW_ok {w:Work} {c:Core} (h:CW c) (hw:WW w) (hl:c.P.steps.length≤4294967280):Keeps c (freeW w c) 4:=by
 unfold freeW
 split
 ·obtain ⟨h1,h2,h3⟩:=(dropW_ok h hw (by omega)).1
  exact ⟨h1,h2,by omega⟩
 ·simp only []
  split
  ·exact ⟨withJ_ok h (freeJ_ok h.1 _),hw,by simp only [];omega⟩
  ·exact ⟨withJ_ok h (freeJ_ok h.1 _),getJ_U64 (freeJ_ok h.1 _) _,by simp only [];omega⟩
theorem drainW_ok {w:Work} {c:Core} (h:CW c) (hw:WW w) (hl:c.P.steps.length≤4294967280):Keeps c (drainW w c) 4:=by
 unfold drainW
 split
 ·exact same_ok h hw _
 ·split
  ·exact same_ok h hw _
  ·simp only []
   obtain ⟨h1,h2,h3⟩:=(dropW_ok h hw (by omega)).1
   split
   ·exact ⟨h1,h2,by omega⟩
   ·have h4:=withN_ok h1 (drainN_ok h1.2.1 (dropW w c).2.1.req.Node)
    obtain ⟨h5,h6⟩:=addC_ok h4 (by simp only [];omega) (untilC {(dropW w c).2.2 with N:=(drainN (dropW w c).2.2.N (dropW w c).2.1.req.Node).2} (dropW w c).2.1.req.Node) 1152921504606846976 (-1)
    exact ⟨h5,h2,by simp only [] at h6 ⊢;omega⟩
theorem resumeW_ok {w:Work} {c:Core} (h:CW c) (hw:WW w) (hl:c.P.steps.length≤4294967280):Keeps c (resumeW w c) 4:=by
 unfold resumeW
 simp only []
 have h4:=withN_ok h (resumeN_ok h.2.1 w.req.Node)
 split
 ·exact ⟨h4,hw,by simp only [];omega⟩
 ·obtain ⟨h5,h6⟩:=addC_ok h4 (by simp only [];omega) (untilC {c with N:=(resumeN c.N w.req.Node).2} w.req.Node) 1152921504606846976 1
  exact ⟨h5,hw,by simp only [] at h6 ⊢;omega⟩
theorem advC_ok {c:Core} (h:CW c) (t:Int):CW (advC c t)∧(advC c t).P.steps.length≤c.P.steps.length:=by
 obtain ⟨h1,h2,_⟩:=advP_ok (t:=t) h.2.2
 exact ⟨⟨h.1,h.2.1,h1⟩,h2⟩
theorem tickGo_ok {w:Work} {c:Core} (h:CW c) (hw:WW w):Keeps c (tickGo w c) 4:=by
 unfold tickGo
 split
 ·obtain ⟨h1,h2⟩:=advC_ok h w.to
  exact ⟨h1,hw,by simp only [];omega⟩
 ·obtain ⟨h1,h2⟩:=advC_ok h (max (nextC c) (nowC c))
  obtain ⟨h3,h4⟩:CW (timeoutsC (advC c (max (nextC c) (nowC c))))∧(timeoutsC (advC c (max (nextC c) (nowC c)))).P=(advC c (max (nextC c) (nowC c))).P:=timeouts_ok h1
  obtain ⟨h5,h6⟩:CW (beginsC (timeoutsC (advC c (max (nextC c) (nowC c)))))∧(beginsC (timeoutsC (advC c (max (nextC c) (nowC c))))).P=(timeoutsC (advC c (max (nextC c) (nowC c)))).P:=begins_ok h3
  refine ⟨h5,hw,?_⟩
  simp only []
  rw [h6,h4];omega
theorem tickW_ok {w:Work} {c:Core} (h:CW c) (hw:WW w):Keeps c (tickW w c) 4:=by
 unfold tickW
 split
 ·split
  ·exact same_ok h hw _
  ·exact tickGo_ok (w:={w with to:=wr (nowC c+w.req.By)}) h hw
 ·exact tickGo_ok h hw
theorem countW_ok {w:Work} {c:Core} (h:CW c) (hw:WW w):Keeps c (countW w c) 4:=by
 unfold countW
 split
 ·exact same_ok h hw _
 ·split
  ·exact same_ok h hw _
  ·split
   ·exact same_ok h hw _
   ·split
    ·exact ⟨h,hw,by simp only [];omega⟩
    ·exact same_ok h hw _
theorem serveW_ok {w:Work} {c:Core} (h:CW c) (hw:WW w) (hl:c.P.steps.length≤4294967280):Keeps c (serveW w c) 4:=by
 unfold serveW
 repeat' split
 ·exact submitW_ok h hw hl
 ·exact finishW_ok h hw hl
 ·exact holdW_ok h hw hl
 ·exact freeW_ok h hw hl
 ·exact same_ok h hw _
 ·exact drainW_ok h hw hl
 ·exact resumeW_ok h hw hl
 ·exact tickW_ok h hw
 ·exact countW_ok h hw
theorem settleW_ok {w:Work} {c:Core} (h:CW c) (hw:WW w) (hl:c.P.steps.length≤4294967280):Keeps c (settleW w c) 4:=by
 unfold settleW
 simp only []
 split
 ·split
  ·exact same_ok h hw _
  ·exact ⟨h,getJ_U64 h.1 _,by simp only [];omega⟩
 ·split
  ·obtain ⟨h1,h2⟩:=unplan_ok (w:=w) h (by omega)
   exact ⟨h1,hw,by simp only [];omega⟩
  ·split
   ·obtain ⟨h1,h2⟩:=addC_ok h (by omega) w.choice.At (wr (w.choice.At+w.job.Limit)) (wr (0-w.job.Width))
    exact ⟨h1,hw,by simp only [];omega⟩
   ·split
    ·obtain ⟨h1,h2⟩:=beginC_ok h w.job
     exact ⟨h1,hw,by simp only [h2];omega⟩
    ·exact ⟨withJ_ok h (planJ_ok h.1 _ _),hw,by show c.P.steps.length≤_;omega⟩
theorem stepW_ok {w:Work} {c:Core} (h:CW c) (hw:WW w) (hl:c.P.steps.length≤4294967280):Keeps c (stepW w c) 4:=by
 unfold stepW
 split
 ·exact same_ok h hw _
 ·simp only []
  have:Keeps c (if w.part=0∧c.closed=true then (failW w 12,c) else if w.commit=true then settleW w c else serveW w c) 4:=by
   split
   ·exact same_ok h hw _
   ·split
    ·exact settleW_ok h hw hl
    ·exact serveW_ok h hw hl
  exact ⟨this.1,this.2.1,this.2.2⟩
end Go.Ax.Law
namespace Go.Ax.O
open Go.Ax.Sp Go.Ax.Law
theorem vNewW {r:Req} {k:Unit→Work × Unit→Prop} (h:oNewW (r,()) k):V.vNewW r k:=h
theorem vNewX {x:Choice} {k:Unit→Work × Unit→Prop} (h:oNewX (x,()) k):V.vNewX x k:=h
theorem vDoneW {w:Work} {k:Unit→Bool × Unit→Prop} (h:oDoneW (some w,()) k):V.vDoneW w k:=h
theorem vDoneWN {k:Unit→Bool × Unit→Prop} (h:oDoneW (none,()) k):V.vDoneWN k:=h
theorem vRepW {w:Work} {k:Unit→Reply × Unit→Prop} (h:oRepW (w,()) k):V.vRepW w k:=h
theorem vOkW {w:Work} {k:Unit→Bool × Unit→Prop} (h:oOkW (w,()) k):V.vOkW w k:=h
theorem vEndW {w:Work} {r:Reply} {k:Work × Unit→Unit→Prop} (h:oEndW (w,r,()) k):V.vEndW w r k:=h
theorem vFailW {w:Work} {e:Int} {k:Work × Unit→Unit→Prop} (h:oFailW (w,e,()) k):V.vFailW w e k:=h
theorem vDropW {w:Work} {c:Core} {k:Work × Core × Unit→Bool × Unit→Prop} (h:oDropW (w,c,()) k):V.vDropW w c k:=by
 unfold V.vDropW V.LP V.NX V.AT V.NM V.SH V.LN
 obtain ⟨⟨hc,hw,hl⟩,hk⟩:=h
 simp only [] at hc hw hl hk
 have hjl:=hc.1.2.1
 have hil:=inJ_len c.J.jobs [1]
 unfold dropW at hk
 refine ⟨Nat.le_refl _,⟨hc.1,by decide⟩,fun x=>x.1=w∧x.2.1=c∧x.2.2.1=inJ c.J.jobs [1]∧0≤x.2.2.2∧x.2.2.2≤(inJ c.J.jobs [1]).length∧((inJ c.J.jobs [1]).take x.2.2.2.toNat).find? (dropAt w)=none,
  fun x=>((inJ c.J.jobs [1]).length-x.2.2.2).toNat,(w,c,inJ c.J.jobs [1],0),⟨rfl,rfl,rfl,Int.le_refl _,by simp,by simp⟩,⟨⟨rfl,rfl,⟨rfl,rfl⟩,rfl,rfl,trivial⟩,rfl,rfl,rfl,trivial⟩,?_⟩
 rintro ⟨w',d,js,i⟩ ⟨g1,g0,g4,g2,g3,g5⟩
 simp only [] at g1 g0 g4 g2 g3 g5
 subst g1 g0 g4
 obtain ⟨i,rfl⟩:=Int.eq_ofNat_of_zero_le g2
 rw [Int.toNat_natCast] at g5
 dsimp only
 refine br_dec (fun hi=>⟨⟨g2,hi⟩,by simp;omega,fun e he=>?_⟩) (fun hi=>?_)
 ·rw [Nat.zero_add,Int.toNat_natCast] at he
  have nx:dropAt w' e=false→ ∀n,n=IntKind.i64.wrap ((i:Int)+1)→ ∃y:Work × Core × List Job × Int,(y.1=w'∧y.2.1=d∧y.2.2.1=inJ d.J.jobs [1]∧0≤y.2.2.2∧y.2.2.2≤(inJ d.J.jobs [1]).length∧((inJ d.J.jobs [1]).take y.2.2.2.toNat).find? (dropAt w')=none)∧((0=0∧0=0∧(0=0∧(inJ d.J.jobs [1]).length=y.2.2.1.length)∧((inJ d.J.jobs [1]).length:Int)=y.2.2.1.length∧n=y.2.2.2∧True)∧w'=y.1∧d=y.2.1∧inJ d.J.jobs [1]=y.2.2.1∧True)∧((inJ d.J.jobs [1]).length-y.2.2.2).toNat<((inJ d.J.jobs [1]).length-(i:Int)).toNat:=by
   intro hd n hn
   rw [w64 (by omega)] at hn
   subst hn
   refine ⟨(w',d,inJ d.J.jobs [1],(i:Int)+1),⟨rfl,rfl,rfl,by simp only [];omega,by simp only [];omega,?_⟩,⟨⟨rfl,rfl,⟨rfl,rfl⟩,rfl,rfl,trivial⟩,rfl,rfl,rfl,trivial⟩,by simp only [];omega⟩
   simp only []
   rw [show ((i:Int)+1).toNat=i+1 by omega,take_snoc' he,List.find?_append,g5]
   simp [hd]
  have ff:dropAt w' e=true→k (w',setPlanC (releaseC d (planS e).1) e.Id (-1),()) (true,()):=by
   intro hd
   rw [find_take he g5 hd] at hk
   exact hk
  refine br_not (fun h1=>⟨nx (by simp [dropAt,h1]),trivial⟩) (fun h1=>br_ne (fun h2=>⟨br_not (fun h3=>nx (by simp [dropAt,h2,h3])) (fun h3=>⟨⟨⟨hc.2.2,by omega⟩,⟨hc.1,ff (by simp [dropAt,h1,h3])⟩,trivial⟩,trivial⟩),trivial⟩) (fun h2=>⟨⟨⟨⟨hc.2.2,by omega⟩,⟨hc.1,ff (by simp [dropAt,h1,h2])⟩,trivial⟩,trivial⟩,trivial⟩))
 ·rw [List.take_of_length_le (by omega)] at g5
  rw [g5] at hk
  have e:(!(w'.job.Id==0))=decide (w'.job.Id≠0):=by
   by_cases h:w'.job.Id=0<;>simp [h]
  rw [e];exact hk
theorem vUnplan {w:Work} {c:Core} {k:Work × Core × Unit→Unit→Prop} (h:oUnplan (w,c,()) k):V.vUnplan w c k:=by
 unfold V.vUnplan V.SH
 obtain ⟨⟨hc,hw,hl⟩,hk⟩:=h
 simp only [] at hc hw hl hk
 unfold unplanC at hk
 refine br_bool (fun h1=>⟨⟨⟨hc.2.2,by omega⟩,?_⟩,trivial⟩) (fun h1=>?_)
 ·rw [if_pos h1] at hk;exact hk
 ·rw [if_neg (by rw [h1];decide)] at hk;exact hk
theorem vSubW {w:Work} {c:Core} {k:Work × Core × Unit→Unit→Prop} (h:oW2 submitW (w,c,()) k):V.vSubW w c k:=by
 unfold V.vSubW V.SH
 obtain ⟨⟨hc,hw,hl⟩,hk⟩:=h
 simp only [] at hc hw hl hk
 unfold submitW at hk
 simp only [] at hk
 refine br_dec (fun h1=>⟨⟨hc,hw,hl⟩,?_⟩) (fun h1=>⟨hc,br_eq (fun h2=>⟨⟨hc.1,br_ne (fun h3=>?_) (fun h3=>⟨submitJ_ok hc.1 _,withJ_ok hc (submitJ_ok hc.1 _),?_⟩)⟩,trivial⟩) (fun h2=>br_ne (fun h3=>?_) (fun h3=>absurd h3 h2))⟩)
 ·rw [if_pos h1] at hk;exact hk
 ·rw [if_neg h1,if_neg (by rw [h2];decide),if_pos h3] at hk;exact hk
 ·rw [if_neg h1,if_neg (by rw [h2];decide),if_neg (by rw [h3];decide)] at hk;exact hk
 ·rw [if_neg h1,if_pos h2] at hk;exact hk
theorem vFinW {w:Work} {c:Core} {k:Work × Core × Unit→Unit→Prop} (h:oW2 finishW (w,c,()) k):V.vFinW w c k:=by
 unfold V.vFinW V.SH
 obtain ⟨⟨hc,hw,hl⟩,hk⟩:=h
 simp only [] at hc hw hl hk
 unfold finishW at hk
 simp only [] at hk
 obtain ⟨u1,u2⟩:=unplan_ok (w:=w) hc (by omega)
 refine br_eq (fun h1=>br_eq (fun h2=>⟨⟨hc.1,⟨⟨hc.2.2,⟨hc.1,br_ne (fun h3=>?_) (fun h3=>⟨withJ_ok hc (finishJ_ok hc.1 _ _ _),?_⟩)⟩,trivial⟩,trivial⟩,trivial⟩,trivial⟩) (fun h2=>⟨⟨hc.1,⟨⟨hc.2.2,⟨hc.1,br_ne (fun h3=>?_) (fun h3=>⟨withJ_ok hc (finishJ_ok hc.1 _ _ _),?_⟩)⟩,trivial⟩,trivial⟩,trivial⟩,trivial⟩))
  (fun h1=>br_eq (fun h2=>br_eq (fun h3=>⟨⟨⟨hc.2.1,hw⟩,?_,trivial⟩,trivial⟩) (fun h3=>?_)) (fun h2=>⟨⟨hc,hw,hl⟩,br_eq (fun h3=>br_dec (fun h4=>⟨⟨u1.2.2,⟨⟨u1.2.2,by omega⟩,?_⟩,trivial⟩,trivial⟩) (fun h4=>?_)) (fun h3=>?_)⟩))
 ·rw [if_pos h1,if_pos h2,if_pos (show (finishJ c.J w.req.Id 5 (nowC c)).1≠0 from h3)] at hk;exact hk
 ·rw [if_pos h1,if_pos h2,if_neg (show ¬ (finishJ c.J w.req.Id 5 (nowC c)).1≠0 from fun hh=>hh h3)] at hk;exact hk
 ·rw [if_pos h1,if_neg h2,if_pos (show (finishJ c.J w.req.Id 4 (nowC c)).1≠0 from h3)] at hk;exact hk
 ·rw [if_pos h1,if_neg h2,if_neg (show ¬ (finishJ c.J w.req.Id 4 (nowC c)).1≠0 from fun hh=>hh h3)] at hk;exact hk
 ·rw [if_neg h1,if_pos h2,if_pos h3] at hk;exact hk
 ·rw [if_neg h1,if_pos h2,if_neg h3] at hk;exact hk
 ·rw [if_neg h1,if_neg h2,if_pos ⟨h3,h4⟩] at hk;exact hk
 ·rw [if_neg h1,if_neg h2,if_neg (fun hh=>h4 hh.2)] at hk;exact hk
 ·rw [if_neg h1,if_neg h2,if_neg (fun hh=>h3 hh.1)] at hk;exact hk
theorem vHoldW {w:Work} {c:Core} {k:Work × Core × Unit→Unit→Prop} (h:oW2 holdW (w,c,()) k):V.vHoldW w c k:=by
 unfold V.vHoldW V.SH
 obtain ⟨⟨hc,hw,hl⟩,hk⟩:=h
 simp only [] at hc hw hl hk
 unfold holdW at hk
 simp only [] at hk
 refine br_dec (fun h1=>⟨⟨hc,hw,hl⟩,?_⟩) (fun h1=>⟨⟨hc.1,⟨⟨hc.1,br_ne (fun h3=>?_) (fun h3=>⟨withJ_ok hc (holdJ_ok hc.1 _),?_⟩)⟩,trivial⟩,trivial⟩,trivial⟩)
 ·rw [if_pos h1] at hk;exact hk
 ·rw [if_neg h1,if_pos (show (holdJ c.J w.req.Id).1≠0 from h3)] at hk;exact hk
 ·rw [if_neg h1,if_neg (show ¬ (holdJ c.J w.req.Id).1≠0 from fun hh=>hh h3)] at hk;exact hk
theorem vFreeW {w:Work} {c:Core} {k:Work × Core × Unit→Unit→Prop} (h:oW2 freeW (w,c,()) k):V.vFreeW w c k:=by
 unfold V.vFreeW V.SH
 obtain ⟨⟨hc,hw,hl⟩,hk⟩:=h
 simp only [] at hc hw hl hk
 unfold freeW at hk
 simp only [] at hk
 refine br_dec (fun h1=>⟨⟨hc,hw,hl⟩,?_⟩) (fun h1=>⟨⟨hc.1,br_ne (fun h3=>?_) (fun h3=>⟨⟨freeJ_ok hc.1 _,⟨withJ_ok hc (freeJ_ok hc.1 _),?_⟩,trivial⟩,trivial⟩)⟩,trivial⟩)
 ·rw [if_pos h1] at hk;exact hk
 ·rw [if_neg h1,if_pos (show (freeJ c.J w.req.Id).1≠0 from h3)] at hk;exact hk
 ·rw [if_neg h1,if_neg (show ¬ (freeJ c.J w.req.Id).1≠0 from fun hh=>hh h3)] at hk;exact hk
theorem vDrainW {w:Work} {c:Core} {k:Work × Core × Unit→Unit→Prop} (h:oW2 drainW (w,c,()) k):V.vDrainW w c k:=by
 unfold V.vDrainW V.SH
 obtain ⟨⟨hc,hw,hl⟩,hk⟩:=h
 simp only [] at hc hw hl hk
 unfold drainW at hk
 simp only [] at hk
 obtain ⟨d1,d2,d3⟩:=(dropW_ok hc hw (by omega)).1
 have d4:=drainN_ok d1.2.1 (dropW w c).2.1.req.Node
 refine br_eq (fun h1=>⟨⟨hc.2.1,br_eq (fun h2=>?_) (fun h2=>br_eq (fun h3=>br_eq (fun h4=>?_) (fun h4=>absurd h3 h4)) (fun h3=>br_eq (fun h4=>?_) (fun h4=>⟨⟨hc,hw,hl⟩,br_bool (fun h5=>?_) (fun h5=>⟨⟨d1.2.1,⟨withN_ok d1 d4,⟨⟨d1.2.2,by omega⟩,⟨d4,?_,trivial⟩,trivial⟩,trivial⟩,trivial⟩,trivial⟩)⟩)))⟩,trivial⟩)
  (fun h1=>⟨⟨hc,hw,hl⟩,br_bool (fun h5=>?_) (fun h5=>⟨⟨d1.2.1,⟨withN_ok d1 d4,⟨⟨d1.2.2,by omega⟩,⟨d4,?_,trivial⟩,trivial⟩,trivial⟩,trivial⟩,trivial⟩)⟩)
 ·rw [if_pos ⟨h1,h2⟩] at hk;exact hk
 ·rw [if_neg (fun hh=>h2 hh.2),if_pos ⟨h1,.inl h3⟩] at hk;exact hk
 ·rw [if_neg (fun hh=>h2 hh.2),if_pos ⟨h1,.inr h4⟩] at hk;exact hk
 ·rw [if_neg (fun hh=>h2 hh.2),if_neg (fun hh=>hh.2.elim h3 h4),if_pos h5] at hk;exact hk
 ·rw [if_neg (fun hh=>h2 hh.2),if_neg (fun hh=>hh.2.elim h3 h4),if_neg (by rw [h5];decide)] at hk;exact hk
 ·rw [if_neg (fun hh=>h1 hh.1),if_neg (fun hh=>h1 hh.1),if_pos h5] at hk;exact hk
 ·rw [if_neg (fun hh=>h1 hh.1),if_neg (fun hh=>h1 hh.1),if_neg (by rw [h5];decide)] at hk;exact hk
theorem vResumeW {w:Work} {c:Core} {k:Work × Core × Unit→Unit→Prop} (h:oW2 resumeW (w,c,()) k):V.vResumeW w c k:=by
 unfold V.vResumeW V.SH
 obtain ⟨⟨hc,hw,hl⟩,hk⟩:=h
 simp only [] at hc hw hl hk
 unfold resumeW at hk
 simp only [] at hk
 have d4:=resumeN_ok hc.2.1 w.req.Node
 refine ⟨⟨hc.2.1,br_ne (fun h1=>?_) (fun h1=>⟨⟨withN_ok hc d4,⟨⟨hc.2.2,by omega⟩,⟨d4,?_,trivial⟩,trivial⟩,trivial⟩,trivial⟩)⟩,trivial⟩
 ·rw [if_pos h1] at hk;exact hk
 ·rw [if_neg (by rw [h1];decide)] at hk;exact hk
theorem vTickW {w:Work} {c:Core} {k:Work × Core × Unit→Unit→Prop} (h:oW2 tickW (w,c,()) k):V.vTickW w c k:=by
 obtain ⟨⟨hc,hw,hl⟩,hk⟩:=h
 simp only [] at hc hw hl hk
 unfold tickW tickGo at hk
 simp only [] at hk
 unfold V.vTickW V.NM V.SH
 simp only [max_if]
 have a1:=fun t=>advC_ok hc t
 have a2:=fun t=>(timeouts_ok (l:=inJ (advC c t).J.jobs [3]) (a1 t).1).1
 refine br_eq (fun h1=>br_dec (fun h2=>⟨?_,trivial⟩) (fun h2=>⟨⟨hc.2.2,fun n hn=>br_dec (fun h3=>?_) (fun h3=>⟨⟨hc.2.2,fun m hm=>⟨⟨hc,br_dec (fun h4=>⟨⟨hc.2.2,⟨(a1 m).1.2.2,⟨(a1 m).1.2.2,⟨(a1 m).1.2.2,?_,trivial⟩,trivial⟩,trivial⟩,trivial⟩,trivial⟩) (fun h4=>⟨⟨hc.2.2,⟨hc.2.2,(a1 _).1,a2 _,?_⟩,trivial⟩,trivial⟩)⟩,trivial⟩⟩,trivial⟩)⟩,trivial⟩))
  (fun h1=>⟨hc,br_dec (fun h4=>⟨⟨hc.2.2,⟨(a1 w.to).1.2.2,⟨(a1 w.to).1.2.2,⟨(a1 w.to).1.2.2,?_,trivial⟩,trivial⟩,trivial⟩,trivial⟩,trivial⟩) (fun h4=>⟨⟨hc.2.2,⟨hc.2.2,(a1 _).1,a2 _,?_⟩,trivial⟩,trivial⟩)⟩)
 ·rw [if_pos h1,if_pos (.inl h2)] at hk;exact hk
 ·subst hn
  rw [if_pos h1,if_pos (.inr h3)] at hk;exact hk
 ·subst hn hm
  rw [if_pos h1,if_neg (fun hh=>hh.elim h2 h3),if_pos (show wr (nowC c+w.req.By)<nextC c from h4)] at hk;exact hk
 ·subst hn hm
  rw [if_pos h1,if_neg (fun hh=>hh.elim h2 h3),if_neg (show ¬ wr (nowC c+w.req.By)<nextC c from h4)] at hk;exact hk
 ·rw [if_neg h1,if_pos h4] at hk;exact hk
 ·rw [if_neg h1,if_neg h4] at hk;exact hk
theorem vCountW {w:Work} {c:Core} {k:Work × Core × Unit→Unit→Prop} (h:oW2 countW (w,c,()) k):V.vCountW w c k:=by
 obtain ⟨⟨hc,hw,hl⟩,hk⟩:=h
 simp only [] at hc hw hl hk
 unfold countW at hk
 refine br_eq (fun h1=>⟨hc.2.1,?_⟩) (fun h1=>br_eq (fun h2=>⟨hc.1,?_⟩) (fun h2=>br_eq (fun h3=>⟨⟨hc.2.2,⟨hc.2.2,⟨hc.2.2,?_,trivial⟩,trivial⟩,trivial⟩,trivial⟩) (fun h3=>br_eq (fun h4=>?_) (fun h4=>?_))))
 ·rw [if_pos h1] at hk;exact hk
 ·rw [if_neg h1,if_pos h2] at hk;exact hk
 ·rw [if_neg h1,if_neg h2,if_pos h3] at hk;exact hk
 ·rw [if_neg h1,if_neg h2,if_neg h3,if_pos h4] at hk;exact hk
 ·rw [if_neg h1,if_neg h2,if_neg h3,if_neg h4] at hk;exact hk
theorem vServeW {w:Work} {c:Core} {k:Work × Core × Unit→Unit→Prop} (h:oW2 serveW (w,c,()) k):V.vServeW w c k:=by
 unfold V.vServeW V.SH
 obtain ⟨⟨hc,hw,hl⟩,hk⟩:=h
 simp only [] at hc hw hl hk
 unfold serveW at hk
 refine br_eq (fun h1=>⟨⟨hc,hw,hl⟩,?_⟩) (fun h1=>br_eq (fun h2=>br_eq (fun _=>⟨⟨hc,hw,hl⟩,?_⟩) (fun h=>absurd h2 h)) (fun h2=>br_eq (fun h5=>⟨⟨hc,hw,hl⟩,?_⟩) (fun h5=>br_eq (fun h3=>⟨⟨hc,hw,hl⟩,?_⟩) (fun h3=>br_eq (fun h4=>⟨⟨hc,hw,hl⟩,?_⟩) (fun h4=>br_eq (fun h6=>⟨hc,?_⟩) (fun h6=>br_eq (fun h7=>⟨⟨hc,hw,hl⟩,?_⟩) (fun h7=>br_eq (fun h8=>⟨⟨hc,hw,hl⟩,?_⟩) (fun h8=>br_eq (fun h9=>⟨⟨hc,hw,hl⟩,?_⟩) (fun h9=>⟨⟨hc,hw,hl⟩,?_⟩)))))))))
 ·rw [if_pos h1] at hk;exact hk
 ·rw [if_neg h1,if_pos (.inl h2)] at hk;exact hk
 ·rw [if_neg h1,if_pos (.inr h5)] at hk;exact hk
 ·rw [if_neg h1,if_neg (fun hh=>hh.elim h2 h5),if_pos h3] at hk;exact hk
 ·rw [if_neg h1,if_neg (fun hh=>hh.elim h2 h5),if_neg h3,if_pos h4] at hk;exact hk
 ·rw [if_neg h1,if_neg (fun hh=>hh.elim h2 h5),if_neg h3,if_neg h4,if_pos h6] at hk;exact hk
 ·rw [if_neg h1,if_neg (fun hh=>hh.elim h2 h5),if_neg h3,if_neg h4,if_neg h6,if_pos h7] at hk;exact hk
 ·rw [if_neg h1,if_neg (fun hh=>hh.elim h2 h5),if_neg h3,if_neg h4,if_neg h6,if_neg h7,if_pos h8] at hk;exact hk
 ·rw [if_neg h1,if_neg (fun hh=>hh.elim h2 h5),if_neg h3,if_neg h4,if_neg h6,if_neg h7,if_neg h8,if_pos h9] at hk;exact hk
 ·rw [if_neg h1,if_neg (fun hh=>hh.elim h2 h5),if_neg h3,if_neg h4,if_neg h6,if_neg h7,if_neg h8,if_neg h9] at hk;exact hk
theorem vSettleW {w:Work} {c:Core} {k:Work × Core × Unit→Unit→Prop} (h:oW2 settleW (w,c,()) k):V.vSettleW w c k:=by
 unfold V.vSettleW V.NM V.SH
 obtain ⟨⟨hc,hw,hl⟩,hk⟩:=h
 simp only [] at hc hw hl hk
 unfold settleW at hk
 simp only [] at hk
 refine br_eq (fun h1=>⟨⟨hc,by omega⟩,br_not (fun h2=>?_) (fun h2=>⟨⟨hc.1,?_,trivial⟩,trivial⟩)⟩) (fun h1=>br_eq (fun h2=>⟨⟨hc,hw,hl⟩,?_⟩) (fun h2=>br_eq (fun h3 n hn=>⟨⟨⟨hc.2.2,by omega⟩,?_⟩,trivial⟩) (fun h3=>⟨⟨hc.2.2,br_eq (fun h4=>⟨hc,?_⟩) (fun h4=>⟨⟨hc.1,?_⟩,trivial⟩)⟩,trivial⟩)))
 ·rw [if_pos h1,if_pos h2] at hk;exact hk
 ·rw [if_pos h1,if_neg (by rw [h2];decide)] at hk;exact hk
 ·rw [if_neg h1,if_pos h2] at hk;exact hk
 ·subst hn
  rw [if_neg h1,if_neg h2,if_pos h3] at hk;exact hk
 ·rw [if_neg h1,if_neg h2,if_neg h3,if_pos (show w.choice.At=nowC c from h4)] at hk;exact hk
 ·rw [if_neg h1,if_neg h2,if_neg h3,if_neg (show ¬ w.choice.At=nowC c from h4)] at hk;exact hk
theorem vStepW {w:Work} {c:Core} {k:Work × Core × Unit→Bool × Unit→Prop} (h:oStepW (w,c,()) k):V.vStepW w c k:=by
 unfold V.vStepW V.NM V.SH
 obtain ⟨⟨hc,hw,hl⟩,hk⟩:=h
 simp only [] at hc hw hl hk
 unfold stepW at hk
 simp only [] at hk
 refine br_bool (fun h1=>?_) (fun h1=>?_)
 ·have h1:w.done=true:=h1
  rw [if_pos h1] at hk
  simp only [h1] at hk
  exact hk
 have h1: ¬ w.done=true:=by rw [show w.done=false from h1];decide
 rw [if_neg h1] at hk
 refine br_eq (fun h2=>br_bool (fun h3 n hn=>?_) (fun h3=>br_bool (fun h4=>⟨⟨hc,hw,hl⟩,fun n hn=>?_⟩) (fun h4=>⟨⟨hc,hw,hl⟩,fun n hn=>?_⟩))) (fun h2=>br_bool (fun h4=>⟨⟨hc,hw,hl⟩,fun n hn=>?_⟩) (fun h4=>⟨⟨hc,hw,hl⟩,fun n hn=>?_⟩))
 ·subst hn
  rw [if_pos ⟨h2,h3⟩] at hk;exact hk
 ·subst hn
  rw [if_neg (by rw [h3];simp),if_pos h4] at hk;exact hk
 ·subst hn
  rw [if_neg (by rw [h3];simp),if_neg (by rw [h4];decide)] at hk;exact hk
 ·subst hn
  rw [if_neg (fun hh=>h2 hh.1),if_pos h4] at hk;exact hk
 ·subst hn
  rw [if_neg (fun hh=>h2 hh.1),if_neg (by rw [h4];decide)] at hk;exact hk
end Go.Ax.O
namespace Go.Ax.Law
theorem cntN_add {p q r:Nat→Bool}: ∀{n:Nat},(∀k,k<n→(if p k then (1:Int) else 0)=(if q k then 1 else 0)+(if r k then 1 else 0))→cntN p n=cntN q n+cntN r n
  |0,_=>rfl
  |n+1,h=>by
    have ih:=cntN_add (n:=n) fun k hk=>h k (by omega)
    have:=h n (by omega)
    simp only [cntN];omega
theorem cntN_congr {p q:Nat→Bool}: ∀{n:Nat},(∀k,k<n→p k=q k)→cntN p n=cntN q n
  |0,_=>rfl
  |n+1,h=>by
    simp only [cntN,cntN_congr (n:=n) fun k hk=>h k (by omega),h n (by omega)]
theorem cntN_nonneg (p:Nat→Bool): ∀n,0≤cntN p n
  |0=>Int.le_refl _
  |n+1=>by have:=cntN_nonneg p n;simp only [cntN];split<;>omega
theorem cntN_le (p:Nat→Bool): ∀n,cntN p n≤n
  |0=>Int.le_refl _
  |n+1=>by have:=cntN_le p n;simp only [cntN];split<;>omega
theorem cntN_none {p:Nat→Bool}: ∀{n:Nat},(∀k,k<n→p k=false)→cntN p n=0
  |0,_=>rfl
  |n+1,h=>by simp only [cntN,cntN_none (n:=n) fun k hk=>h k (by omega),h n (by omega)];simp
theorem cntN_more {p:Nat→Bool} {m:Nat}: ∀{d:Nat},(∀k,m≤k→k<m+d→p k=false)→cntN p (m+d)=cntN p m
  |0,_=>rfl
  |d+1,h=>by
    have ih:=cntN_more (d:=d) fun k h1 h2=>h k h1 (by omega)
    rw [←Nat.add_assoc]
    simp only [cntN,ih,h (m+d) (by omega) (by omega)];simp
theorem cntN_mono {p q:Nat→Bool}: ∀{n:Nat},(∀k,k<n→p k=true→q k=true)→cntN p n≤cntN q n
  |0,_=>Int.le_refl _
  |n+1,h=>by
    have ih:=cntN_mono (n:=n) fun k hk=>h k (by omega)
    have:=h n (by omega)
    simp only [cntN]
    cases hp:p n<;>cases hq:q n<;>simp_all<;>omega
theorem cntN_one {m:Nat}: ∀{n:Nat},cntN (fun k=>decide (k=m)) n=if m<n then 1 else 0
  |0=>by simp [cntN]
  |n+1=>by
    simp only [cntN,cntN_one (n:=n)]
    by_cases h:n=m
    · subst h;simp
    · simp [h];by_cases h2:m<n
      · rw [if_pos h2,if_pos (by omega)]
      · rw [if_neg h2,if_neg (by omega)]
theorem hasB_nat (x:Int) (k:Nat):hasB x (k:Int)=(decide (k<64)&&x.toNat.testBit k):=by
  unfold hasB
  simp
  by_cases h:k<64
  · have:(k:Int)<64:=by omega
    simp [h,this]
  · have: ¬ (k:Int)<64:=by omega
    simp [h];intro h2;omega
theorem popN_cnt (x:Nat): ∀n,n≤64→((popN x n:Nat):Int)=cntN (fun k=>hasB (x:Int) k) n
  |0,_=>rfl
  |n+1,h=>by
    have ih:=popN_cnt x n (by omega)
    simp only [popN,cntN,hasB_nat,Int.toNat_natCast] at ih ⊢
    rw [←ih]
    by_cases hb:x.testBit n
    · simp [hb,show n<64 by omega]
    · simp [hb]
theorem lenS_cnt {x:Int} (h:U64 x):lenS x=cntN (fun k=>hasB x k) 64:=by
  obtain ⟨a,_,rfl⟩:=h.ex
  unfold lenS
  rw [Int.toNat_natCast,popN_cnt a 64 (Nat.le_refl _)]
theorem lenS_cut {x:Int} (h:U64 x) {n:Nat} (hn:n≤64) (hx: ∀k:Nat,hasB x k=true→k<n):lenS x=cntN (fun k=>hasB x k) n:=by
  rw [lenS_cnt h]
  obtain ⟨d,hd⟩: ∃d,64=n+d:=⟨64-n,by omega⟩
  rw [hd]
  refine cntN_more fun k h1 h2=>?_
  cases hb:hasB x k with
  |false=>rfl
  |true=>have:=hx k hb;omega
theorem hasB_minus {x y:Int} (hx:U64 x) (hy:U64 y) (k:Nat):hasB (minusS x y) k=(hasB x k&&!hasB y k):=by
  obtain ⟨a,_,rfl⟩:=hx.ex
  obtain ⟨b,_,rfl⟩:=hy.ex
  simp only [minusS,hasB_nat,Int.toNat_natCast,Nat.testBit_xor,Nat.testBit_and]
  cases decide (k<64)<;>cases a.testBit k<;>cases b.testBit k<;>rfl
theorem hasB_union {x y:Int} (hx:U64 x) (hy:U64 y) (k:Nat):hasB (unionS x y) k=(hasB x k||hasB y k):=by
  obtain ⟨a,_,rfl⟩:=hx.ex
  obtain ⟨b,_,rfl⟩:=hy.ex
  simp only [unionS,hasB_nat,Int.toNat_natCast,Nat.testBit_or]
  cases decide (k<64)<;>cases a.testBit k<;>cases b.testBit k<;>rfl
theorem hasB_with {x n:Int} (hx:U64 x) (hn:0≤n∧n<64) (k:Nat):hasB (withS x n) k=(hasB x k||decide ((k:Int)=n)):=by
  obtain ⟨a,_,rfl⟩:=hx.ex
  obtain ⟨m,rfl⟩:=Int.eq_ofNat_of_zero_le hn.1
  unfold withS
  rw [if_neg (by omega)]
  simp only [hasB_nat,Int.toNat_natCast,Nat.testBit_or,Nat.testBit_two_pow]
  by_cases h:k=m
  · subst h;simp;omega
  · have h1: ¬ m=k:=fun e=>h e.symm
    have h2: ¬ (k:Int)=(m:Int):=by omega
    simp [h1,h2]
theorem hasB_without {x n:Int} (hx:U64 x) (hn:0≤n∧n<64) (k:Nat):hasB (withoutS x n) k=(hasB x k&&!decide ((k:Int)=n)):=by
  obtain ⟨a,_,rfl⟩:=hx.ex
  obtain ⟨m,rfl⟩:=Int.eq_ofNat_of_zero_le hn.1
  have hp:(2:Nat)^m<18446744073709551616:=by
    have:(2:Nat)^m≤2^63:=Nat.pow_le_pow_right (by decide) (by omega)
    have:(2:Nat)^63<18446744073709551616:=by decide
    omega
  unfold withoutS
  rw [if_neg (by omega),hasB_minus hx (by rw [Int.toNat_natCast];exact U64.nat hp)]
  simp only [hasB_nat,Int.toNat_natCast,Nat.testBit_two_pow]
  by_cases h:k=m
  · subst h;simp;omega
  · have h1: ¬ m=k:=fun e=>h e.symm
    have h2: ¬ (k:Int)=(m:Int):=by omega
    simp [h1,h2]
theorem hasB_all {n:Nat} (h1:1≤n) (h2:n≤64) (k:Nat):hasB (allS n) k=decide (k<n):=by
  unfold allS
  rw [if_neg (by omega)]
  split
  · have:n=64:=by omega
    subst this
    rw [hasB_nat,show Int.toNat 18446744073709551615=2^64-1 by decide,Nat.testBit_two_pow_sub_one]
    simp
  · rw [hasB_nat,Int.toNat_natCast,Int.toNat_natCast,Nat.testBit_two_pow_sub_one]
    by_cases h:k<n
    · simp [h];omega
    · simp [h]
theorem hasB_zero (k:Nat):hasB 0 k=false:=by rw [hasB_nat];simp
theorem bits_ext {x y:Int} (hx:U64 x) (hy:U64 y) (h: ∀k:Nat,k<64→hasB x k=hasB y k):x=y:=by
  obtain ⟨a,ha,rfl⟩:=hx.ex
  obtain ⟨b,hb,rfl⟩:=hy.ex
  congr 1
  refine Nat.eq_of_testBit_eq fun k=>?_
  by_cases hk:k<64
  · have:=h k hk
    simpa [hasB_nat,hk] using this
  · have e:(18446744073709551616:Nat)=2^64:=by decide
    have hp:(2:Nat)^64≤2^k:=Nat.pow_le_pow_right (by decide) (by omega)
    rw [Nat.testBit_lt_two_pow (by omega),Nat.testBit_lt_two_pow (by omega)]
theorem hasB_neg {x n:Int} (h:n<0):hasB x n=false:=by
  unfold hasB;have: ¬ 0≤n:=by omega
  simp [this]
theorem hasB_big {x n:Int} (h:64≤n):hasB x n=false:=by
  unfold hasB;have: ¬ n<64:=by omega
  simp [this]
def takeJ (n:Nat) (d:Nat→Bool) (t:Int) (j:Job):Int:=
  if j.State=3 then (if t<j.End then cntN (fun k=>hasB j.Nodes k&&!d k) n else 0) else planAt t 0 j
def sumT (n:Nat) (d:Nat→Bool) (t:Int):List Job→Int
  | []=>0
  |j::r=>takeJ n d t j+sumT n d t r
def reqF (n:Nat) (d:Nat→Bool) (l:List Job) (t:Int):Int:=cntN (fun k=>!d k) n-sumT n d t l
def Apart (a b:Job):Prop:=a.State=3→b.State=3→ ∀k:Nat,hasB a.Nodes k=true→hasB b.Nodes k=false
def AllApart (l:List Job):Prop:=l.Pairwise Apart
structure JobOK (n:Nat) (now:Int) (j:Job):Prop where
  st:1≤j.State∧j.State≤6
  wd:1≤j.Width∧j.Width≤n
  lm:1≤j.Limit∧j.Limit≤1048576
  pl:j.Plan= -1∨(j.State=1∧now≤j.Plan∧j.Plan≤1099511627776)
  rn:j.State=3→now≤j.End∧lenS j.Nodes=j.Width∧ ∀k:Nat,hasB j.Nodes k=true→k<n
  en: -1≤j.End∧j.End≤1099512676352
  un:U64 j.Nodes
theorem planAt_nonneg {n:Nat} {now t b:Int} {j:Job} (h:JobOK n now j):0≤planAt t b j:=by
  have:=h.wd.1
  unfold planAt;split<;>omega
theorem takeJ_nonneg {n:Nat} {d:Nat→Bool} {now t:Int} {j:Job} (h:JobOK n now j):0≤takeJ n d t j:=by
  unfold takeJ
  split
  · split
    · exact cntN_nonneg _ _
    · exact Int.le_refl _
  · exact planAt_nonneg h
theorem sumT_nonneg {n:Nat} {d:Nat→Bool} {now t:Int}: ∀{l:List Job},(∀j∈l,JobOK n now j)→0≤sumT n d t l
  | [],_=>Int.le_refl _
  |j::r,h=>by
    have:=sumT_nonneg (d:=d) (t:=t) fun x hx=>h x (List.mem_cons_of_mem _ hx)
    have:=takeJ_nonneg (d:=d) (t:=t) (h j (by simp))
    simp only [sumT];omega
theorem sumT_mem {n:Nat} {d:Nat→Bool} {now t:Int}: ∀{l:List Job} {j:Job},(∀j∈l,JobOK n now j)→j∈l→takeJ n d t j≤sumT n d t l
  | [],_,_,h=>by cases h
  |a::r,j,h,hj=>by
    have h1:=sumT_nonneg (d:=d) (t:=t) fun x hx=>h x (List.mem_cons_of_mem _ hx)
    have h2:=takeJ_nonneg (d:=d) (t:=t) (h a (by simp))
    simp only [sumT]
    rcases List.mem_cons.1 hj with rfl |hj
    · omega
    · have:=sumT_mem (d:=d) (t:=t) (fun x hx=>h x (List.mem_cons_of_mem _ hx)) hj
      omega
theorem sumT_set {n:Nat} {d:Nat→Bool} {t:Int} {b:Job}: ∀{l:List Job} {i:Nat} {a:Job},l[i]? =some a→sumT n d t (l.set i b)=sumT n d t l-takeJ n d t a+takeJ n d t b
  | [],_,_,h=>by simp at h
  |x::r,0,a,h=>by simp at h;subst h;simp only [List.set,sumT];omega
  |x::r,i+1,a,h=>by
    have:=sumT_set (n:=n) (d:=d) (t:=t) (b:=b) (l:=r) (i:=i) (a:=a) (by simpa using h)
    simp only [List.set,sumT,this];omega
theorem sumT_append {n:Nat} {d:Nat→Bool} {t:Int} {b:Job}: ∀{l:List Job},sumT n d t (l++[b])=sumT n d t l+takeJ n d t b
  | []=>by simp [sumT]
  |x::r=>by simp only [List.cons_append,sumT,sumT_append (l:=r)];omega
theorem sumT_map {n:Nat} {d:Nat→Bool} {t:Int} {f:Job→Job}: ∀{l:List Job},(∀j∈l,takeJ n d t (f j)=takeJ n d t j)→sumT n d t (l.map f)=sumT n d t l
  | [],_=>rfl
  |x::r,h=>by simp only [List.map_cons,sumT,h x (by simp),sumT_map (l:=r) fun j hj=>h j (List.mem_cons_of_mem _ hj)]
theorem reqF_set {n:Nat} {d:Nat→Bool} {t:Int} {l:List Job} {i:Nat} {a b:Job} (h:l[i]? =some a):reqF n d (l.set i b) t=reqF n d l t+takeJ n d t a-takeJ n d t b:=by
  unfold reqF;rw [sumT_set h];omega
theorem reqF_le {n:Nat} {d:Nat→Bool} {now t:Int} {l:List Job} (h: ∀j∈l,JobOK n now j):reqF n d l t≤n:=by
  have:=sumT_nonneg (d:=d) (t:=t) h
  have:=cntN_le (fun k=>!d k) n
  unfold reqF;omega
def sumN (n:Nat) (d:Nat→Bool) (act:Job→Bool):List Job→Int
  | []=>0
  |j::r=>(if j.State=3∧act j=true then cntN (fun k=>hasB j.Nodes k&&!d k) n else 0)+sumN n d act r
theorem cnt_open {n:Nat} {d:Nat→Bool} {act:Job→Bool}: ∀{l:List Job},AllApart l→
    cntN (fun k=>!d k&&!l.any fun j=>runsOn (k:Int) j&&act j) n=cntN (fun k=>!d k) n-sumN n d act l
  | [],_=>by simp [sumN]
  |j::r,h=>by
    have ih:=cnt_open (n:=n) (d:=d) (act:=act) (List.pairwise_cons.1 h).2
    have hj:=(List.pairwise_cons.1 h).1
    simp only [sumN]
    have key:cntN (fun k=>!d k&&!r.any fun j=>runsOn (k:Int) j&&act j) n=cntN (fun k=>!d k&&!(j::r).any fun j=>runsOn (k:Int) j&&act j) n+(if j.State=3∧act j=true then cntN (fun k=>hasB j.Nodes k&&!d k) n else 0):=by
      by_cases hc:j.State=3∧act j=true
      · rw [if_pos hc]
        refine cntN_add fun k _=>?_
        simp only [List.any_cons,runsOn,hc.1,hc.2,decide_true,Bool.true_and,Bool.and_true]
        cases hb:hasB j.Nodes k with
        |false=>simp
        |true=>
          have hr:(r.any fun j=>(decide (j.State=3)&&hasB j.Nodes k)&&act j)=false:=by
            rw [List.any_eq_false]
            intro x hx
            by_cases h3:x.State=3
            · simp [hj x hx hc.1 h3 k hb]
            · simp [h3]
          cases d k<;>simp [hr]
      · rw [if_neg hc,Int.add_zero]
        refine cntN_congr fun k _=>?_
        have:(runsOn (k:Int) j&&act j)=false:=by
          unfold runsOn
          by_cases h3:j.State=3
          · have:act j=false:=by cases ha:act j with |false=>rfl |true=>exact absurd ⟨h3,ha⟩ hc
            simp [this]
          · simp [h3]
        simp [this]
    omega
theorem sumT_split {n:Nat} {d:Nat→Bool} {t:Int}: ∀{l:List Job},sumT n d t l=sumN n d (fun j=>decide (t<j.End)) l+planSum t 0 l
  | []=>rfl
  |j::r=>by
    simp only [sumT,sumN,planSum,sumT_split (l:=r),takeJ]
    by_cases h3:j.State=3
    · have hp:planAt t 0 j=0:=by unfold planAt plannedJ;simp [h3]
      by_cases he:t<j.End
      · simp [h3,he,hp];omega
      · simp [h3,he,hp]
    · simp [h3];omega
end Go.Ax.Law
namespace Go.Ax.Law
structure Match (p:Prof) (now:Int) (f:Int→Int):Prop where
  pw:PW p
  nw:nowL p.steps=now
  cn:Canon p.steps
  fr: ∀t,now≤t→freeL p.steps t=f t
theorem Match.congr {p:Prof} {now:Int} {f g:Int→Int} (h:Match p now f) (hg: ∀t,now≤t→f t=g t):Match p now g:=
  ⟨h.pw,h.nw,h.cn,fun t ht=>(h.fr t ht).trans (hg t ht)⟩
theorem Match.add {p:Prof} {now:Int} {f g:Int→Int} (h:Match p now f) (hl:p.steps.length≤4294967290) {from_ to n:Int} (hf:now≤from_) (hf2:from_<1152921504606846976) (ht:to≤1152921504606846976) (hn: -64≤n∧n≤64)
    (hb: ∀t,now≤t→0≤f t∧f t≤64) (hc: ∀t,now≤t→0≤g t∧g t≤64)
    (hg: ∀t,now≤t→g t=f t+(if from_≤t∧(t<to∨1152921504606846976≤to) then n else 0)):
    Match (addP p from_ to n).2 now g∧(addP p from_ to n).2.steps.length≤p.steps.length+2:=by
  obtain ⟨a1,a2,a3⟩:=addP_ok (p:=p) (f:=from_) (t:=to) (n:=n) h.pw (by omega)
  refine ⟨?_,a2⟩
  by_cases hlt:from_<to
  · obtain ⟨b1,b2,b3⟩:=addP_free (p:=p) (f:=from_) (t:=to) (n:=n) h.pw.2.1 h.pw.1 (by rw [h.nw];exact hf) hlt ht hn
      (fun u hu=>by rw [h.nw] at hu;rw [h.fr u hu];exact hb u hu)
      (fun u h1 h2=>by
        have h3:=hg u (by omega)
        rw [if_pos ⟨h1,.inl h2⟩] at h3
        rw [h.fr u (by omega),←h3];exact hc u (by omega))
    refine ⟨a1,a3.trans h.nw,b3 h.cn,fun t ht=>?_⟩
    rw [b2 t (by rw [h.nw];exact ht),h.fr t ht,hg t ht]
  · rw [addP_none (.inl (by omega))]
    refine h.congr fun t ht=>?_
    rw [hg t ht,if_neg (by omega),Int.add_zero]
theorem Match.adv {p:Prof} {now:Int} {f:Int→Int} (h:Match p now f) {t:Int} (ht:now≤t) (ht2:t≤1099511627776):(advP p t).1=0∧Match (advP p t).2 t f:=by
  obtain ⟨a1,a2,a3⟩:=advP_ok (p:=p) (t:=t) h.pw
  obtain ⟨b1,b2,b3,b4⟩:=advP_free (p:=p) h.pw.2.1 h.pw.1 (t:=t) (by rw [h.nw];exact ht) ht2
  exact ⟨b1,a1,b2,b4 h.cn,fun u hu=>by rw [b3 u hu,h.fr u (by omega)]⟩
def usedL (l:List Job) (k:Nat):Bool:=l.any (runsOn (k:Int))
def dr (c:Core) (k:Nat):Bool:=hasB c.N.drain (k:Int)
def ApartL (l:List Job):Prop:= ∀(a b:Nat) (x y:Job),a≠b→l[a]? =some x→l[b]? =some y→Apart x y
theorem ApartL.all {l:List Job} (h:ApartL l):AllApart l:=by
  rw [AllApart,List.pairwise_iff_getElem]
  intro i j hi hj hij
  exact h i j _ _ (by omega) (List.getElem?_eq_getElem hi) (List.getElem?_eq_getElem hj)
theorem Apart.symm {a b:Job} (h:Apart a b):Apart b a:=fun h1 h2 k hk=>by
  cases hb:hasB a.Nodes k with
  |false=>rfl
  |true=>rw [h h2 h1 k hb] at hk;cases hk
theorem ApartL.set {l:List Job} (h:ApartL l) {i:Nat} {j:Job} (hj: ∀b y,b≠i→l[b]? =some y→Apart j y):ApartL (l.set i j):=by
  intro a b x y hab hx hy
  rw [List.getElem?_set] at hx hy
  by_cases h1:i=a
  · subst h1
    rw [if_pos rfl] at hx
    rw [if_neg hab] at hy
    split at hx
    · cases hx;exact hj b y (Ne.symm hab) hy
    · cases hx
  · rw [if_neg h1] at hx
    by_cases h2:i=b
    · subst h2
      rw [if_pos rfl] at hy
      split at hy
      · cases hy;exact (hj a x hab hx).symm
      · cases hy
    · rw [if_neg h2] at hy
      exact h a b x y hab hx hy
theorem ApartL.less {l:List Job} (h:ApartL l) {i:Nat} {a j:Job} (ha:l[i]? =some a) (hj:j.State=3→a.State=3∧j.Nodes=a.Nodes):ApartL (l.set i j):=
  h.set fun b y hb hy h3 hy3 k hk=>by
    obtain ⟨e1,e2⟩:=hj h3
    exact h i b a y (Ne.symm hb) ha hy e1 hy3 k (e2▸hk)
structure Deep (n:Nat) (c:Core):Prop where
  n1:1≤n
  n64:n≤64
  cw:CW c
  all:c.N.all=allS n
  dn: ∀k:Nat,hasB c.N.drain (k:Int)=true→k<n
  us: ∀k:Nat,hasB c.N.used (k:Int)=usedL c.J.jobs k
  jobs: ∀j∈c.J.jobs,JobOK n (nowC c) j
  ap:ApartL c.J.jobs
  mt:Match c.P (nowC c) (reqF n (dr c) c.J.jobs)
  nn: ∀t,nowC c≤t→0≤reqF n (dr c) c.J.jobs t
  lv:c.J.live=liveN c.J.jobs
  l64:liveN c.J.jobs≤64
  nw:0≤nowC c∧nowC c≤1099511627776
def FreshE (l:List Job) (now:Int):Prop:= ∀j∈l,j.State=3→now<j.End
def FreshP (l:List Job) (now:Int):Prop:= ∀j∈l,plannedJ j=true→now<j.Plan
theorem Deep.bound {n:Nat} {c:Core} (h:Deep n c): ∀t,nowC c≤t→0≤reqF n (dr c) c.J.jobs t∧reqF n (dr c) c.J.jobs t≤64:=fun t ht=>
  ⟨h.nn t ht,by have:=reqF_le (d:=dr c) (t:=t) h.jobs;have:=h.n64;omega⟩
theorem nodup_len: ∀{a b:List Int},a.Nodup→(∀x∈a,x∈b)→a.length≤b.length
  | [],b,_,_=>Nat.zero_le _
  |x::a,b,h,hs=>by
    have hx:=hs x (by simp)
    have h1:=(List.nodup_cons.1 h)
    have ih:=nodup_len (a:=a) (b:=b.erase x) h1.2 fun y hy=>(List.mem_erase_of_ne (fun e=>by subst e;exact h1.1 hy)).2 (hs y (by simp [hy]))
    rw [List.length_erase_of_mem hx] at ih
    have:0<b.length:=List.length_pos_of_mem hx
    simp;omega
def eventsL (l:List Job):List Int:=l.flatMap fun j=>[j.End,j.Plan,j.Plan+j.Limit]
theorem events_len (l:List Job):(eventsL l).length=3*l.length:=by
  unfold eventsL
  induction l with
  |nil=>rfl
  |cons j r ih=>simp only [List.flatMap_cons,List.length_append,List.length_cons,ih,List.length_nil];omega
theorem takeJ_event {n:Nat} {d:Nat→Bool} {t u:Int} {j:Job} (htu:t≤u) (h1: ¬(t<j.End∧j.End≤u)) (h2: ¬(t<j.Plan∧j.Plan≤u)) (h3: ¬(t<j.Plan+j.Limit∧j.Plan+j.Limit≤u)):takeJ n d u j=takeJ n d t j:=by
  unfold takeJ planAt
  split
  · by_cases h:t<j.End
    · rw [if_pos h,if_pos (by omega)]
    · rw [if_neg h,if_neg (by omega)]
  · by_cases hp:plannedJ j=true∧j.Id≠0
    · obtain ⟨p1,p2⟩:=hp
      by_cases h:j.Plan≤t∧t<j.Plan+j.Limit
      · rw [if_pos ⟨p1,p2,by omega,by omega⟩,if_pos ⟨p1,p2,h.1,h.2⟩]
      · rw [if_neg (fun g=>by have:=g.2.2.1;have:=g.2.2.2;omega),if_neg (fun g=>h ⟨g.2.2.1,g.2.2.2⟩)]
    · rw [if_neg (fun g=>hp ⟨g.1,g.2.1⟩),if_neg (fun g=>hp ⟨g.1,g.2.1⟩)]
theorem reqF_same {n:Nat} {d:Nat→Bool} {t u:Int} (htu:t≤u): ∀{l:List Job},(∀e∈eventsL l,¬(t<e∧e≤u))→reqF n d l u=reqF n d l t:=by
  intro l h
  unfold reqF
  have:sumT n d u l=sumT n d t l:=by
    induction l with
    |nil=>rfl
    |cons j r ih=>
      have hj: ∀e,e=j.End∨e=j.Plan∨e=j.Plan+j.Limit→ ¬(t<e∧e≤u):=fun e he=>h e (by simp [eventsL];rcases he with h |h |h<;>simp [h])
      simp only [sumT]
      rw [takeJ_event htu (hj _ (.inl rfl)) (hj _ (.inr (.inl rfl))) (hj _ (.inr (.inr rfl))),ih fun e he=>h e (by simp only [eventsL,List.flatMap_cons,List.mem_append];right;exact he)]
  rw [this]
theorem Match.len {n:Nat} {d:Nat→Bool} {p:Prof} {now:Int} {l:List Job} (h:Match p now (reqF n d l)):p.steps.length≤1+3*l.length:=by
  have hr:=h.pw.2.1
  cases hs:p.steps with
  |nil=>simp
  |cons s r=>
    have hnd:(r.map Step.At).Nodup:=by
      rw [hs] at hr
      have:=hr.tail
      rw [List.Nodup,List.pairwise_map]
      exact this.imp fun h e=>by omega
    have := nodup_len (b:=eventsL l) hnd (fun x hx=>by
      obtain ⟨y,hy,rfl⟩:=List.mem_map.1 hx
      apply Classical.byContradiction
      intro hno
      obtain ⟨i,hi⟩:=List.getElem?_of_mem hy
      have h1:p.steps[i+1]? =some y:=by rw [hs];simpa using hi
      have hil:=(List.getElem?_eq_some_iff.1 h1).1
      have h0:p.steps[i]? =some p.steps[i]:=List.getElem?_eq_getElem (by omega)
      have hlt:=hr.get h0 h1 (by omega)
      have e1:=free_get hr (t:=y.At) h1 (Int.le_refl _) fun s' hs'=>hr.get h1 hs' (by omega)
      have e0:=free_get hr (t:=y.At-1) h0 (by omega) fun s' hs'=>by rw [h1] at hs';cases hs';omega
      have hnow:=now_le_get hr h0
      rw [h.nw] at hnow
      rw [h.fr _ (by omega)] at e1 e0
      have hsame:=reqF_same (n:=n) (d:=d) (t:=y.At-1) (u:=y.At) (by omega) (l:=l) fun e he hh=>hno (by rwa [show y.At=e by omega])
      rw [e1,e0] at hsame
      have hc:=h.cn
      have gen: ∀(l:List Step) (i:Nat) (a b:Step),Canon l→l[i]? =some a→l[i+1]? =some b→a.Free≠b.Free:=by
        intro l
        induction l with
        |nil=>intro i a b _ h;simp at h
        |cons x l ih=>
          intro i a b hc ha hb
          cases l with
          |nil=>simp at hb
          |cons z l=>
            cases i with
            |zero=>simp at ha hb;subst ha hb;exact hc.1
            |succ i=>exact ih i a b hc.2 (by simpa using ha) (by simpa using hb)
      exact gen _ _ _ _ hc h0 h1 hsame.symm)
    rw [events_len] at this
    simp at this ⊢;omega
theorem Deep.len {n:Nat} {c:Core} (h:Deep n c):c.P.steps.length≤3073:=by
  have:=h.mt.len
  have:=h.cw.1.2.1
  omega
theorem id_at {c:Core} (h:CW c) {i:Nat} {j:Job} (hj:c.J.jobs[i]? =some j):j.Id=(i:Int)+1:=(h.1.2.2 i j hj).1
theorem atJ_at {l:List Job} {i:Nat} {j:Job} (hj:l[i]? =some j) {id:Int} (hid:id=(i:Int)+1) (st:List Int) (f:Job→Job):atJ l id st f=if st.contains j.State then (0,l.set i (f j)) else (8,l):=by
  have hl:=(List.getElem?_eq_some_iff.1 hj).1
  subst hid
  unfold atJ
  rw [if_neg (by omega),show ((i:Int)+1-1).toNat=i by omega,hj]
theorem getJ_at {l:List Job} {i:Nat} {j:Job} (hj:l[i]? =some j) {id:Int} (hid:id=(i:Int)+1):getJ l id=(j,0):=by
  have hl:=(List.getElem?_eq_some_iff.1 hj).1
  subst hid
  unfold getJ
  rw [if_neg (by omega),show ((i:Int)+1-1).toNat=i by omega,hj]
theorem getJ_cases (l:List Job) (id:Int):((id<1∨(l.length:Int)<id)∧getJ l id=(job0,7))∨ ∃(i:Nat) (j:Job),id=(i:Int)+1∧l[i]? =some j∧getJ l id=(j,0):=by
  by_cases h:id<1∨(l.length:Int)<id
  · left;exact ⟨h,by unfold getJ;rw [if_pos h]⟩
  · right
    obtain ⟨i,hi⟩:=Int.eq_ofNat_of_zero_le (show 0≤id-1 by omega)
    have hl:i<l.length:=by omega
    exact ⟨i,l[i],by omega,List.getElem?_eq_getElem hl,getJ_at (List.getElem?_eq_getElem hl) (by omega)⟩
theorem liveN_set {l:List Job} {i:Nat} {a b:Job} (h:l[i]? =some a):liveN (l.set i b)=liveN l-(if liveJ a then 1 else 0)+(if liveJ b then 1 else 0):=by
  unfold liveN
  induction l generalizing i with
  |nil=>simp at h
  |cons x r ih=>
    cases i with
    |zero=>
      simp at h;subst h
      simp only [List.set,List.countP_cons]
      cases liveJ x<;>cases liveJ b<;>simp<;>omega
    |succ i=>
      have:=ih (i:=i) (by simpa using h)
      simp only [List.set,List.countP_cons]
      cases liveJ x<;>simp<;>omega
theorem liveN_nonneg (l:List Job):0≤liveN l:=Int.natCast_nonneg _
theorem any_set_same {l:List Job} {p:Job→Bool} {i:Nat} {a b:Job} (h:l[i]? =some a) (hp:p b=p a):(l.set i b).any p=l.any p:=by
  induction l generalizing i with
  |nil=>simp at h
  |cons x r ih=>
    cases i with
    |zero=>simp at h;subst h;simp [hp]
    |succ i=>simp only [List.set,List.any_cons,ih (i:=i) (by simpa using h)]
theorem any_set {l:List Job} {p:Job→Bool} {i:Nat} {a b:Job} (h:l[i]? =some a):(l.set i b).any p=(p b||(l.set i b).any fun x=>p x&&true):=by
  have hl:=(List.getElem?_eq_some_iff.1 h).1
  have hm:b∈l.set i b:=List.mem_of_getElem? (i:=i) (by rw [List.getElem?_set_self hl])
  cases hb:p b with
  |false=>simp
  |true=>simp;exact ⟨b,hm,hb⟩
theorem ids_set {l:List Job} (h:IdsOK l) {i:Nat} {a b:Job} (ha:l[i]? =some a) (h1:b.Id=a.Id) (h2:U64 b.Nodes):IdsOK (l.set i b):=by
  intro p q hq
  rw [List.getElem?_set] at hq
  split at hq
  · rename_i hp;subst hp
    split at hq
    · cases hq;exact ⟨h1.trans (h _ _ ha).1,h2⟩
    · cases hq
  · exact h p q hq
theorem Deep.set {n:Nat} {c:Core} (h:Deep n c) {i:Nat} {a b:Job} (ha:c.J.jobs[i]? =some a) (hid:b.Id=a.Id) (hb:JobOK n (nowC c) b) {N':Nodes} {P':Prof} {live':Int} {cl:Bool}
    (hall:N'.all=c.N.all) (hdr:N'.drain=c.N.drain) (hu:U64 N'.used) (hus: ∀k:Nat,hasB N'.used (k:Int)=usedL (c.J.jobs.set i b) k) (hap:ApartL (c.J.jobs.set i b))
    (hm:Match P' (nowC c) (reqF n (dr c) (c.J.jobs.set i b))) (hnn: ∀t,nowC c≤t→0≤reqF n (dr c) (c.J.jobs.set i b) t)
    (hlv:live'=liveN (c.J.jobs.set i b)) (hl64:liveN (c.J.jobs.set i b)≤64):Deep n ⟨⟨c.J.jobs.set i b,live',c.J.made⟩,N',P',cl⟩:=by
  have hcw:=h.cw
  have hnow:nowC (⟨⟨c.J.jobs.set i b,live',c.J.made⟩,N',P',cl⟩:Core)=nowC c:=hm.nw
  have hd:dr (⟨⟨c.J.jobs.set i b,live',c.J.made⟩,N',P',cl⟩:Core)=dr c:=by unfold dr;simp only [hdr]
  refine ⟨h.n1,h.n64,⟨⟨hcw.1.1,by simpa using hcw.1.2.1,ids_set hcw.1.2.2 ha hid hb.un⟩,⟨by rw [hall];exact hcw.2.1.1,hu,by rw [hdr];exact hcw.2.1.2.2.1,by rw [hall];exact hcw.2.1.2.2.2⟩,hm.pw⟩,hall.trans h.all,by simp only [hdr];exact h.dn,hus,?_,hap,?_,?_,hlv,hl64,by rw [hnow];exact h.nw⟩
  · rw [hnow]
    intro j hj
    rcases List.mem_or_eq_of_mem_set hj with hj |rfl
    · exact h.jobs j hj
    · exact hb
  · rw [hnow,hd];exact hm
  · rw [hnow,hd];exact hnn
end Go.Ax.Law
namespace Go.Ax.Law
theorem planned_iff {j:Job}:plannedJ j=true↔j.State=1∧0≤j.Plan:=by simp [plannedJ]
theorem planned_not {j:Job}:plannedJ j=false↔(j.State≠1∨j.Plan<0):=by
 unfold plannedJ
 by_cases h1:j.State=1<;>by_cases h2:0≤j.Plan<;>simp [h1,h2]<;>omega
theorem planS_snd (j:Job):(planS j).2=plannedJ j:=by
 unfold planS
 split
 ·rename_i h;rw [planned_not.2 h]
 ·rename_i h;rw [planned_iff.2 (by omega)]
theorem planS_fst {j:Job} (h:plannedJ j=true):(planS j).1=⟨j.Plan,wr (j.Plan+j.Limit),j.Width⟩:=(planS_some (by rw [planS_snd];exact h)).2.2
theorem JobOK.plan {n:Nat} {now:Int} {j:Job} (h:JobOK n now j) (hp:plannedJ j=true):now≤j.Plan∧j.Plan≤1099511627776:=by
 have h1:=planned_iff.1 hp
 rcases h.pl with h2 |h2
 ·omega
 ·exact h2.2
theorem JobOK.wrp {n:Nat} {now:Int} {j:Job} (h:JobOK n now j) (hp:plannedJ j=true):wr (j.Plan+j.Limit)=j.Plan+j.Limit:=by
 have h1:=planned_iff.1 hp
 have h2:=h.plan hp
 have h3:=h.lm
 exact wr_in (by omega)
theorem take_planned {n:Nat} {d:Nat→Bool} {t:Int} {j:Job} (hp:plannedJ j=true) (hi:j.Id≠0):takeJ n d t j=if j.Plan≤t∧t<j.Plan+j.Limit then j.Width else 0:=by
 have h1:=planned_iff.1 hp
 unfold takeJ planAt
 rw [if_neg (by omega)]
 simp [hp,hi]
theorem take_rest {n:Nat} {d:Nat→Bool} {t:Int} {j:Job} (hp:plannedJ j=false) (h3:j.State≠3):takeJ n d t j=0:=by
 unfold takeJ planAt
 rw [if_neg h3,if_neg (by simp [hp])]
theorem lessJ_ahead (a b:Job):lessJ a b=aheadJ a b:=by
 unfold lessJ aheadJ cmpJ cmpI
 by_cases h1:b.Prio<a.Prio
 ·simp [h1]
 ·by_cases h2:b.Prio>a.Prio
  ·have: ¬ a.Prio=b.Prio:=by omega
   simp [h1,h2,this]
  ·have:a.Prio=b.Prio:=by omega
   by_cases h3:a.Id<b.Id
   ·simp [this,h3]
   ·by_cases h4:a.Id>b.Id
    ·simp [this,h3,h4]
    ·simp [this,h3,h4]
theorem dropAt_eq (w:Work) (x:Job):dropAt w x=(plannedJ x&&(decide (w.job.Id=0)||aheadJ w.job x)):=by
 unfold dropAt;rw [planS_snd,lessJ_ahead]
theorem dropJ_not {w:Work} {x:Job} (h:dropAt w x=false):dropJ w.job x=x:=by
 rw [dropAt_eq] at h;unfold dropJ;rw [if_neg (by rw [h];decide)]
theorem dropJ_yes {w:Work} {x:Job} (h:dropAt w x=true):dropJ w.job x={x with Plan:= -1}:=by
 rw [dropAt_eq] at h;unfold dropJ;rw [if_pos h]
theorem dropJ_off (a x:Job):dropJ a {x with Plan:= -1}={x with Plan:= -1}:=by
 unfold dropJ;split<;>rfl
theorem drop_find {l:List Job} (w:Work):(inJ l [1]).find? (dropAt w)=l.find? (dropAt w):=by
 unfold inJ
 rw [List.find?_filter]
 congr 1
 funext x
 cases h:dropAt w x with
 |false=>simp
 |true=>
  rw [dropAt_eq] at h
  simp only [Bool.and_eq_true] at h
  have:=(planned_iff.1 h.1).1
  simp [this]
theorem job_mem {l:List Job} {i:Nat} {j:Job} (h:l[i]? =some j):j∈l:=List.mem_of_getElem? h
theorem jobs_set {l:List Job} {n:Nat} {now:Int} (h: ∀j∈l,JobOK n now j) {i:Nat} {b:Job} (hb:JobOK n now b): ∀j∈l.set i b,JobOK n now j:=fun j hj=>by
 rcases List.mem_or_eq_of_mem_set hj with hj |rfl
 ·exact h j hj
 ·exact hb
theorem Deep.unplan {n:Nat} {c:Core} (h:Deep n c) {i:Nat} {j:Job} (hj:c.J.jobs[i]? =some j) (hp:plannedJ j=true):
  ∃P',nowL P'.steps=nowC c∧setPlanC (releaseC c (planS j).1) j.Id (-1)=⟨⟨c.J.jobs.set i {j with Plan:= -1},c.J.live,c.J.made⟩,c.N,P',c.closed⟩∧Deep n ⟨⟨c.J.jobs.set i {j with Plan:= -1},c.J.live,c.J.made⟩,c.N,P',c.closed⟩:=by
 have hok:=h.jobs j (job_mem hj)
 have hid:=id_at h.cw hj
 have hpi:=planned_iff.1 hp
 have hpl:=hok.plan hp
 have hlm:=hok.lm
 have hwd:=hok.wd
 have hnw:=h.nw
 have hn:=h.n64
 refine ⟨(addP c.P j.Plan (j.Plan+j.Limit) j.Width).2,(addP_ok h.cw.2.2 (by have:=h.len;omega)).2.2,?_,?_⟩
 ·rw [planS_fst hp,hok.wrp hp]
  unfold setPlanC releaseC addC planJ
  simp only []
  rw [if_neg (by omega)]
  simp only []
  rw [atJ_at hj hid,if_pos (by rw [hpi.1];decide)]
 ·have hb:JobOK n (nowC c) {j with Plan:= -1}:=⟨hok.st,hok.wd,hok.lm,.inl rfl,fun h3=>by simp only [] at h3;omega,hok.en,hok.un⟩
  have hnp:plannedJ {j with Plan:= -1}=false:=planned_not.2 (.inr (by simp))
  have hr: ∀t,reqF n (dr c) (c.J.jobs.set i {j with Plan:= -1}) t=reqF n (dr c) c.J.jobs t+(if j.Plan≤t∧t<j.Plan+j.Limit then j.Width else 0):=fun t=>by
   rw [reqF_set hj,take_planned hp (by omega),take_rest hnp (by simp only [];omega)]
   omega
  have hle: ∀t,reqF n (dr c) (c.J.jobs.set i {j with Plan:= -1}) t≤n:=fun t=>reqF_le (jobs_set h.jobs hb)
  have hge: ∀t,nowC c≤t→0≤reqF n (dr c) (c.J.jobs.set i {j with Plan:= -1}) t:=fun t ht=>by
   have:=h.nn t ht
   rw [hr];split<;>omega
  have hlv:liveN (c.J.jobs.set i {j with Plan:= -1})=liveN c.J.jobs:=by
   rw [liveN_set hj]
   have:liveJ {j with Plan:= -1}=liveJ j:=rfl
   rw [this];omega
  refine h.set (b:={j with Plan:= -1}) hj rfl hb rfl rfl h.cw.2.1.2.1 (fun k=>?_) (h.ap.less hj fun h3=>⟨h3,rfl⟩) ?_ hge (by rw [hlv];exact h.lv) (by rw [hlv];exact h.l64)
  ·rw [h.us];unfold usedL;rw [any_set_same hj];rfl
  ·refine (h.mt.add (by have:=h.len;omega) hpl.1 (by omega) (by omega) (by omega) h.bound (fun t ht=>⟨hge t ht,by have:=hle t;omega⟩) fun t ht=>?_).1
   rw [hr t]
   congr 1
   by_cases hc:j.Plan≤t∧t<j.Plan+j.Limit
   ·rw [if_pos hc,if_pos ⟨hc.1,.inl hc.2⟩]
   ·rw [if_neg hc,if_neg (by omega)]
inductive Ends:Work→Core→Nat→Work→Core→Prop
 |one {w:Work} {c:Core}:(stepW w c).1.done=true→Ends w c 1 (stepW w c).1 (stepW w c).2
 |more {w:Work} {c:Core} {k:Nat} {w':Work} {c':Core}:(stepW w c).1.done=false→Ends (stepW w c).1 (stepW w c).2 k w' c'→Ends w c (k+1) w' c'
theorem Ends.whole {w:Work} {c:Core} {k:Nat} {w':Work} {c':Core} (h:Ends w c k w' c'): ∀(f:Nat) (n:Int),k≤f→wholeF f n w c=(n+k-1,w',c'):=by
 induction h with
 |one hd=>
  intro f n hf
  cases f with
  |zero=>omega
  |succ f=>
   simp only [wholeF];rw [if_pos hd]
   have:n+((1:Nat):Int)-1=n:=by omega
   rw [this]
 | @more w c k w' c' hd _ ih=>
  intro f n hf
  cases f with
  |zero=>omega
  |succ f=>
   simp only [wholeF];rw [if_neg (by rw [hd];decide),ih f (n+1) (by omega)]
   have:n+1+(k:Int)-1=n+((k+1:Nat):Int)-1:=by omega
   rw [this]
theorem Ends.pos {w:Work} {c:Core} {k:Nat} {w':Work} {c':Core} (h:Ends w c k w' c'):1≤k:=by cases h<;>omega
theorem Ends.done {w:Work} {c:Core} {k:Nat} {w':Work} {c':Core} (h:Ends w c k w' c'):w'.done=true:=by
 induction h with
 |one h=>exact h
 |more _ _ ih=>exact ih
theorem Ends.first {w:Work} {c:Core} {r:Work × Core} (h:stepW w c=r) (hd:r.1.done=true):Ends w c 1 r.1 r.2:=by
 subst h;exact .one hd
theorem Ends.next {w:Work} {c:Core} {r:Work × Core} {k:Nat} {w':Work} {c':Core} (h:stepW w c=r) (hd:r.1.done=false) (he:Ends r.1 r.2 k w' c'):Ends w c (k+1) w' c':=by
 subst h;exact .more hd he
theorem count_set {l:List Job} {p:Job→Bool} {i:Nat} {a b:Job} (h:l[i]? =some a) (ha:p a=true) (hb:p b=false):(l.set i b).countP p+1=l.countP p:=by
 induction l generalizing i with
 |nil=>simp at h
 |cons x r ih=>
  cases i with
  |zero=>simp at h;subst h;simp [ha,hb]
  |succ i=>
   have:=ih (i:=i) (by simpa using h)
   simp only [List.set,List.countP_cons];omega
theorem map_set_same {l:List Job} {f:Job→Job} {i:Nat} {a b:Job} (h:l[i]? =some a) (hb:f b=f a):(l.set i b).map f=l.map f:=by
 induction l generalizing i with
 |nil=>simp at h
 |cons x r ih=>
  cases i with
  |zero=>simp at h;subst h;simp [hb]
  |succ i=>simp only [List.set,List.map_cons,ih (i:=i) (by simpa using h)]
theorem step_drop {w:Work} {c:Core} (hd:w.done=false) (hc:w.commit=false) (hp:0<w.part) (hk:w.req.Kind=1∨w.req.Kind=4):
  stepW w c=({(dropW w c).2.1 with part:=wr ((dropW w c).2.1.part+1)},(dropW w c).2.2):=by
 have h0: ¬ (w.part=0∧c.closed=true):=by omega
 unfold stepW
 simp only [hd,hc,h0,if_false,Bool.false_eq_true]
 unfold serveW
 rcases hk with hk |hk
 ·rw [if_pos hk];unfold submitW;rw [if_pos hp]
 ·rw [if_neg (by omega),if_neg (by omega),if_neg (by omega),if_pos hk];unfold freeW;rw [if_pos hp]
theorem drops_ends {n:Nat}: ∀(N:Nat) {c:Core} {w:Work},Deep n c→w.done=false→w.commit=false→0<w.part→w.part+N≤1000000→(w.req.Kind=1∨w.req.Kind=4)→w.job.Id≠0→c.J.jobs.countP (dropAt w)=N→
  ∃P',nowL P'.steps=nowC c∧Ends w c (N+1) {w with done:=true,part:=w.part+N+1} ⟨⟨c.J.jobs.map (dropJ w.job),c.J.live,c.J.made⟩,c.N,P',c.closed⟩∧Deep n ⟨⟨c.J.jobs.map (dropJ w.job),c.J.live,c.J.made⟩,c.N,P',c.closed⟩
 |0,c,w,h,hd,hc,hp,hs,hk,hid,hn=>by
  have hno: ∀x∈c.J.jobs,dropAt w x=false:=fun x hx=>by
   have:=List.countP_eq_zero.1 hn x hx
   cases hb:dropAt w x with
   |false=>rfl
   |true=>exact absurd hb this
  have hf:(inJ c.J.jobs [1]).find? (dropAt w)=none:=by
   rw [drop_find,List.find?_eq_none]
   intro x hx;rw [hno x hx];decide
  have hst:=step_drop (c:=c) hd hc hp hk
  have hdw:dropW w c=(false,{w with done:=decide (w.job.Id≠0)},c):=by unfold dropW;rw [hf]
  rw [hdw] at hst
  have hm:c.J.jobs.map (dropJ w.job)=c.J.jobs:=by
   conv=>rhs;rw [←List.map_id c.J.jobs]
   exact List.map_congr_left fun x hx=>dropJ_not (hno x hx)
  refine ⟨c.P,rfl,?_,?_⟩
  ·rw [hm]
   have:=Ends.first hst (by simp [hid])
   simp only [wr_in (n:=w.part+1) (by omega)] at this
   simpa [hid] using this
  ·rw [hm];exact h
 |N+1,c,w,h,hd,hc,hp,hs,hk,hid,hn=>by
  cases hf:(inJ c.J.jobs [1]).find? (dropAt w) with
  |none=>
   exfalso
   rw [drop_find,List.find?_eq_none] at hf
   have:c.J.jobs.countP (dropAt w)=0:=List.countP_eq_zero.2 fun x hx=>hf x hx
   omega
  |some j=>
   have hf':=hf
   rw [drop_find] at hf'
   have hat:=List.find?_some hf'
   obtain ⟨i,hi⟩:=List.getElem?_of_mem (List.mem_of_find?_eq_some hf')
   have hpj:plannedJ j=true:=by rw [dropAt_eq] at hat;simp only [Bool.and_eq_true] at hat;exact hat.1
   obtain ⟨P1,e0,e1,h1⟩:=h.unplan hi hpj
   have hdw:dropW w c=(true,w,setPlanC (releaseC c (planS j).1) j.Id (-1)):=by unfold dropW;rw [hf]
   have hst:=step_drop (c:=c) hd hc hp hk
   rw [hdw,e1] at hst
   simp only [wr_in (n:=w.part+1) (by omega)] at hst
   have hoff:dropAt w {j with Plan:= -1}=false:=by rw [dropAt_eq];simp [plannedJ]
   have hcnt:=count_set (b:={j with Plan:= -1}) hi hat hoff
   obtain ⟨P2,e3,e2,h2⟩:=drops_ends N (w:={w with part:=w.part+1}) h1 hd hc (by simp only [];omega) (by simp only [];omega) hk hid (by show List.countP (dropAt w) _=N;simp only [];omega)
   simp only [] at e2 h2
   rw [map_set_same hi ((dropJ_off _ _).trans (dropJ_yes hat).symm)] at e2 h2
   refine ⟨P2,e3.trans e0,?_,h2⟩
   have:=Ends.next hst hd e2
   simp only [show w.part+1+(N:Int)+1=w.part+((N+1:Nat):Int)+1 by omega] at this
   exact this
end Go.Ax.Law
namespace Go.Ax.Law
open Go.Ax.O
theorem cnt_rank {p:Nat→Bool} {w:Int} (hw:0≤w): ∀n,cntN (fun k=>p k&&decide (cntN p k<w)) n=min (cntN p n) w
  |0=>by simp only [cntN];omega
  |n+1=>by
    simp only [cntN,cnt_rank hw n]
    have:=cntN_nonneg p n
    by_cases hp:p n=true
    · by_cases h:cntN p n<w
      · simp [h,hp];omega
      · simp [h,hp];omega
    · simp [hp]
theorem hasB_lt {x:Int} {k:Nat} (h:hasB x k=true):k<64:=by rw [hasB_nat] at h;simp at h;exact h.1
theorem lowS_spec {s:Int} (h:U64 s) (h0:s≠0):0≤lowS s∧lowS s<64∧hasB s (lowS s).toNat=true∧ ∀k:Nat,(k:Int)<lowS s→hasB s k=false:=by
  obtain ⟨a,ha,rfl⟩:=h.ex
  have ha0:a≠0:=fun e=>h0 (by rw [e];rfl)
  obtain ⟨h1,h2,h3⟩:=ctz_spec ha0 ha
  unfold lowS
  rw [if_neg h0,Int.toNat_natCast,Int.toNat_natCast]
  refine ⟨Int.natCast_nonneg _,by omega,?_,fun k hk=>?_⟩
  · rw [hasB_nat,Int.toNat_natCast];simp [h1,h2]
  · rw [hasB_nat,Int.toNat_natCast,h3 k (by omega)];simp
theorem cnt_without {s:Int} (h:U64 s) {m:Nat} (hm:m<64) (hb:hasB s m=true) (k:Nat):cntN (fun j=>hasB (withoutS s m) j) k=cntN (fun j=>hasB s j) k-(if m<k then 1 else 0):=by
  have:=cntN_add (p:=fun j=>hasB s j) (q:=fun j=>hasB (withoutS s m) j) (r:=fun j=>decide (j=m)) (n:=k) (fun j _=>by
    rw [hasB_without h (by omega)]
    by_cases e:j=m
    · subst e;simp [hb]
    · have: ¬ (j:Int)=(m:Int):=by omega
      simp [e,this])
  rw [cntN_one] at this
  omega
theorem withS_U64 {x n:Int} (hx:U64 x):U64 (withS x n):=U64_with hx
theorem withoutS_U64 {x n:Int} (hx:U64 x):U64 (withoutS x n):=U64_without hx
theorem firstN_bits: ∀(w:Nat) {out s:Int},U64 out→U64 s→(w:Int)≤lenS s→U64 (firstN w out s)∧ ∀k:Nat,hasB (firstN w out s) k=(hasB out k||(hasB s k&&decide (cntN (fun j=>hasB s j) k<w)))
  |0,out,s,ho,hs,hw=>by
    refine ⟨ho,fun k=>?_⟩
    have:=cntN_nonneg (fun j=>hasB s j) k
    have h0: ¬ cntN (fun j=>hasB s j) k<((0:Nat):Int):=by omega
    simp only [firstN,h0,decide_false,Bool.and_false,Bool.or_false]
  |w+1,out,s,ho,hs,hw=>by
    have hs0:s≠0:=by
      intro e;subst e
      have:lenS 0=0:=rfl
      omega
    obtain ⟨l0,l1,l2,l3⟩:=lowS_spec hs hs0
    obtain ⟨m,hm⟩:=Int.eq_ofNat_of_zero_le l0
    rw [hm] at l1 l2 l3
    simp only [Int.toNat_natCast] at l2
    have hcw:=cnt_without hs (by omega) l2
    have hlen:((w:Nat):Int)≤lenS (withoutS s m):=by
      rw [lenS_cnt (withoutS_U64 hs),hcw,if_pos (by omega),←lenS_cnt hs];omega
    simp only [firstN,hm]
    obtain ⟨g1,g2⟩:=firstN_bits w (withS_U64 (n:=(m:Int)) ho) (withoutS_U64 (n:=(m:Int)) hs) hlen
    refine ⟨g1,fun k=>?_⟩
    rw [g2,hasB_with ho (by omega),hasB_without hs (by omega),hcw]
    rcases Nat.lt_trichotomy k m with h |h |h
    · have e1: ¬ (k:Int)=(m:Int):=by omega
      rw [l3 k (by omega)]
      simp [e1]
    · subst h
      have:cntN (fun j=>hasB s j) k=0:=cntN_none fun j hj=>l3 j (by omega)
      simp [this,l2]
    · have e1: ¬ (k:Int)=(m:Int):=by omega
      have e2:(cntN (fun j=>hasB s j) k-(if m<k then 1 else 0)<(w:Int))↔(cntN (fun j=>hasB s j) k<((w+1:Nat):Int)):=by rw [if_pos h];omega
      simp only [e1,decide_false,Bool.or_false,Bool.not_false,Bool.and_true,decide_eq_decide.2 e2]
theorem pickN_bits {p:Nat→Bool} {w:Int} (hw:0≤w): ∀n,n≤64→(pickN p w n).2=min (cntN p n) w∧ ∃a:Nat,a<2^n∧(pickN p w n).1=(a:Int)∧ ∀k,a.testBit k=(decide (k<n)&&p k&&decide (cntN p k<w))
  |0,_=>by
    refine ⟨by simp only [pickN,cntN];omega,0,by simp,rfl,fun k=>by simp⟩
  |n+1,hn=>by
    obtain ⟨h1,a,h2,h3,h4⟩:=pickN_bits hw n (by omega)
    have hc:=cntN_nonneg p n
    simp only [pickN,cntN]
    have hp2:(2:Nat)^(n+1)=2*2^n:=by rw [Nat.pow_succ];omega
    split
    · rename_i hc2
      obtain ⟨c1,c2⟩:=hc2
      rw [h1] at c1
      refine ⟨by simp only [h1,c2,if_true];omega,a+2^n,by omega,by simp only [h3];omega,fun k=>?_⟩
      rcases Nat.lt_trichotomy k n with h |h |h
      · rw [Nat.add_comm,Nat.testBit_two_pow_add_gt h,h4 k]
        simp [h,show k<n+1 by omega]
      · subst h
        rw [Nat.add_comm,Nat.testBit_two_pow_add_eq,h4 k]
        have:cntN p k<w:=by omega
        simp [c2,this]
      · have hlt:a+2^n<2^k:=by
          have:(2:Nat)^(n+1)≤2^k:=Nat.pow_le_pow_right (by decide) (by omega)
          omega
        rw [Nat.testBit_lt_two_pow hlt]
        simp [show ¬ k<n+1 by omega]
    · rename_i hc2
      refine ⟨?_,a,by omega,h3,fun k=>?_⟩
      · rw [h1]
        cases hp:p n with
        |false=>simp
        |true=>
          have: ¬ min (cntN p n) w<w:=fun h=>hc2 ⟨by rw [h1];exact h,hp⟩
          simp;omega
      · rw [h4 k]
        rcases Nat.lt_trichotomy k n with h |h |h
        · simp [h,show k<n+1 by omega]
        · subst h
          have:(p k&&decide (cntN p k<w))=false:=by
            cases hp:p k with
            |false=>rfl
            |true=>
              have: ¬ (pickN p w k).2<w:=fun h=>hc2 ⟨h,hp⟩
              rw [h1] at this
              have: ¬ cntN p k<w:=by omega
              simp [this]
          simp [this]
        · simp [show ¬ k<n by omega,show ¬ k<n+1 by omega]
theorem idle_bits {t:Nodes} (h:NW t) (k:Nat):hasB (idleN t) k=(hasB t.all k&&!hasB t.used k&&!hasB t.drain k):=by
  unfold idleN
  rw [hasB_minus (U64_minus h.1) h.2.2.1,hasB_minus h.1 h.2.1]
theorem Deep.idle {n:Nat} {c:Core} (h:Deep n c) (k:Nat):hasB (idleN c.N) k=(decide (k<n)&&!usedL c.J.jobs k&&!dr c k):=by
  rw [idle_bits h.cw.2.1,h.all,hasB_all h.n1 h.n64,h.us];rfl
theorem Deep.idle_len {n:Nat} {c:Core} (h:Deep n c):lenS (idleN c.N)=cntN (fun k=>!dr c k&&!usedL c.J.jobs k) n:=by
  rw [lenS_cut (idle_U64 h.cw.2.1) h.n64 (fun k hk=>by rw [h.idle] at hk;simp at hk;exact hk.1.1)]
  refine cntN_congr fun k hk=>?_
  rw [h.idle]
  simp only [hk,decide_true,Bool.true_and]
  exact Bool.and_comm _ _
theorem sumN_congr {n:Nat} {d:Nat→Bool} {f g:Job→Bool}: ∀{l:List Job},(∀j∈l,j.State=3→f j=g j)→sumN n d f l=sumN n d g l
  | [],_=>rfl
  |j::r,h=>by
    simp only [sumN,sumN_congr (l:=r) fun x hx=>h x (List.mem_cons_of_mem _ hx)]
    by_cases h3:j.State=3
    · rw [h j (by simp) h3]
    · simp [h3]
theorem planSum_nonneg {n:Nat} {now t b:Int}: ∀{l:List Job},(∀j∈l,JobOK n now j)→0≤planSum t b l
  | [],_=>Int.le_refl _
  |j::r,h=>by
    have:=planSum_nonneg (t:=t) (b:=b) fun x hx=>h x (List.mem_cons_of_mem _ hx)
    have:=planAt_nonneg (t:=t) (b:=b) (h j (by simp))
    simp only [planSum];omega
theorem planSum_mem {n:Nat} {now t b:Int}: ∀{l:List Job} {j:Job},(∀j∈l,JobOK n now j)→j∈l→planAt t b j≤planSum t b l
  | [],_,_,h=>by cases h
  |a::r,j,h,hj=>by
    have h1:=planSum_nonneg (t:=t) (b:=b) fun x hx=>h x (List.mem_cons_of_mem _ hx)
    have h2:=planAt_nonneg (t:=t) (b:=b) (h a (by simp))
    simp only [planSum]
    rcases List.mem_cons.1 hj with rfl |hj
    · omega
    · have:=planSum_mem (t:=t) (b:=b) (fun x hx=>h x (List.mem_cons_of_mem _ hx)) hj
      omega
theorem Deep.idle_req {n:Nat} {c:Core} (h:Deep n c) (hE:FreshE c.J.jobs (nowC c)):lenS (idleN c.N)=reqF n (dr c) c.J.jobs (nowC c)+planSum (nowC c) 0 c.J.jobs:=by
  rw [h.idle_len]
  have h1:=cnt_open (n:=n) (d:=dr c) (act:=fun _=>true) h.ap.all
  have h2:cntN (fun k=>!dr c k&&!usedL c.J.jobs k) n=cntN (fun k=>!dr c k&&!c.J.jobs.any fun j=>runsOn (k:Int) j&&true) n:=cntN_congr fun k _=>by simp [usedL]
  rw [h2,h1]
  unfold reqF
  rw [sumT_split,sumN_congr (g:=fun j=>decide (nowC c<j.End)) (fun j hj h3=>by simp [hE j hj h3])]
  omega
theorem any_set_new {l:List Job} {p:Job→Bool} {i:Nat} {a b:Job} (h:l[i]? =some a) (ha:p a=false):(l.set i b).any p=(p b||l.any p):=by
  induction l generalizing i with
  |nil=>simp at h
  |cons x r ih=>
    cases i with
    |zero=>simp at h;subst h;simp [ha]
    |succ i=>
      simp only [List.set,List.any_cons,ih (i:=i) (by simpa using h)]
      cases p x<;>cases p b<;>rfl
theorem used_of {l:List Job} {i k:Nat} {y:Job} (h:l[i]? =some y) (h3:y.State=3) (hb:hasB y.Nodes k=true):usedL l k=true:=by
  unfold usedL
  rw [List.any_eq_true]
  exact ⟨y,job_mem h,by simp [runsOn,h3,hb]⟩
def nodesFor (c:Core) (w:Int):Int:=firstN w.toNat 0 (idleN c.N)
def beganJ (c:Core) (a:Job):Job:={a with State:=3,Start:=nowC c,End:=nowC c+a.Limit,Plan:= -1,Nodes:=nodesFor c a.Width}
theorem Deep.nodes {n:Nat} {c:Core} (h:Deep n c) {w:Int} (hw:0≤w) (hl:w≤lenS (idleN c.N)):U64 (nodesFor c w)∧(∀k:Nat,hasB (nodesFor c w) k=(hasB (idleN c.N) k&&decide (cntN (fun j=>hasB (idleN c.N) j) k<w)))∧lenS (nodesFor c w)=w:=by
  obtain ⟨m,rfl⟩:=Int.eq_ofNat_of_zero_le hw
  obtain ⟨g1,g2⟩:=firstN_bits m U64.zero (idle_U64 h.cw.2.1) hl
  have hb: ∀k:Nat,hasB (nodesFor c m) k=(hasB (idleN c.N) k&&decide (cntN (fun j=>hasB (idleN c.N) j) k<(m:Int))):=fun k=>by
    unfold nodesFor;rw [Int.toNat_natCast,g2,hasB_zero];rfl
  have hu:U64 (nodesFor c m):=by unfold nodesFor;rw [Int.toNat_natCast];exact g1
  refine ⟨hu,hb,?_⟩
  rw [lenS_cnt hu,cntN_congr (q:=fun k=>hasB (idleN c.N) k&&decide (cntN (fun j=>hasB (idleN c.N) j) k<(m:Int))) (fun k _=>hb k),cnt_rank hw,←lenS_cnt (idle_U64 h.cw.2.1)]
  omega
theorem begin_eq {n:Nat} {c:Core} (h:Deep n c) {i:Nat} {a:Job} (ha:c.J.jobs[i]? =some a) (h1:a.State=1) (hl:a.Width≤lenS (idleN c.N)) {j:Job} (hid:j.Id=a.Id) (hw:j.Width=a.Width):
    beginC c j=⟨⟨c.J.jobs.set i (beganJ c a),c.J.live,c.J.made⟩,{c.N with used:=unionS c.N.used (nodesFor c a.Width)},c.P,c.closed⟩:=by
  have hok:=h.jobs a (job_mem ha)
  have hlm:=hok.lm
  have hnw:=h.nw
  have hf:firstS (idleN c.N) a.Width=(nodesFor c a.Width,true):=by
    unfold firstS nodesFor;rw [if_neg (by have:=hok.wd;omega)]
  have ht:takeN c.N j.Width=((nodesFor c a.Width,0),{c.N with used:=unionS c.N.used (nodesFor c a.Width)}):=by
    unfold takeN;rw [hw,if_neg (by have:=hok.wd;omega),hf];simp
  unfold beginC
  rw [ht]
  simp only [if_true]
  have hb:(beginJ c.J j.Id (nowC c) (nodesFor c a.Width)).2=⟨c.J.jobs.set i (beganJ c a),c.J.live,c.J.made⟩:=by
    unfold beginJ
    rw [if_neg (by omega)]
    simp only []
    rw [atJ_at ha (hid.trans (id_at h.cw ha)),if_pos (by rw [h1];decide),wr_in (by omega)]
    rfl
  rw [hb]
theorem Deep.begin {n:Nat} {c:Core} (h:Deep n c) (hE:FreshE c.J.jobs (nowC c)) {i:Nat} {a:Job} (ha:c.J.jobs[i]? =some a) (h1:a.State=1) (hp:a.Plan=nowC c):
    a.Width≤lenS (idleN c.N)∧Deep n ⟨⟨c.J.jobs.set i (beganJ c a),c.J.live,c.J.made⟩,{c.N with used:=unionS c.N.used (nodesFor c a.Width)},c.P,c.closed⟩:=by
  have hok:=h.jobs a (job_mem ha)
  have hlm:=hok.lm
  have hnw:=h.nw
  have hwd:=hok.wd
  have hid:=id_at h.cw ha
  have hn64:=h.n64
  have hpl:plannedJ a=true:=planned_iff.2 ⟨h1,by omega⟩
  have hpa:planAt (nowC c) 0 a=a.Width:=by unfold planAt;rw [if_pos ⟨hpl,by omega,by omega,by omega⟩]
  have hle:a.Width≤lenS (idleN c.N):=by
    rw [h.idle_req hE]
    have:=planSum_mem (t:=nowC c) (b:=0) h.jobs (job_mem ha)
    have:=h.nn (nowC c) (Int.le_refl _)
    omega
  refine ⟨hle,?_⟩
  obtain ⟨s1,s2,s3⟩:=h.nodes (w:=a.Width) (by omega) hle
  have hsub: ∀k:Nat,hasB (nodesFor c a.Width) k=true→k<n∧usedL c.J.jobs k=false∧dr c k=false:=fun k hk=>by
    rw [s2,h.idle] at hk
    simp at hk
    exact ⟨hk.1.1.1,hk.1.1.2,hk.1.2⟩
  have hb:JobOK n (nowC c) (beganJ c a):=⟨by simp [beganJ],hwd,hlm,.inl rfl,fun _=>⟨by simp only [beganJ];omega,s3,fun k hk=>(hsub k hk).1⟩,by simp only [beganJ];omega,s1⟩
  have hr: ∀t,nowC c≤t→reqF n (dr c) (c.J.jobs.set i (beganJ c a)) t=reqF n (dr c) c.J.jobs t:=fun t ht=>by
    rw [reqF_set ha,take_planned hpl (by omega)]
    have:takeJ n (dr c) t (beganJ c a)=if t<nowC c+a.Limit then a.Width else 0:=by
      unfold takeJ beganJ
      simp only [if_true]
      split
      · rw [cntN_congr (q:=fun k=>hasB (nodesFor c a.Width) k) (fun k _=>?_),←lenS_cut s1 hn64 (fun k hk=>(hsub k hk).1),s3]
        cases hk:hasB (nodesFor c a.Width) k with
        |false=>rfl
        |true=>simp [(hsub k hk).2.2]
      · rfl
    rw [this,hp]
    by_cases hc:t<nowC c+a.Limit
    · rw [if_pos ⟨ht,hc⟩,if_pos hc];omega
    · rw [if_neg (fun g=>hc g.2),if_neg hc];omega
  have hlv:liveN (c.J.jobs.set i (beganJ c a))=liveN c.J.jobs:=by
    rw [liveN_set ha]
    have e1:liveJ a=true:=by simp [liveJ,h1]
    have e2:liveJ (beganJ c a)=true:=by simp [liveJ,beganJ]
    rw [e1,e2];simp
  refine h.set (b:=beganJ c a) ha rfl hb rfl rfl (U64_union h.cw.2.1.2.1 s1) (fun k=>?_) (h.ap.set fun b y hby hy h3 hy3 k hk=>?_) (h.mt.congr fun t ht=>(hr t ht).symm) (fun t ht=>by rw [hr t ht];exact h.nn t ht) (by rw [hlv];exact h.lv) (by rw [hlv];exact h.l64)
  · simp only []
    rw [hasB_union h.cw.2.1.2.1 s1,h.us]
    unfold usedL
    rw [any_set_new ha (by simp [runsOn,h1])]
    have:runsOn (k:Int) (beganJ c a)=hasB (nodesFor c a.Width) k:=by simp [runsOn,beganJ]
    rw [this]
    exact Bool.or_comm _ _
  · cases hyb:hasB y.Nodes k with
    |false=>rfl
    |true=>
      have:=used_of hy hy3 hyb
      rw [(hsub k hk).2.1] at this;cases this
theorem Deep.over {n:Nat} {c:Core} (h:Deep n c) {i:Nat} {a:Job} (ha:c.J.jobs[i]? =some a) (h3:a.State=3) (he:a.End=nowC c):
    ∃N',timeout1 c a=⟨⟨c.J.jobs.set i {a with State:=6},wr (c.J.live-1),c.J.made⟩,N',c.P,c.closed⟩∧N'.all=c.N.all∧N'.drain=c.N.drain∧Deep n ⟨⟨c.J.jobs.set i {a with State:=6},wr (c.J.live-1),c.J.made⟩,N',c.P,c.closed⟩:=by
  have hok:=h.jobs a (job_mem ha)
  have hlm:=hok.lm
  have hnw:=h.nw
  have hid:=id_at h.cw ha
  have hplan:a.Plan= -1:=by rcases hok.pl with e |e<;>omega
  obtain ⟨_,_,hsub⟩:=hok.rn h3
  have hin: ∀k:Nat,hasB a.Nodes k=true→hasB c.N.used k=true:=fun k hk=>by rw [h.us];exact used_of ha h3 hk
  have hz:minusS a.Nodes c.N.used=0:=by
    refine bits_ext (U64_minus hok.un) U64.zero fun k _=>?_
    rw [hasB_minus hok.un h.cw.2.1.2.1,hasB_zero]
    cases hk:hasB a.Nodes k with
    |false=>rfl
    |true=>rw [hin k hk];rfl
  have hlive:1≤liveN c.J.jobs:=by
    unfold liveN
    have:0<c.J.jobs.countP liveJ:=List.countP_pos_iff.2 ⟨a,job_mem ha,by simp [liveJ,h3]⟩
    omega
  have hlw:wr (c.J.live-1)=c.J.live-1:=wr_in (by have:=h.lv;have:=h.l64;omega)
  refine ⟨{c.N with used:=minusS c.N.used a.Nodes},?_,rfl,rfl,?_⟩
  · unfold timeout1
    rw [if_pos (by omega)]
    have e1:(finishJ c.J a.Id 6 a.End).2=⟨c.J.jobs.set i {a with State:=6},wr (c.J.live-1),c.J.made⟩:=by
      unfold finishJ
      rw [if_neg (by omega),if_neg (by omega)]
      simp only []
      rw [atJ_at ha hid]
      simp [h3]
      congr 2
      obtain ⟨q1,q2,q3,q4,q5,q6,q7,q8,q9,q10⟩:=a
      simp only [] at hplan
      subst hplan
      rfl
    have e2:(giveN c.N a.Nodes).2={c.N with used:=minusS c.N.used a.Nodes}:=by
      unfold giveN;rw [if_neg (by rw [hz];simp)]
    rw [e1,e2]
  · have hb:JobOK n (nowC c) {a with State:=6}:=⟨by simp,hok.wd,hok.lm,.inl hplan,fun e=>by simp at e,hok.en,hok.un⟩
    have hr: ∀t,nowC c≤t→reqF n (dr c) (c.J.jobs.set i {a with State:=6}) t=reqF n (dr c) c.J.jobs t:=fun t ht=>by
      rw [reqF_set ha,take_rest (j:={a with State:=6}) (planned_not.2 (.inl (by simp))) (by simp)]
      unfold takeJ;rw [if_pos h3,if_neg (by omega)];omega
    have hlv:liveN (c.J.jobs.set i {a with State:=6})=liveN c.J.jobs-1:=by
      rw [liveN_set ha]
      have e1:liveJ a=true:=by simp [liveJ,h3]
      have e2:liveJ {a with State:=6}=false:=by simp [liveJ]
      rw [e1,e2];simp
    refine h.set (b:={a with State:=6}) ha rfl hb rfl rfl (U64_minus h.cw.2.1.2.1) (fun k=>?_) (h.ap.less ha fun e=>by simp at e) (h.mt.congr fun t ht=>(hr t ht).symm) (fun t ht=>by rw [hr t ht];exact h.nn t ht) (by rw [hlv,hlw,h.lv]) (by rw [hlv];have:=h.l64;omega)
    simp only []
    rw [hasB_minus h.cw.2.1.2.1 hok.un,h.us]
    unfold usedL
    cases hk:hasB a.Nodes k with
    |false=>
      rw [any_set_same ha (by simp [runsOn,hk])];simp
    |true=>
      have:(c.J.jobs.set i {a with State:=6}).any (runsOn (k:Int))=false:=by
        rw [List.any_eq_false]
        intro x hx
        obtain ⟨p,hp⟩:=List.getElem?_of_mem hx
        rw [List.getElem?_set] at hp
        split at hp
        · split at hp
          · cases hp;simp [runsOn]
          · cases hp
        · rename_i hne
          by_cases hx3:x.State=3
          · have:=h.ap i p a x hne ha hp h3 hx3 k hk
            simp [runsOn,this]
          · simp [runsOn,hx3]
      rw [this];simp
end Go.Ax.Law
namespace Go.Ax.Law
open Go.Ax.O
structure Rep (n:Nat) (c:Core) (m:Model):Prop where
  deep:Deep n c
  len:m.Drain.length=n
  jobs:m.L=c.J.jobs
  now:m.Now=nowC c
  closed:m.Closed=c.closed
  dr: ∀k,k<n→drainB m k=dr c k
theorem Rep.used {n:Nat} {c:Core} {m:Model} (h:Rep n c m) (k:Nat):(0≤holdI m.L k)↔usedL c.J.jobs k=true:=by
  rw [h.jobs]
  unfold holdI usedL
  cases hf:c.J.jobs.findIdx? (runsOn (k:Int)) with
  |none=>
    rw [List.findIdx?_eq_none_iff] at hf
    simp only [List.any_eq_true]
    constructor
    · intro h;omega
    · rintro ⟨x,hx,hp⟩
      rw [hf x hx] at hp;cases hp
  |some i=>
    rw [List.findIdx?_eq_some_iff_getElem] at hf
    obtain ⟨hi,h1,_⟩:=hf
    simp only [List.any_eq_true]
    constructor
    · intro _;exact ⟨_,List.getElem_mem hi,h1⟩
    · intro _;omega
theorem Rep.state {n:Nat} {c:Core} {m:Model} (h:Rep n c m) (k:Int):stateM m k=stateN c.N k:=by
  have hall:=h.deep.all
  unfold stateM stateN
  by_cases hk:k<0∨(m.Drain.length:Int)≤k
  · rw [if_pos hk]
    have:hasB c.N.all k=false:=by
      rcases hk with hk |hk
      · exact hasB_neg hk
      · obtain ⟨q,rfl⟩:=Int.eq_ofNat_of_zero_le (show 0≤k by omega)
        rw [hall,hasB_all h.deep.n1 h.deep.n64]
        have:=h.len
        simp;omega
    rw [if_pos this]
  · rw [if_neg hk]
    obtain ⟨q,rfl⟩:=Int.eq_ofNat_of_zero_le (show 0≤k by omega)
    have hl:=h.len
    have hq:q<n:=by omega
    have:hasB c.N.all (q:Int)=true:=by rw [hall,hasB_all h.deep.n1 h.deep.n64];simpa using hq
    rw [this]
    have hu:=h.used q
    have hd:=h.dr q hq
    rw [Int.toNat_natCast,hd]
    have hus:=h.deep.us q
    rw [hus]
    unfold Law.dr
    by_cases h1:0≤holdI m.L q
    · rw [hu.1 h1];simp [h1]
    · have:usedL c.J.jobs q=false:=by
        cases hx:usedL c.J.jobs q with
        |false=>rfl
        |true=>exact absurd (hu.2 hx) h1
      simp [h1,this]
theorem state_idle {t:Nodes} (h:NW t) (k:Nat):(stateN t k=1)↔hasB (idleN t) k=true:=by
  rw [idle_bits h]
  unfold stateN
  cases hasB t.all k<;>cases hasB t.used k<;>cases hasB t.drain k<;>simp
theorem Rep.pick {n:Nat} {c:Core} {m:Model} (h:Rep n c m) {w:Int} (hw:0≤w) (hl:w≤lenS (idleN c.N)):(pickN (idleM m) w m.Drain.length).1=nodesFor c w:=by
  obtain ⟨s1,s2,_⟩:=h.deep.nodes hw hl
  have hn64:=h.deep.n64
  rw [h.len]
  obtain ⟨_,a,p1,p2,p3⟩:=pickN_bits (p:=idleM m) hw n hn64
  have ha:a<18446744073709551616:=by
    have:(2:Nat)^n≤2^64:=Nat.pow_le_pow_right (by decide) hn64
    have e:(2:Nat)^64=18446744073709551616:=by decide
    omega
  rw [p2]
  refine bits_ext (U64.nat ha) s1 fun k hk=>?_
  have him: ∀j:Nat,idleM m j=hasB (idleN c.N) j:=fun j=>by
    unfold idleM
    rw [h.state]
    have:=state_idle h.deep.cw.2.1 j
    cases hb:hasB (idleN c.N) j with
    |false=>rw [hb] at this;simpa using this
    |true=>rw [hb] at this;simpa using this
  rw [hasB_nat,Int.toNat_natCast,p3,s2]
  have hc:cntN (idleM m) k=cntN (fun j=>hasB (idleN c.N) j) k:=cntN_congr fun j _=>him j
  rw [hc,him k]
  have:hasB (idleN c.N) k=true→k<n:=fun hb=>by rw [h.deep.idle] at hb;simp at hb;exact hb.1.1
  cases hb:hasB (idleN c.N) k with
  |false=>simp
  |true=>simp [hk,this hb]
theorem Rep.begin {n:Nat} {c:Core} {m:Model} (h:Rep n c m) (hE:FreshE c.J.jobs (nowC c)) {i:Nat} {a:Job} (ha:c.J.jobs[i]? =some a) (h1:a.State=1) (hp:a.Plan=nowC c):
    Rep n (beginC c a) (beginM m i)∧(beginC c a).J.jobs=c.J.jobs.set i (beganJ c a)∧nowC (beginC c a)=nowC c∧(beginC c a).P=c.P:=by
  obtain ⟨hl,hd⟩:=h.deep.begin hE ha h1 hp
  have he:=begin_eq h.deep ha h1 hl (j:=a) rfl rfl
  have hm:beginM m i={m with L:=m.L.set i (beganJ c a)}:=by
    unfold beginM
    rw [Int.toNat_natCast,h.jobs,ha]
    have:beginJm m a=beganJ c a:=by
      unfold beginJm beganJ
      rw [h.now,h.pick (by have:=(h.deep.jobs a (job_mem ha)).wd;omega) hl]
    simp only [this]
  rw [he,hm]
  exact ⟨⟨hd,h.len,by simp only [h.jobs],h.now,h.closed,h.dr⟩,rfl,rfl,rfl⟩
theorem ahead_irr (a:Job):aheadJ a a=false:=by unfold aheadJ;simp
theorem ahead_trans {a b c:Job} (h1:aheadJ a b=true) (h2:aheadJ b c=true):aheadJ a c=true:=by
  unfold aheadJ at*
  simp only [Bool.or_eq_true,Bool.and_eq_true,decide_eq_true_eq] at*
  omega
theorem ahead_total {a b:Job} (h:a.Id≠b.Id):aheadJ a b=true∨aheadJ b a=true:=by
  unfold aheadJ
  simp only [Bool.or_eq_true,Bool.and_eq_true,decide_eq_true_eq]
  omega
theorem ahead_key {a b:Job} (ha: -9223372036854775808≤a.Id∧a.Id≤9223372036854775807) (hb: -9223372036854775808≤b.Id∧b.Id≤9223372036854775807) (hne:a.Id≠b.Id) (h:keyJ a≤keyJ b):aheadJ a b=true:=by
  unfold keyJ at h
  unfold aheadJ
  simp only [Bool.or_eq_true,Bool.and_eq_true,decide_eq_true_eq]
  omega
def Placed (l:List Job):Prop:= ∀(i:Nat) (j:Job),l[i]? =some j→j.Id=(i:Int)+1
theorem Placed.set {l:List Job} (h:Placed l) {i:Nat} {a b:Job} (ha:l[i]? =some a) (hb:b.Id=a.Id):Placed (l.set i b):=by
  intro p q hq
  rw [List.getElem?_set] at hq
  split at hq
  · rename_i hp;subst hp
    split at hq
    · cases hq;exact hb.trans (h _ _ ha)
    · cases hq
  · exact h p q hq
theorem selN_spec {now : Int} {l : List Job} (hp:Placed l): ∀n,n≤l.length→
    (selN now l n= -1∧ ∀i j,i<n→l[i]? =some j→dueJ now j=false)∨
    ∃i a,i<n∧selN now l n=(i:Int)∧l[i]? =some a∧dueJ now a=true∧ ∀k b,k<n→k≠i→l[k]? =some b→dueJ now b=true→aheadJ a b=true
  |0,_=> .inl ⟨rfl,fun i j hi=>by omega⟩
  |n+1,hn=>by
    have hl:l[n]? =some l[n]:=List.getElem?_eq_getElem (by omega)
    simp only [selN]
    rw [hl]
    simp only []
    rcases selN_spec hp n (by omega) with ⟨e,h0⟩ |⟨i,a,hi,e,ha,hd,hb⟩
    · rw [e]
      by_cases hdue:dueJ now l[n]=true
      · rw [if_pos ⟨hdue,.inl (by omega)⟩]
        refine .inr ⟨n,l[n],by omega,rfl,hl,hdue,fun k b hk hne hkb hbd=>?_⟩
        rw [h0 k b (by omega) hkb] at hbd;cases hbd
      · rw [if_neg (fun g=>hdue g.1)]
        refine .inl ⟨rfl,fun i j hi hj=>?_⟩
        rcases Nat.lt_or_ge i n with h |h
        · exact h0 i j h hj
        · have:i=n:=by omega
          subst this
          rw [hl] at hj;cases hj
          simpa using hdue
    · rw [e]
      have hg:l.getD (i:Int).toNat job0=a:=by rw [Int.toNat_natCast,List.getD_eq_getElem?_getD,ha];rfl
      rw [hg]
      by_cases hc:dueJ now l[n]=true∧((i:Int)<0∨aheadJ l[n] a=true)
      · rw [if_pos hc]
        have hna : aheadJ l[n] a = true := by rcases hc.2 with h |h;· omega
                                              · exact h
        refine .inr ⟨n,l[n],by omega,rfl,hl,hc.1,fun k b hk hne hkb hbd=>?_⟩
        by_cases hki:k=i
        · subst hki;rw [ha] at hkb;cases hkb;exact hna
        · exact ahead_trans hna (hb k b (by omega) hki hkb hbd)
      · rw [if_neg hc]
        refine .inr ⟨i,a,by omega,rfl,ha,hd,fun k b hk hne hkb hbd=>?_⟩
        rcases Nat.lt_or_ge k n with h |h
        · exact hb k b h hne hkb hbd
        · have:k=n:=by omega
          subst this
          rw [hl] at hkb;cases hkb
          rcases ahead_total (a:=a) (b:=l[k]) (by rw [hp _ _ ha,hp _ _ hl];omega) with h |h
          · exact h
          · exact absurd ⟨hbd,.inr h⟩ hc
theorem dueJ_iff {now:Int} {j:Job}:dueJ now j=true↔j.State=1∧0≤j.Plan∧j.Plan=now:=by
  unfold dueJ
  simp only [Bool.and_eq_true,planned_iff,decide_eq_true_eq]
  constructor
  · rintro ⟨⟨a,b⟩,c⟩;exact ⟨a,b,c⟩
  · rintro ⟨a,b,c⟩;exact ⟨⟨a,b⟩,c⟩
theorem begin_rest {l:List Job} {c:Core} {now:Int} (hE:FreshE l now) (hnow:nowC c=now) {i:Nat} {a:Job} (hl:1≤a.Limit):FreshE (l.set i (beganJ c a)) now:=by
  intro j hj h3
  rcases List.mem_or_eq_of_mem_set hj with hj |rfl
  · exact hE j hj h3
  · simp only [beganJ];omega
theorem beginF_none {m:Model} (h:selN m.Now m.L m.L.length= -1): ∀f,beginF f m=m
  |0=>rfl
  |f+1=>by
    simp only [beginF]
    rw [h,if_neg (by omega)]
    exact beginF_none h f
def potJ (j:Job):Nat:=if plannedJ j then 2 else if j.State=3 then 1 else 0
def Drops (l l':List Job):Prop:=l'.length=l.length∧ ∀(i:Nat) (a:Job),l[i]? =some a→ ∃b,l'[i]? =some b∧(b=a∨potJ b<potJ a)
theorem Drops.refl (l:List Job):Drops l l:=⟨rfl,fun i a h=>⟨a,h,.inl rfl⟩⟩
theorem Drops.trans {a b c:List Job} (h1:Drops a b) (h2:Drops b c):Drops a c:=by
  refine ⟨h2.1.trans h1.1,fun i x hx=>?_⟩
  obtain ⟨y,hy,e1⟩:=h1.2 i x hx
  obtain ⟨z,hz,e2⟩:=h2.2 i y hy
  refine ⟨z,hz,?_⟩
  rcases e1 with rfl |e1<;>rcases e2 with rfl |e2
  · exact .inl rfl
  · exact .inr e2
  · exact .inr e1
  · exact .inr (by omega)
theorem Drops.set {l:List Job} {i:Nat} {a b:Job} (h:l[i]? =some a) (hb:b=a∨potJ b<potJ a):Drops l (l.set i b):=by
  refine ⟨by simp,fun p x hx=>?_⟩
  by_cases hp:i=p
  · subst hp
    rw [h] at hx;cases hx
    exact ⟨b,by rw [List.getElem?_set_self (List.getElem?_eq_some_iff.1 h).1],hb⟩
  · exact ⟨x,by rw [List.getElem?_set_ne hp];exact hx,.inl rfl⟩
theorem begins_rep {n:Nat}: ∀(D:List Job) {c:Core} {m:Model} (f:Nat),Rep n c m→FreshE c.J.jobs (nowC c)→D.Pairwise (fun a b=>aheadJ a b=true)→
    (∀x,x∈D↔ ∃i:Nat,c.J.jobs[i]? =some x∧dueJ (nowC c) x=true)→D.length≤f→
    Rep n (D.foldl beginC c) (beginF f m)∧FreshE (D.foldl beginC c).J.jobs (nowC c)∧FreshP (D.foldl beginC c).J.jobs (nowC c)∧nowC (D.foldl beginC c)=nowC c∧Drops c.J.jobs (D.foldl beginC c).J.jobs
  | [],c,m,f,h,hE,_,hD,_=>by
    have hnone: ∀i j,c.J.jobs[i]? =some j→dueJ (nowC c) j=false:=fun i j hj=>by
      cases hd:dueJ (nowC c) j with
      |false=>rfl
      |true=>have:=(hD j).2 ⟨i,hj,hd⟩;cases this
    have hsel:selN m.Now m.L m.L.length= -1:=by
      rw [h.now,h.jobs]
      rcases selN_spec (now:=nowC c) (l:=c.J.jobs) (fun i j hj=>id_at h.deep.cw hj) _ (Nat.le_refl _) with ⟨e,_⟩ |⟨i,a,_,_,ha,hd,_⟩
      · exact e
      · rw [hnone i a ha] at hd;cases hd
    rw [beginF_none hsel]
    refine ⟨h,hE,fun j hj hp=>?_,rfl,.refl _⟩
    obtain ⟨i,hi⟩:=List.getElem?_of_mem hj
    have h1:=(h.deep.jobs j hj).plan hp
    have h2:=hnone i j hi
    have h3:=planned_iff.1 hp
    have:j.Plan≠nowC c:=fun e=>by
      rw [dueJ_iff.2 ⟨h3.1,h3.2,e⟩] at h2;cases h2
    have:nowC ([].foldl beginC c)=nowC c:=rfl
    omega
  |d::D,c,m,0,_,_,_,_,hf=>by simp at hf
  |d::D,c,m,f+1,h,hE,hs,hD,hf=>by
    obtain ⟨i,hi,hdue⟩:=(hD d).1 (by simp)
    have hpl:Placed c.J.jobs:=fun i j hj=>id_at h.deep.cw hj
    have hil:=(List.getElem?_eq_some_iff.1 hi).1
    have hsel:selN m.Now m.L m.L.length=(i:Int):=by
      rw [h.now,h.jobs]
      rcases selN_spec (now:=nowC c) hpl _ (Nat.le_refl _) with ⟨_,h0⟩ |⟨p,a,hp,e,ha,hda,hb⟩
      · rw [h0 i d hil hi] at hdue;cases hdue
      · by_cases hpi:p=i
        · rw [e,hpi]
        · have h1:=hb i d hil (Ne.symm hpi) hi hdue
          have h2:a∈d::D:=(hD a).2 ⟨p,ha,hda⟩
          rcases List.mem_cons.1 h2 with rfl |h2
          · have:=hpl _ _ ha;have:=hpl _ _ hi;omega
          · have h3:=(List.pairwise_cons.1 hs).1 a h2
            have:=ahead_trans h1 h3
            rw [ahead_irr] at this;cases this
    obtain ⟨e1,e2,e3⟩:=dueJ_iff.1 hdue
    obtain ⟨hr,hj,hn,hP⟩:=h.begin hE hi e1 e3
    have hbf:beginF (f+1) m=beginF f (beginM m i):=by
      simp only [beginF];rw [hsel,if_pos (by omega)]
    have hE2:FreshE (beginC c d).J.jobs (nowC (beginC c d)):=by
      rw [hj,hn]
      exact begin_rest hE rfl (h.deep.jobs d (job_mem hi)).lm.1
    have hD2: ∀x,x∈D↔ ∃p:Nat,(beginC c d).J.jobs[p]? =some x∧dueJ (nowC (beginC c d)) x=true:=fun x=>by
      rw [hj,hn]
      constructor
      · intro hx
        obtain ⟨p,hp,hdx⟩:=(hD x).1 (by simp [hx])
        refine ⟨p,?_,hdx⟩
        have hpi:p≠i:=fun e=>by
          subst e
          rw [hi] at hp;cases hp
          have:=(List.pairwise_cons.1 hs).1 d hx
          rw [ahead_irr] at this;cases this
        rw [List.getElem?_set_ne (Ne.symm hpi)];exact hp
      · rintro ⟨p,hp,hdx⟩
        rw [List.getElem?_set] at hp
        split at hp
        · try split at hp
          all_goals first
            |(cases hp;done)
            | (cases hp
               have:=(dueJ_iff.1 hdx).1
               simp [beganJ] at this)
        · rename_i hne
          rcases List.mem_cons.1 ((hD x).2 ⟨p,hp,hdx⟩) with rfl |hx
          · have:=hpl _ _ hp;have:=hpl _ _ hi;omega
          · exact hx
    obtain ⟨g1,g2,g3,g4,g5⟩:=begins_rep D f hr hE2 (List.pairwise_cons.1 hs).2 hD2 (by simpa using hf)
    rw [hbf]
    simp only [List.foldl_cons]
    rw [hn] at g2 g3 g4
    refine ⟨g1,g2,g3,g4,Drops.trans ?_ g5⟩
    rw [hj]
    refine Drops.set hi (.inr ?_)
    have:plannedJ d=true:=planned_iff.2 ⟨e1,e2⟩
    unfold potJ
    rw [if_pos this,if_neg (by simp [plannedJ,beganJ])]
    split<;>omega
end Go.Ax.Law
