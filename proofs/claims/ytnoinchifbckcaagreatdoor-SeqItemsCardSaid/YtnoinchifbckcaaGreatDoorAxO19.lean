import Derived.Test.YtnoinchifbckcaaGreatDoorAxO18
set_option linter.all false
namespace Go.Ax.Law
open Go.Ax.O
theorem br_eq {n m:Int} {A B:Prop} (h1:n=m→A) (h2:n≠m→B):br (n==m) A B:=br_bool (fun h=>h1 (by simpa using h)) (fun h=>h2 (by simpa using h))
theorem br_ne {n m:Int} {A B:Prop} (h1:n≠m→A) (h2:n=m→B):br (!(n==m)) A B:=br_not (fun h=>h1 (by simpa using h)) (fun h=>h2 (by simpa using h))
def Keeps (c:Core) (r:Work × Core) (n:Nat):Prop:=CW r.2∧WW r.1∧r.2.P.steps.length≤c.P.steps.length+n
theorem release_ok {c:Core} (h:CW c) (hl:c.P.steps.length≤4294967290) (s:Span):CW (releaseC c s)∧(releaseC c s).P.steps.length≤c.P.steps.length+2:=addC_ok h (by omega) _ _ _
theorem dropW_ok {w:Work} {c:Core} (h:CW c) (hw:WW w) (hl:c.P.steps.length≤4294967290):Keeps c (dropW w c).2 2∧((dropW w c).1=false→(dropW w c).2.2=c):=by
 unfold dropW
 split
 ·rename_i j _
  obtain ⟨h1,h2⟩:=release_ok h hl (planS j).1
  exact ⟨⟨⟨planJ_ok h1.1 _ _,h1.2.1,h1.2.2⟩,hw,h2⟩,fun h=>by cases h⟩
 ·exact ⟨⟨h,hw,by simp only [];omega⟩,fun _=>rfl⟩
theorem unplan_ok {w:Work} {c:Core} (h:CW c) (hl:c.P.steps.length≤4294967290):CW (unplanC w c)∧(unplanC w c).P.steps.length≤c.P.steps.length+2:=by
 unfold unplanC
 split
 ·exact release_ok h hl _
 ·exact ⟨h,by omega⟩
theorem same_ok {w:Work} {c:Core} (h:CW c) (hw:WW w) (n:Nat):Keeps c (w,c) n:=⟨h,hw,by simp only [];omega⟩
theorem withJ_ok {c:Core} (h:CW c) {t:Jobs} (ht:JW t):CW {c with J:=t}:=⟨ht,h.2.1,h.2.2⟩
theorem withN_ok {c:Core} (h:CW c) {t:Nodes} (ht:NW t):CW {c with N:=t}:=⟨h.1,ht,h.2.2⟩
theorem submitW_ok {w:Work} {c:Core} (h:CW c) (hw:WW w) (hl:c.P.steps.length≤4294967280):Keeps c (submitW w c) 4:=by
 unfold submitW
 split
 ·obtain ⟨h1,h2,h3⟩:=(dropW_ok h hw (by omega)).1
  exact ⟨h1,h2,by omega⟩
 ·split
  ·exact same_ok h hw _
  ·simp only []
   split
   ·exact ⟨withJ_ok h (submitJ_ok h.1 _),hw,by simp only [];omega⟩
   ·exact ⟨withJ_ok h (submitJ_ok h.1 _),getJ_U64 (submitJ_ok h.1 _) _,by simp only [];omega⟩
theorem finishW_ok {w:Work} {c:Core} (h:CW c) (hw:WW w) (hl:c.P.steps.length≤4294967280):Keeps c (finishW w c) 4:=by
 unfold finishW
 generalize (if w.req.Kind=2 then 5 else 4:Int)=st
 split
 ·simp only []
  split
  ·exact ⟨withJ_ok h (finishJ_ok h.1 _ _ _),getJ_U64 h.1 _,by simp only [];omega⟩
  ·exact ⟨withJ_ok h (finishJ_ok h.1 _ _ _),getJ_U64 h.1 _,by simp only [];omega⟩
 ·split
  ·split
   ·exact ⟨withN_ok h (giveN_ok h.2.1 _),hw,by simp only [];omega⟩
   ·exact same_ok h hw _
  ·simp only []
   obtain ⟨h1,h2⟩:=unplan_ok (w:=w) h (by omega)
   split
   ·obtain ⟨h3,h4⟩:=addC_ok h1 (by omega) (nowC (unplanC w c)) w.job.End w.back
    exact ⟨h3,hw,by simp only [];omega⟩
   ·exact ⟨h1,hw,by simp only [];omega⟩
theorem holdW_ok {w:Work} {c:Core} (h:CW c) (hw:WW w) (hl:c.P.steps.length≤4294967280):Keeps c (holdW w c) 4:=by
 unfold holdW
 split
 ·obtain ⟨h1,h2⟩:=unplan_ok (w:=w) h (by omega)
  exact ⟨h1,hw,by simp only [];omega⟩
 ·simp only []
  split
  ·exact ⟨withJ_ok h (holdJ_ok h.1 _),getJ_U64 h.1 _,by simp only [];omega⟩
  ·exact ⟨withJ_ok h (holdJ_ok h.1 _),getJ_U64 h.1 _,by simp only [];omega⟩
theorem freeW_ok {w:Work} {c:Core} (h:CW c) (hw:WW w) (hl:c.P.steps.length≤4294967280):Keeps c (freeW w c) 4:=by
 unfold freeW
 split
 ·obtain ⟨h1,h2,h3⟩:=(dropW_ok h hw (by omega)).1
  exact ⟨h1,h2,by omega⟩
 ·simp only []
  split
  ·exact ⟨withJ_ok h (freeJ_ok h.1 _),hw,by simp only [];omega⟩
  ·exact ⟨withJ_ok h (freeJ_ok h.1 _),getJ_U64 (freeJ_ok h.1 _) _,by simp only [];omega⟩
theorem drainW_ok {w:Work} {c:Core} (h:CW c) (hw:WW w) (hl:c.P.steps.length≤4294967280):Keeps c (drainW w c) 4:=by
 unfold drainW
 split
 ·exact same_ok h hw _
 ·split
  ·exact same_ok h hw _
  ·simp only []
   obtain ⟨h1,h2,h3⟩:=(dropW_ok h hw (by omega)).1
   split
   ·exact ⟨h1,h2,by omega⟩
   ·have h4:=withN_ok h1 (drainN_ok h1.2.1 (dropW w c).2.1.req.Node)
    obtain ⟨h5,h6⟩:=addC_ok h4 (by simp only [];omega) (untilC {(dropW w c).2.2 with N:=(drainN (dropW w c).2.2.N (dropW w c).2.1.req.Node).2} (dropW w c).2.1.req.Node) 1152921504606846976 (-1)
    exact ⟨h5,h2,by simp only [] at h6 ⊢;omega⟩
theorem resumeW_ok {w:Work} {c:Core} (h:CW c) (hw:WW w) (hl:c.P.steps.length≤4294967280):Keeps c (resumeW w c) 4:=by
 unfold resumeW
 simp only []
 have h4:=withN_ok h (resumeN_ok h.2.1 w.req.Node)
 split
 ·exact ⟨h4,hw,by simp only [];omega⟩
 ·obtain ⟨h5,h6⟩:=addC_ok h4 (by simp only [];omega) (untilC {c with N:=(resumeN c.N w.req.Node).2} w.req.Node) 1152921504606846976 1
  exact ⟨h5,hw,by simp only [] at h6 ⊢;omega⟩
theorem advC_ok {c:Core} (h:CW c) (t:Int):CW (advC c t)∧(advC c t).P.steps.length≤c.P.steps.length:=by
 obtain ⟨h1,h2,_⟩:=advP_ok (t:=t) h.2.2
 exact ⟨⟨h.1,h.2.1,h1⟩,h2⟩
theorem tickGo_ok {w:Work} {c:Core} (h:CW c) (hw:WW w):Keeps c (tickGo w c) 4:=by
 unfold tickGo
 split
 ·obtain ⟨h1,h2⟩:=advC_ok h w.to
  exact ⟨h1,hw,by simp only [];omega⟩
 ·obtain ⟨h1,h2⟩:=advC_ok h (max (nextC c) (nowC c))
  obtain ⟨h3,h4⟩:CW (timeoutsC (advC c (max (nextC c) (nowC c))))∧(timeoutsC (advC c (max (nextC c) (nowC c)))).P=(advC c (max (nextC c) (nowC c))).P:=timeouts_ok h1
  obtain ⟨h5,h6⟩:CW (beginsC (timeoutsC (advC c (max (nextC c) (nowC c)))))∧(beginsC (timeoutsC (advC c (max (nextC c) (nowC c))))).P=(timeoutsC (advC c (max (nextC c) (nowC c)))).P:=begins_ok h3
  refine ⟨h5,hw,?_⟩
  simp only []
  rw [h6,h4];omega
theorem tickW_ok {w:Work} {c:Core} (h:CW c) (hw:WW w):Keeps c (tickW w c) 4:=by
 unfold tickW
 split
 ·split
  ·exact same_ok h hw _
  ·exact tickGo_ok (w:={w with to:=wr (nowC c+w.req.By)}) h hw
 ·exact tickGo_ok h hw
theorem countW_ok {w:Work} {c:Core} (h:CW c) (hw:WW w):Keeps c (countW w c) 4:=by
 unfold countW
 split
 ·exact same_ok h hw _
 ·split
  ·exact same_ok h hw _
  ·split
   ·exact same_ok h hw _
   ·split
    ·exact ⟨h,hw,by simp only [];omega⟩
    ·exact same_ok h hw _
theorem serveW_ok {w:Work} {c:Core} (h:CW c) (hw:WW w) (hl:c.P.steps.length≤4294967280):Keeps c (serveW w c) 4:=by
 unfold serveW
 repeat' split
 ·exact submitW_ok h hw hl
 ·exact finishW_ok h hw hl
 ·exact holdW_ok h hw hl
 ·exact freeW_ok h hw hl
 ·exact same_ok h hw _
 ·exact drainW_ok h hw hl
 ·exact resumeW_ok h hw hl
 ·exact tickW_ok h hw
 ·exact countW_ok h hw
theorem settleW_ok {w:Work} {c:Core} (h:CW c) (hw:WW w) (hl:c.P.steps.length≤4294967280):Keeps c (settleW w c) 4:=by
 unfold settleW
 simp only []
 split
 ·split
  ·exact same_ok h hw _
  ·exact ⟨h,getJ_U64 h.1 _,by simp only [];omega⟩
 ·split
  ·obtain ⟨h1,h2⟩:=unplan_ok (w:=w) h (by omega)
   exact ⟨h1,hw,by simp only [];omega⟩
  ·split
   ·obtain ⟨h1,h2⟩:=addC_ok h (by omega) w.choice.At (wr (w.choice.At+w.job.Limit)) (wr (0-w.job.Width))
    exact ⟨h1,hw,by simp only [];omega⟩
   ·split
    ·obtain ⟨h1,h2⟩:=beginC_ok h w.job
     exact ⟨h1,hw,by simp only [h2];omega⟩
    ·exact ⟨withJ_ok h (planJ_ok h.1 _ _),hw,by show c.P.steps.length≤_;omega⟩
theorem stepW_ok {w:Work} {c:Core} (h:CW c) (hw:WW w) (hl:c.P.steps.length≤4294967280):Keeps c (stepW w c) 4:=by
 unfold stepW
 split
 ·exact same_ok h hw _
 ·simp only []
  have:Keeps c (if w.part=0∧c.closed=true then (failW w 12,c) else if w.commit=true then settleW w c else serveW w c) 4:=by
   split
   ·exact same_ok h hw _
   ·split
    ·exact settleW_ok h hw hl
    ·exact serveW_ok h hw hl
  exact ⟨this.1,this.2.1,this.2.2⟩
end Go.Ax.Law
namespace Go.Ax.O
open Go.Ax.Sp Go.Ax.Law
theorem vNewW {r:Req} {k:Unit→Work × Unit→Prop} (h:oNewW (r,()) k):V.vNewW r k:=h
theorem vNewX {x:Choice} {k:Unit→Work × Unit→Prop} (h:oNewX (x,()) k):V.vNewX x k:=h
theorem vDoneW {w:Work} {k:Unit→Bool × Unit→Prop} (h:oDoneW (some w,()) k):V.vDoneW w k:=h
theorem vDoneWN {k:Unit→Bool × Unit→Prop} (h:oDoneW (none,()) k):V.vDoneWN k:=h
theorem vRepW {w:Work} {k:Unit→Reply × Unit→Prop} (h:oRepW (w,()) k):V.vRepW w k:=h
theorem vOkW {w:Work} {k:Unit→Bool × Unit→Prop} (h:oOkW (w,()) k):V.vOkW w k:=h
theorem vEndW {w:Work} {r:Reply} {k:Work × Unit→Unit→Prop} (h:oEndW (w,r,()) k):V.vEndW w r k:=h
theorem vFailW {w:Work} {e:Int} {k:Work × Unit→Unit→Prop} (h:oFailW (w,e,()) k):V.vFailW w e k:=h
theorem vDropW {w:Work} {c:Core} {k:Work × Core × Unit→Bool × Unit→Prop} (h:oDropW (w,c,()) k):V.vDropW w c k:=by
 obtain ⟨⟨hc,hw,hl⟩,hk⟩:=h
 simp only [] at hc hw hl hk
 have hjl:=hc.1.2.1
 have hil:=inJ_len c.J.jobs [1]
 unfold dropW at hk
 refine ⟨Nat.le_refl _,⟨hc.1,by decide⟩,fun x=>x.1=w∧x.2.1=c∧x.2.2.1=inJ c.J.jobs [1]∧0≤x.2.2.2∧x.2.2.2≤(inJ c.J.jobs [1]).length∧((inJ c.J.jobs [1]).take x.2.2.2.toNat).find? (dropAt w)=none,
  fun x=>((inJ c.J.jobs [1]).length-x.2.2.2).toNat,(w,c,inJ c.J.jobs [1],0),⟨rfl,rfl,rfl,Int.le_refl _,by simp,by simp⟩,⟨⟨rfl,rfl,⟨rfl,rfl⟩,rfl,rfl,trivial⟩,rfl,rfl,rfl,trivial⟩,?_⟩
 rintro ⟨w',d,js,i⟩ ⟨g1,g0,g4,g2,g3,g5⟩
 simp only [] at g1 g0 g4 g2 g3 g5
 subst g1 g0 g4
 obtain ⟨i,rfl⟩:=Int.eq_ofNat_of_zero_le g2
 rw [Int.toNat_natCast] at g5
 dsimp only
 refine br_dec (fun hi=>⟨⟨g2,hi⟩,by simp;omega,fun e he=>?_⟩) (fun hi=>?_)
 ·rw [Nat.zero_add,Int.toNat_natCast] at he
  have nx:dropAt w' e=false→ ∀n,n=IntKind.i64.wrap ((i:Int)+1)→ ∃y:Work × Core × List Job × Int,(y.1=w'∧y.2.1=d∧y.2.2.1=inJ d.J.jobs [1]∧0≤y.2.2.2∧y.2.2.2≤(inJ d.J.jobs [1]).length∧((inJ d.J.jobs [1]).take y.2.2.2.toNat).find? (dropAt w')=none)∧((0=0∧0=0∧(0=0∧(inJ d.J.jobs [1]).length=y.2.2.1.length)∧((inJ d.J.jobs [1]).length:Int)=y.2.2.1.length∧n=y.2.2.2∧True)∧w'=y.1∧d=y.2.1∧inJ d.J.jobs [1]=y.2.2.1∧True)∧((inJ d.J.jobs [1]).length-y.2.2.2).toNat<((inJ d.J.jobs [1]).length-(i:Int)).toNat:=by
   intro hd n hn
   rw [w64 (by omega)] at hn
   subst hn
   refine ⟨(w',d,inJ d.J.jobs [1],(i:Int)+1),⟨rfl,rfl,rfl,by simp only [];omega,by simp only [];omega,?_⟩,⟨⟨rfl,rfl,⟨rfl,rfl⟩,rfl,rfl,trivial⟩,rfl,rfl,rfl,trivial⟩,by simp only [];omega⟩
   simp only []
   rw [show ((i:Int)+1).toNat=i+1 by omega,take_snoc' he,List.find?_append,g5]
   simp [hd]
  have ff:dropAt w' e=true→k (w',setPlanC (releaseC d (planS e).1) e.Id (-1),()) (true,()):=by
   intro hd
   rw [find_take he g5 hd] at hk
   exact hk
  refine br_not (fun h1=>⟨nx (by simp [dropAt,h1]),trivial⟩) (fun h1=>br_ne (fun h2=>⟨br_not (fun h3=>nx (by simp [dropAt,h2,h3])) (fun h3=>⟨⟨⟨hc.2.2,by omega⟩,⟨hc.1,ff (by simp [dropAt,h1,h3])⟩,trivial⟩,trivial⟩),trivial⟩) (fun h2=>⟨⟨⟨⟨hc.2.2,by omega⟩,⟨hc.1,ff (by simp [dropAt,h1,h2])⟩,trivial⟩,trivial⟩,trivial⟩))
 ·rw [List.take_of_length_le (by omega)] at g5
  rw [g5] at hk
  have e:(!(w'.job.Id==0))=decide (w'.job.Id≠0):=by
   by_cases h:w'.job.Id=0<;>simp [h]
  rw [e];exact hk
theorem vUnplan {w:Work} {c:Core} {k:Work × Core × Unit→Unit→Prop} (h:oUnplan (w,c,()) k):V.vUnplan w c k:=by
 obtain ⟨⟨hc,hw,hl⟩,hk⟩:=h
 simp only [] at hc hw hl hk
 unfold unplanC at hk
 refine br_bool (fun h1=>⟨⟨⟨hc.2.2,by omega⟩,?_⟩,trivial⟩) (fun h1=>?_)
 ·rw [if_pos h1] at hk;exact hk
 ·rw [if_neg (by rw [h1];decide)] at hk;exact hk
theorem vSubW {w:Work} {c:Core} {k:Work × Core × Unit→Unit→Prop} (h:oW2 submitW (w,c,()) k):V.vSubW w c k:=by
 obtain ⟨⟨hc,hw,hl⟩,hk⟩:=h
 simp only [] at hc hw hl hk
 unfold submitW at hk
 simp only [] at hk
 refine br_dec (fun h1=>⟨⟨hc,hw,hl⟩,?_⟩) (fun h1=>⟨hc,br_eq (fun h2=>⟨⟨hc.1,br_ne (fun h3=>?_) (fun h3=>⟨submitJ_ok hc.1 _,withJ_ok hc (submitJ_ok hc.1 _),?_⟩)⟩,trivial⟩) (fun h2=>br_ne (fun h3=>?_) (fun h3=>absurd h3 h2))⟩)
 ·rw [if_pos h1] at hk;exact hk
 ·rw [if_neg h1,if_neg (by rw [h2];decide),if_pos h3] at hk;exact hk
 ·rw [if_neg h1,if_neg (by rw [h2];decide),if_neg (by rw [h3];decide)] at hk;exact hk
 ·rw [if_neg h1,if_pos h2] at hk;exact hk
theorem vFinW {w:Work} {c:Core} {k:Work × Core × Unit→Unit→Prop} (h:oW2 finishW (w,c,()) k):V.vFinW w c k:=by
 obtain ⟨⟨hc,hw,hl⟩,hk⟩:=h
 simp only [] at hc hw hl hk
 unfold finishW at hk
 simp only [] at hk
 obtain ⟨u1,u2⟩:=unplan_ok (w:=w) hc (by omega)
 refine br_eq (fun h1=>br_eq (fun h2=>⟨⟨hc.1,⟨⟨hc.2.2,⟨hc.1,br_ne (fun h3=>?_) (fun h3=>⟨withJ_ok hc (finishJ_ok hc.1 _ _ _),?_⟩)⟩,trivial⟩,trivial⟩,trivial⟩,trivial⟩) (fun h2=>⟨⟨hc.1,⟨⟨hc.2.2,⟨hc.1,br_ne (fun h3=>?_) (fun h3=>⟨withJ_ok hc (finishJ_ok hc.1 _ _ _),?_⟩)⟩,trivial⟩,trivial⟩,trivial⟩,trivial⟩))
  (fun h1=>br_eq (fun h2=>br_eq (fun h3=>⟨⟨⟨hc.2.1,hw⟩,?_,trivial⟩,trivial⟩) (fun h3=>?_)) (fun h2=>⟨⟨hc,hw,hl⟩,br_eq (fun h3=>br_dec (fun h4=>⟨⟨u1.2.2,⟨⟨u1.2.2,by omega⟩,?_⟩,trivial⟩,trivial⟩) (fun h4=>?_)) (fun h3=>?_)⟩))
 ·rw [if_pos h1,if_pos h2,if_pos (show (finishJ c.J w.req.Id 5 (nowC c)).1≠0 from h3)] at hk;exact hk
 ·rw [if_pos h1,if_pos h2,if_neg (show ¬ (finishJ c.J w.req.Id 5 (nowC c)).1≠0 from fun hh=>hh h3)] at hk;exact hk
 ·rw [if_pos h1,if_neg h2,if_pos (show (finishJ c.J w.req.Id 4 (nowC c)).1≠0 from h3)] at hk;exact hk
 ·rw [if_pos h1,if_neg h2,if_neg (show ¬ (finishJ c.J w.req.Id 4 (nowC c)).1≠0 from fun hh=>hh h3)] at hk;exact hk
 ·rw [if_neg h1,if_pos h2,if_pos h3] at hk;exact hk
 ·rw [if_neg h1,if_pos h2,if_neg h3] at hk;exact hk
 ·rw [if_neg h1,if_neg h2,if_pos ⟨h3,h4⟩] at hk;exact hk
 ·rw [if_neg h1,if_neg h2,if_neg (fun hh=>h4 hh.2)] at hk;exact hk
 ·rw [if_neg h1,if_neg h2,if_neg (fun hh=>h3 hh.1)] at hk;exact hk
theorem vHoldW {w:Work} {c:Core} {k:Work × Core × Unit→Unit→Prop} (h:oW2 holdW (w,c,()) k):V.vHoldW w c k:=by
 obtain ⟨⟨hc,hw,hl⟩,hk⟩:=h
 simp only [] at hc hw hl hk
 unfold holdW at hk
 simp only [] at hk
 refine br_dec (fun h1=>⟨⟨hc,hw,hl⟩,?_⟩) (fun h1=>⟨⟨hc.1,⟨⟨hc.1,br_ne (fun h3=>?_) (fun h3=>⟨withJ_ok hc (holdJ_ok hc.1 _),?_⟩)⟩,trivial⟩,trivial⟩,trivial⟩)
 ·rw [if_pos h1] at hk;exact hk
 ·rw [if_neg h1,if_pos (show (holdJ c.J w.req.Id).1≠0 from h3)] at hk;exact hk
 ·rw [if_neg h1,if_neg (show ¬ (holdJ c.J w.req.Id).1≠0 from fun hh=>hh h3)] at hk;exact hk
theorem vFreeW {w:Work} {c:Core} {k:Work × Core × Unit→Unit→Prop} (h:oW2 freeW (w,c,()) k):V.vFreeW w c k:=by
 obtain ⟨⟨hc,hw,hl⟩,hk⟩:=h
 simp only [] at hc hw hl hk
 unfold freeW at hk
 simp only [] at hk
 refine br_dec (fun h1=>⟨⟨hc,hw,hl⟩,?_⟩) (fun h1=>⟨⟨hc.1,br_ne (fun h3=>?_) (fun h3=>⟨⟨freeJ_ok hc.1 _,⟨withJ_ok hc (freeJ_ok hc.1 _),?_⟩,trivial⟩,trivial⟩)⟩,trivial⟩)
 ·rw [if_pos h1] at hk;exact hk
 ·rw [if_neg h1,if_pos (show (freeJ c.J w.req.Id).1≠0 from h3)] at hk;exact hk
 ·rw [if_neg h1,if_neg (show ¬ (freeJ c.J w.req.Id).1≠0 from fun hh=>hh h3)] at hk;exact hk
theorem vDrainW {w:Work} {c:Core} {k:Work × Core × Unit→Unit→Prop} (h:oW2 drainW (w,c,()) k):V.vDrainW w c k:=by
 obtain ⟨⟨hc,hw,hl⟩,hk⟩:=h
 simp only [] at hc hw hl hk
 unfold drainW at hk
 simp only [] at hk
 obtain ⟨d1,d2,d3⟩:=(dropW_ok hc hw (by omega)).1
 have d4:=drainN_ok d1.2.1 (dropW w c).2.1.req.Node
 refine br_eq (fun h1=>⟨⟨hc.2.1,br_eq (fun h2=>?_) (fun h2=>br_eq (fun h3=>br_eq (fun h4=>?_) (fun h4=>absurd h3 h4)) (fun h3=>br_eq (fun h4=>?_) (fun h4=>⟨⟨hc,hw,hl⟩,br_bool (fun h5=>?_) (fun h5=>⟨⟨d1.2.1,⟨withN_ok d1 d4,⟨⟨d1.2.2,by omega⟩,⟨d4,?_,trivial⟩,trivial⟩,trivial⟩,trivial⟩,trivial⟩)⟩)))⟩,trivial⟩)
  (fun h1=>⟨⟨hc,hw,hl⟩,br_bool (fun h5=>?_) (fun h5=>⟨⟨d1.2.1,⟨withN_ok d1 d4,⟨⟨d1.2.2,by omega⟩,⟨d4,?_,trivial⟩,trivial⟩,trivial⟩,trivial⟩,trivial⟩)⟩)
 ·rw [if_pos ⟨h1,h2⟩] at hk;exact hk
 ·rw [if_neg (fun hh=>h2 hh.2),if_pos ⟨h1,.inl h3⟩] at hk;exact hk
 ·rw [if_neg (fun hh=>h2 hh.2),if_pos ⟨h1,.inr h4⟩] at hk;exact hk
 ·rw [if_neg (fun hh=>h2 hh.2),if_neg (fun hh=>hh.2.elim h3 h4),if_pos h5] at hk;exact hk
 ·rw [if_neg (fun hh=>h2 hh.2),if_neg (fun hh=>hh.2.elim h3 h4),if_neg (by rw [h5];decide)] at hk;exact hk
 ·rw [if_neg (fun hh=>h1 hh.1),if_neg (fun hh=>h1 hh.1),if_pos h5] at hk;exact hk
 ·rw [if_neg (fun hh=>h1 hh.1),if_neg (fun hh=>h1 hh.1),if_neg (by rw [h5];decide)] at hk;exact hk
theorem vResumeW {w:Work} {c:Core} {k:Work × Core × Unit→Unit→Prop} (h:oW2 resumeW (w,c,()) k):V.vResumeW w c k:=by
 obtain ⟨⟨hc,hw,hl⟩,hk⟩:=h
 simp only [] at hc hw hl hk
 unfold resumeW at hk
 simp only [] at hk
 have d4:=resumeN_ok hc.2.1 w.req.Node
 refine ⟨⟨hc.2.1,br_ne (fun h1=>?_) (fun h1=>⟨⟨withN_ok hc d4,⟨⟨hc.2.2,by omega⟩,⟨d4,?_,trivial⟩,trivial⟩,trivial⟩,trivial⟩)⟩,trivial⟩
 ·rw [if_pos h1] at hk;exact hk
 ·rw [if_neg (by rw [h1];decide)] at hk;exact hk
theorem vTickW {w:Work} {c:Core} {k:Work × Core × Unit→Unit→Prop} (h:oW2 tickW (w,c,()) k):V.vTickW w c k:=by
 obtain ⟨⟨hc,hw,hl⟩,hk⟩:=h
 simp only [] at hc hw hl hk
 unfold tickW tickGo at hk
 simp only [] at hk
 unfold V.vTickW
 simp only [max_if]
 have a1:=fun t=>advC_ok hc t
 have a2:=fun t=>(timeouts_ok (l:=inJ (advC c t).J.jobs [3]) (a1 t).1).1
 refine br_eq (fun h1=>br_dec (fun h2=>⟨?_,trivial⟩) (fun h2=>⟨⟨hc.2.2,fun n hn=>br_dec (fun h3=>?_) (fun h3=>⟨⟨hc.2.2,fun m hm=>⟨⟨hc,br_dec (fun h4=>⟨⟨hc.2.2,⟨(a1 m).1.2.2,⟨(a1 m).1.2.2,⟨(a1 m).1.2.2,?_,trivial⟩,trivial⟩,trivial⟩,trivial⟩,trivial⟩) (fun h4=>⟨⟨hc.2.2,⟨hc.2.2,(a1 _).1,a2 _,?_⟩,trivial⟩,trivial⟩)⟩,trivial⟩⟩,trivial⟩)⟩,trivial⟩))
  (fun h1=>⟨hc,br_dec (fun h4=>⟨⟨hc.2.2,⟨(a1 w.to).1.2.2,⟨(a1 w.to).1.2.2,⟨(a1 w.to).1.2.2,?_,trivial⟩,trivial⟩,trivial⟩,trivial⟩,trivial⟩) (fun h4=>⟨⟨hc.2.2,⟨hc.2.2,(a1 _).1,a2 _,?_⟩,trivial⟩,trivial⟩)⟩)
 ·rw [if_pos h1,if_pos (.inl h2)] at hk;exact hk
 ·subst hn
  rw [if_pos h1,if_pos (.inr h3)] at hk;exact hk
 ·subst hn hm
  rw [if_pos h1,if_neg (fun hh=>hh.elim h2 h3),if_pos (show wr (nowC c+w.req.By)<nextC c from h4)] at hk;exact hk
 ·subst hn hm
  rw [if_pos h1,if_neg (fun hh=>hh.elim h2 h3),if_neg (show ¬ wr (nowC c+w.req.By)<nextC c from h4)] at hk;exact hk
 ·rw [if_neg h1,if_pos h4] at hk;exact hk
 ·rw [if_neg h1,if_neg h4] at hk;exact hk
theorem vCountW {w:Work} {c:Core} {k:Work × Core × Unit→Unit→Prop} (h:oW2 countW (w,c,()) k):V.vCountW w c k:=by
 obtain ⟨⟨hc,hw,hl⟩,hk⟩:=h
 simp only [] at hc hw hl hk
 unfold countW at hk
 refine br_eq (fun h1=>⟨hc.2.1,?_⟩) (fun h1=>br_eq (fun h2=>⟨hc.1,?_⟩) (fun h2=>br_eq (fun h3=>⟨⟨hc.2.2,⟨hc.2.2,⟨hc.2.2,?_,trivial⟩,trivial⟩,trivial⟩,trivial⟩) (fun h3=>br_eq (fun h4=>?_) (fun h4=>?_))))
 ·rw [if_pos h1] at hk;exact hk
 ·rw [if_neg h1,if_pos h2] at hk;exact hk
 ·rw [if_neg h1,if_neg h2,if_pos h3] at hk;exact hk
 ·rw [if_neg h1,if_neg h2,if_neg h3,if_pos h4] at hk;exact hk
 ·rw [if_neg h1,if_neg h2,if_neg h3,if_neg h4] at hk;exact hk
theorem vServeW {w:Work} {c:Core} {k:Work × Core × Unit→Unit→Prop} (h:oW2 serveW (w,c,()) k):V.vServeW w c k:=by
 obtain ⟨⟨hc,hw,hl⟩,hk⟩:=h
 simp only [] at hc hw hl hk
 unfold serveW at hk
 refine br_eq (fun h1=>⟨⟨hc,hw,hl⟩,?_⟩) (fun h1=>br_eq (fun h2=>br_eq (fun _=>⟨⟨hc,hw,hl⟩,?_⟩) (fun h=>absurd h2 h)) (fun h2=>br_eq (fun h5=>⟨⟨hc,hw,hl⟩,?_⟩) (fun h5=>br_eq (fun h3=>⟨⟨hc,hw,hl⟩,?_⟩) (fun h3=>br_eq (fun h4=>⟨⟨hc,hw,hl⟩,?_⟩) (fun h4=>br_eq (fun h6=>⟨hc,?_⟩) (fun h6=>br_eq (fun h7=>⟨⟨hc,hw,hl⟩,?_⟩) (fun h7=>br_eq (fun h8=>⟨⟨hc,hw,hl⟩,?_⟩) (fun h8=>br_eq (fun h9=>⟨⟨hc,hw,hl⟩,?_⟩) (fun h9=>⟨⟨hc,hw,hl⟩,?_⟩)))))))))
 ·rw [if_pos h1] at hk;exact hk
 ·rw [if_neg h1,if_pos (.inl h2)] at hk;exact hk
 ·rw [if_neg h1,if_pos (.inr h5)] at hk;exact hk
 ·rw [if_neg h1,if_neg (fun hh=>hh.elim h2 h5),if_pos h3] at hk;exact hk
 ·rw [if_neg h1,if_neg (fun hh=>hh.elim h2 h5),if_neg h3,if_pos h4] at hk;exact hk
 ·rw [if_neg h1,if_neg (fun hh=>hh.elim h2 h5),if_neg h3,if_neg h4,if_pos h6] at hk;exact hk
 ·rw [if_neg h1,if_neg (fun hh=>hh.elim h2 h5),if_neg h3,if_neg h4,if_neg h6,if_pos h7] at hk;exact hk
 ·rw [if_neg h1,if_neg (fun hh=>hh.elim h2 h5),if_neg h3,if_neg h4,if_neg h6,if_neg h7,if_pos h8] at hk;exact hk
 ·rw [if_neg h1,if_neg (fun hh=>hh.elim h2 h5),if_neg h3,if_neg h4,if_neg h6,if_neg h7,if_neg h8,if_pos h9] at hk;exact hk
 ·rw [if_neg h1,if_neg (fun hh=>hh.elim h2 h5),if_neg h3,if_neg h4,if_neg h6,if_neg h7,if_neg h8,if_neg h9] at hk;exact hk
theorem vSettleW {w:Work} {c:Core} {k:Work × Core × Unit→Unit→Prop} (h:oW2 settleW (w,c,()) k):V.vSettleW w c k:=by
 obtain ⟨⟨hc,hw,hl⟩,hk⟩:=h
 simp only [] at hc hw hl hk
 unfold settleW at hk
 simp only [] at hk
 refine br_eq (fun h1=>⟨⟨hc,by omega⟩,br_not (fun h2=>?_) (fun h2=>⟨⟨hc.1,?_,trivial⟩,trivial⟩)⟩) (fun h1=>br_eq (fun h2=>⟨⟨hc,hw,hl⟩,?_⟩) (fun h2=>br_eq (fun h3 n hn=>⟨⟨⟨hc.2.2,by omega⟩,?_⟩,trivial⟩) (fun h3=>⟨⟨hc.2.2,br_eq (fun h4=>⟨hc,?_⟩) (fun h4=>⟨⟨hc.1,?_⟩,trivial⟩)⟩,trivial⟩)))
 ·rw [if_pos h1,if_pos h2] at hk;exact hk
 ·rw [if_pos h1,if_neg (by rw [h2];decide)] at hk;exact hk
 ·rw [if_neg h1,if_pos h2] at hk;exact hk
 ·subst hn
  rw [if_neg h1,if_neg h2,if_pos h3] at hk;exact hk
 ·rw [if_neg h1,if_neg h2,if_neg h3,if_pos (show w.choice.At=nowC c from h4)] at hk;exact hk
 ·rw [if_neg h1,if_neg h2,if_neg h3,if_neg (show ¬ w.choice.At=nowC c from h4)] at hk;exact hk
theorem vStepW {w:Work} {c:Core} {k:Work × Core × Unit→Bool × Unit→Prop} (h:oStepW (w,c,()) k):V.vStepW w c k:=by
 obtain ⟨⟨hc,hw,hl⟩,hk⟩:=h
 simp only [] at hc hw hl hk
 unfold stepW at hk
 simp only [] at hk
 refine br_bool (fun h1=>?_) (fun h1=>?_)
 ·have h1:w.done=true:=h1
  rw [if_pos h1] at hk
  simp only [h1] at hk
  exact hk
 have h1: ¬ w.done=true:=by rw [show w.done=false from h1];decide
 rw [if_neg h1] at hk
 refine br_eq (fun h2=>br_bool (fun h3 n hn=>?_) (fun h3=>br_bool (fun h4=>⟨⟨hc,hw,hl⟩,fun n hn=>?_⟩) (fun h4=>⟨⟨hc,hw,hl⟩,fun n hn=>?_⟩))) (fun h2=>br_bool (fun h4=>⟨⟨hc,hw,hl⟩,fun n hn=>?_⟩) (fun h4=>⟨⟨hc,hw,hl⟩,fun n hn=>?_⟩))
 ·subst hn
  rw [if_pos ⟨h2,h3⟩] at hk;exact hk
 ·subst hn
  rw [if_neg (by rw [h3];simp),if_pos h4] at hk;exact hk
 ·subst hn
  rw [if_neg (by rw [h3];simp),if_neg (by rw [h4];decide)] at hk;exact hk
 ·subst hn
  rw [if_neg (fun hh=>h2 hh.1),if_pos h4] at hk;exact hk
 ·subst hn
  rw [if_neg (fun hh=>h2 hh.1),if_neg (by rw [h4];decide)] at hk;exact hk
end Go.Ax.O
