import Derived.Test.YtnoinchifbckcaaGreatDoorAxO28
set_option linter.all false
namespace Go.Ax.Law
def KeepP (com:Bool) (a b:Job):Prop:=(b.State=1∧0≤b.Plan∧b.Plan≤a.Plan)∨(0≤b.Start∧b.Start≤a.Plan∧3≤b.State∧(b.Start=a.Plan∨com=true))
theorem KeepP.refl {com:Bool} {a:Job} (h1:a.State=1) (h2:0≤a.Plan):KeepP com a a:= .inl ⟨h1,h2,Int.le_refl _⟩
def Kept (com:Bool) (d:Deed) (l r:List Job):Prop:=l.length≤r.length∧ ∀(i:Nat) (a b:Job),l[i]? =some a→r[i]? =some b→a.State=1→0≤a.Plan→excused d a l r=false→KeepP com a b
theorem Kept.refl {com:Bool} {d:Deed} (l:List Job):Kept com d l l:=⟨Nat.le_refl _,fun i a b h1 h2 h3 h4 _=>by rw [h1] at h2;cases h2;exact .refl h3 h4⟩
theorem Kept.set {com:Bool} {d:Deed} {l:List Job} {n:Nat} {y:Job} (h: ∀a,l[n]? =some a→a.State=1→0≤a.Plan→excused d a l (l.set n y)=false→KeepP com a y):Kept com d l (l.set n y):=by
 refine ⟨by simp,fun i a b h1 h2 h3 h4 h5=>?_⟩
 by_cases hi:n=i
 ·subst hi
  have hl:n<l.length:=(List.getElem?_eq_some_iff.1 h1).1
  rw [List.getElem?_set_self hl] at h2
  cases h2
  exact h a h1 h3 h4 h5
 ·rw [List.getElem?_set_ne hi,h1] at h2
  cases h2;exact .refl h3 h4
theorem selN_due {now:Int} {l:List Job}: ∀n,n≤l.length→0≤selN now l n→ ∃a,l[(selN now l n).toNat]? =some a∧dueJ now a=true
 |0,_,h=>by simp only [selN] at h;omega
 |n+1,hn,h=>by
  have ih:=selN_due (now:=now) (l:=l) n (by omega)
  have hj:l[n]? =some l[n]:=List.getElem?_eq_getElem (by omega)
  simp only [selN,hj] at h ⊢
  split
  ·rename_i hc
   exact ⟨l[n],by simpa using hj,hc.1⟩
  ·rename_i hc
   rw [if_neg hc] at h
   exact ih h
def TickI (L0 l:List Job):Prop:=l.length=L0.length∧ ∀(i:Nat) (a b:Job),L0[i]? =some a→l[i]? =some b→a.State=1→0≤a.Plan→(b=a∨(b.Start=a.Plan∧3≤b.State))
theorem TickI.over {L0 l:List Job} (h:TickI L0 l) (now:Int):TickI L0 (l.map (overJ now)):=by
 refine ⟨by simpa using h.1,fun i a b h1 h2 h3 h4=>?_⟩
 rw [List.getElem?_map,Option.map_eq_some_iff] at h2
 obtain ⟨y,h2,rfl⟩:=h2
 unfold overJ
 rcases h.2 i a y h1 h2 h3 h4 with rfl |⟨g1,g2⟩
 ·rw [if_neg (by omega)];exact .inl rfl
 ·split
  ·exact .inr ⟨g1,by simp⟩
  ·exact .inr ⟨g1,g2⟩
theorem TickI.begin {L0:List Job} {m:Model} (h:TickI L0 m.L) (h0:0≤selN m.Now m.L m.L.length):TickI L0 (beginM m (selN m.Now m.L m.L.length)).L:=by
 obtain ⟨y,e1,e2⟩:=selN_due (now:=m.Now) (l:=m.L) _ (Nat.le_refl _) h0
 unfold beginM
 rw [e1]
 have hy:y.State=1∧0≤y.Plan∧y.Plan=m.Now:=by
  unfold dueJ plannedJ at e2
  simp at e2
  omega
 refine ⟨by simpa using h.1,fun i a b h1 h2 h3 h4=>?_⟩
 simp only [] at h2
 by_cases hi:(selN m.Now m.L m.L.length).toNat=i
 ·subst hi
  have hl:=(List.getElem?_eq_some_iff.1 e1).1
  rw [List.getElem?_set_self hl] at h2
  cases h2
  rcases h.2 _ a y h1 e1 h3 h4 with rfl |⟨g1,g2⟩
  ·exact .inr ⟨hy.2.2.symm,by simp [beginJm]⟩
  ·omega
 ·rw [List.getElem?_set_ne hi] at h2
  exact h.2 i a b h1 h2 h3 h4
theorem TickI.beginF {L0:List Job}: ∀(f:Nat) {m:Model},TickI L0 m.L→TickI L0 (beginF f m).L
 |0,_,h=>h
 |f+1,m,h=>by
  simp only [Law.beginF]
  split
  ·rename_i h0;exact TickI.beginF f (h.begin h0)
  ·exact TickI.beginF f h
theorem TickI.happen {L0:List Job} {m:Model} (h:TickI L0 m.L):TickI L0 (happenM m).L:=TickI.beginF _ (m:={m with L:=m.L.map (overJ m.Now)}) (h.over _)
theorem TickI.tickF {L0:List Job} (to:Int): ∀(f:Nat) {m:Model},TickI L0 m.L→TickI L0 (tickF f to m).L
 |0,_,h=>h
 |f+1,m,h=>by
  simp only [Law.tickF]
  split
  ·exact h
  ·exact TickI.tickF to f (TickI.happen (m:={m with Now:=nextM m}) h)
theorem TickI.kept {com:Bool} {d:Deed} {L0 l:List Job} (h:TickI L0 l):Kept com d L0 l:=by
 refine ⟨Nat.le_of_eq h.1.symm,fun i a b h1 h2 h3 h4 _=>?_⟩
 rcases h.2 i a b h1 h2 h3 h4 with rfl |⟨g1,g2⟩
 ·exact .refl h3 h4
 ·exact .inr ⟨by omega,by omega,g2,.inl g1⟩
theorem TickI.refl (l:List Job):TickI l l:=⟨rfl,fun i a b h1 h2 _ _=>by rw [h1] at h2;cases h2;exact .inl rfl⟩
theorem getM_some {m:Model} {id:Int} (h:(getM m id).2=true):1≤id∧id≤m.L.length∧m.L[(id-1).toNat]? =some (getM m id).1:=by
 unfold getM at h ⊢
 split at h
 ·cases h
 ·rename_i hc
  rw [if_neg hc]
  have:(id-1).toNat<m.L.length:=by omega
  rw [List.getElem?_eq_getElem this]
  exact ⟨by omega,by omega,rfl⟩
theorem drop_kept {com:Bool} {l:List Job} {j:Job} {b:Job} {i:Nat} {a:Job} (h1:l[i]? =some a) (h2:(l.map (dropJ j))[i]? =some b) (h3:a.State=1) (h4:0≤a.Plan) (h5:j.Id≠0) (h6:aheadJ j a=false):KeepP com a b:=by
 rw [List.getElem?_map,h1] at h2
 cases h2
 unfold dropJ
 rw [h6,decide_eq_false h5]
 simpa using KeepP.refl h3 h4
theorem commit_kept {n:Nat} {c:Core} {m:Model} (h:Stb n c m) (d:Deed) (hc:d.Commit=true):Kept d.Commit d m.L (commitM m d.X).2.L:=by
 unfold commitM
 split
 ·exact .refl _
 ·rename_i hf
  have hf:fitsM m d.X=true:=by simpa using hf
  have hnw:=h.rep.deep.nw
  have hnow:m.Now=nowC c:=h.rep.now
  have hg:(getM m d.X.Id).2=true∧m.Now≤d.X.At∧ ¬ (0≤(getM m d.X.Id).1.Plan∧(getM m d.X.Id).1.Plan≤d.X.At)∧(getM m d.X.Id).1.State=1:=by
   unfold fitsM at hf
   dsimp only at hf
   split at hf
   ·cases hf
   ·rename_i hn
    refine ⟨?_,by omega,by omega,by omega⟩
    cases hh:(getM m d.X.Id).2 with
    |true=>rfl
    |false=>exact absurd (.inr (.inl hh)) hn
  obtain ⟨g1,g2,g3,g4⟩:=hg
  obtain ⟨b1,b2,b3⟩:=getM_some g1
  split
  ·rename_i hat
   unfold beginM
   rw [b3]
   refine Kept.set fun a ha h3 h4 _=>?_
   rw [b3] at ha
   cases ha
   have hfp:=h.fp (getM m d.X.Id).1 (by rw [←h.rep.jobs];exact List.mem_of_getElem? b3) (by unfold plannedJ;simp [h3,h4])
   exact .inr ⟨by simp [beginJm];omega,by simp [beginJm];omega,by simp [beginJm],.inr hc⟩
  ·refine Kept.set fun a ha h3 h4 _=>?_
   rw [b3] at ha
   cases ha
   exact .inl ⟨h3,by simp only [];omega,by simp only [];omega⟩
theorem do_kept {n:Nat} {c:Core} {m:Model} (h:Stb n c m) (d:Deed) (hc:d.Commit=false):Kept d.Commit d m.L (doM m d.R).2.L:=by
 unfold doM
 split
 ·exact .refl _
 split
 ·rename_i hk
  unfold submitM
  split
  ·exact .refl _
  split
  ·exact .refl _
  split
  ·exact .refl _
  split
  ·exact .refl _
  ·dsimp only
   split
   ·refine ⟨by simp,fun i a b h1 h2 h3 h4 _=>?_⟩
    rw [List.getElem?_append_left (List.getElem?_eq_some_iff.1 h1).1,h1] at h2
    cases h2;exact .refl h3 h4
   ·refine ⟨by simp [dropM],fun i a b h1 h2 h3 h4 h5=>?_⟩
    have hid:(newJ m.L d.R).Id≠0:=by simp [newJ];omega
    have hl:(dropM {m with L:=m.L++[newJ m.L d.R]} (newJ m.L d.R)).L.length=m.L.length+1:=by simp [dropM]
    have hlast:(dropM {m with L:=m.L++[newJ m.L d.R]} (newJ m.L d.R)).L[(dropM {m with L:=m.L++[newJ m.L d.R]} (newJ m.L d.R)).L.length-1]? =some (dropJ (newJ m.L d.R) (newJ m.L d.R)):=by
     rw [hl]
     simp [dropM]
    have ha:aheadJ (newJ m.L d.R) a=false:=by
     unfold excused at h5
     rw [if_neg (by rw [hc];decide),if_neg (by omega),if_neg (by omega),if_pos hk,hlast,decide_eq_true (by omega),Bool.true_and] at h5
     have: ∀x,aheadJ (dropJ x x) a=aheadJ x a:=by
      intro x;unfold dropJ aheadJ;split<;>rfl
     simp only [this] at h5
     exact h5
    refine drop_kept (l:=m.L++[newJ m.L d.R]) ?_ h2 h3 h4 hid ha
    rw [List.getElem?_append_left (List.getElem?_eq_some_iff.1 h1).1,h1]
 split
 ·rename_i hk1 hk
  unfold endM
  dsimp only
  split
  ·exact .refl _
  split
  ·exact .refl _
  ·rename_i hg hs
   obtain ⟨b1,b2,b3⟩:=getM_some (m:=m) (id:=d.R.Id) (by simpa using hg)
   refine Kept.set fun a ha h3 h4 h5=>?_
   rw [b3] at ha
   cases ha
   have hid:(getM m d.R.Id).1.Id=d.R.Id:=by
    have:=id_at h.rep.deep.cw (i:=(d.R.Id-1).toNat) (j:=(getM m d.R.Id).1) (by rw [←h.rep.jobs];exact b3)
    omega
   unfold excused at h5
   rw [if_neg (by rw [hc];decide),if_pos (by omega)] at h5
   rw [hid] at h5;simp at h5
 split
 ·rename_i hk1 hk2 hk
  unfold turnM
  dsimp only
  split
  ·exact .refl _
  split
  ·exact .refl _
  ·rename_i hg hs
   obtain ⟨b1,b2,b3⟩:=getM_some (m:=m) (id:=d.R.Id) (by simpa using hg)
   have hid:(getM m d.R.Id).1.Id=d.R.Id:=by
    have:=id_at h.rep.deep.cw (i:=(d.R.Id-1).toNat) (j:=(getM m d.R.Id).1) (by rw [←h.rep.jobs];exact b3)
    omega
   by_cases h4k:d.R.Kind=4
   ·rw [if_pos h4k]
    have hn3: ¬ d.R.Kind=3:=by omega
    simp only [if_neg hn3,if_pos h4k]
    refine ⟨by simp [dropM],fun i a b h1 h2 h3 h4 h5=>?_⟩
    by_cases hi:(d.R.Id-1).toNat=i
    ·subst hi
     rw [b3] at h1
     cases h1
     omega
    ·have hx:(m.L.set (d.R.Id-1).toNat {(getM m d.R.Id).1 with State:=1})[i]? =some a:=by rw [List.getElem?_set_ne hi];exact h1
     refine drop_kept hx h2 h3 h4 (by simp only [];omega) ?_
     unfold excused at h5
     rw [if_neg (by rw [hc];decide),if_neg (by omega),if_neg (by omega),if_neg (by omega),if_pos h4k,b3,decide_eq_true b1,decide_eq_true (by omega),Bool.true_and,Bool.true_and] at h5
     exact h5
   ·simp only [if_neg h4k]
    refine Kept.set fun a ha h3 h4 h5=>?_
    rw [b3] at ha
    cases ha
    by_cases h3k:d.R.Kind=3
    ·unfold excused at h5
     rw [if_neg (by rw [hc];decide),if_pos (.inl h3k),hid] at h5
     simp at h5
    ·rw [if_neg h3k];exact .refl h3 h4
 split
 ·rename_i hk1 hk2 hk3 hk
  unfold nodeM
  split
  ·exact .refl _
  split
  ·exact .refl _
  ·by_cases h7:d.R.Kind=7
   ·refine ⟨by simp [h7,dropM],fun i a b h1 h2 h3 h4 h5=>?_⟩
    unfold excused at h5
    rw [if_neg (by rw [hc];decide),if_neg (by omega),if_pos h7] at h5
    cases h5
   ·simp only [if_neg h7]
    exact .refl _
 split
 ·unfold tickM
  split
  ·exact .refl _
  ·exact (TickI.tickF _ _ (.refl _)).kept
 split
 ·exact .refl _
 split
 ·exact .refl _
 split
 ·exact .refl _
 split
 ·exact .refl _
 ·exact .refl _
theorem deed_kept {n:Nat} {c:Core} {m:Model} (h:Stb n c m) (d:Deed):Kept d.Commit d m.L (deedSM m d).L:=by
 unfold deedSM doSM
 cases hc:d.Commit with
 |true=>rw [if_pos rfl,←hc];exact commit_kept h d hc
 |false=>
  rw [if_neg (by decide),←hc]
  split
  ·exact do_kept h d hc
  ·exact .refl _
end Go.Ax.Law
