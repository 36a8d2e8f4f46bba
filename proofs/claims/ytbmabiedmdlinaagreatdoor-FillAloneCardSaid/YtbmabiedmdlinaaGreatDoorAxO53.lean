import Derived.Test.YtbmabiedmdlinaaGreatDoorAxD19
import Derived.Test.YtbmabiedmdlinaaGreatDoorAxV22
import Derived.Test.YtbmabiedmdlinaaGreatDoorAxV9
import Derived.KernelRfl
import Derived.Test.YtbmabiedmdlinaaGreatDoorAxO52
set_option linter.all false
namespace Go.Ax.Law
open Go.Ax.O
theorem nextF_taken (f:Fill):(nextF f).taken=f.taken:=by
  unfold nextF
  split
  · rfl
  · split<;>rfl
theorem free2 (q:Int):FreeF lock0 lane3 2 q:=by unfold FreeF lock0;simp
theorem com_facts {n:Nat} {c:Core} {m:Model} (h:Stb n c m) (x:Choice): ∃(J:Nat) (w1:Work),J≤4∧PhOK lock0 lane3 2 (newX x) c J w1 (comS c x).2∧w1.ok=(comS c x).1:=by
  obtain ⟨⟨k,w',c',hk,he,hok,hp,hst,_⟩,_⟩:=commit_done h x
  have hw:=he.whole 1999 1 (by omega)
  have hl:=h.len
  have e:comS c x=(w'.ok,c'):=by unfold comS wholeW;rw [hw]
  rw [e]
  exact ⟨k,w',hk,⟨he,h.cw,newX_WW x,by omega⟩,rfl⟩
theorem turn_ok {n:Nat} {c:Core} {m:Model} (h:Stb n c m) (x:Choice):(stepW (newX x) c).1.ok=(comS c x).1:=by
  rw [comS_fits h]
  unfold stepW
  rw [if_neg (by simp [newX,work0])]
  cases hc:c.closed with
  |true=>simp [newX,work0,failW,endW,fitsC,hc]
  |false=>
    have e:(newX x).choice=x:=rfl
    simp only [Bool.false_eq_true,and_false,if_false]
    rw [if_pos (by rfl)]
    unfold settleW
    rw [if_pos (by rfl),e]
    cases hf:fitsC c x<;>simp
theorem ph_turn {s0 s:LockSet} {l:Lane} {who:Int} {w0 w1:Work} {c0 c1 c:Core} {J:Nat} {rem:Int} {h:Hand} (hp:Ph s0 l who w0 c0 J w1 c1 rem h c s) (h1:h.stage=1):(stepH h c s).2.1.W=(stepW w0 c0).1:=by
  cases hp with
  |turn hs=>
    unfold stepH partsH skipH
    rw [if_neg (by simp),if_pos rfl]
    split<;>rfl
  |_=>simp at h1
theorem Ph.told {s0 s:LockSet} {l:Lane} {who:Int} {w0 w1:Work} {c0 c1 c:Core} {J:Nat} {rem:Int} {h:Hand} (hp:Ph s0 l who w0 c0 J w1 c1 rem h c s) (h4:4≤h.stage):h.W=w1∧c=c1∧Own s0 s:=by
  cases hp with
  |tell hs=>exact ⟨rfl,rfl,by simpa using hs.1,by simpa using hs.2.1,by simpa using hs.2.2⟩
  |over hs=>exact ⟨rfl,rfl,by simpa using hs.1,by simpa using hs.2.1,by simpa using hs.2.2⟩
  |_=>simp at h4
inductive PhC (c0:Core) (P:Option Planner) (sm dp:Int):Int→Fill→Core→LockSet→List Choice→Prop
  |go {done rest:List Choice} {x:Choice} {J:Nat} {w1:Work} {rem:Int} {h:Hand} {c:Core} {s:LockSet} {tk:Int}:
      chosC c0 dp=done++x::rest→J≤4→PhOK lock0 lane3 2 (newX x) (passF c0 0 [] done).1 J w1 (comS (passF c0 0 [] done).1 x).2→w1.ok=(comS (passF c0 0 [] done).1 x).1→
      Ph lock0 lane3 2 (newX x) (passF c0 0 [] done).1 J w1 (comS (passF c0 0 [] done).1 x).2 rem h c s→h.stage≤3→
      tk=(passF c0 0 [] done).2.1+(if 2≤h.stage∧(comS (passF c0 0 [] done).1 x).1=true then 1 else 0)→
      PhC c0 P sm dp (12*rest.length+rem) (fillC P sm dp 7 c0 done.length (some h) tk) c s (done++if 2≤h.stage then [x] else [])
  |over {q:Int} {hd:Option Hand} {s:LockSet}:Own lock0 s→PhC c0 P sm dp 0 (fillC P sm dp 8 c0 q hd (passF c0 0 [] (chosC c0 dp)).2.1) (passF c0 0 [] (chosC c0 dp)).1 s (chosC c0 dp)
theorem chos_len {n:Nat} {c0:Core} {m:Model} (hs:Stb n c0 m) (dp:Int):(chosC c0 dp).length≤64:=by
  have h1:=(its_len hs.rep.deep dp).1
  have h2:=(planF_ok ((itemsC c0).take dp.toNat) (p:=c0.P) (n:=0) (prof_pre hs _ (by omega))).2
  unfold chosC;omega
theorem phC_begin {n:Nat} {c0:Core} {m:Model} (hs:Stb n c0 m) {P:Option Planner} {sm dp:Int} {done rest:List Choice} (he:chosC c0 dp=done++rest) (hd0:Option Hand) {s:LockSet} (ho:Own lock0 s):
    ∃rem:Int,0≤rem∧rem≤12*rest.length∧PhC c0 P sm dp rem (nextF (fillC P sm dp 7 c0 done.length hd0 (passF c0 0 [] done).2.1)) (passF c0 0 [] done).1 s done:=by
  have hlen:=chos_len hs dp
  unfold nextF
  have ec:(fillC P sm dp 7 c0 done.length hd0 (passF c0 0 [] done).2.1).choices=chosC c0 dp:=rfl
  have ep:(fillC P sm dp 7 c0 done.length hd0 (passF c0 0 [] done).2.1).pos=(done.length:Int):=rfl
  rw [ec,ep]
  cases rest with
  |nil=>
    rw [List.append_nil] at he
    rw [if_pos (by rw [he];exact Int.le_refl _)]
    refine ⟨0,Int.le_refl _,by simp,?_⟩
    have:=PhC.over (c0:=c0) (P:=P) (sm:=sm) (dp:=dp) (q:=done.length) (hd:=hd0) ho
    rw [he] at this
    exact this
  |cons x rest=>
    rw [if_neg (by rw [he];simp only [List.length_append,List.length_cons];omega)]
    have hx:(chosC c0 dp)[(done.length:Int).toNat]? =some x:=by rw [he,Int.toNat_natCast,List.getElem?_append_right (Nat.le_refl _),Nat.sub_self];rfl
    rw [hx]
    obtain ⟨m',hm'⟩:=passF_stb done 0 [] hs
    obtain ⟨J,w1,hJ,ok,hok⟩:=com_facts hm' x
    have hp:Ph lock0 lane3 2 (newX x) (passF c0 0 [] done).1 J w1 (comS (passF c0 0 [] done).1 x).2 (cntUp lane3 0+J+lenL lane3+1) ⟨newX x,2,true,true,true,0,0⟩ (passF c0 0 [] done).1 s:=by
      refine Ph.take (p:=0) (.inl ⟨rfl,rfl⟩) ?_
      obtain ⟨o0,o1,o2⟩:=ho
      exact ⟨by simpa using o0,by simpa using o1,by simpa using o2⟩
    have hc3:cntUp lane3 0=3:=by rfl
    have hl3:lenL lane3=3:=by rfl
    have:=PhC.go (P:=P) (sm:=sm) (dp:=dp) (tk:=(passF c0 0 [] done).2.1) he hJ ok hok hp (by simp) (by simp)
    refine ⟨12*rest.length+(cntUp lane3 0+J+lenL lane3+1),by omega,by simp only [List.length_cons];omega,?_⟩
    simp only [show ¬ (2:Int)≤0 by decide,if_false,List.append_nil] at this
    exact this
theorem PhC.stage {c0:Core} {P:Option Planner} {sm dp rem:Int} {f:Fill} {c:Core} {s:LockSet} {tr:List Choice} (h:PhC c0 P sm dp rem f c s tr):0≤rem∧(f.stage=7∨f.stage=8)∧f.stale=false:=by
  cases h with
  |go _ _ _ _ hp _ _=>have:=hp.left;refine ⟨by omega,.inl rfl,rfl⟩
  |over _=>exact ⟨Int.le_refl _,.inr rfl,rfl⟩
theorem PhC.step {n:Nat} {c0:Core} {m:Model} (hs:Stb n c0 m) {P:Option Planner} {sm dp rem:Int} {f:Fill} {c:Core} {s:LockSet} {tr:List Choice} (hp:PhC c0 P sm dp rem f c s tr) (h8:f.stage≠8):
    PreF f c∧waitsF f s=false∧(∃rem',0≤rem'∧rem'<rem∧PhC c0 P sm dp rem' (stepF f c s).2.1 (stepF f c s).2.2.1 (stepF f c s).2.2.2 (if (stepF f c s).1.2.1=true then tr++[(stepF f c s).1.1] else tr))∧
      ((stepF f c s).1.2.1=false→(stepF f c s).1.1=ch0∧(stepF f c s).1.2.2=false)∧(stepF f c s).2.1.taken=f.taken+(if (stepF f c s).1.2.2=true then 1 else 0)∧0≤f.taken∧f.taken≤64:=by
  have hlen:=chos_len hs dp
  cases hp with
  |over=>exact absurd rfl h8
  | @go done rest x J w1 rem h c s tk he hJ ok hok hph h3 htk=>
    have hln:done.length<(chosC c0 dp).length:=by rw [he];simp
    have hl:=hph.left
    obtain ⟨t1,t2,t3⟩:=Ph.step ok (free2 3) hph (by omega)
    have hw:=hph.waits (free2 3)
    obtain ⟨u1,u2⟩:=step_turn h c s hl.2.2.1 (by omega)
    have hx:(chosC c0 dp)[(done.length:Int).toNat]? =some x:=by rw [he,Int.toNat_natCast,List.getElem?_append_right (Nat.le_refl _),Nat.sub_self];rfl
    obtain ⟨m',hm'⟩:=passF_stb done 0 [] hs
    have hle:=passF_le done c0 0 []
    refine ⟨⟨fun h=>by simp [fillC] at h,fun h=>by simp [fillC] at h,fun _=>⟨⟨h,rfl,t1⟩,by simp only [fillC];omega,by simp only [fillC];omega,by simp only [fillC];omega⟩⟩,?_,?_⟩
    · unfold waitsF
      rw [if_neg (by simp [fillC]),if_neg (by simp [fillC]),if_pos (by simp [fillC])]
      exact hw
    rw [stepF_com rfl]
    have ec:commitO (fillC P sm dp 7 c0 done.length (some h) tk) c s=commitF (fillC P sm dp 7 c0 done.length (some h) tk) h x c s:=by
      unfold commitO
      have e1:(fillC P sm dp 7 c0 done.length (some h) tk).hand=some h:=rfl
      have e2:(fillC P sm dp 7 c0 done.length (some h) tk).choices[(fillC P sm dp 7 c0 done.length (some h) tk).pos.toNat]? =some x:=hx
      rw [e1,e2]
    rw [ec]
    have hstale:(if h.stage=1∧(done.length:Int)=0 then decide (c.P.ver≠c0.P.ver) else false)=false:=by
      split
      · rename_i hh
        have hd:done=[]:=List.length_eq_zero_iff.1 (by omega)
        have hc:=hph.held (free2 0)
        obtain ⟨_,_,_,hc⟩:=hc
        have:=hc (by omega)
        subst hd
        rw [this]
        simp [passF]
      · rfl
    have htk2:(if (stepH h c s).1=true∧(stepH h c s).2.1.W.ok=true then wr (tk+1) else tk)=(passF c0 0 [] done).2.1+(if 1≤h.stage∧(comS (passF c0 0 [] done).1 x).1=true then 1 else 0):=by
      by_cases h1:h.stage=1
      · have hk:(stepH h c s).2.1.W.ok=(comS (passF c0 0 [] done).1 x).1:=by rw [ph_turn hph h1];exact turn_ok hm' x
        rw [hk,htk]
        cases (comS (passF c0 0 [] done).1 x).1 with
        |true=>rw [if_pos ⟨by rw [t3];simp [h1],rfl⟩,if_neg (by omega),if_pos ⟨by omega,rfl⟩,wr_in (by omega)];omega
        |false=>simp
      · rw [if_neg (fun hh=>h1 (by have:=hh.1;rw [t3] at this;simpa using this)),htk]
        congr 1
        by_cases h2:2≤h.stage
        · simp [h2,show 1≤h.stage by omega]
        · simp [h2,show ¬ 1≤h.stage by omega]
    have hT:((stepH h c s).1=true)=(h.stage=1):=by rw [t3];simp
    have ef:commitF (fillC P sm dp 7 c0 done.length (some h) tk) h x c s=
        (if h.stage=1 then (x,true,(comS (passF c0 0 [] done).1 x).1) else (ch0,false,false),
         if 4≤(stepH h c s).2.1.stage then nextF (fillC P sm dp 7 c0 ((done++[x]).length:Nat) (some (stepH h c s).2.1) ((passF c0 0 [] done).2.1+(if 1≤h.stage∧(comS (passF c0 0 [] done).1 x).1=true then 1 else 0)))
         else fillC P sm dp 7 c0 done.length (some (stepH h c s).2.1) ((passF c0 0 [] done).2.1+(if 1≤h.stage∧(comS (passF c0 0 [] done).1 x).1=true then 1 else 0)),(stepH h c s).2.2.1,(stepH h c s).2.2.2):=by
      have e0:commitF (fillC P sm dp 7 c0 done.length (some h) tk) h x c s=(if (stepH h c s).1=true then (x,true,(stepH h c s).2.1.W.ok) else (ch0,false,false),
          if 4≤(stepH h c s).2.1.stage then nextF ⟨P,2,sm,dp,7,itemsC c0,c0.P.ver,chosC c0 dp,wr ((done.length:Int)+1),some (stepH h c s).2.1,(if (stepH h c s).1=true∧(stepH h c s).2.1.W.ok=true then wr (tk+1) else tk),(if h.stage=1∧(done.length:Int)=0 then decide (c.P.ver≠c0.P.ver) else false)⟩
          else ⟨P,2,sm,dp,7,itemsC c0,c0.P.ver,chosC c0 dp,done.length,some (stepH h c s).2.1,(if (stepH h c s).1=true∧(stepH h c s).2.1.W.ok=true then wr (tk+1) else tk),(if h.stage=1∧(done.length:Int)=0 then decide (c.P.ver≠c0.P.ver) else false)⟩,(stepH h c s).2.2.1,(stepH h c s).2.2.2):=rfl
      rw [e0,hstale,htk2]
      have e3:wr ((done.length:Int)+1)=((done++[x]).length:Nat):=by rw [wr_in (by omega)];simp
      rw [e3]
      congr 1
      by_cases h1:h.stage=1
      · rw [if_pos (by rw [hT];exact h1),if_pos h1,ph_turn hph h1,turn_ok hm' x]
      · rw [if_neg (by rw [hT];exact h1),if_neg h1]
    rw [ef]
    simp only []
    have htr:(if (if h.stage=1 then (x,true,(comS (passF c0 0 [] done).1 x).1) else (ch0,false,false)).2.1=true then (done++if 2≤h.stage then [x] else [])++[(if h.stage=1 then (x,true,(comS (passF c0 0 [] done).1 x).1) else (ch0,false,false)).1] else (done++if 2≤h.stage then [x] else []))=done++if 1≤h.stage then [x] else []:=by
      by_cases h1:h.stage=1
      · simp [h1]
      · by_cases h2:2≤h.stage
        · simp [h1,h2,show 1≤h.stage by omega]
        · simp [h1,h2,show ¬ 1≤h.stage by omega]
    rw [htr]
    refine ⟨?_,?_,?_,?_,?_⟩
    · by_cases h4:4≤(stepH h c s).2.1.stage
      · rw [if_pos h4]
        have h1:1≤h.stage:=by
          rcases Int.lt_or_le h.stage 1 with hh |hh
          · have:=u1 (by omega);omega
          · exact hh
        obtain ⟨q1,q2,q3⟩:=t2.told h4
        have hpf:passF c0 0 [] (done++[x])=passF (passF c0 0 [] done).1 (passF c0 0 [] done).2.1 (passF c0 0 [] done).2.2 [x]:=passF_append _ _ _ _ _
        have hp1:(passF c0 0 [] (done++[x])).1=(comS (passF c0 0 [] done).1 x).2:=by rw [hpf];simp only [passF];split<;>rfl
        have hp2:(passF c0 0 [] (done++[x])).2.1=(passF c0 0 [] done).2.1+(if 1≤h.stage∧(comS (passF c0 0 [] done).1 x).1=true then 1 else 0):=by
          rw [hpf];simp only [passF]
          cases (comS (passF c0 0 [] done).1 x).1 with
          |true=>simp [h1]
          |false=>simp
        obtain ⟨r,r1,r2,r3⟩:=phC_begin (P:=P) (sm:=sm) hs (done:=done++[x]) (rest:=rest) (by rw [he];simp) (some (stepH h c s).2.1) q3
        rw [hp1,hp2] at r3
        rw [q2,if_pos h1]
        exact ⟨r,r1,by omega,r3⟩
      · rw [if_neg h4]
        have hg:=PhC.go (P:=P) (sm:=sm) (dp:=dp) (tk:=(passF c0 0 [] done).2.1+(if 1≤h.stage∧(comS (passF c0 0 [] done).1 x).1=true then 1 else 0)) he hJ ok hok t2 (by omega) (by
          by_cases h1:1≤h.stage
          · simp [h1,u2 h1]
          · have:=u1 (by omega)
            simp [h1,show ¬ 2≤(stepH h c s).2.1.stage by omega])
        refine ⟨12*(rest.length:Int)+(rem-1),by have:=t2.left;omega,by omega,?_⟩
        · have e:(if 2≤(stepH h c s).2.1.stage then [x] else [])=(if 1≤h.stage then [x] else []):=by
            by_cases h1:1≤h.stage
            · simp [h1,u2 h1]
            · have:=u1 (by omega)
              simp [h1,show ¬ 2≤(stepH h c s).2.1.stage by omega]
          rw [e] at hg
          exact hg
    · by_cases h1:h.stage=1
      · simp [h1]
      · simp [h1]
    · rw [apply_ite Fill.taken,nextF_taken]
      simp only [fillC,ite_self]
      rw [htk]
      by_cases h1:h.stage=1
      · simp [h1]
      · by_cases h2:2≤h.stage
        · simp [h1,h2,show 1≤h.stage by omega]
        · simp [h1,h2,show ¬ 1≤h.stage by omega]
    · simp only [fillC];rw [htk];split<;>omega
    · simp only [fillC];rw [htk]
      have:done.length<64:=by omega
      split<;>omega
def PhB (c0:Core) (sm dp rem:Int) (f:Fill) (c:Core) (s:LockSet) (tr:List Choice):Prop:=
  (PhA lock0 c0 sm dp rem f s∧c=c0∧tr=[])∨ ∃P,PhC c0 P sm dp rem f c s tr∧rem≤768
theorem PhA.free {c0:Core} {sm dp rem:Int} {f:Fill} {s:LockSet} (h:PhA lock0 c0 sm dp rem f s):waitsF f s=false:=by
  cases h with
  |lj ho=>simp [waitsF,fillA,ownL,ho.1,lock0]
  |lp ho _=>simp [waitsF,fillA,ownL,ho.2.2,lock0]
  |_=>simp [waitsF,fillA]
theorem phB_start (c0:Core) (sm dp:Int):PhB c0 sm dp 1000 (fill0 2 sm dp) c0 lock0 []:= .inl ⟨.lj ⟨rfl,rfl,rfl⟩,rfl,rfl⟩
theorem PhB.step {n:Nat} {c0:Core} {m:Model} (hs:Stb n c0 m) {sm dp rem:Int} {f:Fill} {c:Core} {s:LockSet} {tr:List Choice} (hd:1≤dp∧dp≤64) (hm:1≤sm∧sm≤64) (hp:PhB c0 sm dp rem f c s tr) (h8:f.stage≠8):
    PreF f c∧waitsF f s=false∧(∃rem',0≤rem'∧rem'<rem∧PhB c0 sm dp rem' (stepF f c s).2.1 (stepF f c s).2.2.1 (stepF f c s).2.2.2 (if (stepF f c s).1.2.1=true then tr++[(stepF f c s).1.1] else tr))∧
      ((stepF f c s).1.2.1=false→(stepF f c s).1.1=ch0∧(stepF f c s).1.2.2=false)∧(stepF f c s).2.1.taken=f.taken+(if (stepF f c s).1.2.2=true then 1 else 0)∧0≤f.taken∧f.taken≤64:=by
  rcases hp with ⟨ha,rfl,rfl⟩ |⟨P,hc,h7⟩
  · have hw:=ha.free
    have hst:=ha.stage
    obtain ⟨g1,g2,g3,g4⟩:=PhA.step hs hd hm (b:=lock0) ⟨.inl rfl,.inl rfl,.inl rfl⟩ ha hw
    rw [g2,g3,hst.2.2.2.1]
    refine ⟨g1,hw,?_,fun _=>⟨rfl,rfl⟩,?_,by decide,by decide⟩
    · rcases g4 with ⟨r,r1,r2⟩ |⟨ho,_,P,hP⟩
      · have:=r2.stage
        exact ⟨r,by omega,r1,.inl ⟨r2,rfl,rfl⟩⟩
      · obtain ⟨r,r1,r2,r3⟩:=phC_begin (P:=P) (sm:=sm) (dp:=dp) hs (done:=[]) (rest:=chosC c dp) rfl none ho
        have hlen:=chos_len hs dp
        rw [hP]
        exact ⟨r,r1,by omega,.inr ⟨P,r3,by omega⟩⟩
    · rcases g4 with ⟨r,r1,r2⟩ |⟨ho,_,P,hP⟩
      · rw [r2.stage.2.2.2.1];simp
      · rw [hP,nextF_taken];simp [fillC]
  · obtain ⟨g1,g2,⟨r,r0,r1,r2⟩,g4,g5,g6,g7⟩:=PhC.step hs hc h8
    exact ⟨g1,g2,⟨r,r0,r1,.inr ⟨P,r2,by omega⟩⟩,g4,g5,g6,g7⟩
theorem PhB.last {c0:Core} {sm dp rem:Int} {f:Fill} {c:Core} {s:LockSet} {tr:List Choice} (hp:PhB c0 sm dp rem f c s tr) (h8:f.stage=8):
    c=(passF c0 0 [] (chosC c0 dp)).1∧f.taken=(passF c0 0 [] (chosC c0 dp)).2.1∧tr=chosC c0 dp∧Own lock0 s∧f.stale=false:=by
  rcases hp with ⟨ha,rfl,rfl⟩ |⟨P,hc,h7⟩
  · have:=ha.stage;omega
  · cases hc with
    |go=>simp [fillC] at h8
    |over ho=>exact ⟨rfl,rfl,rfl,ho,rfl⟩
theorem PhB.rem {c0:Core} {sm dp rem:Int} {f:Fill} {c:Core} {s:LockSet} {tr:List Choice} (hp:PhB c0 sm dp rem f c s tr):0≤rem∧0≤f.stage∧f.stage≤8∧(rem≤0→f.stage=8)∧f.stale=false:=by
  rcases hp with ⟨ha,rfl,rfl⟩ |⟨P,hc,h7⟩
  · have:=ha.stage;exact ⟨by omega,by omega,by omega,fun h=>by omega,this.2.2.2.2⟩
  · have:=hc.stage
    refine ⟨by omega,by omega,by omega,fun h=>?_,this.2.2⟩
    cases hc with
    |go _ _ _ _ hp h3 _=>have:=hp.left;omega
    |over=>rfl
end Go.Ax.Law
namespace Go.Ax.Sp
end Go.Ax.Sp
namespace Go.Ax.V
open Go.Ax.Sp Go.Ax.Law List Int IntKind
set_option maxRecDepth 100000
end Go.Ax.V
namespace Go.Ax.Law
end Go.Ax.Law
namespace Go.Ax.O
open Go.Ax.Sp Go.Ax.Law
end Go.Ax.O
namespace Go.Ax.V
open Go.Ax.Sp Go.Ax.Law List Int IntKind
set_option maxRecDepth 100000
end Go.Ax.V
namespace Go.Ax.Law
open Go.Ax.O
theorem wait_step {s0 s:LockSet} {l:Lane} {who p:Int} {w0:Work} {c:Core} (hs:HA s0 l who s p) (hf:FreeF s0 l who p) (hl:isLane l p) (ho:ownL s0 p≠0):
  stepH ⟨w0,who,l.a0,l.a1,l.a2,p,0⟩ c s=(false,⟨w0,who,l.a0,l.a1,l.a2,p,0⟩,c,s)∧waitsH ⟨w0,who,l.a0,l.a1,l.a2,p,0⟩ s=true:=by
 obtain ⟨h1,h2,h3⟩:=take_wait hs hf hl ho
 unfold stepH takeH waitsH
 rw [if_pos rfl,if_pos h1,h2]
 simp [h3]
theorem take_next {s0 s:LockSet} {l:Lane} {who p d:Int} {w0:Work} {c:Core} (hs:HA s0 l who s p) (hf:FreeF s0 l who d) (hl:isLane l p) (hpd:p<d) (hd:isLane l d):
  (∃q,isLane l q∧p<q∧q≤d∧stepH ⟨w0,who,l.a0,l.a1,l.a2,p,0⟩ c s=(false,⟨w0,who,l.a0,l.a1,l.a2,q,0⟩,c,(tryL s p who).2)∧HA s0 l who (tryL s p who).2 q)∧waitsH ⟨w0,who,l.a0,l.a1,l.a2,p,0⟩ s=false:=by
 have hpr:0≤p∧p≤2:=by unfold isLane at hl;omega
 have hft:FreeF s0 l who (p+1):=⟨hf.1,hf.2.1,hf.2.2.1,hf.2.2.2.1,fun a _=>hf.2.2.2.2.1 a (by omega),fun a _=>hf.2.2.2.2.2.1 a (by omega),fun a _=>hf.2.2.2.2.2.2 a (by omega)⟩
 obtain ⟨t1,t2⟩:=take_step hs hft hl
 have t3:=t2.skip (by omega)
 have hq:isLane l (nextL l (p+1))∧p<nextL l (p+1)∧nextL l (p+1)≤d:=by
  unfold isLane nextL at*;grind
 refine ⟨⟨nextL l (p+1),hq.1,hq.2.1,hq.2.2,?_,t3⟩,?_⟩
 ·have hq2:nextL l (p+1)≠3:=by have:=hq.1;unfold isLane at this;omega
  unfold stepH takeH wr
  rw [if_pos rfl,if_neg (by simp only [];rw [t1];simp)]
  simp only [show laneH (⟨w0,who,l.a0,l.a1,l.a2,p,0⟩:Hand)=l from rfl]
  rw [w64 (by omega),if_neg hq2]
 ·unfold waitsH
  simp [own_free hs hft hl]
end Go.Ax.Law
namespace Go.Ax.O
open Go.Ax.Sp Go.Ax.Law
end Go.Ax.O
namespace Go.Ax.Law
open Go.Ax.O
inductive PhW (b:LockSet) (c0:Core):Int→Fill→LockSet→Prop
 |pa {rem:Int} {f:Fill} {s:LockSet}:PhA b c0 3 64 rem f s→PhW b c0 rem f s
 |hd {P:Option Planner} {x:Choice} {rest:List Choice} {p:Int} {s:LockSet}:chosC c0 64=x::rest→HA b lane3 2 s p→(p=0∨p=1)→b.o0=0∧b.o2=0→PhW b c0 (10-p) (fillC P 3 64 7 c0 0 (some ⟨newX x,2,true,true,true,p,0⟩) 0) s
 |ov {P:Option Planner} {hd:Option Hand} {s:LockSet}:Own b s→b.o0=0∧b.o2=0→PhW b c0 0 (fillC P 3 64 8 c0 0 hd 0) s
def One9 (d:Int) (b:LockSet):Prop:=(d=0∧b.o0=9∧b.o1=0∧b.o2=0)∨(d=1∧b.o0=0∧b.o1=9∧b.o2=0)∨(d=2∧b.o0=0∧b.o1=0∧b.o2=9)
theorem One9.own {d:Int} {b:LockSet} (h:One9 d b):Own9 b:=by
 unfold One9 at h;unfold Own9;omega
theorem hand_pre {n:Nat} {c0:Core} {m:Model} (hs:Stb n c0 m) {P:Option Planner} {x:Choice} {rest:List Choice} {p:Int} (hx:chosC c0 64=x::rest) (hp:p=0∨p=1):
  PreF (fillC P 3 64 7 c0 0 (some ⟨newX x,2,true,true,true,p,0⟩) 0) c0:=by
 have hl:=chos_len hs 64
 have h2:=hs.len
 refine ⟨fun h=>by simp [fillC] at h,fun h=>by simp [fillC] at h,fun _=>⟨⟨_,rfl,hs.cw,newX_WW x,by omega,by simp only [];omega,by simp only [];omega,fun h=>by simp at h⟩,Int.le_refl _,?_,?_⟩⟩
 ·simp only [fillC,hx,List.length_cons];omega
 ·simp only [fillC];omega
theorem com_take {c0:Core} {P:Option Planner} {x:Choice} {rest:List Choice} {h h':Hand} {s s':LockSet} (hx:chosC c0 64=x::rest) (h0:h.stage=0) (h1:h'.stage=0) (he:stepH h c0 s=(false,h',c0,s')):
  stepF (fillC P 3 64 7 c0 0 (some h) 0) c0 s=((ch0,false,false),fillC P 3 64 7 c0 0 (some h') 0,c0,s'):=by
 rw [stepF_com rfl]
 have ec:commitO (fillC P 3 64 7 c0 0 (some h) 0) c0 s=commitF (fillC P 3 64 7 c0 0 (some h) 0) h x c0 s:=by
  unfold commitO
  have e1:(fillC P 3 64 7 c0 0 (some h) 0).hand=some h:=rfl
  have e2:(fillC P 3 64 7 c0 0 (some h) 0).choices[(fillC P 3 64 7 c0 0 (some h) 0).pos.toNat]? =some x:=by simp [fillC,hx]
  rw [e1,e2]
 rw [ec]
 unfold commitF
 simp only [he,h0,h1,fillC]
 simp
theorem nextF_zero (P:Option Planner) (sm dp:Int) (c0:Core):nextF (fillC P sm dp 7 c0 0 none 0)=match chosC c0 dp with | []=>fillC P sm dp 8 c0 0 none 0 |x::_=>fillC P sm dp 7 c0 0 (some ⟨newX x,2,true,true,true,0,0⟩) 0:=by
 unfold nextF fillC
 cases hc:chosC c0 dp with
 |nil=>simp
 |cons x r=>simp [newH,nextL,lane3]
theorem PhW.rem {b:LockSet} {c0:Core} {rem:Int} {f:Fill} {s:LockSet} (h:PhW b c0 rem f s):0≤rem∧f.taken=0:=by
 cases h with
 |pa h=>have:=h.stage;exact ⟨by omega,this.2.2.2.1⟩
 |hd _ _ hp _=>exact ⟨by omega,rfl⟩
 |ov=>exact ⟨by omega,rfl⟩
theorem PhW.step {n:Nat} {d:Int} {b:LockSet} {c0:Core} {m:Model} (hs:Stb n c0 m) (hb:One9 d b) {rem:Int} {f:Fill} {s:LockSet} (h:PhW b c0 rem f s) (h8:f.stage≠8) (hw:waitsF f s=false):
  PreF f c0∧(stepF f c0 s).2.2.1=c0∧ ∃rem',rem'<rem∧PhW b c0 rem' (stepF f c0 s).2.1 (stepF f c0 s).2.2.2:=by
 cases h with
 |ov=>exact absurd rfl h8
 |pa ha=>
  obtain ⟨g1,g2,g3,g4⟩:=PhA.step hs (by decide) (by decide) hb.own ha hw
  refine ⟨g1,g3,?_⟩
  rcases g4 with ⟨r,r1,r2⟩ |⟨ho,hb0,P,hP⟩
  ·exact ⟨r,r1,.pa r2⟩
  ·have hst:=ha.stage
   rw [hP,nextF_zero]
   cases hc:chosC c0 64 with
   |nil=>exact ⟨0,by omega,.ov (P:=P) (hd:=none) ho hb0⟩
   |cons x rest=>
    refine ⟨10-0,by omega,?_⟩
    refine PhW.hd (b:=b) (P:=P) (s:=(stepF f c0 s).2.2.2) hc (p:=0) ?_ (.inl rfl) hb0
    obtain ⟨o0,o1,o2⟩:=ho
    exact ⟨by simpa using o0,by simpa using o1,by simpa using o2⟩
 | @hd P x rest p s hx ha hp hb0=>
  have hb1:b.o1=9:=by unfold One9 at hb;omega
  have hf:FreeF b lane3 2 1:=by
   have:=hb.own
   unfold Own9 at this
   exact ⟨by decide,by omega,by omega,by omega,fun _ _=>hb0.1,fun _ h=>absurd h (by decide),fun _ h=>absurd h (by decide)⟩
  refine ⟨hand_pre hs hx hp,?_⟩
  rcases hp with rfl |rfl
  ·obtain ⟨⟨q,q1,q2,q3,q4,q5⟩,_⟩:=take_next (w0:=newX x) (c:=c0) ha hf (.inl ⟨rfl,rfl⟩) (by decide) (.inr (.inl ⟨rfl,rfl⟩))
   have hq:q=1:=by omega
   subst hq
   rw [com_take (h:=⟨newX x,2,true,true,true,0,0⟩) hx rfl rfl q4]
   exact ⟨rfl,10-1,by decide,.hd hx q5 (.inr rfl) hb0⟩
  ·have hw1:=(wait_step (w0:=newX x) (c:=c0) ha hf (.inr (.inl ⟨rfl,rfl⟩)) (by simp [ownL,hb1])).2
   have:waitsF (fillC P 3 64 7 c0 0 (some ⟨newX x,2,true,true,true,1,0⟩) 0) s=true:=hw1
   rw [hw] at this;cases this
end Go.Ax.Law
namespace Go.Ax.Sp
def sFillA:Sig:=⟨[(.int .i64,false),(.imm .deed,false),(.int .i64,false),(.int .i64,false)],[.bool]⟩
def oFillA:sFillA.Out:=fun _ k=>k () (true,())
def lAwFi:LoopAnn:={X:=Core × Fill × LockSet × Int,live:=fun x=>[(1,.ptr ⟨0,0,0,0⟩),(3,.ptr ⟨1,0,0,0⟩),(5,.ptr ⟨2,0,0,0⟩),(6,.int .i64 x.2.2.2)],heap:=fun x=>[some (.obj .core x.1),some (.obj .fill x.2.1),some (.obj .lockSet x.2.2.1)],norm:=[.fold 0 .core,.fold 1 .fill,.fold 2 .lockSet]}
def lFillA1:LoopAnn:={X:=Int × Fill × Core × Core × LockSet × List Choice × Int × Int,live:=fun x=>[(3,.int .i64 x.1),(9,.ptr ⟨0,0,0,0⟩),(10,.int .i64 0),(11,.ptr ⟨1,0,0,0⟩),(12,.ptr ⟨2,0,0,0⟩),(13,.ptr ⟨3,0,0,0⟩),(14,.sl 4 2 0 x.2.2.2.2.2.1.length),(15,.int .i64 x.2.2.2.2.2.2.1),(16,.int .i64 x.2.2.2.2.2.2.2)],heap:=fun x=>[some (.obj .fill x.2.1),some (.obj .sched ⟨x.2.2.1⟩),some (.obj .sched ⟨x.2.2.2.1⟩),some (.obj .lockSet x.2.2.2.2.1),some (.row .choice x.2.2.2.2.2.1)],norm:=[.fold 0 .fill,.fold 1 .sched,.fold 2 .sched,.fold 3 .lockSet,.row 14 .choice,.home 14 4]}
def lFillA2:LoopAnn:={X:=Core × Core × List Choice × List Choice × Int × List Int × Int,live:=fun x=>[(11,.ptr ⟨1,0,0,0⟩),(12,.ptr ⟨2,0,0,0⟩),(14,.sl 4 2 0 x.2.2.1.length),(20,.ptr ⟨7,0,0,0⟩),(22,.int .i64 x.2.2.2.2.2.2)],heap:=fun x=>[none,some (.obj .sched ⟨x.1⟩),some (.obj .sched ⟨x.2.1⟩),none,some (.row .choice x.2.2.1),some (.row .choice x.2.2.2.1),some (.row .i64 x.2.2.2.2.2.1),some (.raw [.sl 5 2 0 x.2.2.2.1.length,.int .i64 x.2.2.2.2.1,.sl 6 1 0 x.2.2.2.2.2.1.length])],norm:=[.fold 1 .sched,.fold 2 .sched]}
end Go.Ax.Sp
namespace Go.Ax.V
open Go.Ax.Sp Go.Ax.Law List Int IntKind
set_option maxRecDepth 100000
def vAwakeFi (u:Unit) (k:Unit→Bool × Unit→Prop):Prop:=
SH ((1:Int)≤1∧(1:Int)≤1∧(1:Int)≤64∧(1:Int)≤9∧(9:Int)≤64) fun s0=>SH ((1:Int)<1∨(1:Int)<1∨(64:Int)<1∨(9:Int)<1∨(64:Int)<9) fun s1=>SH (k () (false,())) fun s2=>((3:Int)<1∨(64:Int)<3→(s1→s2)∧(s0→s2))∧((1:Int)≤3∧(3:Int)≤64→(s1→s2)∧(s0→LP (Core × Fill × LockSet × Int) (fun x=>((0:Nat)=0∧(0:Nat)=0∧(0:Nat)=0∧0=x.2.2.2∧True)∧newCore 3=x.1∧fill0 (1:Int) (1:Int) 9=x.2.1∧LockSet.mk (0:Int) (0:Int) (0:Int) 0=x.2.2.1∧True) fun I m x=>SH (stepF x.2.1 x.1 x.2.2.1).2 fun s3=>br (decide (x.2.2.2<7)) (br (!stageF (some x.2.1)==x.2.2.2) s2 (PreF x.2.1 x.1∧NM (x.2.2.2+1) fun n=>NX I m x fun y=>((0:Nat)=0∧(0:Nat)=0∧(0:Nat)=0∧n=y.2.2.2∧True)∧s3.2.1=y.1∧s3.1=y.2.1∧s3.2.2=y.2.2.1∧True)) (br (stageF (some x.2.1)==8) (k () (idleL x.2.2.1,())) s2)))
end Go.Ax.V
namespace Go.Ax.V
open Go.Ax.Sp Go.Ax.Law List Int IntKind
set_option maxRecDepth 100000
end Go.Ax.V
namespace Go.Ax.Law
def awF (P:Option Planner) (st v:Int):Fill:=⟨P,1,1,9,st,[],v,[],0,none,0,false⟩
def awPl:Option Planner:=some ⟨(newCore 3).P,[],0,[]⟩
def awS:Nat→Fill × LockSet
  |0=>(awF none 0 0,⟨0,0,0,0⟩)
  |1=>(awF none 1 0,⟨1,0,0,1⟩)
  |2=>(awF none 2 0,⟨1,0,0,1⟩)
  |3=>(awF none 3 0,⟨0,0,0,1⟩)
  |4=>(awF none 4 0,⟨0,0,1,2⟩)
  |5=>(awF awPl 5 (newCore 3).P.ver,⟨0,0,1,2⟩)
  |6=>(awF awPl 6 (newCore 3).P.ver,⟨0,0,0,2⟩)
  |_=>(awF awPl 8 (newCore 3).P.ver,⟨0,0,0,2⟩)
theorem aw_step {i:Nat} (h:i<7):(awS i).1.stage=i∧PreF (awS i).1 (newCore 3)∧stepF (awS i).1 (newCore 3) (awS i).2=((ch0,false,false),(awS (i+1)).1,newCore 3,(awS (i+1)).2):=by
  have hst:=new_stb (n:=3) (by decide) (by decide)
  have hcw:CW (newCore 3):=hst.cw
  have hi:i=0∨i=1∨i=2∨i=3∨i=4∨i=5∨i=6:=by omega
  have np: ∀(P:Option Planner) (st v:Int),st≠1→st≠4→st≠6→st≠7→PreF (awF P st v) (newCore 3):=fun P st v h1 h4 h6 h7=>
    ⟨fun h => by rcases h with h |h;· exact absurd h h1
                 · exact absurd h h4,fun h=>absurd h h6,fun h=>absurd h h7⟩
  have cp: ∀(P:Option Planner) (st v:Int),st≠6→st≠7→PreF (awF P st v) (newCore 3):=fun P st v h6 h7=>
    ⟨fun _=>⟨hcw,by simp [awF],by simp [awF]⟩,fun h=>absurd h h6,fun h=>absurd h h7⟩
  rcases hi with rfl |rfl |rfl |rfl |rfl |rfl |rfl
  · exact ⟨rfl,np _ _ _ (by decide) (by decide) (by decide) (by decide),by rfl⟩
  · refine ⟨rfl,cp _ _ _ (by decide) (by decide),?_⟩
    have hi:itemsC (newCore 3)=[]:=by simp [itemsC,waitC,newCore,inJ,sortJ,newJs]
    have e:copyF (awF none 1 0) (newCore 3)={awF none 1 0 with items:=itemsC (newCore 3),stage:=wr (1+1)}:=if_pos rfl
    show stepF (awF none 1 0) (newCore 3) ⟨1,0,0,1⟩=_
    rw [stepF_copy (.inl rfl),e,hi]
    rfl
  · exact ⟨rfl,np _ _ _ (by decide) (by decide) (by decide) (by decide),by rfl⟩
  · exact ⟨rfl,np _ _ _ (by decide) (by decide) (by decide) (by decide),by rfl⟩
  · exact ⟨rfl,cp _ _ _ (by decide) (by decide),by rfl⟩
  · exact ⟨rfl,np _ _ _ (by decide) (by decide) (by decide) (by decide),by rfl⟩
  · refine ⟨rfl,⟨fun h=>by rcases h with h |h<;>exact absurd h (by decide),fun _=>⟨⟨_,rfl,prof_pre hst 0 (by decide),by simp,by simp,by simp,by simp,rfl⟩,rfl⟩,fun h=>absurd h (by decide)⟩,by rfl⟩
end Go.Ax.Law
namespace Go.Ax.O
open Go.Ax.Sp Go.Ax.Law
theorem vAwakeFi {u:Unit} {k:Unit→Bool × Unit→Prop} (h:oYes u k):V.vAwakeFi u k:=by
  have h:k () (true,()):=h
  unfold V.vAwakeFi V.LP V.NX V.NM V.SH
  refine ⟨fun hh=>absurd hh (by decide),fun _=>⟨fun hh=>absurd hh (by decide),fun _=>?_⟩⟩
  refine ⟨fun x=>x.1=newCore 3∧ ∃i:Nat,i≤7∧x.2.2.2=i∧x.2.1=(awS i).1∧x.2.2.1=(awS i).2,fun x=>(7-x.2.2.2).toNat,(newCore 3,(awS 0).1,(awS 0).2,0),⟨rfl,0,by omega,rfl,rfl,rfl⟩,⟨⟨rfl,rfl,rfl,rfl,trivial⟩,rfl,rfl,rfl,trivial⟩,?_⟩
  rintro ⟨c,f,s,j⟩ ⟨e0,i,hi,e1,e2,e3⟩
  simp only [] at e0 e1 e2 e3
  subst e0 e1 e2 e3
  refine br_dec (fun g=>?_) (fun g=>?_)
  · have g:(i:Int)<7:=g
    obtain ⟨g1,g2,g3⟩:=aw_step (i:=i) (by omega)
    refine br_ne (fun hh=>absurd g1 hh) (fun _=>⟨g2,fun n hn=>?_⟩)
    rw [w64 (by simp only [];omega)] at hn
    subst hn
    rw [g3]
    exact ⟨(newCore 3,(awS (i+1)).1,(awS (i+1)).2,(i:Int)+1),⟨rfl,i+1,by omega,rfl,rfl,rfl⟩,⟨⟨rfl,rfl,rfl,rfl,trivial⟩,rfl,rfl,rfl,trivial⟩,by simp only [];omega⟩
  · have g: ¬ (i:Int)<7:=g
    have hi:i=7:=by omega
    subst hi
    exact br_eq (fun _=>h) (fun hh=>absurd rfl hh)
end Go.Ax.O

