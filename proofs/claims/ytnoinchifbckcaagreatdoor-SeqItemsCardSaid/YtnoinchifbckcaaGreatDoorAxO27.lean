import Derived.Test.YtnoinchifbckcaaGreatDoorAxO26
import Derived.Test.YtnoinchifbckcaaGreatDoorAxV10
set_option linter.all false
namespace Go.Ax.Law
theorem Stb.mw {n:Nat} {c:Core} {m:Model} (h:Stb n c m):MW m:=by
 have hd:=h.rep.deep
 have hL:=h.rep.jobs
 have hn:=h.rep.now
 have hl:=h.rep.len
 refine ⟨by rw [hL];exact hd.cw.1.2.1,by have:=hd.n1;omega,by have:=hd.n64;omega,by rw [hn];exact hd.nw.1,by rw [hn];exact hd.nw.2,fun j hj=>?_⟩
 rw [hL] at hj
 have hok:=hd.jobs j hj
 have h1:=hok.st;have h2:=hok.wd;have h3:=hok.lm;have h4:=hok.pl;have h5:=hok.en;have h6:=hd.nw;have h7:=hd.n64
 exact ⟨hok.un,h1.1,h1.2,by omega,by omega,by omega,by omega,by omega,by omega,h5.1,h5.2⟩
theorem Stb.cw {n:Nat} {c:Core} {m:Model} (h:Stb n c m):CW c:=h.rep.deep.cw
theorem Stb.len {n:Nat} {c:Core} {m:Model} (h:Stb n c m):c.P.steps.length≤3073:=h.rep.deep.len
theorem whole_do {n:Nat} {c:Core} {m:Model} (h:Stb n c m) (r:Req):1≤(wholeW (newW r) c).1∧(wholeW (newW r) c).2.1.done=true∧(wholeW (newW r) c).2.1.ok=false∧(wholeW (newW r) c).2.1.reply=(doM m r).1∧Stb n (wholeW (newW r) c).2.2 (doM m r).2:=by
 obtain ⟨k,w',c',h1,h2,h3,h4,_,h5⟩:=do_done h r
 have hw:=h2.whole 1999 1 (by omega)
 unfold wholeW
 rw [hw]
 have:=h2.pos
 exact ⟨by simp only [];omega,h2.done,h3,h4,h5⟩
theorem whole_commit {n:Nat} {c:Core} {m:Model} (h:Stb n c m) (x:Choice):1≤(wholeW (newX x) c).1∧(wholeW (newX x) c).2.1.done=true∧(wholeW (newX x) c).2.1.ok=(commitM m x).1∧Stb n (wholeW (newX x) c).2.2 (commitM m x).2∧fitsC c x=(commitM m x).1:=by
 obtain ⟨⟨k,w',c',h1,h2,h3,_,h5⟩,h6⟩:=commit_done h x
 have hw:=h2.whole 1999 1 (by omega)
 unfold wholeW
 rw [hw]
 have:=h2.pos
 exact ⟨by simp only [];omega,h2.done,h3,h5,h6⟩
end Go.Ax.Law
namespace Go.Ax.O
open Go.Ax.Sp Go.Ax.Law
theorem vDoP {c:Core} {m:Model} {d:Deed} {k:Core × Model × Unit→Bool × Unit→Prop} (h:oDoP (c,m,d,()) k):V.vDoP c m d k:=by
 obtain ⟨⟨n,hs⟩,hk⟩:=h
 have hs:Stb n c m:=hs
 have hk:k (doD c d,doDM m d,()) (true,()):=hk
 have hl:=hs.len
 unfold V.vDoP
 simp only [tk_eq,tkset,Nat.zero_add,Nat.le_refl,true_and,and_true,List.length_set]
 unfold doD doDM deedW at hk
 refine br_bool (fun hc=>?_) (fun hc=>?_)
 ·rw [if_pos hc,if_pos hc] at hk
  obtain ⟨a1,a2,a3,a4,a5⟩:=whole_commit hs d.X
  refine ⟨⟨hs.cw,by omega⟩,⟨hs.cw,newX_WW _,by omega⟩,hs.mw,br_dec (fun _=>br_bool (fun _=>br_bool (fun _=>?_) (fun hh=>?_)) (fun hh=>?_)) (fun hh=>by omega)⟩
  ·rw [a5];simpa using hk
  ·rw [a3] at hh;simp at hh
  ·have hh:(wholeW (newX d.X) c).2.1.done=false:=hh
   rw [a2] at hh;cases hh
 ·rw [if_neg (by rw [hc];decide),if_neg (by rw [hc];decide)] at hk
  obtain ⟨a1,a2,a3,a4,a5⟩:=whole_do hs d.R
  refine ⟨⟨hs.cw,newW_WW _,by omega⟩,br_dec (fun _=>br_bool (fun _=>⟨hs.mw,br_bool (fun _=>?_) (fun hh=>?_)⟩) (fun hh=>?_)) (fun hh=>by omega)⟩
  ·rw [a3];exact hk
  ·rw [a4] at hh;simp at hh
  ·have hh:(wholeW (newW d.R) c).2.1.done=false:=hh
   rw [a2] at hh;cases hh
theorem vUnlike {c:Core} {m:Model} {k:Unit→Int × Unit→Prop} (h:oUnlike (c,m,()) k):V.vUnlike c m k:=by
 obtain ⟨⟨n,hs⟩,hk⟩:=h
 have hs:Stb n c m:=hs
 have hk:k () (0,()):=hk
 have hl:=hs.len
 have hcw:=hs.cw
 have hm:=hs.mw
 have hd:=hs.rep.deep
 unfold V.vUnlike
 simp only [tk_eq,tkset,Nat.zero_add,Nat.le_refl,true_and,and_true,List.length_set]
 have hjl:=hcw.1.2.1
 have hn:nowL c.P.steps=m.Now:=hs.rep.now.symm
 have hsz:lenS c.N.all=m.Drain.length:=by rw [hd.size,hs.rep.len]
 refine ⟨hcw.2.2,br_ne (fun hh=>absurd hn hh) (fun _=>br_not (fun hh=>?_) (fun _=>⟨hcw.2.1,br_ne (fun hh=>absurd hsz hh) (fun _=>⟨hcw.1,by omega,br_not (fun hh=>?_) (fun _=>⟨hcw.2.2,hm,by omega,br_not (fun hh=>?_) (fun _=>?_)⟩)⟩)⟩))⟩
 ·have:closedC (some c)=m.Closed:=hs.rep.closed.symm
  rw [this] at hh;simp at hh
 ·rw [←hs.rep.jobs,sameJ_iff.2 rfl] at hh;cases hh
 ·rw [hs.rep.steps,sameS_iff.2 rfl] at hh;cases hh
 ·have hdl:=hm.2.2.1
  refine ⟨fun x=>x.1=c∧x.2.1=m∧x.2.2.1=0∧0≤x.2.2.2∧x.2.2.2≤m.Drain.length,fun x=>(m.Drain.length-x.2.2.2).toNat,(c,m,0,0),⟨rfl,rfl,rfl,Int.le_refl _,by simp⟩,by simp,?_⟩
  rintro ⟨c',m',b,i⟩ ⟨g1,g2,g3,g4,g5⟩
  simp only [] at g1 g2 g3 g4 g5
  subst g1 g2 g3
  dsimp only
  refine br_dec (fun hi=>⟨hcw.2.1,hm,br_ne (fun hh=>absurd (hs.rep.state i).symm hh) (fun _ q hq=>?_)⟩) (fun _=>hk)
  rw [w64 (by omega)] at hq
  subst hq
  exact ⟨(c',m',0,i+1),⟨rfl,rfl,rfl,by simp only [];omega,by simp only [];omega⟩,by simp,by simp only [];omega⟩
theorem vPlays {n:Int} {l:List Deed} {k:Unit→Bool × Unit→Prop} (h:oPlays (n,l,()) k):V.vPlays n l k:=by
 have hk:k () (true,()):=h
 unfold V.vPlays
 simp only [tk_eq,tkset,Nat.zero_add,Nat.le_refl,true_and,and_true,List.length_set]
 refine ⟨fun hn=>br_dec (fun _=>hk) (fun h1=>br_dec (fun _=>hk) (fun h2=>by omega)),fun hn=>br_dec (fun _=>by omega) (fun h1=>br_dec (fun _=>by omega) (fun h2=>⟨⟨by omega,by omega⟩,?_⟩))⟩
 obtain ⟨N,rfl⟩:=Int.eq_ofNat_of_zero_le (show 0≤n by omega)
 have hs:=new_stb (n:=N) (by omega) (by omega)
 have hll:=List.length_take_le 60 l
 generalize List.take 60 l=L at*
 refine ⟨fun x=>x.1=L∧Stb N x.2.1 x.2.2.1∧0≤x.2.2.2∧x.2.2.2≤L.length,fun x=>(L.length-x.2.2.2).toNat,(L,newCore N,newM N,0),⟨rfl,hs,Int.le_refl _,by simp⟩,by simp,?_⟩
 rintro ⟨L',c,m,i⟩ ⟨g1,g2,g3,g4⟩
 simp only [] at g1 g2 g3 g4
 subst g1
 dsimp only
 refine br_dec (fun hi=>⟨⟨g3,hi⟩,fun e he=>⟨⟨N,g2⟩,⟨N,deed_stb g2 e⟩,fun q hq=>?_⟩⟩) (fun _=>hk)
 rw [w64 (by omega)] at hq
 subst hq
 exact ⟨(L',doD c e,doDM m e,i+1),⟨rfl,deed_stb g2 e,by simp only [];omega,by simp only [];omega⟩,by simp,by simp only [];omega⟩
end Go.Ax.O
