import Derived.Test.YtnoinchifbckcaaGreatDoorAxO28
import Derived.Test.YtnoinchifbckcaaGreatDoorAxV13
set_option linter.all false
namespace Go.Ax.Law
theorem OkS.step {c:Core} (h:OkS c) (r:Req):OkS (doS c r).2:=by
 obtain ⟨n,m,h⟩:=h
 exact ⟨_,_,(doS_stb h r).2⟩
theorem OkS.cw {c:Core} (h:OkS c):CW c:=by obtain ⟨n,m,h⟩:=h;exact h.cw
theorem OkS.len {c:Core} (h:OkS c):c.P.steps.length≤3073:=by obtain ⟨n,m,h⟩:=h;exact h.len
theorem allQ_ok: ∀(l:List Req) {c:Core},OkS c→OkS (allQ c l).2
 | [],_,h=>h
 |r::l,_,h=>allQ_ok l (h.step r)
theorem allQ_len: ∀(l:List Req) (c:Core),(allQ c l).1.length=l.length
 | [],_=>rfl
 |r::l,c=>by simp only [allQ,List.length_cons,allQ_len l]
theorem allQ_snoc: ∀(l:List Req) (c:Core) (e:Req),allQ c (l++[e])=((allQ c l).1++[(doS (allQ c l).2 e).1],(doS (allQ c l).2 e).2)
 | [],_,_=>rfl
 |r::l,c,e=>by
  simp only [List.cons_append,allQ,allQ_snoc l]
theorem allQ_get: ∀(l:List Req) (c:Core) (i:Nat) (a:Reply) (e:Req),(allQ c l).1[i]? =some a→l[i]? =some e→a=(doS (allQ c (l.take i)).2 e).1
 | [],_,_,_,_,_,h=>by simp at h
 |r::l,c,0,a,e,h1,h2=>by
  simp only [allQ,List.getElem?_cons_zero,Option.some.injEq] at h1 h2
  subst h1 h2;rfl
 |r::l,c,i+1,a,e,h1,h2=>by
  simp only [allQ,List.getElem?_cons_succ] at h1 h2
  simp only [List.take_succ_cons,allQ]
  exact allQ_get l _ i a e h1 h2
end Go.Ax.Law
namespace Go.Ax.O
open Go.Ax.Sp Go.Ax.Law
theorem vAllQ {s:Sched} {l:List Req} {k:Sched × Unit→List Reply × Unit→Prop} (h:oAllQ (s,l,()) k):V.vAllQ s l k:=by
 obtain ⟨⟨hok,hl⟩,hk⟩:=h
 have hok:OkS s.C:=hok
 have hl:l.length≤4294967296:=hl
 have hk:k (⟨(allQ s.C l).2⟩,()) ((allQ s.C l).1,()):=hk
 unfold V.vAllQ
 simp only [tk_eq,Nat.zero_add,Nat.le_refl,true_and,and_true]
 refine ⟨fun x=>x.2.1=l∧0≤x.2.2.2∧x.2.2.2≤l.length∧x.1=(allQ s.C (l.take x.2.2.2.toNat)).2∧x.2.2.1=(allQ s.C (l.take x.2.2.2.toNat)).1,fun x=>(l.length-x.2.2.2).toNat,(s.C,l,[],0),⟨rfl,Int.le_refl _,by simp,rfl,rfl⟩,by simp,?_⟩
 rintro ⟨c,l',o,i⟩ ⟨g1,g2,g3,g4,g5⟩
 simp only [] at g1 g2 g3 g4 g5
 subst g1 g4 g5
 obtain ⟨i,rfl⟩:=Int.eq_ofNat_of_zero_le g2
 simp only [Int.toNat_natCast]
 have hlen:=allQ_len (l'.take i) s.C
 have htk:=List.length_take_le i l'
 refine br_dec (fun hi=>⟨⟨g2,hi⟩,fun e he=>⟨allQ_ok _ hok,by omega,fun q hq=>?_⟩⟩) (fun hi=>?_)
 ·rw [w64 (by omega)] at hq
  subst hq
  have ht:l'.take (i+1)=l'.take i++[e]:=by rw [List.take_add_one,he];rfl
  have hn:((i:Int)+1).toNat=i+1:=by omega
  refine ⟨((allQ s.C (l'.take (i+1))).2,l',(allQ s.C (l'.take (i+1))).1,(i:Int)+1),⟨rfl,by simp only [];omega,by simp only [];omega,by simp only [hn],by simp only [hn]⟩,?_,by simp only [];omega⟩
  simp only [true_and,ht,allQ_snoc,List.length_append,List.length_cons,List.length_nil,and_self]
 ·rw [List.take_of_length_le (by omega)];exact hk
theorem items_loop {nn:Int} {k:Unit→Bool × Unit→Prop} {c:Core} {R:List Req} (hok:OkS c) (hk:k () (true,())) (hR:R.length≤20):
  ∃(I:List Req × Core × Core × List Reply × Int→Prop),∃(m:List Req × Core × Core × List Reply × Int→Nat),∃(x:List Req × Core × Core × List Reply × Int),I x∧((R=x.1∧(allQ c R).1.length=x.2.2.2.1.length∧0=x.2.2.2.2)∧Sched.mk (allQ c R).2=Sched.mk x.2.1∧Sched.mk c=Sched.mk x.2.2.1∧(allQ c R).1=x.2.2.2.1)∧ ∀(x:List Req × Core × Core × List Reply × Int),I x→br (decide (x.2.2.2.2<(x.1.length:Int))) (V.vSeqItems_1 nn k I m x) (V.vSeqItems_2 k x):=by
 refine ⟨fun x=>x.1=R∧x.2.1=(allQ c R).2∧x.2.2.2.1=(allQ c R).1∧0≤x.2.2.2.2∧x.2.2.2.2≤R.length∧x.2.2.1=(allQ c (R.take x.2.2.2.2.toNat)).2,fun x=>(R.length-x.2.2.2.2).toNat,(R,(allQ c R).2,c,(allQ c R).1,0),⟨rfl,rfl,rfl,Int.le_refl _,by simp,rfl⟩,by simp,?_⟩
 rintro ⟨R',s,t,a,i⟩ ⟨g1,g2,g3,g4,g5,g6⟩
 simp only [] at g1 g2 g3 g4 g5 g6
 subst g1 g2 g3 g6
 obtain ⟨i,rfl⟩:=Int.eq_ofNat_of_zero_le g4
 have hlen:=allQ_len R' c
 refine br_dec (fun hi=>?_) (fun hi=>?_)
 ·have hi:(i:Int)<(R'.length:Int):=hi
  unfold V.vSeqItems_1
  simp only [Nat.zero_add,Int.toNat_natCast,true_and,and_true]
  refine ⟨⟨g4,by omega⟩,by omega,fun e he=>⟨⟨g4,hi⟩,fun r hr=>⟨allQ_ok _ hok,br_not (fun hh=>?_) (fun _ q hq=>?_)⟩⟩⟩
  ·have:=allQ_get R' c i e r he hr
   rw [this] at hh
   simp at hh
  ·rw [w64 (by omega)] at hq
   subst hq
   have hn:((i:Int)+1).toNat=i+1:=by omega
   have ht:R'.take (i+1)=R'.take i++[r]:=by rw [List.take_add_one,hr];rfl
   exact ⟨(R',(allQ c R').2,(allQ c (R'.take (i+1))).2,(allQ c R').1,(i:Int)+1),⟨rfl,rfl,rfl,by simp only [];omega,by simp only [];omega,by simp only [hn]⟩,by simp [ht,allQ_snoc],by simp only [];omega⟩
 ·have hi: ¬ (i:Int)<(R'.length:Int):=hi
  unfold V.vSeqItems_2
  simp only [Int.toNat_natCast,tk_eq,Nat.zero_add,Nat.le_refl,true_and,and_true]
  rw [List.take_of_length_le (by omega)]
  have ho:=allQ_ok R' hok
  have hc:=ho.cw
  have hl:=ho.len
  have hj:=hc.1.2.1
  exact ⟨hc.1,hc.1,by omega,br_bool (fun _=>⟨hc.2.2,hc.2.2,by omega,br_bool (fun _=>hk) (fun hh=>by rw [sameS_iff.2 rfl] at hh;cases hh)⟩) (fun hh=>by rw [sameJ_iff.2 rfl] at hh;cases hh)⟩
theorem vSeqItems {n:Int} {l:List Deed} {r:List Req} {k:Unit→Bool × Unit→Prop} (h:oSeqItems (n,l,r,()) k):V.vSeqItems n l r k:=by
 have hk:k () (true,()):=h
 have e20:List.drop (Int.toNat 0) (List.take (Int.toNat 20) r)=r.take 20:=rfl
 unfold V.vSeqItems
 simp only [tk_eq,Nat.zero_add,Nat.le_refl,true_and,and_true]
 refine ⟨fun _=>hk,fun hn=>?_⟩
 have hs:=madeS_stb hn.1 hn.2 l
 generalize madeS n l=c at*
 have hok:OkS c:=⟨_,_,hs⟩
 have hcw:=hs.cw
 have hw:=wait_len hcw
 have hwc:sortJ (inJ c.J.jobs [1])=waitC c:=rfl
 simp only [hwc] at hw ⊢
 generalize waitC c=W at*
 refine ⟨hcw.1,hcw,hw,br_ne (fun hh=>absurd (by simp) hh) (fun _=>br_ne (fun hh=>absurd (by simp) hh) (fun _=>?_))⟩
 refine ⟨fun x=>x.1=r∧x.2.1=c∧x.2.2.1=W∧x.2.2.2.1=W.map itemJ∧x.2.2.2.2.1=W.map itemJ∧0≤x.2.2.2.2.2∧x.2.2.2.2.2≤W.length,fun x=>(W.length-x.2.2.2.2.2).toNat,(r,c,W,W.map itemJ,W.map itemJ,0),⟨rfl,rfl,rfl,rfl,rfl,Int.le_refl _,by simp⟩,by simp,?_⟩
 rintro ⟨r',c',W',x',y',i⟩ ⟨g1,g2,g3,g4,g5,g6,g7⟩
 simp only [] at g1 g2 g3 g4 g5 g6 g7
 subst g1 g2 g3 g4 g5
 obtain ⟨i,rfl⟩:=Int.eq_ofNat_of_zero_le g6
 simp only [Int.toNat_natCast]
 refine br_dec (fun hi=>?_) (fun hi=>br_dec (fun h20=>?_) (fun h20=>?_))
 ·refine ⟨⟨g6,hi⟩,by omega,fun e he=>⟨⟨g6,hi⟩,by omega,fun e1 he1=>⟨⟨g6,hi⟩,by omega,fun e2 he2=>⟨⟨g6,hi⟩,by omega,fun e3 he3=>?_⟩⟩⟩⟩
  rw [he] at he1 he2 he3
  cases he1;cases he2;cases he3
  have hm:(W'.map itemJ)[i]? =some (itemJ e):=by rw [List.getElem?_map,he];rfl
  refine ⟨⟨g6,by simpa using hi⟩,by simp;omega,fun e4 he4=>br_not (fun hh=>?_) (fun _=>⟨⟨g6,by simpa using hi⟩,by simp;omega,fun e5 he5=>br_not (fun hh=>?_) (fun _ q hq=>?_)⟩)⟩
  ·rw [hm] at he4;cases he4;simp [itemJ] at hh
  ·rw [hm] at he5;cases he5;simp [itemJ] at hh
  ·rw [w64 (by omega)] at hq
   subst hq
   exact ⟨(r',c',W',W'.map itemJ,W'.map itemJ,(i:Int)+1),⟨rfl,rfl,rfl,rfl,rfl,by simp only [];omega,by simp only [];omega⟩,by simp,by simp only [];omega⟩
 ·simp only [e20]
  have h20:(20:Int)<r'.length:=h20
  have hlt:=List.length_take_le 20 r'
  have hal:=allQ_len (r'.take 20) c'
  exact ⟨⟨Int.le_refl _,by decide,by omega⟩,hcw,⟨hok,by omega⟩,br_ne (fun hh=>absurd (by omega) hh) (fun _=>items_loop (nn:=n) hok hk hlt)⟩
 ·have hal:=allQ_len r' c'
  exact ⟨hcw,⟨hok,by omega⟩,br_ne (fun hh=>absurd (by omega) hh) (fun _=>items_loop (nn:=n) hok hk (by omega))⟩
end Go.Ax.O
