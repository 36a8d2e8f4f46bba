import Derived.Test.YtidfnpddheobdaaGreatDoorAxV9
import Derived.Test.YtidfnpddheobdaaGreatDoorAxO45
import Derived.Test.YtidfnpddheobdaaGreatDoorAxO28
set_option linter.all false
namespace Go.Ax.V
open Go.Ax.Sp Go.Ax.Law List Int IntKind
set_option maxRecDepth 100000
def vPassQ (n:Int) (l:List Deed) (k:Unit→Bool × Unit→Prop):Prop:=
SH (settleS (madeS n l) (64:Int) (30:Int)) fun s0=>SH (replicate (toNat n) false) fun s1=>SH (length s0.2.J.jobs) fun s2=>SH (k () (false,())) fun s3=>(n<1∨64<n→k () (true,()))∧(1≤n∧n≤64→br (closedC (some (madeS n l))) (k () (true,())) ((OkS (madeS n l)∧(0:Int)≤30∧(30:Int)≤1000)∧br (decide (s0.1.1<1)) s3 (br (decide (s0.1.1>30)) s3 (br (!s0.1.2) (br (s0.1.1==30) (k () (true,())) s3) (OkS s0.2∧br (!LN (openC s0.2)==0) s3 ((0≤n∧n≤1000)∧PW s0.2.P∧JW s0.2.J∧LP (Int × Core × Model × Int) (fun x=>0+length s1≤length s1∧0+s2≤s2∧(n=x.1∧(0:Nat)=0∧(0:Nat)=0∧0=x.2.2.2∧True)∧Sched.mk s0.2=Sched.mk x.2.1∧Model.mk (nowL s0.2.P.steps) (take (length s1) (drop (0:Nat) s1)) (take s2 (drop (0:Nat) s0.2.J.jobs)) false=x.2.2.1∧True) fun I m x=>SH x.2.2.1 fun s4=>SH x.2.2.2 fun s5=>SH (set s4.Drain (0+toNat s5) (decide (stateN x.2.1.N s5>2))) fun s6=>br (decide (s5<x.1)) ((NW x.2.1.N∧(0≤s5∧s5<LN s4.Drain)∧(0+toNat s5<length s4.Drain∧ ∀(e:Bool),s4.Drain[0+toNat s5]? =some e→NM (s5+1) fun n=>NX I m x fun y=>0+length s4.Drain≤length s6∧0+length s4.L≤length s4.L∧(x.1=y.1∧(0:Nat)=0∧(0:Nat)=0∧n=y.2.2.2∧True)∧Sched.mk x.2.1=Sched.mk y.2.1∧Model.mk s4.Now (take (length s4.Drain) (drop (0:Nat) s6)) (take (length s4.L) (drop (0:Nat) s4.L)) s4.Closed=y.2.2.1∧True)∧True)∧True) (MW s4∧LP (Model × List Int × Int) (fun x=>((0:Nat)=0∧((0:Nat)=0∧length (timesM s4)=length x.2.1)∧0=x.2.2∧True)∧s4=x.1∧timesM s4=x.2.1∧True) fun I m x=>SH (length x.1.Drain) fun s7=>br (decide (x.2.2<LN x.1.L)) (LP (Model × List Int × Int × Int) (fun x_1=>0+s7≤s7∧0+length x.1.L≤length x.1.L∧((0:Nat)=0∧((0:Nat)=0∧length x.2.1=length x_1.2.1)∧x.2.2=x_1.2.2.1∧0=x_1.2.2.2∧True)∧Model.mk x.1.Now (take s7 (drop (0:Nat) x.1.Drain)) (take (length x.1.L) (drop (0:Nat) x.1.L)) x.1.Closed=x_1.1∧x.2.1=x_1.2.1∧True) fun I_1 m_1 x_1=>SH (Model.mk x_1.1.Now (take (length x_1.1.Drain) (drop (0:Nat) x_1.1.Drain)) (take (length x_1.1.L) (drop (0:Nat) x_1.1.L)) x_1.1.Closed) fun s8=>SH (length x_1.1.Drain) fun s9=>SH (length x_1.1.L) fun s10=>br (decide (x_1.2.2.2<LN x_1.2.1)) (AT x_1.1.L x_1.2.2.1 fun e=>AT x_1.2.1 x_1.2.2.2 fun e_1=>(0+s9≤s9∧0+s10≤s10∧MW s8∧br (fitsM s8 (Choice.mk e.Id e_1)) s3 (NM (x_1.2.2.2+1) fun n=>NX I_1 m_1 x_1 fun y=>0+s9≤s9∧0+s10≤s10∧((0:Nat)=0∧((0:Nat)=0∧length x_1.2.1=length y.2.1)∧x_1.2.2.1=y.2.2.1∧n=y.2.2.2∧True)∧s8=y.1∧x_1.2.1=y.2.1∧True))∧True) (NM (x_1.2.2.1+1) fun n=>NX I m x fun y=>((0:Nat)=0∧((0:Nat)=0∧length x_1.2.1=length y.2.1)∧n=y.2.2∧True)∧x_1.1=y.1∧x_1.2.1=y.2.1∧True)) (k () (true,())))))))))
end Go.Ax.V
namespace Go.Ax.Law
theorem mem_wait {c:Core} {j:Job} (h:j∈c.J.jobs) (h1:j.State=1):j∈waitC c:=by
 refine (sort_perm _).mem_iff.2 ?_
 unfold inJ
 rw [List.mem_filter]
 exact ⟨h,by simp [h1]⟩
theorem stb_made {n:Nat} {c:Core} {m:Model} (h:Stb n c m) (hc:c.closed=false) {D:List Bool} (hD:D.length=n) (hd: ∀k,k<n→D.getD k false=decide (2<stateN c.N (k:Int))):Stb n c ⟨nowL c.P.steps,D,c.J.jobs,false⟩:=by
 refine ⟨⟨h.rep.deep,hD,rfl,rfl,hc.symm,fun k hk=>?_⟩,h.fe,h.fp⟩
 have ha:hasB c.N.all (k:Int)=true:=by rw [h.rep.deep.all,hasB_all h.rep.deep.n1 h.rep.deep.n64];simp [hk]
 show D.getD k false=dr c k
 rw [hd k hk]
 unfold stateN dr
 rw [if_neg (by rw [ha];simp)]
 cases hasB c.N.used (k:Int)<;>cases hasB c.N.drain (k:Int)<;>simp
theorem fits_quiet {n:Nat} {c:Core} {m:Model} (h:Stb n c m) (he:(planF c.P ((waitC c).map itemJ)).2=[]) {j:Job} (hj:j∈m.L) (u:Int):fitsM m ⟨j.Id,u⟩=false:=by
 cases hf:fitsM m ⟨j.Id,u⟩ with
 |false=>rfl
 |true=>
  obtain ⟨i,j',e1,e2,_,e3,e4,e5,e6⟩:=fitsM_some hf
  rw [h.rep.jobs] at e2
  have hid:=id_at h.rep.deep.cw e2
  have hw:=mem_wait (List.mem_of_getElem? e2) e3
  have:=pass_none (waitC c) h rfl (fun j hj=>wait_mem hj) he j' hw u (by rw [←h.rep.now];exact e4) e5 (fun hp=>by simp only [] at e6;omega)
  rw [←fits_same h,show j.Id=j'.Id from by simp only [] at e1;omega,this] at hf
  cases hf
end Go.Ax.Law
namespace Go.Ax.O
open Go.Ax.Sp Go.Ax.Law
theorem vPassQ {n:Int} {l:List Deed} {k:Unit→Bool × Unit→Prop} (h:oPassQ (n,l,()) k):V.vPassQ n l k:=by
 have h:k () (true,()):=h
 unfold V.vPassQ V.LP V.NX V.AT V.NM V.SH V.LN
 refine ⟨fun _=>h,fun hn=>?_⟩
 have hs0:=madeS_stb hn.1 hn.2 l
 have hok:=madeS_ok hn.1 hn.2 l
 generalize hc0:madeS n l=c0 at hs0 hok ⊢
 refine br_bool (fun _=>h) (fun hcl=>⟨⟨hok,by omega,by omega⟩,?_⟩)
 have hcl:c0.closed=false:=by simpa [closedC] using hcl
 have hst:=settle_ok hs0 hcl
 obtain ⟨⟨m',hs⟩,hcl2,hlo,hhi,hno,hyes⟩:=hst
 generalize settleS c0 64 30=r at hs hcl2 hlo hhi hno hyes ⊢
 obtain ⟨⟨many,quiet⟩,c⟩:=r
 simp only [] at hs hcl2 hlo hhi hno hyes ⊢
 refine br_dec (fun hh=>absurd hh (by omega)) (fun _=>br_dec (fun hh=>absurd hh (by omega)) (fun _=>br_not (fun hq=>br_eq (fun _=>h) (fun hh=>absurd (hno hq) hh)) (fun hq=>?_)))
 have he:=hyes hq
 have hcl3:c.closed=false:=hcl2.trans hcl
 have hokc:OkS c:=⟨_,_,hs⟩
 have ho:=open_none hs hcl3 he
 refine ⟨hokc,br_ne (fun hh=>absurd (by rw [ho];rfl) hh) (fun _=>⟨⟨by omega,by omega⟩,hokc.cw.2.2,hokc.cw.1,?_⟩)⟩
 have hN: ∃N:Nat,n=(N:Int)∧N=n.toNat:=⟨n.toNat,by omega,rfl⟩
 obtain ⟨N,hN,hN2⟩:=hN
 rw [←hN2] at hs
 refine ⟨fun x=>x.1=n∧x.2.1=c∧x.2.2.1.Now=nowL c.P.steps∧x.2.2.1.L=c.J.jobs∧x.2.2.1.Closed=false∧x.2.2.1.Drain.length=N∧0≤x.2.2.2∧x.2.2.2≤n∧ ∀k:Nat,(k:Int)<x.2.2.2→x.2.2.1.Drain.getD k false=decide (2<stateN c.N (k:Int)),fun x=>(n-x.2.2.2).toNat,
  (n,c,⟨nowL c.P.steps,List.replicate n.toNat false,c.J.jobs,false⟩,0),⟨rfl,rfl,rfl,rfl,rfl,by simp [hN2],by simp,by simp only [];omega,fun k hk=>by simp only [] at hk;omega⟩,by simp,?_⟩
 rintro ⟨n',c',⟨Now,D,L,Cl⟩,i⟩ ⟨e0,e1,e2,e3,e4,e5,g1,g2,g3⟩
 simp only [] at e0 e1 e2 e3 e4 e5 g1 g2 g3
 subst e0 e1 e2 e3 e4
 refine br_dec (fun hl=>?_) (fun hl=>?_)
 ·have hl:i<n':=hl
  refine ⟨⟨hokc.cw.2.1,⟨g1,by simp only [];omega⟩,⟨by simp only [];omega,fun e he q hq=>?_⟩,trivial⟩,trivial⟩
  rw [w64 (by simp only [];omega)] at hq
  replace hq:q=i+1:=hq
  subst hq
  refine ⟨(n',c',⟨nowL c'.P.steps,D.set i.toNat (decide (2<stateN c'.N i)),c'.J.jobs,false⟩,i+1),⟨rfl,rfl,rfl,rfl,rfl,by simp [e5],by simp only [];omega,by simp only [];omega,fun k hk=>?_⟩,by simp [List.take_of_length_le],by simp only [];omega⟩
  simp only [] at hk ⊢
  rw [List.getD_eq_getElem?_getD,List.getElem?_set]
  by_cases hki:i.toNat=k
  ·rw [if_pos hki,if_pos (by omega)]
   have:(k:Int)=i:=by omega
   simp [this]
  ·rw [if_neg hki,←List.getD_eq_getElem?_getD]
   exact g3 k (by omega)
 ·have hl: ¬ i<n':=hl
  have hs2:=stb_made hs hcl3 e5 (fun k hk=>g3 k (by omega))
  have hmw:=hs2.mw
  have htl:=times_len ⟨nowL c'.P.steps,D,c'.J.jobs,false⟩
  have hfq: ∀j∈(⟨nowL c'.P.steps,D,c'.J.jobs,false⟩:Model).L,∀u,fitsM ⟨nowL c'.P.steps,D,c'.J.jobs,false⟩ ⟨j.Id,u⟩=false:=fun j hj u=>fits_quiet hs2 he hj u
  generalize (⟨nowL c'.P.steps,D,c'.J.jobs,false⟩:Model)=M at hmw hfq htl ⊢
  have hml:=hmw.1
  refine ⟨hmw,fun x=>x.1=M∧x.2.1=timesM M∧0≤x.2.2∧x.2.2≤M.L.length,fun x=>(M.L.length-x.2.2).toNat,(M,timesM M,0),⟨rfl,rfl,by simp,by simp⟩,by simp,?_⟩
  rintro ⟨M',T,i'⟩ ⟨e0,e1,g4,g5⟩
  simp only [] at e0 e1 g4 g5
  subst e0 e1
  refine br_dec (fun hl'=>?_) (fun _=>h)
  have hl':i'<(M'.L.length:Int):=hl'
  refine ⟨fun x=>x.1=M'∧x.2.1=timesM M'∧x.2.2.1=i'∧0≤x.2.2.2∧x.2.2.2≤(timesM M').length,fun x=>((timesM M').length-x.2.2.2).toNat,(M',timesM M',i',0),⟨rfl,rfl,rfl,by simp,by simp⟩,by simp,?_⟩
  rintro ⟨M2,T2,i2,t⟩ ⟨e0,e1,e2,g6,g7⟩
  simp only [] at e0 e1 e2 g6 g7
  subst e0 e1 e2
  refine br_dec (fun ht=>?_) (fun ht q hq=>?_)
  ·have ht:t<((timesM M2).length:Int):=ht
   refine ⟨⟨g4,hl'⟩,by simp only [];omega,fun e he'=>⟨⟨g6,ht⟩,by simp only [];omega,fun u hu=>?_⟩⟩
   have he':M2.L[i2.toNat]? =some e:=by rw [←he'];simp
   have hM:(⟨M2.Now,List.take M2.Drain.length (List.drop 0 M2.Drain),List.take M2.L.length (List.drop 0 M2.L),M2.Closed⟩:Model)=M2:=by simp
   have hmw2:MW ⟨M2.Now,List.take M2.Drain.length (List.drop 0 M2.Drain),List.take M2.L.length (List.drop 0 M2.L),M2.Closed⟩:=by rw [hM];exact hmw
   have hf2:fitsM ⟨M2.Now,List.take M2.Drain.length (List.drop 0 M2.Drain),List.take M2.L.length (List.drop 0 M2.L),M2.Closed⟩ ⟨e.Id,u⟩=false:=by rw [hM];exact hfq e (List.mem_of_getElem? he') u
   refine ⟨⟨by simp,by simp,hmw2,br_bool (fun hh=>absurd (hf2.symm.trans hh) (by simp)) (fun _ q hq=>?_)⟩,trivial⟩
   ·rw [w64 (by simp only [];omega)] at hq
    replace hq:q=t+1:=hq
    subst hq
    exact ⟨(M2,timesM M2,i2,t+1),⟨rfl,rfl,rfl,by simp only [];omega,by simp only [];omega⟩,by simp,by simp only [];omega⟩
  ·rw [w64 (by simp only [];omega)] at hq
   replace hq:q=i2+1:=hq
   subst hq
   exact ⟨(M2,timesM M2,i2+1),⟨rfl,rfl,by simp only [];omega,by simp only [];omega⟩,by simp,by simp only [];omega⟩
end Go.Ax.O
