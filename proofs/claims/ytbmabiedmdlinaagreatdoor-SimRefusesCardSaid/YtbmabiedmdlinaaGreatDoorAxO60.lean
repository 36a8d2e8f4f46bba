import Derived.Test.YtbmabiedmdlinaaGreatDoorAxO59
import Derived.Test.YtbmabiedmdlinaaGreatDoorAxV22
import Derived.Test.YtbmabiedmdlinaaGreatDoorAxV9
import Derived.KernelRfl
set_option linter.all false
namespace Go.Ax.Sp
def sSimR:Sig:=⟨[(.int .i64,false),(.int .i64,false),(.imm .entry,false)],[.bool]⟩
def oSimR:sSimR.Out:=fun _ k=>k () (true,())
def lSimR1:LoopAnn:={X:=List Entry × Sim × Int,live:=fun x=>[(2,.imm .entry x.1),(10,.ptr ⟨3,0,0,0⟩),(11,.int .i64 0),(12,.int .i64 x.2.2)],heap:=fun x=>[none,none,none,some (.obj .sim x.2.1)]}
def lSimR2:LoopAnn:={X:=List Entry × Int × Int,live:=fun x=>[(2,.imm .entry x.1),(10,.nilp),(11,.int .i64 x.2.1),(12,.int .i64 x.2.2)],heap:=fun _=>[],alt:=some 10}
end Go.Ax.Sp
namespace Go.Ax.V
open Go.Ax.Sp Go.Ax.Law List Int IntKind
set_option maxRecDepth 100000
def vAwakeSi (u:Unit) (k:Unit→Bool × Unit→Prop):Prop:=
SH (Sim.mk (Sched.mk (newCore (2:Int))) (9:Int) (sortE [Entry.mk (5:Int) (3:Int) (9:Int) (1:Int) (0:Int) (0:Int)]) (0:Int) [] [] [] (0:Int) (0:Int)) fun s0=>SH (runM s0 (100:Int)).1.S.C.J.jobs fun s1=>SH (k () (false,())) fun s2=>1≤1∧(1:Nat)≤1000000∧((2:Int)<1∨(64:Int)<2∨(9:Int)<1∨(64:Int)<9∨(1024:Nat)<1→s2)∧((1:Int)≤2∧(2:Int)≤64∧(1:Int)≤9∧(9:Int)≤64∧(1:Nat)≤1024→(false=true→s2)∧(false=false→(SimOK s0∧(1:Int)≤9∧(9:Int)≤64∧(100:Int)≤1000000)∧br (runM s0 (100:Int)).2 (br (LN s1==1) (AT s1 (0:Int) fun e=>br (e.State==4) (AT s1 (0:Int) fun e=>br (e.Start==5) (AT s1 (0:Int) fun e=>k () (e.End==8,())) s2) s2) s2) s2))
end Go.Ax.V
namespace Go.Ax.V
open Go.Ax.Sp Go.Ax.Law List Int IntKind
set_option maxRecDepth 100000
def vSimR (n:Int) (d:Int) (l:List Entry) (k:Unit→Bool × Unit→Prop):Prop:=
SH (drop (toNat (0:Int)) (take (toNat (40:Int)) l)) fun s0=>SH (decide (n>64)) fun s1=>SH (decide (d>64)) fun s2=>SH (decide (n<1)) fun s3=>SH (decide (d<1)) fun s4=>SH (k () (false,())) fun s5=>SH (k () (true,())) fun s6=>br (decide (LN l>40)) (((0:Int)≤0∧(0:Int)≤40∧40≤LN l)∧length s0≤1000000∧(n<1∨64<n∨d<1∨64<d∨1024<length s0→br s3 s6 (br s1 s6 (br s4 s6 (br s2 s6 (LP (List Entry × Int × Int) (fun x=>(s0=x.1∧True∧1=x.2.1∧0=x.2.2∧True)∧True) fun I m x=>br (decide (x.2.2<LN x.1)) (AI x.1 x.2.2 fun e=>br (!rightE e) (br (x.2.1==5) s6 s5) (NM (x.2.2+1) fun n=>NX I m x fun y=>(x.1=y.1∧True∧x.2.1=y.2.1∧n=y.2.2∧True)∧True)) s5)))))∧(1≤n∧n≤64∧1≤d∧d≤64∧length s0≤1024→((any s0 fun e=>!rightE e)=true→br s3 s5 (br s1 s5 (br s4 s5 (br s2 s5 (LP (List Entry × Int × Int) (fun x=>(s0=x.1∧True∧5=x.2.1∧0=x.2.2∧True)∧True) fun I m x=>br (decide (x.2.2<LN x.1)) (AI x.1 x.2.2 fun e=>br (!rightE e) (br (x.2.1==5) s6 s5) (NM (x.2.2+1) fun n=>NX I m x fun y=>(x.1=y.1∧True∧x.2.1=y.2.1∧n=y.2.2∧True)∧True)) s5)))))∧((any s0 fun e=>!rightE e)=false→br s3 s5 (br s1 s5 (br s4 s5 (br s2 s5 (LP (List Entry × Sim × Int) (fun x=>(s0=x.1∧(0:Nat)=0∧(0:Int)=0∧0=x.2.2∧True)∧Sim.mk (Sched.mk (newCore n)) d (sortE s0) (0:Int) [] [] [] (0:Int) 0=x.2.1∧True) fun I m x=>br (decide (x.2.2<LN x.1)) (AI x.1 x.2.2 fun e=>br (!rightE e) s5 (NM (x.2.2+1) fun n=>NX I m x fun y=>(x.1=y.1∧(0:Nat)=0∧(0:Int)=0∧n=y.2.2∧True)∧x.2.1=y.2.1∧True)) s6))))))) (length l≤1000000∧(n<1∨64<n∨d<1∨64<d∨1024<length l→br s3 s6 (br s1 s6 (br s4 s6 (br s2 s6 (LP (List Entry × Int × Int) (fun x=>(l=x.1∧True∧1=x.2.1∧0=x.2.2∧True)∧True) fun I m x=>br (decide (x.2.2<LN x.1)) (AI x.1 x.2.2 fun e=>br (!rightE e) (br (x.2.1==5) s6 s5) (NM (x.2.2+1) fun n=>NX I m x fun y=>(x.1=y.1∧True∧x.2.1=y.2.1∧n=y.2.2∧True)∧True)) s5)))))∧(1≤n∧n≤64∧1≤d∧d≤64∧length l≤1024→((any l fun e=>!rightE e)=true→br s3 s5 (br s1 s5 (br s4 s5 (br s2 s5 (LP (List Entry × Int × Int) (fun x=>(l=x.1∧True∧5=x.2.1∧0=x.2.2∧True)∧True) fun I m x=>br (decide (x.2.2<LN x.1)) (AI x.1 x.2.2 fun e=>br (!rightE e) (br (x.2.1==5) s6 s5) (NM (x.2.2+1) fun n=>NX I m x fun y=>(x.1=y.1∧True∧x.2.1=y.2.1∧n=y.2.2∧True)∧True)) s5)))))∧((any l fun e=>!rightE e)=false→br s3 s5 (br s1 s5 (br s4 s5 (br s2 s5 (LP (List Entry × Sim × Int) (fun x=>(l=x.1∧(0:Nat)=0∧(0:Int)=0∧0=x.2.2∧True)∧Sim.mk (Sched.mk (newCore n)) d (sortE l) (0:Int) [] [] [] (0:Int) 0=x.2.1∧True) fun I m x=>br (decide (x.2.2<LN x.1)) (AI x.1 x.2.2 fun e=>br (!rightE e) s5 (NM (x.2.2+1) fun n=>NX I m x fun y=>(x.1=y.1∧(0:Nat)=0∧(0:Int)=0∧n=y.2.2∧True)∧x.2.1=y.2.1∧True)) s6)))))))
end Go.Ax.V
namespace Go.Ax.Law
open Go.Ax.O
theorem new_sim {n d:Int} {l:List Entry} (hn:1≤n∧n≤64) (hl:l.length≤1024) (hr: ∀e∈l,rightE e=true):SimOK ⟨⟨newCore n⟩,d,l,0,[],[],[],0,0⟩:=by
  have hs:OkS (newCore n):=by
    obtain ⟨m,rfl⟩:=Int.eq_ofNat_of_zero_le (show 0≤n by omega)
    exact ⟨_,_,new_stb (n:=m) (by omega) (by omega)⟩
  exact ⟨hs,rfl,hr,hl,by simp,by simp,by simp,fun v hv=>by simp at hv,fun j hj=>by simp [newCore,newJs] at hj⟩
theorem sortE_mem {l:List Entry} {e:Entry} (h:e∈sortE l):e∈l:=(List.mergeSort_perm l _).mem_iff.1 h
theorem sortE_len (l:List Entry):(sortE l).length=l.length:=List.length_mergeSort l
def eA:Entry:=⟨5,3,9,1,0,0⟩
def simA:Sim:=⟨⟨newCore 2⟩,9,sortE [eA],0,[],[],[],0,0⟩
theorem simA_run:(runM simA 100).2=true:=by kernel_rfl
theorem simA_jobs:(runM simA 100).1.S.C.J.jobs=[⟨1,0,1,9,0,4,5,8,-1,1⟩]:=by kernel_rfl
end Go.Ax.Law
namespace Go.Ax.O
open Go.Ax.Sp Go.Ax.Law
theorem vAwakeSi {u:Unit} {k:Unit→Bool × Unit→Prop} (h:oYes u k):V.vAwakeSi u k:=by
  have h:k () (true,()):=h
  unfold V.vAwakeSi V.AT V.SH V.LN
  have hok:SimOK simA:=new_sim (by decide) (by rw [sortE_len];decide) (fun e he=>by
    have:=sortE_mem he
    simp at this;subst this;rfl)
  have e1:=simA_run
  have e2:=simA_jobs
  refine ⟨Nat.le_refl _,by decide,fun hh=>absurd hh (by decide),fun _=>⟨fun hh=>(by cases hh),fun _=>⟨⟨hok,by decide,by decide,by decide⟩,?_⟩⟩⟩
  have e3:(Sim.mk (Sched.mk (newCore 2)) 9 (sortE [Entry.mk 5 3 9 1 0 0]) 0 [] [] [] 0 0)=simA:=rfl
  rw [e3,e1,e2]
  refine br_bool (fun _=>?_) (fun hh=>by cases hh)
  refine br_eq (fun _=>?_) (fun hh=>absurd rfl hh)
  refine ⟨⟨by decide,by decide⟩,by decide,fun e he=>?_⟩
  cases he
  refine br_eq (fun _=>?_) (fun hh=>absurd rfl hh)
  refine ⟨⟨by decide,by decide⟩,by decide,fun e he=>?_⟩
  cases he
  refine br_eq (fun _=>?_) (fun hh=>absurd rfl hh)
  refine ⟨⟨by decide,by decide⟩,by decide,fun e he=>?_⟩
  cases he
  exact h
theorem simR_nil {l:List Entry} {e5:Int} {A B:Prop} (hl:l.length≤1000000) (h:e5=5→A) (h5:e5=5) (ha:l.any (fun e=>!rightE e)=true):
    ∃(I:List Entry × Int × Int→Prop) (m:List Entry × Int × Int→Nat) (x:List Entry × Int × Int),I x∧((l=x.1∧True∧e5=x.2.1∧0=x.2.2∧True)∧True)∧ ∀x,I x→br (decide (x.2.2<(x.1.length:Int))) ((0≤x.2.2∧x.2.2<(x.1.length:Int))∧ ∀e,x.1[x.2.2.toNat]? =some e→br (!rightE e) (br (x.2.1==5) A B) (∀n,n=IntKind.i64.wrap (x.2.2+1)→ ∃y,I y∧((x.1=y.1∧True∧x.2.1=y.2.1∧n=y.2.2∧True)∧True)∧m y<m x)) B:=by
  refine ⟨fun x=>x.1=l∧x.2.1=5∧0≤x.2.2∧x.2.2≤l.length∧(l.drop x.2.2.toNat).any (fun e=>!rightE e)=true,fun x=>(l.length-x.2.2).toNat,(l,e5,0),⟨rfl,h5,Int.le_refl _,by simp only [];omega,by simpa using ha⟩,by simp,?_⟩
  rintro ⟨l',e',i⟩ ⟨e0,e1,p1,p2,e3⟩
  simp only [] at e0 e1 p1 p2 e3
  subst e0 e1
  refine br_dec (fun hi=>?_) (fun hi=>?_)
  · have hi:i<(l'.length:Int):=hi
    refine ⟨⟨p1,hi⟩,fun e he=>br_bool (fun _=>br_eq (fun _=>h h5) (fun hh=>absurd rfl hh)) (fun hr q hq=>?_)⟩
    rw [w64 (by simp only [];omega)] at hq
    replace hq:q=i+1:=hq
    subst hq
    refine ⟨(l',5,i+1),⟨rfl,rfl,by simp only [];omega,by simp only [];omega,?_⟩,by simp,by simp only [];omega⟩
    have he:l'[i.toNat]? =some e:=he
    have hdr:l'.drop i.toNat=e::l'.drop (i.toNat+1):=by
      rw [List.drop_eq_getElem_cons (by omega)]
      rw [List.getElem?_eq_getElem (by omega)] at he
      simp at he;rw [he]
    rw [hdr,List.any_cons,hr,Bool.false_or] at e3
    simp only []
    rw [show (i+1).toNat=i.toNat+1 by omega]
    exact e3
  · have hi: ¬ i<(l'.length:Int):=hi
    rw [List.drop_of_length_le (by omega)] at e3
    simp at e3
theorem simR_ptr {l:List Entry} {s:Sim} {A B:Prop} (hl:l.length≤1000000) (h:A) (ha:l.any (fun e=>!rightE e)=false):
    ∃(I:List Entry × Sim × Int→Prop) (m:List Entry × Sim × Int→Nat) (x:List Entry × Sim × Int),I x∧((l=x.1∧(0:Nat)=0∧(0:Int)=0∧0=x.2.2∧True)∧s=x.2.1∧True)∧ ∀x,I x→br (decide (x.2.2<(x.1.length:Int))) ((0≤x.2.2∧x.2.2<(x.1.length:Int))∧ ∀e,x.1[x.2.2.toNat]? =some e→br (!rightE e) B (∀n,n=IntKind.i64.wrap (x.2.2+1)→ ∃y,I y∧((x.1=y.1∧(0:Nat)=0∧(0:Int)=0∧n=y.2.2∧True)∧x.2.1=y.2.1∧True)∧m y<m x)) A:=by
  refine ⟨fun x=>x.1=l∧x.2.1=s∧0≤x.2.2,fun x=>(l.length-x.2.2).toNat,(l,s,0),⟨rfl,rfl,Int.le_refl _⟩,by simp,?_⟩
  rintro ⟨l',s',i⟩ ⟨e0,e1,p1⟩
  simp only [] at e0 e1 p1
  subst e0 e1
  refine br_dec (fun hi=>?_) (fun _=>h)
  have hi:i<(l'.length:Int):=hi
  refine ⟨⟨p1,hi⟩,fun e he=>br_bool (fun hr=>?_) (fun hr q hq=>?_)⟩
  · rw [List.any_eq_true.2 ⟨e,List.mem_of_getElem? he,hr⟩] at ha;cases ha
  · rw [w64 (by simp only [];omega)] at hq
    replace hq:q=i+1:=hq
    subst hq
    exact ⟨(l',s',i+1),⟨rfl,rfl,by simp only [];omega⟩,by simp,by simp only [];omega⟩
theorem vSimR {n d:Int} {l:List Entry} {k:Unit→Bool × Unit→Prop} (h:oSimR (n,d,l,()) k):V.vSimR n d l k:=by
  have h:k () (true,()):=h
  unfold V.vSimR V.LP V.NX V.AI V.NM V.SH V.LN
  have main: ∀(l0:List Entry),l0.length≤1000→
      (n<1∨64<n∨d<1∨64<d∨1024<l0.length→ ∀X,br (decide (n<1)) (k () (true,())) (br (decide (n>64)) (k () (true,())) (br (decide (d<1)) (k () (true,())) (br (decide (d>64)) (k () (true,())) X))))∧
      ∀X,(1≤n∧n≤64∧1≤d∧d≤64∧l0.length≤1024→X→br (decide (n<1)) (k () (false,())) (br (decide (n>64)) (k () (false,())) (br (decide (d<1)) (k () (false,())) (br (decide (d>64)) (k () (false,())) X)))):=fun l0 hl0=>
    ⟨fun hh X=>br_dec (fun _=>h) fun g1=>br_dec (fun _=>h) fun g2=>br_dec (fun _=>h) fun g3=>br_dec (fun _=>h) fun g4=>absurd hh (by omega),
     fun X hh hX=>br_dec (fun g=>absurd g (by omega)) fun g1=>br_dec (fun g=>absurd g (by omega)) fun g2=>br_dec (fun g=>absurd g (by omega)) fun g3=>br_dec (fun g=>absurd g (by omega)) fun g4=>hX⟩
  refine br_dec (fun hl=>?_) (fun hl=>?_)
  · have hl:((l.length:Int)>40):=hl
    have hlen:(List.drop (Int.toNat 0) (List.take (Int.toNat 40) l)).length≤40:=by
      rw [show Int.toNat 0=0 from rfl,List.drop_zero,List.length_take,show Int.toNat 40=40 from rfl];omega
    generalize List.drop (Int.toNat 0) (List.take (Int.toNat 40) l)=l0 at hlen ⊢
    obtain ⟨m1,m2⟩:=main l0 (by omega)
    exact ⟨⟨by decide,by decide,by omega⟩,by omega,fun hh=>m1 hh _,fun hh=>⟨fun ha=>m2 _ hh (simR_nil (by omega) (fun _=>h) rfl ha),fun ha=>m2 _ hh (simR_ptr (by omega) h ha)⟩⟩
  · have hl: ¬ ((l.length:Int)>40):=hl
    obtain ⟨m1,m2⟩:=main l (by omega)
    exact ⟨by omega,fun hh=>m1 hh _,fun hh=>⟨fun ha=>m2 _ hh (simR_nil (by omega) (fun _=>h) rfl ha),fun ha=>m2 _ hh (simR_ptr (by omega) h ha)⟩⟩
end Go.Ax.O
