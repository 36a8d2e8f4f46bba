import Derived.Test.YtbmabiedmdlinaaGreatDoorAxO59
import Derived.Test.YtbmabiedmdlinaaGreatDoorAxV22
import Derived.Test.YtbmabiedmdlinaaGreatDoorAxV9
import Derived.KernelRfl
set_option linter.all false
namespace Go.Ax.Sp
end Go.Ax.Sp
namespace Go.Ax.V
open Go.Ax.Sp Go.Ax.Law List Int IntKind
set_option maxRecDepth 100000
def vAwakeSi (u:Unit) (k:Unit→Bool × Unit→Prop):Prop:=
SH (Sim.mk (Sched.mk (newCore (2:Int))) (9:Int) (sortE [Entry.mk (5:Int) (3:Int) (9:Int) (1:Int) (0:Int) (0:Int)]) (0:Int) [] [] [] (0:Int) (0:Int)) fun s0=>SH (runM s0 (100:Int)).1.S.C.J.jobs fun s1=>SH (k () (false,())) fun s2=>1≤1∧(1:Nat)≤1000000∧((2:Int)<1∨(64:Int)<2∨(9:Int)<1∨(64:Int)<9∨(1024:Nat)<1→s2)∧((1:Int)≤2∧(2:Int)≤64∧(1:Int)≤9∧(9:Int)≤64∧(1:Nat)≤1024→(false=true→s2)∧(false=false→(SimOK s0∧(1:Int)≤9∧(9:Int)≤64∧(100:Int)≤1000000)∧br (runM s0 (100:Int)).2 (br (LN s1==1) (AT s1 (0:Int) fun e=>br (e.State==4) (AT s1 (0:Int) fun e=>br (e.Start==5) (AT s1 (0:Int) fun e=>k () (e.End==8,())) s2) s2) s2) s2))
end Go.Ax.V
namespace Go.Ax.V
open Go.Ax.Sp Go.Ax.Law List Int IntKind
set_option maxRecDepth 100000
end Go.Ax.V
namespace Go.Ax.Law
open Go.Ax.O
theorem new_sim {n d:Int} {l:List Entry} (hn:1≤n∧n≤64) (hl:l.length≤1024) (hr: ∀e∈l,rightE e=true):SimOK ⟨⟨newCore n⟩,d,l,0,[],[],[],0,0⟩:=by
  have hs:OkS (newCore n):=by
    obtain ⟨m,rfl⟩:=Int.eq_ofNat_of_zero_le (show 0≤n by omega)
    exact ⟨_,_,new_stb (n:=m) (by omega) (by omega)⟩
  exact ⟨hs,rfl,hr,hl,by simp,by simp,by simp,fun v hv=>by simp at hv,fun j hj=>by simp [newCore,newJs] at hj⟩
theorem sortE_mem {l:List Entry} {e:Entry} (h:e∈sortE l):e∈l:=(List.mergeSort_perm l _).mem_iff.1 h
theorem sortE_len (l:List Entry):(sortE l).length=l.length:=List.length_mergeSort l
def eA:Entry:=⟨5,3,9,1,0,0⟩
def simA:Sim:=⟨⟨newCore 2⟩,9,sortE [eA],0,[],[],[],0,0⟩
theorem simA_run:(runM simA 100).2=true:=by kernel_rfl
theorem simA_jobs:(runM simA 100).1.S.C.J.jobs=[⟨1,0,1,9,0,4,5,8,-1,1⟩]:=by kernel_rfl
end Go.Ax.Law
namespace Go.Ax.O
open Go.Ax.Sp Go.Ax.Law
theorem vAwakeSi {u:Unit} {k:Unit→Bool × Unit→Prop} (h:oYes u k):V.vAwakeSi u k:=by
  have h:k () (true,()):=h
  unfold V.vAwakeSi V.AT V.SH V.LN
  have hok:SimOK simA:=new_sim (by decide) (by rw [sortE_len];decide) (fun e he=>by
    have:=sortE_mem he
    simp at this;subst this;rfl)
  have e1:=simA_run
  have e2:=simA_jobs
  refine ⟨Nat.le_refl _,by decide,fun hh=>absurd hh (by decide),fun _=>⟨fun hh=>(by cases hh),fun _=>⟨⟨hok,by decide,by decide,by decide⟩,?_⟩⟩⟩
  have e3:(Sim.mk (Sched.mk (newCore 2)) 9 (sortE [Entry.mk 5 3 9 1 0 0]) 0 [] [] [] 0 0)=simA:=rfl
  rw [e3,e1,e2]
  refine br_bool (fun _=>?_) (fun hh=>by cases hh)
  refine br_eq (fun _=>?_) (fun hh=>absurd rfl hh)
  refine ⟨⟨by decide,by decide⟩,by decide,fun e he=>?_⟩
  cases he
  refine br_eq (fun _=>?_) (fun hh=>absurd rfl hh)
  refine ⟨⟨by decide,by decide⟩,by decide,fun e he=>?_⟩
  cases he
  refine br_eq (fun _=>?_) (fun hh=>absurd rfl hh)
  refine ⟨⟨by decide,by decide⟩,by decide,fun e he=>?_⟩
  cases he
  exact h
end Go.Ax.O

