import Derived.Test.YtbmabiedmdlinaaGreatDoorAxR
import Derived.Test.YtbmabiedmdlinaaGreatDoorAxCoreN9
import Derived.Test.YtbmabiedmdlinaaGreatDoorAxF4c
import Derived.Test.YtbmabiedmdlinaaGreatDoorCards
import Derived.Test.YtbmabiedmdlinaaGreatDoorTie
import Derived.Test.YtbmabiedmdlinaaGreatDoorProg
import Derived.WalkKit
import Derived.ProofKit
import Derived.OpenShut
import Derived.Deep.DeepHandedRow
import Derived.Lib.LaidTab
set_option linter.all false
namespace Go.Proofs.YtbmabiedmdlinaaGreatDoor.snapTrims
open Go.ChangeShapes Go.WideShapes Go.ChangeAt Go.RowKit
open Go.Ax Go.Ax.Sp Go.Proofs.YtbmabiedmdlinaaGreatDoor Go.Proofs.YtbmabiedmdlinaaGreatDoor.core
set_option linter.unusedVariables false
set_option maxRecDepth 1000000
theorem own:ownKnob Tryz.prog.godebug=none:=by kernel_rfl
theorem laid:laidOutB Tryz.prog=true:=facts.g1
theorem gTab:Tryz.prog.globalNamed "math/bits.deBruijn64tab" =some 0:=by kernel_rfl
theorem gTabType:(Tryz.prog.globals[0]?).map (·.type)=some 296:=by kernel_rfl
theorem cellsTT:Tryz.prog.cellsOf 296=64:=by kernel_rfl
theorem cells5:Tryz.prog.cellsOf 5=1:=by kernel_rfl
theorem table {W:World} (h:laidMetH Tryz.prog Rows.snapTrimsRow.laid W):Lib.TabIs Tryz.prog W "math/bits.deBruijn64tab" .u8 (Lib.deBruijn64tab.map fun (n:Nat)=>(n:Int)):=
 Lib.tabIs_of_head (rest:=[]) gTab gTabType Tryz.underlying296 Tryz.underlying5 cells5 cellsTT h
theorem tabsIn {W:World} (h:laidMetH Tryz.prog Rows.snapTrimsRow.laid W):TabsIn W:=by
 have hc: ∀(j:Nat) (v:Value),tzTab[j]? =some v→W.cell? ⟨0,j,none⟩=some v:=by
  intro j v hv
  have h1:=World.var?_cell gTab (table h) j
  rw [h1]
  simpa [tzTab] using hv
 intro b cs hm
 obtain ⟨rfl,rfl⟩:=Prod.mk.inj (List.mem_singleton.1 hm)
 refine ⟨?_,hc⟩
 have h0:=hc 0 (.int .u8 0) (by rfl)
 simp only [World.cell?] at h0
 split at h0
 ·rename_i hh
  exact (Array.getElem?_eq_some_iff.1 hh).1
 ·cases h0
theorem walk (a0:Int) (a1:List (EK.T .deed)) (v0 v1:Value) (w:World) (ht:TabsIn w) (e0:RV (Gam.whole w ht) [] (.int .i64 a0) v0) (e1:RV (Gam.whole w ht) [] (.imm .deed a1) v1):
  Calls Tryz.prog 8 #[v0,v1] w fun e w'=>e= .returned (.bool true)∧Still w w':=by
 refine SpecOK.walk (ht:=ht) (args:=[.int .i64 a0,.imm .deed a1]) (vs:=[v0,v1]) ok_f8 ?_ ?_
 ·simp only [RVs]
  exact ⟨v0,_,rfl,e0,v1,_,rfl,e1,rfl⟩
 ·exact (show _ from rfl)
theorem contract (H:Type) (enc:TypeId × Value→H) (W:World) (base:Nat) (args:Array Value) (ds gs:List (DataW H)) (before:List MemPlace)
  (hval0: ∀(j:Nat) t v,Tryz.f8.params[j]? =some t→args[j]? =some v→Value.okWide Tryz.prog W .any base t v)
  (hW:DataW.Whole enc Tryz.prog Tryz.f8.params.toList Rows.snapTrimsSpec.vars false W args.toList ds gs before) (hL:laidMetH Tryz.prog Rows.snapTrimsRow.laid W):
  Calls Tryz.prog 8 args W fun e W'=> ∃v,e= .returned v∧Rows.snapTrimsSpec.post enc Tryz.prog Tryz.f8 false true false false W args v W':=by
 have hval: ∀(j:Nat) t v,Tryz.f8.params[j]? =some t→args[j]? =some v→Value.okWide Tryz.prog W .any base t v:=hval0
 have hW':=hW
 have hlt:=hW.lt
 have ht:=tabsIn hL
 obtain ⟨p,q,hA0,hV,rfl,hfz,hnd⟩:=hW
 have hA:DataW.TrodAll enc Tryz.prog W 0 (fun _=>true) true Tryz.f8.params.toList args.toList ds p:=hA0
 rw [Tryz.params8] at hA hval
 obtain ⟨v0,vs0,d0,ds0,p0,q0,hargs,rfl,rfl,h0,r0⟩:=trodAll_cons hA
 obtain ⟨v1,vs1,d1,ds1,p1,q1,rfl,rfl,rfl,h1,r1⟩:=trodAll_cons r0
 obtain ⟨rfl,rfl,rfl⟩:=trodAll_nil r1
 obtain rfl:args= #[v0,v1]:=by cases args;simp_all
 obtain ⟨rfl,rfl⟩:=trodVars_none hV
 obtain ⟨a0,e0,_,_,_⟩:=open_int Tryz.underlying3 (hval 0 3 v0 rfl rfl) h0
 have e0:RV (Gam.whole W ht) [] (.int .i64 a0) v0:=by simp only [RV];exact e0
 obtain ⟨a1,e1,_,_⟩:=open_imm ht .deed (by decide) Tryz.underlying22 ⟨5,by kernel_rfl⟩ (by kernel_rfl) (hval 1 22 v1 rfl rfl) h1
 clear hA0 hval0
 refine (walk a0 a1 v0 v1 W ht e0 e1).mono fun e W' ⟨he,hg⟩=>?_
 subst he
 refine ⟨_,rfl,hg.post (pa:=p0++(p1++[])) (pv:=[]) hW' (by simp) (fun sp hsp=>?_) (fun _ _=>rfl) (fun _ _ _=>(trodAll_cons_mk (shut_bool Tryz.underlying4 _) trodAll_mk0)) (ok_one (by kernel_rfl) rfl (okWide_bool_mk Tryz.underlying4 _))⟩
 refine trodAll_cons_mk (Go.WideElems.Trod_stays laid (by kernel_rfl) (of_decide_eq_true (by kernel_rfl)) h0 (fun x hx=>hg.below.same (hlt x (by simp [hx]))) (fun x hx=>hsp x (by simp [hx]))) ?_
 refine trodAll_cons_mk (Go.WideElems.Trod_stays laid (by kernel_rfl) (of_decide_eq_true (by kernel_rfl)) h1 (fun x hx=>hg.below.same (hlt x (by simp [hx]))) (fun x hx=>hsp x (by simp [hx]))) ?_
 exact trodAll_mk0
noncomputable def laidWorld (os:Os):World:=
 {World.holding Tryz.prog os ⟨#[],#[],[]⟩ with heap:=(World.holding Tryz.prog os ⟨#[],#[],[]⟩).heap.modify 0 fun
   | .cells _ t frozen=> .cells tzTab.toArray t frozen
   |o=>o}
theorem laid_met (os:Os):laidMet Tryz.prog Rows.snapTrimsRow.laid ((laidWorld os).forCall (fun _ _=>0) ⟨#[],#[.int .i64 0,.slice none 0 0],[]⟩).memory:=
 laidMet_of_run' 8 (by kernel_rfl) (by kernel_rfl)
theorem reads (os:Os) {H:Type} (enc:TypeId × Value→H): ∃places,DataW.whole enc Tryz.prog ((laidWorld os).forCall (fun _ _=>0) ⟨#[],#[.int .i64 0,.slice none 0 0],[]⟩).memory Tryz.f8.params.toList Rows.snapTrimsSpec.vars false (#[.int .i64 0,.slice none 0 0]:Array Value).toList 8=some ([.lit (.int .i64 0),.nil],[],places):=
 ⟨[],by kernel_rfl⟩
set_option maxRecDepth 100000 in
theorem lifted (os:Os) (started:os.Started) (H:Type) (enc:TypeId × Value→H) (F:Stop.Interp):
  ReturnsInHanded {} Tryz.checked os 8 .any ((OpenSpec.ofChange Rows.snapTrimsSpec).preRow enc Tryz.prog Tryz.f8 Rows.snapTrimsRow.domain false Rows.snapTrimsRow.laid) (((OpenSpec.ofChange Rows.snapTrimsSpec).at F).post enc Tryz.prog Tryz.f8 false true false false):=by
 obtain ⟨places,hx⟩:=reads os enc
 refine returnsInHanded_of_row (C:=Tryz.checked) (s:=OpenSpec.ofChange Rows.snapTrimsSpec) own started (by kernel_rfl) Tryz.func8
  (witness_row_at (enc:=enc) (C:=Tryz.checked) false (laidWorld os) #[.int .i64 0,.slice none 0 0] rfl (by kernel_rfl) (by kernel_rfl) (by kernel_rfl)
   (OpenSpec.preRow_of_cond 8 hx (by kernel_rfl) (fun k hk=>by cases hk) (by kernel_rfl) (laid_met os))) ?_
 intro W base args ds gs before hval hW _ _ _ hL _ _
 exact contract H enc W base args ds gs before hval hW hL
theorem and2 {a b:Bool} (h1:a=true) (h2:b=true):(a&&b)=true:=by rw [h1,h2];rfl
theorem h0:(Rows.snapTrimsRow.wf (OpenSpec.ofChange Rows.snapTrimsSpec))=true:=by kernel_rfl
theorem h3:(Tryz.f8.params.all (Tryz.prog.readableRec ·))=true:=by kernel_rfl
theorem h4:(namedTie Tryz.prog Rows.snapTrimsRow.named Rows.snapTrimsSpec.vars)=true:=by kernel_rfl
theorem h5:((Rows.snapTrimsRow.stops==[]))=true:=by kernel_rfl
theorem h7:((Rows.snapTrimsRow.knobs==[]))=true:=by kernel_rfl
theorem h9:((Rows.snapTrimsRow.inPlace==Tryz.prog.inPlace 8))=true:=by kernel_rfl
theorem h10:((Rows.snapTrimsRow.unfollowed==Tryz.prog.unfollowed 8))=true:=by kernel_rfl
theorem h11:((Rows.snapTrimsRow.recurses==Tryz.prog.recurses 8))=true:=by kernel_rfl
theorem h12:((Rows.snapTrimsRow.named==Tryz.prog.varsNamed 8))=true:=by kernel_rfl
theorem h13:((Rows.snapTrimsRow.maps==(Tryz.f8.params.toList++Rows.snapTrimsSpec.plain.varTypes Tryz.prog).any (Tryz.prog.mapsRec ·)))=true:=by kernel_rfl
theorem h14:((Rows.snapTrimsRow.ifaces==(Tryz.f8.params.toList++Rows.snapTrimsSpec.plain.varTypes Tryz.prog).any (Tryz.prog.ifacesRec ·)))=true:=by kernel_rfl
theorem h15:((Rows.snapTrimsRow.mapsOut==Tryz.prog.mapsAmong Tryz.f8.resultTypes.toList))=true:=by kernel_rfl
theorem h16:((Rows.snapTrimsRow.loops==(Tryz.f8.params.toList++Rows.snapTrimsSpec.plain.varTypes Tryz.prog).any (Tryz.prog.loopsFrom ·)))=true:=by kernel_rfl
theorem h17:((Rows.snapTrimsRow.wideKeys==(Tryz.f8.params.toList++Rows.snapTrimsSpec.plain.varTypes Tryz.prog++Tryz.f8.resultTypes.toList).any (Tryz.prog.wideKeysFrom ·)))=true:=by kernel_rfl
theorem h18:(Rows.snapTrimsSpec.vars.all (Tryz.prog.varReadable ·))=true:=by kernel_rfl
theorem h19:(Tryz.f8.resultTypes.all (fun t=>Tryz.prog.readableRec t&&decide (t<Tryz.prog.types.size)))=true:=by kernel_rfl
theorem h20:((Rows.snapTrimsRow.ifacesOut==Tryz.f8.resultTypes.toList.any (Tryz.prog.ifacesRec ·)))=true:=by kernel_rfl
theorem h21:((Rows.snapTrimsRow.loopsOut==Tryz.f8.resultTypes.toList.any (Tryz.prog.loopsFrom ·)))=true:=by kernel_rfl
theorem h23:(Rows.snapTrimsRow.shortTexts.isNone)=true:=by kernel_rfl
theorem h28:((Rows.snapTrimsRow.kinds==(if Rows.snapTrimsRow.domain.isEmpty then [] else Tryz.f8.params.toList.map fun t=>match Tryz.prog.underlying t with |some (.int k)=>some k |_=>none)))=true:=by kernel_rfl
theorem h29:((Rows.snapTrimsRow.pinned==Rows.snapTrimsRow.pinnedBy))=true:=by kernel_rfl
theorem h30:((Rows.snapTrimsRow.veiled==(Tryz.f8.params.toList++Rows.snapTrimsSpec.plain.varTypes Tryz.prog++Tryz.f8.resultTypes.toList).any (Tryz.prog.veiledRec ·)))=true:=by kernel_rfl
theorem h31:(Rows.snapTrimsRow.veiledFits Tryz.prog Tryz.f8.params.toList (Tryz.f8.params.toList++Rows.snapTrimsSpec.plain.varTypes Tryz.prog++Tryz.f8.resultTypes.toList))=true:=by kernel_rfl
theorem closed:joinedFacts Tryz.prog 8 Tryz.f8 Rows.snapTrimsSpec Rows.snapTrimsRow=true:=by
 unfold joinedFacts
 exact (and2 (and2 (and2 (and2 (and2 (and2 (and2 (and2 (and2 (and2 (and2 (and2 (and2 (and2 (and2 (and2 (and2 (and2 (and2 (and2 (and2 (and2 (and2 (and2 (and2 (and2 (and2 (and2 (and2 (and2 (and2 h0 facts.g1) facts.g2) h3) h4) h5) facts.g6) h7) facts.g8) h9) h10) h11) h12) h13) h14) h15) h16) h17) h18) h19) h20) h21) facts.g22) h23) facts.g24) facts.g25) facts.g26) facts.g27) h28) h29) h30) h31)
theorem said:Rows.SnapTrimsSaid:=
 OpenClaim.holds_of_cond 8 Tryz.f8 rfl rfl rfl rfl rfl rfl rfl ⟨rfl,rfl,rfl,rfl,rfl⟩ rfl rfl rfl rfl rfl (by kernel_rfl) Tryz.func8 closed
  (of_decide_eq_true (by kernel_rfl)) (by unfold Func.isWrapper;first |(rw [if_pos (by decide+kernel)];kernel_rfl) |(rw [if_neg (by decide+kernel)];exact ⟨rfl,rfl⟩))
  (fun os started H enc _ F=>by rw [OpenClaim.pre_eq_preRow];exact lifted os started H enc F)
theorem plain (f:FuncId) (fn:Func) (hf:Tryz.pinned.checked.prog.funcNamed Rows.snapTrimsRow.func=some f) (hfn:Tryz.pinned.checked.prog.funcs[f]? =some fn):
  false=Tryz.pinned.checked.prog.looks []∧ ∀(j:Nat) t,fn.params[j]? =some t→Tryz.pinned.checked.prog.wantsStandIn t=false:=by
 obtain rfl:f=8:=Option.some.inj ((show Tryz.prog.funcNamed Rows.snapTrimsRow.func=some 8 by kernel_rfl).symm.trans hf) |>.symm
 obtain rfl:fn=Tryz.f8:=(Option.some.inj (Tryz.func8.symm.trans hfn)).symm
 refine ⟨by kernel_rfl,fun j t ht=>?_⟩
 rw [Tryz.params8] at ht
 have hm:t∈[3,22]:=by simpa using Array.mem_of_getElem? ht
 have hall:([3,22].all fun u=>!Tryz.prog.wantsStandIn u)=true:=by kernel_rfl
 exact (show Tryz.prog.wantsStandIn t=false by simpa using List.all_eq_true.1 hall t hm)
theorem proved:Rows.SnapTrimsCardSaid:=
 Claim7.holds_tied_plain_at .later [] _ _ _ _ said (fun _ h=>by cases h) (by kernel_rfl) (fun _ h=>by cases h) snapTrims_row_tie rfl ⟨rfl,rfl⟩ (by kernel_rfl) rfl plain (by kernel_rfl)
#print axioms proved
end Go.Proofs.YtbmabiedmdlinaaGreatDoor.snapTrims
