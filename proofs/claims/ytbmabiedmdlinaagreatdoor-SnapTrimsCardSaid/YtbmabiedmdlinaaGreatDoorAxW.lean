import Derived.Test.YtbmabiedmdlinaaGreatDoorAxG
import Derived.ChangeSame
import Derived.Below
set_option linter.all false
namespace Go.Ax
open Go.ChangeShapes Go.WideShapes
variable [Surr]
def TabsIn (w:World):Prop:= ∀(b:Nat) (cs:List Value),(b,cs)∈Surr.tabs→b<w.heap.size∧ ∀(j:Nat) (v:Value),cs[j]? =some v→w.cell? ⟨b,j,none⟩=some v
def Gam.whole (w:World) (ht:TabsIn w):Gam:=⟨w,fun b=>b<w.heap.size,fun b=>b<w.heap.size,fun _ h=>h,ht⟩
def Still (w w':World):Prop:=w'.os=w.os∧w'.output=w.output∧(∀b,b<w.heap.size→w'.heap[b]? =w.heap[b]?)∧w'.tape=w.tape∧w.heap.size≤w'.heap.size
theorem WOK.still {w w':World} {ht:TabsIn w} (h:WOK (Gam.whole w ht) w'):Still w w':=⟨h.os.1,h.output,fun b hb=>(h.prot b hb).2,h.tape,h.size⟩
theorem Still.below {w w':World} (h:Still w w'):Go.RowKit.Below w.heap.size w w':=⟨h.1,h.2.2.2.1,h.2.1,h.2.2.2.2,h.2.2.1⟩
theorem Still.keptBut {w w':World} (h:Still w w') (may:MemPlace→Prop):w.keptBut w' may:=by
 refine ⟨h.1,h.2.1,fun i hi=>?_⟩
 rw [h.2.2.1 i hi,Array.getElem?_eq_getElem hi]
 cases w.heap[i]<;>simp
theorem Still.frozen {w w':World} (h:Still w w') {a:Addr} (ha:a.block<w.heap.size):w'.frozen? a=w.frozen? a:=by
 simp only [World.frozen?,h.2.2.1 _ ha]
theorem Still.post {H:Type} {enc:TypeId × Value→H} {P:Program} {f:Func} {s:ChangeSpec} {apart fresh handsOn again:Bool} {W W':World} (hk:Still W W') {args:Array Value} {v:Value} {ds gs:List (DataW H)} {before pa pv:List MemPlace}
  (hW:DataW.Whole enc P f.params.toList s.vars apart W args.toList ds gs before) (hps:before=pa++pv)
  (hargs: ∀sp:Nat→Bool,(∀p∈before,sp p.block=true)→DataW.TrodAll enc P W' 0 sp true f.params.toList args.toList (s.fn H (ds++gs)).args pa)
  (hvars: ∀sp:Nat→Bool,(∀p∈before,sp p.block=true)→DataW.TrodVars enc P W' sp s.vars (s.fn H (ds++gs)).vars pv)
  (hres: ∀(b:Nat) (sp:Nat→Bool) (hd:Bool),DataW.TrodAll enc P W' b sp hd f.resultTypes.toList (v.resultList f.resultTypes.size) (s.fn H (ds++gs)).results [])
  (hok: ∀(j:Nat) (t:TypeId) (r:Value),f.resultTypes[j]? =some t→(v.resultList f.resultTypes.size)[j]? =some r→Value.okWide P W' .any 0 t r):
  s.post enc P f apart fresh handsOn again W args v W':=by
 subst hps
 have hlt:=hW.lt
 have h1: ∀p∈pa++pv,(fun b=>decide (b<W.heap.size)) p.block=true:=fun p hp=>decide_eq_true (hlt p hp)
 have hsub: ∀p,p∈pa++pv→p∈([]:List MemPlace)∨p∈pa∨p∈pv:=fun p hp=> .inr (List.mem_append.1 hp)
 refine ⟨ds,gs,pa++pv,[],pa,pv,hW,hres _ _ _,hargs _ h1,hvars _ h1,hk.keptBut _,fun _=>⟨hok,?_⟩⟩
 obtain ⟨_,_,_,_,_,hz,hn⟩:=hW
 refine ⟨_,_,_,⟨_,_,trodAll_append (hargs _ (fun _ _=>rfl)) (hres _ _ _),hvars _ (fun _ _=>rfl),rfl,fun b off hp=>?_,fun ha=>?_⟩,fun p hp _=>by simpa using hp⟩
 ·have hp':MemPlace.cell b off∈pa++pv:=by simpa using hp
  rw [hk.frozen (hlt _ hp')]
  exact hz b off hp'
 ·simpa using hn ha
theorem SatHF.empty (w:World) (ht:TabsIn w):SatHF (Gam.whole w ht) [] w [] (fun _=>[]):=
 ⟨rfl,fun l o h=>by simp at h,fun l o l' o' b h=>by simp at h,fun l o b h=>by simp at h,⟨fun b hb=>⟨hb,rfl⟩,Nat.le_refl _,.rfl,rfl,rfl⟩⟩
theorem SpecOK.walk {P:Program} {f:FuncId} {S:SpecT} (h:SpecOK P f S) {args:List AV} {vs:List Value} {w:World} {ht:TabsIn w} (hr:RVs (Gam.whole w ht) [] args vs) (hk:S args [] fun v _ _=>v= .bool true):
  Calls P f vs.toArray w fun e w'=>e= .returned (.bool true)∧Still w w':=by
 refine (h args [] _ hk (Gam.whole w ht) w [] _ vs (.empty w ht) hr).mono fun e w' he=>?_
 obtain ⟨v,av,H',T,e',Fs',rfl,hav,hrv,hs,_⟩:=he
 subst hav
 simp only [RV] at hrv
 subst hrv
 exact ⟨rfl,hs.wok.still⟩
end Go.Ax
