import Derived.Test.YtbmabiedmdlinaaGreatDoorAx10
import Derived.RowKit3
import Derived.Laws.MakeOwn
import Derived.Lib.AppendZerosOnto
import Derived.Deep.Upon
import Derived.Carry
import Derived.MapKept
set_option linter.all false
namespace Go.Ax
variable [Surr] {G:Gam} {ρ:List Root} {w:World}
theorem setCells_get {α:Type}: ∀(us xs:List α) (o j:Nat),(setCells xs o us)[j]? =if o≤j∧j<o+us.length∧j<xs.length then us[j-o]? else xs[j]?
  | [],xs,o,j=>by
    rw [if_neg (by simp;omega)];rfl
  |u::us,xs,o,j=>by
    simp only [setCells]
    rw [setCells_get us]
    simp only [List.length_set,List.length_cons]
    by_cases h1:o+1≤j∧j<o+1+us.length∧j<xs.length
    · rw [if_pos h1,if_pos (by omega)]
      rw [show j-o=(j-(o+1))+1 from by omega]
      simp
    · rw [if_neg h1]
      by_cases h2:j=o
      · subst h2
        by_cases h3:j<xs.length
        · rw [List.getElem?_set_self h3,if_pos (by omega)];simp
        · rw [List.getElem?_eq_none (by simp;omega),if_neg (by omega),List.getElem?_eq_none (by omega)]
      · rw [List.getElem?_set_ne (Ne.symm h2),if_neg (by omega)]
theorem setCell_heap_same {b o:Nat} {v:Value} {c:Array Value} {ty:TypeId} {fr:Nat × Nat} (hw:w.heap[b]? =some (.cells c ty fr)):
    (w.setCell ⟨b,o,none⟩ v).heap[b]? =some (.cells (c.setIfInBounds o v) ty fr):=by
  simp only [World.setCell]
  rw [Array.getElem?_modify,if_pos rfl,hw]
  simp
theorem setCell_heap_ne {b o x:Nat} {v:Value} (h:x≠b):(w.setCell ⟨b,o,none⟩ v).heap[x]? =w.heap[x]? :=by
  simp only [World.setCell]
  rw [Array.getElem?_modify,if_neg (Ne.symm h)]
theorem setCells_heap {b:Nat} {ty:TypeId} {fz:Nat × Nat}: ∀(vs:List Value) (o:Nat) (w:World) (c:Array Value),w.heap[b]? =some (.cells c ty fz)→
    (∃c',(w.setCells b o vs).heap[b]? =some (.cells c' ty fz)∧c'.toList=setCells c.toList o vs)∧(∀x,x≠b→(w.setCells b o vs).heap[x]? =w.heap[x]?)∧
      (w.setCells b o vs).heap.size=w.heap.size∧SameOs w (w.setCells b o vs)∧(w.setCells b o vs).tape=w.tape∧(w.setCells b o vs).output=w.output
  | [],o,w,c,hw=>⟨⟨c,hw,rfl⟩,fun _ _=>rfl,rfl,.rfl,rfl,rfl⟩
  |v::vs,o,w,c,hw=>by
    obtain ⟨⟨c',h1,h2⟩,h3,h4,h5,h6,h7⟩:=setCells_heap vs (o+1) (w.setCell ⟨b,o,none⟩ v) _ (setCell_heap_same hw)
    refine ⟨⟨c',h1,?_⟩,fun x hx=>(h3 x hx).trans (setCell_heap_ne hx),?_,SameOs.trans (b:=w.setCell ⟨b,o,none⟩ v) ⟨rfl,fun _=>Nat.le_refl _⟩ h5,h6,h7⟩
    · rw [h2];simp [setCells]
    · rw [show w.setCells b o (v::vs)=(w.setCell ⟨b,o,none⟩ v).setCells b (o+1) vs from rfl,h4]
      simp [World.setCell]
theorem not_frozen {b j:Nat} {c:Array Value} {ty:TypeId} {fz:Nat × Nat} (hw:w.heap[b]? =some (.cells c ty fz)) (hz:fz=(0,0)∨c.size≤fz.1) (hj:j<c.size):w.frozen? ⟨b,j,none⟩=false:=by
  rcases hz with rfl |hz
  · simp [World.frozen?,hw]
  · simp [World.frozen?,hw];omega
theorem one_of {x:AV} {v:Value} (h:RV G ρ x v) (h1:x.one=true):v.oneCell'=true:=by
  cases x<;>simp [AV.one] at h1<;>simp only [RV] at h
  case sl=>obtain ⟨_,_,_,h⟩:=h;rcases h with ⟨_,_,rfl⟩ |⟨_,_,_,rfl⟩<;>rfl
  all_goals first
    |(subst h;rfl)
    |(obtain ⟨_,_,rfl,_⟩:=h;rfl)
    |(obtain ⟨_,_,_,_,rfl⟩:=h;rfl)
    |(obtain ⟨_,rfl,_⟩:=h;rfl)
theorem ones_of: ∀{xs:List AV} {vs:List Value} (_:RVs G ρ xs vs) (_:xs.all AV.one=true),∀v∈vs,v.oneCell'=true
  | [],vs,h,_,v,hv=>by simp only [RVs] at h;subst h;simp at hv
  |x::xs,vs,h,h1,v,hv=>by
    simp only [RVs] at h
    obtain ⟨u,us,rfl,hu,hus⟩:=h
    simp only [List.all_cons,Bool.and_eq_true] at h1
    rcases List.mem_cons.1 hv with rfl |hv
    · exact one_of hu h1.1
    · exact ones_of hus h1.2 v hv
def Unt (w w':World) (H H':AHeap) (Fs Fs':Nat→List Nat) (T:List Nat):Prop:=
  ∀l o,H[l]? =some (some o)→l∉T→H'[l]? =some (some o)∧Fs' l=Fs l∧ ∀b,b∈Fs l→w'.heap[b]? =w.heap[b]?
theorem flat_rv1 {y:AV} {u:Value} (hf:y.flat=true) (h:RV G ρ y u):RV1 G y u:=by
  cases y<;>simp [AV.flat] at hf<;>simp only [RV] at h<;>try (simp only [RV1,RV0];exact h)
  rename_i k xs
  have hk:k= .u8:=EK.num_inj (by simpa [EK.num] using hf)
  subst hk
  simp only [RV1]
  obtain ⟨a,cap,h1,h2,h4⟩:=h
  refine ⟨a,cap,h1,h2,fun hn=>?_⟩
  obtain ⟨b,o,h5,h6⟩:=h4 hn
  refine ⟨b,o,h5,fun i x hi j z hj=>?_⟩
  obtain ⟨u,hu,hr⟩:=h6 i x hi j z hj
  refine ⟨u,hu,?_⟩
  cases j with
  |zero=>simp [EK.enc] at hj;subst hj;simp only [RV1,RV0] at hr ⊢;exact hr
  |succ j=>simp [EK.enc] at hj
theorem writeCells_run {E:Env} {H:AHeap} {Fs:Nat→List Nat} (h:SatHF G ρ w H Fs) {r:Ref} {xs:List AV} {k:AHeap→Prop} (hr:writeCells H r xs k) {v:Value} (hv:RV G ρ (.ptr r) v)
    {vs:List Value} (hvs:RVs G ρ xs vs) (h1:xs.all AV.one=true):
    ∃b o H' w',v= .pointer (some ⟨b,o,none⟩)∧k H'∧(storeCells ⟨b,o,none⟩ vs).run E.P w= .ok () w'∧SatHF G ρ w' H' Fs∧Unt w w' H H' Fs Fs [r.lab]:=by
  unfold writeCells at hr
  simp only [spl_eq] at hr
  simp only [RV] at hv
  obtain ⟨t,b,ht,htb,rfl⟩:=hv
  have hvl:=hvs.len
  have hones:=ones_of hvs h1
  have main: ∀(ob ob':AObj) (c:Array Value) (ty:TypeId) (fz:Nat × Nat) (o:Nat),H[r.lab]? =some (some ob)→Fs r.lab=[b]→w.heap[b]? =some (.cells c ty fz)→(fz=(0,0)∨c.size≤fz.1)→(∀j,j<vs.length→ ∃u,c[o+j]? =some u)→
      k (H.set r.lab (some ob'))→(∀c' w',w'.heap[b]? =some (.cells c' ty fz)→c'.toList=setCells c.toList o vs→Sat G ρ w' ob' t [b])→
      ∃H' w',k H'∧(storeCells ⟨b,o,none⟩ vs).run E.P w= .ok () w'∧SatHF G ρ w' H' Fs∧Unt w w' H H' Fs Fs [r.lab]:=by
    intro ob ob' c ty fz o hl hF hw hz hin hk hsat
    obtain ⟨⟨c',g1,g2⟩,g3,g4,g5,g6,g7⟩:=setCells_heap vs o w c hw
    have hrun:=run_storeCells_cells (P:=E.P) b o vs 0 w (fun j hj=>by
        obtain ⟨u,hu⟩:=hin j hj
        simp [World.cell?,hw,hu]) (fun j hj=>by
        obtain ⟨u,hu⟩:=hin j hj
        exact not_frozen hw hz (by have:=(Array.getElem?_eq_some_iff.1 hu).1;omega)) hones
    simp only [Nat.add_zero] at hrun
    have hset:=SatH.set h hl ob' [b] (w':=w.setCells b o vs) (by rw [g4];exact Nat.le_refl _) (fun x _ hx=>g3 x (fun he=>hx (by rw [hF,he];simp))) g5 g6 g7
      (fun r' hr'=>by rw [ht] at hr';cases hr';exact hsat c' _ g1 g2) (fun y hy=>by
        simp at hy;subst hy
        have:y∈Fs r.lab:=by rw [hF];simp
        exact ⟨.inl this,by rw [g4];exact (h.free _ _ y hl this).2⟩)
    have hFs:(fun x=>if x=r.lab then [b] else Fs x)=Fs:=by
      funext x
      by_cases hx:x=r.lab
      · subst hx;simp [hF]
      · simp [hx]
    rw [hFs] at hset
    refine ⟨_,_,hk,hrun,hset,fun l o' hl' hT=>⟨?_,rfl,fun y hy=>g3 y (fun he=>?_)⟩⟩
    · have hne:l≠r.lab:=fun he=>hT (by simp [he])
      rw [List.getElem?_set_ne (Ne.symm hne)];exact hl'
    · subst he
      have:=h.apart l o' r.lab ob y hl' hl hy (by rw [hF];simp)
      exact hT (by simp [this])
  split at hr
  · rename_i cs hl
    obtain ⟨hb,hk⟩:=br_elim hr
    rw [forceL_eq,forceL_eq] at hk
    simp only [Bool.and_eq_true] at hb
    have hi:=Nat.eq_of_beq_eq_true hb.1
    have hle:=Nat.le_of_ble_eq_true hb.2
    obtain ⟨t',ht',hs⟩:=h.sat _ _ hl
    rw [ht] at ht';cases ht'
    generalize hF:Fs r.lab=F at hs
    cases hs with
    | @raw _ _ b' c ty hb' hw hc=>
      rw [htb] at hb';cases hb'
      have hget: ∀j,j<cs.length→ ∃x u,cs[j]? =some x∧c[t.off+j]? =some u∧RV G ρ x u:=fun j hj=>by
        obtain ⟨u,hu,hr⟩:=hc j _ (List.getElem?_eq_getElem hj)
        exact ⟨_,u,List.getElem?_eq_getElem hj,hu,hr⟩
      obtain ⟨H',w',hk',hrun,hsat,hun⟩:=main _ (.raw (setCells cs r.off xs)) c ty (0,0) (t.off+r.off) hl hF hw (.inl rfl) (fun j hj=>by
          obtain ⟨x,u,_,hu,_⟩:=hget (r.off+j) (by omega)
          exact ⟨u,by rw [Nat.add_assoc];exact hu⟩) hk (fun c' w' hw' hc'=>by
          refine .raw htb hw' fun j x hj=>?_
          rw [setCells_get] at hj
          have hc2:c'[t.off+j]? =(setCells c.toList (t.off+r.off) vs)[t.off+j]? :=by rw [←hc'];simp
          rw [hc2,setCells_get]
          split at hj
          · rename_i hcond
            obtain ⟨u,hu,hru⟩:=hvs.get hj
            obtain ⟨x0,u0,_,hu0,_⟩:=hget j hcond.2.2
            have hin:t.off+j<c.toList.length:=by
              have:=(Array.getElem?_eq_some_iff.1 hu0).1
              simpa using this
            rw [if_pos ⟨by omega,by omega,hin⟩]
            exact ⟨u,by rw [show t.off+j-(t.off+r.off)=j-r.off from by omega];exact hu,hru⟩
          · rename_i hcond
            obtain ⟨u,hu,hru⟩:=hc j x hj
            refine ⟨u,?_,hru⟩
            rw [if_neg ?_]
            · simpa using hu
            · rintro ⟨a1,a2,a3⟩
              have:=(List.getElem?_eq_some_iff.1 hj).1
              exact hcond ⟨by omega,by omega,this⟩)
      exact ⟨b,t.off+r.off,H',w',by simp [hi],hk',hrun,hsat,hun⟩
  · rename_i ek ys hl
    obtain ⟨hb,hlt,hk⟩:=br_elim hr
    replace hk:=hk (ys.getD r.idx ek.def) (by rw [List.getD_eq_getElem?_getD,List.getElem?_eq_getElem hlt];rfl)
    simp only [Bool.and_eq_true] at hb
    have he:=Nat.eq_of_beq_eq_true hb.1
    have hle:=Nat.le_of_ble_eq_true hb.2
    split at hk
    · rename_i z hz
      rw [forceL_eq] at hk
      have henc:=enc_dec ek _ _ hz
      obtain ⟨t',ht',hs⟩:=h.sat _ _ hl
      rw [ht] at ht';cases ht'
      generalize hF:Fs r.lab=F at hs
      cases hs with
      |rownil hb' _=>rw [htb] at hb';cases hb'
      | @row _ _ sp _ b' c ty fz hb' hw h2 h3 hc hz=>
        rw [htb] at hb';cases hb'
        have hgetd:(ys++sp)[r.idx]? =some (ys.getD r.idx ek.def):=by
          rw [List.getElem?_append_left hlt,List.getD_eq_getElem?_getD,List.getElem?_eq_getElem hlt];rfl
        have hlt':r.idx<(ys++sp).length:=by simp;omega
        have hlen0:=ek.enc_len (ys.getD r.idx ek.def)
        have hlenz:=ek.enc_len z
        obtain ⟨H',w',hk',hrun,hsat,hun⟩:=main _ (.row ek (ys.set r.idx z)) c ty fz (t.off+r.idx*ek.esz+r.off) hl hF hw (hz.imp id And.right) (fun j hj=>by
            obtain ⟨u,hu,_⟩:=hc _ _ hgetd (r.off+j) _ (List.getElem?_eq_getElem (by omega))
            exact ⟨u,by rw [Nat.add_assoc];exact hu⟩) hk (fun c' w' hw' hc'=>by
            have hsz:c'.size=c.size:=by
              have:=congrArg List.length hc'
              rw [setCells_length] at this
              simpa using this
            refine .row (sp:=sp) htb hw' (by simpa using h2) (by rw [hsz];exact h3) (fun i x hi j y hj=>?_) (by rw [hsz];exact hz)
            rw [←List.set_append_left _ _ hlt] at hi
            have hc2:c'[t.off+i*ek.esz+j]? =(setCells c.toList (t.off+r.idx*ek.esz+r.off) vs)[t.off+i*ek.esz+j]? :=by rw [←hc'];simp
            rw [hc2,setCells_get]
            have hjl:j<ek.esz:=by
              have:=(List.getElem?_eq_some_iff.1 hj).1
              rw [ek.enc_len] at this;exact this
            by_cases hir:i=r.idx
            · subst hir
              rw [List.getElem?_set_self hlt'] at hi
              simp at hi;subst hi
              rw [henc,setCells_get] at hj
              split at hj
              · rename_i hcond
                obtain ⟨u,hu,hru⟩:=hvs.get hj
                obtain ⟨u0,hu0,_⟩:=hc _ _ hgetd j _ (List.getElem?_eq_getElem hcond.2.2)
                have hin:t.off+r.idx*ek.esz+j<c.toList.length:=by
                  have:=(Array.getElem?_eq_some_iff.1 hu0).1
                  simpa using this
                rw [if_pos ⟨by omega,by omega,hin⟩]
                refine ⟨u,by rw [show t.off+r.idx*ek.esz+j-(t.off+r.idx*ek.esz+r.off)=j-r.off from by omega];exact hu,?_⟩
                refine flat_rv1 ?_ hru
                have hmem:y∈ek.enc z:=by
                  rw [henc]
                  refine List.mem_iff_getElem?.2 ⟨j,?_⟩
                  rw [setCells_get,if_pos hcond];exact hj
                exact List.all_eq_true.1 (enc_flat ek z) y hmem
              · rename_i hcond
                obtain ⟨u,hu,hru⟩:=hc _ _ hgetd j y hj
                refine ⟨u,?_,hru⟩
                rw [if_neg ?_]
                · simpa using hu
                · rintro ⟨a1,a2,a3⟩
                  have:=(List.getElem?_eq_some_iff.1 hj).1
                  exact hcond ⟨by omega,by omega,this⟩
            · rw [List.getElem?_set_ne (Ne.symm hir)] at hi
              obtain ⟨u,hu,hru⟩:=hc i x hi j y hj
              refine ⟨u,?_,hru⟩
              rw [if_neg ?_]
              · simpa using hu
              · rintro ⟨a1,a2,a3⟩
                rcases Nat.lt_or_gt_of_ne hir with hlt' |hgt'
                · have:(i+1)*ek.esz≤r.idx*ek.esz:=Nat.mul_le_mul_right _ hlt'
                  rw [Nat.add_mul] at this
                  omega
                · have:(r.idx+1)*ek.esz≤i*ek.esz:=Nat.mul_le_mul_right _ hgt'
                  rw [Nat.add_mul] at this
                  omega)
        exact ⟨b,t.off+r.idx*ek.esz+r.off,H',w',by simp [he],hk',hrun,hsat,hun⟩
    · exact hk.elim
  · exact hr.elim
end Go.Ax
namespace Go.Ax
variable [Surr] {G:Gam} {ρ:List Root} {w:World}
def ACalls (P:Program) (f:FuncId) (args:List AV) (H:AHeap) (K:AV→AHeap→List Nat→Prop):Prop:=
 ∀(G:Gam) (w:World) (ρ:List Root) (Fs:Nat→List Nat) (vs:List Value),SatHF G ρ w H Fs→RVs G ρ args vs→
  Calls P f vs.toArray w fun e w'=> ∃v av H' T e' Fs',e= .returned v∧K av H' T∧RV G (ρ++e') av v∧SatHF G (ρ++e') w' H' Fs'∧Unt w w' H H' Fs Fs' T
def SpecOK (P:Program) (f:FuncId) (S:SpecT):Prop:= ∀args H K,S args H K→ACalls P f args H K
def ExtOK (P:Program) (f:FuncId) (S:SpecT):Prop:= ∀args H K,S args H K→ ∀(G:Gam) (w:World) (ρ:List Root) (Fs:Nat→List Nat) (vs:List Value),SatHF G ρ w H Fs→RVs G ρ args vs→
 ∃v av H' T e' Fs' w',(callFunc f vs.toArray).run P w= .ok (.value v) w'∧K av H' T∧RV G (ρ++e') av v∧SatHF G (ρ++e') w' H' Fs'∧Unt w w' H H' Fs Fs' T
def Env.OK (E:Env):Prop:= ∀f S,lookN f E.spec=some S→((∃fn,E.P.funcs[f]? =some fn∧fn.body.isSome=true∧(fn.name== "runtime.NumGoroutine")=false)∧SpecOK E.P f S)∨ExtOK E.P f S
def ERes (E:Env) (G:Gam) (ρ:List Root) (w:World) (st:AS) (a:Act) (o:Oper) (Fs:Nat→List Nat) (k:KT):Prop:=
 ∀(next:Act→World→Prop) (Q:Exit→Act→World→Prop),
  (∀e av H' T Fs' u w',k av H' T→(∀x,av=some x→RV G (ρ++e) x u)→SatHF G (ρ++e) w' H' Fs'→Unt w w' st.heap H' Fs Fs' T→next (a.put o.dst u) w')→o.wp E.P a w next Q
theorem SatHF.drew {H:AHeap} {Fs:Nat→List Nat} (h:SatHF G ρ w H Fs):SatHF G ρ w.drew H Fs:=by
 have:=h.step (e:=[]) (w':=w.drew) (H':=H) (Fs':=Fs) [] (fun _=>False) (by simp) (Nat.le_refl _) (fun _ _ _=>rfl) ⟨rfl,fun _=>Nat.le_succ _⟩ rfl rfl (by simpa using h.len)
  (fun l o _ hl=>⟨hl,rfl⟩) (fun l o hT=>hT.elim) (fun l o l' o' b hT=>hT.elim)
 simpa using this
theorem alloc_heap_lt {o:Obj} {b:Nat} (h:b<w.heap.size):(w.alloc o).heap[b]? =w.heap[b]? :=by
 simp only [World.alloc]
 rw [Array.getElem?_push,if_neg (by omega)]
theorem alloc_heap_self {o:Obj}:(w.alloc o).heap[w.heap.size]? =some o:=by
 show (w.heap.push o)[w.heap.size]? =some o
 simp
theorem push_alloc {H:AHeap} {Fs:Nat→List Nat} (h:SatHF G ρ w H Fs) (ob:AObj) (r:Root) (c:Array Value) (ty:TypeId) (hs: ∀w':World,w'.heap[w.heap.size]? =some (.cells c ty)→Sat G (ρ++[r]) w' ob r [w.heap.size]):
  ∃Fs',SatHF G (ρ++[r]) (w.alloc (.cells c ty)) (H++[some ob]) Fs'∧Unt w (w.alloc (.cells c ty)) H (H++[some ob]) Fs Fs' []:=by
 have hsz:(w.alloc (.cells c ty)).heap.size=w.heap.size+1:=by show (w.heap.push _).size=_;simp
 refine ⟨_,SatH.push h ob r [w.heap.size] (w':=w.alloc (.cells c ty)) (by omega) (fun b hb=>alloc_heap_lt hb) ⟨rfl,fun _=>Nat.le_refl _⟩ rfl rfl (hs _ alloc_heap_self) (fun b hb=>by simp at hb;omega),fun l o' hl _=>⟨?_,?_,fun b hb=>?_⟩⟩
 ·exact getElem?_ext hl
 ·have:=h.lab hl
  simp;omega
 ·exact alloc_heap_lt (h.free l o' b hl hb).2
theorem raw_push {H:AHeap} {Fs:Nat→List Nat} (h:SatHF G ρ w H Fs) {cs:List AV} {c:Array Value} (ty:TypeId) (hr:RVs G ρ cs c.toList):
  ∃Fs' r,SatHF G (ρ++[r]) (w.alloc (.cells c ty)) (H++[some (.raw cs)]) Fs'∧Unt w (w.alloc (.cells c ty)) H (H++[some (.raw cs)]) Fs Fs' []∧r=⟨some w.heap.size,0,1⟩:=by
 obtain ⟨Fs',h1,h2⟩:=push_alloc h (.raw cs) ⟨some w.heap.size,0,1⟩ c ty (fun w' hw'=> .raw rfl hw' fun j x hj=>by
  obtain ⟨u,hu,hru⟩:=hr.get hj
  exact ⟨u,by simpa using hu,hru.ext⟩)
 exact ⟨Fs',_,h1,h2,rfl⟩
theorem rv_new {H:AHeap} (hl:H.length=ρ.length) {b n:Nat}:RV G (ρ++[⟨some b,0,n⟩]) (.ptr ⟨H.length,0,0,0⟩) (.pointer (some ⟨b,0,none⟩)):=by
 simp only [RV]
 exact ⟨⟨some b,0,n⟩,b,by simp [hl],rfl,by simp⟩
section
variable {E:Env} {st:AS} {a:Act} {Fs:Nat→List Nat} {k:KT} (dst:Option Tmp) (ty:TypeId) (pos:String) (af:Array Edge) (gd:Option (Nat × Bool))
variable (hT:TR G ρ st.tmps a.tmps) (hH:SatHF G ρ w st.heap Fs)
include hT hH
theorem e_alloc (e:TypeId) (h:aop E ⟨dst,.alloc e,ty,pos,af,gd⟩ st k):ERes E G ρ w st a ⟨dst,.alloc e,ty,pos,af,gd⟩ Fs k:=by
 intro next Q hn
 simp only [aop] at h
 split at h
 ·rename_i cs hz
  rw [forceL_eq] at h
  obtain ⟨i,zv,hi,hzv,hzr⟩:=zero_rv (G:=G) (ρ:=ρ) hz
  obtain ⟨Fs',r,h1,h2,rfl⟩:=raw_push hH e hzr
  have hrun:(execOp a.eval ⟨dst,.alloc e,ty,pos,af,gd⟩).run E.P w= .ok (.value (.pointer (some ⟨w.heap.size,0,none⟩))) (w.alloc (.cells zv.cells e)):=by
   simp [execOp,Instr.alloc,zeroValue,typeInfo,hi,hzv,newVar,newRow]
  unfold Oper.wp
  rw [hrun,Oper.upon_value]
  exact hn _ _ _ _ _ _ _ h (fun x hx=>by simp at hx;subst hx;exact rv_new hH.len) h1 h2
 ·exact h.elim
theorem e_box (e:TypeId) (x:Operand) (h:aop E ⟨dst,.box e x,ty,pos,af,gd⟩ st k):ERes E G ρ w st a ⟨dst,.box e x,ty,pos,af,gd⟩ Fs k:=by
 intro next Q hn
 simp only [aop] at h
 split at h
 ·rename_i v hv
  rw [forceL_eq,forceL_eq] at h
  have hr:=(eval_rv hT hv).cells
  obtain ⟨Fs',r,h1,h2,rfl⟩:=raw_push hH e hr
  have hrun:(execOp a.eval ⟨dst,.box e x,ty,pos,af,gd⟩).run E.P w= .ok (.value (.pointer (some ⟨w.heap.size,0,none⟩))) (w.alloc (.cells (a.eval x).cells e)):=by
   simp [execOp,Instr.box,newVar,newRow]
  unfold Oper.wp
  rw [hrun,Oper.upon_value]
  exact hn _ _ _ _ _ _ _ h (fun x hx=>by simp at hx;subst hx;exact rv_new hH.len) h1 h2
 ·exact h.elim
theorem e_store (t:TypeId) (x y:Operand) (h:aop E ⟨dst,.store t x y,ty,pos,af,gd⟩ st k):ERes E G ρ w st a ⟨dst,.store t x y,ty,pos,af,gd⟩ Fs k:=by
 intro next Q hn
 simp only [aop] at h
 split at h
 ·rename_i r v hr hv
  obtain ⟨hb,h2⟩:=br_elim h
  replace h2:=exposeK_elim h2
  simp only [Bool.and_eq_true] at hb
  have hc:=Nat.eq_of_beq_eq_true hb.1.1
  have hc0:E.P.cellsOf t≠0:=fun h=>by rw [h] at hb;exact absurd hb.1.2 (by decide)
  obtain ⟨i,hi,his⟩:=info_of_cells hc0
  obtain ⟨e,Fs1,hH1,hkeep,hsub⟩:=expose_sat hH r.lab
  have hrv:=(eval_rv hT hr).ext (e:=e)
  have hvv:=((eval_rv hT hv).ext (e:=e)).cells
  obtain ⟨b,o,H',w',hp,hk,hrun,hsat,hun⟩:=writeCells_run (E:=E) hH1 h2 hrv hvv hb.2
  have hlen:=hvv.len
  have hrun2:(execOp a.eval ⟨dst,.store t x y,ty,pos,af,gd⟩).run E.P w= .ok .skip w':=by
   have hsz:(a.eval y).cells.size=i.size:=by rw [his,←hc,←hlen];simp
   simp [execOp,Instr.storeAt,Instr.sureAddr,hp,storeVar,sizeOf,typeInfo,hi,hsz,hrun]
  unfold Oper.wp
  rw [hrun2,Oper.upon_skip]
  refine hn e _ _ _ Fs1 _ _ hk (fun x hx=>by simp at hx) hsat (fun l ob hl hTl=>?_)
  have hne:l≠r.lab:=fun he=>hTl (by simp [he])
  obtain ⟨h3,h4⟩:=hkeep l hne ob hl
  obtain ⟨h5,h6,h7⟩:=hun l ob h3 (by simpa using hne)
  exact ⟨h5,h4,fun b hb=>h7 b (by rw [h4];exact hb)⟩
 ·exact h.elim
theorem e_call (hE:E.OK) (f:Operand) (xs:Array Operand) (ts:Array TypeId) (h:aop E ⟨dst,.call ⟨.value f,xs,ts⟩,ty,pos,af,gd⟩ st k):ERes E G ρ w st a ⟨dst,.call ⟨.value f,xs,ts⟩,ty,pos,af,gd⟩ Fs k:=by
 intro next Q hn
 simp only [aop] at h
 cases hv:evals st xs.toList with
 |none=>simp [hv] at h
 |some vs=>
  simp only [hv] at h
  split at h
  ·rename_i g cap hf
   split at h
   ·rename_i S hS
    have hfr:=eval_rv hT hf
    simp only [RV] at hfr
    obtain ⟨cs,hfe,hcs⟩:=hfr
    have hargs:=evals_rv hT hv
    have happ: ∀{x:List AV} {u:List Value} {y:List AV} {z:List Value},RVs G ρ x u→RVs G ρ y z→RVs G ρ (x++y) (u++z):=by
     intro x
     induction x with
     |nil=>intro u y z h1 h2;simp only [RVs] at h1;subst h1;simpa using h2
     |cons c x ih=>
      intro u y z h1 h2
      simp only [RVs] at h1
      obtain ⟨v,ws,rfl,h3,h4⟩:=h1
      exact ⟨v,ws++z,rfl,h3,ih h4 h2⟩
    have harr:(xs.toList.map a.eval++cs.toList).toArray=xs.map a.eval++cs:=by
     apply Array.ext';simp
    rcases hE g S hS with ⟨⟨fn,hfn,hbody,hname⟩,hok⟩ |hext
    case inr=>
     obtain ⟨v,av,H',T,e',Fs',w',hx,hK,hrv,hsat,hun⟩:=hext _ _ _ h G w ρ Fs (xs.toList.map a.eval++cs.toList) hH (happ hargs hcs)
     rw [harr] at hx
     have hrun:(execOp a.eval ⟨dst,.call ⟨.value f,xs,ts⟩,ty,pos,af,gd⟩).run E.P w= .ok (.value v) w':=by
      simp only [execOp,resolve,Sem.run_bind,Sem.run_pure,Result.andThen_ok,Deferred.ofValue,hfe]
      simpa [invoke] using hx
     unfold Oper.wp
     rw [hrun,Oper.upon_value]
     exact hn e' _ _ _ _ _ _ hK (fun x hx=>by simp at hx;subst hx;exact hrv) hsat hun
    have hrun:(execOp a.eval ⟨dst,.call ⟨.value f,xs,ts⟩,ty,pos,af,gd⟩).run E.P w= .ok (.enter g (xs.map a.eval++cs)) w:=by
     have hb3: ¬ fn.body=none:=fun h=>by rw [h] at hbody;exact absurd hbody (by decide)
     have hn1: ¬ fn.name= "runtime.NumGoroutine" :=by simpa using hname
     simp only [execOp,resolve,Sem.run_bind,Sem.run_pure,Result.andThen_ok,Deferred.ofValue,hfe]
     simp [invoke,callFunc,hfn,hb3,hn1]
    unfold Oper.wp
    rw [hrun,Oper.upon_enter]
    have hc:=hok _ _ _ h G w ρ Fs (xs.toList.map a.eval++cs.toList) hH (happ hargs hcs)
    rw [harr] at hc
    refine hc.mono fun e w' he=>?_
    obtain ⟨v,av,H',T,e',Fs',rfl,hK,hrv,hsat,hun⟩:=he
    exact hn e' _ _ _ _ _ _ hK (fun x hx=>by simp at hx;subst hx;exact hrv) hsat hun
   ·exact h.elim
  ·rename_i g cap hf
   split at h
   ·rename_i S hS
    have hfr:=eval_rv hT hf
    simp only [RV] at hfr
    obtain ⟨cs,hfe,hcs⟩:=hfr
    have hargs:=evals_rv hT hv
    have happ: ∀{x:List AV} {u:List Value} {y:List AV} {z:List Value},RVs G ρ x u→RVs G ρ y z→RVs G ρ (x++y) (u++z):=by
     intro x
     induction x with
     |nil=>intro u y z h1 h2;simp only [RVs] at h1;subst h1;simpa using h2
     |cons c x ih=>
      intro u y z h1 h2
      simp only [RVs] at h1
      obtain ⟨v,ws,rfl,h3,h4⟩:=h1
      exact ⟨v,ws++z,rfl,h3,ih h4 h2⟩
    have harr:(cs.toList++xs.toList.map a.eval).toArray=cs++xs.map a.eval:=by
     apply Array.ext';simp
    rcases hE g S hS with ⟨⟨fn,hfn,hbody,hname⟩,hok⟩ |hext
    case inr=>
     obtain ⟨v,av,H',T,e',Fs',w',hx,hK,hrv,hsat,hun⟩:=hext _ _ _ h G w ρ Fs (cs.toList++xs.toList.map a.eval) hH (happ hcs hargs)
     rw [harr] at hx
     have hrun:(execOp a.eval ⟨dst,.call ⟨.value f,xs,ts⟩,ty,pos,af,gd⟩).run E.P w= .ok (.value v) w':=by
      simp only [execOp,resolve,Sem.run_bind,Sem.run_pure,Result.andThen_ok,Deferred.ofValue,hfe]
      simpa [invoke] using hx
     unfold Oper.wp
     rw [hrun,Oper.upon_value]
     exact hn e' _ _ _ _ _ _ hK (fun x hx=>by simp at hx;subst hx;exact hrv) hsat hun
    have hrun:(execOp a.eval ⟨dst,.call ⟨.value f,xs,ts⟩,ty,pos,af,gd⟩).run E.P w= .ok (.enter g (cs++xs.map a.eval)) w:=by
     have hb3: ¬ fn.body=none:=fun h=>by rw [h] at hbody;exact absurd hbody (by decide)
     have hn1: ¬ fn.name= "runtime.NumGoroutine" :=by simpa using hname
     simp only [execOp,resolve,Sem.run_bind,Sem.run_pure,Result.andThen_ok,Deferred.ofValue,hfe]
     simp [invoke,callFunc,hfn,hb3,hn1]
    unfold Oper.wp
    rw [hrun,Oper.upon_enter]
    have hc:=hok _ _ _ h G w ρ Fs (cs.toList++xs.toList.map a.eval) hH (happ hcs hargs)
    rw [harr] at hc
    refine hc.mono fun e w' he=>?_
    obtain ⟨v,av,H',T,e',Fs',rfl,hK,hrv,hsat,hun⟩:=he
    exact hn e' _ _ _ _ _ _ hK (fun x hx=>by simp at hx;subst hx;exact hrv) hsat hun
   ·exact h.elim
  ·exact h.elim
end
end Go.Ax
namespace Go.Ax
variable [Surr] {G:Gam} {ρ:List Root} {w:World}
theorem decRows_spec (ek:EK): ∀(n:Nat) (cs:List AV) (xs:List ek.T),decRows ek n cs=some xs→
  xs.length=n∧ ∀(i:Nat) (x:ek.T),xs[i]? =some x→ ∀(j:Nat) (y:AV),(ek.enc x)[j]? =some y→cs[i*ek.esz+j]? =some y
 |0,cs,xs,h=>by simp [decRows] at h;subst h;simp
 |n+1,cs,xs,h=>by
  simp only [decRows] at h
  split at h
  ·rename_i x ys hx hys
   simp at h;subst h
   obtain ⟨h1,h2⟩:=decRows_spec ek n _ ys hys
   have henc:=enc_dec ek _ _ hx
   refine ⟨by simp [h1],fun i z hi j y hj=>?_⟩
   cases i with
   |zero=>
    simp at hi;subst hi
    rw [henc] at hj
    have hjl:j<ek.esz:=by
     have:=(List.getElem?_eq_some_iff.1 hj).1
     simp at this;omega
    rw [List.getElem?_take_of_lt hjl] at hj
    simpa using hj
   |succ i=>
    simp at hi
    have:=h2 i z hi j y hj
    rw [List.getElem?_drop] at this
    rw [←this]
    congr 1
    rw [Nat.add_mul];omega
  ·simp at h
theorem fillA_length {place:Nat→Option (Nat × Nat)}: ∀{ps:List (Nat × AV)} {cs out:List AV},fillA place cs ps=some out→out.length=cs.length
 | [],cs,out,h=>by simp [fillA] at h;rw [h]
 |(i,x)::ps,cs,out,h=>by
  simp only [fillA] at h
  split at h
  ·simp at h
  ·rename_i off size hpl
   cases hb:(Nat.beq x.cells.length size&&Nat.ble (off+x.cells.length) cs.length) with
   |false=>simp [hb] at h
   |true=>
    simp only [hb,cond_true,spl_eq] at h
    rw [fillA_length h,setCells_length]
theorem row_push {H:AHeap} {Fs:Nat→List Nat} (h:SatHF G ρ w H Fs) (ek:EK) (xs:List ek.T) {c:Array Value} (ty:TypeId) (tot:Nat) (sp:List ek.T) (ht:xs.length+sp.length=tot) (hc:tot*ek.esz≤c.size)
  (hr: ∀(i:Nat) (x:ek.T),(xs++sp)[i]? =some x→ ∀(j:Nat) (y:AV),(ek.enc x)[j]? =some y→ ∃u,c[i*ek.esz+j]? =some u∧RV1 G y u):
  ∃Fs',SatHF G (ρ++[⟨some w.heap.size,0,tot⟩]) (w.alloc (.cells c ty)) (H++[some (.row ek xs)]) Fs'∧Unt w (w.alloc (.cells c ty)) H (H++[some (.row ek xs)]) Fs Fs' []:=
 push_alloc h (.row ek xs) ⟨some w.heap.size,0,tot⟩ c ty (fun w' hw'=> .row rfl hw' ht (by simpa using hc) (by simpa using hr) (.inl rfl))
theorem rv_row {H:AHeap} (hl:H.length=ρ.length) {b tot esz n:Nat} (hn:n≤tot) (hz:n=0→tot≠0∨True):RV G (ρ++[⟨some b,0,tot⟩]) (.sl H.length esz 0 n) (.slice (some ⟨b,0,none⟩) n tot):=by
 simp only [RV]
 exact ⟨⟨some b,0,tot⟩,by simp [hl],by simpa using hn,.inl ⟨b,rfl,by simp⟩⟩
section
variable {E:Env} {st:AS} {a:Act} {Fs:Nat→List Nat} {k:KT} (dst:Option Tmp) (ty:TypeId) (pos:String) (af:Array Edge) (gd:Option (Nat × Bool))
variable (hT:TR G ρ st.tmps a.tmps) (hH:SatHF G ρ w st.heap Fs)
include hT hH
theorem e_buildSlice (t:TypeId) (n:Nat) (parts:Array (Nat × Operand)) (h:aop E ⟨dst,.buildSlice t n parts,ty,pos,af,gd⟩ st k):ERes E G ρ w st a ⟨dst,.buildSlice t n parts,ty,pos,af,gd⟩ Fs k:=by
 intro next Q hn
 simp only [aop] at h
 split at h
 ·rename_i e ps hu hp
  split at h
  ·rename_i ek z hek hz
   split at h
   ·obtain ⟨hb,h2⟩:=br_elim h
    rw [forceL_eq] at h2
    have he:=Nat.eq_of_beq_eq_true hb
    obtain ⟨i,zv,hi,hzv,hzr⟩:=zero_rv (G:=G) (ρ:=ρ) hz
    have hpt:parts.toList=[]:=by
     cases hpl:parts.toList with
     |nil=>rfl
     |cons p r=>
      rw [hpl] at hp
      simp only [evalParts] at hp
      split at hp<;>simp at hp
    obtain ⟨Fs',hs1,hs2⟩:=row_push (c:= #[]) hH ek [] e 0 [] (by simp) (by simp) (fun i x hi j y hj=>by simp at hi)
    have hrun:(execOp a.eval ⟨dst,.buildSlice t 0 parts,ty,pos,af,gd⟩).run E.P w= .ok (.value (.slice (some ⟨w.heap.size,0,none⟩) 0 0)) (w.alloc (.cells #[] e)):=by
     have hpa:parts= #[]:=by apply Array.ext';simpa using hpt
     subst hpa
     simp only [execOp,Instr.buildSlice]
     simp [run_und hu,sizeOf,typeInfo,hi,newRow,Instr.fill]
     rw [show Array.range 0= #[] from by apply Array.ext';simp,Array.map_empty]
    unfold Oper.wp
    rw [hrun,Oper.upon_value]
    exact hn _ _ _ _ _ _ _ h2 (fun x hx=>by simp at hx;subst hx;exact rv_row hH.len (Nat.le_refl _) (fun _=> .inr trivial)) hs1 hs2
   obtain ⟨hb,h2⟩:=br_elim h
   simp only [Bool.and_eq_true] at hb
   have he:=Nat.eq_of_beq_eq_true hb.1.1.1
   have hle:=Nat.le_of_ble_eq_true hb.1.1.2
   have h1n:=Nat.le_of_ble_eq_true hb.1.2
   have hzn:=Nat.eq_of_beq_eq_true hb.2
   split at h2
   ·rename_i cs hcs
    split at h2
    ·rename_i xs hxs
     rw [forceL_eq,forceL_eq] at h2
     obtain ⟨i,zv,hi,hzv,hzr⟩:=zero_rv (G:=G) (ρ:=ρ) hz
     have hsz:i.size=ek.esz:=by rw [←he];simp [Program.cellsOf,hi]
     have hzl:=hzr.len
     simp at hzl
     have hpos:=ek.esz_pos
     have hbase:RVs G ρ ((List.range (n*ek.esz)).map fun i=>z.getD (i%z.length) .nilp) ((Array.range (n*ek.esz)).map (zv.cells[· %zv.cells.size]!)).toList:=by
      ·refine RVs.of_get (by simp) fun j x hj=>?_
       have hjl:j<n*ek.esz:=by
        have:=(List.getElem?_eq_some_iff.1 hj).1
        simpa using this
       simp [hjl] at hj
       have hm:j%z.length<z.length:=Nat.mod_lt _ (by omega)
       obtain ⟨u,hu,hru⟩:=hzr.get (List.getElem?_eq_getElem hm)
       refine ⟨u,?_,?_⟩
       ·simp [hjl,hzl]
        simp at hu
        rw [getElem!_def,hu]
       ·rw [List.getElem?_eq_getElem hm] at hj
        simp at hj;subst hj;exact hru
     obtain ⟨cells,hf,hr⟩:=fill_rv (parts_rv hT hp) hbase hcs
     obtain ⟨hlen,hspec⟩:=decRows_spec ek n cs xs hxs
     have hcl:=hr.len
     have hcsl:cs.length=n*ek.esz:=by
      rw [fillA_length hcs];simp
     simp at hcl
     obtain ⟨Fs',hs1,hs2⟩:=row_push (c:=cells) hH ek xs e n [] (by simp;omega) (by omega) (fun i x hi j y hj=>by
      rw [List.append_nil] at hi
      obtain ⟨u,hu,hru⟩:=hr.get (hspec i x hi j y hj)
      exact ⟨u,by simpa using hu,flat_rv1 (List.all_eq_true.1 (enc_flat ek x) y (List.mem_iff_getElem?.2 ⟨j,hj⟩)) hru⟩)
     have hrun:(execOp a.eval ⟨dst,.buildSlice t n parts,ty,pos,af,gd⟩).run E.P w= .ok (.value (.slice (some ⟨w.heap.size,0,none⟩) n n)) (w.alloc (.cells cells e)):=by
      have hne: ¬ (n*ek.esz=0):=by
       have:1*1≤n*ek.esz:=Nat.mul_le_mul h1n hpos
       omega
      have hsmall: ¬ (n*ek.esz>16777216):=by omega
      simp only [execOp,Instr.buildSlice]
      simp [run_und hu,sizeOf,typeInfo,zeroValue,hi,hzv,hsz,hne,hsmall,hf,newRow]
     unfold Oper.wp
     rw [hrun,Oper.upon_value]
     exact hn _ _ _ _ _ _ _ h2 (fun x hx=>by simp at hx;subst hx;exact rv_row hH.len (Nat.le_refl _) (fun _=> .inr trivial)) hs1 hs2
    ·exact h2.elim
   ·exact h2.elim
  ·exact h.elim
 ·exact h.elim
theorem e_makeSlice (t:TypeId) (l c:Operand) (h:aop E ⟨dst,.makeSlice t l c,ty,pos,af,gd⟩ st k):ERes E G ρ w st a ⟨dst,.makeSlice t l c,ty,pos,af,gd⟩ Fs k:=by
 intro next Q hn
 simp only [aop] at h
 split at h
 ·rename_i e kl ln kc cn hu hl hc
  split at h
  ·rename_i ek z ie hek hz hie
   split at h
   ·rename_i x0 hx0
    obtain ⟨hb,⟨hl0,hlc,hc0⟩,h2⟩:=br_elim h
    rw [forceL_eq] at h2
    simp only [Bool.and_eq_true] at hb
    have he:=Nat.eq_of_beq_eq_true hb.1.1
    have hzl:=Nat.eq_of_beq_eq_true hb.1.2
    have hby:=Nat.le_of_ble_eq_true hb.2
    have hsz:ie.size=ek.esz:=by rw [←he];simp [Program.cellsOf,hie]
    obtain ⟨iz,zv,hiz,hzv,hzr⟩:=zero_rv (G:=G) (ρ:=ρ) hz
    rw [hie] at hiz;cases hiz
    have hzc:=hzr.len
    simp at hzc
    have henc:=enc_dec ek z x0 hx0
    have hlv:=rv_int (eval_rv hT hl)
    have hcv:=rv_int (eval_rv hT hc)
    obtain ⟨n,rfl⟩:=Int.eq_ofNat_of_zero_le hl0
    obtain ⟨m,rfl⟩:=Int.eq_ofNat_of_zero_le (show 0≤cn by omega)
    simp only [Int.toNat_natCast] at h2
    have hpos:=ek.esz_pos
    have hbm:(ie.bytes:Int)*(m:Int)≤281474976710656:=by
     have h1:ie.bytes*m≤1024*68719476736:=Nat.mul_le_mul hby (by omega)
     have h2:((ie.bytes*m:Nat):Int)≤281474976710656:=by omega
     rwa [Int.natCast_mul] at h2
    have hrun0:=run_make (P:=E.P) w t e ie zv hu hie hzv kl kc n m (by omega) (by omega) hbm (by omega)
    simp only [Int.toNat_natCast] at hrun0
    have hall: ∀(i:Nat) (x:ek.T),(List.replicate n x0++List.replicate (m-n) x0)[i]? =some x→x=x0∧i<m:=fun i x hi=>by
     rw [List.replicate_append_replicate,List.getElem?_replicate] at hi
     split at hi
     ·cases hi;exact ⟨rfl,by omega⟩
     ·cases hi
    obtain ⟨Fs',hs1,hs2⟩:=row_push (c:=madeCells zv.cells (m*ie.size)) hH ek (List.replicate n x0) e m (List.replicate (m-n) x0) (by simp;omega) (by rw [size_madeCells,hsz];exact Nat.le_refl _) (fun i x hi j y hj=>by
     obtain ⟨rfl,him⟩:=hall i x hi
     rw [henc] at hj
     have hjl:j<ek.esz:=by
      have:=(List.getElem?_eq_some_iff.1 hj).1
      omega
     obtain ⟨u,hu',hru⟩:=hzr.get hj
     refine ⟨u,?_,flat_rv1 (List.all_eq_true.1 (enc_flat ek x) y (by rw [henc];exact List.mem_iff_getElem?.2 ⟨j,hj⟩)) hru⟩
     have hlt:i*ek.esz+j<m*ie.size:=by
      rw [hsz]
      have:(i+1)*ek.esz≤m*ek.esz:=Nat.mul_le_mul_right _ him
      rw [Nat.add_mul] at this
      omega
     have hmod:(i*ek.esz+j)%zv.cells.size=j:=by
      rw [hzc,hzl,Nat.mul_comm,Nat.mul_add_mod]
      exact Nat.mod_eq_of_lt hjl
     unfold madeCells
     simp [hlt,hmod]
     simp at hu'
     rw [getElem!_def,hu'])
    have hrun:(execOp a.eval ⟨dst,.makeSlice t l c,ty,pos,af,gd⟩).run E.P w= .ok (.value (.slice (some ⟨w.heap.size,0,none⟩) n m)) (w.alloc (.cells (madeCells zv.cells (m*ie.size)) e)):=by
     simp only [execOp,hlv,hcv]
     simp [hrun0]
    unfold Oper.wp
    rw [hrun,Oper.upon_value]
    exact hn _ _ _ _ _ _ _ h2 (fun x hx=>by simp at hx;subst hx;exact rv_row hH.len (by omega) (fun _=> .inr trivial)) hs1 hs2
   ·exact h.elim
  ·exact h.elim
 ·exact h.elim
end
end Go.Ax
namespace Go.Ax
variable [Surr] {G:Gam} {ρ:List Root} {w:World}
def rowCells (f:Nat→Value) (o n:Nat):List Value:=(List.range n).map fun j=>f (o+j)
theorem rowOf_src {P:Program} {ek:EK} {H:AHeap} {Fs:Nat→List Nat} (hH:SatHF G ρ w H Fs) {x:AV} {K:List ek.T→Prop} (h:rowOf ek H x K) {v:Value} (hv:RV G ρ x v) {tx e':TypeId} (htx:P.underlying tx=some (.slice e')):
  ∃ys news,K ys∧Src P ek.esz tx v ys.length news w∧ ∀(i:Nat) (y:ek.T),ys[i]? =some y→ ∀(j:Nat) (z:AV),(ek.enc y)[j]? =some z→ ∃u,news[i*ek.esz+j]? =some u∧RV1 G z u:=by
 have cells: ∀(ys:List ek.T) (b o:Nat) (n c:Nat),n=ys.length→(∀(i:Nat) (y:ek.T),ys[i]? =some y→ ∀(j:Nat) (z:AV),(ek.enc y)[j]? =some z→ ∃u,w.cell? ⟨b,o+(i*ek.esz+j),none⟩=some u∧RV1 G z u)→
   ∃news,Src P ek.esz tx (.slice (some ⟨b,o,none⟩) n c) ys.length news w∧ ∀(i:Nat) (y:ek.T),ys[i]? =some y→ ∀(j:Nat) (z:AV),(ek.enc y)[j]? =some z→ ∃u,news[i*ek.esz+j]? =some u∧RV1 G z u:=by
  intro ys b o n c hn hc
  subst hn
  have hin: ∀m,m<ys.length*ek.esz→ ∃u z,w.cell? ⟨b,o+m,none⟩=some u∧RV1 G z u∧z.flat=true:=by
   intro m hm
   have hpos:=ek.esz_pos
   have hi:m/ek.esz<ys.length:=(Nat.div_lt_iff_lt_mul hpos).2 hm
   have hj:m%ek.esz<ek.esz:=Nat.mod_lt _ hpos
   have hlen:=ek.enc_len ys[m/ek.esz]
   obtain ⟨u,hu,hr⟩:=hc (m/ek.esz) _ (List.getElem?_eq_getElem hi) (m%ek.esz) _ (List.getElem?_eq_getElem (by omega))
   have hdm:m/ek.esz*ek.esz+m%ek.esz=m:=by
    rw [Nat.mul_comm];exact Nat.div_add_mod m ek.esz
   rw [hdm] at hu
   exact ⟨u,_,hu,hr,List.all_eq_true.1 (enc_flat ek _) _ (List.getElem_mem _)⟩
  let f:Nat→Value:=fun m=>(w.cell? ⟨b,o+m,none⟩).getD undef
  refine ⟨(List.range (ys.length*ek.esz)).map f,Src.ofSlice w htx ⟨b,o,none⟩ _ c _ (by simp) (fun j u hj=>?_) (fun u hu=>?_),fun i y hi j z hj=>?_⟩
  ·have hjl:j<ys.length*ek.esz:=by
    have:=(List.getElem?_eq_some_iff.1 hj).1
    simpa using this
   obtain ⟨u',z,hu',_⟩:=hin j hjl
   simp [hjl,f] at hj
   rw [addr_add,←hj,hu']
   rfl
  ·obtain ⟨m,hm,rfl⟩:=List.mem_map.1 hu
   obtain ⟨u',z,hu',hr,hfl⟩:=hin m (by simpa using hm)
   simp only [f,hu']
   refine one_of (G:=G) (ρ:=ρ) hr.rv ?_
   cases z<;>simp [AV.flat] at hfl<;>rfl
  ·obtain ⟨u,hu,hr⟩:=hc i y hi j z hj
   have hil:=(List.getElem?_eq_some_iff.1 hi).1
   have hjl:j<ek.esz:=by
    have:=(List.getElem?_eq_some_iff.1 hj).1
    rw [ek.enc_len] at this;exact this
   have hlt:i*ek.esz+j<ys.length*ek.esz:=by
    have:(i+1)*ek.esz≤ys.length*ek.esz:=Nat.mul_le_mul_right _ hil
    rw [Nat.add_mul] at this;omega
   exact ⟨u,by simp [hlt,f,hu],hr⟩
 have empty: ∀(a:Option Addr) (c:Nat),Src P ek.esz tx (.slice a 0 c) 0 [] w:=by
  intro a c
  cases a with
  |none=>exact Src.ofNil w htx c
  |some a=>exact Src.ofSlice w htx a 0 c [] (by simp) (by simp) (by simp)
 unfold rowOf at h
 cases x
 case nils=>
  simp only [RV] at hv;subst hv
  exact ⟨[],[],h,empty none 0,by simp⟩
 case imm e2 ys=>
  simp only [] at h
  split at h
  ·rename_i he
   subst he
   simp only [RV] at hv
   obtain ⟨ad,c,rfl,_,hc⟩:=hv
   by_cases hn:ys.length=0
   ·have:ys=[]:=List.eq_nil_of_length_eq_zero hn
    subst this
    exact ⟨[],[],h,empty ad c,by simp⟩
   ·obtain ⟨b,o,rfl,hcc⟩:=hc (by omega)
    obtain ⟨news,h1,h2⟩:=cells ys b o ys.length c rfl (fun i y hi j z hj=>by
     obtain ⟨u,hu,hr⟩:=hcc i y hi j z hj
     refine ⟨u,?_,?_⟩
     ·rw [←Nat.add_assoc];exact imm_cell hH.wok hu
     ·exact hr)
    exact ⟨ys,news,h,h1,h2⟩
  ·exact h.elim
 case sl lab es base n=>
  simp only [] at h
  split at h
  ·rename_i e2 ys hl
   split at h
   ·rename_i he
    subst he
    obtain ⟨hes,hle,h⟩:=br_elim h
    have hes:=Nat.eq_of_beq_eq_true hes
    simp only [RV] at hv
    obtain ⟨t,ht,htot,hv⟩:=hv
    rcases hv with ⟨b,hb,rfl⟩ |⟨hn0,htb,aa,rfl⟩
    ·obtain ⟨t',ht',hs⟩:=hH.sat _ _ hl
     rw [ht] at ht';cases ht'
     generalize hF:Fs lab=F at hs
     cases hs with
     |rownil hb' _=>rw [hb] at hb';cases hb'
     | @row _ _ sp _ b' c ty fz hb' hw h2 h3 hc hz=>
      rw [hb] at hb';cases hb'
      obtain ⟨news,g1,g2⟩:=cells ((ys.drop base).take n) b (t.off+base*es) n (t.tot-base) (by simp;omega) (fun i y hi j z hj=>by
       have hin:i<n:=by
        have:=(List.getElem?_eq_some_iff.1 hi).1
        simp at this;omega
       rw [List.getElem?_take_of_lt hin,List.getElem?_drop] at hi
       obtain ⟨u,hu,hr⟩:=hc _ y (getElem?_ext hi) j z hj
       refine ⟨u,?_,hr⟩
       simp only [World.cell?,hw,Option.isSome_none,Bool.false_eq_true,if_false]
       rw [←hu];congr 1
       rw [hes,Nat.add_mul];omega)
      have hlen:((ys.drop base).take n).length=n:=by simp;omega
      exact ⟨_,news,h,g1,g2⟩
    ·subst hn0
     have:(ys.drop base).take 0=[]:=by simp
     rw [this] at h
     exact ⟨[],[],h,empty aa 0,by simp⟩
   ·exact h.elim
  ·exact h.elim
 all_goals exact h.elim
end Go.Ax
namespace Go.Ax
variable [Surr] {G:Gam} {ρ:List Root} {w:World}
theorem news_len {P:Program} {size:Nat} {tx:TypeId} {v:Value} {n:Nat} {news:List Value} (h:Src P size tx v n news w):news.length=n*size:=h.newsLen
section
variable {E:Env} {st:AS} {a:Act} {Fs:Nat→List Nat} {k:KT} (dst:Option Tmp) (ty:TypeId) (pos:String) (af:Array Edge) (gd:Option (Nat × Bool))
variable (hT:TR G ρ st.tmps a.tmps) (hH:SatHF G ρ w st.heap Fs)
include hT hH
omit hT hH in
theorem spare_zero {ek:EK} {z:List AV} {x0:ek.T} (hz:ek.dec z=some x0) {zv:Array Value} (hr:RVs G ρ z zv.toList) (hzl:z.length=ek.esz) (m cnt:Nat) {pre:Array Value} (hp:pre.size=m*ek.esz):
    ∀i,i<cnt→ ∀(j:Nat) (y:AV),(ek.enc x0)[j]? =some y→ ∃u,(pre++Builtin.zeroCells zv cnt)[(m+i)*ek.esz+j]? =some u∧RV1 G y u:=by
  intro i hi j y hj
  have hfl:=List.all_eq_true.1 (enc_flat ek x0) y (List.mem_of_getElem? hj)
  rw [enc_dec ek z x0 hz] at hj
  obtain ⟨v,hv,hrv⟩:=hr.get hj
  have hjl:j<ek.esz:=by
    have:=(List.getElem?_eq_some_iff.1 hj).1
    omega
  have hzs:zv.size=ek.esz:=by
    have:=hr.len
    simp at this;omega
  refine ⟨v,?_,flat_rv1 hfl hrv⟩
  have h1:(i+1)*ek.esz≤cnt*ek.esz:=Nat.mul_le_mul_right _ hi
  rw [Nat.add_mul] at h1
  rw [Array.getElem?_append_right (by rw [hp,Nat.add_mul];omega),hp,Nat.add_mul]
  rw [show m*ek.esz+i*ek.esz+j-m*ek.esz=i*ek.esz+j by omega]
  unfold Builtin.zeroCells
  rw [hzs]
  have hlt:i*ek.esz+j<cnt*ek.esz:=by omega
  have hmod:(i*ek.esz+j)%ek.esz=j:=by
    rw [Nat.add_comm,Nat.add_mul_mod_self_right,Nat.mod_eq_of_lt hjl]
  simp [hlt,hmod]
  simp at hv
  rw [getElem!_def,hv]
omit hT hH in
theorem capOf_rv {lab:Nat}: ∀{ts:List (Option AV)} {base:Nat} {c:Int},(∀(s:Nat) (x:AV),ts[s]? =some (some x)→ ∃v,RV G ρ x v)→capOf lab ts=some (base,c)→ ∃t,ρ[lab]? =some t∧((t.tot-base:Nat):Int)=c
  | [],base,c,_,h=>by simp [capOf] at h
  |none::r,base,c,hs,h=>by
    simp only [capOf] at h
    exact capOf_rv (fun s x hx=>hs (s+1) x (by simpa using hx)) h
  |some x::r,base,c,hs,h=>by
    have hr:capOf lab r=some (base,c)→ ∃t,ρ[lab]? =some t∧((t.tot-base:Nat):Int)=c:=fun h=>capOf_rv (fun s x hx=>hs (s+1) x (by simpa using hx)) h
    cases x<;>simp only [capOf] at h<;>first |exact hr h |skip
    rename_i l b c'
    split at h
    · rename_i hb
      cases h
      have e1:=Nat.eq_of_beq_eq_true hb
      subst e1
      obtain ⟨v,hv⟩:=hs 0 _ rfl
      simp only [RV] at hv
      exact hv.2
    · exact hr h
theorem e_appz (xs:Array Operand) (ts:Array TypeId) {lab es base n:Nat} {ki:IntKind} {m:Int} (hv:evals st xs.toList=some [.sl lab es base n,.int ki m]) (h:appz E ts lab es base n m st.tmps st.heap fun v H T=>k (some v) H T):
    ERes E G ρ w st a ⟨dst,.call ⟨.builtin .append,xs,ts⟩,ty,pos,af,gd⟩ Fs k:=by
  intro next Q hn
  have hr:=evals_rv hT hv
  simp only [RVs] at hr
  obtain ⟨sv,ws,hxs,hs,xv,ws2,rfl,hx,rfl⟩:=hr
  have hxs':xs.map a.eval= #[sv,xv]:=by
    apply Array.ext';simpa using hxs
  simp only [RV] at hx
  subst hx
  unfold appz at h
  split at h
  · rename_i t tx hts
    have hts':ts= #[t,tx]:=by apply Array.ext';simpa using hts
    split at h
    · rename_i e kn hu hux
      split at h
      · rename_i ek z ie b0 c0 e2 rs hek hz hie hcap hl
        split at h
        · rename_i he2
          subst he2
          split at h
          · rename_i x0 hx0
            obtain ⟨hb,⟨hb0,hle,hn0,hm0,hsm,hc0⟩,hk⟩:=br_elim h
            have hb0:=hb0.symm
            subst hb0
            rw [forceL_eq] at hk
            simp only [Bool.and_eq_true] at hb
            have he:=Nat.eq_of_beq_eq_true hb.1.1.1
            have hzl:=Nat.eq_of_beq_eq_true hb.1.1.2
            have hby:=Nat.le_of_ble_eq_true hb.1.2
            have hes:=Nat.eq_of_beq_eq_true hb.2
            obtain ⟨m,rfl⟩:=Int.eq_ofNat_of_zero_le (show 0≤m by omega)
            simp only [Int.toNat_natCast] at hk
            have hsz:ie.size=e2.esz:=by rw [←he];simp [Program.cellsOf,hie]
            obtain ⟨iz,zv,hiz,hzv,hzr⟩:=zero_rv (G:=G) (ρ:=ρ) hz
            rw [hie] at hiz;cases hiz
            have hzc:=hzr.len
            simp at hzc
            obtain ⟨tc,htc,hcc⟩:=capOf_rv (G:=G) (ρ:=ρ) (fun s x hx=>let ⟨v,_,hr⟩:=hT.2 s x hx;⟨v,hr⟩) hcap
            have hsv:=hs
            simp only [RV] at hsv
            obtain ⟨tt,htt,htot,hsv⟩:=hsv
            have e0:tt=tc:=by rw [htt] at htc;cases htc;rfl
            subst e0
            have hlt:tt.tot-base<n+m:=by omega
            have hll:((rs.drop base).take n).length=n:=by simp;omega
            rcases hsv with ⟨b,hbk,hsv⟩ |⟨hn0',_⟩
            · obtain ⟨t',ht',hsat⟩:=hH.sat _ _ hl
              rw [htt] at ht';cases ht'
              generalize hF:Fs lab=F at hsat
              cases hsat with
              |rownil hb' _=>rw [hbk] at hb';cases hb'
              | @row _ _ sp _ b' c ty' fz hb' hw h2 h3 hc hz=>
                rw [hbk] at hb';cases hb'
                rw [hes] at hsv
                have hold: ∀(i:Nat) (y:e2.T),((rs.drop base).take n)[i]? =some y→ ∀(j:Nat) (z:AV),(e2.enc y)[j]? =some z→ ∃u,c[tt.off+base*e2.esz+(i*e2.esz+j)]? =some u∧RV1 G z u:=fun i y hi j z hj=>by
                  have hin:i<n:=by
                    have:=(List.getElem?_eq_some_iff.1 hi).1
                    omega
                  rw [List.getElem?_take_of_lt hin,List.getElem?_drop] at hi
                  obtain ⟨u,hu',hru⟩:=hc _ y (getElem?_ext hi) j z hj
                  refine ⟨u,?_,hru⟩
                  rw [←hu'];congr 1
                  rw [Nat.add_mul];omega
                have hcell: ∀m,m<n*e2.esz→ ∃u,c[tt.off+base*e2.esz+m]? =some u∧u.oneCell'=true:=by
                  intro m hm
                  have hpos:=e2.esz_pos
                  have hi:m/e2.esz<n:=(Nat.div_lt_iff_lt_mul hpos).2 hm
                  have hj:m%e2.esz<e2.esz:=Nat.mod_lt _ hpos
                  have hi':m/e2.esz<((rs.drop base).take n).length:=by omega
                  have hlen:=e2.enc_len ((rs.drop base).take n)[m/e2.esz]
                  obtain ⟨u,hu',hru⟩:=hold _ _ (List.getElem?_eq_getElem hi') (m%e2.esz) _ (List.getElem?_eq_getElem (by omega))
                  have hdm:m/e2.esz*e2.esz+m%e2.esz=m:=by
                    rw [Nat.mul_comm];exact Nat.div_add_mod m e2.esz
                  rw [hdm] at hu'
                  have hfl:=List.all_eq_true.1 (enc_flat e2 ((rs.drop base).take n)[m/e2.esz]) _ (List.getElem_mem (h:=(by omega:m%e2.esz<_)))
                  refine ⟨u,hu',one_of (G:=G) (ρ:=ρ) hru.rv ?_⟩
                  revert hfl
                  generalize (e2.enc ((rs.drop base).take n)[m/e2.esz])[m%e2.esz]=q
                  intro hfl
                  cases q<;>simp [AV.flat] at hfl<;>rfl
                let f:Nat→Value:=fun m=>(c[tt.off+base*e2.esz+m]?).getD undef
                have hfirst:(Builtin.firstCells ie.size n (.slice (some ⟨b,tt.off+base*e2.esz,none⟩) n (tt.tot-base))).run E.P w.drew= .ok ((List.range (n*e2.esz)).map f).toArray w.drew:=by
                  refine run_firstCells_some w.drew ie.size n ⟨b,tt.off+base*e2.esz,none⟩ n (tt.tot-base) _ (by simp [hsz]) (fun j u hj=>?_)
                  have hjl:j<n*e2.esz:=by
                    have:=(List.getElem?_eq_some_iff.1 hj).1
                    simpa using this
                  obtain ⟨u',hu',_⟩:=hcell j hjl
                  simp [hjl,f] at hj
                  rw [addr_add]
                  have:w.drew.cell? ⟨b,tt.off+base*e2.esz+j,none⟩=w.cell? ⟨b,tt.off+base*e2.esz+j,none⟩:=rfl
                  rw [this]
                  simp only [World.cell?,hw,Option.isSome_none,Bool.false_eq_true,if_false]
                  rw [←hj,hu'];rfl
                have hol:((List.range (n*e2.esz)).map f).length=n*e2.esz:=by simp
                have holds: ∀(i:Nat) (y:e2.T),((rs.drop base).take n)[i]? =some y→ ∀(j:Nat) (z:AV),(e2.enc y)[j]? =some z→ ∃u,((List.range (n*e2.esz)).map f)[i*e2.esz+j]? =some u∧RV1 G z u:=by
                  intro i y hi j z hj
                  obtain ⟨u,hu',hru⟩:=hold i y hi j z hj
                  refine ⟨u,?_,hru⟩
                  have hil:i<n:=by
                    have:=(List.getElem?_eq_some_iff.1 hi).1
                    omega
                  have hjl:j<e2.esz:=by
                    have:=(List.getElem?_eq_some_iff.1 hj).1
                    rw [e2.enc_len] at this;exact this
                  have:(i+1)*e2.esz≤n*e2.esz:=Nat.mul_le_mul_right _ hil
                  rw [Nat.add_mul] at this
                  have hlt2:i*e2.esz+j<n*e2.esz:=by omega
                  simp [hlt2,f,hu']
                have hrun:=Lib.run_append_grow_zeros (P:=E.P) w t tx ty e ie zv ki kn hu hux hie hzv _ n (tt.tot-base) _ hfirst m (by omega) (by rw [hsz];exact e2.esz_pos) hlt (by omega)
                  (by
                    have:m*ie.bytes≤68719476736*1024:=Nat.mul_le_mul (by omega) hby
                    omega)
                  (growslice_fits hlt (by
                    have:(n+m)*ie.bytes≤68719476736*1024:=Nat.mul_le_mul (by omega) hby
                    omega))
                rw [←hsv] at hrun
                have hexec: ∀r,(Builtin.append_ #[t,tx] ty #[sv,.int ki m]).run E.P w=r→(execOp a.eval ⟨dst,.call ⟨.builtin .append,xs,ts⟩,ty,pos,af,gd⟩).run E.P w=r.andThen fun v w'=> .ok (.value v) w':=by
                  intro r hr
                  rw [run_resolve_builtin,hxs',hts',←hr]
                  simp [builtin]
                have hx:=hexec _ hrun
                simp only [Result.andThen_ok] at hx
                unfold Oper.wp
                rw [hx,Oper.upon_value]
                have hcap:n+m≤grownCap w (n+m) (tt.tot-base) e:=by
                  unfold grownCap Question.cut
                  exact Nat.le_add_right _ _
                generalize grownCap w (n+m) (tt.tot-base) e=gc at hcap ⊢
                have hpush:=row_push (H:=st.heap) (Fs:=Fs) (w:=w.drew) hH.drew e2 ((rs.drop base).take n++List.replicate m x0) (c:=(((List.range (n*e2.esz)).map f).toArray++Builtin.zeroCells zv.cells m)++Builtin.zeroCells zv.cells (gc-(n+m))) e gc (List.replicate (gc-(n+m)) x0)
                  (by simp;omega) (by
                    simp [Builtin.zeroCells,hzc,hzl]
                    have:gc*e2.esz=n*e2.esz+m*e2.esz+(gc-(n+m))*e2.esz:=by
                      rw [←Nat.add_mul,←Nat.add_mul];congr 1;omega
                    omega) (fun i y hi j q hj=>by
                    have hjl:j<e2.esz:=by
                      have:=(List.getElem?_eq_some_iff.1 hj).1
                      rw [e2.enc_len] at this;exact this
                    have hsz1:(((List.range (n*e2.esz)).map f).toArray).size=n*e2.esz:=by simp
                    have hsz2:(((List.range (n*e2.esz)).map f).toArray++Builtin.zeroCells zv.cells m).size=(n+m)*e2.esz:=by
                      simp [Builtin.zeroCells,hzc,hzl,Nat.add_mul]
                    by_cases hsp:i<n+m
                    case neg=>
                      rw [List.getElem?_append_right (by simp;omega),List.getElem?_replicate] at hi
                      have hls2:((rs.drop base).take n++List.replicate m x0).length=n+m:=by rw [List.length_append,hll];simp
                      rw [hls2] at hi
                      split at hi
                      · rename_i hlt3
                        simp at hi;subst hi
                        obtain ⟨u,hu',hru⟩:=spare_zero (G:=G) (ρ:=ρ) hx0 hzr hzl (n+m) (gc-(n+m)) hsz2 (i-(n+m)) (by omega) j q hj
                        refine ⟨u,?_,hru⟩
                        rw [←hu'];congr 2;congr 1;omega
                      · cases hi
                    rw [List.getElem?_append_left (by simp;omega)] at hi
                    have hm1:(i+1)*e2.esz≤(n+m)*e2.esz:=Nat.mul_le_mul_right _ hsp
                    rw [Nat.add_mul] at hm1
                    rw [Array.getElem?_append_left (by rw [hsz2];omega)]
                    by_cases hin:i<n
                    · rw [List.getElem?_append_left (by omega)] at hi
                      obtain ⟨u,hu',hru⟩:=holds i y hi j q hj
                      refine ⟨u,?_,hru⟩
                      have hlt2:i*e2.esz+j<((List.range (n*e2.esz)).map f).length:=(List.getElem?_eq_some_iff.1 hu').1
                      rw [Array.getElem?_append_left (by simpa using hlt2)]
                      simpa using hu'
                    · rw [List.getElem?_append_right (by omega),hll,List.getElem?_replicate] at hi
                      split at hi
                      · simp at hi;subst hi
                        obtain ⟨u,hu',hru⟩:=spare_zero (G:=G) (ρ:=ρ) hx0 hzr hzl n m hsz1 (i-n) (by omega) j q hj
                        refine ⟨u,?_,hru⟩
                        rw [←hu'];congr 2;congr 1;omega
                      · cases hi)
                obtain ⟨Fs',g1,g2⟩:=hpush
                have hsd:w.drew.heap.size=w.heap.size:=rfl
                refine hn [⟨some w.heap.size,0,gc⟩] _ _ [] Fs' _ _ hk (fun q hq=>?_) (by simpa [hsd] using g1) (fun l ob hl hTl=>?_)
                · simp at hq;subst hq
                  exact rv_row (G:=G) (ρ:=ρ) (H:=st.heap) hH.len (b:=w.heap.size) (tot:=gc) (esz:=e2.esz) (n:=n+m) hcap (fun _=> .inr trivial)
                · obtain ⟨b1,b2,b3⟩:=g2 l ob hl (by simp)
                  exact ⟨b1,b2,fun b hb=>b3 b hb⟩
            · omega
          · exact h.elim
        · exact h.elim
      · exact h.elim
    · exact h.elim
  · exact h.elim
theorem e_append (xs:Array Operand) (ts:Array TypeId) (h:aop E ⟨dst,.call ⟨.builtin .append,xs,ts⟩,ty,pos,af,gd⟩ st k):ERes E G ρ w st a ⟨dst,.call ⟨.builtin .append,xs,ts⟩,ty,pos,af,gd⟩ Fs k:=by
  intro next Q hn
  simp only [aop] at h
  cases hv:evals st xs.toList with
  |none=>simp [hv] at h
  |some vs=>
    simp only [hv] at h
    by_cases hz: ∃lab es base n ki m,vs=[.sl lab es base n,.int ki m]
    · obtain ⟨lab,es,base,n,ki,m,rfl⟩:=hz
      exact e_appz dst ty pos af gd hT hH xs ts hv h next Q hn
    replace h:abuiltin E .append ts vs st.heap (fun v H T=>k (some v) H T):=by
      rcases vs with _ |⟨s,_ |⟨x,_ |⟨y,r⟩⟩⟩
      · exact h
      · cases s<;>exact h
      · cases s<;>first |exact h |(cases x<;>first |exact h |exact absurd ⟨_,_,_,_,_,_,rfl⟩ hz)
      · cases s<;>first |exact h |(cases x<;>exact h)
    have hr:=evals_rv hT hv
    obtain ⟨s,x,rfl⟩: ∃s x,vs=[s,x]:=by
      unfold abuiltin at h
      rcases vs with _ |⟨s,_ |⟨x,_ |⟨y,r⟩⟩⟩<;>first |exact ⟨_,_,rfl⟩ |exact h.elim
    simp only [abuiltin] at h
    ·
      simp only [RVs] at hr
      obtain ⟨sv,ws,hxs,hs,xv,ws2,rfl,hx,rfl⟩:=hr
      have hxs':xs.map a.eval= #[sv,xv]:=by
        apply Array.ext';simpa using hxs
      split at h
      · rename_i t tx hts
        have hts':ts= #[t,tx]:=by apply Array.ext';simpa using hts
        split at h
        · rename_i e e' hu hux
          split at h
          · rename_i ek z ie hek hz hie
            obtain ⟨hb,h2⟩:=br_elim h
            simp only [Bool.and_eq_true] at hb
            have he:=Nat.eq_of_beq_eq_true hb.1.1.1
            have hzl:=Nat.eq_of_beq_eq_true hb.1.1.2
            have hby:=Nat.le_of_ble_eq_true hb.1.2
            obtain ⟨x0,hx0⟩:=Option.isSome_iff_exists.1 hb.2
            have hsz:ie.size=ek.esz:=by rw [←he];simp [Program.cellsOf,hie]
            obtain ⟨iz,zv,hiz,hzv,hzr⟩:=zero_rv (G:=G) (ρ:=ρ) hz
            rw [hie] at hiz;cases hiz
            have hzc:=hzr.len
            simp at hzc
            obtain ⟨ys,news,hk,hsrc,hnews⟩:=rowOf_src (P:=E.P) hH h2 hx hux
            have hnl:=hsrc.newsLen
            have hexec: ∀r,(Builtin.append_ #[t,tx] ty #[sv,xv]).run E.P w=r→(execOp a.eval ⟨dst,.call ⟨.builtin .append,xs,ts⟩,ty,pos,af,gd⟩).run E.P w=r.andThen fun v w'=> .ok (.value v) w':=by
              intro r hr
              rw [run_resolve_builtin,hxs',hts',←hr]
              simp [builtin]
            have grow: ∀(base:Option Addr) (n c:Nat) (olds:List Value) (ls:List ek.T),sv= .slice base n c→c<n+ys.length→n+ys.length≤68719476736→ls.length=n→olds.length=n*ek.esz→
                (Builtin.firstCells ie.size n (.slice base n c)).run E.P w.drew= .ok olds.toArray w.drew→
                (∀(i:Nat) (y:ek.T),ls[i]? =some y→ ∀(j:Nat) (z:AV),(ek.enc y)[j]? =some z→ ∃u,olds[i*ek.esz+j]? =some u∧RV1 G z u)→
                ∀(H0:AHeap) (T:List Nat),(∃F0,SatHF G ρ w H0 F0∧Unt w w st.heap H0 Fs F0 T)→H0.length=st.heap.length→k (some (.sl st.heap.length ek.esz 0 (n+ys.length))) (H0++[some (.row ek (ls++ys))]) T→
                Oper.wp E.P ⟨dst,.call ⟨.builtin .append,xs,ts⟩,ty,pos,af,gd⟩ a w next Q:=by
              intro base n c olds ls hsv hlt hsm hls hol hfirst holds H0 T hH0 hl0 hk0
              obtain ⟨F0,hH0,hu0⟩:=hH0
              have hsrc':Src E.P ie.size tx xv ys.length news w:=by rw [hsz];exact hsrc
              have hrun:=run_append_grow_src (P:=E.P) w t tx ty e ie zv hu hie hzv base n c olds hfirst xv ys.length news hsrc' hlt (by omega)
                (growslice_fits hlt (by
                  have:(n+ys.length)*ie.bytes≤68719476736*1024:=Nat.mul_le_mul hsm hby
                  omega))
              rw [←hsv] at hrun
              have hx:=hexec _ hrun
              simp only [Result.andThen_ok] at hx
              unfold Oper.wp
              rw [hx,Oper.upon_value]
              have hcap:n+ys.length≤grownCap w (n+ys.length) c e:=by
                unfold grownCap Question.cut
                exact Nat.le_add_right _ _
              have hpush:=row_push (H:=H0) (Fs:=F0) (w:=w.drew) hH0.drew ek (ls++ys) (c:=(olds++news).toArray++Builtin.zeroCells zv.cells (grownCap w (n+ys.length) c e-(n+ys.length))) e (grownCap w (n+ys.length) c e) (List.replicate (grownCap w (n+ys.length) c e-(n+ys.length)) x0)
                (by simp [hls];omega) (by
                  simp [Builtin.zeroCells,hol,hnl,hzc,hzl]
                  have:grownCap w (n+ys.length) c e*ek.esz=(n+ys.length)*ek.esz+(grownCap w (n+ys.length) c e-(n+ys.length))*ek.esz:=by
                    rw [←Nat.add_mul];congr 1;omega
                  rw [this,Nat.add_mul];omega) (fun i y hi j q hj=>by
                  have hjl:j<ek.esz:=by
                    have:=(List.getElem?_eq_some_iff.1 hj).1
                    rw [ek.enc_len] at this;exact this
                  by_cases hsp:i<(ls++ys).length
                  case neg=>
                    rw [List.getElem?_append_right (by omega),List.getElem?_replicate] at hi
                    have hls2:(ls++ys).length=n+ys.length:=by simp [hls]
                    split at hi
                    · rename_i hlt3
                      simp at hi;subst hi
                      obtain ⟨u,hu',hru⟩:=spare_zero (pre:=(olds++news).toArray) hx0 hzr hzl (n+ys.length) (grownCap w (n+ys.length) c e-(n+ys.length)) (by simp [hol,hnl];rw [Nat.add_mul]) (i-(n+ys.length)) (by omega) j q hj
                      refine ⟨u,?_,hru⟩
                      rw [←hu'];congr 2;congr 1;omega
                    · cases hi
                  rw [List.getElem?_append_left hsp] at hi
                  by_cases hin:i<n
                  · rw [List.getElem?_append_left (by omega)] at hi
                    obtain ⟨u,hu',hru⟩:=holds i y hi j q hj
                    refine ⟨u,?_,hru⟩
                    have hlt2:i*ek.esz+j<olds.length:=(List.getElem?_eq_some_iff.1 hu').1
                    rw [Array.getElem?_append_left (by simp;omega)]
                    simp
                    rw [List.getElem?_append_left hlt2];exact hu'
                  · rw [List.getElem?_append_right (by omega),hls] at hi
                    obtain ⟨u,hu',hru⟩:=hnews (i-n) y hi j q hj
                    refine ⟨u,?_,hru⟩
                    have hlt2:(i-n)*ek.esz+j<news.length:=(List.getElem?_eq_some_iff.1 hu').1
                    have hadd:i*ek.esz+j=olds.length+((i-n)*ek.esz+j):=by
                      rw [hol,←Nat.add_assoc,←Nat.add_mul];congr 2;omega
                    rw [Array.getElem?_append_left (by simp;omega)]
                    simp
                    rw [hadd,List.getElem?_append_right (by omega)]
                    simpa using hu')
              obtain ⟨Fs',g1,g2⟩:=hpush
              have hsd:w.drew.heap.size=w.heap.size:=rfl
              refine hn [⟨some w.heap.size,0,grownCap w (n+ys.length) c e⟩] _ _ T Fs' _ _ hk0 (fun q hq=>?_) (by simpa [hsd] using g1) (fun l ob hl hTl=>?_)
              · simp at hq;subst hq
                have:=rv_row (G:=G) (ρ:=ρ) (H:=st.heap) hH.len (b:=w.heap.size) (tot:=grownCap w (n+ys.length) c e) (esz:=ek.esz) (n:=n+ys.length) hcap (fun _=> .inr trivial)
                exact this
              · obtain ⟨a1,a2,a3⟩:=hu0 l ob hl hTl
                obtain ⟨b1,b2,b3⟩:=g2 l ob a1 (by simp)
                exact ⟨b1,b2.trans a2,fun b hb=>(b3 b (by rw [a2];exact hb))⟩
            have nothing: ∀(base:Option Addr) (ls:List ek.T),sv= .slice base 0 0→ys.length=0→ls=[]→ ∀(H0:AHeap) (T:List Nat),(∃F0,SatHF G ρ w H0 F0∧Unt w w st.heap H0 Fs F0 T)→H0.length=st.heap.length→
                k (some (.sl st.heap.length ek.esz 0 (0+ys.length))) (H0++[some (.row ek (ls++ys))]) T→Oper.wp E.P ⟨dst,.call ⟨.builtin .append,xs,ts⟩,ty,pos,af,gd⟩ a w next Q:=by
              intro base ls hsv hy hls H0 T hH0 hl0 hk0
              obtain ⟨F0,hH0,hu0⟩:=hH0
              have hy0:ys=[]:=List.eq_nil_of_length_eq_zero hy
              subst hls hy0
              have hn0:news=[]:=List.eq_nil_of_length_eq_zero (by simpa using hnl)
              subst hn0
              have hsrc':Src E.P ie.size tx xv 0 [] w:=by rw [hsz];exact hsrc
              have hrun:=run_append_nothing (P:=E.P) w t tx ty e ie hu hie base 0 0 (Nat.le_refl _) xv hsrc'
              rw [←hsv] at hrun
              have hx:=hexec _ hrun
              simp only [Result.andThen_ok] at hx
              unfold Oper.wp
              rw [hx,Oper.upon_value]
              have g1:=SatH.push hH0 (.row ek []) ⟨none,0,0⟩ [] (w':=w) (Nat.le_refl _) (fun _ _=>rfl) .rfl rfl rfl (.rownil rfl rfl) (by simp)
              refine hn [⟨none,0,0⟩] _ _ T _ _ _ hk0 (fun q hq=>?_) g1 (fun l ob hl hTl=>?_)
              · simp at hq;subst hq
                rw [hsv]
                simp only [RV]
                exact ⟨⟨none,0,0⟩,by simp [hH.len],by simp,.inr ⟨by simp,rfl,base,rfl⟩⟩
              · obtain ⟨a1,a2,a3⟩:=hu0 l ob hl hTl
                have:=hH0.lab a1
                refine ⟨getElem?_ext a1,?_,fun _ _=>rfl⟩
                show (if l=H0.length then [] else F0 l)=Fs l
                rw [if_neg (by omega)];exact a2
            have hself: ∃F0,SatHF G ρ w st.heap F0∧Unt w w st.heap st.heap Fs F0 []:=⟨Fs,hH,fun l o hl _=>⟨hl,rfl,fun _ _=>rfl⟩⟩
            cases s
            case nils=>
              simp only [] at hk
              obtain ⟨hsm,hk⟩:=hk
              rw [forceL_eq] at hk
              have hsv:=hs
              simp only [RV] at hsv
              by_cases hy:ys.length=0
              · exact nothing none [] hsv hy rfl _ _ hself rfl (by simpa using hk)
              · exact grow none 0 0 [] [] hsv (by omega) (by omega) rfl (by simp) (run_firstCells_none w.drew ie.size 0 0 0) (by simp) _ _ hself rfl (by simpa using hk)
            case sl lab es base n=>
              simp only [] at hk
              split at hk
              · rename_i e2 rs hl
                split at hk
                · rename_i he2
                  subst he2
                  obtain ⟨hes,hle,hsm,hk⟩:=br_elim hk
                  have hes:=Nat.eq_of_beq_eq_true hes
                  rw [forceL_eq] at hk
                  have hlt:=hH.lab hl
                  have hdrop: ∃F0,SatHF G ρ w (st.heap.set lab none) F0∧Unt w w st.heap (st.heap.set lab none) Fs F0 [lab]:=by
                    refine ⟨Fs,?_,fun l o hl' hTl=>⟨?_,rfl,fun _ _=>rfl⟩⟩
                    · have:=hH.step (e:=[]) (w':=w) (H':=st.heap.set lab none) (Fs':=Fs) [] (fun _=>False) (by simp) (Nat.le_refl _) (fun b _ _=>rfl) .rfl rfl rfl (by simpa using hH.len)
                        (fun l' o _ hl=>by
                          by_cases hne:l'=lab
                          · subst hne
                            rw [List.getElem?_set_self hlt] at hl;simp at hl
                          · rw [List.getElem?_set_ne (Ne.symm hne)] at hl
                            exact ⟨hl,rfl⟩) (fun l o hT=>hT.elim) (fun l o l' o' b hT=>hT.elim)
                      simpa using this
                    · have hne:l≠lab:=fun he=>hTl (by simp [he])
                      rw [List.getElem?_set_ne (Ne.symm hne)];exact hl'
                  have hsv:=hs
                  simp only [RV] at hsv
                  obtain ⟨tt,htt,htot,hsv⟩:=hsv
                  have hll:((rs.drop base).take n).length=n:=by simp;omega
                  rcases hsv with ⟨b,hbk,hsv⟩ |⟨hn0,htb,aa,hsv⟩
                  · obtain ⟨t',ht',hsat⟩:=hH.sat _ _ hl
                    rw [htt] at ht';cases ht'
                    generalize hF:Fs lab=F at hsat
                    cases hsat with
                    |rownil hb' _=>rw [hbk] at hb';cases hb'
                    | @row _ _ sp _ b' c ty' fz hb' hw h2 h3 hc hz=>
                      rw [hbk] at hb';cases hb'
                      rw [hes] at hsv
                      have hold: ∀(i:Nat) (y:e2.T),((rs.drop base).take n)[i]? =some y→ ∀(j:Nat) (z:AV),(e2.enc y)[j]? =some z→ ∃u,c[tt.off+base*e2.esz+(i*e2.esz+j)]? =some u∧RV1 G z u:=fun i y hi j z hj=>by
                        have hin:i<n:=by
                          have:=(List.getElem?_eq_some_iff.1 hi).1
                          omega
                        rw [List.getElem?_take_of_lt hin,List.getElem?_drop] at hi
                        obtain ⟨u,hu',hru⟩:=hc _ y (getElem?_ext hi) j z hj
                        refine ⟨u,?_,hru⟩
                        rw [←hu'];congr 1
                        rw [Nat.add_mul];omega
                      have hroom:tt.off+base*e2.esz+(tt.tot-base)*e2.esz≤c.size:=by
                        have:tt.off+base*e2.esz+(tt.tot-base)*e2.esz=tt.off+tt.tot*e2.esz:=by
                          rw [Nat.add_assoc,←Nat.add_mul];congr 2;omega
                        omega
                      by_cases hfit:n+ys.length≤tt.tot-base
                      ·
                        have hb1:(n+ys.length)*e2.esz≤(tt.tot-base)*e2.esz:=Nat.mul_le_mul_right _ hfit
                        rw [Nat.add_mul] at hb1
                        have hsrc':Src E.P ie.size tx xv ys.length news w:=by rw [hsz];exact hsrc
                        have hin: ∀m,m<c.size→ ∃u,w.cell? ⟨b,m,none⟩=some u:=fun m hm=>⟨c[m],by simp only [World.cell?,hw,Option.isSome_none,Bool.false_eq_true,if_false];exact Array.getElem?_eq_getElem hm⟩
                        have hrun:=run_append_room_src (P:=E.P) w t tx ty e ie hu hie b (tt.off+base*e2.esz) n (tt.tot-base) xv ys.length news hsrc' hfit (fun j hj=>by
                            obtain ⟨u,hu'⟩:=hin (tt.off+base*e2.esz+n*ie.size+j) (by rw [hsz];omega)
                            rw [hu'];rfl) (fun j hj=>not_frozen hw (hz.imp id And.right) (by rw [hsz];omega))
                        rw [←hsv,hsz] at hrun
                        have hx:=hexec _ hrun
                        simp only [Result.andThen_ok] at hx
                        obtain ⟨⟨c',g1,g2⟩,g3,g4,g5,g6,g7⟩:=setCells_heap (b:=b) (ty:=ty') news (tt.off+base*e2.esz+n*e2.esz) w c hw
                        have hsz':c'.size=c.size:=by
                          have:=congrArg List.length g2
                          rw [setCells_length] at this
                          simpa using this
                        have hmove:=SatH.move hH hl (.row e2 (((rs.drop base).take n)++ys)) ⟨some b,tt.off+base*e2.esz,tt.tot-base⟩ [b] (w':=w.setCells b (tt.off+base*e2.esz+n*e2.esz) news) (by omega)
                          (fun x _ hx=>g3 x (fun he=>hx (by rw [hF,he];simp))) g5 g6 g7
                          (.row (sp:=(rs++sp).drop (base+n+ys.length)) rfl g1 (by simp;omega) (by rw [hsz'];exact hroom) (fun i y hi j z hj=>by
                            have hjl:j<e2.esz:=by
                              have:=(List.getElem?_eq_some_iff.1 hj).1
                              rw [e2.enc_len] at this;exact this
                            show ∃u,c'[tt.off+base*e2.esz+i*e2.esz+j]? =some u∧RV1 G z u
                            have hc2: ∀(m:Nat),c'[m]? =(setCells c.toList (tt.off+base*e2.esz+n*e2.esz) news)[m]? :=fun m=>by rw [←g2,Array.getElem?_toList]
                            have hl2:((rs.drop base).take n++ys).length=n+ys.length:=by rw [List.length_append,hll]
                            by_cases hsp:i<n+ys.length
                            case neg=>
                              rw [List.getElem?_append_right (by omega),List.getElem?_drop,hl2] at hi
                              obtain ⟨u,hu',hru⟩:=hc _ y hi j z hj
                              refine ⟨u,?_,hru⟩
                              have h5:(n+ys.length)*e2.esz≤i*e2.esz:=Nat.mul_le_mul_right _ (by omega)
                              rw [Nat.add_mul] at h5
                              rw [hc2,setCells_get,if_neg (by omega)]
                              rw [Array.getElem?_toList,←hu'];congr 1
                              rw [show base+n+ys.length+(i-(n+ys.length))=base+i by omega,Nat.add_mul];omega
                            rw [List.getElem?_append_left (by omega)] at hi
                            by_cases hi2:i<n
                            · rw [List.getElem?_append_left (by omega)] at hi
                              obtain ⟨u,hu',hru⟩:=hold i y hi j z hj
                              refine ⟨u,?_,hru⟩
                              have:(i+1)*e2.esz≤n*e2.esz:=Nat.mul_le_mul_right _ hi2
                              rw [Nat.add_mul] at this
                              rw [hc2,setCells_get,if_neg (by omega)]
                              simpa [Nat.add_assoc] using hu'
                            · rw [List.getElem?_append_right (by omega),hll] at hi
                              obtain ⟨u,hu',hru⟩:=hnews (i-n) y hi j z hj
                              refine ⟨u,?_,hru⟩
                              have hlt2:=(List.getElem?_eq_some_iff.1 hu').1
                              have hadd:i*e2.esz=n*e2.esz+(i-n)*e2.esz:=by rw [←Nat.add_mul];congr 1;omega
                              have hlt3:(i-n)*e2.esz+j<ys.length*e2.esz:=by omega
                              rw [hc2,setCells_get,if_pos ⟨by omega,by omega,by simp;omega⟩]
                              rw [←hu'];congr 1;omega) (by rw [hsz'];exact hz))
                          (fun y hy=>by
                            simp at hy;subst hy
                            have:y∈Fs lab:=by rw [hF];simp
                            exact ⟨.inl this,by rw [g4];exact (hH.free _ _ y hl this).2⟩)
                        unfold Oper.wp
                        rw [hx,Oper.upon_value]
                        refine hn [⟨some b,tt.off+base*e2.esz,tt.tot-base⟩] _ _ [lab] _ _ _ hk (fun q hq=>?_) hmove (fun l ob hl' hTl=>?_)
                        · simp at hq;subst hq
                          simp only [RV]
                          exact ⟨⟨some b,tt.off+base*e2.esz,tt.tot-base⟩,by simp [hH.len],by simpa using hfit,.inl ⟨b,rfl,by simp⟩⟩
                        · have hne:l≠lab:=fun he=>hTl (by simp [he])
                          have hll':=hH.lab hl'
                          refine ⟨?_,by simp;omega,fun y hy=>g3 y (fun he=>?_)⟩
                          · rw [List.getElem?_append_left (by simpa using hll'),List.getElem?_set_ne (Ne.symm hne)];exact hl'
                          · subst he
                            exact hne (hH.apart l ob lab _ y hl' hl hy (by rw [hF];simp))
                      ·
                        have hcell: ∀m,m<n*e2.esz→ ∃u,c[tt.off+base*e2.esz+m]? =some u∧u.oneCell'=true:=by
                          intro m hm
                          have hpos:=e2.esz_pos
                          have hi:m/e2.esz<n:=(Nat.div_lt_iff_lt_mul hpos).2 hm
                          have hj:m%e2.esz<e2.esz:=Nat.mod_lt _ hpos
                          have hi':m/e2.esz<((rs.drop base).take n).length:=by omega
                          have hlen:=e2.enc_len ((rs.drop base).take n)[m/e2.esz]
                          obtain ⟨u,hu',hru⟩:=hold _ _ (List.getElem?_eq_getElem hi') (m%e2.esz) _ (List.getElem?_eq_getElem (by omega))
                          have hdm:m/e2.esz*e2.esz+m%e2.esz=m:=by
                            rw [Nat.mul_comm];exact Nat.div_add_mod m e2.esz
                          rw [hdm] at hu'
                          have hfl:=List.all_eq_true.1 (enc_flat e2 ((rs.drop base).take n)[m/e2.esz]) _ (List.getElem_mem (h:=(by omega:m%e2.esz<_)))
                          refine ⟨u,hu',one_of (G:=G) (ρ:=ρ) hru.rv ?_⟩
                          revert hfl
                          generalize (e2.enc ((rs.drop base).take n)[m/e2.esz])[m%e2.esz]=q
                          intro hfl
                          cases q<;>simp [AV.flat] at hfl<;>rfl
                        let f:Nat→Value:=fun m=>(c[tt.off+base*e2.esz+m]?).getD undef
                        have hfirst:(Builtin.firstCells ie.size n (.slice (some ⟨b,tt.off+base*e2.esz,none⟩) n (tt.tot-base))).run E.P w.drew= .ok ((List.range (n*e2.esz)).map f).toArray w.drew:=by
                          refine run_firstCells_some w.drew ie.size n ⟨b,tt.off+base*e2.esz,none⟩ n (tt.tot-base) _ (by simp [hsz]) (fun j u hj=>?_)
                          have hjl:j<n*e2.esz:=by
                            have:=(List.getElem?_eq_some_iff.1 hj).1
                            simpa using this
                          obtain ⟨u',hu',_⟩:=hcell j hjl
                          simp [hjl,f] at hj
                          rw [addr_add]
                          have:w.drew.cell? ⟨b,tt.off+base*e2.esz+j,none⟩=w.cell? ⟨b,tt.off+base*e2.esz+j,none⟩:=rfl
                          rw [this]
                          simp only [World.cell?,hw,Option.isSome_none,Bool.false_eq_true,if_false]
                          rw [←hj,hu'];rfl
                        exact grow _ n _ _ ((rs.drop base).take n) hsv (by omega) hsm hll (by simp) hfirst (fun i y hi j z hj=>by
                          obtain ⟨u,hu',hru⟩:=hold i y hi j z hj
                          refine ⟨u,?_,hru⟩
                          have hil:i<n:=by
                            have:=(List.getElem?_eq_some_iff.1 hi).1
                            omega
                          have hjl:j<e2.esz:=by
                            have:=(List.getElem?_eq_some_iff.1 hj).1
                            rw [e2.enc_len] at this;exact this
                          have:(i+1)*e2.esz≤n*e2.esz:=Nat.mul_le_mul_right _ hil
                          rw [Nat.add_mul] at this
                          have hlt2:i*e2.esz+j<n*e2.esz:=by omega
                          simp [hlt2,f,hu']) _ _ hdrop (by simp) hk
                  · subst hn0
                    by_cases hy:ys.length=0
                    · exact nothing aa ((rs.drop base).take 0) hsv hy (by simp) _ _ hdrop (by simp) hk
                    · have hfirst:(Builtin.firstCells ie.size 0 (.slice aa 0 0)).run E.P w.drew= .ok ([]:List Value).toArray w.drew:=by
                        cases aa with
                        |none=>exact run_firstCells_none w.drew ie.size 0 0 0
                        |some ad=>exact run_firstCells_some w.drew ie.size 0 ad 0 0 [] (by simp) (by simp)
                      exact grow aa 0 0 [] ((rs.drop base).take 0) hsv (by omega) (by omega) (by simp) (by simp) hfirst (by simp) _ _ hdrop (by simp) hk
                · exact hk.elim
              · exact hk.elim
            all_goals exact hk.elim
          · exact h.elim
        · exact h.elim
      · exact h.elim
end
end Go.Ax
namespace Go.Ax
variable [Surr] {G:Gam} {ρ:List Root} {w:World}
theorem ValR.rv {k:EK} {x:k.T} {v:Value} (h:ValR G k x v) (ρ:List Root):RV G ρ (k.val x) v:=by
 obtain ⟨ρ',h⟩:=h
 cases hp:k.prim with
 |true=>cases k<;>simp [EK.prim] at hp<;>(simp only [EK.val,RV] at h ⊢;exact h)
 |false=>
  have e:k.val x= .agg (k.enc x):=by cases k<;>simp [EK.prim] at hp<;>rfl
  rw [e] at h ⊢
  simp only [RV] at h ⊢
  obtain ⟨vs,h1,h2⟩:=h
  refine ⟨vs,h1,RVs.of_get h2.len fun j y hj=>?_⟩
  obtain ⟨u,hu,hr⟩:=h2.get hj
  have hf:=List.all_eq_true.1 (enc_flat k x) y (List.mem_of_getElem? hj)
  exact ⟨u,hu,(flat_rv1 hf hr).rv⟩
theorem findNow_map {k:EK} {q:IntKind} (j:Int): ∀{m:List (Int × k.T)} {es:List MapEntry} (n:Nat),MapR G k m es→
  (Law.mget m j=none∧Instr.findNow (.int q) (.int .i64 j) es n=some none)∨
  ∃(i:Nat) (e:MapEntry) (x:k.T),Law.mget m j=some x∧Instr.findNow (.int q) (.int .i64 j) es n=some (some (n+i,e.val))∧es[i]? =some e∧e.key= .int .i64 j∧ValR G k x e.val
 | [],es,n,h=>by
  simp only [MapR] at h;subst h
  exact .inl ⟨rfl,rfl⟩
 |p::m,es,n,h=>by
  obtain ⟨e,r,rfl,hk,hv,hr⟩:=h
  by_cases hp:p.1=j
  ·right
   refine ⟨0,e,p.2,by simp [Law.mget,hp],?_,rfl,by rw [hk,hp],hv⟩
   simp [Instr.findNow,Instr.sameNow,hk,hp]
  ·have hs:Instr.sameNow (.int q) (.int .i64 j) e.key=some false:=by
    rw [hk];simp [Instr.sameNow];exact fun h=>hp h.symm
   rcases findNow_map j (n+1) hr with ⟨h1,h2⟩ |⟨i,e',x,h1,h2,h3,h4,h5⟩
   ·exact .inl ⟨by simp [Law.mget,hp,h1],by simp only [Instr.findNow,hs];exact h2⟩
   ·refine .inr ⟨i+1,e',x,by simp [Law.mget,hp,h1],?_,by simpa using h3,h4,h5⟩
    simp only [Instr.findNow,hs]
    rw [h2]
    congr 3;omega
theorem MapR.len {k:EK}: ∀{m:List (Int × k.T)} {es:List MapEntry},MapR G k m es→es.length=m.length
 | [],_,h=>by simp only [MapR] at h;subst h;rfl
 |_::_,_,⟨_,_,h1,_,_,h4⟩=>by subst h1;simp [MapR.len h4]
theorem MapR.push {k:EK} {j:Int} {x:k.T} {v:Value} (hv:ValR G k x v) (ck:Nat): ∀{m:List (Int × k.T)} {es:List MapEntry},MapR G k m es→Law.mget m j=none→MapR G k (Law.mput m j x) (es++[⟨.int .i64 j,v,ck⟩])
 | [],_,h,_=>by
  simp only [MapR] at h;subst h
  exact ⟨_,[],rfl,rfl,hv,rfl⟩
 |p::m,_,⟨e,r,h1,h2,h3,h4⟩,hn=>by
  subst h1
  simp only [Law.mget] at hn
  split at hn
  ·cases hn
  ·rename_i hp
   simp only [Law.mput,if_neg hp]
   exact ⟨e,_,rfl,h2,h3,MapR.push hv ck h4 hn⟩
theorem MapR.upd {k:EK} {j:Int} {x:k.T} {v:Value} {q:IntKind} (hv:ValR G k x v): ∀{m:List (Int × k.T)} {es:List MapEntry} {n i:Nat} {v0:Value},MapR G k m es→Instr.findNow (.int q) (.int .i64 j) es n=some (some (n+i,v0))→
  MapR G k (Law.mput m j x) (es.modify i fun e=>{e with key:= .int .i64 j,val:=v})
 | [],_,n,i,v0,h,hf=>by
  simp only [MapR] at h;subst h
  simp [Instr.findNow] at hf
 |p::m,_,n,i,v0,⟨e,r,h1,h2,h3,h4⟩,hf=>by
  subst h1
  by_cases hp:p.1=j
  ·have:i=0:=by
    simp [Instr.findNow,Instr.sameNow,h2,hp] at hf
    exact hf.1
   subst this
   simp only [Law.mput,if_pos hp]
   exact ⟨_,r,rfl,rfl,hv,h4⟩
  ·have hs:Instr.sameNow (.int q) (.int .i64 j) e.key=some false:=by
    rw [h2];simp [Instr.sameNow];exact fun h=>hp h.symm
   simp only [Instr.findNow,hs] at hf
   have hi:i≠0:=by
    intro h0
    subst h0
    rcases findNow_map (G:=G) (q:=q) j (n+1) h4 with ⟨_,h6⟩ |⟨i',e',x',_,h6,_⟩
    ·rw [h6] at hf;simp at hf
    ·rw [h6] at hf;simp at hf
     omega
   obtain ⟨i',rfl⟩:=Nat.exists_eq_succ_of_ne_zero hi
   simp only [Law.mput,if_neg hp]
   have hf':Instr.findNow (.int q) (.int .i64 j) r (n+1)=some (some (n+1+i',v0)):=by
    rw [hf];congr 3;omega
   exact ⟨e,_,rfl,h2,h3,MapR.upd hv h4 hf'⟩
theorem sameOs_map (w:World) {b:Nat} {es es':Array MapEntry} {ck ck':Nat} (hw:w.heap[b]? =some (.map es ck)):SameOs w {w with heap:=w.heap.setIfInBounds b (.map es' ck')}:=⟨rfl,fun _=>Nat.le_refl _⟩
theorem mapKind_elim {P:Program} {eks:List (TypeId × EK)} {t:TypeId} {k:(ek:EK)→ek.T→Prop} (h:mapKind P eks t k):
  ∃kt et ek x0 i z v,P.underlying t=some (.map kt et)∧P.underlying kt=some (.int .i64)∧P.info? et=some i∧i.zero=some v∧cval v=some z∧ek.unval z=some x0∧k ek x0:=by
 unfold mapKind at h
 split at h
 ·rename_i kt et hu
  split at h
  ·rename_i ek z hk he hz
   split at h
   ·rename_i x0 hx
    unfold zeroVal at hz
    split at hz
    ·rename_i i hi
     split at hz
     ·rename_i v hv
      exact ⟨kt,et,ek,x0,i,z,v,hu,hk,hi,hv,hz,hx,h⟩
     ·cases hz
    ·cases hz
   ·exact h.elim
  ·exact h.elim
 ·exact h.elim
section
variable {E:Env} {st:AS} {a:Act} {Fs:Nat→List Nat} {k:KT} (dst:Option Tmp) (ty:TypeId) (pos:String) (af:Array Edge) (gd:Option (Nat × Bool))
variable (hT:TR G ρ st.tmps a.tmps) (hH:SatHF G ρ w st.heap Fs)
include hT hH
omit hT in
theorem map_new (ek:EK) (hk:k (some (.mp st.heap.length)) (st.heap++[some (.map ek [])]) []) (o:Oper) (hrun:(execOp a.eval o).run E.P w= .ok (.value (.map (some w.heap.size))) (w.alloc (.map #[] 0))):ERes E G ρ w st a o Fs k:=by
 intro next Q hn
 have hsz:(w.alloc (.map #[] 0)).heap.size=w.heap.size+1:=by show (w.heap.push _).size=_;simp
 have hpush:=SatH.push hH (.map ek []) ⟨some w.heap.size,0,0⟩ [w.heap.size] (w':=w.alloc (.map #[] 0)) (by omega) (fun b hb=>alloc_heap_lt hb) ⟨rfl,fun _=>Nat.le_refl _⟩ rfl rfl
  (.map (es:= #[]) (ck:=0) rfl alloc_heap_self rfl) (fun b hb=>by simp at hb;subst hb;omega)
 unfold Oper.wp
 rw [hrun,Oper.upon_value]
 refine hn [⟨some w.heap.size,0,0⟩] _ _ [] _ _ _ hk (fun x hx=>?_) hpush (fun l ob hl _=>⟨?_,?_,fun y hy=>?_⟩)
 ·simp at hx;subst hx
  simp only [RV]
  exact ⟨⟨some w.heap.size,0,0⟩,_,by rw [hH.len];simp,rfl,rfl⟩
 ·exact getElem?_ext hl
 ·have:=hH.lab hl
  simp [Nat.ne_of_lt this]
 ·exact alloc_heap_lt (hH.free l ob y hl hy).2
theorem e_makeMap (t:TypeId) (hint:Option Operand) (h:aop E ⟨dst,.makeMap t hint,ty,pos,af,gd⟩ st k):ERes E G ρ w st a ⟨dst,.makeMap t hint,ty,pos,af,gd⟩ Fs k:=by
 simp only [aop] at h
 split at h
 ·obtain ⟨kt,et,ek,x0,i,z,v,h1,h2,h3,h4,h5,h6,h⟩:=mapKind_elim h
  rw [forceL_eq] at h
  exact map_new hH ek h _ (by simp [execOp,Instr.makeMap])
 ·rename_i x
  split at h
  ·rename_i n hn
   obtain ⟨kt,et,ek,x0,i,z,v,h1,h2,h3,h4,h5,h6,h⟩:=mapKind_elim h
   rw [forceL_eq] at h
   obtain ⟨q,hq⟩:=aint_eq hn
   have:=rv_int (eval_rv hT hq)
   exact map_new hH ek h _ (by simp [execOp,Instr.makeMap,run_und h1,this,asInt,asIntOf])
  ·exact h.elim
theorem e_lookup (t:TypeId) (m x:Operand) (ok:Bool) (h:aop E ⟨dst,.lookup t m x ok,ty,pos,af,gd⟩ st k):ERes E G ρ w st a ⟨dst,.lookup t m x ok,ty,pos,af,gd⟩ Fs k:=by
 intro next Q hn
 simp only [aop] at h
 split at h
 ·rename_i l j hm hx
  obtain ⟨kt,et,ek,x0,i,z,v,h1,h2,h3,h4,h5,h6,h⟩:=mapKind_elim h
  split at h
  ·rename_i e2 xs hl
   split at h
   ·rename_i he
    subst he
    obtain ⟨r,hr,hs⟩:=hH.sat _ _ hl
    have hmv:=eval_rv hT hm
    simp only [RV] at hmv
    obtain ⟨r',b,hr',hb,hmv⟩:=hmv
    rw [hr] at hr';cases hr'
    have hxv:=rv_int (eval_rv hT hx)
    generalize hF:Fs l=F at hs
    cases hs with
    | @map _ _ _ b' es ck hb' hw hmr=>
     rw [hb] at hb';cases hb'
     have hkey: ∀e n,(Instr.checkKey e (n+1) kt (.int .i64 j)).run E.P w= .ok () w:=fun e n=>by
      simp [Instr.checkKey,run_und h2]
     have hz:(zeroValue et).run E.P w= .ok v w:=by simp [zeroValue,typeInfo,h3,h4]
     have hzr:RV G ρ (e2.val x0) v:=by rw [EK.val_unval h6];exact cval_rv h5
     have key: ∃u,(∀y,y=(Law.mget xs j).getD x0→RV G ρ (e2.val y) u)∧(Instr.lookup t (a.eval m) (a.eval x) ok).run E.P w= .ok (if ok then .tuple #[u,.bool (Law.mget xs j).isSome] else u) w:=by
      rcases findNow_map (G:=G) (q:= .i64) j 0 hmr with ⟨g1,g2⟩ |⟨q,e,y,g1,g2,g3,g4,g5⟩
      ·refine ⟨v,fun y hy=>by rw [hy,g1];exact hzr,?_⟩
       rw [hmv,hxv]
       simp [Instr.lookup,run_und h1,MapKept.run_getObj_map hw,hkey,Instr.findKey,run_und h2,g2,hz,g1]
      ·refine ⟨e.val,fun y' hy=>by rw [hy,g1];exact g5.rv ρ,?_⟩
       rw [hmv,hxv]
       simp [Instr.lookup,run_und h1,MapKept.run_getObj_map hw,hkey,Instr.findKey,run_und h2,g2,g1]
     obtain ⟨u,hu,hrun⟩:=key
     replace h:=h _ _ rfl rfl
     have hex:(execOp a.eval ⟨dst,.lookup t m x ok,ty,pos,af,gd⟩).run E.P w= .ok (.value (if ok then .tuple #[u,.bool (Law.mget xs j).isSome] else u)) w:=by
      simp [execOp,hrun]
     unfold Oper.wp
     rw [hex,Oper.upon_value]
     have hself: ∀(H:AHeap) (T:List Nat),SatHF G ρ w H Fs→Unt w w H H Fs Fs T:=fun H T _ l o hl _=>⟨hl,rfl,fun _ _=>rfl⟩
     cases ok with
     |true=>
      simp only [if_true]
      refine hn [] _ _ [] Fs _ w h (fun q hq=>?_) (by simpa using hH) (hself _ _ hH)
      simp at hq;subst hq
      simp only [RV]
      refine ⟨_,rfl,?_⟩
      simp only [RVs]
      exact ⟨u,_,rfl,by simpa using hu _ rfl,_,[],rfl,by simp [RV],rfl⟩
     |false=>
      simp only [Bool.false_eq_true,if_false]
      refine hn [] _ _ [] Fs _ w h (fun q hq=>?_) (by simpa using hH) (hself _ _ hH)
      simp at hq;subst hq
      simpa using hu _ rfl
   ·exact h.elim
  ·exact h.elim
 ·exact h.elim
theorem e_mapUpdate (t:TypeId) (m x y:Operand) (h:aop E ⟨dst,.mapUpdate t m x y,ty,pos,af,gd⟩ st k):ERes E G ρ w st a ⟨dst,.mapUpdate t m x y,ty,pos,af,gd⟩ Fs k:=by
 intro next Q hn
 simp only [aop] at h
 split at h
 ·rename_i l j yv hm hx hy
  obtain ⟨kt,et,ek,x0,i,z,v,h1,h2,h3,h4,h5,h6,h⟩:=mapKind_elim h
  split at h
  ·rename_i e2 xs hl
   split at h
   ·rename_i he
    subst he
    split at h
    ·rename_i y' hy'
     rw [forceL_eq] at h
     obtain ⟨r,hr,hs⟩:=hH.sat _ _ hl
     have hmv:=eval_rv hT hm
     simp only [RV] at hmv
     obtain ⟨r',b,hr',hb,hmv⟩:=hmv
     rw [hr] at hr';cases hr'
     have hxv:=rv_int (eval_rv hT hx)
     have hyv:ValR G e2 y' (a.eval y):=⟨ρ,by rw [EK.val_unval hy'];exact eval_rv hT hy⟩
     generalize hF:Fs l=F at hs
     cases hs with
     | @map _ _ _ b' es ck hb' hw hmr=>
      rw [hb] at hb';cases hb'
      have hlt:b<w.heap.size:=(Array.getElem?_eq_some_iff.1 hw).1
      have hkey: ∀e n,(Instr.checkKey e (n+1) kt (.int .i64 j)).run E.P w= .ok () w:=fun e n=>by
       simp [Instr.checkKey,run_und h2]
      have key: ∃es' ck',MapR G e2 (Law.mput xs j y') es'.toList∧(Instr.mapUpdate t (a.eval m) (a.eval x) (a.eval y)).run E.P w= .ok () {w with heap:=w.heap.setIfInBounds b (.map es' ck')}:=by
       rcases findNow_map (G:=G) (q:= .i64) j 0 hmr with ⟨g1,g2⟩ |⟨q,e,x',g1,g2,g3,g4,g5⟩
       ·refine ⟨es.push ⟨.int .i64 j,a.eval y,ck⟩,ck+1,by simpa using MapR.push hyv ck hmr g1,?_⟩
        rw [hmv,hxv]
        simp [Instr.mapUpdate,run_und h1,MapKept.run_getObj_map hw,MapKept.run_setObj_map _ hw,hkey,Instr.findKey,run_und h2,g2]
       ·refine ⟨es.modify q fun e=>{e with key:= .int .i64 j,val:=a.eval y},ck,?_,?_⟩
        ·have:=MapR.upd (n:=0) hyv hmr g2
         simpa using this
        ·rw [hmv,hxv]
         simp at g2 g3
         simp [Instr.mapUpdate,run_und h1,MapKept.run_getObj_map hw,MapKept.run_setObj_map _ hw,hkey,Instr.findKey,run_und h2,g2,g3,g4,Instr.keyThatStays,Instr.sameBits]
      obtain ⟨es',ck',hmr',hrun⟩:=key
      have hset:=SatH.set hH hl (.map e2 (Law.mput xs j y')) [b] (w':={w with heap:=w.heap.setIfInBounds b (.map es' ck')}) (by simp) (fun c _ hc=>by
        have hne:c≠b:=fun he=>hc (by rw [hF,he];simp)
        simp [Array.getElem?_setIfInBounds_ne (Ne.symm hne)]) (sameOs_map w hw) rfl rfl
       (fun r' hr'=>by
        rw [hr] at hr';cases hr'
        exact .map hb (show (w.heap.setIfInBounds b (.map es' ck'))[b]? =some (.map es' ck') by simp [hlt]) hmr') (fun c hc=>by
         simp at hc;subst hc
         exact ⟨.inl (by rw [hF];simp),by simpa using hlt⟩)
      have hFs:(fun x=>if x=l then [b] else Fs x)=Fs:=by
       funext x
       by_cases hx:x=l
       ·subst hx;simp [hF]
       ·simp [hx]
      rw [hFs] at hset
      have hex:(execOp a.eval ⟨dst,.mapUpdate t m x y,ty,pos,af,gd⟩).run E.P w= .ok .skip {w with heap:=w.heap.setIfInBounds b (.map es' ck')}:=by
       simp [execOp,hrun]
      unfold Oper.wp
      rw [hex,Oper.upon_skip]
      refine hn [] _ _ [l] Fs _ _ h (fun q hq=>by cases hq) (by simpa using hset) (fun l' ob hl' hT'=>⟨?_,rfl,fun c hc=>?_⟩)
      ·have hne:l'≠l:=fun he=>hT' (by simp [he])
       rw [List.getElem?_set_ne (Ne.symm hne)];exact hl'
      ·have hne:c≠b:=fun he=>by
        subst he
        have:=hH.apart l' ob l _ c hl' hl hc (by rw [hF];simp)
        exact hT' (by simp [this])
       simp [Array.getElem?_setIfInBounds_ne (Ne.symm hne)]
    ·exact h.elim
   ·exact h.elim
  ·exact h.elim
 ·exact h.elim
end
end Go.Ax
