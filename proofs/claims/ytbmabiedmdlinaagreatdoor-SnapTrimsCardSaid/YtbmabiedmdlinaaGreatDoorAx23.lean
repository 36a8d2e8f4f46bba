import Derived.Test.YtbmabiedmdlinaaGreatDoorAx17s
import Derived.Deep.LoopGhost
import Derived.Scope
set_option linter.all false
namespace Go.Ax
variable [Surr] {G:Gam} {ρ:List Root} {w:World}
mutual
theorem AV.same_eq: ∀{x y:AV},x.same y→x=y
  | .bool _,y,h=>by cases y<;>simp only [AV.same] at h<;>first |exact h.elim |rw [h]
  | .int _ _,y,h=>by
    cases y<;>simp only [AV.same] at h<;>first |exact h.elim |skip
    obtain ⟨h1,h2⟩:=br_elim h
    rw [kindEq_eq h1,h2]
  | .str _,y,h=>by cases y<;>simp only [AV.same] at h<;>first |exact h.elim |rw [h]
  | .imm _ _,y,h=>by
    cases y<;>simp only [AV.same] at h<;>first |exact h.elim |skip
    split at h
    · rename_i he;subst he;simp at h;rw [h]
    · exact h.elim
  | .ptr r,y,h=>by
    cases y<;>simp only [AV.same] at h<;>first |exact h.elim |skip
    obtain ⟨h1,h2⟩:=br_elim h
    rename_i q
    obtain ⟨a,b,c,d⟩:=r
    obtain ⟨a',b',c',d'⟩:=q
    simp only [Bool.and_eq_true] at h1
    have e1:=Nat.eq_of_beq_eq_true h1.1.1
    have e2:=Nat.eq_of_beq_eq_true h1.1.2
    have e3:=Nat.eq_of_beq_eq_true h1.2
    simp only [] at e1 e2 e3 h2
    rw [e1,e2,e3,h2]
  | .mp _,y,h=>by
    cases y<;>simp only [AV.same] at h<;>first |exact h.elim |skip
    obtain ⟨h1,h2⟩:=br_elim h
    rw [Nat.eq_of_beq_eq_true h1]
  | .capi _ _ _,y,h=>by cases y<;>simp only [AV.same] at h
  | .nilp,y,h=>by cases y<;>simp only [AV.same] at h<;>first |exact h.elim |rfl
  | .sl _ _ _ _,y,h=>by
    cases y<;>simp only [AV.same] at h<;>first |exact h.elim |skip
    obtain ⟨h1,h2,h3⟩:=br_elim h
    simp only [Bool.and_eq_true] at h1
    have e1:=Nat.eq_of_beq_eq_true h1.1
    have e2:=Nat.eq_of_beq_eq_true h1.2
    rw [e1,e2,h2,h3]
  | .nils,y,h=>by cases y<;>simp only [AV.same] at h<;>first |exact h.elim |rfl
  | .fn _ _,y,h=>by
    cases y<;>simp only [AV.same] at h<;>first |exact h.elim |skip
    obtain ⟨h1,h2⟩:=br_elim h
    have e1:=Nat.eq_of_beq_eq_true h1
    rw [e1,sameAll_eq h2]
  | .fnb _ _,y,h=>by
    cases y<;>simp only [AV.same] at h<;>first |exact h.elim |skip
    obtain ⟨h1,h2⟩:=br_elim h
    have e1:=Nat.eq_of_beq_eq_true h1
    rw [e1,sameAll_eq h2]
  | .nilf,y,h=>by cases y<;>simp only [AV.same] at h<;>first |exact h.elim |rfl
  | .nilm,y,h=>by cases y<;>simp only [AV.same] at h<;>first |exact h.elim |rfl
  | .ifc _ _,y,h=>by
    cases y<;>simp only [AV.same] at h<;>first |exact h.elim |skip
    obtain ⟨h1,h2⟩:=br_elim h
    have e1:=Nat.eq_of_beq_eq_true h1
    rw [e1,AV.same_eq h2]
  | .nili,y,h=>by cases y<;>simp only [AV.same] at h<;>first |exact h.elim |rfl
  | .agg _,y,h=>by
    cases y<;>simp only [AV.same] at h<;>first |exact h.elim |skip
    rw [sameAll_eq h]
  | .tup _,y,h=>by
    cases y<;>simp only [AV.same] at h<;>first |exact h.elim |skip
    rw [sameAll_eq h]
  | .cptr _ _,y,h=>by
    cases y<;>simp only [AV.same] at h<;>first |exact h.elim |skip
    obtain ⟨h1,h2⟩:=br_elim h
    have e1:=Nat.eq_of_beq_eq_true h1
    rw [e1,sameAll_eq h2]
theorem sameAll_eq: ∀{xs ys:List AV},sameAll xs ys→xs=ys
  | [],ys,h=>by cases ys<;>simp only [sameAll] at h<;>rfl
  |_::_,ys,h=>by
    cases ys<;>simp only [sameAll] at h
    rw [AV.same_eq h.1,sameAll_eq h.2]
end
theorem AObj.same_eq {x y:AObj} (h:x.same y):x=y:=by
  cases x<;>cases y<;>simp only [AObj.same] at h<;>first
    |(exact h.elim)
    |(rw [sameAll_eq h])
    | (split at h
       · rename_i he;subst he;simp at h;rw [h]
       · exact h.elim)
theorem take_get {α:Type} {l:List α} {n i:Nat} {x:α} (h:l[i]? =some x) (hn:i<n):(l.take n)[i]? =some x:=by
  rw [List.getElem?_take_of_lt hn];exact h
mutual
theorem RV.cut {n:Nat}: ∀{x:AV} {v:Value},x.labs n=true→RV G ρ x v→RV G (ρ.take n) x v
  | .bool _,_,_,h | .int _ _,_,_,h | .str _,_,_,h | .imm _ _,_,_,h | .nilp,_,_,h | .nils,_,_,h | .nilf,_,_,h | .nilm,_,_,h | .nili,_,_,h | .cptr _ _,_,_,h=>by
    first |exact h |(simp only [RV] at h ⊢ <;>exact h)
  | .mp _,_,hl,h=>by
    simp only [RV] at h ⊢
    obtain ⟨t,b,h1,h2⟩:=h
    simp only [AV.labs] at hl
    exact ⟨t,b,take_get h1 (by simpa [Nat.blt_eq] using hl),h2⟩
  | .capi _ _ _,_,hl,h=>by
    simp only [RV] at h ⊢
    obtain ⟨h0,t,h1,h2⟩:=h
    simp only [AV.labs] at hl
    exact ⟨h0,t,take_get h1 (by simpa [Nat.blt_eq] using hl),h2⟩
  | .ptr _,_,hl,h=>by
    simp only [RV] at h ⊢
    obtain ⟨t,b,h1,h2⟩:=h
    simp only [AV.labs] at hl
    exact ⟨t,b,take_get h1 (by simpa [Nat.blt_eq] using hl),h2⟩
  | .sl _ _ _ _,_,hl,h=>by
    simp only [RV] at h ⊢
    obtain ⟨t,h1,h2⟩:=h
    simp only [AV.labs] at hl
    exact ⟨t,take_get h1 (by simpa [Nat.blt_eq] using hl),h2⟩
  | .fn _ _,_,hl,h=>by
    simp only [RV] at h ⊢
    obtain ⟨vs,h1,h2⟩:=h
    simp only [AV.labs] at hl
    exact ⟨vs,h1,RVs.cut hl h2⟩
  | .fnb _ _,_,hl,h=>by
    simp only [RV] at h ⊢
    obtain ⟨vs,h1,h2⟩:=h
    simp only [AV.labs] at hl
    exact ⟨vs,h1,RVs.cut hl h2⟩
  | .agg _,_,hl,h=>by
    simp only [RV] at h ⊢
    obtain ⟨vs,h1,h2⟩:=h
    simp only [AV.labs] at hl
    exact ⟨vs,h1,RVs.cut hl h2⟩
  | .tup _,_,hl,h=>by
    simp only [RV] at h ⊢
    obtain ⟨vs,h1,h2⟩:=h
    simp only [AV.labs] at hl
    exact ⟨vs,h1,RVs.cut hl h2⟩
  | .ifc _ _,_,hl,h=>by
    simp only [RV] at h ⊢
    obtain ⟨vs,h1,h2⟩:=h
    simp only [AV.labs] at hl
    exact ⟨vs,h1,RV.cut hl h2⟩
theorem RVs.cut {n:Nat}: ∀{xs:List AV} {vs:List Value},labsAll n xs=true→RVs G ρ xs vs→RVs G (ρ.take n) xs vs
  | [],_,_,h=>by simp only [RVs] at h ⊢;exact h
  |_::_,_,hl,h=>by
    simp only [RVs] at h ⊢
    simp only [labsAll,Bool.and_eq_true] at hl
    obtain ⟨v,ws,h1,h2,h3⟩:=h
    exact ⟨v,ws,h1,RV.cut hl.1 h2,RVs.cut hl.2 h3⟩
end
theorem labsAll_mem {n:Nat}: ∀{xs:List AV},labsAll n xs=true→ ∀x,x∈xs→x.labs n=true
  | [],_,_,hx=>by simp at hx
  |y::ys,h,x,hx=>by
    simp only [labsAll,Bool.and_eq_true] at h
    rcases List.mem_cons.1 hx with rfl |hx
    · exact h.1
    · exact labsAll_mem h.2 x hx
theorem Sat.swap {ρ':List Root} {o:AObj} {r:Root} {F:List Nat} (h:Sat G ρ w o r F) (hc: ∀cs,o= .raw cs→ ∀x,x∈cs→ ∀v,RV G ρ x v→RV G ρ' x v):Sat G ρ' w o r F:=by
  revert hc
  refine Sat.rec (motive_1:=fun o r F _=>(∀cs,o= .raw cs→ ∀x,x∈cs→ ∀v,RV G ρ x v→RV G ρ' x v)→Sat G ρ' w o r F)
    (motive_2:=fun fs c o F _=>SatF G ρ' w fs c o F) ?_ ?_ ?_ ?_ ?_ ?_ ?_ ?_ ?_ h
  · intro cs r b c ty hb h1 h2 hc
    refine .raw hb h1 fun j x hj=>?_
    obtain ⟨u,hu,hr⟩:=h2 j x hj
    exact ⟨u,hu,hc cs rfl x (List.mem_of_getElem? hj) u hr⟩
  · intro k xs sp r b c ty fz hb h1 h2 h3 h5 hz hc;exact .row hb h1 h2 h3 h5 hz
  · intro k r hb ht hc;exact .rownil hb ht
  · intro k d r b c ty F hb h1 h2 hn ih hc;exact .obj hb h1 ih hn
  · intro k m r b es ck hb h1 h2 hc;exact .map hb h1 h2
  · intro c o;exact .nil
  · intro x fs c o u F hu hr h ih;exact .av hu hr ih
  · intro k d fs c o b' o' F1 F2 hu h1 h hd ih1 ih2;exact .own hu (ih1 fun cs he=>by cases he) ih2 hd
  · intro k xs fs c o v r F1 F2 hu hv h1 h hd ih1 ih2;exact .ownr hu hv (ih1 fun cs he=>by cases he) ih2 hd
theorem leHeap_get {n:Nat}: ∀{H A:AHeap},leHeap n H A→ ∀(l:Nat) (o:AObj),A[l]? =some (some o)→H[l]? =some (some o)∧o.labs n=true
  |_,[],_,l,o,h=>by simp at h
  |H,none::r,h,l,o,ho=>by
    have h':leHeap n H.tail r:=by cases H<;>simpa only [leHeap] using h
    cases l with
    |zero=>simp at ho
    |succ l=>
      simp at ho
      obtain ⟨h1,h2⟩:=leHeap_get h' l o ho
      exact ⟨by cases H<;>simpa using h1,h2⟩
  | [],some _::r,h,l,o,ho=>by simp only [leHeap] at h
  |none::_,some _::r,h,l,o,ho=>by simp only [leHeap] at h
  |some p::H,some q::r,h,l,o,ho=>by
    simp only [leHeap] at h
    obtain ⟨h1,h2,h3⟩:=br_elim h
    cases l with
    |zero=>
      simp at ho;subst ho
      exact ⟨by simp [AObj.same_eq h2],h1⟩
    |succ l=>
      simp at ho
      obtain ⟨g1,g2⟩:=leHeap_get h3 l o ho
      exact ⟨by simpa using g1,g2⟩
theorem mkTmps_len (n:Nat): ∀l:List (Nat × AV),(mkTmps n l).length=n
  | []=>by simp [mkTmps]
  |(s,v)::r=>by simp [mkTmps,mkTmps_len n r]
theorem mkTmps_get {n m:Nat} {ts:List (Option AV)}: ∀{l:List (Nat × AV)},leTmps n ts l→ ∀(s:Nat) (x:AV),(mkTmps m l)[s]? =some (some x)→ts[s]? =some (some x)∧x.labs n=true
  | [],_,s,x,h=>by
    simp only [mkTmps] at h
    have:=List.mem_of_getElem? h
    simp at this
  |(t,v)::r,hl,s,x,h=>by
    simp only [leTmps] at hl
    simp only [mkTmps] at h
    by_cases hst:t=s
    · subst hst
      have hlt:t<(mkTmps m r).length:=by
        have:=(List.getElem?_eq_some_iff.1 h).1
        simpa using this
      rw [List.getElem?_set_self hlt] at h
      simp at h;subst h
      obtain ⟨h1,_⟩:=hl
      split at h1
      · rename_i u hu
        obtain ⟨h2,h3⟩:=br_elim h1
        rw [hu,AV.same_eq h3]
        exact ⟨rfl,h2⟩
      · exact h1.elim
    · rw [List.getElem?_set_ne hst] at h
      exact mkTmps_get hl.2 s x h
theorem enters_sound {A:LoopAnn} {x:A.X} {st:AS} {a:Act} {ρ0 e:List Root} (h:A.enters ρ0.length st x) (hs:ST G (ρ0++e) w st a):
    ∃e',ST G (ρ0++e') w ⟨mkTmps a.tmps.size (A.live x),A.heap x⟩ a:=by
  obtain ⟨h1,h2,h3⟩:=br_elim h
  simp only [Bool.and_eq_true] at h1
  have hn:=Nat.le_of_ble_eq_true h1.1
  have hm:=Nat.le_of_ble_eq_true h1.2
  obtain ⟨Fs,hH⟩:=hs.sat
  have hlen:=hH.len
  have hcut:(ρ0++e).take (A.heap x).length=ρ0++e.take ((A.heap x).length-ρ0.length):=by
    rw [List.take_append,List.take_of_length_le hn]
  refine ⟨e.take ((A.heap x).length-ρ0.length),?_,⟨Fs,?_⟩,hs.df⟩
  · rw [←hcut]
    refine ⟨by rw [mkTmps_len],fun s y hy=>?_⟩
    obtain ⟨g1,g2⟩:=mkTmps_get h2 s y hy
    obtain ⟨v,hv,hr⟩:=hs.tr.2 s y g1
    exact ⟨v,hv,hr.cut g2⟩
  · rw [←hcut]
    refine ⟨?_,?_,?_,?_,hH.wok⟩
    · simp [List.length_take];simp at hlen;omega
    · intro l o hl
      obtain ⟨g1,g2⟩:=leHeap_get h3 l o hl
      obtain ⟨r,hr,hsat⟩:=hH.sat l o g1
      refine ⟨r,take_get hr (List.getElem?_eq_some_iff.1 hl).1,hsat.swap fun cs he y hy v hv=>?_⟩
      subst he
      exact hv.cut (labsAll_mem g2 y hy)
    · intro l o l' o' b hl hl' h1 h2
      exact hH.apart l o l' o' b (leHeap_get h3 l o hl).1 (leHeap_get h3 l' o' hl').1 h1 h2
    · intro l o b hl hb
      exact hH.free l o b (leHeap_get h3 l o hl).1 hb
theorem retmp_st {st:AS} {a:Act} {ρ:List Root} (hs:ST G ρ w st a) {s:Nat} {x y:AV} (hx:st.tmps[s]? =some (some x)) (h: ∀v,RV G ρ x v→RV G ρ y v):ST G ρ w ⟨st.tmps.set s (some y),st.heap⟩ a:=by
  refine ⟨⟨by simpa using hs.tr.1,fun t z hz=>?_⟩,hs.sat,hs.df⟩
  by_cases ht:s=t
  · subst ht
    have hlt:=(List.getElem?_eq_some_iff.1 hx).1
    rw [List.getElem?_set_self hlt] at hz
    simp at hz;subst hz
    obtain ⟨v,hv,hr⟩:=hs.tr.2 s _ hx
    exact ⟨v,hv,h v hr⟩
  · rw [List.getElem?_set_ne ht] at hz
    exact hs.tr.2 t z hz
theorem recell_st {st:AS} {a:Act} {ρ:List Root} (hs:ST G ρ w st a) {l off:Nat} {cs:List AV} {x y:AV} (hl:st.heap[l]? =some (some (.raw cs))) (hx:cs[off]? =some x) (h: ∀v,RV G ρ x v→RV G ρ y v):
    ST G ρ w ⟨st.tmps,st.heap.set l (some (.raw (cs.set off y)))⟩ a:=by
  obtain ⟨Fs,hH⟩:=hs.sat
  have hlt:=(List.getElem?_eq_some_iff.1 hl).1
  have hget: ∀(q:Nat) (o:AObj),(st.heap.set l (some (.raw (cs.set off y))))[q]? =some (some o)→ ∃o',st.heap[q]? =some (some o')∧(q=l∧o= .raw (cs.set off y)∨q≠l∧o=o'):=by
    intro q o hq
    by_cases hql:l=q
    · subst hql
      rw [List.getElem?_set_self hlt] at hq
      cases hq
      exact ⟨_,hl,.inl ⟨rfl,rfl⟩⟩
    · rw [List.getElem?_set_ne hql] at hq
      exact ⟨o,hq,.inr ⟨fun h=>hql h.symm,rfl⟩⟩
  refine ⟨hs.tr,⟨Fs,by simpa using hH.len,fun q o hq=>?_,fun q o q' o' c hq hq' hc hc'=>?_,fun q o c hq hc=>?_,hH.wok⟩,hs.df⟩
  · obtain ⟨o',g1,g2⟩:=hget q o hq
    obtain ⟨r,hr,hsat⟩:=hH.sat q o' g1
    refine ⟨r,hr,?_⟩
    rcases g2 with ⟨rfl,rfl⟩ |⟨_,rfl⟩
    · rw [hl] at g1;cases g1
      generalize Fs q=F at hsat
      cases hsat with
      |raw hb hw hc=>
        refine .raw hb hw fun j z hj=>?_
        by_cases hjo:off=j
        · subst hjo
          rw [List.getElem?_set_self (List.getElem?_eq_some_iff.1 hx).1] at hj
          cases hj
          obtain ⟨u,hu,hr⟩:=hc off x hx
          exact ⟨u,hu,h u hr⟩
        · rw [List.getElem?_set_ne hjo] at hj
          exact hc j z hj
    · exact hsat
  · obtain ⟨p,g1,_⟩:=hget q o hq
    obtain ⟨p',g2,_⟩:=hget q' o' hq'
    exact hH.apart q p q' p' c g1 g2 hc hc'
  · obtain ⟨p,g1,_⟩:=hget q o hq
    exact hH.free q p c g1 hc
theorem pushNil_st {st:AS} {a:Act} {ρ:List Root} (hs:ST G ρ w st a) (ek:EK):ST G (ρ++[⟨none,0,0⟩]) w ⟨st.tmps,st.heap++[some (.row ek [])]⟩ a:=by
  obtain ⟨Fs,hH⟩:=hs.sat
  refine ⟨⟨hs.tr.1,fun t y hy=>?_⟩,⟨_,SatH.push hH (.row ek []) ⟨none,0,0⟩ [] (w':=w) (Nat.le_refl _) (fun _ _=>rfl) .rfl rfl rfl (.rownil rfl rfl) (by simp)⟩,hs.df⟩
  obtain ⟨u,hu,hr⟩:=hs.tr.2 t y hy
  exact ⟨u,hu,hr.ext⟩
theorem nil_sl {ρ:List Root} {n e:Nat} (hn:n=ρ.length): ∀v,RV G (ρ++[⟨none,0,0⟩]) .nils v→RV G (ρ++[⟨none,0,0⟩]) (.sl n e 0 0) v:=by
  intro v hr
  simp only [RV] at hr ⊢
  exact ⟨⟨none,0,0⟩,by rw [hn];simp,Nat.le_refl _,.inr (by simp [hr])⟩
theorem nilRow_st {st:AS} {a:Act} {ρ0 e:List Root} (hs:ST G (ρ0++e) w st a) (s:Nat) (ek:EK): ∃e',ST G (ρ0++e') w (nilRow st s ek) a:=by
  unfold nilRow
  split
  · rename_i hn
    obtain ⟨Fs,hH⟩:=hs.sat
    refine ⟨e++[⟨none,0,0⟩],?_⟩
    rw [←List.append_assoc]
    exact retmp_st (pushNil_st hs ek) hn (nil_sl hH.len)
  · exact ⟨e,hs⟩
theorem nilCell_st {st:AS} {a:Act} {ρ0 e:List Root} (hs:ST G (ρ0++e) w st a) (l off:Nat) (ek:EK): ∃e',ST G (ρ0++e') w (nilCell st l off ek) a:=by
  unfold nilCell
  split
  · rename_i cs hl
    split
    · rename_i hn
      obtain ⟨Fs,hH⟩:=hs.sat
      refine ⟨e++[⟨none,0,0⟩],?_⟩
      rw [←List.append_assoc]
      exact recell_st (pushNil_st hs ek) (by simp only [];rw [List.getElem?_append_left (List.getElem?_eq_some_iff.1 hl).1];exact hl) hn (nil_sl hH.len)
    · exact ⟨e,hs⟩
  · exact ⟨e,hs⟩
mutual
theorem RV.relab {l:Nat} {t:Root}: ∀{x:AV} {v:Value},x.lacks l=true→RV G ρ x v→RV G (ρ.set l t) x v
  | .bool _,_,_,h | .int _ _,_,_,h | .str _,_,_,h | .imm _ _,_,_,h | .nilp,_,_,h | .nils,_,_,h | .nilf,_,_,h | .nilm,_,_,h | .nili,_,_,h | .cptr _ _,_,_,h=>by
    first |exact h |(simp only [RV] at h ⊢ <;>exact h)
  | .mp m,_,hl,h=>by
    simp only [RV] at h ⊢
    obtain ⟨t,b,h1,h2⟩:=h
    simp only [AV.lacks] at hl
    have hne:l≠m:=fun he=>by subst he;simp at hl
    exact ⟨t,b,by rw [List.getElem?_set_ne hne];exact h1,h2⟩
  | .capi m _ _,_,hl,h=>by
    simp only [RV] at h ⊢
    obtain ⟨h0,t,h1,h2⟩:=h
    simp only [AV.lacks] at hl
    have hne:l≠m:=fun he=>by subst he;simp at hl
    exact ⟨h0,t,by rw [List.getElem?_set_ne hne];exact h1,h2⟩
  | .ptr r,_,hl,h=>by
    simp only [RV] at h ⊢
    obtain ⟨t,b,h1,h2⟩:=h
    simp only [AV.lacks] at hl
    have hne:l≠r.lab:=fun he=>by subst he;simp at hl
    exact ⟨t,b,by rw [List.getElem?_set_ne hne];exact h1,h2⟩
  | .sl m _ _ _,_,hl,h=>by
    simp only [RV] at h ⊢
    obtain ⟨t,h1,h2⟩:=h
    simp only [AV.lacks] at hl
    have hne:l≠m:=fun he=>by subst he;simp at hl
    exact ⟨t,by rw [List.getElem?_set_ne hne];exact h1,h2⟩
  | .fn _ _,_,hl,h=>by
    simp only [RV] at h ⊢
    simp only [AV.lacks] at hl
    obtain ⟨vs,h1,h2⟩:=h
    exact ⟨vs,h1,RVs.relab hl h2⟩
  | .fnb _ _,_,hl,h=>by
    simp only [RV] at h ⊢
    simp only [AV.lacks] at hl
    obtain ⟨vs,h1,h2⟩:=h
    exact ⟨vs,h1,RVs.relab hl h2⟩
  | .agg _,_,hl,h=>by
    simp only [RV] at h ⊢
    simp only [AV.lacks] at hl
    obtain ⟨vs,h1,h2⟩:=h
    exact ⟨vs,h1,RVs.relab hl h2⟩
  | .tup _,_,hl,h=>by
    simp only [RV] at h ⊢
    simp only [AV.lacks] at hl
    obtain ⟨vs,h1,h2⟩:=h
    exact ⟨vs,h1,RVs.relab hl h2⟩
  | .ifc _ _,_,hl,h=>by
    simp only [RV] at h ⊢
    simp only [AV.lacks] at hl
    obtain ⟨vs,h1,h2⟩:=h
    exact ⟨vs,h1,RV.relab hl h2⟩
theorem RVs.relab {l:Nat} {t:Root}: ∀{xs:List AV} {vs:List Value},lacksAll l xs=true→RVs G ρ xs vs→RVs G (ρ.set l t) xs vs
  | [],_,_,h=>by simp only [RVs] at h ⊢;exact h
  |_::_,_,hl,h=>by
    simp only [RVs] at h ⊢
    simp only [lacksAll,Bool.and_eq_true] at hl
    obtain ⟨v,ws,h1,h2,h3⟩:=h
    exact ⟨v,ws,h1,RV.relab hl.1 h2,RVs.relab hl.2 h3⟩
end
theorem lacksAll_mem {l:Nat}: ∀{xs:List AV},lacksAll l xs=true→ ∀x,x∈xs→x.lacks l=true
  | [],_,_,hx=>by simp at hx
  |y::ys,h,x,hx=>by
    simp only [lacksAll,Bool.and_eq_true] at h
    rcases List.mem_cons.1 hx with rfl |hx
    · exact h.1
    · exact lacksAll_mem h.2 x hx
theorem move_st {st:AS} {a:Act} {ρ0 e:List Root} (hs:ST G (ρ0++e) w st a) {l L:Nat} {k:EK} {xs:List k.T} (hle:ρ0.length≤l) (hLl:L≠l) (hfree:st.heap[l]? =some none) (hrow:st.heap[L]? =some (some (.row k xs))) (hall:st.heap.all (objLacks l)=true):
    ∃e' t,(ρ0++e')[l]? =some t∧(ρ0++e')[L]? =some t∧ST G (ρ0++e') w ⟨st.tmps.map (killL l),(st.heap.set l (some (.row k xs))).set L none⟩ a:=by
  obtain ⟨Fs,hH⟩:=hs.sat
  obtain ⟨t,ht,hsat⟩:=hH.sat L _ hrow
  have hlt:l<st.heap.length:=(List.getElem?_eq_some_iff.1 hfree).1
  have hltr:l<(ρ0++e).length:=by rw [←hH.len];exact hlt
  have hset:(ρ0++e).set l t=ρ0++e.set (l-ρ0.length) t:=by rw [List.set_append,if_neg (by omega)]
  refine ⟨e.set (l-ρ0.length) t,t,by rw [←hset,List.getElem?_set_self hltr],by rw [←hset,List.getElem?_set_ne (Ne.symm hLl)];exact ht,?_,⟨fun q=>if q=l then Fs L else Fs q,?_⟩,hs.df⟩
  · rw [←hset]
    refine ⟨by simpa using hs.tr.1,fun q y hy=>?_⟩
    simp only [List.getElem?_map] at hy
    cases hx:st.tmps[q]? with
    |none=>simp [hx] at hy
    |some ox=>
      simp only [hx,Option.map_some,Option.some.injEq] at hy
      cases ox with
      |none=>simp [killL] at hy
      |some x=>
        simp only [killL] at hy
        cases hlk:x.lacks l with
        |false=>simp [hlk] at hy
        |true=>
          simp [hlk] at hy;subst hy
          obtain ⟨v,hv,hr⟩:=hs.tr.2 q x hx
          exact ⟨v,hv,hr.relab hlk⟩
  · rw [←hset]
    have hget: ∀(q:Nat) (o:AObj),((st.heap.set l (some (.row k xs))).set L none)[q]? =some (some o)→(q=l∧o= .row k xs)∨(q≠l∧q≠L∧st.heap[q]? =some (some o)):=by
      intro q o hq
      by_cases hqL:L=q
      · subst hqL
        have hlt:=(List.getElem?_eq_some_iff.1 hrow).1
        rw [List.getElem?_set_self (by simpa using hlt)] at hq
        cases hq
      · rw [List.getElem?_set_ne hqL] at hq
        by_cases hql:l=q
        · subst hql
          rw [List.getElem?_set_self hlt] at hq
          cases hq
          exact .inl ⟨rfl,rfl⟩
        · rw [List.getElem?_set_ne hql] at hq
          exact .inr ⟨fun h=>hql h.symm,fun h=>hqL h.symm,hq⟩
    refine ⟨by simp [←hH.len],?_,?_,?_,hH.wok⟩
    · intro q o hq
      rcases hget q o hq with ⟨rfl,rfl⟩ |⟨h1,h2,h3⟩
      · refine ⟨t,by rw [List.getElem?_set_self hltr],?_⟩
        simp only [if_true]
        exact hsat.swap fun cs he=>by cases he
      · obtain ⟨r,hr,hs2⟩:=hH.sat q o h3
        refine ⟨r,by rw [List.getElem?_set_ne (Ne.symm h1)];exact hr,?_⟩
        simp only [if_neg h1]
        refine hs2.swap fun cs he y hy v hv=>?_
        subst he
        have:=List.all_eq_true.1 hall _ (List.mem_of_getElem? h3)
        exact hv.relab (lacksAll_mem this y hy)
    · intro q o q' o' c hq hq' hc hc'
      rcases hget q o hq with ⟨rfl,rfl⟩ |⟨h1,h2,h3⟩<;>rcases hget q' o' hq' with ⟨rfl,rfl⟩ |⟨g1,g2,g3⟩
      · rfl
      · simp only [if_true,if_neg g1] at hc hc'
        exact absurd (hH.apart _ _ _ _ c hrow g3 hc hc') (Ne.symm g2)
      · simp only [if_true,if_neg h1] at hc hc'
        exact absurd (hH.apart _ _ _ _ c h3 hrow hc hc') h2
      · simp only [if_neg g1,if_neg h1] at hc hc'
        exact hH.apart _ _ _ _ c h3 g3 hc hc'
    · intro q o c hq hc
      rcases hget q o hq with ⟨rfl,rfl⟩ |⟨h1,h2,h3⟩
      · simp only [if_true] at hc
        exact hH.free _ _ c hrow hc
      · simp only [if_neg h1] at hc
        exact hH.free _ _ c h3 hc
theorem sl_same {ρ:List Root} {l L e b n:Nat} {t:Root} (h1:ρ[l]? =some t) (h2:ρ[L]? =some t): ∀v,RV G ρ (.sl L e b n) v→RV G ρ (.sl l e b n) v:=by
  intro v hr
  simp only [RV] at hr ⊢
  obtain ⟨t',g1,g2⟩:=hr
  rw [h2] at g1;cases g1
  exact ⟨t,h1,g2⟩
theorem home_st {st:AS} {a:Act} {ρ0 e:List Root} (hs:ST G (ρ0++e) w st a) (s l:Nat): ∃e',ST G (ρ0++e') w (homeOf ρ0.length st s l) a:=by
  unfold homeOf
  split
  · rename_i L es b n hn
    split
    · rename_i k xs hne hfree hrow
      cases hc:(Nat.ble ρ0.length l&&st.heap.all (objLacks l)) with
      |false=>exact ⟨e,hs⟩
      |true=>
        simp only [Bool.and_eq_true] at hc
        have hLl:L≠l:=Nat.ne_of_beq_eq_false hne
        obtain ⟨e',t,h1,h2,h3⟩:=move_st hs (Nat.le_of_ble_eq_true hc.1) hLl hfree hrow hc.2
        refine ⟨e',retmp_st h3 (x:= .sl L es b n) ?_ (sl_same h1 h2)⟩
        simp only [List.getElem?_map,hn,Option.map_some,killL,AV.lacks,hne]
        rfl
    · exact ⟨e,hs⟩
  · exact ⟨e,hs⟩
theorem homeCell_st {st:AS} {a:Act} {ρ0 e:List Root} (hs:ST G (ρ0++e) w st a) (l0 off l:Nat): ∃e',ST G (ρ0++e') w (homeCell ρ0.length st l0 off l) a:=by
  unfold homeCell
  split
  · rename_i cs hl0
    split
    · rename_i L es b n hn
      split
      · rename_i k xs hne hfree hrow
        cases hc:(Nat.ble ρ0.length l&&st.heap.all (objLacks l)) with
        |false=>exact ⟨e,hs⟩
        |true=>
          simp only [Bool.and_eq_true] at hc
          have hLl:L≠l:=Nat.ne_of_beq_eq_false hne
          obtain ⟨e',t,h1,h2,h3⟩:=move_st hs (Nat.le_of_ble_eq_true hc.1) hLl hfree hrow hc.2
          have n1:l≠l0:=fun h=>by subst h;rw [hfree] at hl0;cases hl0
          have n2:L≠l0:=fun h=>by subst h;rw [hrow] at hl0;cases hl0
          exact ⟨e',recell_st h3 (by simp only [];rw [List.getElem?_set_ne n2,List.getElem?_set_ne n1];exact hl0) hn (sl_same h1 h2)⟩
      · exact ⟨e,hs⟩
    · exact ⟨e,hs⟩
  · exact ⟨e,hs⟩
theorem fold_st {st:AS} {a:Act} {ρ:List Root} (hs:ST G ρ w st a) {l:Nat} {ok:OK} {K:ok.T→AHeap→Prop} (h:takeO 9 ok l st.heap K):
    ∃d H,K d H∧ST G ρ w ⟨st.tmps,H.set l (some (.obj ok d))⟩ a:=by
  obtain ⟨Fs,hH⟩:=hs.sat
  obtain ⟨d,H',F,r,h1,h2,h3,h4,h5,o,h6⟩:=takeO_lab 9 ok l st.heap Fs K hH h
  refine ⟨d,H',h1,hs.tr,⟨fun q=>if q=l then F else Fs q,?_⟩,hs.df⟩
  have hf:=hH.fewer h4
  have hlt:l<H'.length:=(List.getElem?_eq_some_iff.1 h5).1
  have hget: ∀(q:Nat) (o:AObj),(H'.set l (some (.obj ok d)))[q]? =some (some o)→(q=l∧o= .obj ok d)∨(q≠l∧H'[q]? =some (some o)):=by
    intro q o hq
    by_cases hql:l=q
    · subst hql
      rw [List.getElem?_set_self hlt] at hq
      cases hq
      exact .inl ⟨rfl,rfl⟩
    · rw [List.getElem?_set_ne hql] at hq
      exact .inr ⟨fun h=>hql h.symm,hq⟩
  have hsep: ∀(q:Nat) (o:AObj) (b:Nat),H'[q]? =some (some o)→b∈Fs q→b∉F:=by
    intro q o b hq hb hF
    obtain ⟨l',o',g1,g2,g3⟩:=h4.out b hF
    have:=hH.apart q o l' o' b (h4.sub _ _ hq) g1 hb g2
    subst this
    rw [g3] at hq;cases hq
  refine ⟨by simpa using hf.len,?_,?_,?_,hH.wok⟩
  · intro q o hq
    rcases hget q o hq with ⟨rfl,rfl⟩ |⟨g1,g2⟩
    · exact ⟨r,h2,by simpa using h3⟩
    · obtain ⟨r',hr',hs'⟩:=hf.sat q o g2
      exact ⟨r',hr',by simpa [g1] using hs'⟩
  · intro q o q' o' c hq hq' hc hc'
    rcases hget q o hq with ⟨rfl,rfl⟩ |⟨g1,g2⟩<;>rcases hget q' o' hq' with ⟨rfl,rfl⟩ |⟨k1,k2⟩
    · rfl
    · simp only [if_true,if_neg k1] at hc hc'
      exact absurd hc (hsep _ _ _ k2 hc')
    · simp only [if_true,if_neg g1] at hc hc'
      exact absurd hc' (hsep _ _ _ g2 hc)
    · simp only [if_neg g1,if_neg k1] at hc hc'
      exact hf.apart q o q' o' c g2 k2 hc hc'
  · intro q o c hq hc
    rcases hget q o hq with ⟨rfl,rfl⟩ |⟨g1,g2⟩
    · simp only [if_true] at hc
      obtain ⟨l',o',g1,g2,g3⟩:=h4.out c hc
      exact hH.free l' o' c g1 g2
    · simp only [if_neg g1] at hc
      exact hf.free q o c g2 hc
theorem SatHF.lose {ρ:List Root} {H:AHeap} {o:AObj} {Fs:Nat→List Nat} (h:SatHF G ρ w (H++[some o]) Fs):SatHF G ρ w (H++[none]) Fs:=by
  have hget: ∀(q:Nat) (o':AObj),(H++[none])[q]? =some (some o')→(H++[some o])[q]? =some (some o'):=by
    intro q o' hq
    by_cases hlt:q<H.length
    · rw [List.getElem?_append_left hlt] at hq ⊢;exact hq
    · rw [List.getElem?_append_right (by omega)] at hq
      cases hn:q-H.length with
      |zero=>rw [hn] at hq;simp at hq
      |succ m=>rw [hn] at hq;simp at hq
  exact ⟨by simpa using h.len,fun q o' hq=>h.sat q o' (hget _ _ hq),fun q o1 q' o2 c h1 h2 hc hc'=>h.apart q o1 q' o2 c (hget _ _ h1) (hget _ _ h2) hc hc',fun q o1 c h1 hc=>h.free q o1 c (hget _ _ h1) hc,h.wok⟩
theorem grow_st {st:AS} {a:Act} {ρ0 e:List Root} (hs:ST G (ρ0++e) w st a): ∃e',ST G (ρ0++e') w ⟨st.tmps,st.heap++[none]⟩ a:=by
  have h:=pushNil_st hs .i64
  obtain ⟨Fs,hF⟩:=h.sat
  exact ⟨e++[⟨none,0,0⟩],by rw [←List.append_assoc];exact ⟨h.tr,⟨Fs,hF.lose⟩,h.df⟩⟩
theorem norms_st {a:Act} {ρ0:List Root} {k:AS→Prop}: ∀{r:List Norm} {st:AS} {e:List Root},norms ρ0.length r st k→ST G (ρ0++e) w st a→ ∃st' e',k st'∧ST G (ρ0++e') w st' a
  | [],st,e,h,hs=>⟨st,e,h,hs⟩
  | .row s ek::r,st,e,h,hs=>by
    simp only [norms,forceL_eq] at h
    obtain ⟨e',h'⟩:=nilRow_st hs s ek
    exact norms_st h h'
  | .home s l::r,st,e,h,hs=>by
    simp only [norms,forceL_eq] at h
    obtain ⟨e',h'⟩:=home_st hs s l
    exact norms_st h h'
  | .rowC l o ek::r,st,e,h,hs=>by
    simp only [norms,forceL_eq] at h
    obtain ⟨e',h'⟩:=nilCell_st hs l o ek
    exact norms_st h h'
  | .grow::r,st,e,h,hs=>by
    simp only [norms,forceL_eq] at h
    obtain ⟨e',h'⟩:=grow_st hs
    exact norms_st h h'
  | .homeC l0 o l::r,st,e,h,hs=>by
    simp only [norms,forceL_eq] at h
    obtain ⟨e',h'⟩:=homeCell_st hs l0 o l
    exact norms_st h h'
  | .fold l ok::r,st,e,h,hs=>by
    simp only [norms] at h
    obtain ⟨d,H,h1,h2⟩:=fold_st hs h
    rw [forceL_eq] at h1
    exact norms_st h1 h2
theorem setC_st {sharp:Bool} {c:Operand} {b:Bool} {st:AS} {a:Act} {ρ:List Root} {k:AS→Prop} (hs:ST G ρ w st a) (hv:a.eval c= .bool b) (ht: ∃t,st.eval c=some (.bool t)) (h:setC sharp c b st k): ∃st',k st'∧ST G ρ w st' a:=by
  unfold setC at h
  split at h
  · rename_i t
    rw [AS.putK_eq] at h
    refine ⟨_,h,?_,hs.sat,hs.df⟩
    obtain ⟨u,hu⟩:=ht
    have hlt:t<st.tmps.length:=by
      simp only [AS.eval] at hu
      cases hx:st.tmps[t]? with
      |none=>rw [hx] at hu;cases hu
      |some x=>exact (List.getElem?_eq_some_iff.1 hx).1
    refine ⟨by simp [AS.put,hs.tr.1],fun s y hy=>?_⟩
    simp only [AS.put] at hy
    by_cases hsd:s=t
    · subst hsd
      rw [List.getElem?_set_self hlt] at hy
      simp at hy;subst hy
      have hsz:s<a.tmps.size:=by rw [hs.tr.1];exact hlt
      refine ⟨.bool b,?_,rvB⟩
      have:a.eval (.tmp s)= .bool b:=hv
      simp only [Act.eval] at this
      rw [Array.getElem?_eq_getElem hsz]
      simpa [hsz] using this
    · rw [List.getElem?_set_ne (Ne.symm hsd)] at hy
      exact hs.tr.2 s y hy
  · exact ⟨st,h,hs⟩
def AEx.ex:AEx→Exit
  | .normal=> .normal
  | .exit id=> .exit id
  | .ret=> .ret
theorem casesT_elim: ∀{c:Option (Nat × Nat)} {ts:List (Option AV)} {K:List (Option AV)→Prop},casesT c ts K→K ts
  |none,_,_,h=>h
  |some (t,n),ts,K,h=>by
    simp only [casesT] at h
    split at h
    · rename_i k j hts
      obtain ⟨hj,h⟩:=h
      have h3:=foldr_pick (fun m r h=>h) h j.toNat (by simp;omega) (by omega)
      rw [setF_eq] at h3
      have he:(((j.toNat:Nat):Int))=j:=by omega
      rw [he] at h3
      have hq:ts.set t (some (.int k j))=ts:=by
        obtain ⟨ht,h4⟩:=List.getElem?_eq_some_iff.1 hts
        rw [←h4];exact List.set_getElem_self ht
      rw [hq] at h3
      exact h3
    · exact h.elim
theorem aexec_sound {E:LEnv} (hE:E.toEnv.OK) {ρ0:List Root} (hn0:E.n0=ρ0.length): ∀(c:Code) (e:List Root) (st:AS) (a:Act) (w:World) (K:AEx→AS→Prop) (Q:Exit→Act→World→Prop),
    aexec E c st K→ST G (ρ0++e) w st a→(∀x st' e' a' w',K x st'→ST G (ρ0++e') w' st' a'→Q x.ex a' w')→c.wp E.P Q a w
  | .skip,e,st,a,w,K,Q,h,hs,hQ=>wp_skip (hQ .normal st e a w h hs)
  | .region id ops draw,e,st,a,w,K,Q,h,hs,hQ=>aregion_sound hE h hs fun st' e' a' w' hk hs'=>hQ .normal st' e' a' w' hk hs'
  | .exit id,e,st,a,w,K,Q,h,hs,hQ=>wp_exit (hQ (.exit id) st e a w h hs)
  | .ret,e,st,a,w,K,Q,h,hs,hQ=>wp_ret (hQ .ret st e a w h hs)
  | .seq c d,e,st,a,w,K,Q,h,hs,hQ=>by
    simp only [aexec] at h
    split at h
    · refine wp_seq (aexec_sound hE hn0 c e st a w _ _ h hs fun x st' e' a' w' hk hs'=>?_)
      cases x with
      |normal=>exact aexec_sound hE hn0 d e' st' a' w' K Q hk hs' hQ
      |exit id=>exact hQ (.exit id) st' e' a' w' hk hs'
      |ret=>exact hQ .ret st' e' a' w' hk hs'
    · rename_i A hA
      obtain ⟨J,h1,h2⟩:=h
      refine wp_seq (aexec_sound hE hn0 c e st a w _ _ h1 hs fun x st' e' a' w' hk hs'=>?_)
      cases x with
      |normal=>
        obtain ⟨hb,y,hy,hn⟩:=br_elim hk
        rw [hn0] at hn
        obtain ⟨st1,e1,hen,hs1⟩:=norms_st hn hs'
        obtain ⟨e3,h3⟩:=enters_sound hen hs1
        have hr:=h2 y hy
        rw [forceL_eq,forceL_eq] at hr
        replace hr:=casesT_elim hr
        refine aexec_sound hE hn0 d e3 _ a' w' K Q hr ?_ hQ
        rw [←Nat.eq_of_beq_eq_true hb,←hs'.tr.1]
        exact h3
      |exit id=>exact hQ (.exit id) st' e' a' w' hk hs'
      |ret=>exact hQ .ret st' e' a' w' hk hs'
  | .cond o c d,e,st,a,w,K,Q,h,hs,hQ=>by
    simp only [aexec] at h
    split at h
    · rename_i t ht
      have hv:=rv_bool (eval_rv hs.tr ht)
      cases t with
      |true=>
        obtain ⟨st',h',hs'⟩:=setC_st hs hv ⟨_,ht⟩ h
        exact wp_cond_true hv (aexec_sound hE hn0 c e st' a w K Q h' hs' hQ)
      |false=>
        obtain ⟨st',h',hs'⟩:=setC_st hs hv ⟨_,ht⟩ h
        exact wp_cond_false hv (aexec_sound hE hn0 d e st' a w K Q h' hs' hQ)
    · exact h.elim
  | .block id c,e,st,a,w,K,Q,h,hs,hQ=>by
    simp only [aexec] at h
    refine wp_block (aexec_sound hE hn0 c e st a w _ _ h hs fun x st' e' a' w' hk hs'=>?_)
    cases x with
    |normal=>exact hQ .normal st' e' a' w' hk hs'
    |exit i=>
      simp only [AEx.ex,Exit.inBlock]
      cases hb:Nat.beq i id with
      |true=>
        simp only [hb,br] at hk
        rw [if_pos (Nat.eq_of_beq_eq_true hb)]
        exact hQ .normal st' e' a' w' hk hs'
      |false=>
        simp only [hb,br] at hk
        rw [if_neg (Nat.ne_of_beq_eq_false hb)]
        exact hQ (.exit i) st' e' a' w' hk hs'
    |ret=>exact hQ .ret st' e' a' w' hk hs'
  | .loop c,e,st,a,w,K,Q,h,hs,hQ=>by
    simp only [aexec] at h
    split at h
    · rename_i A hA
      obtain ⟨I,m,x0,hp0,hen0,hround⟩:=h
      have hsz:a.tmps.size=st.tmps.length:=hs.tr.1
      let R:A.X→Act→World→Prop:=fun x a w=>I x∧ ∃e',ST G (ρ0++e') w ⟨mkTmps st.tmps.length (A.live x),A.heap x⟩ a
      have h0:R x0 a w:=by
        rw [hn0] at hen0
        obtain ⟨st1,e1,hen1,hs1⟩:=norms_st hen0 hs
        obtain ⟨e',h'⟩:=enters_sound hen1 hs1
        exact ⟨hp0,e',by rw [←hsz];exact h'⟩
      have hround': ∀x a w,R x a w→c.wp E.P (Exit.then (fun a' w'=> ∃n',n'<m x∧ ∃y,R y a' w'∧m y=n') Q) a w:=by
        intro x a w ⟨hp,e',hst⟩
        have hr:=hround x hp
        rw [forceL_eq,forceL_eq] at hr
        replace hr:=casesT_elim hr
        refine aexec_sound hE hn0 c e' _ a w _ _ hr hst fun ex st' e2 a' w' hk hs'=>?_
        cases ex with
        |normal=>
          obtain ⟨hb,y,hpy,heny,hlt⟩:=br_elim hk
          rw [hn0] at heny
          obtain ⟨st1,e1,hen1,hs1⟩:=norms_st heny hs'
          obtain ⟨e3,h3⟩:=enters_sound hen1 hs1
          refine ⟨m y,hlt,y,⟨hpy,e3,?_⟩,rfl⟩
          rw [←Nat.eq_of_beq_eq_true hb,←hs'.tr.1]
          exact h3
        |exit id=>exact hQ (.exit id) st' e2 a' w' hk hs'
        |ret=>exact hQ .ret st' e2 a' w' hk hs'
      exact wp_loop_ghost (fun n a w=> ∃y,R y a w∧m y=n) (m x0) ⟨x0,h0,rfl⟩ fun n a w ⟨x,hx,he⟩=>by
        subst he
        exact hround' x a w hx
    · exact h.elim
  | .scope c,e,st,a,w,K,Q,h,hs,hQ=>by
    simp only [aexec] at h
    refine wp_scope_straight (aexec_sound hE hn0 c e st a w K _ h hs fun x st' e' a' w' hk hs'=>?_)
    cases x with
    |normal=>exact hQ .normal st' e' a' w' hk hs'
    |exit id=>exact hQ (.exit id) st' e' a' w' hk hs'
    |ret=>exact hQ .ret st' e' a' w' hk hs'
  | .label _,e,st,a,w,K,Q,h,hs,hQ=>by
    simp only [aexec] at h
    exact wp_label (hQ .normal st e a w h hs)
  | .goto _,_,_,_,_,_,_,h,_,_=>by simp only [aexec] at h
  | .rangeFunc ..,_,_,_,_,_,_,h,_,_=>by simp only [aexec] at h
  | .refuse _,_,_,_,_,_,_,h,_,_=>by simp only [aexec] at h
end Go.Ax
namespace Go.Ax
variable [Surr] {G:Gam} {ρ:List Root} {w:World}
def resOne (tmps:Array Value):ResultVar→Sem Value
  | .tmp t=>pure (tmps.getD t undef)
  | .cell a t=>do loadVar t (←asAddr (tmps.getD a undef))
theorem tmps_get {ts:List (Option AV)} {tmps:Array Value} (hT:TR G ρ ts tmps) {t:Nat} {x:AV} (h:ts[t]? =some (some x)):RV G ρ x (tmps.getD t undef):=by
  obtain ⟨v,hv,hr⟩:=hT.2 t x h
  rw [Array.getD_eq_getD_getElem?,hv]
  exact hr
theorem aresult_run {E:Env} {st:AS} {tmps:Array Value} {Fs:Nat→List Nat} (hT:TR G ρ st.tmps tmps) (hH:SatHF G ρ w st.heap Fs): ∀{rs:List ResultVar} {k:List AV→Prop},aresult E st rs k→
    ∃vs us,k vs∧RVs G ρ vs us∧(rs.mapM (resOne tmps)).run E.P w= .ok us w
  | [],k,h=>by
    simp only [aresult] at h
    exact ⟨[],[],h,by simp [RVs],by simp⟩
  | .tmp t::rs,k,h=>by
    simp only [aresult] at h
    split at h
    · rename_i v hv
      obtain ⟨vs,us,h1,h2,h3⟩:=aresult_run hT hH h
      exact ⟨v::vs,_::us,h1,by simp only [RVs];exact ⟨_,us,rfl,tmps_get hT hv,h2⟩,by simp [resOne,h3]⟩
    · exact h.elim
  | .cell c t::rs,k,h=>by
    simp only [aresult] at h
    split at h
    · rename_i q g hq hg
      have hinfo: ∃i,E.P.info? t=some i:=by
        unfold isAggT at hg
        cases hu:E.P.underlying t with
        |none=>simp [hu] at hg
        |some d=>exact info_of_und hu
      obtain ⟨it,hit⟩:=hinfo
      obtain ⟨cs,b,o,ws,hk,hv,hbF,_,hcl,hrs,hvl,hrun⟩:=readCells_run hH h (tmps_get hT hq)
      obtain ⟨x2,hx2,hrx,hlen⟩:=ofCells_rv hk hrs
      obtain ⟨vs,us,h1,h2,h3⟩:=aresult_run hT hH hx2
      have:=run_loadVar_cells (P:=E.P) hg hit (b:=b) (o:=o) hvl (w':=w) (fun j hj=>hrun w rfl j (by omega)) hlen
      refine ⟨x2::vs,_::us,h1,by simp only [RVs];exact ⟨_,us,rfl,hrx,h2⟩,?_⟩
      simp [resOne,h3,hv,this,asAddr]
    · exact h.elim
theorem abody_sound {E:LEnv} (hE:E.toEnv.OK) {f:FuncId} {fn:Func} (hf:E.P.funcs[f]? =some fn) {args:List AV} {H:AHeap} {K:AV→AHeap→Prop} (hn0:E.n0=H.length) (h:abody E fn args H K)
    {Fs:Nat→List Nat} {vs:List Value} (hH:SatHF G ρ w H Fs) (hr:RVs G ρ args vs):
    Calls E.P f vs.toArray w fun e w'=> ∃v av H' e' Fs',e= .returned v∧K av H'∧RV G (ρ++e') av v∧SatHF G (ρ++e') w' H' Fs':=by
  unfold abody at h
  split at h
  · rename_i c hc
    rw [forceL_eq] at h
    have hlen:=hr.len
    refine calls_of_wp hf hc (aexec_sound (G:=G) (ρ0:=ρ) hE (hn0.trans hH.len) c [] _ _ w _ _ h ⟨?_,⟨Fs,by simpa using hH⟩,rfl⟩ fun x st' e' a' w' hk hs'=>?_)
    · rw [List.append_nil]
      refine ⟨by simp [hlen],fun s y hy=>?_⟩
      by_cases hs:s<args.length
      · rw [List.getElem?_append_left (by simpa using hs)] at hy
        rw [List.getElem?_map] at hy
        cases ha:args[s]? with
        |none=>simp [ha] at hy
        |some z=>
          simp [ha] at hy
          subst hy
          obtain ⟨v,hv,hrv⟩:=hr.get ha
          refine ⟨v,?_,hrv⟩
          rw [Array.getElem?_append_left (by simp;omega)]
          simpa using hv
      · rw [List.getElem?_append_right (by simp;omega)] at hy
        have:=List.mem_of_getElem? hy
        simp at this
    · have key: ∀{k:List AV→Prop},(k=fun vs=>match vs with | [v]=>K v st'.heap |vs=>K (.tup vs) st'.heap)→aresult E.toEnv st' fn.results.toList k→a'.defers=[]∧ ∃v,(results fn a'.tmps).run E.P w'= .ok v w'∧
          (∃v1 av H' e' Fs',Ending.returned v= .returned v1∧K av H'∧RV G (ρ++e') av v1∧SatHF G (ρ++e') w' H' Fs'):=by
        intro k hkk h1
        obtain ⟨Fs',hH'⟩:=hs'.sat
        obtain ⟨avs,us,h2,h3,h4⟩:=aresult_run hs'.tr hH' h1
        subst hkk
        have hm:fn.results.mapM (resOne a'.tmps)=List.toArray <$> fn.results.toList.mapM (resOne a'.tmps):=by
          rw [←List.mapM_toArray]
        have hres:(results fn a'.tmps).run E.P w'= .ok (if h:us.toArray.size=1 then us.toArray[0] else .tuple us.toArray) w':=by
          have:results fn a'.tmps=(do let vs ←fn.results.mapM (resOne a'.tmps);pure (if h:vs.size=1 then vs[0] else .tuple vs)):=by
            unfold results
            congr 1
          rw [this,hm]
          simp only [Sem.run_bind,map_eq_pure_bind,h4,Result.andThen_ok,Sem.run_pure]
        refine ⟨hs'.df,_,hres,?_⟩
        have hl:=h3.len
        split at h2
        · rename_i v
          simp only [RVs] at h3
          obtain ⟨u,ws,rfl,h5,rfl⟩:=h3
          exact ⟨_,v,_,e',Fs',rfl,h2,by simpa using h5,hH'⟩
        · rename_i hne
          have hsz: ¬ us.toArray.size=1:=by
            intro h1
            simp at h1
            rw [h1] at hl
            match avs,hl with
            | [v],_=>exact hne v rfl
          rw [dif_neg hsz]
          exact ⟨_,.tup avs,_,e',Fs',rfl,h2,by simp only [RV];exact ⟨_,rfl,by simpa using h3⟩,hH'⟩
      cases x with
      |normal=>exact key rfl hk
      |exit id=>exact hk.elim
      |ret=>exact key rfl hk
  · exact h.elim
end Go.Ax
namespace Go.Ax
inductive VK where
  |int (k:IntKind)
  |bool
  |str
  |elem (k:EK)
  |obj (k:OK)
  |opt (k:OK)
  |row (k:EK)
  |part (k:EK)
  |imm (k:EK)
  |fn (f:FuncId)
  |view (k:OK)
  |vopt (k:OK)
def viewFld:Nat→Fld→AV
  |_,.av x=>x
  |0,.own _ _=> .cptr [] 0
  |n+1,.own k d=> .cptr ((k.unf d).map (viewFld n)) 0
  |_,.ownr k xs=> .imm k xs
def unvF (rec:(k:OK)→List AV→Option k.T):List Shp→List AV→Option (List Fld)
  | [],[]=>some []
  | .av::ss,x::cs=>match x.flat||isNil x,unvF rec ss cs with
    |true,some fs=>some (.av x::fs)
    |_,_=>none
  | .own k::ss,x::cs=>match x with
    | .cptr ys off=>match Nat.beq off 0,rec k ys,unvF rec ss cs with
      |true,some d,some fs=>some (.own k d::fs)
      |_,_,_=>none
    |_=>none
  | .opt k::ss,x::cs=>match x with
    | .cptr ys off=>match Nat.beq off 0,rec k ys,unvF rec ss cs with
      |true,some d,some fs=>some (.own k d::fs)
      |_,_,_=>none
    | .nilp=>match unvF rec ss cs with
      |some fs=>some (.av .nilp::fs)
      |none=>none
    |_=>none
  | .ownr k::ss,x::cs=>match x with
    | .imm k' xs=>if h:k'=k then (match unvF rec ss cs with
      |some fs=>some (.ownr k (castR h xs)::fs)
      |none=>none) else none
    |_=>none
  |_,_=>none
def unvO:Nat→(k:OK)→List AV→Option k.T
  |0,_,_=>none
  |n+1,k,cs=>match unvF (unvO n) k.shape cs with
    |some fs=>k.fold fs
    |none=>none
@[reducible] def VK.T:VK→Type
  | .int _=>Int
  | .bool=>Bool
  | .str=>ByteArray
  | .elem k=>k.T
  | .obj k=>k.T
  | .opt k=>Option k.T
  | .row k=>List k.T
  | .part k=>List k.T
  | .imm k=>List k.T
  | .fn _=>Unit
  | .view k=>k.T
  | .vopt k=>Option k.T
def VK.objs:(k:VK)→k.T→List AObj
  | .int _,_=>[]
  | .bool,_=>[]
  | .str,_=>[]
  | .elem _,_=>[]
  | .obj k,d=>[.obj k d]
  | .opt k,x=>match x with |some d=>[.obj k d] |none=>[]
  | .row k,xs=>[.row k xs]
  | .part k,xs=>[.row k xs]
  | .imm _,_=>[]
  | .fn _,_=>[]
  | .view _,_=>[]
  | .vopt _,_=>[]
def VK.av:(k:VK)→k.T→Nat→AV
  | .int k,n,_=> .int k n
  | .bool,b,_=> .bool b
  | .str,s,_=> .str s
  | .elem k,x,_=> .agg (k.enc x)
  | .obj _,_,n=> .ptr ⟨n,0,0,0⟩
  | .opt _,x,n=>match x with |some _=> .ptr ⟨n,0,0,0⟩ |none=> .nilp
  | .row k,xs,n=> .sl n k.esz 0 xs.length
  | .part k,xs,n=> .sl n k.esz 0 xs.length
  | .imm k,xs,_=> .imm k xs
  | .fn f,_,_=> .fn f []
  | .view k,d,_=> .cptr ((k.unf d).map (viewFld 8)) 0
  | .vopt k,x,_=>match x with |some d=> .cptr ((k.unf d).map (viewFld 8)) 0 |none=> .nilp
def VK.isImm:VK→Bool
  | .imm _ | .view _ | .vopt _=>true
  |_=>false
@[reducible] def prodT:List VK→Type
  | []=>Unit
  |k::ks=>k.T × prodT ks
def objsAll:(ks:List VK)→prodT ks→List AObj
  | [],_=>[]
  |k::ks,x=>k.objs x.1++objsAll ks x.2
def avs:(ks:List VK)→prodT ks→Nat→List AV
  | [],_,_=>[]
  |k::ks,x,n=>k.av x.1 n::avs ks x.2 (n+(k.objs x.1).length)
def takeV:(k:VK)→AV→AHeap→(k.T→AHeap→Option Nat→Prop)→Prop
  | .int k,x,H,K=>match x with
    | .int k' n=>br (kindEq k' k) (K n H none) False
    |_=>False
  | .bool,x,H,K=>match x with
    | .bool b=>K b H none
    |_=>False
  | .str,x,H,K=>match x with
    | .str s=>K s H none
    |_=>False
  | .elem k,x,H,K=>match x with
    | .agg cs=>match k.dec cs with
      |some d=>K d H none
      |none=>False
    |_=>False
  | .obj k,x,H,K=>match x with
    | .ptr r=>br (Nat.beq r.idx 0&&Nat.beq r.off 0) (takeO 9 k r.lab H fun d H=>K d H (some r.lab)) False
    |_=>False
  | .opt k,x,H,K=>match x with
    | .ptr r=>br (Nat.beq r.idx 0&&Nat.beq r.off 0) (takeO 9 k r.lab H fun d H=>K (some d) H (some r.lab)) False
    | .nilp=>K none H none
    |_=>False
  | .row k,x,H,K=>match x with
    | .sl lab esz base n=>match H[lab]? with
      |some (some (.row k' xs))=>br (Nat.beq esz k.esz&&Nat.beq base 0) (if h:k'=k then n=xs.length∧forceL (H.set lab none) fun H=>K (castR h xs) H (some lab) else False) False
      |_=>False
    | .nils=>K [] H none
    |_=>False
  | .part k,x,H,K=>match x with
    | .sl lab esz base n=>match H[lab]? with
      |some (some (.row k' xs))=>br (Nat.beq esz k.esz) (if h:k'=k then base+n≤xs.length∧forceL (H.set lab none) fun H=>K (((castR h xs).drop base).take n) H none else False) False
      |_=>False
    | .nils=>K [] H none
    |_=>False
  | .imm k,x,H,K=>match x with
    | .imm k' xs=>if h:k'=k then K (castR h xs) H none else False
    | .sl lab esz base n=>match H[lab]? with
      |some (some (.row k' xs))=>br (Nat.beq esz k.esz) (if h:k'=k then base+n≤xs.length∧K (((castR h xs).drop base).take n) H none else False) False
      |_=>False
    | .nils=>K [] H none
    |_=>False
  | .fn f,x,H,K=>match x with
    | .fn g cs=>match cs with
      | []=>br (Nat.beq g f) (K () H none) False
      |_=>False
    |_=>False
  | .view k,x,H,K=>match x with
    | .ptr r=>br (Nat.beq r.idx 0&&Nat.beq r.off 0) (takeO 9 k r.lab H fun d _=>K d H none) False
    | .cptr cs off=>br (Nat.beq off 0) (match unvO 9 k cs with |some d=>K d H none |none=>False) False
    |_=>False
  | .vopt k,x,H,K=>match x with
    | .ptr r=>br (Nat.beq r.idx 0&&Nat.beq r.off 0) (takeO 9 k r.lab H fun d _=>K (some d) H none) False
    | .cptr cs off=>br (Nat.beq off 0) (match unvO 9 k cs with |some d=>K (some d) H none |none=>False) False
    | .nilp=>K none H none
    |_=>False
def takeVs:(ks:List VK)→List AV→AHeap→(prodT ks→AHeap→List (Option Nat)→Prop)→Prop
  | [],[],H,K=>K () H []
  |k::ks,a::as,H,K=>match k.isImm with
    |true=>takeVs ks as H fun x H ls=>takeV k a H fun d H l=>K (d,x) H (l::ls)
    |false=>takeV k a H fun d H l=>takeVs ks as H fun x H ls=>K (d,x) H (l::ls)
  |_,_,_,_=>False
abbrev AKs:=List (VK × Bool)
def AKs.ks (A:AKs):List VK:=A.map (·.1)
@[reducible] def keepT:AKs→Type
  | []=>Unit
  |(k,true)::A=>k.T × keepT A
  |(_,false)::A=>keepT A
def keepOK:Option Nat→Nat→List AObj→List AObj→Bool
  |_,_,[],[]=>true
  |some m,n,[_],[_]=>Nat.beq m n
  |_,_,_,_=>false
def keepTake:(A:AKs)→prodT (A.map (·.1))→Nat→AHeap→(keepT A→AHeap→Prop)→Prop
  | [],_,_,H,K=>K () H
  |(k,true)::A,x,n,H,K=>takeV k (k.av x.1 n) H fun d H l=>br (keepOK l n (k.objs x.1) (k.objs d)) (keepTake A x.2 (n+(k.objs x.1).length) H fun y H=>K (d,y) H) False
  |(k,false)::A,x,n,H,K=>keepTake A x.2 (n+(k.objs x.1).length) H K
def takeRet (R:List VK) (v:AV) (H:AHeap) (K:prodT R→AHeap→Prop):Prop:=
  match R,K with
  | [k],K=>takeV k v H fun d H _=>K (d,()) H
  |ks,K=>match v with
    | .tup vs=>takeVs ks vs H fun x H _=>K x H
    |_=>False
def retAV (R:List VK) (x:prodT R) (n:Nat):AV:=
  match R,x with
  | [k],x=>k.av x.1 n
  |ks,x=> .tup (avs ks x n)
def putOne (os:List AObj) (l:Option Nat) (H:AHeap):AHeap:=
  match os,l with
  | [o],some l=>H.set l (some o)
  |_,_=>H
def putKept:(A:AKs)→keepT A→List (Option Nat)→AHeap→AHeap
  | [],_,_,H=>H
  |(k,true)::A,y,l::ls,H=>putKept A y.2 ls (putOne (k.objs y.1) l H)
  |(_,false)::A,y,_::ls,H=>putKept A y ls H
  |_,_,[],H=>H
def gone:AHeap→AHeap→Nat→List Nat
  |some _::H,none::H',n=>n::gone H H' (n+1)
  |_::H,_::H',n=>gone H H' (n+1)
  |_,_,_=>[]
def EK.clean:EK→Bool
  | .ract | .cact | .pact=>false
  |_=>true
structure Sig where
  args:AKs
  ret:List VK
def OK.clean:OK→Bool
  | .reader=>false
  |_=>true
def VK.clean:VK→Bool
  | .obj k | .opt k=>OK.clean k
  | .elem k | .row k | .part k=>k.clean
  | .imm _ | .view _ | .vopt _=>false
  |_=>true
def Sig.ok (S:Sig):Bool:=(S.ret.all fun k=>!k.isImm)&&((S.args.all fun p=>!p.1.isImm)||(S.ret.all VK.clean&&S.args.all fun p=>!p.2||p.1.clean))
abbrev Sig.X (S:Sig):Type:=prodT (S.args.map (·.1))
abbrev Sig.Out (S:Sig):Type:=S.X→(keepT S.args→prodT S.ret→Prop)→Prop
def Sig.spec (S:Sig) (out:S.Out):SpecT:=fun args H K=>
  takeVs (S.args.map (·.1)) args H fun x H1 ls=>out x fun y r=>
    forceL (putKept S.args y ls H1++(objsAll S.ret r).map some) fun H2=>forceL (gone H H1 0) fun T=>K (retAV S.ret r H.length) H2 T
def Sig.case (S:Sig) (E:LEnv) (fn:Func) (x:S.X) (k:keepT S.args→prodT S.ret→Prop):Prop:=
  abody {E with n0:=(objsAll (S.args.map (·.1)) x).length} fn (avs (S.args.map (·.1)) x 0) ((objsAll (S.args.map (·.1)) x).map some) fun v H=>keepTake S.args x 0 H fun y H=>takeRet S.ret v H fun r _=>k y r
def Sig.VC (S:Sig) (out:S.Out) (E:LEnv) (fn:Func):Prop:= ∀x k,out x k→S.case E fn x k
def AV.clean:AV→Bool
  | .imm _ _=>false
  |_=>true
def AObj.clean:AObj→Bool
  | .row k _=>k.clean
  | .obj k _=>k.clean
  | .raw _=>false
  | .map k _=>k.clean
theorem EK.clean_enc {k:EK} (h:k.clean=true) (x:k.T):(k.enc x).all AV.clean=true:=by
  cases k<;>first
    |rfl
    |(simp [EK.clean] at h;done)
def Fld.clean:Fld→Bool
  | .av x=>x.clean
  | .own k _=>k.clean
  | .ownr k _=>k.clean
theorem OK.clean_unf {k:OK} (h:k.clean=true) (d:k.T):(k.unf d).all Fld.clean=true:=by
  cases k<;>first
    |(simp [OK.clean] at h;done)
    |rfl
    |(simp only [OK.unf];rcases d with ⟨⟩;simp only [];rfl)
    |(obtain ⟨a,_,_,_,_,_,_,_,_,b,_,_⟩:=d;cases a<;>cases b<;>rfl)
    |(obtain ⟨a,_,_⟩:=d;cases a<;>rfl)
end Go.Ax
namespace Go.Ax
variable [Surr] {G G':Gam} {ρ ρ':List Root} {w w':World}
def CellMap (G G':Gam):Prop:= ∀b o v,G.cell b o v→G'.cell b o v
theorem RV0.any {y:AV} {u:Value} (h:RV0 y u):RV0 y u:=h
theorem immOK.cells (hm:CellMap G G') {R:AV→Value→Prop} {k:EK} {xs:List k.T} {v:Value} (h:immOK G R k xs v):immOK G' R k xs v:=by
 obtain ⟨a,cap,h1,h2,h4⟩:=h
 refine ⟨a,cap,h1,h2,fun hn=>?_⟩
 obtain ⟨b,o,h5,h6⟩:=h4 hn
 exact ⟨b,o,h5,fun i x hi j y hj=>let ⟨u,g,r⟩:=h6 i x hi j y hj;⟨u,hm _ _ _ g,r⟩⟩
theorem RV1.change {y:AV} {u:Value} (hm:y.clean=false→CellMap G G') (h:RV1 G y u):RV1 G' y u:=by
 cases y<;>simp only [RV1] at h ⊢ <;>first |exact h |exact h.cells (hm rfl)
theorem RVs.enc_change {k:EK} (hm:k.clean=false→CellMap G G') {d:k.T} {vs:List Value} (h:RVs G ρ (k.enc d) vs):RVs G' ρ' (k.enc d) vs:=by
 refine RVs.of_get h.len fun j x hj=>?_
 obtain ⟨v,hv,hr⟩:=h.get hj
 have hm1:=List.mem_of_getElem? hj
 have hf:=List.all_eq_true.1 (enc_flat k d) x hm1
 refine ⟨v,hv,((flat_rv1 hf hr).change fun hc=>hm ?_).rv⟩
 cases hk:k.clean with
 |false=>rfl
 |true=>
  have:=List.all_eq_true.1 (EK.clean_enc hk d) x hm1
  rw [this] at hc;cases hc
theorem ValR.change {k:EK} {x:k.T} {v:Value} (hm:k.clean=false→CellMap G G') (h:ValR G k x v):ValR G' k x v:=by
 obtain ⟨ρ,h⟩:=h
 refine ⟨ρ,?_⟩
 cases hp:k.prim with
 |true=>cases k<;>simp [EK.prim] at hp<;>(simp only [EK.val,RV] at h ⊢;exact h)
 |false=>
  have e:k.val x= .agg (k.enc x):=by cases k<;>simp [EK.prim] at hp<;>rfl
  rw [e] at h ⊢
  simp only [RV] at h ⊢
  obtain ⟨vs,h1,h2⟩:=h
  exact ⟨vs,h1,RVs.enc_change hm h2⟩
theorem MapR.change {k:EK} (hm:k.clean=false→CellMap G G'): ∀{m:List (Int × k.T)} {es:List MapEntry},MapR G k m es→MapR G' k m es
 | [],_,h=>h
 |_::_,_,⟨e,r,h1,h2,h3,h4⟩=>⟨e,r,h1,h2,h3.change hm,MapR.change hm h4⟩
theorem Sat.change {o:AObj} {r:Root} {F:List Nat} (h:Sat G ρ w o r F) (hm:o.clean=false→CellMap G G') (hraw: ∀cs,o≠ .raw cs) (hw: ∀b,b∈F→w'.heap[b]? =w.heap[b]?):Sat G' ρ' w' o r F:=by
 revert hm hraw hw
 refine Sat.rec (motive_1:=fun o r F _=>(o.clean=false→CellMap G G')→(∀cs,o≠ .raw cs)→(∀b,b∈F→w'.heap[b]? =w.heap[b]?)→Sat G' ρ' w' o r F)
  (motive_2:=fun fs c o F _=>(fs.all Fld.clean=false→CellMap G G')→(∀b,b∈F→w'.heap[b]? =w.heap[b]?)→SatF G' ρ' w' fs c o F) ?_ ?_ ?_ ?_ ?_ ?_ ?_ ?_ ?_ h
 ·intro cs r b c ty hb h1 h2 hm hraw hw
  exact absurd rfl (hraw cs)
 ·intro k xs sp r b c ty fz hb h1 h2 h3 h5 hz hm hraw hw
  refine .row hb ((hw _ (by simp)).trans h1) h2 h3 (fun i x hi j y hj=>?_) hz
  obtain ⟨u,hu,hr⟩:=h5 i x hi j y hj
  refine ⟨u,hu,hr.change fun hc=>hm ?_⟩
  cases hk:k.clean with
  |false=>exact hk
  |true=>
   have:=List.all_eq_true.1 (EK.clean_enc hk x) y (List.mem_of_getElem? hj)
   rw [this] at hc;cases hc
 ·intro k r hb ht hm hraw hw;exact .rownil hb ht
 ·intro k d r b c ty F hb h1 h2 hn ih hm hraw hw
  exact .obj hb ((hw _ (by simp)).trans h1) (ih (fun hc=>hm (by
   show k.clean=false
   cases hk:k.clean with
   |false=>rfl
   |true=>rw [OK.clean_unf hk d] at hc;cases hc)) fun b hb=>hw b (by simp [hb])) hn
 ·intro k m r b es ck hb h1 h2 hm hraw hw
  exact .map hb ((hw _ (by simp)).trans h1) (h2.change hm)
 ·intro c o hc hw;exact .nil
 ·intro x fs c o u F hu hr h ih hc hw
  refine .av hu ?_ (ih (fun h=>hc (by simp only [List.all_cons,h,Bool.and_false])) hw)
  rcases hr with hr |hr
  ·exact .inl (hr.change fun h=>hc (by simp only [List.all_cons,Fld.clean,h,Bool.false_and]))
  ·exact .inr hr
 ·intro k d fs c o b' o' F1 F2 hu h1 h hd ih1 ih2 hc hw
  exact .own hu (ih1 (fun h=>hc (by simp only [List.all_cons,Fld.clean];rw [show k.clean=false from h];rfl)) (fun cs h=>by cases h) fun b hb=>hw b (by simp [hb])) (ih2 (fun h=>hc (by simp only [List.all_cons,h,Bool.and_false])) fun b hb=>hw b (by simp [hb])) hd
 ·intro k xs fs c o v r F1 F2 hu hv h1 h hd ih1 ih2 hc hw
  exact .ownr hu hv (ih1 (fun h=>hc (by simp only [List.all_cons,Fld.clean];rw [show k.clean=false from h];rfl)) (fun cs h=>by cases h) fun b hb=>hw b (by simp [hb])) (ih2 (fun h=>hc (by simp only [List.all_cons,h,Bool.and_false])) fun b hb=>hw b (by simp [hb])) hd
abbrev Slot:=Root × List Nat
def blk (ss:List Slot):List Nat:=ss.flatMap (·.2)
theorem mem_blk {ss:List Slot} {b:Nat}:b∈blk ss↔ ∃s∈ss,b∈s.2:=by simp [blk]
structure SlotsOK (G:Gam) (ρ:List Root) (w:World) (os:List AObj) (ss:List Slot):Prop where
 len:ss.length=os.length
 sat: ∀(i:Nat) (o:AObj) (s:Slot),os[i]? =some o→ss[i]? =some s→Sat G ρ w o s.1 s.2∧ ∀cs,o≠ .raw cs
 apart: ∀(i j:Nat) (s t:Slot) (b:Nat),ss[i]? =some s→ss[j]? =some t→b∈s.2→b∈t.2→i=j
theorem SlotsOK.nil:SlotsOK G ρ w [] []:=⟨rfl,fun i o s h=>by simp at h,fun i j s t b h=>by simp at h⟩
theorem SlotsOK.one {o:AObj} {s:Slot} (h:Sat G ρ w o s.1 s.2) (hr: ∀cs,o≠ .raw cs):SlotsOK G ρ w [o] [s]:=by
 refine ⟨rfl,fun i p t h1 h2=>?_,fun i j s t b h1 h2 _ _=>?_⟩
 ·cases i<;>simp at h1 h2
  subst h1;subst h2;exact ⟨h,hr⟩
 ·cases i<;>cases j<;>simp at h1 h2<;>rfl
theorem SlotsOK.append {o1 o2:List AObj} {s1 s2:List Slot} (h1:SlotsOK G ρ w o1 s1) (h2:SlotsOK G ρ w o2 s2) (hd: ∀b,b∈blk s1→b∉blk s2):SlotsOK G ρ w (o1++o2) (s1++s2):=by
 refine ⟨by simp [h1.len,h2.len],fun i o s ho hs=>?_,fun i j s t b hs ht hb hb'=>?_⟩
 ·by_cases hi:i<o1.length
  ·rw [List.getElem?_append_left hi] at ho
   rw [List.getElem?_append_left (by rw [h1.len];exact hi)] at hs
   exact h1.sat i o s ho hs
  ·rw [List.getElem?_append_right (by omega)] at ho
   rw [List.getElem?_append_right (by rw [h1.len];omega),h1.len] at hs
   exact h2.sat _ o s ho hs
 ·by_cases hi:i<s1.length<;>by_cases hj:j<s1.length
  ·rw [List.getElem?_append_left hi] at hs
   rw [List.getElem?_append_left hj] at ht
   exact h1.apart i j s t b hs ht hb hb'
  ·rw [List.getElem?_append_left hi] at hs
   rw [List.getElem?_append_right (by omega)] at ht
   exact absurd (mem_blk.2 ⟨t,List.mem_of_getElem? ht,hb'⟩) (hd b (mem_blk.2 ⟨s,List.mem_of_getElem? hs,hb⟩))
  ·rw [List.getElem?_append_right (by omega)] at hs
   rw [List.getElem?_append_left hj] at ht
   exact absurd (mem_blk.2 ⟨s,List.mem_of_getElem? hs,hb⟩) (hd b (mem_blk.2 ⟨t,List.mem_of_getElem? ht,hb'⟩))
  ·rw [List.getElem?_append_right (by omega)] at hs ht
   have:=h2.apart _ _ s t b hs ht hb hb'
   omega
def Elsewhere (G:Gam) (w:World) (k:VK) (d:k.T) (u:Value) (ss:List Slot) (Rb:List Nat):Prop:=
 ∀(G':Gam) (ρ':List Root) (n:Nat),(k.clean=false→CellMap G G')→(∀b∈Rb,∀o v,w.cell? ⟨b,o,none⟩=some v→G'.cell b o v)→
  (∀(i:Nat) (s:Slot),ss[i]? =some s→ρ'[n+i]? =some s.1)→RV G' ρ' (k.av d n) u
def LabOK (ρ:List Root) (H H':AHeap) (l:Option Nat) (ss:List Slot):Prop:=
 ∀lab,l=some lab→ ∃s,ss=[s]∧ρ[lab]? =some s.1∧H'[lab]? =some none∧ ∃o,H[lab]? =some (some o)
def TV (G:Gam) (ρ:List Root) (w:World) (k:VK) (u:Value) (H:AHeap) (Fs:Nat→List Nat) (K:k.T→AHeap→Option Nat→Prop):Prop:=
 ∃d H' l ss Rb,K d H' l∧Took H H' Fs (blk ss)∧SlotsOK G ρ w (k.objs d) ss∧LabOK ρ H H' l ss∧(k.isImm=true→H'=H∧ss=[])∧(k.isImm=false→Rb=[])∧
  (∀b∈Rb,∃l o,H'[l]? =some (some o)∧b∈Fs l)∧Elsewhere G w k d u ss Rb
theorem TV.plain {k:VK} {u:Value} {H:AHeap} {Fs:Nat→List Nat} {K:k.T→AHeap→Option Nat→Prop} (d:k.T) (h:K d H none) (ho:k.objs d=[])
  (he: ∀(G':Gam) (ρ':List Root) (n:Nat),(k.clean=false→CellMap G G')→RV G' ρ' (k.av d n) u):TV G ρ w k u H Fs K:=
 ⟨d,H,none,[],[],h,.refl _ _,by rw [ho];exact .nil,(fun _ h=>by cases h),fun _=>⟨rfl,rfl⟩,fun _=>rfl,(fun _ h=>by cases h),fun G' ρ' n hm _ _=>he G' ρ' n hm⟩
theorem immRow {k:EK} {xs:List k.T} {H:AHeap} {Fs:Nat→List Nat} (hs:SatHF G ρ w H Fs) {lab base n:Nat} (hl:H[lab]? =some (some (.row k xs))) {u:Value} (hr:RV G ρ (.sl lab k.esz base n) u) (hle:base+n≤xs.length)
  {G':Gam} {ρ':List Root} (hm:CellMap G G') (hR: ∀b∈Fs lab,∀o v,w.cell? ⟨b,o,none⟩=some v→G'.cell b o v):RV G' ρ' (.imm k ((xs.drop base).take n)) u:=by
 obtain ⟨t,ht,hsat⟩:=hs.sat _ _ hl
 simp only [RV] at hr ⊢
 obtain ⟨t',h1,h2,h3⟩:=hr
 rw [ht] at h1;cases h1
 have hlen:((xs.drop base).take n).length=n:=by simp;omega
 rcases h3 with ⟨b,hb,rfl⟩ |⟨rfl,h4,a,rfl⟩
 ·refine ⟨_,_,by rw [hlen],by rw [hlen];omega,fun hn=>?_⟩
  rw [hlen] at hn
  refine ⟨b,_,rfl,?_⟩
  generalize hF:Fs lab=F at hsat hR
  cases hsat with
  | @row _ _ _ _ b' c ty fz hb' hw ht' hc hx hz=>
   rw [hb] at hb';cases hb'
   intro i x hi j y hj
   have hin:i<n:=by
    have:=(List.getElem?_eq_some_iff.1 hi).1
    simp at this;omega
   rw [List.getElem?_take_of_lt hin,List.getElem?_drop] at hi
   obtain ⟨v,hv,hrv⟩:=hx _ x (getElem?_ext hi) j y hj
   refine ⟨v,hR b (by simp) _ _ ?_,hrv.change fun _=>hm⟩
   simp only [World.cell?,hw]
   rw [show t.off+base*k.esz+i*k.esz+j=t.off+(base+i)*k.esz+j by rw [Nat.add_mul];omega,hv]
   rfl
  |rownil hb' ht'=>rw [hb] at hb';cases hb'
 ·refine ⟨a,0,by simp,by simp,fun hn=>by simp at hn⟩
mutual
theorem RC.change (hm:CellMap G G'): ∀{x:AV} {v:Value},RC G x v→RC G' x v
 | .cptr _ _,_,h=>by
  simp only [RC] at h ⊢
  obtain ⟨b,o,h1,h2⟩:=h
  exact ⟨b,o,h1,RCs.change hm h2⟩
 | .imm _ _,_,h=>by
  simp only [RC] at h ⊢
  exact (h.cells hm).mono fun _ _ h=>h.change fun _=>hm
 | .nilp,_,h | .bool _,_,h | .int _ _,_,h | .str _,_,h=>by simp only [RC] at h ⊢;exact h
 | .ptr _,_,h | .sl _ _ _ _,_,h | .nils,_,h | .fn _ _,_,h | .fnb _ _,_,h | .nilf,_,h | .nilm,_,h | .mp _,_,h | .ifc _ _,_,h | .nili,_,h | .agg _,_,h | .tup _,_,h | .capi _ _ _,_,h=>by simp only [RC] at h
theorem RCs.change (hm:CellMap G G'): ∀{cs:List AV} {b o:Nat},RCs G cs b o→RCs G' cs b o
 | [],_,_,_=>by simp only [RCs]
 |_::_,_,_,h=>by
  simp only [RCs] at h ⊢
  obtain ⟨⟨u,h1,h2⟩,h3⟩:=h
  exact ⟨⟨u,hm _ _ _ h1,RC.change hm h2⟩,RCs.change hm h3⟩
end
theorem view_ownr (n:Nat) (k:EK) (xs:List k.T):viewFld n (.ownr k xs)= .imm k xs:=by cases n<;>rfl
theorem view_av (n:Nat) (x:AV):viewFld n (.av x)=x:=by cases n<;>rfl
theorem Sat.view {o:AObj} {r:Root} {F:List Nat} (h:Sat G ρ w o r F) (hm:CellMap G G'):(∀b∈F,∀o v,w.cell? ⟨b,o,none⟩=some v→G'.cell b o v)→
  match o with
  | .obj k d=> ∀b,r.blk=some b→ ∀n,RCs G' ((k.unf d).map (viewFld n)) b r.off
  | .row k xs=> ∀v,slAt r xs.length v→RC G' (.imm k xs) v
  |_=>True:=by
 refine Sat.rec (motive_1:=fun o r F _=>(∀b∈F,∀o v,w.cell? ⟨b,o,none⟩=some v→G'.cell b o v)→match o with
   | .obj k d=> ∀b,r.blk=some b→ ∀n,RCs G' ((k.unf d).map (viewFld n)) b r.off
   | .row k xs=> ∀v,slAt r xs.length v→RC G' (.imm k xs) v
   |_=>True)
  (motive_2:=fun fs c o F _=> ∀b,(∀(j:Nat) (u:Value),c[j]? =some u→G'.cell b j u)→(∀b∈F,∀o v,w.cell? ⟨b,o,none⟩=some v→G'.cell b o v)→ ∀n,RCs G' (fs.map (viewFld n)) b o) ?_ ?_ ?_ ?_ ?_ ?_ ?_ ?_ ?_ h
 ·intros;trivial
 ·intro k xs sp r b c ty fz hb hw ht hc hx hz hR v hv
  obtain ⟨h1,h2⟩:=hv
  simp only [RC]
  rcases h2 with ⟨b',h3,rfl⟩ |⟨h3,h4,a,rfl⟩
  ·rw [hb] at h3;cases h3
   refine ⟨_,_,rfl,h1,fun _=>⟨b,r.off,rfl,fun i x hi j y hj=>?_⟩⟩
   obtain ⟨u,hu,hr⟩:=hx i x (getElem?_ext hi) j y hj
   refine ⟨u,hR b (by simp) _ _ ?_,hr.change fun _=>hm⟩
   simp only [World.cell?,hw]
   exact hu
  ·exact ⟨a,0,by rw [h3],by omega,fun h=>by omega⟩
 ·intro k r hb ht hR v hv
  obtain ⟨h1,h2⟩:=hv
  simp only [RC]
  rcases h2 with ⟨b',h3,rfl⟩ |⟨h3,h4,a,rfl⟩
  ·rw [hb] at h3;cases h3
  ·exact ⟨a,0,rfl,Nat.le_refl _,fun h=>by simp at h⟩
 ·intro k d r b c ty F hb hw hf hn ih hR b' hb' n
  rw [hb] at hb';cases hb'
  refine ih b (fun j u hu=>hR b (by simp) _ _ ?_) (fun b hb=>hR b (by simp [hb])) n
  simp only [World.cell?,hw]
  exact hu
 ·intros;trivial
 ·intro c o b _ _ n;simp only [List.map_nil,RCs]
 ·intro x fs c o u F hu hr h ih b hc hR n
  simp only [List.map_cons,RCs]
  refine ⟨⟨u,hc _ _ hu,?_⟩,ih b hc hR n⟩
  rw [view_av]
  rcases hr with hr |⟨rfl,rfl⟩
  ·exact (hr.change fun _=>hm).rc
  ·simp only [RC]
 ·intro k d fs c o b' o' F1 F2 hu h1 h hd ih1 ih2 b hc hR n
  simp only [List.map_cons,RCs]
  refine ⟨⟨_,hc _ _ hu,?_⟩,ih2 b hc (fun b hb=>hR b (by simp [hb])) n⟩
  cases n with
  |zero=>simp only [viewFld,RC];exact ⟨b',o',rfl,by simp only [RCs]⟩
  |succ n=>simp only [viewFld,RC];exact ⟨b',o',rfl,ih1 (fun b hb=>hR b (by simp [hb])) b' rfl n⟩
 ·intro k xs fs c o v r F1 F2 hu hv h1 h hd ih1 ih2 b hc hR n
  simp only [List.map_cons,RCs]
  refine ⟨⟨v,hc _ _ hu,?_⟩,ih2 b hc (fun b hb=>hR b (by simp [hb])) n⟩
  rw [view_ownr]
  exact ih1 (fun b hb=>hR b (by simp [hb])) v hv
theorem unvF_sound {rec:(k:OK)→List AV→Option k.T} (hrec: ∀(k:OK) (cs:List AV) (d:k.T),rec k cs=some d→ ∀b o,RCs G cs b o→ ∀m,RCs G ((k.unf d).map (viewFld m)) b o):
  ∀(ss:List Shp) (cs:List AV) (fs:List Fld),unvF rec ss cs=some fs→ ∀b o,RCs G cs b o→ ∀m,RCs G (fs.map (viewFld m)) b o
 | [],[],fs,h,b,o,hc,m=>by
  simp only [unvF] at h;cases h;simp only [List.map_nil,RCs]
 | [],_::_,fs,h,b,o,hc,m=>by simp [unvF] at h
 |s::_,[],fs,h,b,o,hc,m=>by cases s<;>simp [unvF] at h
 |s::ss,x::cs,fs,h,b,o,hc,m=>by
  simp only [RCs] at hc
  obtain ⟨⟨u,hu,hr⟩,hc⟩:=hc
  cases s with
  |av=>
   simp only [unvF] at h
   split at h
   ·rename_i gs _ hg
    cases h
    simp only [List.map_cons,RCs]
    exact ⟨⟨u,hu,by rw [view_av];exact hr⟩,unvF_sound hrec ss cs gs hg b (o+1) hc m⟩
   ·cases h
  |own k=>
   simp only [unvF] at h
   split at h
   ·rename_i ys off
    split at h
    ·rename_i d gs hb hd hg
     cases h
     have:=Nat.eq_of_beq_eq_true hb
     subst this
     simp only [List.map_cons,RCs]
     refine ⟨⟨u,hu,?_⟩,unvF_sound hrec ss cs gs hg b (o+1) hc m⟩
     simp only [RC] at hr
     obtain ⟨b',o',h1,h2⟩:=hr
     cases m with
     |zero=>simp only [viewFld,RC];exact ⟨b',o',h1,by simp only [RCs]⟩
     |succ m=>simp only [viewFld,RC];exact ⟨b',o',h1,hrec k ys d hd b' o' h2 m⟩
    ·cases h
   ·cases h
  |opt k=>
   simp only [unvF] at h
   split at h
   ·rename_i ys off
    split at h
    ·rename_i d gs hb hd hg
     cases h
     have:=Nat.eq_of_beq_eq_true hb
     subst this
     simp only [List.map_cons,RCs]
     refine ⟨⟨u,hu,?_⟩,unvF_sound hrec ss cs gs hg b (o+1) hc m⟩
     simp only [RC] at hr
     obtain ⟨b',o',h1,h2⟩:=hr
     cases m with
     |zero=>simp only [viewFld,RC];exact ⟨b',o',h1,by simp only [RCs]⟩
     |succ m=>simp only [viewFld,RC];exact ⟨b',o',h1,hrec k ys d hd b' o' h2 m⟩
    ·cases h
   ·split at h
    ·rename_i gs hg
     cases h
     simp only [List.map_cons,RCs]
     exact ⟨⟨u,hu,by rw [view_av];exact hr⟩,unvF_sound hrec ss cs gs hg b (o+1) hc m⟩
    ·cases h
   ·cases h
  |ownr k=>
   simp only [unvF] at h
   split at h
   ·rename_i k' xs
    split at h
    ·rename_i hk
     subst hk
     split at h
     ·rename_i gs hg
      cases h
      simp only [List.map_cons,RCs]
      exact ⟨⟨u,hu,by rw [view_ownr];exact hr⟩,unvF_sound hrec ss cs gs hg b (o+1) hc m⟩
     ·cases h
    ·cases h
   ·cases h
theorem unvO_sound: ∀(n:Nat) (k:OK) (cs:List AV) (d:k.T),unvO n k cs=some d→ ∀b o,RCs G cs b o→ ∀m,RCs G ((k.unf d).map (viewFld m)) b o
 |0,_,_,_,h,_,_,_,_=>by simp [unvO] at h
 |n+1,k,cs,d,h,b,o,hc,m=>by
  simp only [unvO] at h
  split at h
  ·rename_i fs hf
   rw [fold_unf h]
   exact unvF_sound (unvO_sound n) _ _ fs hf b o hc m
  ·cases h
theorem view_ptr {k:OK} {r:Ref} {u:Value} {H:AHeap} {Fs:Nat→List Nat} {K:k.T→AHeap→Prop} (hs:SatHF G ρ w H Fs) (hr:RV G ρ (.ptr r) u) (hb:(Nat.beq r.idx 0&&Nat.beq r.off 0)=true) (h:takeO 9 k r.lab H K):
  ∃(d:k.T) (H':AHeap) (F:List Nat),K d H'∧(∀b∈F,∃l o,H[l]? =some (some o)∧b∈Fs l)∧ ∀(G':Gam) (ρ':List Root),CellMap G G'→(∀b∈F,∀o v,w.cell? ⟨b,o,none⟩=some v→G'.cell b o v)→RV G' ρ' (.cptr ((k.unf d).map (viewFld 8)) 0) u:=by
 obtain ⟨d,H',F,t,h1,h2,h3,h4,h5,h6⟩:=takeO_lab 9 k r.lab H Fs _ hs h
 obtain ⟨b,hbk,rfl⟩:=ptr0 hr hb h2
 refine ⟨d,H',F,h1,fun b hb=>let ⟨l,o,g1,g2,_⟩:=h4.out b hb;⟨l,o,g1,g2⟩,fun G' ρ' hm hR=>?_⟩
 simp only [RV]
 exact ⟨b,t.off,rfl,Sat.view h3 hm hR b hbk 8⟩
theorem view_cptr {k:OK} {cs:List AV} {off:Nat} {d:k.T} {u:Value} (hr:RV G ρ (.cptr cs off) u) (hb:Nat.beq off 0=true) (h:unvO 9 k cs=some d) {G':Gam} {ρ':List Root} (hm:CellMap G G'):RV G' ρ' (.cptr ((k.unf d).map (viewFld 8)) 0) u:=by
 have:=Nat.eq_of_beq_eq_true hb
 subst this
 simp only [RV] at hr ⊢
 obtain ⟨b,o,h1,h2⟩:=hr
 exact ⟨b,o,h1,(unvO_sound 9 k cs d h b o h2 8).change hm⟩
theorem takeV_sound (k:VK) {x:AV} {u:Value} {H:AHeap} {Fs:Nat→List Nat} {K:k.T→AHeap→Option Nat→Prop} (hs:SatHF G ρ w H Fs) (hr:RV G ρ x u) (h:takeV k x H K):TV G ρ w k u H Fs K:=by
 cases k with
 |int k=>
  simp only [takeV] at h
  split at h
  ·rename_i k' n
   obtain ⟨hk,h⟩:=br_elim h
   have:=kindEq_eq hk
   subst this
   have:=rv_int hr
   subst this
   exact .plain n h rfl fun G' ρ' n _=>rvI
  ·exact h.elim
 |bool=>
  simp only [takeV] at h
  split at h
  ·have:=rv_bool hr
   subst this
   exact .plain (k:= .bool) _ h rfl fun G' ρ' n _=>rvB
  ·exact h.elim
 |str=>
  simp only [takeV] at h
  split at h
  ·have:=rv_str hr
   subst this
   exact .plain (k:= .str) _ h rfl fun G' ρ' n _=>rvS
  ·exact h.elim
 |elem k=>
  simp only [takeV] at h
  split at h
  ·rename_i cs
   split at h
   ·rename_i d hd
    have he:=enc_dec k cs d hd
    subst he
    refine .plain (k:= .elem k) d h rfl fun G' ρ' n hm=>?_
    simp only [RV] at hr
    simp only [VK.av,RV]
    obtain ⟨vs,h1,h2⟩:=hr
    exact ⟨vs,h1,h2.enc_change hm⟩
   ·exact h.elim
  ·exact h.elim
 |obj k=>
  simp only [takeV] at h
  split at h
  ·rename_i r
   obtain ⟨hb,h⟩:=br_elim h
   obtain ⟨d,H',F,t,h1,h2,h3,h4,h5,h6⟩:=takeO_lab 9 k r.lab H Fs _ hs h
   obtain ⟨b,hbk,rfl⟩:=ptr0 hr hb h2
   refine ⟨d,H',_,[(t,F)],[],h1,by simpa [blk] using h4,.one h3 (fun cs h=>by cases h),?_,(fun h=>by cases h),fun _=>rfl,(fun _ h=>by cases h),fun G' ρ' n _ _ hro=>?_⟩
   ·intro lab hl
    cases hl
    exact ⟨_,rfl,h2,h5,h6⟩
   ·have:=hro 0 (t,F) rfl
    simp only [VK.av,RV]
    exact ⟨t,b,by simpa using this,hbk,by simp⟩
  ·exact h.elim
 |opt k=>
  simp only [takeV] at h
  split at h
  ·rename_i r
   obtain ⟨hb,h⟩:=br_elim h
   obtain ⟨d,H',F,t,h1,h2,h3,h4,h5,h6⟩:=takeO_lab 9 k r.lab H Fs _ hs h
   obtain ⟨b,hbk,rfl⟩:=ptr0 hr hb h2
   refine ⟨some d,H',_,[(t,F)],[],h1,by simpa [blk] using h4,.one h3 (fun cs h=>by cases h),?_,(fun h=>by cases h),fun _=>rfl,(fun _ h=>by cases h),fun G' ρ' n _ _ hro=>?_⟩
   ·intro lab hl
    cases hl
    exact ⟨_,rfl,h2,h5,h6⟩
   ·have:=hro 0 (t,F) rfl
    simp only [VK.av,RV]
    exact ⟨t,b,by simpa using this,hbk,by simp⟩
  ·refine .plain (k:= .opt k) none h rfl fun G' ρ' n _=>?_
   simp only [RV] at hr
   simp only [VK.av,RV]
   exact hr
  ·exact h.elim
 |row k=>
  simp only [takeV] at h
  split at h
  ·rename_i lab esz base n
   split at h
   ·rename_i k' xs hl
    replace h:=br_elim h
    obtain ⟨hb,h⟩:=h
    split at h
    ·rename_i hk
     subst hk
     obtain ⟨rfl,h⟩:=h
     rw [forceL_eq] at h
     simp only [Bool.and_eq_true] at hb
     have he:=Nat.eq_of_beq_eq_true hb.1
     have hb0:=Nat.eq_of_beq_eq_true hb.2
     subst he;subst hb0
     obtain ⟨t,ht,hsat⟩:=hs.sat _ _ hl
     have h4:=Took.one (Fs:=Fs) hl
     refine ⟨xs,_,_,[(t,Fs lab)],[],h,by simpa [blk] using h4,.one hsat (fun cs h=>by cases h),?_,(fun h=>by cases h),fun _=>rfl,(fun _ h=>by cases h),fun G' ρ' n _ _ hro=>?_⟩
     ·intro l2 hl2
      cases hl2
      exact ⟨_,rfl,ht,by rw [List.getElem?_set_self (List.getElem?_eq_some_iff.1 hl).1],_,hl⟩
     ·have:=hro 0 (t,Fs lab) rfl
      simp only [VK.av,RV] at hr ⊢
      obtain ⟨t',h1,h2⟩:=hr
      rw [ht] at h1;cases h1
      exact ⟨t,by simpa using this,h2⟩
    ·exact h.elim
   ·exact h.elim
  ·simp only [RV] at hr
   subst hr
   refine ⟨[],H,none,[(⟨none,0,0⟩,[])],[],h,.refl _ _,.one (.rownil rfl rfl) (fun cs h=>by cases h),(fun _ h=>by cases h),(fun h=>by cases h),fun _=>rfl,(fun _ h=>by cases h),fun G' ρ' n _ _ hro=>?_⟩
   have:=hro 0 _ rfl
   simp only [VK.av,RV]
   exact ⟨_,by simpa using this,by simp,.inr ⟨rfl,rfl,_,rfl⟩⟩
  ·exact h.elim
 |part k=>
  simp only [takeV] at h
  split at h
  ·rename_i lab esz base n
   split at h
   ·rename_i k' xs hl
    replace h:=br_elim h
    obtain ⟨hb,h⟩:=h
    split at h
    ·rename_i hk
     subst hk
     obtain ⟨hle,h⟩:=h
     rw [forceL_eq] at h
     have he:=Nat.eq_of_beq_eq_true hb
     subst he
     obtain ⟨t,ht,hsat⟩:=hs.sat _ _ hl
     have h4:=Took.one (Fs:=Fs) hl
     have hlen:((xs.drop base).take n).length=n:=by simp;omega
     refine ⟨_,_,_,[(_,Fs lab)],[],h,by simpa [blk] using h4,.one (sat_part hsat base n hle) (fun cs h=>by cases h),(fun _ h=>by cases h),(fun h=>by cases h),fun _=>rfl,(fun _ h=>by cases h),fun G' ρ' m _ _ hro=>?_⟩
     have:=hro 0 _ rfl
     have hsl:=slAt_of hr ht
     obtain ⟨g1,g2⟩:=hsl
     simp only [VK.av,RV]
     refine ⟨_,by simpa using this,by simpa [castR,hlen] using g1,?_⟩
     simp only [castR,hlen]
     rcases g2 with ⟨b,g3,g4⟩ |⟨g3,g4,g5⟩
     ·exact .inl ⟨b,g3,by simpa using g4⟩
     ·exact .inr ⟨g3,g4,g5⟩
    ·exact h.elim
   ·exact h.elim
  ·simp only [RV] at hr
   subst hr
   refine ⟨[],H,none,[(⟨none,0,0⟩,[])],[],h,.refl _ _,.one (.rownil rfl rfl) (fun cs h=>by cases h),(fun _ h=>by cases h),(fun h=>by cases h),fun _=>rfl,(fun _ h=>by cases h),fun G' ρ' n _ _ hro=>?_⟩
   have:=hro 0 _ rfl
   simp only [VK.av,RV]
   exact ⟨_,by simpa using this,by simp,.inr ⟨rfl,rfl,_,rfl⟩⟩
  ·exact h.elim
 |imm k=>
  simp only [takeV] at h
  split at h
  ·rename_i k' xs
   split at h
   ·rename_i hk
    subst hk
    refine .plain (k:= .imm k') xs h rfl fun G' ρ' n hm=>?_
    simp only [VK.av,RV] at hr ⊢
    exact (hr.cells (hm rfl)).mono fun _ _ h=>h.change fun _=>hm rfl
   ·exact h.elim
  ·rename_i lab esz base n
   split at h
   ·rename_i k' xs hl
    replace h:=br_elim h
    obtain ⟨hb,h⟩:=h
    split at h
    ·rename_i hk
     subst hk
     obtain ⟨hle,h⟩:=h
     have he:=Nat.eq_of_beq_eq_true hb
     subst he
     exact ⟨_,H,none,[],Fs lab,h,.refl _ _,.nil,(fun _ h=>by cases h),fun _=>⟨rfl,rfl⟩,(fun h=>by cases h),fun b hb=>⟨lab,_,hl,hb⟩,
      fun G' ρ' m hm hR _=>immRow hs hl hr hle (hm rfl) hR⟩
    ·exact h.elim
   ·exact h.elim
  ·simp only [RV] at hr
   subst hr
   refine .plain (k:= .imm k) [] h rfl fun G' ρ' n hm=>?_
   simp only [VK.av,RV]
   exact ⟨none,0,rfl,Nat.le_refl _,fun h=>by simp at h⟩
  ·exact h.elim
 |fn f=>
  simp only [takeV] at h
  split at h
  ·rename_i g cs
   split at h
   ·obtain ⟨hb,h⟩:=br_elim h
    have:=Nat.eq_of_beq_eq_true hb
    subst this
    refine .plain (k:= .fn g) () h rfl fun G' ρ' n _=>?_
    simp only [VK.av,RV,RVs] at hr ⊢
    exact hr
   ·exact h.elim
  ·exact h.elim
 |view k=>
  simp only [takeV] at h
  split at h
  ·obtain ⟨hb,h⟩:=br_elim h
   obtain ⟨d,H',F,h1,h2,h3⟩:=view_ptr hs hr hb h
   exact ⟨d,H,none,[],F,h1,.refl _ _,.nil,(fun _ h=>by cases h),fun _=>⟨rfl,rfl⟩,(fun h=>by cases h),h2,fun G' ρ' n hm hR _=>h3 G' ρ' (hm rfl) hR⟩
  ·obtain ⟨hb,h⟩:=br_elim h
   split at h
   ·rename_i d hd
    exact .plain (k:= .view k) d h rfl fun G' ρ' n hm=>view_cptr hr hb hd (hm rfl)
   ·exact h.elim
  ·exact h.elim
 |vopt k=>
  simp only [takeV] at h
  split at h
  ·obtain ⟨hb,h⟩:=br_elim h
   obtain ⟨d,H',F,h1,h2,h3⟩:=view_ptr hs hr hb h
   exact ⟨some d,H,none,[],F,h1,.refl _ _,.nil,(fun _ h=>by cases h),fun _=>⟨rfl,rfl⟩,(fun h=>by cases h),h2,fun G' ρ' n hm hR _=>h3 G' ρ' (hm rfl) hR⟩
  ·obtain ⟨hb,h⟩:=br_elim h
   split at h
   ·rename_i d hd
    exact .plain (k:= .vopt k) (some d) h rfl fun G' ρ' n hm=>view_cptr hr hb hd (hm rfl)
   ·exact h.elim
  ·refine .plain (k:= .vopt k) none h rfl fun G' ρ' n _=>?_
   simp only [VK.av,RV] at hr ⊢
   exact hr
  ·exact h.elim
end Go.Ax
namespace Go.Ax
variable [Surr] {G G':Gam} {ρ ρ':List Root} {w w':World}
theorem LabOK.mono {H0 H1 H2 H3:AHeap} {Fs Fs':Nat→List Nat} {F F':List Nat} {l:Option Nat} {ss:List Slot} (h:LabOK ρ H1 H2 l ss) (h0:Took H0 H1 Fs F) (h3:Took H2 H3 Fs' F'):LabOK ρ H0 H3 l ss:=by
 intro lab hl
 obtain ⟨s,h4,h5,h6,o,h7⟩:=h lab hl
 exact ⟨s,h4,h5,h3.none_mono h6,o,h0.sub _ _ h7⟩
def LabsOK (ρ:List Root) (H H':AHeap):(ks:List VK)→prodT ks→List (Option Nat)→List Slot→Prop
 | [],_,ls,ss=>ls=[]∧ss=[]
 |k::ks,x,ls,ss=> ∃l ls' s1 s2,ls=l::ls'∧ss=s1++s2∧s1.length=(k.objs x.1).length∧LabOK ρ H H' l s1∧(∀lab,l=some lab→some lab∉ls')∧LabsOK ρ H H' ks x.2 ls' s2
theorem LabsOK.mono {H0 H1 H2 H3:AHeap} {Fs Fs':Nat→List Nat} {F F':List Nat} (h0:Took H0 H1 Fs F) (h3:Took H2 H3 Fs' F'): ∀{ks:List VK} {x:prodT ks} {ls:List (Option Nat)} {ss:List Slot},LabsOK ρ H1 H2 ks x ls ss→LabsOK ρ H0 H3 ks x ls ss
 | [],_,_,_,h=>h
 |k::ks,x,_,_,⟨l,ls',s1,s2,h1,h2,h4,h5,h6,h7⟩=>⟨l,ls',s1,s2,h1,h2,h4,h5.mono h0 h3,h6,h7.mono h0 h3⟩
theorem LabsOK.live {H H':AHeap}: ∀{ks:List VK} {x:prodT ks} {ls:List (Option Nat)} {ss:List Slot},LabsOK ρ H H' ks x ls ss→ ∀lab,some lab∈ls→(∃o,H[lab]? =some (some o))∧H'[lab]? =some none
 | [],_,_,_,h,lab,hl=>by rw [h.1] at hl;cases hl
 |k::ks,x,_,_,⟨l,ls',s1,s2,h1,h2,h4,h5,h6,h7⟩,lab,hl=>by
  subst h1
  rcases List.mem_cons.1 hl with hl |hl
  ·obtain ⟨s,_,_,h8,h9⟩:=h5 lab hl.symm
   exact ⟨h9,h8⟩
  ·exact h7.live lab hl
def TVs (G:Gam) (ρ:List Root) (w:World) (ks:List VK) (us:List Value) (H:AHeap) (Fs:Nat→List Nat) (K:prodT ks→AHeap→List (Option Nat)→Prop):Prop:=
 ∃x H' ls ss Rb,K x H' ls∧Took H H' Fs (blk ss)∧SlotsOK G ρ w (objsAll ks x) ss∧LabsOK ρ H H' ks x ls ss∧((ks.all fun k=>!k.isImm)=true→Rb=[])∧
  (∀b∈Rb,∃l o,H'[l]? =some (some o)∧b∈Fs l)∧
  ∀(G':Gam) (ρ':List Root) (n:Nat),(ks.all VK.clean=false→CellMap G G')→(∀b∈Rb,∀o v,w.cell? ⟨b,o,none⟩=some v→G'.cell b o v)→
   (∀(i:Nat) (s:Slot),ss[i]? =some s→ρ'[n+i]? =some s.1)→RVs G' ρ' (avs ks x n) us
theorem blk_append (a b:List Slot):blk (a++b)=blk a++blk b:=by simp [blk]
theorem slots_tail {s1 s2:List Slot} {n m:Nat} (hm:s1.length=m) (h: ∀(i:Nat) (s:Slot),(s1++s2)[i]? =some s→ρ'[n+i]? =some s.1):
  (∀(i:Nat) (s:Slot),s1[i]? =some s→ρ'[n+i]? =some s.1)∧ ∀(i:Nat) (s:Slot),s2[i]? =some s→ρ'[n+m+i]? =some s.1:=by
 refine ⟨fun i s hs=>h i s (getElem?_ext hs),fun i s hs=>?_⟩
 have:=h (m+i) s (by rw [List.getElem?_append_right (by omega),hm];simpa using hs)
 rwa [←Nat.add_assoc] at this
theorem takeVs_sound: ∀(ks:List VK) {as:List AV} {us:List Value} {H:AHeap} {Fs:Nat→List Nat} {K:prodT ks→AHeap→List (Option Nat)→Prop},SatHF G ρ w H Fs→RVs G ρ as us→takeVs ks as H K→TVs G ρ w ks us H Fs K
 | [],[],us,H,Fs,K,hs,hr,h=>by
  simp only [takeVs] at h
  simp only [RVs] at hr
  subst hr
  exact ⟨(),H,[],[],[],h,.refl _ _,.nil,⟨rfl,rfl⟩,fun _=>rfl,(fun _ h=>by cases h),fun G' ρ' n _ _ _=>by simp [avs,RVs]⟩
 | [],_::_,us,H,Fs,K,hs,hr,h=>by simp [takeVs] at h
 |_::_,[],us,H,Fs,K,hs,hr,h=>by simp [takeVs] at h
 |k::ks,a::as,us,H,Fs,K,hs,hr,h=>by
  simp only [RVs] at hr
  obtain ⟨u,us',rfl,hru,hrs⟩:=hr
  simp only [takeVs] at h
  cases hi:k.isImm with
  |true=>
   simp only [hi] at h
   obtain ⟨x,H',ls,ss,Rb,h1,h2,h3,h4,h5,h6,h7⟩:=takeVs_sound ks hs hrs h
   obtain ⟨d,H2,l,s1,Rb1,g1,g2,g3,g4,g5,g6,g7,g8⟩:=takeV_sound k (hs.fewer h2) hru h1
   obtain ⟨rfl,rfl⟩:=g5 hi
   have hobj:k.objs d=[]:=List.eq_nil_of_length_eq_zero (by rw [←g3.len];rfl)
   refine ⟨(d,x),H2,l::ls,ss,Rb1++Rb,g1,h2,by simpa [objsAll,hobj] using h3,⟨l,ls,[],ss,rfl,rfl,by simp [hobj],?_,?_,h4⟩,?_,?_,?_⟩
   ·intro lab hl
    obtain ⟨s,e,_⟩:=g4 lab hl
    cases e
   ·intro lab hl
    obtain ⟨s,e,_⟩:=g4 lab hl
    cases e
   ·intro hall
    simp [hi] at hall
   ·intro b hb
    rcases List.mem_append.1 hb with hb |hb
    ·exact g7 b hb
    ·exact h6 b hb
   ·intro G' ρ' n hc hR hro
    simp only [avs,RVs]
    refine ⟨u,us',rfl,g8 G' ρ' n (fun hk=>hc (by simp [hk])) (fun b hb=>hR b (by simp [hb])) (by simp),h7 G' ρ' _ (fun hk=>hc (by simp [hk])) (fun b hb=>hR b (by simp [hb])) (by simpa [hobj] using hro)⟩
  |false=>
   simp only [hi] at h
   obtain ⟨d,H1,l,s1,Rb1,g1,g2,g3,g4,g5,g6,g7,g8⟩:=takeV_sound k hs hru h
   have hR1:=g6 hi
   subst hR1
   obtain ⟨x,H',ls,ss,Rb,h1,h2,h3,h4,h5,h6,h7⟩:=takeVs_sound ks (hs.fewer g2) hrs g1
   refine ⟨(d,x),H',l::ls,s1++ss,Rb,h1,by rw [blk_append];exact g2.trans h2,?_,⟨l,ls,s1,ss,rfl,rfl,g3.len,?_,?_,?_⟩,?_,h6,?_⟩
   ·exact g3.append h3 (by
     intro b hb hb2
     exact Took.apart hs g2 h2 b hb hb2)
   ·exact g4.mono (Took.refl H Fs) h2
   ·intro lab hl hm
    obtain ⟨s,_,_,e,_⟩:=g4 lab hl
    obtain ⟨⟨o,e2⟩,_⟩:=h4.live lab hm
    rw [e] at e2;cases e2
   ·exact h4.mono g2 (Took.refl H' Fs)
   ·intro hall
    simp only [List.all_cons,Bool.and_eq_true] at hall
    exact h5 hall.2
   ·intro G' ρ' n hc hR hro
    simp only [avs,RVs]
    obtain ⟨q1,q2⟩:=slots_tail g3.len hro
    exact ⟨u,us',rfl,g8 G' ρ' n (fun hk=>hc (by simp [hk])) (fun b hb=>by cases hb) q1,h7 G' ρ' _ (fun hk=>hc (by simp [hk])) hR q2⟩
def Kept (ρ:List Root):(A:AKs)→prodT (A.map (·.1))→Nat→keepT A→List Slot→Prop
 | [],_,_,_,ss=>ss=[]
 |(k,true)::A,x,n,y,ss=> ∃s1 s2,ss=s1++s2∧s1.length=(k.objs y.1).length∧(k.objs x.1).length=(k.objs y.1).length∧(∀s,s1=[s]→ρ[n]? =some s.1)∧Kept ρ A x.2 (n+(k.objs x.1).length) y.2 s2
 |(k,false)::A,x,n,y,ss=>Kept ρ A x.2 (n+(k.objs x.1).length) y ss
def keptObjs:(A:AKs)→keepT A→List AObj
 | [],_=>[]
 |(k,true)::A,y=>k.objs y.1++keptObjs A y.2
 |(_,false)::A,y=>keptObjs A y
theorem keepOK_spec {l:Option Nat} {n:Nat} {o1 o2:List AObj} (h:keepOK l n o1 o2=true):o1.length=o2.length∧(o2.length=1→l=some n):=by
 unfold keepOK at h
 split at h
 ·exact ⟨rfl,fun h=>by cases h⟩
 ·exact ⟨rfl,fun _=>by rw [Nat.eq_of_beq_eq_true h]⟩
 ·cases h
theorem keepTake_sound: ∀(A:AKs) {x:prodT (A.map (·.1))} {n:Nat} {us:List Value} {H:AHeap} {Fs:Nat→List Nat} {K:keepT A→AHeap→Prop},SatHF G ρ w H Fs→RVs G ρ (avs _ x n) us→keepTake A x n H K→
  ∃y H' ss,K y H'∧Took H H' Fs (blk ss)∧SlotsOK G ρ w (keptObjs A y) ss∧Kept ρ A x n y ss
 | [],x,n,us,H,Fs,K,hs,hr,h=>⟨(),H,[],h,.refl _ _,.nil,rfl⟩
 |(k,true)::A,x,n,us,H,Fs,K,hs,hr,h=>by
  simp only [List.map,avs,RVs] at hr
  obtain ⟨u,us',rfl,hru,hrs⟩:=hr
  simp only [keepTake] at h
  obtain ⟨d,H1,l,s1,Rb1,g1,g2,g3,g4,_,_,_,_⟩:=takeV_sound k hs hru h
  obtain ⟨hk,g1⟩:=br_elim g1
  obtain ⟨y,H',ss,h1,h2,h3,h4⟩:=keepTake_sound A (hs.fewer g2) hrs g1
  refine ⟨(d,y),H',s1++ss,h1,by rw [blk_append];exact g2.trans h2,g3.append h3 (by
   intro b hb hb2
   exact Took.apart hs g2 h2 b hb hb2),s1,ss,rfl,g3.len,?_,?_,h4⟩
  ·exact (keepOK_spec hk).1
  ·intro s hs1
   subst hs1
   have hl1:(k.objs d).length=1:=by rw [←g3.len];rfl
   obtain ⟨s',e,e2,_⟩:=g4 n ((keepOK_spec hk).2 hl1)
   cases e
   exact e2
 |(k,false)::A,x,n,us,H,Fs,K,hs,hr,h=>by
  simp only [List.map,avs,RVs] at hr
  obtain ⟨u,us',rfl,hru,hrs⟩:=hr
  simp only [keepTake] at h
  obtain ⟨y,H',ss,h1,h2,h3,h4⟩:=keepTake_sound A hs hrs h
  exact ⟨y,H',ss,h1,h2,h3,h4⟩
def Pool (G:Gam) (w:World) (H:AHeap) (Fs:Nat→List Nat) (P:List Nat):Prop:=
 ∀b,b∈P→(¬ G.prot b∧b<w.heap.size)∧ ∀(l:Nat) (o:AObj),H[l]? =some (some o)→b∉Fs l
theorem SatHF.add {H:AHeap} {Fs:Nat→List Nat} (h:SatHF G ρ w H Fs) {l:Nat} (hl:H[l]? =some none) {o:AObj} {r:Root} {F:List Nat} (hr:ρ[l]? =some r) (hs:Sat G ρ w o r F) (hp:Pool G w H Fs F):
  SatHF G ρ w (H.set l (some o)) (fun x=>if x=l then F else Fs x):=by
 have hlt:=(List.getElem?_eq_some_iff.1 hl).1
 have key: ∀l' o',(H.set l (some o))[l']? =some (some o')→(l'=l∧o'=o)∨(l'≠l∧H[l']? =some (some o')):=by
  intro l' o' h'
  by_cases hne:l'=l
  ·subst hne
   rw [List.getElem?_set_self hlt] at h'
   simp at h'
   exact .inl ⟨rfl,h'.symm⟩
  ·rw [List.getElem?_set_ne (Ne.symm hne)] at h'
   exact .inr ⟨hne,h'⟩
 refine ⟨by simp [h.len],fun l' o' h'=>?_,fun l1 o1 l2 o2 b h1 h2 b1 b2=>?_,fun l' o' b h' hb=>?_,h.wok⟩
 ·rcases key l' o' h' with ⟨rfl,rfl⟩ |⟨hne,h'⟩
  ·exact ⟨r,hr,by simpa using hs⟩
  ·obtain ⟨r',g1,g2⟩:=h.sat l' o' h'
   exact ⟨r',g1,by simpa [hne] using g2⟩
 ·replace h1:=key l1 o1 h1
  replace h2:=key l2 o2 h2
  rcases h1 with ⟨e1,_⟩ |⟨hne1,h1⟩<;>rcases h2 with ⟨e2,_⟩ |⟨hne2,h2⟩
  ·rw [e1,e2]
  ·subst e1;simp at b1;simp [hne2] at b2
   exact absurd b2 ((hp b b1).2 l2 o2 h2)
  ·subst e2;simp at b2;simp [hne1] at b1
   exact absurd b1 ((hp b b2).2 l1 o1 h1)
  ·simp [hne1] at b1;simp [hne2] at b2
   exact h.apart l1 o1 l2 o2 b h1 h2 b1 b2
 ·rcases key l' o' h' with ⟨rfl,rfl⟩ |⟨hne,h'⟩
  ·simp at hb;exact (hp b hb).1
  ·simp [hne] at hb
   exact h.free l' o' b h' hb
theorem SatHF.add_new {H:AHeap} {Fs:Nat→List Nat} (h:SatHF G ρ w H Fs) {o:AObj} {r:Root} {F:List Nat} (hs:Sat G (ρ++[r]) w o r F) (hp:Pool G w H Fs F):
  SatHF G (ρ++[r]) w (H++[some o]) (fun x=>if x=H.length then F else Fs x):=by
 have key: ∀l' o',(H++[some o])[l']? =some (some o')→(l'=H.length∧o'=o)∨(l'≠H.length∧H[l']? =some (some o')):=by
  intro l' o' h'
  by_cases hlt:l'<H.length
  ·rw [List.getElem?_append_left hlt] at h'
   exact .inr ⟨by omega,h'⟩
  ·rw [List.getElem?_append_right (by omega)] at h'
   have:l'-H.length=0:=by
    have:=(List.getElem?_eq_some_iff.1 h').1
    simp at this;omega
   rw [this] at h'
   simp at h'
   exact .inl ⟨by omega,h'.symm⟩
 refine ⟨by simp [h.len],fun l' o' h'=>?_,fun l1 o1 l2 o2 b h1 h2 b1 b2=>?_,fun l' o' b h' hb=>?_,h.wok⟩
 ·rcases key l' o' h' with ⟨rfl,rfl⟩ |⟨hne,h'⟩
  ·exact ⟨r,by simp [h.len],by simpa using hs⟩
  ·obtain ⟨r',g1,g2⟩:=h.sat l' o' h'
   refine ⟨r',getElem?_ext g1,?_⟩
   simp only [hne,if_false]
   exact g2.mono fun _ _=>rfl
 ·replace h1:=key l1 o1 h1
  replace h2:=key l2 o2 h2
  rcases h1 with ⟨e1,_⟩ |⟨hne1,h1⟩<;>rcases h2 with ⟨e2,_⟩ |⟨hne2,h2⟩
  ·rw [e1,e2]
  ·subst e1;simp at b1;simp [hne2] at b2
   exact absurd b2 ((hp b b1).2 l2 o2 h2)
  ·subst e2;simp at b2;simp [hne1] at b1
   exact absurd b1 ((hp b b2).2 l1 o1 h1)
  ·simp [hne1] at b1;simp [hne2] at b2
   exact h.apart l1 o1 l2 o2 b h1 h2 b1 b2
 ·rcases key l' o' h' with ⟨rfl,rfl⟩ |⟨hne,h'⟩
  ·simp at hb;exact (hp b hb).1
  ·simp [hne] at hb
   exact h.free l' o' b h' hb
end Go.Ax
