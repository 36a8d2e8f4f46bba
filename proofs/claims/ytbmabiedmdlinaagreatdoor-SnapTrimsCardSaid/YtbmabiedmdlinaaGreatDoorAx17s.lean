import Derived.Test.YtbmabiedmdlinaaGreatDoorAx15m
set_option linter.all false
namespace Go.Ax
variable [Surr] {G:Gam} {ρ:List Root} {w:World}
section
variable {E:Env} {st:AS} {a:Act} {Fs:Nat→List Nat} {k:KT} (dst:Option Tmp) (ty:TypeId) (pos:String) (af:Array Edge) (gd:Option (Nat × Bool))
variable (hT:TR G ρ st.tmps a.tmps) (hH:SatHF G ρ w st.heap Fs)
include hT hH
theorem Unt.self (H:AHeap) (T:List Nat) (hH:SatHF G ρ w H Fs):Unt w w H H Fs Fs T:=fun l o hl _=>⟨hl,rfl,fun _ _=>rfl⟩
omit hT hH in
theorem rowOf_cells {ek:EK} {H:AHeap} {Fs:Nat→List Nat} (hH:SatHF G ρ w H Fs) {x:AV} {K:List ek.T→Prop} (h:rowOf ek H x K) {v:Value} (hv:RV G ρ x v):
    ∃ys,K ys∧((ys=[]∧ ∃a c,v= .slice a 0 c)∨ ∃b o c,v= .slice (some ⟨b,o,none⟩) ys.length c∧
      ∀(i:Nat) (y:ek.T),ys[i]? =some y→ ∀(j:Nat) (z:AV),(ek.enc y)[j]? =some z→ ∃u,w.cell? ⟨b,o+(i*ek.esz+j),none⟩=some u∧RV1 G z u):=by
  unfold rowOf at h
  cases x
  case nils=>
    simp only [RV] at hv;subst hv
    exact ⟨[],h,.inl ⟨rfl,_,_,rfl⟩⟩
  case imm e2 ys=>
    simp only [] at h
    split at h
    · rename_i he
      subst he
      simp only [RV] at hv
      obtain ⟨ad,c,rfl,_,hc⟩:=hv
      by_cases hn:ys.length=0
      · have:ys=[]:=List.eq_nil_of_length_eq_zero hn
        subst this
        exact ⟨[],h,.inl ⟨rfl,_,_,rfl⟩⟩
      · obtain ⟨b,o,rfl,hcc⟩:=hc (by omega)
        refine ⟨ys,h,.inr ⟨b,o,c,rfl,fun i y hi j z hj=>?_⟩⟩
        obtain ⟨u,hu,hr⟩:=hcc i y hi j z hj
        exact ⟨u,by rw [←Nat.add_assoc];exact imm_cell hH.wok hu,hr⟩
    · exact h.elim
  case sl lab es base n=>
    simp only [] at h
    split at h
    · rename_i e2 ys hl
      split at h
      · rename_i he
        subst he
        obtain ⟨hes,hle,h⟩:=br_elim h
        have hes:=Nat.eq_of_beq_eq_true hes
        simp only [RV] at hv
        obtain ⟨t,ht,htot,hv⟩:=hv
        rcases hv with ⟨b,hb,rfl⟩ |⟨hn0,htb,aa,rfl⟩
        · obtain ⟨t',ht',hs⟩:=hH.sat _ _ hl
          rw [ht] at ht';cases ht'
          generalize hF:Fs lab=F at hs
          have hlen:((ys.drop base).take n).length=n:=by simp;omega
          cases hs with
          |rownil hb' _=>rw [hb] at hb';cases hb'
          | @row _ _ sp _ b' c ty fz hb' hw h2 h3 hc hz=>
            rw [hb] at hb';cases hb'
            refine ⟨(ys.drop base).take n,h,.inr ⟨b,t.off+base*es,t.tot-base,by rw [hlen],fun i y hi j z hj=>?_⟩⟩
            have hin:i<n:=by
              have:=(List.getElem?_eq_some_iff.1 hi).1
              omega
            rw [List.getElem?_take_of_lt hin,List.getElem?_drop] at hi
            obtain ⟨u,hu,hr⟩:=hc _ y (getElem?_ext hi) j z hj
            refine ⟨u,?_,hr⟩
            simp only [World.cell?,hw,Option.isSome_none,Bool.false_eq_true,if_false]
            rw [←hu];congr 1
            rw [hes,Nat.add_mul];omega
        · subst hn0
          have:(ys.drop base).take 0=[]:=by simp
          rw [this] at h
          exact ⟨[],h,.inl ⟨rfl,_,_,rfl⟩⟩
      · exact h.elim
    · exact h.elim
  all_goals exact h.elim
omit hT hH in
theorem row_over {P:Program} {ek:EK} {H:AHeap} {Fs:Nat→List Nat} (hH:SatHF G ρ w H Fs) {lab:Nat} {xs zs:List ek.T} (hl:H[lab]? =some (some (.row ek xs))) {t:Root} (ht:ρ[lab]? =some t) {b:Nat} (hb:t.blk=some b)
    (p:Nat) (hp:p+zs.length≤xs.length) (news:List Value) (hn:news.length=zs.length*ek.esz) (h1: ∀v∈news,v.oneCell'=true)
    (hz: ∀(i:Nat) (y:ek.T),zs[i]? =some y→ ∀(j:Nat) (z:AV),(ek.enc y)[j]? =some z→ ∃u,news[i*ek.esz+j]? =some u∧RV1 G z u):
    ∃w',(storeCells ⟨b,t.off+p*ek.esz,none⟩ news).run P w= .ok () w'∧SatHF G ρ w' (H.set lab (some (.row ek (xs.take p++(zs++xs.drop (p+zs.length)))))) Fs∧
      Unt w w' H (H.set lab (some (.row ek (xs.take p++(zs++xs.drop (p+zs.length)))))) Fs Fs [lab]:=by
  obtain ⟨t',ht',hs⟩:=hH.sat _ _ hl
  rw [ht] at ht';cases ht'
  generalize hF:Fs lab=F at hs
  cases hs with
  |rownil hb' _=>rw [hb] at hb';cases hb'
  | @row _ _ sp _ b' c ty fz hb' hw h2 h3 hc hfz=>
    rw [hb] at hb';cases hb'
    have hm1:(p+zs.length)*ek.esz≤t.tot*ek.esz:=Nat.mul_le_mul_right _ (by omega)
    rw [Nat.add_mul] at hm1
    obtain ⟨⟨c',g1,g2⟩,g3,g4,g5,g6,g7⟩:=setCells_heap (b:=b) (ty:=ty) news (t.off+p*ek.esz) w c hw
    have hrun:=run_storeCells_cells (P:=P) b (t.off+p*ek.esz) news 0 w (fun j hj=>by
        have:t.off+p*ek.esz+0+j<c.size:=by omega
        simp only [World.cell?,hw,Option.isSome_none,Bool.false_eq_true,if_false]
        rw [Array.getElem?_eq_getElem this];rfl) (fun j hj=>not_frozen hw (hfz.imp id And.right) (by omega)) h1
    simp only [Nat.add_zero] at hrun
    have hsz:c'.size=c.size:=by
      have:=congrArg List.length g2
      rw [setCells_length] at this
      simpa using this
    have hlen:(xs.take p++(zs++xs.drop (p+zs.length))).length=xs.length:=by simp;omega
    have hset:=SatH.set hH hl (.row ek (xs.take p++(zs++xs.drop (p+zs.length)))) [b] (w':=w.setCells b (t.off+p*ek.esz) news) (by omega) (fun x _ hx=>g3 x (fun he=>hx (by rw [hF,he];simp))) g5 g6 g7
      (fun r' hr'=>by
        rw [ht] at hr';cases hr'
        refine .row (sp:=sp) hb g1 (by omega) (by omega) (fun i y hi j z hj=>?_) (by rw [hsz];exact hfz)
        have hjl:j<ek.esz:=by
          have:=(List.getElem?_eq_some_iff.1 hj).1
          rw [ek.enc_len] at this;exact this
        have hc2:c'[t.off+i*ek.esz+j]? =(setCells c.toList (t.off+p*ek.esz) news)[t.off+i*ek.esz+j]? :=by rw [←g2,Array.getElem?_toList]
        rw [hc2,setCells_get]
        by_cases hin:p≤i∧i<p+zs.length
        · have hmin:(xs.take p).length=p:=by simp;omega
          rw [List.getElem?_append_left (by omega),List.getElem?_append_right (by omega),List.getElem?_append_left (by omega)] at hi
          obtain ⟨u,hu,hr⟩:=hz _ y hi j z hj
          rw [hmin] at hu
          have hlt:=(List.getElem?_eq_some_iff.1 hu).1
          have hadd:i*ek.esz=p*ek.esz+(i-p)*ek.esz:=by rw [←Nat.add_mul];congr 1;omega
          refine ⟨u,?_,hr⟩
          rw [if_pos ⟨by omega,by omega,by simp;omega⟩,←hu]
          congr 1;omega
        · have hmin:(xs.take p).length=p:=by simp;omega
          have hold:(xs++sp)[i]? =some y:=by
            rw [←hi]
            by_cases h7:i<xs.length
            · have e1:(xs++sp)[i]? =xs[i]? :=List.getElem?_append_left h7
              have e2:((xs.take p++(zs++xs.drop (p+zs.length)))++sp)[i]? =(xs.take p++(zs++xs.drop (p+zs.length)))[i]? :=List.getElem?_append_left (by omega)
              rw [e1,e2]
              by_cases h6:i<p
              · rw [List.getElem?_append_left (by rw [hmin];exact h6),List.getElem?_take_of_lt h6]
              · rw [List.getElem?_append_right (by rw [hmin];omega),List.getElem?_append_right (by rw [hmin];omega),List.getElem?_drop,hmin]
                congr 1;omega
            · have e1:(xs++sp)[i]? =sp[i-xs.length]? :=List.getElem?_append_right (by omega)
              have e2:((xs.take p++(zs++xs.drop (p+zs.length)))++sp)[i]? =sp[i-(xs.take p++(zs++xs.drop (p+zs.length))).length]? :=List.getElem?_append_right (by omega)
              rw [e1,e2,hlen]
          obtain ⟨u,hu,hr⟩:=hc i y hold j z hj
          refine ⟨u,?_,hr⟩
          rw [if_neg ?_]
          · simpa using hu
          · rintro ⟨a1,a2,a3⟩
            by_cases h6:i<p
            · have:(i+1)*ek.esz≤p*ek.esz:=Nat.mul_le_mul_right _ h6
              rw [Nat.add_mul] at this
              omega
            · have:(p+zs.length)*ek.esz≤i*ek.esz:=Nat.mul_le_mul_right _ (by omega)
              rw [Nat.add_mul] at this
              omega)
      (fun y hy=>by
        simp at hy;subst hy
        have:y∈Fs lab:=by rw [hF];simp
        exact ⟨.inl this,by rw [g4];exact (hH.free _ _ y hl this).2⟩)
    have hFs:(fun x=>if x=lab then [b] else Fs x)=Fs:=by
      funext x
      by_cases hx:x=lab
      · subst hx;simp [hF]
      · simp [hx]
    rw [hFs] at hset
    refine ⟨_,hrun,hset,fun l o' hl' hT=>⟨?_,rfl,fun y hy=>g3 y (fun he=>?_)⟩⟩
    · have hne:l≠lab:=fun he=>hT (by simp [he])
      rw [List.getElem?_set_ne (Ne.symm hne)];exact hl'
    · subst he
      have:=hH.apart l o' lab _ y hl' hl hy (by rw [hF];simp)
      exact hT (by simp [this])
omit hT hH in
theorem run_copy {P:Program} {t e:TypeId} {ts:Array TypeId} (ty:TypeId) {ie:TypeInfo} (ht:ts[0]? =some t) (hu:P.underlying t=some (.slice e)) (hie:P.info? e=some ie) (base:Option Addr) (n cc:Nat) (a:Option Addr) (l c m:Nat) (hm:m=min l n)
    (news:List Value) (hf:(Builtin.firstCells ie.size m (.slice a l c)).run P w= .ok news.toArray w) {w':World} (hst: ∀ad,base=some ad→(storeCells ad news).run P w= .ok () w') (hno:base=none→w'=w):
    (Builtin.copy_ ts ty #[.slice base n cc,.slice a l c]).run P w= .ok (.int .i64 (m:Int)) w':=by
  have hm':Nat.min l n=m:=hm.symm
  cases base with
  |none=>
    have:=hno rfl
    subst this
    simp [Builtin.copy_,ht,run_und hu,Builtin.lenOf,sizeOf,typeInfo,hie,hm',hf,goInt]
  |some ad=>simp [Builtin.copy_,ht,run_und hu,Builtin.lenOf,sizeOf,typeInfo,hie,hm',hf,goInt,hst ad rfl]
theorem e_copy (xs:Array Operand) (ts:Array TypeId) (h:aop E ⟨dst,.call ⟨.builtin .copy,xs,ts⟩,ty,pos,af,gd⟩ st k):ERes E G ρ w st a ⟨dst,.call ⟨.builtin .copy,xs,ts⟩,ty,pos,af,gd⟩ Fs k:=by
  intro next Q hn
  simp only [aop] at h
  cases hv:evals st xs.toList with
  |none=>simp [hv] at h
  |some vs=>
    simp only [hv] at h
    have hr:=evals_rv hT hv
    obtain ⟨d,x,rfl⟩: ∃d x,vs=[d,x]:=by
      unfold abuiltin at h
      rcases vs with _ |⟨s,_ |⟨x,_ |⟨y,r⟩⟩⟩<;>first |exact ⟨_,_,rfl⟩ |exact h.elim
    simp only [abuiltin] at h
    simp only [RVs] at hr
    obtain ⟨dv,ws,hxs,hd,xv,ws2,rfl,hx,rfl⟩:=hr
    have hxs':xs.map a.eval= #[dv,xv]:=by
      apply Array.ext';simpa using hxs
    split at h
    · rename_i t tx hts
      have hts0:ts[0]? =some t:=by rw [←Array.getElem?_toList,hts];rfl
      split at h
      · rename_i e hu
        split at h
        · rename_i ek ie hek hie
          obtain ⟨hb,h2⟩:=br_elim h
          have he:=Nat.eq_of_beq_eq_true hb
          have hsz:ie.size=ek.esz:=by rw [←he];simp [Program.cellsOf,hie]
          obtain ⟨ys,hk,hsrc⟩:=rowOf_cells (G:=G) (ρ:=ρ) hH h2 hx
          have hexec: ∀v w',(Builtin.copy_ ts ty #[dv,xv]).run E.P w= .ok v w'→(execOp a.eval ⟨dst,.call ⟨.builtin .copy,xs,ts⟩,ty,pos,af,gd⟩).run E.P w= .ok (.value v) w':=by
            intro v w' hr
            rw [run_resolve_builtin,hxs']
            simp [builtin,hr]
          have hfirst: ∀m,m≤ys.length→ ∃(aa:Option Addr) (c:Nat) (news:List Value),xv= .slice aa ys.length c∧(Builtin.firstCells ie.size m xv).run E.P w= .ok news.toArray w∧news.length=m*ek.esz∧(∀v∈news,v.oneCell'=true)∧
              ∀(i:Nat) (y:ek.T),(ys.take m)[i]? =some y→ ∀(j:Nat) (z:AV),(ek.enc y)[j]? =some z→ ∃u,news[i*ek.esz+j]? =some u∧RV1 G z u:=by
            intro m hm
            rcases hsrc with ⟨rfl,aa,c,rfl⟩ |⟨b,o,c,rfl,hc⟩
            · have hm0:m=0:=by simpa using hm
              subst hm0
              refine ⟨aa,c,[],rfl,?_,by simp,by simp,by simp⟩
              cases aa with
              |none=>exact run_firstCells_none w ie.size 0 0 c
              |some ad=>exact run_firstCells_some w ie.size 0 ad 0 c [] (by simp) (by simp)
            · have hin: ∀q,q<m*ek.esz→ ∃u z,w.cell? ⟨b,o+q,none⟩=some u∧RV1 G z u∧z.flat=true:=by
                intro q hq
                have hpos:=ek.esz_pos
                have hi:q/ek.esz<m:=(Nat.div_lt_iff_lt_mul hpos).2 hq
                have hj:q%ek.esz<ek.esz:=Nat.mod_lt _ hpos
                have hlen:=ek.enc_len (ys[q/ek.esz]'(by omega))
                obtain ⟨u,hu,hr⟩:=hc (q/ek.esz) _ (List.getElem?_eq_getElem (by omega)) (q%ek.esz) _ (List.getElem?_eq_getElem (by omega))
                have hdm:q/ek.esz*ek.esz+q%ek.esz=q:=by
                  rw [Nat.mul_comm];exact Nat.div_add_mod q ek.esz
                rw [hdm] at hu
                exact ⟨u,_,hu,hr,List.all_eq_true.1 (enc_flat ek _) _ (List.getElem_mem _)⟩
              let f:Nat→Value:=fun q=>(w.cell? ⟨b,o+q,none⟩).getD undef
              refine ⟨_,c,(List.range (m*ek.esz)).map f,rfl,?_,by simp,fun u hu=>?_,fun i y hi j z hj=>?_⟩
              · refine run_firstCells_some w ie.size m ⟨b,o,none⟩ ys.length c _ (by simp [hsz]) (fun j u hj=>?_)
                have hjl:j<m*ek.esz:=by
                  have:=(List.getElem?_eq_some_iff.1 hj).1
                  simpa using this
                obtain ⟨u',z,hu',_⟩:=hin j hjl
                simp [hjl,f] at hj
                rw [addr_add,←hj,hu']
                rfl
              · obtain ⟨q,hq,rfl⟩:=List.mem_map.1 hu
                obtain ⟨u',z,hu',hr,hfl⟩:=hin q (by simpa using hq)
                simp only [f,hu']
                refine one_of (G:=G) (ρ:=ρ) hr.rv ?_
                cases z<;>simp [AV.flat] at hfl<;>rfl
              · have him:i<m:=by
                  have:=(List.getElem?_eq_some_iff.1 hi).1
                  simp at this;omega
                rw [List.getElem?_take_of_lt him] at hi
                obtain ⟨u,hu,hr⟩:=hc i y hi j z hj
                have hjl:j<ek.esz:=by
                  have:=(List.getElem?_eq_some_iff.1 hj).1
                  rw [ek.enc_len] at this;exact this
                have hlt:i*ek.esz+j<m*ek.esz:=by
                  have:(i+1)*ek.esz≤m*ek.esz:=Nat.mul_le_mul_right _ him
                  rw [Nat.add_mul] at this;omega
                exact ⟨u,by simp [hlt,f,hu],hr⟩
          split at hk
          · rename_i lab esz base n
            split at hk
            · rename_i e2 rs hl
              split at hk
              · rename_i he2
                subst he2
                replace hk:=br_elim hk
                obtain ⟨hes,hle,hk⟩:=hk
                have hes:=Nat.eq_of_beq_eq_true hes
                subst hes
                replace hk:=hk _ rfl
                rw [forceL_eq] at hk
                obtain ⟨aa,c,news,rfl,hf,hnl,hone,hnews⟩:=hfirst (min ys.length n) (Nat.min_le_left _ _)
                simp only [RV] at hd
                obtain ⟨tt,htt,htot,hd⟩:=hd
                rcases hd with ⟨b,hbk,rfl⟩ |⟨hn0,htb,ad,rfl⟩
                · have htl:(ys.take (min ys.length n)).length=min ys.length n:=by simp
                  obtain ⟨w',hst,hsat,hun⟩:=row_over (P:=E.P) (zs:=ys.take (min ys.length n)) hH hl htt hbk base (by rw [htl];omega) news (by rw [htl];exact hnl) hone hnews
                  rw [htl] at hsat hun
                  have hrun:=hexec _ _ (run_copy (P:=E.P) (w:=w) ty hts0 hu hie _ n _ aa ys.length c _ rfl news hf (w':=w') (fun ad had=>by cases had;exact hst) (fun h=>by cases h))
                  unfold Oper.wp
                  rw [hrun,Oper.upon_value]
                  exact hn [] _ _ _ Fs _ w' hk (fun q hq=>by simp at hq;subst hq;exact rvI) (by simpa using hsat) hun
                · subst hn0
                  have hm0:min ys.length 0=0:=by omega
                  rw [hm0] at hk hf hnl
                  have hnn:news=[]:=List.eq_nil_of_length_eq_zero (by simpa using hnl)
                  subst hnn
                  have hself:rs.take base++(ys.take 0++rs.drop (base+0))=rs:=by simp
                  simp only [] at hk
                  rw [hself] at hk
                  have hrun:=hexec _ _ (run_copy (P:=E.P) (w:=w) ty hts0 hu hie ad 0 0 aa ys.length c 0 (by omega) [] hf (w':=w) (fun ad had=>by simp [storeCells]) (fun _=>rfl))
                  have hset:st.heap.set lab (some (.row e2 rs))=st.heap:=by
                    apply List.ext_getElem?
                    intro q
                    by_cases hq:lab=q
                    · subst hq
                      rw [List.getElem?_set_self (hH.lab hl),hl]
                    · rw [List.getElem?_set_ne hq]
                  rw [hset] at hk
                  unfold Oper.wp
                  rw [hrun,Oper.upon_value]
                  exact hn [] _ _ _ Fs _ w hk (fun q hq=>by simp at hq;subst hq;exact rvI) (by simpa using hH) (fun l ob hl' _=>⟨hl',rfl,fun _ _=>rfl⟩)
              · exact hk.elim
            · exact hk.elim
          · obtain ⟨aa,c,news,rfl,hf,hnl,hone,hnews⟩:=hfirst 0 (Nat.zero_le _)
            simp only [RV] at hd
            subst hd
            have hrun:=hexec _ _ (run_copy (P:=E.P) (w:=w) ty hts0 hu hie none 0 0 aa ys.length c 0 (by omega) news hf (w':=w) (fun ad had=>by cases had) (fun _=>rfl))
            unfold Oper.wp
            rw [hrun,Oper.upon_value]
            exact hn [] _ _ _ Fs _ w hk (fun q hq=>by simp at hq;subst hq;exact rvI) (by simpa using hH) (fun l ob hl' _=>⟨hl',rfl,fun _ _=>rfl⟩)
          · exact hk.elim
        · exact h.elim
      · exact h.elim
    · exact h.elim
theorem e_clear (xs:Array Operand) (ts:Array TypeId) (h:aop E ⟨dst,.call ⟨.builtin .clear,xs,ts⟩,ty,pos,af,gd⟩ st k):ERes E G ρ w st a ⟨dst,.call ⟨.builtin .clear,xs,ts⟩,ty,pos,af,gd⟩ Fs k:=by
  intro next Q hn
  simp only [aop] at h
  cases hv:evals st xs.toList with
  |none=>simp [hv] at h
  |some vs=>
    simp only [hv] at h
    have hr:=evals_rv hT hv
    obtain ⟨x,rfl⟩: ∃x,vs=[x]:=by
      unfold abuiltin at h
      rcases vs with _ |⟨s,_ |⟨x,r⟩⟩<;>first |exact ⟨_,rfl⟩ |exact h.elim
    simp only [abuiltin] at h
    simp only [RVs] at hr
    obtain ⟨xv,ws,hxs,hx,rfl⟩:=hr
    have hxs':xs.map a.eval= #[xv]:=by
      apply Array.ext';simpa using hxs
    split at h
    · rename_i t ht
      split at h
      · rename_i e hu
        split at h
        · rename_i ek z hek hz
          split at h
          · rename_i x0 hx0
            replace h:=br_elim h
            obtain ⟨hzl,h⟩:=h
            have hzl:=Nat.eq_of_beq_eq_true hzl
            obtain ⟨iz,zv,hiz,hzv,hzr⟩:=zero_rv (G:=G) (ρ:=ρ) hz
            have hzs:zv.cells.size=ek.esz:=by
              have:=hzr.len
              simp at this;omega
            have hrv0:RV G ρ (.tup []) (.tuple #[]):=by simp only [RV];exact ⟨#[],rfl,by simp [RVs]⟩
            split at h
            · rename_i lab esz base n
              split at h
              · rename_i e2 rs hl
                split at h
                · rename_i he2
                  subst he2
                  replace h:=br_elim h
                  obtain ⟨hes,hle,h⟩:=h
                  have hes:=Nat.eq_of_beq_eq_true hes
                  subst hes
                  rw [forceL_eq] at h
                  simp only [RV] at hx
                  obtain ⟨tt,htt,htot,hx⟩:=hx
                  have hnl:(Builtin.zeroCells zv.cells n).toList.length=n*e2.esz:=by simp [Builtin.zeroCells,hzs]
                  have hsp:=fun i hi j y hj=>spare_zero (G:=G) (ρ:=ρ) hx0 hzr hzl 0 n (pre:= #[]) (by simp) i hi j y hj
                  have hnews: ∀(i:Nat) (y:e2.T),(List.replicate n x0)[i]? =some y→ ∀(j:Nat) (z:AV),(e2.enc y)[j]? =some z→ ∃u,(Builtin.zeroCells zv.cells n).toList[i*e2.esz+j]? =some u∧RV1 G z u:=by
                    intro i y hi j z hj
                    rw [List.getElem?_replicate] at hi
                    split at hi
                    · rename_i hlt
                      simp at hi;subst hi
                      obtain ⟨u,hu,hr⟩:=hsp i hlt j z hj
                      exact ⟨u,by simpa using hu,hr⟩
                    · cases hi
                  have hone: ∀v∈(Builtin.zeroCells zv.cells n).toList,v.oneCell'=true:=by
                    intro v hv
                    obtain ⟨q,hq,rfl⟩:=List.getElem_of_mem hv
                    rw [hnl] at hq
                    have hpos:=e2.esz_pos
                    have hi:q/e2.esz<n:=(Nat.div_lt_iff_lt_mul hpos).2 hq
                    have hj:q%e2.esz<e2.esz:=Nat.mod_lt _ hpos
                    have hlen:=e2.enc_len x0
                    obtain ⟨u,hu,hr⟩:=hnews (q/e2.esz) x0 (by simp [hi]) (q%e2.esz) _ (List.getElem?_eq_getElem (by omega))
                    have hdm:q/e2.esz*e2.esz+q%e2.esz=q:=by
                      rw [Nat.mul_comm];exact Nat.div_add_mod q e2.esz
                    rw [hdm] at hu
                    rw [List.getElem?_eq_getElem (by rw [hnl];exact hq)] at hu
                    simp at hu
                    have hfl:=List.all_eq_true.1 (enc_flat e2 x0) _ (List.getElem_mem (h:=(by omega:q%e2.esz<(e2.enc x0).length)))
                    have:u.oneCell'=true:=by
                      refine one_of (G:=G) (ρ:=ρ) hr.rv ?_
                      revert hfl
                      generalize (e2.enc x0)[q%e2.esz]=q'
                      intro hfl
                      cases q'<;>simp [AV.flat] at hfl<;>rfl
                    simpa [hu] using this
                  rcases hx with ⟨b,hbk,rfl⟩ |⟨hn0,htb,ad,rfl⟩
                  · obtain ⟨w',hst,hsat,hun⟩:=row_over (P:=E.P) (zs:=List.replicate n x0) hH hl htt hbk base (by simp;omega) _ (by rw [hnl];simp) hone hnews
                    simp only [List.length_replicate] at hsat hun
                    have hrun:(execOp a.eval ⟨dst,.call ⟨.builtin .clear,xs,ts⟩,ty,pos,af,gd⟩).run E.P w= .ok (.value (.tuple #[])) w':=by
                      rw [run_resolve_builtin,hxs']
                      by_cases hn0:n=0
                      · subst hn0
                        have:w'=w:=by
                          have hnil:(Builtin.zeroCells zv.cells 0).toList=[]:=by simp [Builtin.zeroCells]
                          rw [hnil] at hst
                          simpa [storeCells] using hst.symm
                        subst this
                        simp [builtin,Builtin.clear_,ht,run_und hu]
                      · simp [builtin,Builtin.clear_,ht,run_und hu,hn0,zeroValue,typeInfo,hiz,hzv,hst]
                    unfold Oper.wp
                    rw [hrun,Oper.upon_value]
                    exact hn [] _ _ _ Fs _ w' h (fun q hq=>by simp at hq;subst hq;simp only [RV];exact ⟨#[],rfl,by simp [RVs]⟩) (by simpa using hsat) hun
                  · subst hn0
                    have hself:rs.take base++(List.replicate 0 x0++rs.drop (base+0))=rs:=by simp
                    simp only [] at h
                    rw [hself] at h
                    have hset:st.heap.set lab (some (.row e2 rs))=st.heap:=by
                      apply List.ext_getElem?
                      intro q
                      by_cases hq:lab=q
                      · subst hq
                        rw [List.getElem?_set_self (hH.lab hl),hl]
                      · rw [List.getElem?_set_ne hq]
                    rw [hset] at h
                    have hrun:(execOp a.eval ⟨dst,.call ⟨.builtin .clear,xs,ts⟩,ty,pos,af,gd⟩).run E.P w= .ok (.value (.tuple #[])) w:=by
                      rw [run_resolve_builtin,hxs']
                      cases ad<;>simp [builtin,Builtin.clear_,ht,run_und hu]
                    unfold Oper.wp
                    rw [hrun,Oper.upon_value]
                    exact hn [] _ _ _ Fs _ w h (fun q hq=>by simp at hq;subst hq;simp only [RV];exact ⟨#[],rfl,by simp [RVs]⟩) (by simpa using hH) (fun l ob hl' _=>⟨hl',rfl,fun _ _=>rfl⟩)
                · exact h.elim
              · exact h.elim
            · simp only [RV] at hx
              subst hx
              have hrun:(execOp a.eval ⟨dst,.call ⟨.builtin .clear,xs,ts⟩,ty,pos,af,gd⟩).run E.P w= .ok (.value (.tuple #[])) w:=by
                rw [run_resolve_builtin,hxs']
                simp [builtin,Builtin.clear_,ht,run_und hu]
              unfold Oper.wp
              rw [hrun,Oper.upon_value]
              exact hn [] _ _ _ Fs _ w h (fun q hq=>by simp at hq;subst hq;simp only [RV];exact ⟨#[],rfl,by simp [RVs]⟩) (by simpa using hH) (fun l ob hl' _=>⟨hl',rfl,fun _ _=>rfl⟩)
            · exact h.elim
          · exact h.elim
        · exact h.elim
      · exact h.elim
    · exact h.elim
theorem e_cap (xs:Array Operand) (ts:Array TypeId) (h:aop E ⟨dst,.call ⟨.builtin .cap,xs,ts⟩,ty,pos,af,gd⟩ st k):ERes E G ρ w st a ⟨dst,.call ⟨.builtin .cap,xs,ts⟩,ty,pos,af,gd⟩ Fs k:=by
  intro next Q hn
  simp only [aop] at h
  cases hv:evals st xs.toList with
  |none=>simp [hv] at h
  |some vs=>
    simp only [hv] at h
    have hr:=evals_rv hT hv
    unfold abuiltin at h
    split at h
    · rename_i hb;cases hb
    · rename_i x hb
      simp only [RVs] at hr
      obtain ⟨v,ws,hxs,hx,rfl⟩:=hr
      have hxs':xs.map a.eval= #[v]:=by
        apply Array.ext';simpa using hxs
      split at h
      · rename_i t ht
        split at h
        · rename_i e lab es base n hu
          split at h
          · rename_i ek rs hl
            simp only [RV] at hx
            obtain ⟨tt,htt,hle,hx⟩:=hx
            obtain ⟨t',ht',hsat⟩:=hH.sat _ _ hl
            rw [htt] at ht';cases ht'
            have key: ∃sp:List ek.T,rs.length+sp.length=tt.tot∧Sat G ρ w (.row ek (rs++sp)) tt (Fs lab):=by
              generalize Fs lab=F at hsat
              cases hsat with
              | @row _ _ sp _ b c ty fz hb hw h2 h3 hc hz=>exact ⟨sp,h2,.row (sp:=[]) hb hw (by simp;omega) h3 (by simpa using hc) hz⟩
              |rownil hb ht=>exact ⟨[],by simp [ht],.rownil hb ht⟩
            obtain ⟨sp,hsp,hsat'⟩:=key
            have hk:=h sp
            rw [forceL_eq] at hk
            have hc: ∃aa m,v= .slice aa m (rs.length+sp.length-base):=by
              rcases hx with ⟨b,_,rfl⟩ |⟨rfl,h2,aa,rfl⟩
              · exact ⟨_,_,by rw [hsp]⟩
              · refine ⟨aa,0,?_⟩
                rw [hsp,h2,Nat.sub_self]
            obtain ⟨aa,m,rfl⟩:=hc
            have hrun:(execOp a.eval ⟨dst,.call ⟨.builtin .cap,xs,ts⟩,ty,pos,af,gd⟩).run E.P w= .ok (.value (.int .i64 ((rs.length+sp.length-base:Nat):Int))) w:=by
              rw [run_resolve_builtin];simp [builtin,hxs',Builtin.cap_,ht,run_und hu,goInt]
            have hlt:=hH.lab hl
            have hset:=SatH.set hH hl (.row ek (rs++sp)) (Fs lab) (w':=w) (Nat.le_refl _) (fun _ _ _=>rfl) .rfl rfl rfl (fun r' hr'=>by rw [htt] at hr';cases hr';exact hsat') (fun b hb=>⟨.inl hb,(hH.free _ _ b hl hb).2⟩)
            have hFs:(fun x=>if x=lab then Fs lab else Fs x)=Fs:=by
              funext x
              by_cases hx:x=lab
              · subst hx;simp
              · simp [hx]
            rw [hFs] at hset
            unfold Oper.wp
            rw [hrun,Oper.upon_value]
            refine hn [] _ _ _ Fs _ w hk (fun q hq=>by simp at hq;subst hq;simp only [RV,List.append_nil];refine ⟨trivial,tt,htt,?_⟩;rw [hsp]) (by simpa using hset) (fun l ob hl' hTl=>⟨?_,rfl,fun _ _=>rfl⟩)
            have hne:l≠lab:=fun he=>hTl (by simp [he])
            rw [List.getElem?_set_ne (Ne.symm hne)];exact hl'
          · exact h.elim
        · rename_i e hu
          simp only [RV] at hx;subst hx
          have hrun:(execOp a.eval ⟨dst,.call ⟨.builtin .cap,xs,ts⟩,ty,pos,af,gd⟩).run E.P w= .ok (.value (.int .i64 0)) w:=by
            rw [run_resolve_builtin];simp [builtin,hxs',Builtin.cap_,ht,run_und hu,goInt]
          unfold Oper.wp
          rw [hrun,Oper.upon_value]
          exact hn [] _ _ _ Fs _ w h (fun q hq=>by simp at hq;subst hq;exact rvI) (by simpa using hH) (fun l ob hl' _=>⟨hl',rfl,fun _ _=>rfl⟩)
        · exact h.elim
      · exact h.elim
    all_goals first |(rename_i hb;cases hb;done) |(rename_i hb _;cases hb;done) |(rename_i hb _ _;cases hb;done) |exact h.elim
end
theorem eff_sound {E:Env} (hE:E.OK) {st:AS} {a:Act} {Fs:Nat→List Nat} {k:KT} {o:Oper} (hT:TR G ρ st.tmps a.tmps) (hH:SatHF G ρ w st.heap Fs) (hq:quietOp o.op=false) (h:aop E o st k):
    ERes E G ρ w st a o Fs k:=by
  intro next Q hn'
  obtain ⟨dst,op,ty,pos,af,gd⟩:=o
  cases op with
  |alloc e=>exact e_alloc dst ty pos af gd hT hH e h next Q hn'
  |box e x=>exact e_box dst ty pos af gd hT hH e x h next Q hn'
  |store t x y=>exact e_store dst ty pos af gd hT hH t x y h next Q hn'
  |buildSlice t n p=>exact e_buildSlice dst ty pos af gd hT hH t n p h next Q hn'
  |makeSlice t l c=>exact e_makeSlice dst ty pos af gd hT hH t l c h next Q hn'
  |makeMap t x=>exact e_makeMap dst ty pos af gd hT hH t x h next Q hn'
  |lookup t m x c=>exact e_lookup dst ty pos af gd hT hH t m x c h next Q hn'
  |mapUpdate t m x y=>exact e_mapUpdate dst ty pos af gd hT hH t m x y h next Q hn'
  |call c=>
    obtain ⟨cal,xs,ts⟩:=c
    cases cal with
    |value f=>exact e_call dst ty pos af gd hT hH hE f xs ts h next Q hn'
    |builtin b=>
      by_cases hb:b= .append
      · subst hb
        exact e_append dst ty pos af gd hT hH xs ts h next Q hn'
      · by_cases hb2:b= .cap
        · subst hb2
          exact e_cap dst ty pos af gd hT hH xs ts h next Q hn'
        by_cases hb3:b= .copy
        · subst hb3
          exact e_copy dst ty pos af gd hT hH xs ts h next Q hn'
        by_cases hb4:b= .clear
        · subst hb4
          exact e_clear dst ty pos af gd hT hH xs ts h next Q hn'
        exfalso
        simp only [aop] at h
        cases hv:evals st xs.toList with
        |none=>simp [hv] at h
        |some vs=>
          simp only [hv] at h
          cases b<;>simp [quietOp] at hq hb hb2 hb3 hb4<;>simp [abuiltin] at h
    |invoke r m=>simp [aop] at h
  |_=>simp [quietOp] at hq<;>simp [aop] at h
end Go.Ax
namespace Go.Ax
variable [Surr] {G:Gam} {ρ:List Root} {w:World}
theorem op_seq {E:Env} (hE:E.OK) {st:AS} {a:Act} {Fs:Nat→List Nat} {k:KT} {o:Oper} (hT:TR G ρ st.tmps a.tmps) (hH:SatHF G ρ w st.heap Fs) (h:aop E o st k)
  (next:Act→World→Prop) (Q:Exit→Act→World→Prop)
  (hn: ∀e av H' T Fs' u w',k av H' T→(∀x,av=some x→RV G (ρ++e) x u)→SatHF G (ρ++e) w' H' Fs'→next (a.put o.dst u) w'):o.wp E.P a w next Q:=by
 by_cases hq:quietOp o.op=true
 ·obtain ⟨e,av,H',Fs',u,hk,hr,hs,_,_,hrun⟩:=quiet_sound hT hH hq h
  have:=hrun w (by have:=hs.wok;exact this) (fun l b _ _=>rfl)
  unfold Oper.wp
  rw [this,Oper.upon_value]
  exact hn e av H' [] Fs' u w hk hr hs
 ·exact eff_sound hE hT hH (by simpa using hq) h next Q fun e av H' T Fs' u w' h1 h2 h3 _=>hn e av H' T Fs' u w' h1 h2 h3
theorem mark_heap {w:World} {b:Nat} {c:Array Value} {ty:TypeId} {fz:Nat × Nat} (hw:w.heap[b]? =some (.cells c ty fz)) (hz:fz=(0,0)∨c.size≤fz.1):
  ∃fz',(w.freeze ⟨b,c.size,none⟩ 1).heap[b]? =some (.cells c ty fz')∧(fz'=(0,0)∨c.size≤fz'.1)∧(∀x,x≠b→(w.freeze ⟨b,c.size,none⟩ 1).heap[x]? =w.heap[x]?)∧(w.freeze ⟨b,c.size,none⟩ 1).heap.size=w.heap.size:=by
 unfold World.freeze
 rw [if_neg (by decide)]
 refine ⟨if fz.1==fz.2 then (c.size,c.size+1) else (min fz.1 c.size,max fz.2 (c.size+1)),?_,?_,fun x hx=>?_,by simp⟩
 ·simp only []
  rw [Array.getElem?_modify,if_pos rfl,hw]
  rfl
 ·right
  split
  ·exact Nat.le_refl _
  ·rename_i hne
   rcases hz with rfl |hz
   ·simp at hne
   ·simp only [];omega
 ·simp only []
  rw [Array.getElem?_modify,if_neg (Ne.symm hx)]
theorem op_seqS {E:Env} (hE:E.OK) {st:AS} {a:Act} {Fs:Nat→List Nat} {k:KT} {o:Oper} (hT:TR G ρ st.tmps a.tmps) (hH:SatHF G ρ w st.heap Fs) (h:aopS E o st k)
  (next:Act→World→Prop) (Q:Exit→Act→World→Prop)
  (hn: ∀e av H' T Fs' u w',k av H' T→(∀x,av=some x→RV G (ρ++e) x u)→SatHF G (ρ++e) w' H' Fs'→next (a.put o.dst u) w'):o.wp E.P a w next Q:=by
 unfold aopS at h
 split at h
 ·rename_i v n hm
  obtain ⟨hn0,hk⟩:=h
  obtain ⟨dst,op,ty,pos,af,gd⟩:=o
  unfold markOf at hm
  split at hm
  ·rename_i s d x hop
   simp only [] at hop
   subst hop
   split at hm
   ·rename_i lab esz base n' e hsd hx hd
    split at hm
    ·rename_i xs he hl
     cases hm
     have hsd:=Nat.eq_of_beq_eq_true hsd
     subst hsd
     have hv:=eval_rv hT hx
     have hv0:=hv
     simp only [RV] at hv
     obtain ⟨t,ht,htot,hv⟩:=hv
     rcases hv with ⟨b,hbk,hv⟩ |⟨hz,_⟩
     ·obtain ⟨t',ht',hsat⟩:=hH.sat _ _ hl
      rw [ht] at ht';cases ht'
      generalize hF:Fs lab=F at hsat
      cases hsat with
      |rownil hb' _=>rw [hbk] at hb';cases hb'
      | @row _ _ sp _ b' c cty fz hb' hw h5 h6 hc hz=>
       rw [hbk] at hb';cases hb'
       obtain ⟨fz',g1,g2,g3,g4⟩:=mark_heap hw (hz.imp id And.right)
       have hset:=SatH.set hH hl (.row .u8 xs) [b] (w':=w.freeze ⟨b,c.size,none⟩ 1) (by rw [g4];exact Nat.le_refl _) (fun y _ hy=>g3 y (fun he=>hy (by rw [hF,he];simp))) ⟨rfl,fun _=>Nat.le_refl _⟩ rfl rfl
        (fun r' hr'=>by
         rw [ht] at hr';cases hr'
         exact .row (sp:=sp) hbk g1 h5 h6 hc (g2.imp id fun h=>⟨rfl,h⟩)) (fun y hy=>by
         simp at hy;subst hy
         have:y∈Fs lab:=by rw [hF];simp
         exact ⟨.inl this,by rw [g4];exact (hH.free _ _ y hl this).2⟩)
       have hsame:st.heap.set lab (some (.row .u8 xs))=st.heap:=by
        apply List.ext_getElem?
        intro i
        by_cases hi:lab=i
        ·subst hi
         rw [List.getElem?_set_self (List.getElem?_eq_some_iff.1 hl).1,hl]
        ·rw [List.getElem?_set_ne hi]
       rw [hsame] at hset
       have hsh:w.shape? b=some (cty,c.size):=by unfold World.shape?;rw [hw]
       have hrun:(execOp a.eval (⟨dst,.convert s s x,ty,pos,af,gd⟩:Oper)).run E.P w= .ok (.value (a.eval x)) (w.freeze ⟨b,c.size,none⟩ 1):=by
        rw [show execOp a.eval (⟨dst,.convert s s x,ty,pos,af,gd⟩:Oper)=_ from rfl]
        simp [execOp,hv,convert,run_und hd,run_und he,markStringish,hsh]
       unfold Oper.wp
       rw [hrun,Oper.upon_value]
       exact hn [] _ _ [] _ _ _ hk (fun q hq=>by simp at hq;subst hq;simpa using hv0) (by simpa using hset)
     ·omega
    ·cases hm
   ·cases hm
  ·cases hm
 ·exact op_seq hE hT hH h next Q hn
theorem put_defers (a:Act) (d:Option Tmp) (v:Value):(a.put d v).defers=a.defers:=by cases d<;>rfl
theorem aguard_sound {ops:Array Oper} {o:Oper} {st:AS} {a:Act} {k:Bool→AS→Prop} (h:aguard ops o st k) (hT:TR G ρ st.tmps a.tmps):
  ∃st',k (Region.wanted o (yielded ops a.tmps)) st'∧st'.heap=st.heap∧TR G ρ st'.tmps a.tmps:=by
 unfold aguard at h
 split at h
 ·rename_i hg
  refine ⟨st,?_,rfl,hT⟩
  simpa [Region.wanted,hg] using h
 ·rename_i j want hg
  split at h
  ·rename_i d hd
   split at h
   ·rename_i b hb
    obtain ⟨v,hv,hr⟩:=hT.2 d _ hb
    have hvb:=rv_bool hr
    subst hvb
    have hy:yielded ops a.tmps j=some b:=by
     unfold yielded
     rw [hd]
     simp [hv]
    have hw:Region.wanted o (yielded ops a.tmps)=(b==want):=by
     unfold Region.wanted
     rw [hg]
     simp [hy]
    have hput:TR G ρ (st.put (some d) (some (.bool b))).tmps a.tmps:=by
     refine ⟨by simp [AS.put,hT.1],fun s y hs=>?_⟩
     simp only [AS.put] at hs
     by_cases hsd:s=d
     ·subst hsd
      have hl:=(List.getElem?_eq_some_iff.1 hb).1
      rw [List.getElem?_set_self hl] at hs
      simp at hs;subst hs
      exact ⟨_,hv,rvB⟩
     ·rw [List.getElem?_set_ne (Ne.symm hsd)] at hs
      exact hT.2 s y hs
    rw [hw]
    cases b with
    |true=>
     simp only [br,AS.putK_eq] at h
     exact ⟨st.put (some d) (some (.bool true)),by simpa using h,rfl,hput⟩
    |false=>
     simp only [br,AS.putK_eq] at h
     exact ⟨st.put (some d) (some (.bool false)),by simpa using h,rfl,hput⟩
   ·rename_i hb
    obtain ⟨v,hv,hr⟩:=hT.2 d _ hb
    simp only [RV,RVs] at hr
    obtain ⟨us,rfl,hus⟩:=hr
    have hw:Region.wanted o (yielded ops a.tmps)=false:=by
     unfold Region.wanted
     rw [hg]
     simp [yielded,hd,hv]
    rw [hw]
    exact ⟨st,h,rfl,hT⟩
   ·exact h.elim
  ·exact h.elim
theorem rv_undef:RV G ρ (.tup []) undef:=by simp [RV,RVs,undef]
theorem put_heap (st:AS) (d:Option Tmp) (x:Option AV):(st.put d x).heap=st.heap:=by cases d<;>rfl
structure ST (G:Gam) (ρ:List Root) (w:World) (st:AS) (a:Act):Prop where
 tr:TR G ρ st.tmps a.tmps
 sat:SatH G ρ w st.heap
 df:a.defers=[]
theorem aseq_sound {E:Env} (hE:E.OK) {ops:Array Oper} {K:AS→Prop} {Q:Exit→Act→World→Prop} {ρ0:List Root}:
  ∀(l:List Nat) (e:List Root) (st:AS) (a:Act) (w:World),aseq E ops l st K→ST G (ρ0++e) w st a→
   (∀st' e' a' w',K st'→ST G (ρ0++e') w' st' a'→Q .normal a' w')→wpOps E.P ops Q l a w
 | [],e,st,a,w,h,hs,hQ=>hQ st e a w h hs
 |i::l,e,st,a,w,h,hs,hQ=>by
  simp only [aseq] at h
  simp only [wpOps]
  cases ho:ops[i]? with
  |none=>
   simp only [ho] at h
   exact aseq_sound hE l e st a w h hs hQ
  |some o=>
   simp only [ho] at h
   obtain ⟨st',hk,hheap,hT⟩:=aguard_sound h hs.tr
   cases hw:Region.wanted o (yielded ops a.tmps) with
   |true=>
    simp only [hw] at hk
    simp only []
    rw [if_pos hw]
    obtain ⟨Fs,hsat⟩:=hs.sat
    rw [←hheap] at hsat
    refine .inl (op_seqS hE hT hsat hk _ Q fun e' av H' T Fs' u w' hk' hr hs'=>?_)
    rw [AS.putK_eq] at hk'
    rw [List.append_assoc] at hr hs'
    refine aseq_sound hE l (e++e') _ _ w' hk' ⟨?_,?_,by rw [put_defers];exact hs.df⟩ hQ
    ·have:=TR.put (G:=G) (ρ:=ρ0++(e++e')) (ts:=st'.tmps) (a:=a) (by rw [←List.append_assoc];exact hT.ext) o.dst av u hr H'
     exact this
    ·rw [put_heap];exact ⟨Fs',hs'⟩
   |false=>
    simp only [hw] at hk
    simp only []
    rw [if_neg (by rw [hw];exact Bool.false_ne_true)]
    rw [AS.putK_eq] at hk
    refine aseq_sound hE l e _ _ w hk ⟨?_,?_,by rw [put_defers];exact hs.df⟩ hQ
    ·exact TR.put (ts:=st'.tmps) hT o.dst (some (.tup [])) undef (fun y hy=>by cases hy;exact rv_undef) st'.heap
    ·rw [put_heap,hheap];exact hs.sat
end Go.Ax
namespace Go.Ax
section
variable {P:Program} {ops:Array Oper} {Q:Exit→Act→World→Prop}
abbrev HP:=Nat × (World→Prop)
def keepH (ops:Array Oper) (held:List HP) (j:Nat):List HP:=held.filter fun p=>!bitM (waiters ops j) p.1
def wpM (P:Program) (ops:Array Oper) (Q:Exit→Act→World→Prop):Nat→List HP→Array Bool→Act→World→Prop
 |0,_,listed,a,w=>Region.ready .any ops listed=[]∧Q .normal a w
 |fuel+1,held,listed,a,w=>
  (Region.ready .any ops listed=[]→Q .normal a w)∧
  ∀j∈Region.ready .any ops listed,wpOp P ops Q j (fun a' w'=>(∀p∈keepH ops held j,p.2 w→p.2 w')∧wpM P ops Q fuel (keepH ops held j) (listed.setIfInBounds j true) a' w') a w
theorem wpM.any: ∀(fuel:Nat) (held:List HP) (listed:Array Bool) (a:Act) (w:World),wpM P ops Q fuel held listed a w→wpAny P .any ops Q fuel listed a w
 |0,_,_,_,_,h=>h
 |fuel+1,held,_,_,_,h=>⟨h.1,fun j hj=>wpOp_mono (fun a' w' h'=>wpM.any fuel _ _ a' w' h'.2) (h.2 j hj)⟩
theorem keepH_sub {h1 h2:List HP} (h: ∀p,p∈h2→p∈h1) (j:Nat): ∀p,p∈keepH ops h2 j→p∈keepH ops h1 j:=by
 intro p hp
 simp only [keepH,List.mem_filter] at hp ⊢
 exact ⟨h p hp.1,hp.2⟩
theorem wpM.less: ∀(fuel:Nat) (h1 h2:List HP) (_: ∀p,p∈h2→p∈h1) (listed:Array Bool) (a:Act) (w:World),wpM P ops Q fuel h1 listed a w→wpM P ops Q fuel h2 listed a w
 |0,_,_,_,_,_,_,h=>h
 |fuel+1,h1,h2,hs,listed,a,w,h=>⟨h.1,fun j hj=>wpOp_mono (fun a' w' h'=>⟨fun p hp=>h'.1 p (keepH_sub hs j p hp),wpM.less fuel _ _ (keepH_sub hs j) _ a' w' h'.2⟩) (h.2 j hj)⟩
def Closed (ops:Array Oper) (listed:Array Bool):Prop:=
 ∀k o,ops[k]? =some o→listed.getD k false=true→ ∀e∈o.after,Region.binds .any e=true→listed.getD e.on false=true
theorem Closed.step {listed:Array Bool} (h:Closed ops listed) {j:Nat} (hj:j∈Region.ready .any ops listed):Closed ops (listed.setIfInBounds j true):=by
 intro k o hk hl e he hb
 by_cases hjk:j=k
 ·subst hjk
  obtain ⟨_,oj,hoj,hall⟩:=mem_ready.1 hj
  rw [hoj] at hk;simp at hk;subst hk
  exact getD_set_true (hall e he hb)
 ·rw [getD_set_ne false hjk] at hl
  exact getD_set_true (h k o hk hl e he hb)
theorem Closed.waits {listed:Array Bool} (h:Closed ops listed) {i:Nat} (hi:listed.getD i false=false) {j:Nat} {o:Oper} (ho:ops[j]? =some o)
  (hall: ∀e∈o.after,Region.binds .any e=true→listed.getD e.on false=true):bitM (waiters ops j) i=false:=by
 have key: ∀{o:Oper},(∀e∈o.after,Region.binds .any e=true→listed.getD e.on false=true)→ ∀i,(tab1 ops o).dep.testBit i=true→listed.getD i false=true:=by
  intro o hall i hi
  simp only [tab1,bit_mask,decide_eq_true_eq,List.mem_map,List.mem_filter] at hi
  obtain ⟨e,⟨he,hb⟩,rfl⟩:=hi
  exact hall e (by simpa using he) hb
 rw [bitM_eq,Bool.eq_false_iff]
 intro ht
 simp only [waiters,waitM,ho] at ht
 have:=closD_in (listed:=listed) (tabOf ops) 0 (tab1 ops o).dep (key hall) (fun p hp hl=>by
  obtain ⟨t,k⟩:=p
  obtain ⟨hlt,rfl⟩:=zip_at hp
  exact key (h k _ (Array.getElem?_eq_getElem hlt) hl)) i ht
 rw [hi] at this
 exact absurd this (by decide)
theorem wpM_first {i:Nat} {oi:Oper} {v:Value} {S:World→Prop} (hi:ops[i]? =some oi) (hsel: ∀(j:Nat) (o:Oper) cs b,ops[j]? =some o→o.op≠ .select cs b)
  (hQ: ∀c a w,Q (.panic c) (a.put oi.dst v) w→Q (.panic c) a w):
  ∀(fuel:Nat) (held:List HP) (listed:Array Bool) (a:Act) (w:World),Closed ops listed→
   (∀j oj,ops[j]? =some oj→j≠i→listed.getD j true=false→(∀e∈oj.after,Region.binds .any e=true→e.on≠i)→oi.apart ops oj=true)→
   i∈Region.ready .any ops listed→YieldsIf P ops S oi v a→S w→
   wpM P ops Q fuel ((i,S)::held) (listed.setIfInBounds i true) (a.put oi.dst v) w→wpM P ops Q (fuel+1) held listed a w:=by
 intro fuel
 induction fuel with
 |zero=>
  intro held listed a w hc _ hr hy hS H
  refine ⟨fun h=>(by rw [h] at hr;cases hr),fun j hj=>?_⟩
  by_cases hji:j=i
  ·subst hji;exact hy.wpOp hi hS ⟨fun p _ h=>h,H⟩
  ·have:=ready_mono hj hji
   rw [H.1] at this
   cases this
 |succ fuel ih=>
  intro held listed a w hc hfree hr hy hS H
  refine ⟨fun h=>(by rw [h] at hr;cases hr),fun j hj=>?_⟩
  by_cases hji:j=i
  ·subst hji
   refine hy.wpOp hi hS ⟨fun p _ h=>h,wpM.less _ _ _ (fun p hp=>?_) _ _ _ H⟩
   exact List.mem_cons_of_mem _ (List.mem_filter.1 hp).1
  ·have h1:=H.2 j (ready_mono hj hji)
   obtain ⟨hjun,oj,hoj,hall⟩:=mem_ready.1 hj
   have hiun:listed.getD i false=false:=by
    have h0:=(mem_ready.1 hr).1
    rcases Nat.lt_or_ge i listed.size with h' |h'
    ·simp [h'] at h0 ⊢;exact h0
    ·simp [Array.getElem?_eq_none h']
   have hnot: ∀e∈oj.after,Region.binds .any e=true→e.on≠i:=fun e he hb heq=>by
    have h1:=hall e he hb
    rw [heq,hiun] at h1
    exact absurd h1 (by decide)
   have hkeep:keepH ops ((i,S)::held) j=(i,S)::keepH ops held j:=by
    simp only [keepH,List.filter_cons,hc.waits hiun hoj hall,Bool.not_false,if_true]
   rw [hkeep] at h1
   have h2:=wpOp_putIf hoj (hfree j oj hoj hji hjun hnot) (fun cs b=>hsel i oi cs b hi) (fun cs b=>hsel j oj cs b hoj) hQ hy h1
   have hfree': ∀k ok,ops[k]? =some ok→k≠i→(listed.setIfInBounds j true).getD k true=false→
     (∀e∈ok.after,Region.binds .any e=true→e.on≠i)→oi.apart ops ok=true:=fun k ok hk hki hun hno=>by
    refine hfree k ok hk hki ?_ hno
    by_cases hjk:j=k
    ·subst hjk;exact hjun
    ·rw [getD_set_ne true hjk] at hun;exact hun
   refine wpOp_mono (fun a' w' h3=>⟨fun p hp=>h3.2.1 p (List.mem_cons_of_mem _ hp),ih (keepH ops held j) (listed.setIfInBounds j true) a' w' (hc.step hj) hfree' (ready_mono hr (Ne.symm hji)) h3.1 (h3.2.1 (i,S) List.mem_cons_self hS) ?_⟩) h2
   rw [Array.setIfInBounds_comm _ _ hji]
   exact h3.2.2
end
variable [Surr] {G:Gam} {ρ:List Root} {w:World}
def HOK (G:Gam) (w:World) (H:AHeap) (Fs:Nat→List Nat) (held:List (Nat × Nat)) (hs:List HP):Prop:=
 ∀p∈hs,p.2=WOK G∨ ∃l b ob c,(p.1,l)∈held∧H[l]? =some (some ob)∧b∈Fs l∧(∀y,y∈Fs l→y=b)∧w.heap[b]? =c∧p.2=fun w'=>WOK G w'∧w'.heap[b]? =c
theorem HOK.unt {w':World} {H H':AHeap} {Fs Fs':Nat→List Nat} {held:List (Nat × Nat)} {hs:List HP} {T:List Nat} {ops:Array Oper} (h:HOK G w H Fs held hs) (j:Nat) (hun:Unt w w' H H' Fs Fs' T)
  (hok:heldOK (heldOn ops held j) T=true) (hw:WOK G w'):HOK G w' H' Fs' (heldOn ops held j) (keepH ops hs j)∧ ∀p∈keepH ops hs j,p.2 w→p.2 w':=by
 have key: ∀p∈keepH ops hs j,p.2=WOK G∨ ∃l b ob c,(p.1,l)∈heldOn ops held j∧H'[l]? =some (some ob)∧b∈Fs' l∧(∀y,y∈Fs' l→y=b)∧w'.heap[b]? =c∧w.heap[b]? =c∧p.2=fun w'=>WOK G w'∧w'.heap[b]? =c:=by
  intro p hp
  obtain ⟨hp1,hp2⟩:=List.mem_filter.1 hp
  rcases h p hp1 with h1 |⟨l,b,ob,c,h1,h2,h3,h4,h5,h6⟩
  ·exact .inl h1
  ·have hmem:(p.1,l)∈heldOn ops held j:=List.mem_filter.2 ⟨h1,hp2⟩
   have hnT:l∉T:=by
    have:=List.all_eq_true.1 hok _ hmem
    simpa using this
   obtain ⟨u1,u2,u3⟩:=hun l ob h2 hnT
   exact .inr ⟨l,b,ob,c,hmem,u1,by rw [u2];exact h3,by rw [u2];exact h4,by rw [u3 b h3];exact h5,h5,h6⟩
 refine ⟨fun p hp=>?_,fun p hp h0=>?_⟩
 ·rcases key p hp with h1 |⟨l,b,ob,c,h1,h2,h3,h4,h5,_,h6⟩
  ·exact .inl h1
  ·exact .inr ⟨l,b,ob,c,h1,h2,h3,h4,h5,h6⟩
 ·rcases key p hp with h1 |⟨l,b,ob,c,h1,h2,h3,h4,h5,_,h6⟩
  ·rw [h1];exact hw
  ·rw [h6];exact ⟨hw,h5⟩
theorem HOK.same {H:AHeap} {Fs:Nat→List Nat} {held:List (Nat × Nat)} {hs:List HP} {ops:Array Oper} (h:HOK G w H Fs held hs) (j:Nat):HOK G w H Fs (heldOn ops held j) (keepH ops hs j):=by
 intro p hp
 obtain ⟨hp1,hp2⟩:=List.mem_filter.1 hp
 rcases h p hp1 with h1 |⟨l,b,ob,c,h1,h2⟩
 ·exact .inl h1
 ·exact .inr ⟨l,b,ob,c,List.mem_filter.2 ⟨h1,hp2⟩,h2⟩
theorem firstQuiet_spec {ops:Array Oper}: ∀{rs:List Nat} {i:Nat} {o:Oper},firstQuiet ops rs=some (i,o)→i∈rs∧ops[i]? =some o∧quietOp o.op=true
 | [],_,_,h=>by simp [firstQuiet] at h
 |j::rs,i,o,h=>by
  simp only [firstQuiet] at h
  split at h
  ·rename_i oj hoj
   cases hq:quietOp oj.op with
   |true=>
    simp only [hq,cond] at h
    simp at h
    obtain ⟨rfl,rfl⟩:=h
    exact ⟨by simp,hoj,hq⟩
   |false=>
    simp only [hq,cond] at h
    obtain ⟨h1,h2⟩:=firstQuiet_spec h
    exact ⟨by simp [h1],h2⟩
  ·obtain ⟨h1,h2⟩:=firstQuiet_spec h
   exact ⟨by simp [h1],h2⟩
theorem firstQuiet_none {ops:Array Oper}: ∀{rs:List Nat},firstQuiet ops rs=none→ ∀i∈rs,∀o,ops[i]? =some o→quietOp o.op=false
 | [],_,_,hi,_,_=>by simp at hi
 |j::rs,h,i,hi,o,ho=>by
  simp only [firstQuiet] at h
  split at h
  ·rename_i oj hoj
   cases hq:quietOp oj.op with
   |true=>simp [hq] at h
   |false=>
    simp only [hq,cond] at h
    rcases List.mem_cons.1 hi with rfl |hi
    ·rw [hoj] at ho;simp at ho;subst ho;exact hq
    ·exact firstQuiet_none h i hi o ho
  ·rename_i hoj
   rcases List.mem_cons.1 hi with rfl |hi
   ·rw [hoj] at ho;cases ho
   ·exact firstQuiet_none h i hi o ho
theorem foldr_mem {f:Nat→Prop}: ∀{l:List Nat},l.foldr (fun j (r:Prop)=>f j∧r) True→ ∀j∈l,f j
 | [],_,_,hj=>by simp at hj
 |x::l,h,j,hj=>by
  simp only [List.foldr] at h
  rcases List.mem_cons.1 hj with rfl |hj
  ·exact h.1
  ·exact foldr_mem h.2 j hj
theorem aany_sound {E:Env} (hE:E.OK) {ops:Array Oper} {K:AS→Prop} {Q:Exit→Act→World→Prop} {ρ0:List Root}
  (hsel: ∀(j:Nat) (o:Oper) cs b,ops[j]? =some o→o.op≠ .select cs b) (hQp: ∀c a w,¬ Q (.panic c) a w)
  (hQ: ∀st' e' a' w',K st'→ST G (ρ0++e') w' st' a'→Q .normal a' w'):
  ∀(fuel:Nat) (listed:Array Bool) (held:List (Nat × Nat)) (hs:List HP) (e:List Root) (st:AS) (a:Act) (w:World) (Fs:Nat→List Nat),aany E ops fuel listed held st K→Closed ops listed→
   TR G (ρ0++e) st.tmps a.tmps→SatHF G (ρ0++e) w st.heap Fs→a.defers=[]→HOK G w st.heap Fs held hs→wpM E.P ops Q fuel hs listed a w
 |0,listed,held,hs,e,st,a,w,Fs,h,_,hT,hH,hd,_=>by
  simp only [aany] at h
  split at h
  ·rename_i hr;exact ⟨hr,hQ st e a w h ⟨hT,⟨Fs,hH⟩,hd⟩⟩
  ·exact h.elim
 |fuel+1,listed,held,hs,e,st,a,w,Fs,h,hc,hT,hH,hd,hok=>by
  simp only [aany] at h
  cases hrs:Region.ready .any ops listed with
  |nil=>
   simp only [hrs] at h
   exact ⟨fun _=>hQ st e a w h ⟨hT,⟨Fs,hH⟩,hd⟩,fun j hj=>by rw [hrs] at hj;cases hj⟩
  |cons r0 rs0=>
   simp only [hrs] at h
   rw [←hrs] at h
   cases hfq:firstQuiet ops (Region.ready .any ops listed) with
   |some io=>
    obtain ⟨i,o⟩:=io
    simp only [hfq] at h
    obtain ⟨hir,hio,hq⟩:=firstQuiet_spec hfq
    obtain ⟨hfree,h⟩:=br_elim h
    obtain ⟨st',hk,hheap,hT'⟩:=aguard_sound h hT
    rw [←hheap] at hH hok
    cases hw:Region.wanted o (yielded ops a.tmps) with
    |true=>
     simp only [hw] at hk
     obtain ⟨e',av,H',Fs',u,hk',hr,hs',hun,hrl,hrun⟩:=quiet_sound hT' hH hq hk
     rw [AS.putK_eq] at hk'
     rw [List.append_assoc] at hr hs'
     have hTn:=TR.put (G:=G) (ρ:=ρ0++(e++e')) (ts:=st'.tmps) (a:=a) (by rw [←List.append_assoc];exact hT'.ext) o.dst av u hr H'
     have hokn:HOK G w H' Fs' held hs:=by
      intro p hp
      rcases hok p hp with h1 |⟨l,b,ob,c,h1,h2,h3,h4,h5,h6⟩
      ·exact .inl h1
      ·by_cases hl:readLab o.op st'=some l
       ·obtain ⟨⟨b',ob',g1,g2,g3⟩,g4⟩:=hrl l hl
        have hbb:b'=b:=h4 _ (g4 ob b' h2 g2)
        subst hbb
        exact .inr ⟨l,b',ob',c,h1,g1,g2,g3,h5,h6⟩
       ·obtain ⟨g1,g2⟩:=hun l ob hl h2
        exact .inr ⟨l,b,ob,c,h1,g1,by rw [g2];exact h3,by rw [g2];exact h4,h5,h6⟩
     cases hl:readLab o.op st' with
     |none=>
      simp only [hl] at hk'
      refine wpM_first (S:=WOK G) (v:=u) hio hsel (fun c a w h=>(hQp _ _ _ h).elim) fuel hs listed a w hc (Region.free_spec hio hfree) hir (.inl ⟨hw,fun w' hw'=>hrun w' hw' (fun l b h=>by rw [hl] at h;cases h)⟩) hH.wok ?_
      refine aany_sound hE hsel hQp hQ fuel _ held _ (e++e') _ _ w Fs' hk' (hc.step hir) hTn (by rw [put_heap];exact hs') (by rw [put_defers];exact hd) ?_
      rw [put_heap]
      intro p hp
      rcases List.mem_cons.1 hp with rfl |hp
      ·exact .inl rfl
      ·exact hokn p hp
     |some l=>
      simp only [hl] at hk'
      obtain ⟨⟨b',ob',g1,g2,g3⟩,g4⟩:=hrl l hl
      refine wpM_first (S:=fun w'=>WOK G w'∧w'.heap[b']? =w.heap[b']?) (v:=u) hio hsel (fun c a w h=>(hQp _ _ _ h).elim) fuel hs listed a w hc (Region.free_spec hio hfree) hir (.inl ⟨hw,fun w' hw'=>hrun w' hw'.1 (fun l' b h hb=>by
       rw [hl] at h;simp at h;subst h
       rw [g3 b hb];exact hw'.2)⟩) ⟨hH.wok,rfl⟩ ?_
      refine aany_sound hE hsel hQp hQ fuel _ ((i,l)::held) _ (e++e') _ _ w Fs' hk' (hc.step hir) hTn (by rw [put_heap];exact hs') (by rw [put_defers];exact hd) ?_
      rw [put_heap]
      intro p hp
      rcases List.mem_cons.1 hp with rfl |hp
      ·exact .inr ⟨l,b',ob',_,by simp,g1,g2,g3,rfl,rfl⟩
      ·rcases hokn p hp with h1 |⟨l2,b,ob,c,h1,h2⟩
       ·exact .inl h1
       ·exact .inr ⟨l2,b,ob,c,List.mem_cons_of_mem _ h1,h2⟩
    |false=>
     simp only [hw] at hk
     rw [AS.putK_eq] at hk
     refine wpM_first (S:=WOK G) (v:=undef) hio hsel (fun c a w h=>(hQp _ _ _ h).elim) fuel hs listed a w hc (Region.free_spec hio hfree) hir (.inr ⟨hw,rfl⟩) hH.wok ?_
     refine aany_sound hE hsel hQp hQ fuel _ held _ e _ _ w Fs hk (hc.step hir) (TR.put (ts:=st'.tmps) hT' o.dst (some (.tup [])) undef (fun y hy=>by cases hy;exact rv_undef) st'.heap) (by rw [put_heap];exact hH) (by rw [put_defers];exact hd) ?_
     rw [put_heap]
     intro p hp
     rcases List.mem_cons.1 hp with rfl |hp
     ·exact .inl rfl
     ·exact hok p hp
   |none=>
    simp only [hfq] at h
    have hall:=foldr_mem h
    refine ⟨fun h0=>(by rw [hrs] at h0;cases h0),fun j hj=>?_⟩
    have hj1:=hall j hj
    cases ho:ops[j]? with
    |none=>simp only [ho] at hj1
    |some o=>
     simp only [ho] at hj1
     obtain ⟨st',hk,hheap,hT'⟩:=aguard_sound hj1 hT
     rw [←hheap] at hH hok
     unfold wpOp
     simp only [ho]
     cases hw:Region.wanted o (yielded ops a.tmps) with
     |true=>
      simp only [hw] at hk
      simp only [if_true]
      refine .inl (eff_sound hE hT' hH (firstQuiet_none hfq j hj o ho) hk _ Q fun e' av H' T Fs' u w' hk' hr hs' hun=>?_)
      obtain ⟨hho,hk'⟩:=br_elim hk'
      rw [AS.putK_eq] at hk'
      rw [List.append_assoc] at hr hs'
      obtain ⟨ho1,ho2⟩:=hok.unt j hun hho hs'.wok
      refine ⟨ho2,aany_sound hE hsel hQp hQ fuel _ _ _ (e++e') _ _ w' Fs' hk' (hc.step hj) ?_ (by rw [put_heap];exact hs') (by rw [put_defers];exact hd) (by rw [put_heap];exact ho1)⟩
      exact TR.put (G:=G) (ρ:=ρ0++(e++e')) (ts:=st'.tmps) (a:=a) (by rw [←List.append_assoc];exact hT'.ext) o.dst av u hr H'
     |false=>
      simp only [hw] at hk
      rw [if_neg Bool.false_ne_true]
      rw [AS.putK_eq] at hk
      exact ⟨fun p _ h=>h,aany_sound hE hsel hQp hQ fuel _ _ _ e _ _ w Fs hk (hc.step hj) (TR.put (ts:=st'.tmps) hT' o.dst (some (.tup [])) undef (fun y hy=>by cases hy;exact rv_undef) st'.heap) (by rw [put_heap];exact hH) (by rw [put_defers];exact hd) (by rw [put_heap];exact hok.same j)⟩
theorem aregion_sound {E:Env} (hE:E.OK) {id:Nat} {ops:Array Oper} {draw:Bool} {K:AS→Prop} {Q:Exit→Act→World→Prop} {ρ0:List Root} {e:List Root} {st:AS} {a:Act} {w:World}
  (h:aregion E ops draw st K) (hs:ST G (ρ0++e) w st a) (hQ: ∀st' e' a' w',K st'→ST G (ρ0++e') w' st' a'→Q .normal a' w'):(Code.region id ops draw).wp E.P Q a w:=by
 cases draw with
 |false=>
  simp only [aregion] at h
  exact wp_region (aseq_sound hE _ e st a w h hs hQ)
 |true=>
  replace h:=aregion_any h
  obtain ⟨hb,h⟩:=br_elim h
  simp only [Bool.and_eq_true] at hb
  obtain ⟨Fs,hH⟩:=hs.sat
  let Q':Exit→Act→World→Prop:=fun x a w=>match x with | .normal=>Q .normal a w |_=>False
  have hQ': ∀x a w,Q' x a w→Q x a w:=fun x a w h=>by
   cases x<;>first |exact h |exact h.elim
  refine Code.wp_mono hQ' (wp_region_any hb.1 (wpM.any _ [] _ _ _ (aany_sound (G:=G) (Q:=Q') hE (Region.noSelect_spec hb.2) (fun _ _ _ h=>h) hQ _ _ [] [] e st a w.drew Fs h ?_ hs.tr hH.drew hs.df (fun p hp=>by cases hp))))
  intro k o hk hl
  simp [Array.getElem?_replicate] at hl
  split at hl<;>simp at hl
end Go.Ax
namespace Go.Ax
structure Took (H H':AHeap) (Fs:Nat→List Nat) (F:List Nat):Prop where
 len:H'.length=H.length
 sub: ∀(l:Nat) (o:AObj),H'[l]? =some (some o)→H[l]? =some (some o)
 out: ∀b,b∈F→ ∃(l:Nat) (o:AObj),H[l]? =some (some o)∧b∈Fs l∧H'[l]? =some none
theorem Took.refl (H:AHeap) (Fs:Nat→List Nat):Took H H Fs []:=⟨rfl,fun _ _ h=>h,fun b hb=>by cases hb⟩
theorem Took.none_mono {H H':AHeap} {Fs:Nat→List Nat} {F:List Nat} (h:Took H H' Fs F) {l:Nat} (hl:H[l]? =some none):H'[l]? =some none:=by
 have hlt:=(List.getElem?_eq_some_iff.1 hl).1
 have hlt':l<H'.length:=by rw [h.len];exact hlt
 cases hh:H'[l] with
 |none=>rw [List.getElem?_eq_getElem hlt',hh]
 |some o=>
  have:=h.sub l o (by rw [List.getElem?_eq_getElem hlt',hh])
  rw [hl] at this;cases this
theorem Took.trans {H1 H2 H3:AHeap} {Fs:Nat→List Nat} {F1 F2:List Nat} (h1:Took H1 H2 Fs F1) (h2:Took H2 H3 Fs F2):Took H1 H3 Fs (F1++F2):=by
 refine ⟨h2.len.trans h1.len,fun l o h=>h1.sub l o (h2.sub l o h),fun b hb=>?_⟩
 rcases List.mem_append.1 hb with hb |hb
 ·obtain ⟨l,o,g1,g2,g3⟩:=h1.out b hb
  exact ⟨l,o,g1,g2,h2.none_mono g3⟩
 ·obtain ⟨l,o,g1,g2,g3⟩:=h2.out b hb
  exact ⟨l,o,h1.sub l o g1,g2,g3⟩
variable [Surr]
theorem Took.apart {G:Gam} {ρ:List Root} {w:World} {H1 H2 H3:AHeap} {Fs:Nat→List Nat} {F1 F2:List Nat} (hs:SatHF G ρ w H1 Fs) (h1:Took H1 H2 Fs F1) (h2:Took H2 H3 Fs F2): ∀b,b∈F1→b∉F2:=by
 intro b hb1 hb2
 obtain ⟨l,o,g1,g2,g3⟩:=h1.out b hb1
 obtain ⟨l',o',k1,k2,k3⟩:=h2.out b hb2
 have:=hs.apart l o l' o' b g1 (h1.sub _ _ k1) g2 k2
 subst this
 rw [g3] at k1;cases k1
theorem SatHF.fewer {G:Gam} {ρ:List Root} {w:World} {H H':AHeap} {Fs:Nat→List Nat} {F:List Nat} (hs:SatHF G ρ w H Fs) (h:Took H H' Fs F):SatHF G ρ w H' Fs:=
 ⟨h.len.trans hs.len,fun l o hl=>hs.sat l o (h.sub l o hl),fun l o l' o' b h1 h2=>hs.apart l o l' o' b (h.sub l o h1) (h.sub l' o' h2),fun l o b hl=>hs.free l o b (h.sub l o hl),hs.wok⟩
theorem Took.one {H:AHeap} {Fs:Nat→List Nat} {l:Nat} {o:AObj} (h:H[l]? =some (some o)):Took H (H.set l none) Fs (Fs l):=by
 have hlt:=(List.getElem?_eq_some_iff.1 h).1
 refine ⟨by simp,fun l' o' hl'=>?_,fun b hb=>⟨l,o,h,hb,by rw [List.getElem?_set_self hlt]⟩⟩
 by_cases hne:l=l'
 ·subst hne
  rw [List.getElem?_set_self hlt] at hl';cases hl'
 ·rwa [List.getElem?_set_ne hne] at hl'
section
variable {G:Gam} {ρ:List Root} {w:World}
def TakeOK (G:Gam) (ρ:List Root) (w:World) (rec:(k:OK)→Nat→AHeap→(k.T→AHeap→Prop)→Prop):Prop:=
 ∀(k:OK) (l:Nat) (H:AHeap) (Fs:Nat→List Nat) (K:k.T→AHeap→Prop),SatHF G ρ w H Fs→rec k l H K→
  ∃d H' F r,K d H'∧ρ[l]? =some r∧Sat G ρ w (.obj k d) r F∧Took H H' Fs F
theorem sat_root {k:OK} {d:k.T} {r r':Root} {F:List Nat} (h:Sat G ρ w (.obj k d) r F) (hb:r'.blk=r.blk) (ho:r'.off=r.off):Sat G ρ w (.obj k d) r' F:=by
 cases h with
 | @obj _ _ _ b c ty F hb' hw hf hn=>exact .obj (hb.trans hb') hw (by rw [ho];exact hf) hn
theorem ptr0 {r:Ref} {t:Root} {u:Value} (h:RV G ρ (.ptr r) u) (hb:(Nat.beq r.idx 0&&Nat.beq r.off 0)=true) (ht:ρ[r.lab]? =some t): ∃b,t.blk=some b∧u= .pointer (some ⟨b,t.off,none⟩):=by
 simp only [Bool.and_eq_true] at hb
 simp only [RV] at h
 obtain ⟨t',b,h1,h2,rfl⟩:=h
 rw [ht] at h1;cases h1
 refine ⟨b,h2,?_⟩
 rw [Nat.eq_of_beq_eq_true hb.1,Nat.eq_of_beq_eq_true hb.2]
 simp
theorem sat_part {k:EK} {xs:List k.T} {r:Root} {F:List Nat} (h:Sat G ρ w (.row k xs) r F) (base n:Nat) (hle:base+n≤xs.length):
  Sat G ρ w (.row k ((xs.drop base).take n)) ⟨r.blk,r.off+base*k.esz,r.tot-base⟩ F:=by
 cases h with
 | @row _ _ sp _ b c ty fz hb hw ht hc hx hz=>
  have heq:(xs.drop base).take n++(xs++sp).drop (base+n)=(xs++sp).drop base:=by
   rw [←List.drop_drop,List.drop_append_of_le_length (by omega:base≤xs.length)]
   rw [←List.take_append_of_le_length (l₂:=sp) (by simp;omega:n≤(xs.drop base).length)]
   exact List.take_append_drop n _
  refine .row (sp:=(xs++sp).drop (base+n)) hb hw (by simp;omega) ?_ ?_ hz
  ·show r.off+base*k.esz+(r.tot-base)*k.esz≤c.size
   have:base*k.esz+(r.tot-base)*k.esz=r.tot*k.esz:=by rw [←Nat.add_mul];congr 1;omega
   omega
  ·intro i x hi j y hj
   rw [heq,List.getElem?_drop] at hi
   obtain ⟨u,hu,hr⟩:=hx _ x hi j y hj
   refine ⟨u,?_,hr⟩
   show c[r.off+base*k.esz+i*k.esz+j]? =some u
   rw [←hu];congr 1
   rw [Nat.add_mul];omega
 |rownil hb ht=>
  simp at hle
  obtain ⟨rfl,rfl⟩:=hle
  exact .rownil hb (by simp [ht])
theorem slAt_of {lab esz base n:Nat} {u:Value} {r:Root} (h:RV G ρ (.sl lab esz base n) u) (hr:ρ[lab]? =some r):slAt ⟨r.blk,r.off+base*esz,r.tot-base⟩ n u:=by
 simp only [RV] at h
 obtain ⟨t,h1,h2,h3⟩:=h
 rw [hr] at h1;cases h1
 refine ⟨by show n≤r.tot-base;omega,?_⟩
 rcases h3 with ⟨b,h4,h5⟩ |⟨h4,h5,h6⟩
 ·exact .inl ⟨b,h4,h5⟩
 ·exact .inr ⟨h4,by show r.tot-base=0;omega,h6⟩
theorem takeF_sound {rec:(k:OK)→Nat→AHeap→(k.T→AHeap→Prop)→Prop} (hrec:TakeOK G ρ w rec) {c:Array Value}:
  ∀(ss:List Shp) (cs:List AV) (o:Nat) (H:AHeap) (Fs:Nat→List Nat) (K:List Fld→AHeap→Prop),SatHF G ρ w H Fs→(∀(j:Nat) (x:AV),cs[j]? =some x→ ∃u,c[o+j]? =some u∧RV G ρ x u)→takeF rec ss cs H K→
   ∃fs H' F,K fs H'∧SatF G ρ w fs c o F∧Took H H' Fs F
 | [],[],o,H,Fs,K,hs,hc,h=>⟨[],H,[],h,.nil,.refl H Fs⟩
 | [],_::_,o,H,Fs,K,hs,hc,h=>by simp [takeF] at h
 |s::_,[],o,H,Fs,K,hs,hc,h=>by cases s<;>simp [takeF] at h
 |s::ss,x::cs,o,H,Fs,K,hs,hc,h=>by
  obtain ⟨u,hu,hr⟩:=hc 0 x (by simp)
  have hc': ∀(j:Nat) (x:AV),cs[j]? =some x→ ∃u,c[o+1+j]? =some u∧RV G ρ x u:=fun j y hj=>by
   have:=hc (j+1) y (by simpa using hj)
   rwa [show o+(j+1)=o+1+j by omega] at this
  have hu':c[o]? =some u:=by simpa using hu
  cases s with
  |av=>
   simp only [takeF] at h
   obtain ⟨hf,h⟩:=br_elim h
   obtain ⟨fs,H',F,h1,h2,h3⟩:=takeF_sound hrec ss cs (o+1) H Fs _ hs hc' h
   refine ⟨_,H',F,h1,.av hu' ?_ h2,h3⟩
   cases hfl:x.flat with
   |true=>exact .inl (flat_rv1 hfl hr)
   |false=>
    rw [hfl] at hf
    cases x<;>simp [isNil] at hf
    simp only [RV] at hr
    exact .inr ⟨rfl,hr⟩
  |own k=>
   simp only [takeF] at h
   split at h
   ·rename_i r
    obtain ⟨hf,h⟩:=br_elim h
    obtain ⟨d,H1,F1,t,h1,h2,h3,h4⟩:=hrec k r.lab H Fs _ hs h
    obtain ⟨fs,H',F,g1,g2,g3⟩:=takeF_sound hrec ss cs (o+1) H1 Fs _ (hs.fewer h4) hc' h1
    obtain ⟨b,hb,rfl⟩:=ptr0 hr hf h2
    exact ⟨_,H',_,g1,.own hu' (sat_root h3 hb.symm rfl) g2 (Took.apart hs h4 g3),h4.trans g3⟩
   ·exact h.elim
  |opt k=>
   simp only [takeF] at h
   split at h
   ·rename_i r
    obtain ⟨hf,h⟩:=br_elim h
    obtain ⟨d,H1,F1,t,h1,h2,h3,h4⟩:=hrec k r.lab H Fs _ hs h
    obtain ⟨fs,H',F,g1,g2,g3⟩:=takeF_sound hrec ss cs (o+1) H1 Fs _ (hs.fewer h4) hc' h1
    obtain ⟨b,hb,rfl⟩:=ptr0 hr hf h2
    exact ⟨_,H',_,g1,.own hu' (sat_root h3 hb.symm rfl) g2 (Took.apart hs h4 g3),h4.trans g3⟩
   ·obtain ⟨fs,H',F,h1,h2,h3⟩:=takeF_sound hrec ss cs (o+1) H Fs _ hs hc' h
    simp only [RV] at hr
    exact ⟨_,H',F,h1,.av hu' (.inr ⟨rfl,hr⟩) h2,h3⟩
   ·exact h.elim
  |ownr k=>
   simp only [takeF] at h
   split at h
   ·rename_i lab esz base n
    split at h
    ·rename_i k' xs hl
     obtain ⟨hf,h⟩:=br_elim h
     split at h
     ·rename_i hk
      subst hk
      obtain ⟨hle,h⟩:=h
      rw [forceL_eq] at h
      have h4:=Took.one (Fs:=Fs) hl
      obtain ⟨fs,H',F,g1,g2,g3⟩:=takeF_sound hrec ss cs (o+1) _ Fs _ (hs.fewer h4) hc' h
      obtain ⟨t,ht,hsat⟩:=hs.sat _ _ hl
      have he:=Nat.eq_of_beq_eq_true hf
      subst he
      refine ⟨_,H',_,g1,.ownr hu' ?_ (sat_part hsat base n hle) g2 (Took.apart hs h4 g3),h4.trans g3⟩
      have:=slAt_of hr ht
      simpa [castR,show min n (xs.length-base)=n by omega] using this
     ·exact h.elim
    ·exact h.elim
   ·obtain ⟨fs,H',F,h1,h2,h3⟩:=takeF_sound hrec ss cs (o+1) H Fs _ hs hc' h
    simp only [RV] at hr
    subst hr
    refine ⟨_,H',[]++F,h1,.ownr (r:=⟨none,0,0⟩) hu' ⟨Nat.le_refl _,.inr ⟨rfl,rfl,_,rfl⟩⟩ (.rownil rfl rfl) h2 (fun b hb=>by cases hb),by simpa using h3⟩
   ·exact h.elim
theorem takeO_sound: ∀n,TakeOK G ρ w (takeO n)
 |0=>fun k l H Fs K hs h=>by simp only [takeO] at h
 |n+1=>fun k l H Fs K hs h=>by
  simp only [takeO] at h
  split at h
  ·rename_i k' d hl
   split at h
   ·rename_i hk
    subst hk
    rw [forceL_eq] at h
    obtain ⟨r,hr,hsat⟩:=hs.sat _ _ hl
    exact ⟨d,_,_,r,h,hr,hsat,.one hl⟩
   ·exact h.elim
  ·rename_i cs hl
   rw [forceL_eq] at h
   obtain ⟨r,hr,hsat⟩:=hs.sat _ _ hl
   have h4:=Took.one (Fs:=Fs) hl
   generalize hF:Fs l=F0 at hsat h4
   cases hsat with
   | @raw _ _ b c ty hb hw hx=>
    obtain ⟨fs,H',F,h1,h2,h3⟩:=takeF_sound (takeO_sound n) k.shape cs r.off _ Fs _ (hs.fewer h4) hx h
    split at h1
    ·rename_i d hd
     refine ⟨d,H',b::F,r,h1,hr,.obj hb hw (by rw [fold_unf hd];exact h2) (Took.apart hs h4 h3 b (by simp)),h4.trans h3⟩
    ·exact h1.elim
  ·exact h.elim
theorem takeO_lab: ∀(n:Nat) (k:OK) (l:Nat) (H:AHeap) (Fs:Nat→List Nat) (K:k.T→AHeap→Prop),SatHF G ρ w H Fs→takeO n k l H K→
  ∃d H' F r,K d H'∧ρ[l]? =some r∧Sat G ρ w (.obj k d) r F∧Took H H' Fs F∧H'[l]? =some none∧ ∃o,H[l]? =some (some o)
 |0,k,l,H,Fs,K,hs,h=>by simp only [takeO] at h
 |n+1,k,l,H,Fs,K,hs,h=>by
  simp only [takeO] at h
  split at h
  ·rename_i k' d hl
   split at h
   ·rename_i hk
    subst hk
    rw [forceL_eq] at h
    obtain ⟨r,hr,hsat⟩:=hs.sat _ _ hl
    exact ⟨d,_,_,r,h,hr,hsat,.one hl,by rw [List.getElem?_set_self (List.getElem?_eq_some_iff.1 hl).1],_,hl⟩
   ·exact h.elim
  ·rename_i cs hl
   rw [forceL_eq] at h
   obtain ⟨r,hr,hsat⟩:=hs.sat _ _ hl
   have h4:=Took.one (Fs:=Fs) hl
   have hnone:(H.set l none)[l]? =some none:=by rw [List.getElem?_set_self (List.getElem?_eq_some_iff.1 hl).1]
   generalize hF:Fs l=F0 at hsat h4
   cases hsat with
   | @raw _ _ b c ty hb hw hx=>
    obtain ⟨fs,H',F,h1,h2,h3⟩:=takeF_sound (takeO_sound n) k.shape cs r.off _ Fs _ (hs.fewer h4) hx h
    split at h1
    ·rename_i d hd
     exact ⟨d,H',b::F,r,h1,hr,.obj hb hw (by rw [fold_unf hd];exact h2) (Took.apart hs h4 h3 b (by simp)),h4.trans h3,h3.none_mono hnone,_,hl⟩
    ·exact h1.elim
  ·exact h.elim
end
end Go.Ax
