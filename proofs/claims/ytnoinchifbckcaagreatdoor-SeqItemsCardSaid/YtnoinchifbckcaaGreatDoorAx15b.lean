import Derived.Test.YtnoinchifbckcaaGreatDoorAx14
import Derived.Lib.AppendZerosOnto
import Derived.Deep.Upon
import Derived.Carry
import Derived.MapKept
set_option linter.all false
namespace Go.Ax
variable [Surr] {G:Gam} {ρ:List Root} {w:World}
theorem news_len {P:Program} {size:Nat} {tx:TypeId} {v:Value} {n:Nat} {news:List Value} (h:Src P size tx v n news w):news.length=n*size:=h.newsLen
section
variable {E:Env} {st:AS} {a:Act} {Fs:Nat→List Nat} {k:KT} (dst:Option Tmp) (ty:TypeId) (pos:String) (af:Array Edge) (gd:Option (Nat × Bool))
variable (hT:TR G ρ st.tmps a.tmps) (hH:SatHF G ρ w st.heap Fs)
include hT hH
omit hT hH in
theorem spare_zero {ek:EK} {z:List AV} {x0:ek.T} (hz:ek.dec z=some x0) {zv:Array Value} (hr:RVs G ρ z zv.toList) (hzl:z.length=ek.esz) (m cnt:Nat) {pre:Array Value} (hp:pre.size=m*ek.esz):
    ∀i,i<cnt→ ∀(j:Nat) (y:AV),(ek.enc x0)[j]? =some y→ ∃u,(pre++Builtin.zeroCells zv cnt)[(m+i)*ek.esz+j]? =some u∧RV1 G y u:=by
  intro i hi j y hj
  have hfl:=List.all_eq_true.1 (enc_flat ek x0) y (List.mem_of_getElem? hj)
  rw [enc_dec ek z x0 hz] at hj
  obtain ⟨v,hv,hrv⟩:=hr.get hj
  have hjl:j<ek.esz:=by
    have:=(List.getElem?_eq_some_iff.1 hj).1
    omega
  have hzs:zv.size=ek.esz:=by
    have:=hr.len
    simp at this;omega
  refine ⟨v,?_,flat_rv1 hfl hrv⟩
  have h1:(i+1)*ek.esz≤cnt*ek.esz:=Nat.mul_le_mul_right _ hi
  rw [Nat.add_mul] at h1
  rw [Array.getElem?_append_right (by rw [hp,Nat.add_mul];omega),hp,Nat.add_mul]
  rw [show m*ek.esz+i*ek.esz+j-m*ek.esz=i*ek.esz+j by omega]
  unfold Builtin.zeroCells
  rw [hzs]
  have hlt:i*ek.esz+j<cnt*ek.esz:=by omega
  have hmod:(i*ek.esz+j)%ek.esz=j:=by
    rw [Nat.add_comm,Nat.add_mul_mod_self_right,Nat.mod_eq_of_lt hjl]
  simp [hlt,hmod]
  simp at hv
  rw [getElem!_def,hv]
omit hT hH in
theorem capOf_rv {lab:Nat}: ∀{ts:List (Option AV)} {base:Nat} {c:Int},(∀(s:Nat) (x:AV),ts[s]? =some (some x)→ ∃v,RV G ρ x v)→capOf lab ts=some (base,c)→ ∃t,ρ[lab]? =some t∧((t.tot-base:Nat):Int)=c
  | [],base,c,_,h=>by simp [capOf] at h
  |none::r,base,c,hs,h=>by
    simp only [capOf] at h
    exact capOf_rv (fun s x hx=>hs (s+1) x (by simpa using hx)) h
  |some x::r,base,c,hs,h=>by
    have hr:capOf lab r=some (base,c)→ ∃t,ρ[lab]? =some t∧((t.tot-base:Nat):Int)=c:=fun h=>capOf_rv (fun s x hx=>hs (s+1) x (by simpa using hx)) h
    cases x<;>simp only [capOf] at h<;>first |exact hr h |skip
    rename_i l b c'
    split at h
    · rename_i hb
      cases h
      have e1:=Nat.eq_of_beq_eq_true hb
      subst e1
      obtain ⟨v,hv⟩:=hs 0 _ rfl
      simp only [RV] at hv
      exact hv.2
    · exact hr h
theorem e_appz (xs:Array Operand) (ts:Array TypeId) {lab es base n:Nat} {ki:IntKind} {m:Int} (hv:evals st xs.toList=some [.sl lab es base n,.int ki m]) (h:appz E ts lab es base n m st.tmps st.heap fun v H T=>k (some v) H T):
    ERes E G ρ w st a ⟨dst,.call ⟨.builtin .append,xs,ts⟩,ty,pos,af,gd⟩ Fs k:=by
  intro next Q hn
  have hr:=evals_rv hT hv
  simp only [RVs] at hr
  obtain ⟨sv,ws,hxs,hs,xv,ws2,rfl,hx,rfl⟩:=hr
  have hxs':xs.map a.eval= #[sv,xv]:=by
    apply Array.ext';simpa using hxs
  simp only [RV] at hx
  subst hx
  unfold appz at h
  split at h
  · rename_i t tx hts
    have hts':ts= #[t,tx]:=by apply Array.ext';simpa using hts
    split at h
    · rename_i e kn hu hux
      split at h
      · rename_i ek z ie b0 c0 e2 rs hek hz hie hcap hl
        split at h
        · rename_i he2
          subst he2
          split at h
          · rename_i x0 hx0
            obtain ⟨hb,⟨hb0,hle,hn0,hm0,hsm,hc0⟩,hk⟩:=br_elim h
            have hb0:=hb0.symm
            subst hb0
            rw [forceL_eq] at hk
            simp only [Bool.and_eq_true] at hb
            have he:=Nat.eq_of_beq_eq_true hb.1.1.1
            have hzl:=Nat.eq_of_beq_eq_true hb.1.1.2
            have hby:=Nat.le_of_ble_eq_true hb.1.2
            have hes:=Nat.eq_of_beq_eq_true hb.2
            obtain ⟨m,rfl⟩:=Int.eq_ofNat_of_zero_le (show 0≤m by omega)
            simp only [Int.toNat_natCast] at hk
            have hsz:ie.size=e2.esz:=by rw [←he];simp [Program.cellsOf,hie]
            obtain ⟨iz,zv,hiz,hzv,hzr⟩:=zero_rv (G:=G) (ρ:=ρ) hz
            rw [hie] at hiz;cases hiz
            have hzc:=hzr.len
            simp at hzc
            obtain ⟨tc,htc,hcc⟩:=capOf_rv (G:=G) (ρ:=ρ) (fun s x hx=>let ⟨v,_,hr⟩:=hT.2 s x hx;⟨v,hr⟩) hcap
            have hsv:=hs
            simp only [RV] at hsv
            obtain ⟨tt,htt,htot,hsv⟩:=hsv
            have e0:tt=tc:=by rw [htt] at htc;cases htc;rfl
            subst e0
            have hlt:tt.tot-base<n+m:=by omega
            have hll:((rs.drop base).take n).length=n:=by simp;omega
            rcases hsv with ⟨b,hbk,hsv⟩ |⟨hn0',_⟩
            · obtain ⟨t',ht',hsat⟩:=hH.sat _ _ hl
              rw [htt] at ht';cases ht'
              generalize hF:Fs lab=F at hsat
              cases hsat with
              |rownil hb' _=>rw [hbk] at hb';cases hb'
              | @row _ _ sp _ b' c ty' hb' hw h2 h3 hc=>
                rw [hbk] at hb';cases hb'
                rw [hes] at hsv
                have hold: ∀(i:Nat) (y:e2.T),((rs.drop base).take n)[i]? =some y→ ∀(j:Nat) (z:AV),(e2.enc y)[j]? =some z→ ∃u,c[tt.off+base*e2.esz+(i*e2.esz+j)]? =some u∧RV1 G z u:=fun i y hi j z hj=>by
                  have hin:i<n:=by
                    have:=(List.getElem?_eq_some_iff.1 hi).1
                    omega
                  rw [List.getElem?_take_of_lt hin,List.getElem?_drop] at hi
                  obtain ⟨u,hu',hru⟩:=hc _ y (getElem?_ext hi) j z hj
                  refine ⟨u,?_,hru⟩
                  rw [←hu'];congr 1
                  rw [Nat.add_mul];omega
                have hcell: ∀m,m<n*e2.esz→ ∃u,c[tt.off+base*e2.esz+m]? =some u∧u.oneCell'=true:=by
                  intro m hm
                  have hpos:=e2.esz_pos
                  have hi:m/e2.esz<n:=(Nat.div_lt_iff_lt_mul hpos).2 hm
                  have hj:m%e2.esz<e2.esz:=Nat.mod_lt _ hpos
                  have hi':m/e2.esz<((rs.drop base).take n).length:=by omega
                  have hlen:=e2.enc_len ((rs.drop base).take n)[m/e2.esz]
                  obtain ⟨u,hu',hru⟩:=hold _ _ (List.getElem?_eq_getElem hi') (m%e2.esz) _ (List.getElem?_eq_getElem (by omega))
                  have hdm:m/e2.esz*e2.esz+m%e2.esz=m:=by
                    rw [Nat.mul_comm];exact Nat.div_add_mod m e2.esz
                  rw [hdm] at hu'
                  have hfl:=List.all_eq_true.1 (enc_flat e2 ((rs.drop base).take n)[m/e2.esz]) _ (List.getElem_mem (h:=(by omega:m%e2.esz<_)))
                  refine ⟨u,hu',one_of (G:=G) (ρ:=ρ) hru.rv ?_⟩
                  revert hfl
                  generalize (e2.enc ((rs.drop base).take n)[m/e2.esz])[m%e2.esz]=q
                  intro hfl
                  cases q<;>simp [AV.flat] at hfl<;>rfl
                let f:Nat→Value:=fun m=>(c[tt.off+base*e2.esz+m]?).getD undef
                have hfirst:(Builtin.firstCells ie.size n (.slice (some ⟨b,tt.off+base*e2.esz,none⟩) n (tt.tot-base))).run E.P w.drew= .ok ((List.range (n*e2.esz)).map f).toArray w.drew:=by
                  refine run_firstCells_some w.drew ie.size n ⟨b,tt.off+base*e2.esz,none⟩ n (tt.tot-base) _ (by simp [hsz]) (fun j u hj=>?_)
                  have hjl:j<n*e2.esz:=by
                    have:=(List.getElem?_eq_some_iff.1 hj).1
                    simpa using this
                  obtain ⟨u',hu',_⟩:=hcell j hjl
                  simp [hjl,f] at hj
                  rw [addr_add]
                  have:w.drew.cell? ⟨b,tt.off+base*e2.esz+j,none⟩=w.cell? ⟨b,tt.off+base*e2.esz+j,none⟩:=rfl
                  rw [this]
                  simp only [World.cell?,hw,Option.isSome_none,Bool.false_eq_true,if_false]
                  rw [←hj,hu'];rfl
                have hol:((List.range (n*e2.esz)).map f).length=n*e2.esz:=by simp
                have holds: ∀(i:Nat) (y:e2.T),((rs.drop base).take n)[i]? =some y→ ∀(j:Nat) (z:AV),(e2.enc y)[j]? =some z→ ∃u,((List.range (n*e2.esz)).map f)[i*e2.esz+j]? =some u∧RV1 G z u:=by
                  intro i y hi j z hj
                  obtain ⟨u,hu',hru⟩:=hold i y hi j z hj
                  refine ⟨u,?_,hru⟩
                  have hil:i<n:=by
                    have:=(List.getElem?_eq_some_iff.1 hi).1
                    omega
                  have hjl:j<e2.esz:=by
                    have:=(List.getElem?_eq_some_iff.1 hj).1
                    rw [e2.enc_len] at this;exact this
                  have:(i+1)*e2.esz≤n*e2.esz:=Nat.mul_le_mul_right _ hil
                  rw [Nat.add_mul] at this
                  have hlt2:i*e2.esz+j<n*e2.esz:=by omega
                  simp [hlt2,f,hu']
                have hrun:=Lib.run_append_grow_zeros (P:=E.P) w t tx ty e ie zv ki kn hu hux hie hzv _ n (tt.tot-base) _ hfirst m (by omega) (by rw [hsz];exact e2.esz_pos) hlt (by omega)
                  (by
                    have:m*ie.bytes≤68719476736*1024:=Nat.mul_le_mul (by omega) hby
                    omega)
                  (growslice_fits hlt (by
                    have:(n+m)*ie.bytes≤68719476736*1024:=Nat.mul_le_mul (by omega) hby
                    omega))
                rw [←hsv] at hrun
                have hexec: ∀r,(Builtin.append_ #[t,tx] ty #[sv,.int ki m]).run E.P w=r→(execOp a.eval ⟨dst,.call ⟨.builtin .append,xs,ts⟩,ty,pos,af,gd⟩).run E.P w=r.andThen fun v w'=> .ok (.value v) w':=by
                  intro r hr
                  rw [run_resolve_builtin,hxs',hts',←hr]
                  simp [builtin]
                have hx:=hexec _ hrun
                simp only [Result.andThen_ok] at hx
                unfold Oper.wp
                rw [hx,Oper.upon_value]
                have hcap:n+m≤grownCap w (n+m) (tt.tot-base) e:=by
                  unfold grownCap Question.cut
                  exact Nat.le_add_right _ _
                generalize grownCap w (n+m) (tt.tot-base) e=gc at hcap ⊢
                have hpush:=row_push (H:=st.heap) (Fs:=Fs) (w:=w.drew) hH.drew e2 ((rs.drop base).take n++List.replicate m x0) (c:=(((List.range (n*e2.esz)).map f).toArray++Builtin.zeroCells zv.cells m)++Builtin.zeroCells zv.cells (gc-(n+m))) e gc (List.replicate (gc-(n+m)) x0)
                  (by simp;omega) (by
                    simp [Builtin.zeroCells,hzc,hzl]
                    have:gc*e2.esz=n*e2.esz+m*e2.esz+(gc-(n+m))*e2.esz:=by
                      rw [←Nat.add_mul,←Nat.add_mul];congr 1;omega
                    omega) (fun i y hi j q hj=>by
                    have hjl:j<e2.esz:=by
                      have:=(List.getElem?_eq_some_iff.1 hj).1
                      rw [e2.enc_len] at this;exact this
                    have hsz1:(((List.range (n*e2.esz)).map f).toArray).size=n*e2.esz:=by simp
                    have hsz2:(((List.range (n*e2.esz)).map f).toArray++Builtin.zeroCells zv.cells m).size=(n+m)*e2.esz:=by
                      simp [Builtin.zeroCells,hzc,hzl,Nat.add_mul]
                    by_cases hsp:i<n+m
                    case neg=>
                      rw [List.getElem?_append_right (by simp;omega),List.getElem?_replicate] at hi
                      have hls2:((rs.drop base).take n++List.replicate m x0).length=n+m:=by rw [List.length_append,hll];simp
                      rw [hls2] at hi
                      split at hi
                      · rename_i hlt3
                        simp at hi;subst hi
                        obtain ⟨u,hu',hru⟩:=spare_zero (G:=G) (ρ:=ρ) hx0 hzr hzl (n+m) (gc-(n+m)) hsz2 (i-(n+m)) (by omega) j q hj
                        refine ⟨u,?_,hru⟩
                        rw [←hu'];congr 2;congr 1;omega
                      · cases hi
                    rw [List.getElem?_append_left (by simp;omega)] at hi
                    have hm1:(i+1)*e2.esz≤(n+m)*e2.esz:=Nat.mul_le_mul_right _ hsp
                    rw [Nat.add_mul] at hm1
                    rw [Array.getElem?_append_left (by rw [hsz2];omega)]
                    by_cases hin:i<n
                    · rw [List.getElem?_append_left (by omega)] at hi
                      obtain ⟨u,hu',hru⟩:=holds i y hi j q hj
                      refine ⟨u,?_,hru⟩
                      have hlt2:i*e2.esz+j<((List.range (n*e2.esz)).map f).length:=(List.getElem?_eq_some_iff.1 hu').1
                      rw [Array.getElem?_append_left (by simpa using hlt2)]
                      simpa using hu'
                    · rw [List.getElem?_append_right (by omega),hll,List.getElem?_replicate] at hi
                      split at hi
                      · simp at hi;subst hi
                        obtain ⟨u,hu',hru⟩:=spare_zero (G:=G) (ρ:=ρ) hx0 hzr hzl n m hsz1 (i-n) (by omega) j q hj
                        refine ⟨u,?_,hru⟩
                        rw [←hu'];congr 2;congr 1;omega
                      · cases hi)
                obtain ⟨Fs',g1,g2⟩:=hpush
                have hsd:w.drew.heap.size=w.heap.size:=rfl
                refine hn [⟨some w.heap.size,0,gc⟩] _ _ [] Fs' _ _ hk (fun q hq=>?_) (by simpa [hsd] using g1) (fun l ob hl hTl=>?_)
                · simp at hq;subst hq
                  exact rv_row (G:=G) (ρ:=ρ) (H:=st.heap) hH.len (b:=w.heap.size) (tot:=gc) (esz:=e2.esz) (n:=n+m) hcap (fun _=> .inr trivial)
                · obtain ⟨b1,b2,b3⟩:=g2 l ob hl (by simp)
                  exact ⟨b1,b2,fun b hb=>b3 b hb⟩
            · omega
          · exact h.elim
        · exact h.elim
      · exact h.elim
    · exact h.elim
  · exact h.elim
theorem e_append (xs:Array Operand) (ts:Array TypeId) (h:aop E ⟨dst,.call ⟨.builtin .append,xs,ts⟩,ty,pos,af,gd⟩ st k):ERes E G ρ w st a ⟨dst,.call ⟨.builtin .append,xs,ts⟩,ty,pos,af,gd⟩ Fs k:=by
  intro next Q hn
  simp only [aop] at h
  cases hv:evals st xs.toList with
  |none=>simp [hv] at h
  |some vs=>
    simp only [hv] at h
    by_cases hz: ∃lab es base n ki m,vs=[.sl lab es base n,.int ki m]
    · obtain ⟨lab,es,base,n,ki,m,rfl⟩:=hz
      exact e_appz dst ty pos af gd hT hH xs ts hv h next Q hn
    replace h:abuiltin E .append ts vs st.heap (fun v H T=>k (some v) H T):=by
      rcases vs with _ |⟨s,_ |⟨x,_ |⟨y,r⟩⟩⟩
      · exact h
      · cases s<;>exact h
      · cases s<;>first |exact h |(cases x<;>first |exact h |exact absurd ⟨_,_,_,_,_,_,rfl⟩ hz)
      · cases s<;>first |exact h |(cases x<;>exact h)
    have hr:=evals_rv hT hv
    obtain ⟨s,x,rfl⟩: ∃s x,vs=[s,x]:=by
      unfold abuiltin at h
      rcases vs with _ |⟨s,_ |⟨x,_ |⟨y,r⟩⟩⟩<;>first |exact ⟨_,_,rfl⟩ |exact h.elim
    simp only [abuiltin] at h
    ·
      simp only [RVs] at hr
      obtain ⟨sv,ws,hxs,hs,xv,ws2,rfl,hx,rfl⟩:=hr
      have hxs':xs.map a.eval= #[sv,xv]:=by
        apply Array.ext';simpa using hxs
      split at h
      · rename_i t tx hts
        have hts':ts= #[t,tx]:=by apply Array.ext';simpa using hts
        split at h
        · rename_i e e' hu hux
          split at h
          · rename_i ek z ie hek hz hie
            obtain ⟨hb,h2⟩:=br_elim h
            simp only [Bool.and_eq_true] at hb
            have he:=Nat.eq_of_beq_eq_true hb.1.1.1
            have hzl:=Nat.eq_of_beq_eq_true hb.1.1.2
            have hby:=Nat.le_of_ble_eq_true hb.1.2
            obtain ⟨x0,hx0⟩:=Option.isSome_iff_exists.1 hb.2
            have hsz:ie.size=ek.esz:=by rw [←he];simp [Program.cellsOf,hie]
            obtain ⟨iz,zv,hiz,hzv,hzr⟩:=zero_rv (G:=G) (ρ:=ρ) hz
            rw [hie] at hiz;cases hiz
            have hzc:=hzr.len
            simp at hzc
            obtain ⟨ys,news,hk,hsrc,hnews⟩:=rowOf_src (P:=E.P) hH h2 hx hux
            have hnl:=hsrc.newsLen
            have hexec: ∀r,(Builtin.append_ #[t,tx] ty #[sv,xv]).run E.P w=r→(execOp a.eval ⟨dst,.call ⟨.builtin .append,xs,ts⟩,ty,pos,af,gd⟩).run E.P w=r.andThen fun v w'=> .ok (.value v) w':=by
              intro r hr
              rw [run_resolve_builtin,hxs',hts',←hr]
              simp [builtin]
            have grow: ∀(base:Option Addr) (n c:Nat) (olds:List Value) (ls:List ek.T),sv= .slice base n c→c<n+ys.length→n+ys.length≤68719476736→ls.length=n→olds.length=n*ek.esz→
                (Builtin.firstCells ie.size n (.slice base n c)).run E.P w.drew= .ok olds.toArray w.drew→
                (∀(i:Nat) (y:ek.T),ls[i]? =some y→ ∀(j:Nat) (z:AV),(ek.enc y)[j]? =some z→ ∃u,olds[i*ek.esz+j]? =some u∧RV1 G z u)→
                ∀(H0:AHeap) (T:List Nat),(∃F0,SatHF G ρ w H0 F0∧Unt w w st.heap H0 Fs F0 T)→H0.length=st.heap.length→k (some (.sl st.heap.length ek.esz 0 (n+ys.length))) (H0++[some (.row ek (ls++ys))]) T→
                Oper.wp E.P ⟨dst,.call ⟨.builtin .append,xs,ts⟩,ty,pos,af,gd⟩ a w next Q:=by
              intro base n c olds ls hsv hlt hsm hls hol hfirst holds H0 T hH0 hl0 hk0
              obtain ⟨F0,hH0,hu0⟩:=hH0
              have hsrc':Src E.P ie.size tx xv ys.length news w:=by rw [hsz];exact hsrc
              have hrun:=run_append_grow_src (P:=E.P) w t tx ty e ie zv hu hie hzv base n c olds hfirst xv ys.length news hsrc' hlt (by omega)
                (growslice_fits hlt (by
                  have:(n+ys.length)*ie.bytes≤68719476736*1024:=Nat.mul_le_mul hsm hby
                  omega))
              rw [←hsv] at hrun
              have hx:=hexec _ hrun
              simp only [Result.andThen_ok] at hx
              unfold Oper.wp
              rw [hx,Oper.upon_value]
              have hcap:n+ys.length≤grownCap w (n+ys.length) c e:=by
                unfold grownCap Question.cut
                exact Nat.le_add_right _ _
              have hpush:=row_push (H:=H0) (Fs:=F0) (w:=w.drew) hH0.drew ek (ls++ys) (c:=(olds++news).toArray++Builtin.zeroCells zv.cells (grownCap w (n+ys.length) c e-(n+ys.length))) e (grownCap w (n+ys.length) c e) (List.replicate (grownCap w (n+ys.length) c e-(n+ys.length)) x0)
                (by simp [hls];omega) (by
                  simp [Builtin.zeroCells,hol,hnl,hzc,hzl]
                  have:grownCap w (n+ys.length) c e*ek.esz=(n+ys.length)*ek.esz+(grownCap w (n+ys.length) c e-(n+ys.length))*ek.esz:=by
                    rw [←Nat.add_mul];congr 1;omega
                  rw [this,Nat.add_mul];omega) (fun i y hi j q hj=>by
                  have hjl:j<ek.esz:=by
                    have:=(List.getElem?_eq_some_iff.1 hj).1
                    rw [ek.enc_len] at this;exact this
                  by_cases hsp:i<(ls++ys).length
                  case neg=>
                    rw [List.getElem?_append_right (by omega),List.getElem?_replicate] at hi
                    have hls2:(ls++ys).length=n+ys.length:=by simp [hls]
                    split at hi
                    · rename_i hlt3
                      simp at hi;subst hi
                      obtain ⟨u,hu',hru⟩:=spare_zero (pre:=(olds++news).toArray) hx0 hzr hzl (n+ys.length) (grownCap w (n+ys.length) c e-(n+ys.length)) (by simp [hol,hnl];rw [Nat.add_mul]) (i-(n+ys.length)) (by omega) j q hj
                      refine ⟨u,?_,hru⟩
                      rw [←hu'];congr 2;congr 1;omega
                    · cases hi
                  rw [List.getElem?_append_left hsp] at hi
                  by_cases hin:i<n
                  · rw [List.getElem?_append_left (by omega)] at hi
                    obtain ⟨u,hu',hru⟩:=holds i y hi j q hj
                    refine ⟨u,?_,hru⟩
                    have hlt2:i*ek.esz+j<olds.length:=(List.getElem?_eq_some_iff.1 hu').1
                    rw [Array.getElem?_append_left (by simp;omega)]
                    simp
                    rw [List.getElem?_append_left hlt2];exact hu'
                  · rw [List.getElem?_append_right (by omega),hls] at hi
                    obtain ⟨u,hu',hru⟩:=hnews (i-n) y hi j q hj
                    refine ⟨u,?_,hru⟩
                    have hlt2:(i-n)*ek.esz+j<news.length:=(List.getElem?_eq_some_iff.1 hu').1
                    have hadd:i*ek.esz+j=olds.length+((i-n)*ek.esz+j):=by
                      rw [hol,←Nat.add_assoc,←Nat.add_mul];congr 2;omega
                    rw [Array.getElem?_append_left (by simp;omega)]
                    simp
                    rw [hadd,List.getElem?_append_right (by omega)]
                    simpa using hu')
              obtain ⟨Fs',g1,g2⟩:=hpush
              have hsd:w.drew.heap.size=w.heap.size:=rfl
              refine hn [⟨some w.heap.size,0,grownCap w (n+ys.length) c e⟩] _ _ T Fs' _ _ hk0 (fun q hq=>?_) (by simpa [hsd] using g1) (fun l ob hl hTl=>?_)
              · simp at hq;subst hq
                have:=rv_row (G:=G) (ρ:=ρ) (H:=st.heap) hH.len (b:=w.heap.size) (tot:=grownCap w (n+ys.length) c e) (esz:=ek.esz) (n:=n+ys.length) hcap (fun _=> .inr trivial)
                exact this
              · obtain ⟨a1,a2,a3⟩:=hu0 l ob hl hTl
                obtain ⟨b1,b2,b3⟩:=g2 l ob a1 (by simp)
                exact ⟨b1,b2.trans a2,fun b hb=>(b3 b (by rw [a2];exact hb))⟩
            have nothing: ∀(base:Option Addr) (ls:List ek.T),sv= .slice base 0 0→ys.length=0→ls=[]→ ∀(H0:AHeap) (T:List Nat),(∃F0,SatHF G ρ w H0 F0∧Unt w w st.heap H0 Fs F0 T)→H0.length=st.heap.length→
                k (some (.sl st.heap.length ek.esz 0 (0+ys.length))) (H0++[some (.row ek (ls++ys))]) T→Oper.wp E.P ⟨dst,.call ⟨.builtin .append,xs,ts⟩,ty,pos,af,gd⟩ a w next Q:=by
              intro base ls hsv hy hls H0 T hH0 hl0 hk0
              obtain ⟨F0,hH0,hu0⟩:=hH0
              have hy0:ys=[]:=List.eq_nil_of_length_eq_zero hy
              subst hls hy0
              have hn0:news=[]:=List.eq_nil_of_length_eq_zero (by simpa using hnl)
              subst hn0
              have hsrc':Src E.P ie.size tx xv 0 [] w:=by rw [hsz];exact hsrc
              have hrun:=run_append_nothing (P:=E.P) w t tx ty e ie hu hie base 0 0 (Nat.le_refl _) xv hsrc'
              rw [←hsv] at hrun
              have hx:=hexec _ hrun
              simp only [Result.andThen_ok] at hx
              unfold Oper.wp
              rw [hx,Oper.upon_value]
              have g1:=SatH.push hH0 (.row ek []) ⟨none,0,0⟩ [] (w':=w) (Nat.le_refl _) (fun _ _=>rfl) .rfl rfl rfl (.rownil rfl rfl) (by simp)
              refine hn [⟨none,0,0⟩] _ _ T _ _ _ hk0 (fun q hq=>?_) g1 (fun l ob hl hTl=>?_)
              · simp at hq;subst hq
                rw [hsv]
                simp only [RV]
                exact ⟨⟨none,0,0⟩,by simp [hH.len],by simp,.inr ⟨by simp,rfl,base,rfl⟩⟩
              · obtain ⟨a1,a2,a3⟩:=hu0 l ob hl hTl
                have:=hH0.lab a1
                refine ⟨getElem?_ext a1,?_,fun _ _=>rfl⟩
                show (if l=H0.length then [] else F0 l)=Fs l
                rw [if_neg (by omega)];exact a2
            have hself: ∃F0,SatHF G ρ w st.heap F0∧Unt w w st.heap st.heap Fs F0 []:=⟨Fs,hH,fun l o hl _=>⟨hl,rfl,fun _ _=>rfl⟩⟩
            cases s
            case nils=>
              simp only [] at hk
              obtain ⟨hsm,hk⟩:=hk
              rw [forceL_eq] at hk
              have hsv:=hs
              simp only [RV] at hsv
              by_cases hy:ys.length=0
              · exact nothing none [] hsv hy rfl _ _ hself rfl (by simpa using hk)
              · exact grow none 0 0 [] [] hsv (by omega) (by omega) rfl (by simp) (run_firstCells_none w.drew ie.size 0 0 0) (by simp) _ _ hself rfl (by simpa using hk)
            case sl lab es base n=>
              simp only [] at hk
              split at hk
              · rename_i e2 rs hl
                split at hk
                · rename_i he2
                  subst he2
                  obtain ⟨hes,hle,hsm,hk⟩:=br_elim hk
                  have hes:=Nat.eq_of_beq_eq_true hes
                  rw [forceL_eq] at hk
                  have hlt:=hH.lab hl
                  have hdrop: ∃F0,SatHF G ρ w (st.heap.set lab none) F0∧Unt w w st.heap (st.heap.set lab none) Fs F0 [lab]:=by
                    refine ⟨Fs,?_,fun l o hl' hTl=>⟨?_,rfl,fun _ _=>rfl⟩⟩
                    · have:=hH.step (e:=[]) (w':=w) (H':=st.heap.set lab none) (Fs':=Fs) [] (fun _=>False) (by simp) (Nat.le_refl _) (fun b _ _=>rfl) .rfl rfl rfl (by simpa using hH.len)
                        (fun l' o _ hl=>by
                          by_cases hne:l'=lab
                          · subst hne
                            rw [List.getElem?_set_self hlt] at hl;simp at hl
                          · rw [List.getElem?_set_ne (Ne.symm hne)] at hl
                            exact ⟨hl,rfl⟩) (fun l o hT=>hT.elim) (fun l o l' o' b hT=>hT.elim)
                      simpa using this
                    · have hne:l≠lab:=fun he=>hTl (by simp [he])
                      rw [List.getElem?_set_ne (Ne.symm hne)];exact hl'
                  have hsv:=hs
                  simp only [RV] at hsv
                  obtain ⟨tt,htt,htot,hsv⟩:=hsv
                  have hll:((rs.drop base).take n).length=n:=by simp;omega
                  rcases hsv with ⟨b,hbk,hsv⟩ |⟨hn0,htb,aa,hsv⟩
                  · obtain ⟨t',ht',hsat⟩:=hH.sat _ _ hl
                    rw [htt] at ht';cases ht'
                    generalize hF:Fs lab=F at hsat
                    cases hsat with
                    |rownil hb' _=>rw [hbk] at hb';cases hb'
                    | @row _ _ sp _ b' c ty' hb' hw h2 h3 hc=>
                      rw [hbk] at hb';cases hb'
                      rw [hes] at hsv
                      have hold: ∀(i:Nat) (y:e2.T),((rs.drop base).take n)[i]? =some y→ ∀(j:Nat) (z:AV),(e2.enc y)[j]? =some z→ ∃u,c[tt.off+base*e2.esz+(i*e2.esz+j)]? =some u∧RV1 G z u:=fun i y hi j z hj=>by
                        have hin:i<n:=by
                          have:=(List.getElem?_eq_some_iff.1 hi).1
                          omega
                        rw [List.getElem?_take_of_lt hin,List.getElem?_drop] at hi
                        obtain ⟨u,hu',hru⟩:=hc _ y (getElem?_ext hi) j z hj
                        refine ⟨u,?_,hru⟩
                        rw [←hu'];congr 1
                        rw [Nat.add_mul];omega
                      have hroom:tt.off+base*e2.esz+(tt.tot-base)*e2.esz≤c.size:=by
                        have:tt.off+base*e2.esz+(tt.tot-base)*e2.esz=tt.off+tt.tot*e2.esz:=by
                          rw [Nat.add_assoc,←Nat.add_mul];congr 2;omega
                        omega
                      by_cases hfit:n+ys.length≤tt.tot-base
                      ·
                        have hb1:(n+ys.length)*e2.esz≤(tt.tot-base)*e2.esz:=Nat.mul_le_mul_right _ hfit
                        rw [Nat.add_mul] at hb1
                        have hsrc':Src E.P ie.size tx xv ys.length news w:=by rw [hsz];exact hsrc
                        have hin: ∀m,m<c.size→ ∃u,w.cell? ⟨b,m,none⟩=some u:=fun m hm=>⟨c[m],by simp only [World.cell?,hw,Option.isSome_none,Bool.false_eq_true,if_false];exact Array.getElem?_eq_getElem hm⟩
                        have hrun:=run_append_room_src (P:=E.P) w t tx ty e ie hu hie b (tt.off+base*e2.esz) n (tt.tot-base) xv ys.length news hsrc' hfit (fun j hj=>by
                            obtain ⟨u,hu'⟩:=hin (tt.off+base*e2.esz+n*ie.size+j) (by rw [hsz];omega)
                            rw [hu'];rfl) (fun j hj=>by simp [World.frozen?,hw])
                        rw [←hsv,hsz] at hrun
                        have hx:=hexec _ hrun
                        simp only [Result.andThen_ok] at hx
                        obtain ⟨⟨c',g1,g2⟩,g3,g4,g5,g6,g7⟩:=setCells_heap (b:=b) (ty:=ty') news (tt.off+base*e2.esz+n*e2.esz) w c hw
                        have hsz':c'.size=c.size:=by
                          have:=congrArg List.length g2
                          rw [setCells_length] at this
                          simpa using this
                        have hmove:=SatH.move hH hl (.row e2 (((rs.drop base).take n)++ys)) ⟨some b,tt.off+base*e2.esz,tt.tot-base⟩ [b] (w':=w.setCells b (tt.off+base*e2.esz+n*e2.esz) news) (by omega)
                          (fun x _ hx=>g3 x (fun he=>hx (by rw [hF,he];simp))) g5 g6 g7
                          (.row (sp:=(rs++sp).drop (base+n+ys.length)) rfl g1 (by simp;omega) (by rw [hsz'];exact hroom) (fun i y hi j z hj=>by
                            have hjl:j<e2.esz:=by
                              have:=(List.getElem?_eq_some_iff.1 hj).1
                              rw [e2.enc_len] at this;exact this
                            show ∃u,c'[tt.off+base*e2.esz+i*e2.esz+j]? =some u∧RV1 G z u
                            have hc2: ∀(m:Nat),c'[m]? =(setCells c.toList (tt.off+base*e2.esz+n*e2.esz) news)[m]? :=fun m=>by rw [←g2,Array.getElem?_toList]
                            have hl2:((rs.drop base).take n++ys).length=n+ys.length:=by rw [List.length_append,hll]
                            by_cases hsp:i<n+ys.length
                            case neg=>
                              rw [List.getElem?_append_right (by omega),List.getElem?_drop,hl2] at hi
                              obtain ⟨u,hu',hru⟩:=hc _ y hi j z hj
                              refine ⟨u,?_,hru⟩
                              have h5:(n+ys.length)*e2.esz≤i*e2.esz:=Nat.mul_le_mul_right _ (by omega)
                              rw [Nat.add_mul] at h5
                              rw [hc2,setCells_get,if_neg (by omega)]
                              rw [Array.getElem?_toList,←hu'];congr 1
                              rw [show base+n+ys.length+(i-(n+ys.length))=base+i by omega,Nat.add_mul];omega
                            rw [List.getElem?_append_left (by omega)] at hi
                            by_cases hi2:i<n
                            · rw [List.getElem?_append_left (by omega)] at hi
                              obtain ⟨u,hu',hru⟩:=hold i y hi j z hj
                              refine ⟨u,?_,hru⟩
                              have:(i+1)*e2.esz≤n*e2.esz:=Nat.mul_le_mul_right _ hi2
                              rw [Nat.add_mul] at this
                              rw [hc2,setCells_get,if_neg (by omega)]
                              simpa [Nat.add_assoc] using hu'
                            · rw [List.getElem?_append_right (by omega),hll] at hi
                              obtain ⟨u,hu',hru⟩:=hnews (i-n) y hi j z hj
                              refine ⟨u,?_,hru⟩
                              have hlt2:=(List.getElem?_eq_some_iff.1 hu').1
                              have hadd:i*e2.esz=n*e2.esz+(i-n)*e2.esz:=by rw [←Nat.add_mul];congr 1;omega
                              have hlt3:(i-n)*e2.esz+j<ys.length*e2.esz:=by omega
                              rw [hc2,setCells_get,if_pos ⟨by omega,by omega,by simp;omega⟩]
                              rw [←hu'];congr 1;omega))
                          (fun y hy=>by
                            simp at hy;subst hy
                            have:y∈Fs lab:=by rw [hF];simp
                            exact ⟨.inl this,by rw [g4];exact (hH.free _ _ y hl this).2⟩)
                        unfold Oper.wp
                        rw [hx,Oper.upon_value]
                        refine hn [⟨some b,tt.off+base*e2.esz,tt.tot-base⟩] _ _ [lab] _ _ _ hk (fun q hq=>?_) hmove (fun l ob hl' hTl=>?_)
                        · simp at hq;subst hq
                          simp only [RV]
                          exact ⟨⟨some b,tt.off+base*e2.esz,tt.tot-base⟩,by simp [hH.len],by simpa using hfit,.inl ⟨b,rfl,by simp⟩⟩
                        · have hne:l≠lab:=fun he=>hTl (by simp [he])
                          have hll':=hH.lab hl'
                          refine ⟨?_,by simp;omega,fun y hy=>g3 y (fun he=>?_)⟩
                          · rw [List.getElem?_append_left (by simpa using hll'),List.getElem?_set_ne (Ne.symm hne)];exact hl'
                          · subst he
                            exact hne (hH.apart l ob lab _ y hl' hl hy (by rw [hF];simp))
                      ·
                        have hcell: ∀m,m<n*e2.esz→ ∃u,c[tt.off+base*e2.esz+m]? =some u∧u.oneCell'=true:=by
                          intro m hm
                          have hpos:=e2.esz_pos
                          have hi:m/e2.esz<n:=(Nat.div_lt_iff_lt_mul hpos).2 hm
                          have hj:m%e2.esz<e2.esz:=Nat.mod_lt _ hpos
                          have hi':m/e2.esz<((rs.drop base).take n).length:=by omega
                          have hlen:=e2.enc_len ((rs.drop base).take n)[m/e2.esz]
                          obtain ⟨u,hu',hru⟩:=hold _ _ (List.getElem?_eq_getElem hi') (m%e2.esz) _ (List.getElem?_eq_getElem (by omega))
                          have hdm:m/e2.esz*e2.esz+m%e2.esz=m:=by
                            rw [Nat.mul_comm];exact Nat.div_add_mod m e2.esz
                          rw [hdm] at hu'
                          have hfl:=List.all_eq_true.1 (enc_flat e2 ((rs.drop base).take n)[m/e2.esz]) _ (List.getElem_mem (h:=(by omega:m%e2.esz<_)))
                          refine ⟨u,hu',one_of (G:=G) (ρ:=ρ) hru.rv ?_⟩
                          revert hfl
                          generalize (e2.enc ((rs.drop base).take n)[m/e2.esz])[m%e2.esz]=q
                          intro hfl
                          cases q<;>simp [AV.flat] at hfl<;>rfl
                        let f:Nat→Value:=fun m=>(c[tt.off+base*e2.esz+m]?).getD undef
                        have hfirst:(Builtin.firstCells ie.size n (.slice (some ⟨b,tt.off+base*e2.esz,none⟩) n (tt.tot-base))).run E.P w.drew= .ok ((List.range (n*e2.esz)).map f).toArray w.drew:=by
                          refine run_firstCells_some w.drew ie.size n ⟨b,tt.off+base*e2.esz,none⟩ n (tt.tot-base) _ (by simp [hsz]) (fun j u hj=>?_)
                          have hjl:j<n*e2.esz:=by
                            have:=(List.getElem?_eq_some_iff.1 hj).1
                            simpa using this
                          obtain ⟨u',hu',_⟩:=hcell j hjl
                          simp [hjl,f] at hj
                          rw [addr_add]
                          have:w.drew.cell? ⟨b,tt.off+base*e2.esz+j,none⟩=w.cell? ⟨b,tt.off+base*e2.esz+j,none⟩:=rfl
                          rw [this]
                          simp only [World.cell?,hw,Option.isSome_none,Bool.false_eq_true,if_false]
                          rw [←hj,hu'];rfl
                        exact grow _ n _ _ ((rs.drop base).take n) hsv (by omega) hsm hll (by simp) hfirst (fun i y hi j z hj=>by
                          obtain ⟨u,hu',hru⟩:=hold i y hi j z hj
                          refine ⟨u,?_,hru⟩
                          have hil:i<n:=by
                            have:=(List.getElem?_eq_some_iff.1 hi).1
                            omega
                          have hjl:j<e2.esz:=by
                            have:=(List.getElem?_eq_some_iff.1 hj).1
                            rw [e2.enc_len] at this;exact this
                          have:(i+1)*e2.esz≤n*e2.esz:=Nat.mul_le_mul_right _ hil
                          rw [Nat.add_mul] at this
                          have hlt2:i*e2.esz+j<n*e2.esz:=by omega
                          simp [hlt2,f,hu']) _ _ hdrop (by simp) hk
                  · subst hn0
                    by_cases hy:ys.length=0
                    · exact nothing aa ((rs.drop base).take 0) hsv hy (by simp) _ _ hdrop (by simp) hk
                    · have hfirst:(Builtin.firstCells ie.size 0 (.slice aa 0 0)).run E.P w.drew= .ok ([]:List Value).toArray w.drew:=by
                        cases aa with
                        |none=>exact run_firstCells_none w.drew ie.size 0 0 0
                        |some ad=>exact run_firstCells_some w.drew ie.size 0 ad 0 0 [] (by simp) (by simp)
                      exact grow aa 0 0 [] ((rs.drop base).take 0) hsv (by omega) (by omega) (by simp) (by simp) hfirst (by simp) _ _ hdrop (by simp) hk
                · exact hk.elim
              · exact hk.elim
            all_goals exact hk.elim
          · exact h.elim
        · exact h.elim
      · exact h.elim
end
end Go.Ax
namespace Go.Ax
variable [Surr] {G:Gam} {ρ:List Root} {w:World}
theorem ValR.rv {k:EK} {x:k.T} {v:Value} (h:ValR G k x v) (ρ:List Root):RV G ρ (k.val x) v:=by
 obtain ⟨ρ',h⟩:=h
 cases hp:k.prim with
 |true=>cases k<;>simp [EK.prim] at hp<;>(simp only [EK.val,RV] at h ⊢;exact h)
 |false=>
  have e:k.val x= .agg (k.enc x):=by cases k<;>simp [EK.prim] at hp<;>rfl
  rw [e] at h ⊢
  simp only [RV] at h ⊢
  obtain ⟨vs,h1,h2⟩:=h
  refine ⟨vs,h1,RVs.of_get h2.len fun j y hj=>?_⟩
  obtain ⟨u,hu,hr⟩:=h2.get hj
  have hf:=List.all_eq_true.1 (enc_flat k x) y (List.mem_of_getElem? hj)
  exact ⟨u,hu,(flat_rv1 hf hr).rv⟩
theorem findNow_map {k:EK} {q:IntKind} (j:Int): ∀{m:List (Int × k.T)} {es:List MapEntry} (n:Nat),MapR G k m es→
  (Law.mget m j=none∧Instr.findNow (.int q) (.int .i64 j) es n=some none)∨
  ∃(i:Nat) (e:MapEntry) (x:k.T),Law.mget m j=some x∧Instr.findNow (.int q) (.int .i64 j) es n=some (some (n+i,e.val))∧es[i]? =some e∧e.key= .int .i64 j∧ValR G k x e.val
 | [],es,n,h=>by
  simp only [MapR] at h;subst h
  exact .inl ⟨rfl,rfl⟩
 |p::m,es,n,h=>by
  obtain ⟨e,r,rfl,hk,hv,hr⟩:=h
  by_cases hp:p.1=j
  ·right
   refine ⟨0,e,p.2,by simp [Law.mget,hp],?_,rfl,by rw [hk,hp],hv⟩
   simp [Instr.findNow,Instr.sameNow,hk,hp]
  ·have hs:Instr.sameNow (.int q) (.int .i64 j) e.key=some false:=by
    rw [hk];simp [Instr.sameNow];exact fun h=>hp h.symm
   rcases findNow_map j (n+1) hr with ⟨h1,h2⟩ |⟨i,e',x,h1,h2,h3,h4,h5⟩
   ·exact .inl ⟨by simp [Law.mget,hp,h1],by simp only [Instr.findNow,hs];exact h2⟩
   ·refine .inr ⟨i+1,e',x,by simp [Law.mget,hp,h1],?_,by simpa using h3,h4,h5⟩
    simp only [Instr.findNow,hs]
    rw [h2]
    congr 3;omega
theorem MapR.len {k:EK}: ∀{m:List (Int × k.T)} {es:List MapEntry},MapR G k m es→es.length=m.length
 | [],_,h=>by simp only [MapR] at h;subst h;rfl
 |_::_,_,⟨_,_,h1,_,_,h4⟩=>by subst h1;simp [MapR.len h4]
theorem MapR.push {k:EK} {j:Int} {x:k.T} {v:Value} (hv:ValR G k x v) (ck:Nat): ∀{m:List (Int × k.T)} {es:List MapEntry},MapR G k m es→Law.mget m j=none→MapR G k (Law.mput m j x) (es++[⟨.int .i64 j,v,ck⟩])
 | [],_,h,_=>by
  simp only [MapR] at h;subst h
  exact ⟨_,[],rfl,rfl,hv,rfl⟩
 |p::m,_,⟨e,r,h1,h2,h3,h4⟩,hn=>by
  subst h1
  simp only [Law.mget] at hn
  split at hn
  ·cases hn
  ·rename_i hp
   simp only [Law.mput,if_neg hp]
   exact ⟨e,_,rfl,h2,h3,MapR.push hv ck h4 hn⟩
theorem MapR.upd {k:EK} {j:Int} {x:k.T} {v:Value} {q:IntKind} (hv:ValR G k x v): ∀{m:List (Int × k.T)} {es:List MapEntry} {n i:Nat} {v0:Value},MapR G k m es→Instr.findNow (.int q) (.int .i64 j) es n=some (some (n+i,v0))→
  MapR G k (Law.mput m j x) (es.modify i fun e=>{e with key:= .int .i64 j,val:=v})
 | [],_,n,i,v0,h,hf=>by
  simp only [MapR] at h;subst h
  simp [Instr.findNow] at hf
 |p::m,_,n,i,v0,⟨e,r,h1,h2,h3,h4⟩,hf=>by
  subst h1
  by_cases hp:p.1=j
  ·have:i=0:=by
    simp [Instr.findNow,Instr.sameNow,h2,hp] at hf
    exact hf.1
   subst this
   simp only [Law.mput,if_pos hp]
   exact ⟨_,r,rfl,rfl,hv,h4⟩
  ·have hs:Instr.sameNow (.int q) (.int .i64 j) e.key=some false:=by
    rw [h2];simp [Instr.sameNow];exact fun h=>hp h.symm
   simp only [Instr.findNow,hs] at hf
   have hi:i≠0:=by
    intro h0
    subst h0
    rcases findNow_map (G:=G) (q:=q) j (n+1) h4 with ⟨_,h6⟩ |⟨i',e',x',_,h6,_⟩
    ·rw [h6] at hf;simp at hf
    ·rw [h6] at hf;simp at hf
     omega
   obtain ⟨i',rfl⟩:=Nat.exists_eq_succ_of_ne_zero hi
   simp only [Law.mput,if_neg hp]
   have hf':Instr.findNow (.int q) (.int .i64 j) r (n+1)=some (some (n+1+i',v0)):=by
    rw [hf];congr 3;omega
   exact ⟨e,_,rfl,h2,h3,MapR.upd hv h4 hf'⟩
theorem sameOs_map (w:World) {b:Nat} {es es':Array MapEntry} {ck ck':Nat} (hw:w.heap[b]? =some (.map es ck)):SameOs w {w with heap:=w.heap.setIfInBounds b (.map es' ck')}:=⟨rfl,fun _=>Nat.le_refl _⟩
theorem mapKind_elim {P:Program} {eks:List (TypeId × EK)} {t:TypeId} {k:(ek:EK)→ek.T→Prop} (h:mapKind P eks t k):
  ∃kt et ek x0 i z v,P.underlying t=some (.map kt et)∧P.underlying kt=some (.int .i64)∧P.info? et=some i∧i.zero=some v∧cval v=some z∧ek.unval z=some x0∧k ek x0:=by
 unfold mapKind at h
 split at h
 ·rename_i kt et hu
  split at h
  ·rename_i ek z hk he hz
   split at h
   ·rename_i x0 hx
    unfold zeroVal at hz
    split at hz
    ·rename_i i hi
     split at hz
     ·rename_i v hv
      exact ⟨kt,et,ek,x0,i,z,v,hu,hk,hi,hv,hz,hx,h⟩
     ·cases hz
    ·cases hz
   ·exact h.elim
  ·exact h.elim
 ·exact h.elim
section
variable {E:Env} {st:AS} {a:Act} {Fs:Nat→List Nat} {k:KT} (dst:Option Tmp) (ty:TypeId) (pos:String) (af:Array Edge) (gd:Option (Nat × Bool))
variable (hT:TR G ρ st.tmps a.tmps) (hH:SatHF G ρ w st.heap Fs)
include hT hH
omit hT in
theorem map_new (ek:EK) (hk:k (some (.mp st.heap.length)) (st.heap++[some (.map ek [])]) []) (o:Oper) (hrun:(execOp a.eval o).run E.P w= .ok (.value (.map (some w.heap.size))) (w.alloc (.map #[] 0))):ERes E G ρ w st a o Fs k:=by
 intro next Q hn
 have hsz:(w.alloc (.map #[] 0)).heap.size=w.heap.size+1:=by show (w.heap.push _).size=_;simp
 have hpush:=SatH.push hH (.map ek []) ⟨some w.heap.size,0,0⟩ [w.heap.size] (w':=w.alloc (.map #[] 0)) (by omega) (fun b hb=>alloc_heap_lt hb) ⟨rfl,fun _=>Nat.le_refl _⟩ rfl rfl
  (.map (es:= #[]) (ck:=0) rfl alloc_heap_self rfl) (fun b hb=>by simp at hb;subst hb;omega)
 unfold Oper.wp
 rw [hrun,Oper.upon_value]
 refine hn [⟨some w.heap.size,0,0⟩] _ _ [] _ _ _ hk (fun x hx=>?_) hpush (fun l ob hl _=>⟨?_,?_,fun y hy=>?_⟩)
 ·simp at hx;subst hx
  simp only [RV]
  exact ⟨⟨some w.heap.size,0,0⟩,_,by rw [hH.len];simp,rfl,rfl⟩
 ·exact getElem?_ext hl
 ·have:=hH.lab hl
  simp [Nat.ne_of_lt this]
 ·exact alloc_heap_lt (hH.free l ob y hl hy).2
theorem e_makeMap (t:TypeId) (hint:Option Operand) (h:aop E ⟨dst,.makeMap t hint,ty,pos,af,gd⟩ st k):ERes E G ρ w st a ⟨dst,.makeMap t hint,ty,pos,af,gd⟩ Fs k:=by
 simp only [aop] at h
 split at h
 ·obtain ⟨kt,et,ek,x0,i,z,v,h1,h2,h3,h4,h5,h6,h⟩:=mapKind_elim h
  rw [forceL_eq] at h
  exact map_new hH ek h _ (by simp [execOp,Instr.makeMap])
 ·rename_i x
  split at h
  ·rename_i n hn
   obtain ⟨kt,et,ek,x0,i,z,v,h1,h2,h3,h4,h5,h6,h⟩:=mapKind_elim h
   rw [forceL_eq] at h
   obtain ⟨q,hq⟩:=aint_eq hn
   have:=rv_int (eval_rv hT hq)
   exact map_new hH ek h _ (by simp [execOp,Instr.makeMap,run_und h1,this,asInt,asIntOf])
  ·exact h.elim
theorem e_lookup (t:TypeId) (m x:Operand) (ok:Bool) (h:aop E ⟨dst,.lookup t m x ok,ty,pos,af,gd⟩ st k):ERes E G ρ w st a ⟨dst,.lookup t m x ok,ty,pos,af,gd⟩ Fs k:=by
 intro next Q hn
 simp only [aop] at h
 split at h
 ·rename_i l j hm hx
  obtain ⟨kt,et,ek,x0,i,z,v,h1,h2,h3,h4,h5,h6,h⟩:=mapKind_elim h
  split at h
  ·rename_i e2 xs hl
   split at h
   ·rename_i he
    subst he
    obtain ⟨r,hr,hs⟩:=hH.sat _ _ hl
    have hmv:=eval_rv hT hm
    simp only [RV] at hmv
    obtain ⟨r',b,hr',hb,hmv⟩:=hmv
    rw [hr] at hr';cases hr'
    have hxv:=rv_int (eval_rv hT hx)
    generalize hF:Fs l=F at hs
    cases hs with
    | @map _ _ _ b' es ck hb' hw hmr=>
     rw [hb] at hb';cases hb'
     have hkey: ∀e n,(Instr.checkKey e (n+1) kt (.int .i64 j)).run E.P w= .ok () w:=fun e n=>by
      simp [Instr.checkKey,run_und h2]
     have hz:(zeroValue et).run E.P w= .ok v w:=by simp [zeroValue,typeInfo,h3,h4]
     have hzr:RV G ρ (e2.val x0) v:=by rw [EK.val_unval h6];exact cval_rv h5
     have key: ∃u,(∀y,y=(Law.mget xs j).getD x0→RV G ρ (e2.val y) u)∧(Instr.lookup t (a.eval m) (a.eval x) ok).run E.P w= .ok (if ok then .tuple #[u,.bool (Law.mget xs j).isSome] else u) w:=by
      rcases findNow_map (G:=G) (q:= .i64) j 0 hmr with ⟨g1,g2⟩ |⟨q,e,y,g1,g2,g3,g4,g5⟩
      ·refine ⟨v,fun y hy=>by rw [hy,g1];exact hzr,?_⟩
       rw [hmv,hxv]
       simp [Instr.lookup,run_und h1,MapKept.run_getObj_map hw,hkey,Instr.findKey,run_und h2,g2,hz,g1]
      ·refine ⟨e.val,fun y' hy=>by rw [hy,g1];exact g5.rv ρ,?_⟩
       rw [hmv,hxv]
       simp [Instr.lookup,run_und h1,MapKept.run_getObj_map hw,hkey,Instr.findKey,run_und h2,g2,g1]
     obtain ⟨u,hu,hrun⟩:=key
     replace h:=h _ _ rfl rfl
     have hex:(execOp a.eval ⟨dst,.lookup t m x ok,ty,pos,af,gd⟩).run E.P w= .ok (.value (if ok then .tuple #[u,.bool (Law.mget xs j).isSome] else u)) w:=by
      simp [execOp,hrun]
     unfold Oper.wp
     rw [hex,Oper.upon_value]
     have hself: ∀(H:AHeap) (T:List Nat),SatHF G ρ w H Fs→Unt w w H H Fs Fs T:=fun H T _ l o hl _=>⟨hl,rfl,fun _ _=>rfl⟩
     cases ok with
     |true=>
      simp only [if_true]
      refine hn [] _ _ [] Fs _ w h (fun q hq=>?_) (by simpa using hH) (hself _ _ hH)
      simp at hq;subst hq
      simp only [RV]
      refine ⟨_,rfl,?_⟩
      simp only [RVs]
      exact ⟨u,_,rfl,by simpa using hu _ rfl,_,[],rfl,by simp [RV],rfl⟩
     |false=>
      simp only [Bool.false_eq_true,if_false]
      refine hn [] _ _ [] Fs _ w h (fun q hq=>?_) (by simpa using hH) (hself _ _ hH)
      simp at hq;subst hq
      simpa using hu _ rfl
   ·exact h.elim
  ·exact h.elim
 ·exact h.elim
theorem e_mapUpdate (t:TypeId) (m x y:Operand) (h:aop E ⟨dst,.mapUpdate t m x y,ty,pos,af,gd⟩ st k):ERes E G ρ w st a ⟨dst,.mapUpdate t m x y,ty,pos,af,gd⟩ Fs k:=by
 intro next Q hn
 simp only [aop] at h
 split at h
 ·rename_i l j yv hm hx hy
  obtain ⟨kt,et,ek,x0,i,z,v,h1,h2,h3,h4,h5,h6,h⟩:=mapKind_elim h
  split at h
  ·rename_i e2 xs hl
   split at h
   ·rename_i he
    subst he
    split at h
    ·rename_i y' hy'
     rw [forceL_eq] at h
     obtain ⟨r,hr,hs⟩:=hH.sat _ _ hl
     have hmv:=eval_rv hT hm
     simp only [RV] at hmv
     obtain ⟨r',b,hr',hb,hmv⟩:=hmv
     rw [hr] at hr';cases hr'
     have hxv:=rv_int (eval_rv hT hx)
     have hyv:ValR G e2 y' (a.eval y):=⟨ρ,by rw [EK.val_unval hy'];exact eval_rv hT hy⟩
     generalize hF:Fs l=F at hs
     cases hs with
     | @map _ _ _ b' es ck hb' hw hmr=>
      rw [hb] at hb';cases hb'
      have hlt:b<w.heap.size:=(Array.getElem?_eq_some_iff.1 hw).1
      have hkey: ∀e n,(Instr.checkKey e (n+1) kt (.int .i64 j)).run E.P w= .ok () w:=fun e n=>by
       simp [Instr.checkKey,run_und h2]
      have key: ∃es' ck',MapR G e2 (Law.mput xs j y') es'.toList∧(Instr.mapUpdate t (a.eval m) (a.eval x) (a.eval y)).run E.P w= .ok () {w with heap:=w.heap.setIfInBounds b (.map es' ck')}:=by
       rcases findNow_map (G:=G) (q:= .i64) j 0 hmr with ⟨g1,g2⟩ |⟨q,e,x',g1,g2,g3,g4,g5⟩
       ·refine ⟨es.push ⟨.int .i64 j,a.eval y,ck⟩,ck+1,by simpa using MapR.push hyv ck hmr g1,?_⟩
        rw [hmv,hxv]
        simp [Instr.mapUpdate,run_und h1,MapKept.run_getObj_map hw,MapKept.run_setObj_map _ hw,hkey,Instr.findKey,run_und h2,g2]
       ·refine ⟨es.modify q fun e=>{e with key:= .int .i64 j,val:=a.eval y},ck,?_,?_⟩
        ·have:=MapR.upd (n:=0) hyv hmr g2
         simpa using this
        ·rw [hmv,hxv]
         simp at g2 g3
         simp [Instr.mapUpdate,run_und h1,MapKept.run_getObj_map hw,MapKept.run_setObj_map _ hw,hkey,Instr.findKey,run_und h2,g2,g3,g4,Instr.keyThatStays,Instr.sameBits]
      obtain ⟨es',ck',hmr',hrun⟩:=key
      have hset:=SatH.set hH hl (.map e2 (Law.mput xs j y')) [b] (w':={w with heap:=w.heap.setIfInBounds b (.map es' ck')}) (by simp) (fun c _ hc=>by
        have hne:c≠b:=fun he=>hc (by rw [hF,he];simp)
        simp [Array.getElem?_setIfInBounds_ne (Ne.symm hne)]) (sameOs_map w hw) rfl rfl
       (fun r' hr'=>by
        rw [hr] at hr';cases hr'
        exact .map hb (show (w.heap.setIfInBounds b (.map es' ck'))[b]? =some (.map es' ck') by simp [hlt]) hmr') (fun c hc=>by
         simp at hc;subst hc
         exact ⟨.inl (by rw [hF];simp),by simpa using hlt⟩)
      have hFs:(fun x=>if x=l then [b] else Fs x)=Fs:=by
       funext x
       by_cases hx:x=l
       ·subst hx;simp [hF]
       ·simp [hx]
      rw [hFs] at hset
      have hex:(execOp a.eval ⟨dst,.mapUpdate t m x y,ty,pos,af,gd⟩).run E.P w= .ok .skip {w with heap:=w.heap.setIfInBounds b (.map es' ck')}:=by
       simp [execOp,hrun]
      unfold Oper.wp
      rw [hex,Oper.upon_skip]
      refine hn [] _ _ [l] Fs _ _ h (fun q hq=>by cases hq) (by simpa using hset) (fun l' ob hl' hT'=>⟨?_,rfl,fun c hc=>?_⟩)
      ·have hne:l'≠l:=fun he=>hT' (by simp [he])
       rw [List.getElem?_set_ne (Ne.symm hne)];exact hl'
      ·have hne:c≠b:=fun he=>by
        subst he
        have:=hH.apart l' ob l _ c hl' hl hc (by rw [hF];simp)
        exact hT' (by simp [this])
       simp [Array.getElem?_setIfInBounds_ne (Ne.symm hne)]
    ·exact h.elim
   ·exact h.elim
  ·exact h.elim
 ·exact h.elim
end
end Go.Ax
namespace Go.Ax
variable [Surr] {G:Gam} {ρ:List Root} {w:World}
section
variable {E:Env} {st:AS} {a:Act} {Fs:Nat→List Nat} {k:KT} (dst:Option Tmp) (ty:TypeId) (pos:String) (af:Array Edge) (gd:Option (Nat × Bool))
variable (hT:TR G ρ st.tmps a.tmps) (hH:SatHF G ρ w st.heap Fs)
include hT hH
theorem Unt.self (H:AHeap) (T:List Nat) (hH:SatHF G ρ w H Fs):Unt w w H H Fs Fs T:=fun l o hl _=>⟨hl,rfl,fun _ _=>rfl⟩
omit hT hH in
theorem rowOf_cells {ek:EK} {H:AHeap} {Fs:Nat→List Nat} (hH:SatHF G ρ w H Fs) {x:AV} {K:List ek.T→Prop} (h:rowOf ek H x K) {v:Value} (hv:RV G ρ x v):
    ∃ys,K ys∧((ys=[]∧ ∃a c,v= .slice a 0 c)∨ ∃b o c,v= .slice (some ⟨b,o,none⟩) ys.length c∧
      ∀(i:Nat) (y:ek.T),ys[i]? =some y→ ∀(j:Nat) (z:AV),(ek.enc y)[j]? =some z→ ∃u,w.cell? ⟨b,o+(i*ek.esz+j),none⟩=some u∧RV1 G z u):=by
  unfold rowOf at h
  cases x
  case nils=>
    simp only [RV] at hv;subst hv
    exact ⟨[],h,.inl ⟨rfl,_,_,rfl⟩⟩
  case imm e2 ys=>
    simp only [] at h
    split at h
    · rename_i he
      subst he
      simp only [RV] at hv
      obtain ⟨ad,c,rfl,_,hc⟩:=hv
      by_cases hn:ys.length=0
      · have:ys=[]:=List.eq_nil_of_length_eq_zero hn
        subst this
        exact ⟨[],h,.inl ⟨rfl,_,_,rfl⟩⟩
      · obtain ⟨b,o,rfl,hcc⟩:=hc (by omega)
        refine ⟨ys,h,.inr ⟨b,o,c,rfl,fun i y hi j z hj=>?_⟩⟩
        obtain ⟨u,hu,hr⟩:=hcc i y hi j z hj
        exact ⟨u,by rw [←Nat.add_assoc];exact imm_cell hH.wok hu,hr⟩
    · exact h.elim
  case sl lab es base n=>
    simp only [] at h
    split at h
    · rename_i e2 ys hl
      split at h
      · rename_i he
        subst he
        obtain ⟨hes,hle,h⟩:=br_elim h
        have hes:=Nat.eq_of_beq_eq_true hes
        simp only [RV] at hv
        obtain ⟨t,ht,htot,hv⟩:=hv
        rcases hv with ⟨b,hb,rfl⟩ |⟨hn0,htb,aa,rfl⟩
        · obtain ⟨t',ht',hs⟩:=hH.sat _ _ hl
          rw [ht] at ht';cases ht'
          generalize hF:Fs lab=F at hs
          have hlen:((ys.drop base).take n).length=n:=by simp;omega
          cases hs with
          |rownil hb' _=>rw [hb] at hb';cases hb'
          | @row _ _ sp _ b' c ty hb' hw h2 h3 hc=>
            rw [hb] at hb';cases hb'
            refine ⟨(ys.drop base).take n,h,.inr ⟨b,t.off+base*es,t.tot-base,by rw [hlen],fun i y hi j z hj=>?_⟩⟩
            have hin:i<n:=by
              have:=(List.getElem?_eq_some_iff.1 hi).1
              omega
            rw [List.getElem?_take_of_lt hin,List.getElem?_drop] at hi
            obtain ⟨u,hu,hr⟩:=hc _ y (getElem?_ext hi) j z hj
            refine ⟨u,?_,hr⟩
            simp only [World.cell?,hw,Option.isSome_none,Bool.false_eq_true,if_false]
            rw [←hu];congr 1
            rw [hes,Nat.add_mul];omega
        · subst hn0
          have:(ys.drop base).take 0=[]:=by simp
          rw [this] at h
          exact ⟨[],h,.inl ⟨rfl,_,_,rfl⟩⟩
      · exact h.elim
    · exact h.elim
  all_goals exact h.elim
omit hT hH in
theorem row_over {P:Program} {ek:EK} {H:AHeap} {Fs:Nat→List Nat} (hH:SatHF G ρ w H Fs) {lab:Nat} {xs zs:List ek.T} (hl:H[lab]? =some (some (.row ek xs))) {t:Root} (ht:ρ[lab]? =some t) {b:Nat} (hb:t.blk=some b)
    (p:Nat) (hp:p+zs.length≤xs.length) (news:List Value) (hn:news.length=zs.length*ek.esz) (h1: ∀v∈news,v.oneCell'=true)
    (hz: ∀(i:Nat) (y:ek.T),zs[i]? =some y→ ∀(j:Nat) (z:AV),(ek.enc y)[j]? =some z→ ∃u,news[i*ek.esz+j]? =some u∧RV1 G z u):
    ∃w',(storeCells ⟨b,t.off+p*ek.esz,none⟩ news).run P w= .ok () w'∧SatHF G ρ w' (H.set lab (some (.row ek (xs.take p++(zs++xs.drop (p+zs.length)))))) Fs∧
      Unt w w' H (H.set lab (some (.row ek (xs.take p++(zs++xs.drop (p+zs.length)))))) Fs Fs [lab]:=by
  obtain ⟨t',ht',hs⟩:=hH.sat _ _ hl
  rw [ht] at ht';cases ht'
  generalize hF:Fs lab=F at hs
  cases hs with
  |rownil hb' _=>rw [hb] at hb';cases hb'
  | @row _ _ sp _ b' c ty hb' hw h2 h3 hc=>
    rw [hb] at hb';cases hb'
    have hm1:(p+zs.length)*ek.esz≤t.tot*ek.esz:=Nat.mul_le_mul_right _ (by omega)
    rw [Nat.add_mul] at hm1
    obtain ⟨⟨c',g1,g2⟩,g3,g4,g5,g6,g7⟩:=setCells_heap (b:=b) (ty:=ty) news (t.off+p*ek.esz) w c hw
    have hrun:=run_storeCells_cells (P:=P) b (t.off+p*ek.esz) news 0 w (fun j hj=>by
        have:t.off+p*ek.esz+0+j<c.size:=by omega
        simp only [World.cell?,hw,Option.isSome_none,Bool.false_eq_true,if_false]
        rw [Array.getElem?_eq_getElem this];rfl) (fun j hj=>by simp [World.frozen?,hw]) h1
    simp only [Nat.add_zero] at hrun
    have hsz:c'.size=c.size:=by
      have:=congrArg List.length g2
      rw [setCells_length] at this
      simpa using this
    have hlen:(xs.take p++(zs++xs.drop (p+zs.length))).length=xs.length:=by simp;omega
    have hset:=SatH.set hH hl (.row ek (xs.take p++(zs++xs.drop (p+zs.length)))) [b] (w':=w.setCells b (t.off+p*ek.esz) news) (by omega) (fun x _ hx=>g3 x (fun he=>hx (by rw [hF,he];simp))) g5 g6 g7
      (fun r' hr'=>by
        rw [ht] at hr';cases hr'
        refine .row (sp:=sp) hb g1 (by omega) (by omega) fun i y hi j z hj=>?_
        have hjl:j<ek.esz:=by
          have:=(List.getElem?_eq_some_iff.1 hj).1
          rw [ek.enc_len] at this;exact this
        have hc2:c'[t.off+i*ek.esz+j]? =(setCells c.toList (t.off+p*ek.esz) news)[t.off+i*ek.esz+j]? :=by rw [←g2,Array.getElem?_toList]
        rw [hc2,setCells_get]
        by_cases hin:p≤i∧i<p+zs.length
        · have hmin:(xs.take p).length=p:=by simp;omega
          rw [List.getElem?_append_left (by omega),List.getElem?_append_right (by omega),List.getElem?_append_left (by omega)] at hi
          obtain ⟨u,hu,hr⟩:=hz _ y hi j z hj
          rw [hmin] at hu
          have hlt:=(List.getElem?_eq_some_iff.1 hu).1
          have hadd:i*ek.esz=p*ek.esz+(i-p)*ek.esz:=by rw [←Nat.add_mul];congr 1;omega
          refine ⟨u,?_,hr⟩
          rw [if_pos ⟨by omega,by omega,by simp;omega⟩,←hu]
          congr 1;omega
        · have hmin:(xs.take p).length=p:=by simp;omega
          have hold:(xs++sp)[i]? =some y:=by
            rw [←hi]
            by_cases h7:i<xs.length
            · have e1:(xs++sp)[i]? =xs[i]? :=List.getElem?_append_left h7
              have e2:((xs.take p++(zs++xs.drop (p+zs.length)))++sp)[i]? =(xs.take p++(zs++xs.drop (p+zs.length)))[i]? :=List.getElem?_append_left (by omega)
              rw [e1,e2]
              by_cases h6:i<p
              · rw [List.getElem?_append_left (by rw [hmin];exact h6),List.getElem?_take_of_lt h6]
              · rw [List.getElem?_append_right (by rw [hmin];omega),List.getElem?_append_right (by rw [hmin];omega),List.getElem?_drop,hmin]
                congr 1;omega
            · have e1:(xs++sp)[i]? =sp[i-xs.length]? :=List.getElem?_append_right (by omega)
              have e2:((xs.take p++(zs++xs.drop (p+zs.length)))++sp)[i]? =sp[i-(xs.take p++(zs++xs.drop (p+zs.length))).length]? :=List.getElem?_append_right (by omega)
              rw [e1,e2,hlen]
          obtain ⟨u,hu,hr⟩:=hc i y hold j z hj
          refine ⟨u,?_,hr⟩
          rw [if_neg ?_]
          · simpa using hu
          · rintro ⟨a1,a2,a3⟩
            by_cases h6:i<p
            · have:(i+1)*ek.esz≤p*ek.esz:=Nat.mul_le_mul_right _ h6
              rw [Nat.add_mul] at this
              omega
            · have:(p+zs.length)*ek.esz≤i*ek.esz:=Nat.mul_le_mul_right _ (by omega)
              rw [Nat.add_mul] at this
              omega)
      (fun y hy=>by
        simp at hy;subst hy
        have:y∈Fs lab:=by rw [hF];simp
        exact ⟨.inl this,by rw [g4];exact (hH.free _ _ y hl this).2⟩)
    have hFs:(fun x=>if x=lab then [b] else Fs x)=Fs:=by
      funext x
      by_cases hx:x=lab
      · subst hx;simp [hF]
      · simp [hx]
    rw [hFs] at hset
    refine ⟨_,hrun,hset,fun l o' hl' hT=>⟨?_,rfl,fun y hy=>g3 y (fun he=>?_)⟩⟩
    · have hne:l≠lab:=fun he=>hT (by simp [he])
      rw [List.getElem?_set_ne (Ne.symm hne)];exact hl'
    · subst he
      have:=hH.apart l o' lab _ y hl' hl hy (by rw [hF];simp)
      exact hT (by simp [this])
omit hT hH in
theorem run_copy {P:Program} {t e:TypeId} {ts:Array TypeId} (ty:TypeId) {ie:TypeInfo} (ht:ts[0]? =some t) (hu:P.underlying t=some (.slice e)) (hie:P.info? e=some ie) (base:Option Addr) (n cc:Nat) (a:Option Addr) (l c m:Nat) (hm:m=min l n)
    (news:List Value) (hf:(Builtin.firstCells ie.size m (.slice a l c)).run P w= .ok news.toArray w) {w':World} (hst: ∀ad,base=some ad→(storeCells ad news).run P w= .ok () w') (hno:base=none→w'=w):
    (Builtin.copy_ ts ty #[.slice base n cc,.slice a l c]).run P w= .ok (.int .i64 (m:Int)) w':=by
  have hm':Nat.min l n=m:=hm.symm
  cases base with
  |none=>
    have:=hno rfl
    subst this
    simp [Builtin.copy_,ht,run_und hu,Builtin.lenOf,sizeOf,typeInfo,hie,hm',hf,goInt]
  |some ad=>simp [Builtin.copy_,ht,run_und hu,Builtin.lenOf,sizeOf,typeInfo,hie,hm',hf,goInt,hst ad rfl]
theorem e_copy (xs:Array Operand) (ts:Array TypeId) (h:aop E ⟨dst,.call ⟨.builtin .copy,xs,ts⟩,ty,pos,af,gd⟩ st k):ERes E G ρ w st a ⟨dst,.call ⟨.builtin .copy,xs,ts⟩,ty,pos,af,gd⟩ Fs k:=by
  intro next Q hn
  simp only [aop] at h
  cases hv:evals st xs.toList with
  |none=>simp [hv] at h
  |some vs=>
    simp only [hv] at h
    have hr:=evals_rv hT hv
    obtain ⟨d,x,rfl⟩: ∃d x,vs=[d,x]:=by
      unfold abuiltin at h
      rcases vs with _ |⟨s,_ |⟨x,_ |⟨y,r⟩⟩⟩<;>first |exact ⟨_,_,rfl⟩ |exact h.elim
    simp only [abuiltin] at h
    simp only [RVs] at hr
    obtain ⟨dv,ws,hxs,hd,xv,ws2,rfl,hx,rfl⟩:=hr
    have hxs':xs.map a.eval= #[dv,xv]:=by
      apply Array.ext';simpa using hxs
    split at h
    · rename_i t tx hts
      have hts0:ts[0]? =some t:=by rw [←Array.getElem?_toList,hts];rfl
      split at h
      · rename_i e hu
        split at h
        · rename_i ek ie hek hie
          obtain ⟨hb,h2⟩:=br_elim h
          have he:=Nat.eq_of_beq_eq_true hb
          have hsz:ie.size=ek.esz:=by rw [←he];simp [Program.cellsOf,hie]
          obtain ⟨ys,hk,hsrc⟩:=rowOf_cells (G:=G) (ρ:=ρ) hH h2 hx
          have hexec: ∀v w',(Builtin.copy_ ts ty #[dv,xv]).run E.P w= .ok v w'→(execOp a.eval ⟨dst,.call ⟨.builtin .copy,xs,ts⟩,ty,pos,af,gd⟩).run E.P w= .ok (.value v) w':=by
            intro v w' hr
            rw [run_resolve_builtin,hxs']
            simp [builtin,hr]
          have hfirst: ∀m,m≤ys.length→ ∃(aa:Option Addr) (c:Nat) (news:List Value),xv= .slice aa ys.length c∧(Builtin.firstCells ie.size m xv).run E.P w= .ok news.toArray w∧news.length=m*ek.esz∧(∀v∈news,v.oneCell'=true)∧
              ∀(i:Nat) (y:ek.T),(ys.take m)[i]? =some y→ ∀(j:Nat) (z:AV),(ek.enc y)[j]? =some z→ ∃u,news[i*ek.esz+j]? =some u∧RV1 G z u:=by
            intro m hm
            rcases hsrc with ⟨rfl,aa,c,rfl⟩ |⟨b,o,c,rfl,hc⟩
            · have hm0:m=0:=by simpa using hm
              subst hm0
              refine ⟨aa,c,[],rfl,?_,by simp,by simp,by simp⟩
              cases aa with
              |none=>exact run_firstCells_none w ie.size 0 0 c
              |some ad=>exact run_firstCells_some w ie.size 0 ad 0 c [] (by simp) (by simp)
            · have hin: ∀q,q<m*ek.esz→ ∃u z,w.cell? ⟨b,o+q,none⟩=some u∧RV1 G z u∧z.flat=true:=by
                intro q hq
                have hpos:=ek.esz_pos
                have hi:q/ek.esz<m:=(Nat.div_lt_iff_lt_mul hpos).2 hq
                have hj:q%ek.esz<ek.esz:=Nat.mod_lt _ hpos
                have hlen:=ek.enc_len (ys[q/ek.esz]'(by omega))
                obtain ⟨u,hu,hr⟩:=hc (q/ek.esz) _ (List.getElem?_eq_getElem (by omega)) (q%ek.esz) _ (List.getElem?_eq_getElem (by omega))
                have hdm:q/ek.esz*ek.esz+q%ek.esz=q:=by
                  rw [Nat.mul_comm];exact Nat.div_add_mod q ek.esz
                rw [hdm] at hu
                exact ⟨u,_,hu,hr,List.all_eq_true.1 (enc_flat ek _) _ (List.getElem_mem _)⟩
              let f:Nat→Value:=fun q=>(w.cell? ⟨b,o+q,none⟩).getD undef
              refine ⟨_,c,(List.range (m*ek.esz)).map f,rfl,?_,by simp,fun u hu=>?_,fun i y hi j z hj=>?_⟩
              · refine run_firstCells_some w ie.size m ⟨b,o,none⟩ ys.length c _ (by simp [hsz]) (fun j u hj=>?_)
                have hjl:j<m*ek.esz:=by
                  have:=(List.getElem?_eq_some_iff.1 hj).1
                  simpa using this
                obtain ⟨u',z,hu',_⟩:=hin j hjl
                simp [hjl,f] at hj
                rw [addr_add,←hj,hu']
                rfl
              · obtain ⟨q,hq,rfl⟩:=List.mem_map.1 hu
                obtain ⟨u',z,hu',hr,hfl⟩:=hin q (by simpa using hq)
                simp only [f,hu']
                refine one_of (G:=G) (ρ:=ρ) hr.rv ?_
                cases z<;>simp [AV.flat] at hfl<;>rfl
              · have him:i<m:=by
                  have:=(List.getElem?_eq_some_iff.1 hi).1
                  simp at this;omega
                rw [List.getElem?_take_of_lt him] at hi
                obtain ⟨u,hu,hr⟩:=hc i y hi j z hj
                have hjl:j<ek.esz:=by
                  have:=(List.getElem?_eq_some_iff.1 hj).1
                  rw [ek.enc_len] at this;exact this
                have hlt:i*ek.esz+j<m*ek.esz:=by
                  have:(i+1)*ek.esz≤m*ek.esz:=Nat.mul_le_mul_right _ him
                  rw [Nat.add_mul] at this;omega
                exact ⟨u,by simp [hlt,f,hu],hr⟩
          split at hk
          · rename_i lab esz base n
            split at hk
            · rename_i e2 rs hl
              split at hk
              · rename_i he2
                subst he2
                replace hk:=br_elim hk
                obtain ⟨hes,hle,hk⟩:=hk
                have hes:=Nat.eq_of_beq_eq_true hes
                subst hes
                replace hk:=hk _ rfl
                rw [forceL_eq] at hk
                obtain ⟨aa,c,news,rfl,hf,hnl,hone,hnews⟩:=hfirst (min ys.length n) (Nat.min_le_left _ _)
                simp only [RV] at hd
                obtain ⟨tt,htt,htot,hd⟩:=hd
                rcases hd with ⟨b,hbk,rfl⟩ |⟨hn0,htb,ad,rfl⟩
                · have htl:(ys.take (min ys.length n)).length=min ys.length n:=by simp
                  obtain ⟨w',hst,hsat,hun⟩:=row_over (P:=E.P) (zs:=ys.take (min ys.length n)) hH hl htt hbk base (by rw [htl];omega) news (by rw [htl];exact hnl) hone hnews
                  rw [htl] at hsat hun
                  have hrun:=hexec _ _ (run_copy (P:=E.P) (w:=w) ty hts0 hu hie _ n _ aa ys.length c _ rfl news hf (w':=w') (fun ad had=>by cases had;exact hst) (fun h=>by cases h))
                  unfold Oper.wp
                  rw [hrun,Oper.upon_value]
                  exact hn [] _ _ _ Fs _ w' hk (fun q hq=>by simp at hq;subst hq;exact rvI) (by simpa using hsat) hun
                · subst hn0
                  have hm0:min ys.length 0=0:=by omega
                  rw [hm0] at hk hf hnl
                  have hnn:news=[]:=List.eq_nil_of_length_eq_zero (by simpa using hnl)
                  subst hnn
                  have hself:rs.take base++(ys.take 0++rs.drop (base+0))=rs:=by simp
                  simp only [] at hk
                  rw [hself] at hk
                  have hrun:=hexec _ _ (run_copy (P:=E.P) (w:=w) ty hts0 hu hie ad 0 0 aa ys.length c 0 (by omega) [] hf (w':=w) (fun ad had=>by simp [storeCells]) (fun _=>rfl))
                  have hset:st.heap.set lab (some (.row e2 rs))=st.heap:=by
                    apply List.ext_getElem?
                    intro q
                    by_cases hq:lab=q
                    · subst hq
                      rw [List.getElem?_set_self (hH.lab hl),hl]
                    · rw [List.getElem?_set_ne hq]
                  rw [hset] at hk
                  unfold Oper.wp
                  rw [hrun,Oper.upon_value]
                  exact hn [] _ _ _ Fs _ w hk (fun q hq=>by simp at hq;subst hq;exact rvI) (by simpa using hH) (fun l ob hl' _=>⟨hl',rfl,fun _ _=>rfl⟩)
              · exact hk.elim
            · exact hk.elim
          · obtain ⟨aa,c,news,rfl,hf,hnl,hone,hnews⟩:=hfirst 0 (Nat.zero_le _)
            simp only [RV] at hd
            subst hd
            have hrun:=hexec _ _ (run_copy (P:=E.P) (w:=w) ty hts0 hu hie none 0 0 aa ys.length c 0 (by omega) news hf (w':=w) (fun ad had=>by cases had) (fun _=>rfl))
            unfold Oper.wp
            rw [hrun,Oper.upon_value]
            exact hn [] _ _ _ Fs _ w hk (fun q hq=>by simp at hq;subst hq;exact rvI) (by simpa using hH) (fun l ob hl' _=>⟨hl',rfl,fun _ _=>rfl⟩)
          · exact hk.elim
        · exact h.elim
      · exact h.elim
    · exact h.elim
theorem e_clear (xs:Array Operand) (ts:Array TypeId) (h:aop E ⟨dst,.call ⟨.builtin .clear,xs,ts⟩,ty,pos,af,gd⟩ st k):ERes E G ρ w st a ⟨dst,.call ⟨.builtin .clear,xs,ts⟩,ty,pos,af,gd⟩ Fs k:=by
  intro next Q hn
  simp only [aop] at h
  cases hv:evals st xs.toList with
  |none=>simp [hv] at h
  |some vs=>
    simp only [hv] at h
    have hr:=evals_rv hT hv
    obtain ⟨x,rfl⟩: ∃x,vs=[x]:=by
      unfold abuiltin at h
      rcases vs with _ |⟨s,_ |⟨x,r⟩⟩<;>first |exact ⟨_,rfl⟩ |exact h.elim
    simp only [abuiltin] at h
    simp only [RVs] at hr
    obtain ⟨xv,ws,hxs,hx,rfl⟩:=hr
    have hxs':xs.map a.eval= #[xv]:=by
      apply Array.ext';simpa using hxs
    split at h
    · rename_i t ht
      split at h
      · rename_i e hu
        split at h
        · rename_i ek z hek hz
          split at h
          · rename_i x0 hx0
            replace h:=br_elim h
            obtain ⟨hzl,h⟩:=h
            have hzl:=Nat.eq_of_beq_eq_true hzl
            obtain ⟨iz,zv,hiz,hzv,hzr⟩:=zero_rv (G:=G) (ρ:=ρ) hz
            have hzs:zv.cells.size=ek.esz:=by
              have:=hzr.len
              simp at this;omega
            have hrv0:RV G ρ (.tup []) (.tuple #[]):=by simp only [RV];exact ⟨#[],rfl,by simp [RVs]⟩
            split at h
            · rename_i lab esz base n
              split at h
              · rename_i e2 rs hl
                split at h
                · rename_i he2
                  subst he2
                  replace h:=br_elim h
                  obtain ⟨hes,hle,h⟩:=h
                  have hes:=Nat.eq_of_beq_eq_true hes
                  subst hes
                  rw [forceL_eq] at h
                  simp only [RV] at hx
                  obtain ⟨tt,htt,htot,hx⟩:=hx
                  have hnl:(Builtin.zeroCells zv.cells n).toList.length=n*e2.esz:=by simp [Builtin.zeroCells,hzs]
                  have hsp:=fun i hi j y hj=>spare_zero (G:=G) (ρ:=ρ) hx0 hzr hzl 0 n (pre:= #[]) (by simp) i hi j y hj
                  have hnews: ∀(i:Nat) (y:e2.T),(List.replicate n x0)[i]? =some y→ ∀(j:Nat) (z:AV),(e2.enc y)[j]? =some z→ ∃u,(Builtin.zeroCells zv.cells n).toList[i*e2.esz+j]? =some u∧RV1 G z u:=by
                    intro i y hi j z hj
                    rw [List.getElem?_replicate] at hi
                    split at hi
                    · rename_i hlt
                      simp at hi;subst hi
                      obtain ⟨u,hu,hr⟩:=hsp i hlt j z hj
                      exact ⟨u,by simpa using hu,hr⟩
                    · cases hi
                  have hone: ∀v∈(Builtin.zeroCells zv.cells n).toList,v.oneCell'=true:=by
                    intro v hv
                    obtain ⟨q,hq,rfl⟩:=List.getElem_of_mem hv
                    rw [hnl] at hq
                    have hpos:=e2.esz_pos
                    have hi:q/e2.esz<n:=(Nat.div_lt_iff_lt_mul hpos).2 hq
                    have hj:q%e2.esz<e2.esz:=Nat.mod_lt _ hpos
                    have hlen:=e2.enc_len x0
                    obtain ⟨u,hu,hr⟩:=hnews (q/e2.esz) x0 (by simp [hi]) (q%e2.esz) _ (List.getElem?_eq_getElem (by omega))
                    have hdm:q/e2.esz*e2.esz+q%e2.esz=q:=by
                      rw [Nat.mul_comm];exact Nat.div_add_mod q e2.esz
                    rw [hdm] at hu
                    rw [List.getElem?_eq_getElem (by rw [hnl];exact hq)] at hu
                    simp at hu
                    have hfl:=List.all_eq_true.1 (enc_flat e2 x0) _ (List.getElem_mem (h:=(by omega:q%e2.esz<(e2.enc x0).length)))
                    have:u.oneCell'=true:=by
                      refine one_of (G:=G) (ρ:=ρ) hr.rv ?_
                      revert hfl
                      generalize (e2.enc x0)[q%e2.esz]=q'
                      intro hfl
                      cases q'<;>simp [AV.flat] at hfl<;>rfl
                    simpa [hu] using this
                  rcases hx with ⟨b,hbk,rfl⟩ |⟨hn0,htb,ad,rfl⟩
                  · obtain ⟨w',hst,hsat,hun⟩:=row_over (P:=E.P) (zs:=List.replicate n x0) hH hl htt hbk base (by simp;omega) _ (by rw [hnl];simp) hone hnews
                    simp only [List.length_replicate] at hsat hun
                    have hrun:(execOp a.eval ⟨dst,.call ⟨.builtin .clear,xs,ts⟩,ty,pos,af,gd⟩).run E.P w= .ok (.value (.tuple #[])) w':=by
                      rw [run_resolve_builtin,hxs']
                      by_cases hn0:n=0
                      · subst hn0
                        have:w'=w:=by
                          have hnil:(Builtin.zeroCells zv.cells 0).toList=[]:=by simp [Builtin.zeroCells]
                          rw [hnil] at hst
                          simpa [storeCells] using hst.symm
                        subst this
                        simp [builtin,Builtin.clear_,ht,run_und hu]
                      · simp [builtin,Builtin.clear_,ht,run_und hu,hn0,zeroValue,typeInfo,hiz,hzv,hst]
                    unfold Oper.wp
                    rw [hrun,Oper.upon_value]
                    exact hn [] _ _ _ Fs _ w' h (fun q hq=>by simp at hq;subst hq;simp only [RV];exact ⟨#[],rfl,by simp [RVs]⟩) (by simpa using hsat) hun
                  · subst hn0
                    have hself:rs.take base++(List.replicate 0 x0++rs.drop (base+0))=rs:=by simp
                    simp only [] at h
                    rw [hself] at h
                    have hset:st.heap.set lab (some (.row e2 rs))=st.heap:=by
                      apply List.ext_getElem?
                      intro q
                      by_cases hq:lab=q
                      · subst hq
                        rw [List.getElem?_set_self (hH.lab hl),hl]
                      · rw [List.getElem?_set_ne hq]
                    rw [hset] at h
                    have hrun:(execOp a.eval ⟨dst,.call ⟨.builtin .clear,xs,ts⟩,ty,pos,af,gd⟩).run E.P w= .ok (.value (.tuple #[])) w:=by
                      rw [run_resolve_builtin,hxs']
                      cases ad<;>simp [builtin,Builtin.clear_,ht,run_und hu]
                    unfold Oper.wp
                    rw [hrun,Oper.upon_value]
                    exact hn [] _ _ _ Fs _ w h (fun q hq=>by simp at hq;subst hq;simp only [RV];exact ⟨#[],rfl,by simp [RVs]⟩) (by simpa using hH) (fun l ob hl' _=>⟨hl',rfl,fun _ _=>rfl⟩)
                · exact h.elim
              · exact h.elim
            · simp only [RV] at hx
              subst hx
              have hrun:(execOp a.eval ⟨dst,.call ⟨.builtin .clear,xs,ts⟩,ty,pos,af,gd⟩).run E.P w= .ok (.value (.tuple #[])) w:=by
                rw [run_resolve_builtin,hxs']
                simp [builtin,Builtin.clear_,ht,run_und hu]
              unfold Oper.wp
              rw [hrun,Oper.upon_value]
              exact hn [] _ _ _ Fs _ w h (fun q hq=>by simp at hq;subst hq;simp only [RV];exact ⟨#[],rfl,by simp [RVs]⟩) (by simpa using hH) (fun l ob hl' _=>⟨hl',rfl,fun _ _=>rfl⟩)
            · exact h.elim
          · exact h.elim
        · exact h.elim
      · exact h.elim
    · exact h.elim
theorem e_cap (xs:Array Operand) (ts:Array TypeId) (h:aop E ⟨dst,.call ⟨.builtin .cap,xs,ts⟩,ty,pos,af,gd⟩ st k):ERes E G ρ w st a ⟨dst,.call ⟨.builtin .cap,xs,ts⟩,ty,pos,af,gd⟩ Fs k:=by
  intro next Q hn
  simp only [aop] at h
  cases hv:evals st xs.toList with
  |none=>simp [hv] at h
  |some vs=>
    simp only [hv] at h
    have hr:=evals_rv hT hv
    unfold abuiltin at h
    split at h
    · rename_i hb;cases hb
    · rename_i x hb
      simp only [RVs] at hr
      obtain ⟨v,ws,hxs,hx,rfl⟩:=hr
      have hxs':xs.map a.eval= #[v]:=by
        apply Array.ext';simpa using hxs
      split at h
      · rename_i t ht
        split at h
        · rename_i e lab es base n hu
          split at h
          · rename_i ek rs hl
            simp only [RV] at hx
            obtain ⟨tt,htt,hle,hx⟩:=hx
            obtain ⟨t',ht',hsat⟩:=hH.sat _ _ hl
            rw [htt] at ht';cases ht'
            have key: ∃sp:List ek.T,rs.length+sp.length=tt.tot∧Sat G ρ w (.row ek (rs++sp)) tt (Fs lab):=by
              generalize Fs lab=F at hsat
              cases hsat with
              | @row _ _ sp _ b c ty hb hw h2 h3 hc=>exact ⟨sp,h2,.row (sp:=[]) hb hw (by simp;omega) h3 (by simpa using hc)⟩
              |rownil hb ht=>exact ⟨[],by simp [ht],.rownil hb ht⟩
            obtain ⟨sp,hsp,hsat'⟩:=key
            have hk:=h sp
            rw [forceL_eq] at hk
            have hc: ∃aa m,v= .slice aa m (rs.length+sp.length-base):=by
              rcases hx with ⟨b,_,rfl⟩ |⟨rfl,h2,aa,rfl⟩
              · exact ⟨_,_,by rw [hsp]⟩
              · refine ⟨aa,0,?_⟩
                rw [hsp,h2,Nat.sub_self]
            obtain ⟨aa,m,rfl⟩:=hc
            have hrun:(execOp a.eval ⟨dst,.call ⟨.builtin .cap,xs,ts⟩,ty,pos,af,gd⟩).run E.P w= .ok (.value (.int .i64 ((rs.length+sp.length-base:Nat):Int))) w:=by
              rw [run_resolve_builtin];simp [builtin,hxs',Builtin.cap_,ht,run_und hu,goInt]
            have hlt:=hH.lab hl
            have hset:=SatH.set hH hl (.row ek (rs++sp)) (Fs lab) (w':=w) (Nat.le_refl _) (fun _ _ _=>rfl) .rfl rfl rfl (fun r' hr'=>by rw [htt] at hr';cases hr';exact hsat') (fun b hb=>⟨.inl hb,(hH.free _ _ b hl hb).2⟩)
            have hFs:(fun x=>if x=lab then Fs lab else Fs x)=Fs:=by
              funext x
              by_cases hx:x=lab
              · subst hx;simp
              · simp [hx]
            rw [hFs] at hset
            unfold Oper.wp
            rw [hrun,Oper.upon_value]
            refine hn [] _ _ _ Fs _ w hk (fun q hq=>by simp at hq;subst hq;simp only [RV,List.append_nil];refine ⟨trivial,tt,htt,?_⟩;rw [hsp]) (by simpa using hset) (fun l ob hl' hTl=>⟨?_,rfl,fun _ _=>rfl⟩)
            have hne:l≠lab:=fun he=>hTl (by simp [he])
            rw [List.getElem?_set_ne (Ne.symm hne)];exact hl'
          · exact h.elim
        · rename_i e hu
          simp only [RV] at hx;subst hx
          have hrun:(execOp a.eval ⟨dst,.call ⟨.builtin .cap,xs,ts⟩,ty,pos,af,gd⟩).run E.P w= .ok (.value (.int .i64 0)) w:=by
            rw [run_resolve_builtin];simp [builtin,hxs',Builtin.cap_,ht,run_und hu,goInt]
          unfold Oper.wp
          rw [hrun,Oper.upon_value]
          exact hn [] _ _ _ Fs _ w h (fun q hq=>by simp at hq;subst hq;exact rvI) (by simpa using hH) (fun l ob hl' _=>⟨hl',rfl,fun _ _=>rfl⟩)
        · exact h.elim
      · exact h.elim
    all_goals first |(rename_i hb;cases hb;done) |(rename_i hb _;cases hb;done) |(rename_i hb _ _;cases hb;done) |exact h.elim
end
theorem eff_sound {E:Env} (hE:E.OK) {st:AS} {a:Act} {Fs:Nat→List Nat} {k:KT} {o:Oper} (hT:TR G ρ st.tmps a.tmps) (hH:SatHF G ρ w st.heap Fs) (hq:quietOp o.op=false) (h:aop E o st k):
    ERes E G ρ w st a o Fs k:=by
  intro next Q hn'
  obtain ⟨dst,op,ty,pos,af,gd⟩:=o
  cases op with
  |alloc e=>exact e_alloc dst ty pos af gd hT hH e h next Q hn'
  |box e x=>exact e_box dst ty pos af gd hT hH e x h next Q hn'
  |store t x y=>exact e_store dst ty pos af gd hT hH t x y h next Q hn'
  |buildSlice t n p=>exact e_buildSlice dst ty pos af gd hT hH t n p h next Q hn'
  |makeSlice t l c=>exact e_makeSlice dst ty pos af gd hT hH t l c h next Q hn'
  |makeMap t x=>exact e_makeMap dst ty pos af gd hT hH t x h next Q hn'
  |lookup t m x c=>exact e_lookup dst ty pos af gd hT hH t m x c h next Q hn'
  |mapUpdate t m x y=>exact e_mapUpdate dst ty pos af gd hT hH t m x y h next Q hn'
  |call c=>
    obtain ⟨cal,xs,ts⟩:=c
    cases cal with
    |value f=>exact e_call dst ty pos af gd hT hH hE f xs ts h next Q hn'
    |builtin b=>
      by_cases hb:b= .append
      · subst hb
        exact e_append dst ty pos af gd hT hH xs ts h next Q hn'
      · by_cases hb2:b= .cap
        · subst hb2
          exact e_cap dst ty pos af gd hT hH xs ts h next Q hn'
        by_cases hb3:b= .copy
        · subst hb3
          exact e_copy dst ty pos af gd hT hH xs ts h next Q hn'
        by_cases hb4:b= .clear
        · subst hb4
          exact e_clear dst ty pos af gd hT hH xs ts h next Q hn'
        exfalso
        simp only [aop] at h
        cases hv:evals st xs.toList with
        |none=>simp [hv] at h
        |some vs=>
          simp only [hv] at h
          cases b<;>simp [quietOp] at hq hb hb2 hb3 hb4<;>simp [abuiltin] at h
    |invoke r m=>simp [aop] at h
  |_=>simp [quietOp] at hq<;>simp [aop] at h
end Go.Ax
