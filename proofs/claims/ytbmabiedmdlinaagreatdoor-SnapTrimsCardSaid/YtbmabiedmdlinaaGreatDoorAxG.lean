import Derived.Test.YtbmabiedmdlinaaGreatDoorAx23
import Derived.KernelRfl
set_option linter.all false
namespace Go.Ax
variable [Surr] {G G':Gam} {ρ ρ':List Root} {w w':World}
theorem LabsOK.set {H H':AHeap} {lab:Nat} {o:Option AObj}: ∀{ks:List VK} {x:prodT ks} {ls:List (Option Nat)} {ss:List Slot},LabsOK ρ H H' ks x ls ss→some lab∉ls→LabsOK ρ H (H'.set lab o) ks x ls ss
  | [],_,_,_,h,_=>h
  |k::ks,x,_,_,⟨l,ls',s1,s2,h1,h2,h4,h5,h6,h7⟩,hn=>by
    subst h1
    refine ⟨l,ls',s1,s2,rfl,h2,h4,fun lab' hl=>?_,h6,h7.set fun hm=>hn (by simp [hm])⟩
    obtain ⟨s,g1,g2,g3,g4⟩:=h5 lab' hl
    refine ⟨s,g1,g2,?_,g4⟩
    rw [List.getElem?_set_ne (fun e=>hn (by rw [hl,e];simp))]
    exact g3
theorem Pool.sub {H:AHeap} {Fs:Nat→List Nat} {P P':List Nat} (h:Pool G w H Fs P) (hs: ∀b,b∈P'→b∈P):Pool G w H Fs P':=fun b hb=>h b (hs b hb)
theorem putOne_none (os:List AObj) (H:AHeap):putOne os none H=H:=by
  unfold putOne
  split
  · rename_i h;cases h
  · rfl
theorem put_all {ρc:List Root} {H0:AHeap}: ∀(A:AKs) {x:prodT (A.map (·.1))} {n:Nat} {y:keepT A} {ls:List (Option Nat)} {ss kss:List Slot} {H:AHeap} {Fs:Nat→List Nat},SatHF G ρ w H Fs→LabsOK ρ H0 H _ x ls ss→
    (∀(i:Nat) (s:Slot),ss[i]? =some s→ρc[n+i]? =some s.1)→Kept ρc A x n y kss→(∀(i:Nat) (o:AObj) (s:Slot),(keptObjs A y)[i]? =some o→kss[i]? =some s→Sat G ρ w o s.1 s.2)→Pool G w H Fs (blk kss)→
    (∀(i j:Nat) (s t:Slot) (b:Nat),kss[i]? =some s→kss[j]? =some t→b∈s.2→b∈t.2→i=j)→
    ∃Fs',SatHF G ρ w (putKept A y ls H) Fs'∧(∀(l:Nat) (o:AObj),H[l]? =some (some o)→(putKept A y ls H)[l]? =some (some o)∧Fs' l=Fs l)∧
      ∀P,Pool G w H Fs P→(∀b,b∈P→b∉blk kss)→Pool G w (putKept A y ls H) Fs' P
  | [],x,n,y,ls,ss,kss,H,Fs,hs,hl,hro,hk,hsat,hp,hap=>⟨Fs,hs,fun l o h=>⟨h,rfl⟩,fun P h _=>h⟩
  |(k,false)::A,x,n,y,ls,ss,kss,H,Fs,hs,hl,hro,hk,hsat,hp,hap=>by
    obtain ⟨l,ls',s1,s2,rfl,rfl,h4,h5,h6,h7⟩:=hl
    simp only [putKept]
    obtain ⟨q1,q2⟩:=slots_tail h4 hro
    exact put_all A hs h7 q2 hk hsat hp hap
  |(k,true)::A,x,n,y,ls,ss,kss,H,Fs,hs,hl,hro,hk,hsat,hp,hap=>by
    obtain ⟨l,ls',s1,s2,rfl,rfl,h4,h5,h6,h7⟩:=hl
    obtain ⟨k1,k2,rfl,g1,g2,g3,g4⟩:=hk
    simp only [putKept]
    obtain ⟨q1,q2⟩:=slots_tail h4 hro
    have hsat2: ∀(i:Nat) (o:AObj) (s:Slot),(keptObjs A y.2)[i]? =some o→k2[i]? =some s→Sat G ρ w o s.1 s.2:=fun i o s ho hs'=>by
      refine hsat (k1.length+i) o s ?_ ?_
      · simp only [keptObjs]
        rw [List.getElem?_append_right (by omega),g1]
        simpa using ho
      · rw [List.getElem?_append_right (by omega)]
        simpa using hs'
    have hap2: ∀(i j:Nat) (s t:Slot) (b:Nat),k2[i]? =some s→k2[j]? =some t→b∈s.2→b∈t.2→i=j:=fun i j s t b h1 h2 h3 h4=>by
      have:=hap (k1.length+i) (k1.length+j) s t b (by rw [List.getElem?_append_right (by omega)];simpa using h1) (by rw [List.getElem?_append_right (by omega)];simpa using h2) h3 h4
      omega
    have hdis: ∀b,b∈blk k1→b∉blk k2:=fun b hb1 hb2=>by
      obtain ⟨s,hs1,hb1⟩:=mem_blk.1 hb1
      obtain ⟨t,ht,hb2⟩:=mem_blk.1 hb2
      obtain ⟨i,hi⟩:=List.getElem?_of_mem hs1
      obtain ⟨j,hj⟩:=List.getElem?_of_mem ht
      have:=hap i (k1.length+j) s t b (getElem?_ext hi) (by rw [List.getElem?_append_right (by omega)];simpa using hj) hb1 hb2
      have:=(List.getElem?_eq_some_iff.1 hi).1
      omega
    rw [blk_append] at hp
    have hp2:Pool G w H Fs (blk k2):=hp.sub fun b hb=>by simp [hb]
    cases l with
    |none=>
      rw [putOne_none]
      obtain ⟨Fs',r1,r2,r3⟩:=put_all A hs h7 q2 g4 hsat2 hp2 hap2
      refine ⟨Fs',r1,r2,fun P hP hd=>r3 P hP fun b hb hb2=>hd b hb ?_⟩
      rw [blk_append];simp [hb2]
    |some lab=>
      obtain ⟨s,e1,e2,e3,e4⟩:=h5 lab rfl
      subst e1
      have hlen1:(k.objs y.1).length=1:=by rw [←g2,←h4];rfl
      obtain ⟨o,ho⟩:=List.length_eq_one_iff.1 hlen1
      have hk1:k1.length=1:=by rw [g1,hlen1]
      obtain ⟨t,ht⟩:=List.length_eq_one_iff.1 hk1
      subst ht
      have hput:putOne (k.objs y.1) (some lab) H=H.set lab (some o):=by rw [ho];rfl
      rw [hput]
      have hroot:t.1=s.1:=by
        have a1:=g3 t rfl
        have a2:=q1 0 s rfl
        rw [Nat.add_zero] at a2
        rw [a1] at a2;simpa using a2
      have hso:Sat G ρ w o t.1 t.2:=hsat 0 o t (by simp [keptObjs,ho]) (by simp)
      have hadd:=hs.add e3 (o:=o) (r:=s.1) (F:=t.2) e2 (by rw [←hroot];exact hso) (hp.sub fun b hb=>by simp [blk,hb])
      have hne:some lab∉ls':=h6 lab rfl
      have hlt:=(List.getElem?_eq_some_iff.1 e3).1
      have hpool: ∀P,Pool G w H Fs P→(∀b,b∈P→b∉t.2)→Pool G w (H.set lab (some o)) (fun x=>if x=lab then t.2 else Fs x) P:=fun P hP hd b hb=>by
        refine ⟨(hP b hb).1,fun l' o' hl'=>?_⟩
        by_cases hll:l'=lab
        · simp only [hll,if_true];exact hd b hb
        · rw [List.getElem?_set_ne (Ne.symm hll)] at hl'
          simp only [hll,if_false]
          exact (hP b hb).2 l' o' hl'
      have hd1: ∀b,b∈t.2→b∉blk k2:=fun b hb=>hdis b (by simp [blk,hb])
      obtain ⟨Fs',r1,r2,r3⟩:=put_all A hadd (h7.set hne) q2 g4 hsat2 (hpool _ hp2 fun b hb hb2=>hd1 b hb2 hb) hap2
      refine ⟨Fs',r1,fun l' o' hl'=>?_,fun P hP hd=>r3 P (hpool P hP fun b hb hb2=>hd b hb ?_) fun b hb hb2=>hd b hb ?_⟩
      · have hll:l'≠lab:=fun e=>by rw [e,e3] at hl';cases hl'
        obtain ⟨a1,a2⟩:=r2 l' o' (by rw [List.getElem?_set_ne (Ne.symm hll)];exact hl')
        exact ⟨a1,by simpa [hll] using a2⟩
      · rw [blk_append];simp [blk,hb2]
      · rw [blk_append];simp [hb2]
theorem push_all: ∀(os:List AObj) {ss:List Slot} {ρ:List Root} {H:AHeap} {Fs:Nat→List Nat},SatHF G ρ w H Fs→ss.length=os.length→(∀(i:Nat) (o:AObj) (s:Slot),os[i]? =some o→ss[i]? =some s→ ∀ρ,Sat G ρ w o s.1 s.2)→Pool G w H Fs (blk ss)→
    (∀(i j:Nat) (s t:Slot) (b:Nat),ss[i]? =some s→ss[j]? =some t→b∈s.2→b∈t.2→i=j)→
    ∃Fs',SatHF G (ρ++ss.map (·.1)) w (H++os.map some) Fs'∧ ∀(l:Nat) (o:AObj),H[l]? =some (some o)→Fs' l=Fs l
  | [],ss,ρ,H,Fs,hs,hlen,hsat,hp,hap=>by
    have:ss=[]:=List.eq_nil_of_length_eq_zero hlen
    subst this
    exact ⟨Fs,by simpa using hs,fun _ _ _=>rfl⟩
  |o::os,[],ρ,H,Fs,hs,hlen,hsat,hp,hap=>by simp at hlen
  |o::os,s::ss,ρ,H,Fs,hs,hlen,hsat,hp,hap=>by
    have hadd:=hs.add_new (o:=o) (r:=s.1) (F:=s.2) (hsat 0 o s rfl rfl _) (hp.sub fun b hb=>by simp [blk,hb])
    have hdis: ∀b,b∈blk ss→b∉s.2:=fun b hb hb2=>by
      obtain ⟨t,ht,hb⟩:=mem_blk.1 hb
      obtain ⟨j,hj⟩:=List.getElem?_of_mem ht
      have:=hap 0 (j+1) s t b rfl (by simpa using hj) hb2 hb
      omega
    obtain ⟨Fs',r1,r2⟩:=push_all os (ss:=ss) hadd (by simpa using hlen) (fun i o s ho hs=>hsat (i+1) o s (by simpa using ho) (by simpa using hs)) (fun b hb=>by
        refine ⟨(hp b (by simp only [blk,List.flatMap_cons,List.mem_append];exact .inr hb)).1,fun l' o' hl'=>?_⟩
        by_cases hll:l'=H.length
        · simp only [hll,if_true];exact hdis b hb
        · simp only [hll,if_false]
          have hlt:l'<H.length:=by
            have:=(List.getElem?_eq_some_iff.1 hl').1
            simp at this;omega
          rw [List.getElem?_append_left hlt] at hl'
          exact (hp b (by simp only [blk,List.flatMap_cons,List.mem_append];exact .inr hb)).2 l' o' hl')
      (fun i j s t b h1 h2 h3 h4=>by
        have:=hap (i+1) (j+1) s t b (by simpa using h1) (by simpa using h2) h3 h4
        omega)
    refine ⟨Fs',by simpa using r1,fun l' o' hl'=>?_⟩
    have hlt:=(List.getElem?_eq_some_iff.1 hl').1
    have:=r2 l' o' (by rw [List.getElem?_append_left hlt];exact hl')
    simpa [show l'≠H.length by omega] using this
theorem objs_clean {k:VK} (h:k.clean=true) (d:k.T): ∀o,o∈k.objs d→o.clean=true:=by
  intro o ho
  cases k<;>simp only [VK.objs] at ho<;>try (simp at ho;done)
  · simp at ho;subst ho;exact h
  · split at ho<;>simp at ho;subst ho;exact h
  · simp at ho;subst ho;exact h
  · simp at ho;subst ho;exact h
theorem objsAll_clean: ∀{ks:List VK} (_:ks.all VK.clean=true) (x:prodT ks),∀o,o∈objsAll ks x→o.clean=true
  | [],_,_,o,ho=>by simp [objsAll] at ho
  |k::ks,h,x,o,ho=>by
    simp only [List.all_cons,Bool.and_eq_true] at h
    simp only [objsAll,List.mem_append] at ho
    rcases ho with ho |ho
    · exact objs_clean h.1 _ o ho
    · exact objsAll_clean h.2 _ o ho
theorem keptObjs_clean: ∀{A:AKs} (_:(A.all fun p=>!p.2||p.1.clean)=true) (y:keepT A),∀o,o∈keptObjs A y→o.clean=true
  | [],_,_,o,ho=>by simp [keptObjs] at ho
  |(k,true)::A,h,y,o,ho=>by
    simp only [List.all_cons,Bool.and_eq_true] at h
    simp only [keptObjs,List.mem_append] at ho
    rcases ho with ho |ho
    · exact objs_clean (by simpa using h.1) _ o ho
    · exact keptObjs_clean h.2 _ o ho
  |(k,false)::A,h,y,o,ho=>by
    simp only [List.all_cons,Bool.and_eq_true] at h
    exact keptObjs_clean h.2 _ o ho
def tupTake (ks:List VK) (v:AV) (H:AHeap) (K:prodT ks→AHeap→Prop):Prop:=match v with
  | .tup vs=>takeVs ks vs H fun x H _=>K x H
  |_=>False
theorem tup_sound {ks:List VK} {v:AV} {u:Value} {H:AHeap} {Fs:Nat→List Nat} {K:prodT ks→AHeap→Prop} (hs:SatHF G ρ w H Fs) (hr:RV G ρ v u) (hi:(ks.all fun k=>!k.isImm)=true) (h:tupTake ks v H K):
    ∃x H' ss,K x H'∧Took H H' Fs (blk ss)∧SlotsOK G ρ w (objsAll ks x) ss∧
      ∀(G':Gam) (ρ':List Root) (n:Nat),(ks.all VK.clean=false→CellMap G G')→(∀(i:Nat) (s:Slot),ss[i]? =some s→ρ'[n+i]? =some s.1)→RV G' ρ' (.tup (avs ks x n)) u:=by
  unfold tupTake at h
  split at h
  · rename_i vs
    simp only [RV] at hr
    obtain ⟨us,rfl,hrs⟩:=hr
    obtain ⟨x,H',ls,ss,Rb,h1,h2,h3,_,h5,_,h7⟩:=takeVs_sound ks hs hrs h
    have:=h5 hi
    subst this
    refine ⟨x,H',ss,h1,h2,h3,fun G' ρ' n hc hro=>?_⟩
    simp only [RV]
    exact ⟨_,rfl,h7 G' ρ' n hc (fun b hb=>by cases hb) hro⟩
  · exact h.elim
theorem takeRet_sound {R:List VK} {v:AV} {u:Value} {H:AHeap} {Fs:Nat→List Nat} {K:prodT R→AHeap→Prop} (hi:(R.all fun k=>!k.isImm)=true) (hs:SatHF G ρ w H Fs) (hr:RV G ρ v u) (h:takeRet R v H K):
    ∃x H' ss,K x H'∧Took H H' Fs (blk ss)∧SlotsOK G ρ w (objsAll R x) ss∧
      ∀(G':Gam) (ρ':List Root) (n:Nat),(R.all VK.clean=false→CellMap G G')→(∀(i:Nat) (s:Slot),ss[i]? =some s→ρ'[n+i]? =some s.1)→RV G' ρ' (retAV R x n) u:=by
  match R,K,hi,h with
  | [],K,hi,h=>exact tup_sound hs hr hi h
  | [k],K,hi,h=>
    obtain ⟨d,H',l,ss,Rb,h1,h2,h3,_,_,h6,_,h8⟩:=takeV_sound k hs hr h
    have hi':k.isImm=false:=by simpa using hi
    have:=h6 hi'
    subst this
    refine ⟨(d,()),H',ss,h1,h2,by simpa [objsAll] using h3,fun G' ρ' n hc hro=>h8 G' ρ' n (fun hk=>hc (by simp [hk])) (fun b hb=>by cases hb) hro⟩
  |k1::k2::ks,K,hi,h=>exact tup_sound hs hr hi h
theorem gone_spec: ∀{H H':AHeap} {n:Nat} {l:Nat} {o:AObj},H[l]? =some (some o)→H'.length=H.length→n+l∉gone H H' n→(∃q,H'[l]? =some (some q))
  | [],_,_,_,_,h,_,_=>by simp at h
  |p::H,[],_,_,_,_,hlen,_=>by simp at hlen
  |p::H,q::H',n,0,o,h,hlen,hn=>by
    simp at h
    subst h
    cases q with
    |none=>simp [gone] at hn
    |some q=>exact ⟨q,rfl⟩
  |p::H,q::H',n,l+1,o,h,hlen,hn=>by
    have h':H[l]? =some (some o):=by simpa using h
    have hn':n+1+l∉gone H H' (n+1):=by
      intro hm
      apply hn
      rw [show n+(l+1)=n+1+l by omega]
      cases p<;>cases q<;>simp [gone,hm]
    obtain ⟨q',hq⟩:=gone_spec h' (by simpa using hlen) hn'
    exact ⟨q',by simpa using hq⟩
end Go.Ax
namespace Go.Ax
variable [Surr] {G G':Gam} {ρ ρ':List Root} {w w':World}
theorem Sig.sound {S:Sig} {out:S.Out} {E:LEnv} (hE:E.toEnv.OK) {f:FuncId} {fn:Func} (hf:E.P.funcs[f]? =some fn) (hS:S.ok=true) (h:S.VC out E fn):SpecOK E.P f (S.spec out):=by
 intro args H K hk G w ρ Fs vs hH hr
 simp only [Sig.spec,forceL_eq] at hk
 obtain ⟨x,H1,ls,ss,Rb,hout,hT,hS1,hL,hRi,hRb,hcan⟩:=takeVs_sound _ hH hr hk
 have hdead: ∀b,b∈blk ss→ ¬ G.prot b∧b<w.heap.size∧ ∀(l:Nat) (o:AObj),H1[l]? =some (some o)→b∉Fs l:=by
  intro b hb
  obtain ⟨l,o,g1,g2,g3⟩:=hT.out b hb
  obtain ⟨q1,q2⟩:=hH.free l o b g1 g2
  refine ⟨q1,q2,fun l' o' hl' hb'=>?_⟩
  have:=hH.apart l o l' o' b g1 (hT.sub _ _ hl') g2 hb'
  subst this
  rw [g3] at hl';cases hl'
 have hwsz:=hH.wok.size
 have hsub: ∀b,(G.imm b∨b∈Rb)→b<w.heap.size∧b∉blk ss:=by
  intro b hb
  rcases hb with hb |hb
  ·have hp:=G.sub b hb
   have:=(hH.wok.prot b hp).1
   exact ⟨by omega,fun hm=>(hdead b hm).1 hp⟩
  ·obtain ⟨l,o,hl,hbl⟩:=hRb b hb
   exact ⟨(hH.free l o b (hT.sub _ _ hl) hbl).2,fun hm=>(hdead b hm).2.2 l o hl hbl⟩
 have hcell: ∀b o,G.imm b→w.cell? ⟨b,o,none⟩=G.w0.cell? ⟨b,o,none⟩:=fun b o hb=>by
  simp only [World.cell?]
  rw [(hH.wok.prot b (G.sub b hb)).2]
 let G':Gam:=⟨w,fun b=>b<w.heap.size∧b∉blk ss,fun b=>G.imm b∨b∈Rb,hsub,fun b cs hb=>⟨.inl (G.tab b cs hb).1,fun j v hj=>by rw [hcell b j (G.tab b cs hb).1];exact (G.tab b cs hb).2 j v hj⟩⟩
 have hwk:WOK G' w:=⟨fun b hb=>⟨hb.1,rfl⟩,Nat.le_refl _,.rfl,rfl,rfl⟩
 have hCM:CellMap G G':=fun b o v hc=>⟨.inl hc.1,by rw [show G'.w0=w from rfl,hcell b o hc.1];exact hc.2⟩
 have hCR: ∀b∈Rb,∀o v,w.cell? ⟨b,o,none⟩=some v→G'.cell b o v:=fun b hb o v hv=>⟨.inr hb,hv⟩
 have hCB:(S.args.all fun p=>!p.1.isImm)=true→CellMap G' G:=by
  intro hall
  have hRe:Rb=[]:=hRi (by simpa [List.all_map] using hall)
  intro b o v hc
  have hb:G.imm b:=by
   rcases hc.1 with hb |hb
   ·exact hb
   ·rw [hRe] at hb;cases hb
  exact ⟨hb,by rw [←hcell b o hb];exact hc.2⟩
 let ρc:List Root:=ss.map (·.1)
 let Fc:Nat→List Nat:=fun i=>((ss[i]?).map (·.2)).getD []
 have hcs:SatHF G' ρc w ((objsAll _ x).map some) Fc:=by
  refine ⟨by simp [ρc,hS1.len],fun l o hl=>?_,fun l o l' o' b hl hl' hb hb'=>?_,fun l o b hl hb=>?_,hwk⟩
  ·have ho:(objsAll _ x)[l]? =some o:=by
    rw [List.getElem?_map] at hl
    cases hx:(objsAll (S.args.map (·.1)) x)[l]? with
    |none=>simp [hx] at hl
    |some q=>simp [hx] at hl;rw [hl]
   have hlt:l<ss.length:=by rw [hS1.len];exact (List.getElem?_eq_some_iff.1 ho).1
   have hs:ss[l]? =some ss[l]:=List.getElem?_eq_getElem hlt
   obtain ⟨q1,q2⟩:=hS1.sat l o _ ho hs
   refine ⟨ss[l].1,by simp [ρc,hs],?_⟩
   simp only [Fc,hs]
   exact q1.change (fun _=>hCM) q2 fun _ _=>rfl
  ·simp only [Fc] at hb hb'
   cases h1:ss[l]? with
   |none=>simp [h1] at hb
   |some s=>
    cases h2:ss[l']? with
    |none=>simp [h2] at hb'
    |some t=>
     simp [h1] at hb
     simp [h2] at hb'
     exact hS1.apart l l' s t b h1 h2 hb hb'
  ·simp only [Fc] at hb
   cases h1:ss[l]? with
   |none=>simp [h1] at hb
   |some s=>
    simp [h1] at hb
    have hm:b∈blk ss:=mem_blk.2 ⟨s,List.mem_of_getElem? h1,hb⟩
    exact ⟨fun hp=>hp.2 hm,(hdead b hm).2.1⟩
 have hroots: ∀(i:Nat) (s:Slot),ss[i]? =some s→ρc[0+i]? =some s.1:=fun i s hs=>by simp [ρc,hs]
 have hargs:RVs G' ρc (avs _ x 0) vs:=hcan G' ρc 0 (fun _=>hCM) hCR hroots
 have hbody:=abody_sound (E:={E with n0:=(objsAll (S.args.map (·.1)) x).length}) hE hf (by simp) (h x _ hout) hcs hargs
 refine hbody.mono fun e w' he=>?_
 obtain ⟨v,av,H2,e',Fs2,rfl,hK,hrv,hs2⟩:=he
 obtain ⟨y,H3,kss,hK3,hT3,hS3,hkept⟩:=keepTake_sound S.args hs2 hargs.ext hK
 have hok:=hS
 simp only [Sig.ok,Bool.and_eq_true,Bool.or_eq_true] at hok
 obtain ⟨r,H4,rss,hK4,hT4,hS4,hret⟩:=takeRet_sound hok.1 (hs2.fewer hT3) hrv hK3
 have hpoolc: ∀b,b∈blk kss∨b∈blk rss→(w.heap.size≤b∨b∈blk ss)∧b<w'.heap.size:=by
  intro b hb
  have: ∃l o,H2[l]? =some (some o)∧b∈Fs2 l:=by
   rcases hb with hb |hb
   ·obtain ⟨l,o,g1,g2,_⟩:=hT3.out b hb
    exact ⟨l,o,g1,g2⟩
   ·obtain ⟨l,o,g1,g2,_⟩:=hT4.out b hb
    exact ⟨l,o,hT3.sub _ _ g1,g2⟩
  obtain ⟨l,o,g1,g2⟩:=this
  obtain ⟨q1,q2⟩:=hs2.free l o b g1 g2
  refine ⟨?_,q2⟩
  by_cases hlt:b<w.heap.size
  ·right
   apply Classical.byContradiction
   intro hn
   exact q1 ⟨hlt,hn⟩
  ·left;omega
 have hkeep: ∀b,b<w.heap.size→b∉blk ss→w'.heap[b]? =w.heap[b]? :=fun b h1 h2=>(hs2.wok.prot b ⟨h1,h2⟩).2
 have hlive: ∀(l:Nat) (o:AObj) (b:Nat),H1[l]? =some (some o)→b∈Fs l→b<w.heap.size∧b∉blk ss:=fun l o b hl hb=>
  ⟨(hH.free l o b (hT.sub _ _ hl) hb).2,fun hm=>(hdead b hm).2.2 l o hl hb⟩
 have hsz:w.heap.size≤w'.heap.size:=hs2.wok.size
 have hbase:SatHF G ρ w' H1 Fs:=by
  refine ⟨hT.len.trans hH.len,fun l o hl=>?_,fun l o l' o' b h1 h2=>hH.apart l o l' o' b (hT.sub _ _ h1) (hT.sub _ _ h2),fun l o b hl hb=>?_,?_⟩
  ·obtain ⟨t,ht,hsat⟩:=hH.sat l o (hT.sub _ _ hl)
   have:=hsat.mono (e:=[]) (w':=w') fun b hb=>by
    obtain ⟨q1,q2⟩:=hlive l o b hl hb
    exact hkeep b q1 q2
   exact ⟨t,ht,by simpa using this⟩
  ·obtain ⟨q1,q2⟩:=hH.free l o b (hT.sub _ _ hl) hb
   exact ⟨q1,by omega⟩
  ·refine ⟨fun b hb=>?_,by omega,?_,?_,?_⟩
   ·obtain ⟨q1,q2⟩:=hH.wok.prot b hb
    exact ⟨q1,(hkeep b (by omega) (fun hm=>(hdead b hm).1 hb)).trans q2⟩
   ·exact hH.wok.os.trans hs2.wok.os
   ·exact hs2.wok.tape.trans hH.wok.tape
   ·exact hs2.wok.output.trans hH.wok.output
 have hpool: ∀P,(∀b,b∈P→b∈blk kss∨b∈blk rss)→Pool G w' H1 Fs P:=by
  intro P hP b hb
  obtain ⟨q1,q2⟩:=hpoolc b (hP b hb)
  refine ⟨⟨fun hp=>?_,q2⟩,fun l o hl hbl=>?_⟩
  ·rcases q1 with q1 |q1
   ·have:=(hH.wok.prot b hp).1
    omega
   ·exact (hdead b q1).1 hp
  ·obtain ⟨a1,a2⟩:=hlive l o b hl hbl
   rcases q1 with q1 |q1
   ·omega
   ·exact a2 q1
 have hcl: ∀o:AObj,(o∈keptObjs S.args y∨o∈objsAll S.ret r)→o.clean=false→CellMap G' G:=by
  intro o ho hc
  rcases hok.2 with h1 |⟨h1,h2⟩
  ·exact hCB h1
  ·rcases ho with ho |ho
   ·rw [keptObjs_clean h2 y o ho] at hc;cases hc
   ·rw [objsAll_clean h1 r o ho] at hc;cases hc
 have hdisj: ∀b,b∈blk kss→b∉blk rss:=Took.apart hs2 hT3 hT4
 obtain ⟨Fs5,p1,p2,p3⟩:=put_all (ρ:=ρ) (ρc:=ρc++e') (H0:=H) S.args hbase hL (fun i s hs=>getElem?_ext (hroots i s hs)) hkept
  (fun i o s ho hs=>(hS3.sat i o s ho hs).1.change (hcl o (.inl (List.mem_of_getElem? ho))) (hS3.sat i o s ho hs).2 fun _ _=>rfl)
  (hpool _ fun b hb=> .inl hb) hS3.apart
 have hp5:=p3 (blk rss) (hpool _ fun b hb=> .inr hb) fun b hb hb2=>hdisj b hb2 hb
 obtain ⟨Fs6,r1,r2⟩:=push_all (objsAll S.ret r) (ss:=rss) p1 hS4.len
  (fun i o s ho hs ρ=>(hS4.sat i o s ho hs).1.change (hcl o (.inr (List.mem_of_getElem? ho))) (hS4.sat i o s ho hs).2 fun _ _=>rfl) hp5 hS4.apart
 have hlen5:(putKept S.args y ls H1).length=H.length:=by
  have:=p1.len
  have:=hH.len
  omega
 refine ⟨v,_,_,_,rss.map (·.1),Fs6,rfl,hK4,?_,r1,fun l o hl hn=>?_⟩
 ·refine hret G _ H.length (fun hc=>?_) (fun i s hs=>?_)
  ·rcases hok.2 with h1 |⟨h1,h2⟩
   ·exact hCB h1
   ·rw [h1] at hc;cases hc
  ·rw [List.getElem?_append_right (by rw [hH.len];omega),hH.len]
   simp [hs]
 ·obtain ⟨q,hq⟩:=gone_spec (n:=0) hl hT.len (by simpa using hn)
  have hq':=hT.sub l q hq
  rw [hl] at hq';cases hq'
  obtain ⟨a1,a2⟩:=p2 l o hq
  refine ⟨getElem?_ext a1,(r2 l o a1).trans a2,fun b hb=>?_⟩
  obtain ⟨q1,q2⟩:=hlive l o b hq hb
  exact hkeep b q1 q2
end Go.Ax
namespace Go.Ax
variable [Surr]
theorem Env.OK.nil {P:Program} {ek:List (TypeId × EK)}:Env.OK {P:=P,spec:=[],ek:=ek}:=by
 intro f S h
 cases h
theorem Env.OK.cons {P:Program} {L:List (FuncId × SpecT)} {ek:List (TypeId × EK)} (h:Env.OK {P:=P,spec:=L,ek:=ek}) {f:FuncId} {S:SpecT} {fn:Func} (hf:P.funcs[f]? =some fn) (hb:fn.body.isSome=true)
  (hn:(fn.name== "runtime.NumGoroutine")=false) (hs:SpecOK P f S):Env.OK {P:=P,spec:=(f,S)::L,ek:=ek}:=by
 intro g T hg
 simp only [lookN] at hg
 split at hg
 ·rename_i he
  cases hg
  rw [←Nat.eq_of_beq_eq_true he]
  exact .inl ⟨⟨fn,hf,hb,hn⟩,hs⟩
 ·exact h g T hg
theorem Env.OK.ext {P:Program} {L:List (FuncId × SpecT)} {ek:List (TypeId × EK)} (h:Env.OK {P:=P,spec:=L,ek:=ek}) {f:FuncId} {S:SpecT} (hs:ExtOK P f S):Env.OK {P:=P,spec:=(f,S)::L,ek:=ek}:=by
 intro g T hg
 simp only [lookN] at hg
 split at hg
 ·rename_i he
  cases hg
  rw [←Nat.eq_of_beq_eq_true he]
  exact .inr hs
 ·exact h g T hg
end Go.Ax
