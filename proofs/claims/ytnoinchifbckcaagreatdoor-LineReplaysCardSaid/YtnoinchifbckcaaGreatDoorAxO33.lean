import Derived.Test.YtnoinchifbckcaaGreatDoorAxG
import Derived.Test.YtnoinchifbckcaaGreatDoorAxO28
import Derived.Test.YtnoinchifbckcaaGreatDoorAxV9
set_option linter.all false
namespace Go.Ax
variable [Surr]
def pkA (m:Nat) (as:List AV):List AV:=match m with
 |0=>as
 |m+1=> .agg (as.take (m+1))::as.drop (m+1)
def upA (m:Nat) (as:List AV):Option (List AV):=match m with
 |0=>some as
 |m+1=>match as with
  | .agg xs::r=>match Nat.beq xs.length (m+1) with
   |true=>some (xs++r)
   |false=>none
  |_=>none
def pkV (m:Nat) (vs:List Value):List Value:=match m with
 |0=>vs
 |m+1=> .agg (vs.take (m+1)).toArray::vs.drop (m+1)
def pkR (m:Nat) (a:AV):Option AV:=match m with
 |0=>some a
 |m+1=>match a with
  | .tup as=>some (.tup (pkA (m+1) as))
  |_=>none
def upR (m:Nat) (a:AV):Option AV:=match m with
 |0=>some a
 |m+1=>match a with
  | .tup as=>match upA (m+1) as with
   |some bs=>some (.tup bs)
   |none=>none
  |_=>none
def pkW (m:Nat) (v:Value):Value:=match m with
 |0=>v
 |m+1=>match v with
  | .tuple vs=> .tuple (pkV (m+1) vs.toList).toArray
  |v=>v
def packSpec (a r:Nat) (S:SpecT):SpecT:=fun args H K=>match upA a args with
 |some as=>S as H fun v H T=>match pkR r v with
  |some v=>K v H T
  |none=>False
 |none=>False
variable {G G':Gam} {ρ ρ':List Root} {w w':World}
theorem RVs.split {m:Nat}: ∀{as:List AV} {vs:List Value},RVs G ρ as vs→RVs G ρ (as.take m) (vs.take m)∧RVs G ρ (as.drop m) (vs.drop m):=by
 intro as vs h
 have hl:=h.len
 constructor
 ·refine RVs.of_get (by simp [hl]) fun j x hj=>?_
  rw [List.getElem?_take] at hj
  split at hj
  ·rename_i hlt
   obtain ⟨v,h1,h2⟩:=h.get hj
   exact ⟨v,by rw [List.getElem?_take,if_pos hlt];exact h1,h2⟩
  ·cases hj
 ·refine RVs.of_get (by simp [hl]) fun j x hj=>?_
  rw [List.getElem?_drop] at hj
  obtain ⟨v,h1,h2⟩:=h.get hj
  exact ⟨v,by rw [List.getElem?_drop];exact h1,h2⟩
theorem RVs.app: ∀{as bs:List AV} {vs ws:List Value},RVs G ρ as vs→RVs G ρ bs ws→RVs G ρ (as++bs) (vs++ws)
 | [],_,_,_,h,g=>by simp only [RVs] at h;subst h;simpa using g
 |_::as,_,_,_,h,g=>by
  simp only [RVs] at h
  obtain ⟨v,vs,rfl,h1,h2⟩:=h
  simp only [List.cons_append,RVs]
  exact ⟨v,_,rfl,h1,RVs.app h2 g⟩
theorem pkA_RVs {m:Nat} {as:List AV} {vs:List Value} (h:RVs G ρ as vs):RVs G ρ (pkA m as) (pkV m vs):=by
 cases m with
 |zero=>exact h
 |succ m=>
  obtain ⟨h1,h2⟩:=h.split (m:=m+1)
  simp only [pkA,pkV,RVs,RV]
  exact ⟨_,_,rfl,⟨_,rfl,by simpa using h1⟩,h2⟩
theorem upA_RVs {m:Nat} {as bs:List AV} {vs:List Value} (hu:upA m as=some bs) (h:RVs G ρ as vs): ∃ws,RVs G ρ bs ws∧vs=pkV m ws:=by
 cases m with
 |zero=>simp only [upA,Option.some.injEq] at hu;subst hu;exact ⟨vs,h,rfl⟩
 |succ m=>
  simp only [upA] at hu
  split at hu
  ·rename_i xs r
   split at hu
   ·rename_i hl
    cases hu
    have hl:=Nat.eq_of_beq_eq_true hl
    simp only [RVs,RV] at h
    obtain ⟨v,ws,rfl,⟨us,rfl,h1⟩,h2⟩:=h
    have hu:=h1.len
    refine ⟨us.toList++ws,h1.app h2,?_⟩
    simp only [pkV]
    rw [List.take_append_of_le_length (by omega),List.drop_append_of_le_length (by omega),List.take_of_length_le (by omega),List.drop_of_length_le (by omega)]
    simp
   ·cases hu
  ·cases hu
theorem pkR_RV {m:Nat} {a b:AV} {v:Value} (hp:pkR m a=some b) (h:RV G ρ a v):RV G ρ b (pkW m v):=by
 cases m with
 |zero=>simp only [pkR,Option.some.injEq] at hp;subst hp;exact h
 |succ m=>
  simp only [pkR] at hp
  split at hp
  ·cases hp
   simp only [RV] at h
   obtain ⟨vs,rfl,h1⟩:=h
   simp only [RV,pkW]
   exact ⟨_,rfl,by simpa using pkA_RVs (m:=m+1) h1⟩
  ·cases hp
theorem upR_RV {m:Nat} {a b:AV} {v:Value} (hp:upR m a=some b) (h:RV G ρ a v): ∃u,RV G ρ b u∧v=pkW m u:=by
 cases m with
 |zero=>simp only [upR,Option.some.injEq] at hp;subst hp;exact ⟨v,h,rfl⟩
 |succ m=>
  simp only [upR] at hp
  split at hp
  ·split at hp
   ·rename_i hu
    cases hp
    simp only [RV] at h
    obtain ⟨vs,rfl,h1⟩:=h
    obtain ⟨ws,h2,h3⟩:=upA_RVs hu h1
    refine ⟨.tuple ws.toArray,by simp only [RV];exact ⟨_,rfl,by simpa using h2⟩,?_⟩
    simp only [pkW]
    rw [←h3]
   ·cases hp
  ·cases hp
theorem Sig.soundG {S:Sig} {out:S.Out} (C:List Value→World→(Ending→World→Prop)→Prop)
  (hmono: ∀{vs w Q Q'},C vs w Q→(∀e w',Q e w'→Q' e w')→C vs w Q')
  (B:S.X→(AV→AHeap→Prop)→Prop)
  (hB: ∀(x:S.X) (K:AV→AHeap→Prop) (G:Gam) (ρ:List Root) (w:World) (Fs:Nat→List Nat) (vs:List Value),B x K→SatHF G ρ w ((objsAll (S.args.map (·.1)) x).map some) Fs→RVs G ρ (avs (S.args.map (·.1)) x 0) vs→
   C vs w fun e w'=> ∃v av H' e' Fs',e= .returned v∧K av H'∧RV G (ρ++e') av v∧SatHF G (ρ++e') w' H' Fs')
  (hS:S.ok=true) (h: ∀x k,out x k→B x fun v H=>keepTake S.args x 0 H fun y H=>takeRet S.ret v H fun r _=>k y r)
  {args:List AV} {H:AHeap} {K:AV→AHeap→List Nat→Prop} (hk:S.spec out args H K) {G:Gam} {w:World} {ρ:List Root} {Fs:Nat→List Nat} {vs:List Value} (hH:SatHF G ρ w H Fs) (hr:RVs G ρ args vs):
  C vs w fun e w'=> ∃v av H' T e' Fs',e= .returned v∧K av H' T∧RV G (ρ++e') av v∧SatHF G (ρ++e') w' H' Fs'∧Unt w w' H H' Fs Fs' T:=by
 simp only [Sig.spec,forceL_eq] at hk
 obtain ⟨x,H1,ls,ss,Rb,hout,hT,hS1,hL,hRi,hRb,hcan⟩:=takeVs_sound _ hH hr hk
 have hdead: ∀b,b∈blk ss→ ¬ G.prot b∧b<w.heap.size∧ ∀(l:Nat) (o:AObj),H1[l]? =some (some o)→b∉Fs l:=by
  intro b hb
  obtain ⟨l,o,g1,g2,g3⟩:=hT.out b hb
  obtain ⟨q1,q2⟩:=hH.free l o b g1 g2
  refine ⟨q1,q2,fun l' o' hl' hb'=>?_⟩
  have:=hH.apart l o l' o' b g1 (hT.sub _ _ hl') g2 hb'
  subst this
  rw [g3] at hl';cases hl'
 have hwsz:=hH.wok.size
 have hsub: ∀b,(G.imm b∨b∈Rb)→b<w.heap.size∧b∉blk ss:=by
  intro b hb
  rcases hb with hb |hb
  ·have hp:=G.sub b hb
   have:=(hH.wok.prot b hp).1
   exact ⟨by omega,fun hm=>(hdead b hm).1 hp⟩
  ·obtain ⟨l,o,hl,hbl⟩:=hRb b hb
   exact ⟨(hH.free l o b (hT.sub _ _ hl) hbl).2,fun hm=>(hdead b hm).2.2 l o hl hbl⟩
 have hcell: ∀b o,G.imm b→w.cell? ⟨b,o,none⟩=G.w0.cell? ⟨b,o,none⟩:=fun b o hb=>by
  simp only [World.cell?]
  rw [(hH.wok.prot b (G.sub b hb)).2]
 let G':Gam:=⟨w,fun b=>b<w.heap.size∧b∉blk ss,fun b=>G.imm b∨b∈Rb,hsub,fun b cs hb=>⟨.inl (G.tab b cs hb).1,fun j v hj=>by rw [hcell b j (G.tab b cs hb).1];exact (G.tab b cs hb).2 j v hj⟩⟩
 have hwk:WOK G' w:=⟨fun b hb=>⟨hb.1,rfl⟩,Nat.le_refl _,.rfl,rfl,rfl⟩
 have hCM:CellMap G G':=fun b o v hc=>⟨.inl hc.1,by rw [show G'.w0=w from rfl,hcell b o hc.1];exact hc.2⟩
 have hCR: ∀b∈Rb,∀o v,w.cell? ⟨b,o,none⟩=some v→G'.cell b o v:=fun b hb o v hv=>⟨.inr hb,hv⟩
 have hCB:(S.args.all fun p=>!p.1.isImm)=true→CellMap G' G:=by
  intro hall
  have hRe:Rb=[]:=hRi (by simpa [List.all_map] using hall)
  intro b o v hc
  have hb:G.imm b:=by
   rcases hc.1 with hb |hb
   ·exact hb
   ·rw [hRe] at hb;cases hb
  exact ⟨hb,by rw [←hcell b o hb];exact hc.2⟩
 let ρc:List Root:=ss.map (·.1)
 let Fc:Nat→List Nat:=fun i=>((ss[i]?).map (·.2)).getD []
 have hcs:SatHF G' ρc w ((objsAll _ x).map some) Fc:=by
  refine ⟨by simp [ρc,hS1.len],fun l o hl=>?_,fun l o l' o' b hl hl' hb hb'=>?_,fun l o b hl hb=>?_,hwk⟩
  ·have ho:(objsAll _ x)[l]? =some o:=by
    rw [List.getElem?_map] at hl
    cases hx:(objsAll (S.args.map (·.1)) x)[l]? with
    |none=>simp [hx] at hl
    |some q=>simp [hx] at hl;rw [hl]
   have hlt:l<ss.length:=by rw [hS1.len];exact (List.getElem?_eq_some_iff.1 ho).1
   have hs:ss[l]? =some ss[l]:=List.getElem?_eq_getElem hlt
   obtain ⟨q1,q2⟩:=hS1.sat l o _ ho hs
   refine ⟨ss[l].1,by simp [ρc,hs],?_⟩
   simp only [Fc,hs]
   exact q1.change (fun _=>hCM) q2 fun _ _=>rfl
  ·simp only [Fc] at hb hb'
   cases h1:ss[l]? with
   |none=>simp [h1] at hb
   |some s=>
    cases h2:ss[l']? with
    |none=>simp [h2] at hb'
    |some t=>
     simp [h1] at hb
     simp [h2] at hb'
     exact hS1.apart l l' s t b h1 h2 hb hb'
  ·simp only [Fc] at hb
   cases h1:ss[l]? with
   |none=>simp [h1] at hb
   |some s=>
    simp [h1] at hb
    have hm:b∈blk ss:=mem_blk.2 ⟨s,List.mem_of_getElem? h1,hb⟩
    exact ⟨fun hp=>hp.2 hm,(hdead b hm).2.1⟩
 have hroots: ∀(i:Nat) (s:Slot),ss[i]? =some s→ρc[0+i]? =some s.1:=fun i s hs=>by simp [ρc,hs]
 have hargs:RVs G' ρc (avs _ x 0) vs:=hcan G' ρc 0 (fun _=>hCM) hCR hroots
 have hbody:=hB x _ G' ρc w Fc vs (h x _ hout) hcs hargs
 refine hmono hbody fun e w' he=>?_
 obtain ⟨v,av,H2,e',Fs2,rfl,hK,hrv,hs2⟩:=he
 obtain ⟨y,H3,kss,hK3,hT3,hS3,hkept⟩:=keepTake_sound S.args hs2 hargs.ext hK
 have hok:=hS
 simp only [Sig.ok,Bool.and_eq_true,Bool.or_eq_true] at hok
 obtain ⟨r,H4,rss,hK4,hT4,hS4,hret⟩:=takeRet_sound hok.1 (hs2.fewer hT3) hrv hK3
 have hpoolc: ∀b,b∈blk kss∨b∈blk rss→(w.heap.size≤b∨b∈blk ss)∧b<w'.heap.size:=by
  intro b hb
  have: ∃l o,H2[l]? =some (some o)∧b∈Fs2 l:=by
   rcases hb with hb |hb
   ·obtain ⟨l,o,g1,g2,_⟩:=hT3.out b hb
    exact ⟨l,o,g1,g2⟩
   ·obtain ⟨l,o,g1,g2,_⟩:=hT4.out b hb
    exact ⟨l,o,hT3.sub _ _ g1,g2⟩
  obtain ⟨l,o,g1,g2⟩:=this
  obtain ⟨q1,q2⟩:=hs2.free l o b g1 g2
  refine ⟨?_,q2⟩
  by_cases hlt:b<w.heap.size
  ·right
   apply Classical.byContradiction
   intro hn
   exact q1 ⟨hlt,hn⟩
  ·left;omega
 have hkeep: ∀b,b<w.heap.size→b∉blk ss→w'.heap[b]? =w.heap[b]? :=fun b h1 h2=>(hs2.wok.prot b ⟨h1,h2⟩).2
 have hlive: ∀(l:Nat) (o:AObj) (b:Nat),H1[l]? =some (some o)→b∈Fs l→b<w.heap.size∧b∉blk ss:=fun l o b hl hb=>
  ⟨(hH.free l o b (hT.sub _ _ hl) hb).2,fun hm=>(hdead b hm).2.2 l o hl hb⟩
 have hsz:w.heap.size≤w'.heap.size:=hs2.wok.size
 have hbase:SatHF G ρ w' H1 Fs:=by
  refine ⟨hT.len.trans hH.len,fun l o hl=>?_,fun l o l' o' b h1 h2=>hH.apart l o l' o' b (hT.sub _ _ h1) (hT.sub _ _ h2),fun l o b hl hb=>?_,?_⟩
  ·obtain ⟨t,ht,hsat⟩:=hH.sat l o (hT.sub _ _ hl)
   have:=hsat.mono (e:=[]) (w':=w') fun b hb=>by
    obtain ⟨q1,q2⟩:=hlive l o b hl hb
    exact hkeep b q1 q2
   exact ⟨t,ht,by simpa using this⟩
  ·obtain ⟨q1,q2⟩:=hH.free l o b (hT.sub _ _ hl) hb
   exact ⟨q1,by omega⟩
  ·refine ⟨fun b hb=>?_,by omega,?_,?_,?_⟩
   ·obtain ⟨q1,q2⟩:=hH.wok.prot b hb
    exact ⟨q1,(hkeep b (by omega) (fun hm=>(hdead b hm).1 hb)).trans q2⟩
   ·exact hH.wok.os.trans hs2.wok.os
   ·exact hs2.wok.tape.trans hH.wok.tape
   ·exact hs2.wok.output.trans hH.wok.output
 have hpool: ∀P,(∀b,b∈P→b∈blk kss∨b∈blk rss)→Pool G w' H1 Fs P:=by
  intro P hP b hb
  obtain ⟨q1,q2⟩:=hpoolc b (hP b hb)
  refine ⟨⟨fun hp=>?_,q2⟩,fun l o hl hbl=>?_⟩
  ·rcases q1 with q1 |q1
   ·have:=(hH.wok.prot b hp).1
    omega
   ·exact (hdead b q1).1 hp
  ·obtain ⟨a1,a2⟩:=hlive l o b hl hbl
   rcases q1 with q1 |q1
   ·omega
   ·exact a2 q1
 have hcl: ∀o:AObj,(o∈keptObjs S.args y∨o∈objsAll S.ret r)→o.clean=false→CellMap G' G:=by
  intro o ho hc
  rcases hok.2 with h1 |⟨h1,h2⟩
  ·exact hCB h1
  ·rcases ho with ho |ho
   ·rw [keptObjs_clean h2 y o ho] at hc;cases hc
   ·rw [objsAll_clean h1 r o ho] at hc;cases hc
 have hdisj: ∀b,b∈blk kss→b∉blk rss:=Took.apart hs2 hT3 hT4
 obtain ⟨Fs5,p1,p2,p3⟩:=put_all (ρ:=ρ) (ρc:=ρc++e') (H0:=H) S.args hbase hL (fun i s hs=>getElem?_ext (hroots i s hs)) hkept
  (fun i o s ho hs=>(hS3.sat i o s ho hs).1.change (hcl o (.inl (List.mem_of_getElem? ho))) (hS3.sat i o s ho hs).2 fun _ _=>rfl)
  (hpool _ fun b hb=> .inl hb) hS3.apart
 have hp5:=p3 (blk rss) (hpool _ fun b hb=> .inr hb) fun b hb hb2=>hdisj b hb2 hb
 obtain ⟨Fs6,r1,r2⟩:=push_all (objsAll S.ret r) (ss:=rss) p1 hS4.len
  (fun i o s ho hs ρ=>(hS4.sat i o s ho hs).1.change (hcl o (.inr (List.mem_of_getElem? ho))) (hS4.sat i o s ho hs).2 fun _ _=>rfl) hp5 hS4.apart
 have hlen5:(putKept S.args y ls H1).length=H.length:=by
  have:=p1.len
  have:=hH.len
  omega
 refine ⟨v,_,_,_,rss.map (·.1),Fs6,rfl,hK4,?_,r1,fun l o hl hn=>?_⟩
 ·refine hret G _ H.length (fun hc=>?_) (fun i s hs=>?_)
  ·rcases hok.2 with h1 |⟨h1,h2⟩
   ·exact hCB h1
   ·rw [h1] at hc;cases hc
  ·rw [List.getElem?_append_right (by rw [hH.len];omega),hH.len]
   simp [hs]
 ·obtain ⟨q,hq⟩:=gone_spec (n:=0) hl hT.len (by simpa using hn)
  have hq':=hT.sub l q hq
  rw [hl] at hq';cases hq'
  obtain ⟨a1,a2⟩:=p2 l o hq
  refine ⟨getElem?_ext a1,(r2 l o a1).trans a2,fun b hb=>?_⟩
  obtain ⟨q1,q2⟩:=hlive l o b hq hb
  exact hkeep b q1 q2
def Sig.caseP (S:Sig) (a r:Nat) (E:LEnv) (fn:Func) (x:S.X) (k:keepT S.args→prodT S.ret→Prop):Prop:=
 abody {E with n0:=(objsAll (S.args.map (·.1)) x).length} fn (pkA a (avs (S.args.map (·.1)) x 0)) ((objsAll (S.args.map (·.1)) x).map some) fun v H=>match upR r v with
  |some v=>keepTake S.args x 0 H fun y H=>takeRet S.ret v H fun r _=>k y r
  |none=>False
theorem Sig.soundP {S:Sig} {out:S.Out} (a r:Nat) {E:LEnv} (hE:E.toEnv.OK) {f:FuncId} {fn:Func} (hf:E.P.funcs[f]? =some fn) (hS:S.ok=true) (h: ∀x k,out x k→S.caseP a r E fn x k):SpecOK E.P f (packSpec a r (S.spec out)):=by
 intro args H K hk G w ρ Fs vs hH hr
 unfold packSpec at hk
 split at hk
 ·rename_i as hu
  obtain ⟨ws,hw,rfl⟩:=upA_RVs hu hr
  have:=Sig.soundG (S:=S) (out:=out) (fun vs w Q=>Calls E.P f (pkV a vs).toArray w fun e w'=> ∃u,e= .returned (pkW r u)∧Q (.returned u) w')
   (fun hc hq=>hc.mono fun e w' ⟨u,h1,h2⟩=>⟨u,h1,hq _ _ h2⟩)
   (fun x K=>abody {E with n0:=(objsAll (S.args.map (·.1)) x).length} fn (pkA a (avs (S.args.map (·.1)) x 0)) ((objsAll (S.args.map (·.1)) x).map some) fun v H=>match upR r v with
    |some v=>K v H
    |none=>False)
   (fun x K G ρ w Fs vs hb hH hr=>(abody_sound (E:={E with n0:=(objsAll (S.args.map (·.1)) x).length}) hE hf (by simp) hb hH (pkA_RVs (m:=a) hr)).mono fun e w' ⟨v,av,H',e',Fs',h1,h2,h3,h4⟩=>by
    split at h2
    ·rename_i bv hbv
     obtain ⟨u,g1,rfl⟩:=upR_RV hbv h3
     exact ⟨u,h1,u,bv,H',e',Fs',rfl,h2,g1,h4⟩
    ·exact h2.elim)
   hS h hk hH hw
  refine this.mono fun e w' ⟨u,h1,v,av,H',T,e',Fs',h2,h3,h4,h5,h6⟩=>?_
  cases h2
  split at h3
  ·rename_i bv hbv
   exact ⟨_,bv,H',T,e',Fs',h1,h3,pkR_RV hbv h4,h5,h6⟩
  ·exact h3.elim
 ·exact hk.elim
end Go.Ax
namespace Go.Ax.Law
def tdo (c:Core) (as:List Answer) (e:Event):Bool × Core × List Answer:=
 if e.Kind=4 then ((comS c e.Choice).1==e.OK,(comS c e.Choice).2,as)
 else if isK e.Req.Kind then (true,(doS c e.Req).2,as++[⟨e.Task,(doS c e.Req).1⟩]) else (true,c,as++[⟨e.Task,e.Reply⟩])
def replayF (c:Core) (as:List Answer) (bad i:Int):List Event→Core × List Answer × Int
 | []=>(c,as,bad)
 |e::l=>if e.Kind≠2∧e.Kind≠4 then replayF c as bad (i+1) l
  else replayF (tdo c as e).2.1 (tdo c as e).2.2 (if (tdo c as e).1=false∧bad<0 then i else bad) (i+1) l
def replayS (n:Int) (l:List Event):Core × List Answer × Int:=replayF (newCore n) [] (-1) 0 l
def tellA (as:List Answer) (task:Int):Reply × Bool:=match as.find? fun a=>decide (a.Task=task) with |some a=>(a.Reply,true) |none=>(reply0,false)
def eqR (a b:Reply):Bool:=a.Err==b.Err&&(a.Id==b.Id&&(a.State==b.State&&(a.Start==b.Start&&(a.End==b.End&&(a.Plan==b.Plan&&(a.A==b.A&&(a.B==b.B&&(a.C==b.C&&true))))))))
def agreesL (as:List Answer) (l:List Event):Bool:=l.all fun e=>!decide (e.Kind=3)||((tellA as e.Task).2&&eqR (tellA as e.Task).1 e.Reply)
def agreesS (n:Int) (l:List Event):Bool:=decide (1≤n)&&(decide (n≤64)&&(decide ((replayS n l).2.2<0)&&agreesL (replayS n l).2.1 l))
def callE (e:Event):Bool:=decide (e.Kind=2)&&isK e.Req.Kind
def callsL (l:List Event):List Req:=(l.filter callE).map (·.Req)
def refuseE (task e:Int):Event:=⟨0,2,task,req0,failR e,⟨0,0⟩,false⟩
def replayMF (m:Model) (as:List Answer) (bad i:Int):List Event→Model × List Answer × Int
 | []=>(m,as,bad)
 |e::l=>if e.Kind=4 then replayMF (commitM m e.Choice).2 as (if ((commitM m e.Choice).1==e.OK)=false∧bad<0 then i else bad) (i+1) l
  else if e.Kind≠2 then replayMF m as bad (i+1) l
  else if isK e.Req.Kind then replayMF (doM m e.Req).2 (as++[⟨e.Task,(doM m e.Req).1⟩]) bad (i+1) l
  else replayMF m (as++[⟨e.Task,e.Reply⟩]) bad (i+1) l
end Go.Ax.Law
namespace Go.Ax.Sp
def sTdo:Sig:=⟨[(.obj .told,true),(.elem .event,false)],[.bool]⟩
def oTdo:sTdo.Out:=fun x k=>(Law.OkS x.1.S.C∧x.1.answers.length≤4294967296)∧k (⟨⟨(Law.tdo x.1.S.C x.1.answers x.2.1).2.1⟩,(Law.tdo x.1.S.C x.1.answers x.2.1).2.2,x.1.bad⟩,()) ((Law.tdo x.1.S.C x.1.answers x.2.1).1,())
def sReplay:Sig:=⟨[(.int .i64,false),(.imm .event,false)],[.opt .sched,.row .answer,.int .i64,.int .i64]⟩
def oReplay:sReplay.Out:=fun x k=>(x.2.1.length≤1073741824)∧((x.1<1∨64<x.1)→k () (none,[],0,1,()))∧(1≤x.1∧x.1≤64→k () (some ⟨(Law.replayS x.1 x.2.1).1⟩,(Law.replayS x.1 x.2.1).2.1,(Law.replayS x.1 x.2.1).2.2,0,()))
def lReplay:LoopAnn:={X:=List Event × Core × List Answer × Int × Int,live:=fun x=>[(4,.ptr ⟨0,0,0,0⟩),(8,.ptr ⟨2,0,0,0⟩),(22,.imm .event x.1),(23,.int .i64 x.1.length),(24,.int .i64 x.2.2.2.2)],heap:=fun x=>[some (.raw [.nilp,.nils,.int .i64 0]),none,some (.obj .told ⟨⟨x.2.1⟩,x.2.2.1,x.2.2.2.1⟩)],norm:=[.fold 2 .told]}
def sTell1:Sig:=⟨[(.vopt .sched,false),(.imm .answer,false),(.int .i64,false),(.int .i64,false)],[.elem .reply,.bool]⟩
def oTell1:sTell1.Out:=fun x k=>(x.2.1.length≤1099511627776)∧k () ((Law.tellA x.2.1 x.2.2.2.1).1,(Law.tellA x.2.1 x.2.2.2.1).2,())
def lTell1:LoopAnn:={X:=Option Sched × List Answer × Int × Int × Int,live:=fun x=>[(1,.int .i64 x.2.2.2.1),(4,.ptr ⟨1,0,0,0⟩),(9,.imm .answer x.2.1),(10,.int .i64 x.2.1.length),(11,.int .i64 x.2.2.2.2)],heap:=fun _=>[none,some (.raw (EK.enc .reply Law.reply0))]}
def sAgrees:Sig:=⟨[(.int .i64,false),(.imm .event,false)],[.bool]⟩
def oAgrees:sAgrees.Out:=fun x k=>(x.2.1.length≤1073741824)∧k () (Law.agreesS x.1 x.2.1,())
def lAgrees:LoopAnn:={X:=List Event × Core × List Answer × Int × Int,live:=fun x=>[(5,.ptr ⟨2,0,0,0⟩),(24,.imm .event x.1),(25,.int .i64 x.1.length),(26,.int .i64 x.2.2.2.2)],heap:=fun x=>[some (.obj .sched ⟨x.2.1⟩),some (.row .answer x.2.2.1),some (.raw [.ptr ⟨0,0,0,0⟩,.sl 1 10 0 x.2.2.1.length,.int .i64 x.2.2.2.1])],norm:=[.fold 0 .sched]}
def sCalls:Sig:=⟨[(.imm .event,false)],[.row .req]⟩
def oCalls:sCalls.Out:=fun x k=>(x.1.length≤1073741824)∧k () (Law.callsL x.1,())
def lCalls:LoopAnn:={X:=List Event × List Req × Int,live:=fun x=>[(3,.sl 0 9 0 x.2.1.length),(6,.imm .event x.1),(7,.int .i64 x.1.length),(8,.int .i64 x.2.2)],heap:=fun x=>[some (.row .req x.2.1)],norm:=[.row 3 .req,.home 3 0]}
def sRefuse:Sig:=⟨[(.int .i64,false),(.int .i64,false)],[.elem .event]⟩
def oRefuse:sRefuse.Out:=fun x k=>k () (Law.refuseE x.1 x.2.1,())
def sReplayM:Sig:=⟨[(.obj .model,true),(.imm .event,false)],[.row .answer,.int .i64]⟩
def oReplayM:sReplayM.Out:=fun x k=>((∃n c,Law.Stb n c x.1)∧x.2.1.length≤1073741824)∧k ((Law.replayMF x.1 [] (-1) 0 x.2.1).1,()) ((Law.replayMF x.1 [] (-1) 0 x.2.1).2.1,(Law.replayMF x.1 [] (-1) 0 x.2.1).2.2,())
def lReplayM:LoopAnn:={X:=List Event × Model × List Answer × Int × Int,live:=fun x=>[(0,.ptr ⟨0,0,0,0⟩),(1,.imm .event x.1),(6,.sl 1 10 0 x.2.2.1.length),(7,.int .i64 x.2.2.2.1),(8,.int .i64 x.2.2.2.2)],heap:=fun x=>[some (.obj .model x.2.1),some (.row .answer x.2.2.1)],norm:=[.fold 0 .model,.row 6 .answer,.home 6 1]}
def sLineR:Sig:=⟨[(.int .i64,false),(.imm .event,false),(.int .i64,false)],[.bool]⟩
def oLineR:sLineR.Out:=fun _ k=>k () (true,())
def lLineR:LoopAnn:={X:=Core × List Answer × Int × List Answer × Reply × Bool × Int × Int,live:=fun x=>[(2,.int .i64 x.2.2.2.2.2.2.1),(7,.ptr ⟨2,0,0,0⟩),(10,.sl 4 10 0 x.2.2.2.1.length),(12,.ptr ⟨6,0,0,0⟩),(13,.bool x.2.2.2.2.2.1),(14,.int .i64 x.2.2.2.2.2.2.2)],heap:=fun x=>[some (.obj .sched ⟨x.1⟩),some (.row .answer x.2.1),some (.raw [.ptr ⟨0,0,0,0⟩,.sl 1 10 0 x.2.1.length,.int .i64 x.2.2.1]),none,some (.row .answer x.2.2.2.1),none,some (.raw (EK.enc .reply x.2.2.2.2.1))],norm:=[.fold 0 .sched]}
def sLineA:Sig:=⟨[(.int .i64,false),(.imm .event,false)],[.bool]⟩
def oLineA:sLineA.Out:=fun _ k=>k () (true,())
def lLineA1:LoopAnn:={X:=Int × List Event × List Answer × Bool × List Req × Int,live:=fun x=>[(0,.int .i64 x.1),(1,.imm .event x.2.1),(5,.sl 1 10 0 x.2.2.1.length),(7,.bool x.2.2.2.1),(8,.sl 2 9 0 x.2.2.2.2.1.length),(9,.int .i64 x.2.2.2.2.2)],heap:=fun x=>[none,some (.row .answer x.2.2.1),some (.row .req x.2.2.2.2.1)],norm:=[.row 8 .req,.home 8 2]}
def lLineA2:LoopAnn:={X:=Int × List Event × List Answer × Bool × List Req × Int × Bool × Int,live:=fun x=>[(0,.int .i64 x.1),(1,.imm .event x.2.1),(5,.sl 1 10 0 x.2.2.1.length),(7,.bool x.2.2.2.1),(8,.sl 2 9 0 x.2.2.2.2.1.length),(9,.int .i64 x.2.2.2.2.2.1),(10,.bool x.2.2.2.2.2.2.1),(11,.int .i64 x.2.2.2.2.2.2.2)],heap:=fun x=>[none,some (.row .answer x.2.2.1),some (.row .req x.2.2.2.2.1)],norm:=[.home 8 2]}
def lLineA3:LoopAnn:={X:=Int × List Event × Bool × List Req × List Req × Int,live:=fun x=>[(0,.int .i64 x.1),(1,.imm .event x.2.1),(7,.bool x.2.2.1),(8,.sl 2 9 0 x.2.2.2.1.length),(12,.sl 3 9 0 x.2.2.2.2.1.length),(13,.int .i64 x.2.2.2.2.2)],heap:=fun x=>[none,none,some (.row .req x.2.2.2.1),some (.row .req x.2.2.2.2.1)]}
end Go.Ax.Sp
namespace Go.Ax.V
open Go.Ax.Sp Go.Ax.Law List Int IntKind
set_option maxRecDepth 100000
def vAgrees_1 (n:Int) (I:List Ax.Event × Core × List Answer × Int × Int→Prop) (m:List Ax.Event × Core × List Answer × Int × Int→Nat) (x:List Ax.Event × Core × List Answer × Int × Int):Prop:=
NM (x.2.2.2.2+1) fun n=>NX I m x fun y=>(0=0∧x.1=y.1∧LN x.1=LN y.1∧n=y.2.2.2.2∧True)∧Sched.mk x.2.1=Sched.mk y.2.1∧x.2.2.1=y.2.2.1∧(0=0∧(0=0∧length x.2.2.1=length y.2.2.1)∧x.2.2.2.1=y.2.2.2.1∧True)∧True
def vAgrees (n:Int) (l:List Ax.Event) (k:Unit→Bool × Unit→Prop):Prop:=
SH (replayS n l) fun s0=>length l≤1073741824∧(n<1∨64<n→k () (false,()))∧(1≤n∧n≤64→br (decide (s0.2.2≥0)) (k () (false,())) (LP (List Ax.Event × Core × List Answer × Int × Int) (fun x=>(0=0∧l=x.1∧LN l=LN x.1∧0=x.2.2.2.2∧True)∧Sched.mk s0.1=Sched.mk x.2.1∧s0.2.1=x.2.2.1∧(0=0∧(0=0∧length s0.2.1=length x.2.2.1)∧s0.2.2=x.2.2.2.1∧True)∧True) fun I m x=>SH (tk x.2.2.1) fun s1=>br (decide (x.2.2.2.2<LN x.1)) (AI x.1 x.2.2.2.2 fun e=>SH (tellA s1 e.Task).1 fun s2=>SH e.Reply fun s3=>br (!e.Kind==3) (vAgrees_1 n I m x) (0+length x.2.2.1≤length x.2.2.1∧length s1≤1099511627776∧br (!(tellA s1 e.Task).2) (k () (false,())) (br (!(s2.Err==s3.Err&&(s2.Id==s3.Id&&(s2.State==s3.State&&(s2.Start==s3.Start&&(s2.End==s3.End&&(s2.Plan==s3.Plan&&(s2.A==s3.A&&(s2.B==s3.B&&(s2.C==s3.C&&true)))))))))) (k () (false,())) (vAgrees_1 n I m x)))) (k () (true,()))))
def vAwakeL (u:Unit) (k:Unit→Bool × Unit→Prop):Prop:=
(1:Nat)≤1∧(1:Nat)≤1073741824∧((2:Int)<1∨(64:Int)<2→(0:Nat)≤0∧(0:Nat)≤1099511627776∧(0:Nat)≤1073741824∧k () (false,()))∧((1:Int)≤2∧(2:Int)≤64→(1:Nat)≤1∧(1:Nat)≤1099511627776∧(0:Nat)≤1073741824∧k () (true,()))
def vCalls_1 (I:List Ax.Event × List Req × Int→Prop) (m:List Ax.Event × List Req × Int→Nat) (x:List Ax.Event × List Req × Int):Prop:=
NM (x.2.2+1) fun n=>NX I m x fun y=>((0=0∧length x.2.1=length y.2.1)∧x.1=y.1∧LN x.1=LN y.1∧n=y.2.2∧True)∧x.2.1=y.2.1∧True
def vCalls (l:List Ax.Event) (k:Unit→List Req × Unit→Prop):Prop:=
LP (List Ax.Event × List Req × Int) (fun x=>((0=0∧0=length x.2.1)∧l=x.1∧LN l=LN x.1∧0=x.2.2∧True)∧[]=x.2.1∧True) fun I m x=>SH (length x.2.1) fun s0=>br (decide (x.2.2<LN x.1)) (AI x.1 x.2.2 fun e=>br (e.Kind==2) (br (isK e.Req.Kind) (1≤1∧0+s0≤s0∧s0+1≤68719476736∧NM (x.2.2+1) fun n=>NX I m x fun y=>((0=0∧s0+1=length y.2.1)∧x.1=y.1∧LN x.1=LN y.1∧n=y.2.2∧True)∧tk x.2.1++[e.Req]=y.2.1∧True) (vCalls_1 I m x)) (vCalls_1 I m x)) (s0=s0∧k () (x.2.1,()))
def vRefuse (t:Int) (e:Int) (k:Unit→Ax.Event × Unit→Prop):Prop:=
k () (Ax.Event.mk 0 2 t (Req.mk 0 0 0 0 0 0 false 0 0) (Reply.mk e 0 0 0 0 0 0 0 0) (Choice.mk 0 0) false,())
def vReplay_1 (n:Int) (I:List Ax.Event × Core × List Answer × Int × Int→Prop) (m:List Ax.Event × Core × List Answer × Int × Int→Nat) (x:List Ax.Event × Core × List Answer × Int × Int) (e:Ax.Event):Prop:=
SH (tdo x.2.1 x.2.2.1 e).2 fun s0=>SH (length s0.2) fun s1=>SH x.2.2.2 fun s2=>SH (True∧True∧(0:Int)=0∧True) fun s3=>(OkS x.2.1∧length x.2.2.1≤4294967296)∧br (!(tdo x.2.1 x.2.2.1 e).1) (br (decide (s2.1<0)) (NM (s2.2+1) fun n=>NX I m x fun y=>0+s1≤s1∧((0:Nat)=0∧(0:Nat)=0∧x.1=y.1∧LN x.1=LN y.1∧n=y.2.2.2.2∧True)∧s3∧Told.mk (Sched.mk s0.1) (take s1 (drop (0:Nat) s0.2)) s2.2=Told.mk (Sched.mk y.2.1) y.2.2.1 y.2.2.2.1∧True) (NM (s2.2+1) fun n=>NX I m x fun y=>0+s1≤s1∧((0:Nat)=0∧(0:Nat)=0∧x.1=y.1∧LN x.1=LN y.1∧n=y.2.2.2.2∧True)∧s3∧Told.mk (Sched.mk s0.1) (take s1 (drop (0:Nat) s0.2)) s2.1=Told.mk (Sched.mk y.2.1) y.2.2.1 y.2.2.2.1∧True)) (NM (s2.2+1) fun n=>NX I m x fun y=>((0:Nat)=0∧(0:Nat)=0∧x.1=y.1∧LN x.1=LN y.1∧n=y.2.2.2.2∧True)∧s3∧Told.mk (Sched.mk s0.1) s0.2 s2.1=Told.mk (Sched.mk y.2.1) y.2.2.1 y.2.2.2.1∧True)
def vReplay (n:Int) (l:List Ax.Event) (k:Unit→Option Sched × List Answer × Int × Int × Unit→Prop):Prop:=
(n<1∨64<n→k () (none,[],(0:Int),(1:Int),()))∧(1≤n∧n≤64→LP (List Ax.Event × Core × List Answer × Int × Int) (fun x=>((0:Nat)=0∧(0:Nat)=0∧l=x.1∧LN l=LN x.1∧0=x.2.2.2.2∧True)∧(True∧True∧(0:Int)=0∧True)∧Told.mk (Sched.mk (newCore n)) [] (-1:Int)=Told.mk (Sched.mk x.2.1) x.2.2.1 x.2.2.2.1∧True) fun I m x=>br (decide (x.2.2.2.2<LN x.1)) (AI x.1 x.2.2.2.2 fun e=>br (!e.Kind==2) (br (!e.Kind==4) (NM (x.2.2.2.2+1) fun n=>NX I m x fun y=>((0:Nat)=0∧(0:Nat)=0∧x.1=y.1∧LN x.1=LN y.1∧n=y.2.2.2.2∧True)∧(True∧True∧(0:Int)=0∧True)∧Told.mk (Sched.mk x.2.1) x.2.2.1 x.2.2.2.1=Told.mk (Sched.mk y.2.1) y.2.2.1 y.2.2.2.1∧True) (vReplay_1 n I m x e)) (vReplay_1 n I m x e)) (length x.2.2.1=length x.2.2.1∧k () (some (Sched.mk x.2.1),x.2.2.1,x.2.2.2.1,(0:Int),())))
def vReplayM_1 (I:List Ax.Event × Model × List Answer × Int × Int→Prop) (m_1:List Ax.Event × Model × List Answer × Int × Int→Nat) (x:List Ax.Event × Model × List Answer × Int × Int) (e:Ax.Event):Prop:=
SH (length x.2.2.1) fun s0=>SH (commitM x.2.1 e.Choice).2 fun s1=>SH x.2.2.2 fun s2=>AI x.1 s2.2 fun e_2=>br (!e_2.Kind==2) (NM (s2.2+1) fun n=>NX I m_1 x fun y=>(0=0∧x.1=y.1∧(0=0∧s0=length y.2.2.1)∧s2.1=y.2.2.2.1∧n=y.2.2.2.2∧True)∧s1=y.2.1∧x.2.2.1=y.2.2.1∧True) (AI x.1 s2.2 fun e_3=>SH (AI x.1 s2.2 fun e_5=>((1≤1∧0+s0≤s0∧s0+1≤68719476736∧NM (s2.2+1) fun n=>NX I m_1 x fun y=>(0=0∧x.1=y.1∧(0=0∧s0+1=length y.2.2.1)∧s2.1=y.2.2.2.1∧n=y.2.2.2.2∧True)∧s1=y.2.1∧tk x.2.2.1++[Answer.mk e_5.Task e_3.Reply]=y.2.2.1∧True)∧True)∧True) fun s3=>AI x.1 s2.2 fun e_4=>br (decide (e_4.Req.Kind≥1)) (AI x.1 s2.2 fun e_5=>br (decide (e_5.Req.Kind≤13)) (AI x.1 s2.2 fun e_6=>MW s1∧AI x.1 s2.2 fun e_7=>((1≤1∧0+s0≤s0∧s0+1≤68719476736∧NM (s2.2+1) fun n=>NX I m_1 x fun y=>(0=0∧x.1=y.1∧(0=0∧s0+1=length y.2.2.1)∧s2.1=y.2.2.2.1∧n=y.2.2.2.2∧True)∧(doM s1 e_6.Req).2=y.2.1∧tk x.2.2.1++[Answer.mk e_7.Task (doM s1 e_6.Req).1]=y.2.2.1∧True)∧True)∧True) s3) s3)
def vReplayM_2 (x:List Ax.Event × Model × List Answer × Int × Int) (n:Int) (y:List Ax.Event × Model × List Answer × Int × Int):Prop:=
0=0∧x.1=y.1∧(0=0∧length x.2.2.1+1=length y.2.2.1)∧x.2.2.2.2=y.2.2.2.1∧n=y.2.2.2.2∧True
def vReplayM_3 (x:List Ax.Event × Model × List Answer × Int × Int) (n:Int) (y:List Ax.Event × Model × List Answer × Int × Int):Prop:=
0=0∧x.1=y.1∧(0=0∧length x.2.2.1+1=length y.2.2.1)∧x.2.2.2.1=y.2.2.2.1∧n=y.2.2.2.2∧True
def vReplayM (m:Model) (l:List Ax.Event) (k:Model × Unit→List Answer × Int × Unit→Prop):Prop:=
LP (List Ax.Event × Model × List Answer × Int × Int) (fun x=>(0=0∧l=x.1∧(0=0∧0=length x.2.2.1)∧(-1)=x.2.2.2.1∧0=x.2.2.2.2∧True)∧m=x.2.1∧[]=x.2.2.1∧True) fun I m x=>SH (length x.2.2.1) fun s0=>SH x.2.2.2.2 fun s1=>SH x.2.2.1 fun s2=>SH (s0+1≤68719476736) fun s3=>SH (0+s0≤s0) fun s4=>br (decide (s1<LN x.1)) (AI x.1 s1 fun e=>br (e.Kind==4) (AI x.1 s1 fun e=>SH (commitM x.2.1 e.Choice) fun s5=>AI x.1 s1 fun e_1=>(MW x.2.1∧br (!s5.1==e_1.OK) (br (decide (x.2.2.2.1<0)) (AI x.1 s1 fun e_2=>br (!e_2.Kind==2) (NM (s1+1) fun n=>NX I m x fun y=>(0=0∧x.1=y.1∧(0=0∧s0=length y.2.2.1)∧s1=y.2.2.2.1∧n=y.2.2.2.2∧True)∧s5.2=y.2.1∧s2=y.2.2.1∧True) (AI x.1 s1 fun e_3=>SH (AI x.1 s1 fun e_5=>((1≤1∧s4∧s3∧NM (s1+1) fun n=>NX I m x fun y=>vReplayM_2 x n y∧s5.2=y.2.1∧tk s2++[Answer.mk e_5.Task e_3.Reply]=y.2.2.1∧True)∧True)∧True) fun s6=>AI x.1 s1 fun e_4=>br (decide (e_4.Req.Kind≥1)) (AI x.1 s1 fun e_5=>br (decide (e_5.Req.Kind≤13)) (AI x.1 s1 fun e_6=>MW s5.2∧AI x.1 s1 fun e_7=>((1≤1∧s4∧s3∧NM (s1+1) fun n=>NX I m x fun y=>vReplayM_2 x n y∧(doM s5.2 e_6.Req).2=y.2.1∧tk s2++[Answer.mk e_7.Task (doM s5.2 e_6.Req).1]=y.2.2.1∧True)∧True)∧True) s6) s6)) (vReplayM_1 I m x e)) (vReplayM_1 I m x e))∧True) ((AI x.1 s1 fun e=>br (!e.Kind==2) (NM (s1+1) fun n=>NX I m x fun y=>(0=0∧x.1=y.1∧(0=0∧s0=length y.2.2.1)∧x.2.2.2.1=y.2.2.2.1∧n=y.2.2.2.2∧True)∧x.2.1=y.2.1∧s2=y.2.2.1∧True) (AI x.1 s1 fun e=>SH (AI x.1 s1 fun e_2=>((1≤1∧s4∧s3∧NM (s1+1) fun n=>NX I m x fun y=>vReplayM_3 x n y∧x.2.1=y.2.1∧tk s2++[Answer.mk e_2.Task e.Reply]=y.2.2.1∧True)∧True)∧True) fun s5=>AI x.1 s1 fun e_1=>br (decide (e_1.Req.Kind≥1)) (AI x.1 s1 fun e_2=>br (decide (e_2.Req.Kind≤13)) (AI x.1 s1 fun e=>MW x.2.1∧AI x.1 s1 fun e_3=>((1≤1∧s4∧s3∧NM (s1+1) fun n=>NX I m x fun y=>vReplayM_3 x n y∧(doM x.2.1 e.Req).2=y.2.1∧tk s2++[Answer.mk e_3.Task (doM x.2.1 e.Req).1]=y.2.2.1∧True)∧True)∧True) s5) s5))∧True)) (s0=s0∧k (x.2.1,()) (s2,x.2.2.2.1,()))
def vTdo (t:Ax.Told) (e:Ax.Event) (k:Ax.Told × Unit→Bool × Unit→Prop):Prop:=
SH (length t.answers) fun s0=>SH (tk t.answers++[Answer.mk e.Task (doS t.S.C e.Req).1]) fun s1=>SH (tk t.answers++[Answer.mk e.Task e.Reply]) fun s2=>SH (wholeW (newX e.Choice) t.S.C).2 fun s3=>br (e.Kind==4) ((OkS t.S.C∧0+s0≤s0∧k (Told.mk (Sched.mk s3.2) (tk t.answers) t.bad,()) (s3.1.ok==e.OK,()))∧True) (br (isK e.Req.Kind) ((OkS t.S.C∧(((1≤1∧0+s0≤s0∧s0+1≤68719476736∧(0+(s0+1)≤length s1∧k (Told.mk (Sched.mk (doS t.S.C e.Req).2) (take (s0+1) (drop 0 s1)) t.bad,()) (true,()))∧True)∧True)∧True)∧True)∧True) (((1≤1∧0+s0≤s0∧s0+1≤68719476736∧(0+(s0+1)≤length s2∧k (Told.mk t.S (take (s0+1) (drop 0 s2)) t.bad,()) (true,()))∧True)∧True)∧True))
def vTell1 (s:Option Sched) (a:List Answer) (b:Int) (t:Int) (k:Unit→Reply × Bool × Unit→Prop):Prop:=
SH (((0:Int)=0∧(0:Int)=0∧(0:Int)=0∧(0:Int)=0∧(0:Int)=0∧(0:Int)=0∧(0:Int)=0∧(0:Int)=0∧(0:Int)=0∧True)∧True) fun s0=>LP (Option Sched × List Answer × Int × Int × Int) (fun x=>(t=x.2.2.2.1∧(0:Nat)=0∧a=x.2.1∧LN a=LN x.2.1∧0=x.2.2.2.2∧True)∧s0) fun I m x=>br (decide (x.2.2.2.2<LN x.2.1)) (AI x.2.1 x.2.2.2.2 fun e=>br (e.Task==x.2.2.2.1) (k () (e.Reply,true,())) (NM (x.2.2.2.2+1) fun n=>NX I m x fun y=>(x.2.2.2.1=y.2.2.2.1∧(0:Nat)=0∧x.2.1=y.2.1∧LN x.2.1=LN y.2.1∧n=y.2.2.2.2∧True)∧s0)) (k () (Reply.mk (0:Int) (0:Int) (0:Int) (0:Int) (0:Int) (0:Int) (0:Int) (0:Int) (0:Int),false,()))
end Go.Ax.V
namespace Go.Ax.Law
theorem OkS.com {c:Core} (h:OkS c) (x:Choice):OkS (comS c x).2:=by
  obtain ⟨n,m,h⟩:=h
  exact ⟨_,_,(comS_stb h x).2⟩
theorem tdo_ok {c:Core} (h:OkS c) (as:List Answer) (e:Go.Ax.Event):OkS (tdo c as e).2.1:=by
  unfold tdo
  split
  · exact h.com _
  · split
    · exact h.step _
    · exact h
theorem tdo_len (c:Core) (as:List Answer) (e:Go.Ax.Event):(tdo c as e).2.2.length≤as.length+1:=by
  unfold tdo
  split
  · simp
  · split<;>simp
theorem replay_stb {n:Nat}: ∀(l:List Go.Ax.Event) {c:Core} {m:Model} {as:List Answer} {bad i:Int},Stb n c m→Stb n (replayF c as bad i l).1 (replayMF m as bad i l).1∧(replayF c as bad i l).2=(replayMF m as bad i l).2
  | [],_,_,_,_,_,h=>⟨h,rfl⟩
  |e::l,c,m,as,bad,i,h=>by
    unfold replayF replayMF
    by_cases h4:e.Kind=4
    · rw [if_neg (show ¬ (e.Kind≠2∧e.Kind≠4) by omega),if_pos h4]
      have hx:=comS_stb h e.Choice
      have ht:tdo c as e=((comS c e.Choice).1==e.OK,(comS c e.Choice).2,as):=by unfold tdo;rw [if_pos h4]
      rw [ht,hx.1]
      exact replay_stb l hx.2
    · rw [if_neg h4]
      by_cases h2:e.Kind=2
      · rw [if_neg (show ¬ (e.Kind≠2∧e.Kind≠4) by omega),if_neg (show ¬ (e.Kind≠2) by omega)]
        by_cases hk:isK e.Req.Kind=true
        · have hd:=doS_stb h e.Req
          have hm:doSM m e.Req=doM m e.Req:=by unfold doSM;rw [if_pos hk]
          rw [hm] at hd
          have ht:tdo c as e=(true,(doS c e.Req).2,as++[⟨e.Task,(doS c e.Req).1⟩]):=by unfold tdo;rw [if_neg h4,if_pos hk]
          rw [ht,hd.1,if_pos hk,if_neg (by simp)]
          exact replay_stb l hd.2
        · have ht:tdo c as e=(true,c,as++[⟨e.Task,e.Reply⟩]):=by unfold tdo;rw [if_neg h4,if_neg hk]
          rw [ht,if_neg hk,if_neg (by simp)]
          exact replay_stb l h
      · rw [if_pos ⟨h2,h4⟩,if_pos h2]
        exact replay_stb l h
end Go.Ax.Law
namespace Go.Ax.O
open Go.Ax.Sp Go.Ax.Law
theorem vTdo {t:Go.Ax.Told} {e:Go.Ax.Event} {k:Go.Ax.Told × Unit→Bool × Unit→Prop} (h:oTdo (t,e,()) k):V.vTdo t e k:=by
  obtain ⟨⟨hok,hl⟩,hk⟩:=h
  have hok:OkS t.S.C:=hok
  have hl:t.answers.length≤4294967296:=hl
  have hk:k (⟨⟨(tdo t.S.C t.answers e).2.1⟩,(tdo t.S.C t.answers e).2.2,t.bad⟩,()) ((tdo t.S.C t.answers e).1,()):=hk
  unfold tdo at hk
  unfold V.vTdo V.SH
  have e1: ∀(a:Answer),List.take (t.answers.length+1) (List.drop 0 (t.answers++[a]))=t.answers++[a]:=fun a=>by
    rw [List.drop_zero,List.take_of_length_le (by simp)]
  simp only [tk_eq,Nat.zero_add,Nat.le_refl,true_and,and_true,e1]
  refine br_eq (fun h4=>?_) (fun h4=>br_bool (fun hb=>?_) (fun hb=>?_))
  · rw [if_pos h4] at hk;exact ⟨hok,hk⟩
  · rw [if_neg h4,if_pos hb] at hk
    exact ⟨hok,by omega,by simp,hk⟩
  · rw [if_neg h4,if_neg (by rw [hb];decide)] at hk
    exact ⟨by omega,by simp,hk⟩
theorem vRefuse {t e:Int} {k:Unit→Go.Ax.Event × Unit→Prop} (h:oRefuse (t,e,()) k):V.vRefuse t e k:=h
theorem vReplay {n:Int} {l:List Go.Ax.Event} {k:Unit→Option Sched × List Answer × Int × Int × Unit→Prop} (h:oReplay (n,l,()) k):V.vReplay n l k:=by
  obtain ⟨hl,hk1,hk2⟩:=h
  have hl:l.length≤1073741824:=hl
  unfold V.vReplay V.LP V.NX V.AI V.NM V.LN
  simp only [tk_eq,Nat.zero_add,Nat.le_refl,true_and,and_true]
  refine ⟨hk1,fun hn=>?_⟩
  have hk:k () (some ⟨(replayS n l).1⟩,(replayS n l).2.1,(replayS n l).2.2,0,()):=hk2 hn
  have hs:=new_stb (n:=n.toNat) (by omega) (by omega)
  rw [Int.toNat_of_nonneg (by omega)] at hs
  refine ⟨fun x=>x.1=l∧OkS x.2.1∧0≤x.2.2.2.2∧x.2.2.2.2≤l.length∧x.2.2.1.length≤x.2.2.2.2.toNat∧replayF x.2.1 x.2.2.1 x.2.2.2.1 x.2.2.2.2 (l.drop x.2.2.2.2.toNat)=replayS n l,fun x=>(l.length-x.2.2.2.2).toNat,(l,newCore n,[],-1,0),⟨rfl,⟨_,_,hs⟩,Int.le_refl _,by simp,by simp,rfl⟩,by simp,?_⟩
  rintro ⟨l',c,as,bad,i⟩ ⟨g1,g2,g3,g4,g5,g6⟩
  simp only [] at g1 g2 g3 g4 g5 g6
  subst g1
  obtain ⟨i,rfl⟩:=Int.eq_ofNat_of_zero_le g3
  simp only [Int.toNat_natCast] at g5 g6 ⊢
  refine br_dec (fun hi=>⟨⟨g3,hi⟩,fun e he=>?_⟩) (fun hi=>?_)
  · have hd:l'.drop i=e::l'.drop (i+1):=by
      have hlt:i<l'.length:=(List.getElem?_eq_some_iff.1 he).1
      rw [List.drop_eq_getElem_cons hlt]
      congr 1
      exact (List.getElem?_eq_some_iff.1 he).2
    rw [hd] at g6
    unfold replayF at g6
    have hn1:((i:Int)+1).toNat=i+1:=by omega
    have one: ¬ (e.Kind≠2∧e.Kind≠4)→V.vReplay_1 n (fun x=>x.1=l'∧OkS x.2.1∧0≤x.2.2.2.2∧x.2.2.2.2≤l'.length∧x.2.2.1.length≤x.2.2.2.2.toNat∧replayF x.2.1 x.2.2.1 x.2.2.2.1 x.2.2.2.2 (l'.drop x.2.2.2.2.toNat)=replayS n l') (fun x=>(l'.length-x.2.2.2.2).toNat) (l',c,as,bad,(i:Int)) e:=by
      intro hkind
      rw [if_neg hkind] at g6
      have hlen:=tdo_len c as e
      have nx: ∀b2,b2=(if (tdo c as e).1=false∧bad<0 then (i:Int) else bad)→ ∀q,q=IntKind.i64.wrap ((i:Int)+1)→ ∃y:List Go.Ax.Event × Core × List Answer × Int × Int,(y.1=l'∧OkS y.2.1∧0≤y.2.2.2.2∧y.2.2.2.2≤l'.length∧y.2.2.1.length≤y.2.2.2.2.toNat∧replayF y.2.1 y.2.2.1 y.2.2.2.1 y.2.2.2.2 (l'.drop y.2.2.2.2.toNat)=replayS n l')∧((l'=y.1∧(l'.length:Int)=(y.1.length:Int)∧q=y.2.2.2.2)∧Told.mk (Sched.mk (tdo c as e).2.1) (tdo c as e).2.2 b2=Told.mk (Sched.mk y.2.1) y.2.2.1 y.2.2.2.1)∧(l'.length-y.2.2.2.2).toNat<(l'.length-(i:Int)).toNat:=by
        intro b2 hb2 q hq
        rw [w64 (by omega)] at hq
        subst hq hb2
        exact ⟨(l',(tdo c as e).2.1,(tdo c as e).2.2,_,(i:Int)+1),⟨rfl,tdo_ok g2 as e,by simp only [];omega,by simp only [];omega,by simp only [hn1];omega,by simp only [hn1];exact g6⟩,by simp,by simp only [];omega⟩
      unfold V.vReplay_1 V.NX V.NM V.SH V.LN
      simp only [tk_eq,Nat.zero_add,Nat.le_refl,true_and,and_true,List.drop_zero,List.take_length]
      refine ⟨⟨g2,by omega⟩,br_not (fun hb=>br_dec (fun hbad=>?_) (fun hbad=>?_)) (fun hb=>?_)⟩
      · exact nx _ (by rw [if_pos ⟨hb,hbad⟩])
      · exact nx _ (by rw [if_neg (fun hh=>hbad hh.2)])
      · exact nx _ (by rw [if_neg (fun hh=>by rw [hb] at hh;cases hh.1)])
    refine br_ne (fun h2=>br_ne (fun h4 q hq=>?_) (fun h4=>one (by omega))) (fun h2=>one (by omega))
    rw [if_pos ⟨h2,h4⟩] at g6
    rw [w64 (by omega)] at hq
    subst hq
    exact ⟨(l',c,as,bad,(i:Int)+1),⟨rfl,g2,by simp only [];omega,by simp only [];omega,by simp only [hn1];omega,by simp only [hn1];exact g6⟩,by simp,by simp only [];omega⟩
  · rw [List.drop_eq_nil_of_le (by omega)] at g6
    unfold replayF at g6
    rw [←g6] at hk
    exact hk
end Go.Ax.O
namespace Go.Ax.Law
theorem tellA_step {as:List Answer} {t:Int} {i:Nat} {e:Answer} (he:as[i]? =some e) (h:e.Task≠t):tellA (as.drop i) t=tellA (as.drop (i+1)) t:=by
 have hlt:i<as.length:=(List.getElem?_eq_some_iff.1 he).1
 have hd:as.drop i=e::as.drop (i+1):=by
  rw [List.drop_eq_getElem_cons hlt];congr 1;exact (List.getElem?_eq_some_iff.1 he).2
 rw [hd];unfold tellA
 rw [List.find?_cons_of_neg (by simp [h])]
theorem tellA_here {as:List Answer} {t:Int} {i:Nat} {e:Answer} (he:as[i]? =some e) (h:e.Task=t):tellA (as.drop i) t=(e.Reply,true):=by
 have hlt:i<as.length:=(List.getElem?_eq_some_iff.1 he).1
 have hd:as.drop i=e::as.drop (i+1):=by
  rw [List.drop_eq_getElem_cons hlt];congr 1;exact (List.getElem?_eq_some_iff.1 he).2
 rw [hd];unfold tellA
 rw [List.find?_cons_of_pos (by simp [h])]
theorem callsL_snoc {l:List Go.Ax.Event} {i:Nat} {e:Go.Ax.Event} (he:l[i]? =some e):callsL (l.take (i+1))=callsL (l.take i)++(if callE e then [e.Req] else []):=by
 rw [List.take_add_one,he]
 unfold callsL
 simp only [Option.toList_some,List.filter_append,List.map_append]
 congr 1
 split
 ·rename_i h;simp [h]
 ·rename_i h;simp [h]
end Go.Ax.Law
namespace Go.Ax.O
open Go.Ax.Sp Go.Ax.Law
theorem vAwakeL {u:Unit} {k:Unit→Bool × Unit→Prop} (h:oYes u k):V.vAwakeL u k:=by
 have h:k () (true,()):=h
 exact ⟨by decide,by decide,fun hn=>by omega,fun _=>⟨by decide,by decide,by decide,h⟩⟩
theorem vTell1 {s:Option Sched} {a:List Answer} {b t:Int} {k:Unit→Reply × Bool × Unit→Prop} (h:oTell1 (s,a,b,t,()) k):V.vTell1 s a b t k:=by
 obtain ⟨hl,hk⟩:=h
 have hl:a.length≤1099511627776:=hl
 have hk:k () ((tellA a t).1,(tellA a t).2,()):=hk
 unfold V.vTell1 V.LP V.NX V.AI V.NM V.SH V.LN
 simp only [tk_eq,Nat.zero_add,Nat.le_refl,true_and,and_true]
 refine ⟨fun x=>x.2.1=a∧x.2.2.2.1=t∧0≤x.2.2.2.2∧x.2.2.2.2≤a.length∧tellA (a.drop x.2.2.2.2.toNat) t=tellA a t,fun x=>(a.length-x.2.2.2.2).toNat,(s,a,b,t,0),⟨rfl,rfl,Int.le_refl _,by simp,by simp⟩,by simp,?_⟩
 rintro ⟨s',a',b',t',i⟩ ⟨g1,g2,g3,g4,g5⟩
 simp only [] at g1 g2 g3 g4 g5
 subst g1 g2
 obtain ⟨i,rfl⟩:=Int.eq_ofNat_of_zero_le g3
 simp only [Int.toNat_natCast] at g5 ⊢
 refine br_dec (fun hi=>⟨⟨g3,hi⟩,fun e he=>br_eq (fun h1=>?_) (fun h1 q hq=>?_)⟩) (fun hi=>?_)
 ·rw [tellA_here he h1] at g5
  rw [←g5] at hk;exact hk
 ·rw [w64 (by omega)] at hq
  subst hq
  have hn1:((i:Int)+1).toNat=i+1:=by omega
  exact ⟨(s',a',b',t',(i:Int)+1),⟨rfl,rfl,by simp only [];omega,by simp only [];omega,by simp only [hn1];rw [←tellA_step he h1];exact g5⟩,by simp,by simp only [];omega⟩
 ·rw [List.drop_eq_nil_of_le (by omega)] at g5
  rw [←g5] at hk;exact hk
theorem vCalls {l:List Go.Ax.Event} {k:Unit→List Req × Unit→Prop} (h:oCalls (l,()) k):V.vCalls l k:=by
 obtain ⟨hl,hk⟩:=h
 have hl:l.length≤1073741824:=hl
 have hk:k () (callsL l,()):=hk
 unfold V.vCalls V.vCalls_1 V.LP V.NX V.AI V.NM V.SH V.LN
 simp only [tk_eq,Nat.zero_add,Nat.le_refl,true_and,and_true]
 refine ⟨fun x=>x.1=l∧0≤x.2.2∧x.2.2≤l.length∧x.2.1=callsL (l.take x.2.2.toNat),fun x=>(l.length-x.2.2).toNat,(l,[],0),⟨rfl,Int.le_refl _,by simp,rfl⟩,by simp,?_⟩
 rintro ⟨l',o,i⟩ ⟨g1,g2,g3,g4⟩
 simp only [] at g1 g2 g3 g4
 subst g1 g4
 obtain ⟨i,rfl⟩:=Int.eq_ofNat_of_zero_le g2
 simp only [Int.toNat_natCast]
 have hlen:(callsL (l'.take i)).length≤l'.length:=by
  unfold callsL
  rw [List.length_map]
  have h1:=List.length_filter_le callE (l'.take i)
  have h2:=List.length_take_le' i l'
  omega
 have hn1:((i:Int)+1).toNat=i+1:=by omega
 refine br_dec (fun hi=>⟨⟨g2,hi⟩,fun e he=>?_⟩) (fun hi=>?_)
 ·have skip:callE e=false→ ∀q,q=IntKind.i64.wrap ((i:Int)+1)→ ∃y:List Go.Ax.Event × List Req × Int,(y.1=l'∧0≤y.2.2∧y.2.2≤l'.length∧y.2.1=callsL (l'.take y.2.2.toNat))∧(((callsL (l'.take i)).length=y.2.1.length∧l'=y.1∧(l'.length:Int)=(y.1.length:Int)∧q=y.2.2)∧callsL (l'.take i)=y.2.1)∧(l'.length-y.2.2).toNat<(l'.length-(i:Int)).toNat:=by
   intro hc q hq
   rw [w64 (by omega)] at hq
   subst hq
   have hs:=callsL_snoc he
   rw [hc] at hs
   simp at hs
   exact ⟨(l',callsL (l'.take (i+1)),(i:Int)+1),⟨rfl,by simp only [];omega,by simp only [];omega,by simp only [hn1]⟩,by simp [hs],by simp only [];omega⟩
  refine br_eq (fun h2=>br_bool (fun h3=>⟨by omega,fun q hq=>?_⟩) (fun h3=>skip (by unfold callE;simp [h3]))) (fun h2=>skip (by unfold callE;simp [h2]))
  rw [w64 (by omega)] at hq
  subst hq
  have hs:=callsL_snoc he
  have hc:callE e=true:=by unfold callE;simp [h2,h3]
  rw [hc] at hs
  simp at hs
  exact ⟨(l',callsL (l'.take (i+1)),(i:Int)+1),⟨rfl,by simp only [];omega,by simp only [];omega,by simp only [hn1]⟩,by simp [hs],by simp only [];omega⟩
 ·rw [List.take_of_length_le (by omega)];exact hk
end Go.Ax.O
namespace Go.Ax.Law
theorem drop_at {α:Type} {l:List α} {i:Nat} {e:α} (he:l[i]? =some e):l.drop i=e::l.drop (i+1):=by
  have hlt:i<l.length:=(List.getElem?_eq_some_iff.1 he).1
  rw [List.drop_eq_getElem_cons hlt];congr 1;exact (List.getElem?_eq_some_iff.1 he).2
theorem replay_len: ∀(l:List Go.Ax.Event) (c:Core) (as:List Answer) (bad i:Int),(replayF c as bad i l).2.1.length≤as.length+l.length
  | [],_,_,_,_=>by simp [replayF]
  |e::l,c,as,bad,i=>by
    unfold replayF
    split
    · have:=replay_len l c as bad (i+1);simp only [List.length_cons];omega
    · have h1:=replay_len l (tdo c as e).2.1 (tdo c as e).2.2 (if (tdo c as e).1=false∧bad<0 then i else bad) (i+1)
      have h2:=tdo_len c as e
      simp only [List.length_cons];omega
end Go.Ax.Law
namespace Go.Ax.O
open Go.Ax.Sp Go.Ax.Law
theorem vReplayM {m:Model} {l:List Go.Ax.Event} {k:Model × Unit→List Answer × Int × Unit→Prop} (h:oReplayM (m,l,()) k):V.vReplayM m l k:=by
  obtain ⟨⟨⟨n,c,hs⟩,hl⟩,hk⟩:=h
  have hs:Stb n c m:=hs
  have hl:l.length≤1073741824:=hl
  have hkk:k ((replayMF m [] (-1) 0 l).1,()) ((replayMF m [] (-1) 0 l).2.1,(replayMF m [] (-1) 0 l).2.2,()):=hk
  obtain ⟨R,hR⟩: ∃R,replayMF m [] (-1) 0 l=R:=⟨_,rfl⟩
  rw [hR] at hkk
  unfold V.vReplayM V.vReplayM_3 V.vReplayM_2 V.vReplayM_1 V.LP V.NX V.AI V.NM V.SH V.LN
  simp only [tk_eq,Nat.zero_add,Nat.le_refl,true_and,and_true]
  refine ⟨fun x=>x.1=l∧(∃c,Stb n c x.2.1)∧0≤x.2.2.2.2∧x.2.2.2.2≤l.length∧x.2.2.1.length≤x.2.2.2.2.toNat∧replayMF x.2.1 x.2.2.1 x.2.2.2.1 x.2.2.2.2 (l.drop x.2.2.2.2.toNat)=R,fun x=>(l.length-x.2.2.2.2).toNat,(l,m,[],-1,0),⟨rfl,⟨c,hs⟩,Int.le_refl _,by simp,by simp,hR⟩,by simp,?_⟩
  rintro ⟨l',m',as,bad,i⟩ ⟨g1,⟨c',g2⟩,g3,g4,g5,g6⟩
  simp only [] at g1 g2 g3 g4 g5 g6
  subst g1
  obtain ⟨i,rfl⟩:=Int.eq_ofNat_of_zero_le g3
  simp only [Int.toNat_natCast] at g5 g6 ⊢
  have hn1:((i:Int)+1).toNat=i+1:=by omega
  refine br_dec (fun hi=>?_) (fun hi=>?_)
  · have bnd:(0:Int)≤(i:Int)∧(i:Int)<(l'.length:Int):=⟨g3,hi⟩
    have hmw:=g2.mw
    refine ⟨bnd,fun e he=>?_⟩
    rw [drop_at he] at g6
    unfold replayMF at g6
    have nx: ∀m2 as2 bad2,(∃c,Stb n c m2)→as2.length≤i+1→replayMF m2 as2 bad2 ((i:Int)+1) (l'.drop (i+1))=R→ ∀q,q=IntKind.i64.wrap ((i:Int)+1)→ ∃y:List Go.Ax.Event × Model × List Answer × Int × Int,(y.1=l'∧(∃c,Stb n c y.2.1)∧0≤y.2.2.2.2∧y.2.2.2.2≤l'.length∧y.2.2.1.length≤y.2.2.2.2.toNat∧replayMF y.2.1 y.2.2.1 y.2.2.2.1 y.2.2.2.2 (l'.drop y.2.2.2.2.toNat)=R)∧((l'=y.1∧as2.length=y.2.2.1.length∧bad2=y.2.2.2.1∧q=y.2.2.2.2)∧m2=y.2.1∧as2=y.2.2.1)∧(l'.length-y.2.2.2.2).toNat<(l'.length-(i:Int)).toNat:=by
      intro m2 as2 bad2 h1 h2 h3 q hq
      rw [w64 (by omega)] at hq
      subst hq
      exact ⟨(l',m2,as2,bad2,(i:Int)+1),⟨rfl,h1,by simp only [];omega,by simp only [];omega,by simp only [hn1];exact h2,by simp only [hn1];exact h3⟩,by simp,by simp only [];omega⟩
    refine br_eq (fun h4=>⟨bnd,fun e1 he1=>⟨bnd,fun e2 he2=>?_⟩⟩) (fun h4=>⟨bnd,fun e1 he1=>?_⟩)
    · rw [he] at he1 he2
      cases he1;cases he2
      have hx:=(comS_stb g2 e.Choice).2
      rw [if_pos h4] at g6
      have tail: ∀bad2,bad2=(if ((commitM m' e.Choice).1==e.OK)=false∧bad<0 then (i:Int) else bad)→_:=fun bad2 hb=>nx (commitM m' e.Choice).2 as bad2 ⟨_,hx⟩ (by omega) (by rw [hb];exact g6)
      refine ⟨hmw,br_not (fun hh=>br_dec (fun hb=>⟨bnd,fun e3 he3=>?_⟩) (fun hb=>⟨bnd,fun e3 he3=>?_⟩)) (fun hh=>⟨bnd,fun e3 he3=>?_⟩)⟩<;>(rw [he] at he3;cases he3;refine br_ne (fun _=>?_) (fun h2=>by omega))
      · have:=tail _ (by rw [if_pos ⟨hh,hb⟩])
        simpa using this
      · have:=tail _ (by rw [if_neg (fun x=>hb x.2)])
        simpa using this
      · have:=tail _ (by rw [if_neg (fun x=>by rw [hh] at x;cases x.1)])
        simpa using this
    · rw [he] at he1
      cases he1
      rw [if_neg h4] at g6
      refine br_ne (fun h2=>?_) (fun h2=>⟨bnd,fun e3 he3=>⟨bnd,fun e4 he4=>?_⟩⟩)
      · rw [if_pos h2] at g6
        have:=nx m' as bad ⟨_,g2⟩ (by omega) g6
        simpa using this
      · rw [he] at he3 he4
        cases he3;cases he4
        rw [if_neg (by omega)] at g6
        have no:isK e.Req.Kind=false→ ∀q,q=IntKind.i64.wrap ((i:Int)+1)→_:=fun hk=>by
          rw [if_neg (by rw [hk];decide)] at g6
          exact nx m' (as++[⟨e.Task,e.Reply⟩]) bad ⟨_,g2⟩ (by simp;omega) g6
        refine br_dec (fun h1=>⟨bnd,fun e5 he5=>?_⟩) (fun h1=>⟨bnd,fun e5 he5=>?_⟩)
        · rw [he] at he5
          cases he5
          refine br_dec (fun h13=>⟨bnd,fun e6 he6=>⟨hmw,bnd,fun e7 he7=>⟨by omega,?_⟩⟩⟩) (fun h13=>⟨bnd,fun e6 he6=>⟨by omega,?_⟩⟩)
          · rw [he] at he6 he7
            cases he6;cases he7
            have hk:isK e.Req.Kind=true:=by unfold isK;simp;omega
            have hd:=(doS_stb g2 e.Req).2
            have hm:doSM m' e.Req=doM m' e.Req:=by unfold doSM;rw [if_pos hk]
            rw [hm] at hd
            rw [if_pos hk] at g6
            have:=nx (doM m' e.Req).2 (as++[⟨e.Task,(doM m' e.Req).1⟩]) bad ⟨_,hd⟩ (by simp;omega) g6
            simpa using this
          · rw [he] at he6
            cases he6
            have:=no (by unfold isK;simp;omega)
            simpa using this
        · rw [he] at he5
          cases he5
          refine ⟨by omega,?_⟩
          have:=no (by unfold isK;simp;omega)
          simpa using this
  · rw [List.drop_eq_nil_of_le (by omega)] at g6
    unfold replayMF at g6
    rw [←g6] at hkk
    exact hkk
theorem vAgrees {n:Int} {l:List Go.Ax.Event} {k:Unit→Bool × Unit→Prop} (h:oAgrees (n,l,()) k):V.vAgrees n l k:=by
  obtain ⟨hl,hk0⟩:=h
  have hl:l.length≤1073741824:=hl
  have hk:k () (agreesS n l,()):=hk0
  clear hk0
  unfold agreesS at hk
  unfold V.vAgrees V.LP V.AI V.SH V.LN
  simp only [tk_eq,Nat.zero_add,Nat.le_refl,true_and,and_true]
  refine ⟨hl,fun hn=>?_,fun hn=>?_⟩
  · have:(decide (1≤n)&&(decide (n≤64)&&(decide ((replayS n l).2.2<0)&&agreesL (replayS n l).2.1 l)))=false:=by
      rcases hn with h1 |h1
      · rw [decide_eq_false (by omega),Bool.false_and]
      · rw [decide_eq_false (p:=n≤64) (by omega),Bool.false_and,Bool.and_false]
    rw [this] at hk;exact hk
  · rw [decide_eq_true (by omega),decide_eq_true (by omega),Bool.true_and,Bool.true_and] at hk
    have hlen:=replay_len l (newCore n) [] (-1) 0
    have hlen:(replayS n l).2.1.length≤l.length:=by unfold replayS;simpa using hlen
    generalize replayS n l=R at*
    obtain ⟨c,as,bad⟩:=R
    simp only [] at hk hlen ⊢
    refine br_dec (fun hb=>?_) (fun hb=>?_)
    · rw [decide_eq_false (by omega),Bool.false_and] at hk;exact hk
    · rw [decide_eq_true (by omega),Bool.true_and] at hk
      obtain ⟨B,hB⟩: ∃B,agreesL as l=B:=⟨_,rfl⟩
      rw [hB] at hk
      refine ⟨fun x=>x.1=l∧x.2.1=c∧x.2.2.1=as∧x.2.2.2.1=bad∧0≤x.2.2.2.2∧x.2.2.2.2≤l.length∧agreesL as (l.drop x.2.2.2.2.toNat)=B,fun x=>(l.length-x.2.2.2.2).toNat,(l,c,as,bad,0),⟨rfl,rfl,rfl,rfl,Int.le_refl _,by simp,hB⟩,by simp,?_⟩
      rintro ⟨l',c',as',bad',i⟩ ⟨g1,g2,g3,g4,g5,g6,g7⟩
      simp only [] at g1 g2 g3 g4 g5 g6 g7
      subst g1 g2 g3 g4
      obtain ⟨i,rfl⟩:=Int.eq_ofNat_of_zero_le g5
      simp only [Int.toNat_natCast] at g7 ⊢
      have hn1:((i:Int)+1).toNat=i+1:=by omega
      refine br_dec (fun hi=>⟨⟨g5,hi⟩,fun e he=>?_⟩) (fun hi=>?_)
      · rw [drop_at he] at g7
        unfold agreesL at g7
        rw [List.all_cons] at g7
        have T:agreesL as' (l'.drop (i+1))=B→V.vAgrees_1 n (fun x=>x.1=l'∧x.2.1=c'∧x.2.2.1=as'∧x.2.2.2.1=bad'∧0≤x.2.2.2.2∧x.2.2.2.2≤l'.length∧agreesL as' (l'.drop x.2.2.2.2.toNat)=B) (fun x=>(l'.length-x.2.2.2.2).toNat) (l',c',as',bad',(i:Int)):=by
          intro hg q hq
          have hq:q=IntKind.i64.wrap ((i:Int)+1):=hq
          rw [w64 (by omega)] at hq
          subst hq
          exact ⟨(l',c',as',bad',(i:Int)+1),⟨rfl,rfl,rfl,rfl,by simp only [];omega,by simp only [];omega,by simp only [hn1];exact hg⟩,by simp,by simp only [];omega⟩
        refine br_ne (fun h3=>T ?_) (fun h3=>⟨by omega,br_not (fun h4=>?_) (fun h4=>br_not (fun h5=>?_) (fun h5=>T ?_))⟩)
        · rw [decide_eq_false h3] at g7;simpa [agreesL] using g7
        · rw [decide_eq_true h3,h4] at g7
          simp at g7
          rw [g7] at hk;exact hk
        · have h5:eqR (tellA as' e.Task).1 e.Reply=false:=h5
          rw [decide_eq_true h3,h4,h5] at g7
          simp at g7
          rw [g7] at hk;exact hk
        · have h5:eqR (tellA as' e.Task).1 e.Reply=true:=h5
          rw [decide_eq_true h3,h4,h5] at g7
          simpa [agreesL] using g7
      · rw [List.drop_eq_nil_of_le (by omega)] at g7
        rw [←g7] at hk
        exact hk
end Go.Ax.O
