import Derived.Test.YtbmabiedmdlinaaGreatDoorAxW
import Derived.WideKeyArgs
set_option linter.all false
namespace Go.Ax
open Go.ChangeShapes Go.WideShapes
inductive CK where
 |int (k:IntKind)
 |bool
def EK.cks:EK→List CK
 | .i64=>[.int .i64]
 | .u8=>[.int .u8]
 | .u64=>[.int .u64]
 | .bool=>[.bool]
 | .job=>[.int .i64,.int .i64,.int .i64,.int .i64,.int .i64,.int .i64,.int .i64,.int .i64,.int .i64,.int .u64]
 | .req=>[.int .i64,.int .i64,.int .i64,.int .i64,.int .i64,.int .i64,.bool,.int .i64,.int .i64]
 | .reply=>[.int .i64,.int .i64,.int .i64,.int .i64,.int .i64,.int .i64,.int .i64,.int .i64,.int .i64]
 | .step=>[.int .i64,.int .i64]
 | .span=>[.int .i64,.int .i64,.int .i64]
 | .item=>[.int .i64,.int .i64,.int .i64,.int .i64]
 | .choice=>[.int .i64,.int .i64]
 | .event=>[.int .i64,.int .i64,.int .i64,.int .i64,.int .i64,.int .i64,.int .i64,.int .i64,.int .i64,.bool,.int .i64,.int .i64,.int .i64,.int .i64,.int .i64,.int .i64,.int .i64,.int .i64,.int .i64,.int .i64,.int .i64,.int .i64,.int .i64,.bool]
 | .deed=>[.bool,.int .i64,.int .i64,.int .i64,.int .i64,.int .i64,.int .i64,.bool,.int .i64,.int .i64,.int .i64,.int .i64]
 | .sdeed=>[.int .i64,.int .i64,.int .i64,.int .i64,.int .i64,.int .i64,.bool,.int .i64,.int .i64,.int .i64,.int .i64,.bool]
 | .change=>[.int .i64,.int .i64,.int .i64,.bool]
 | .answer=>[.int .i64,.int .i64,.int .i64,.int .i64,.int .i64,.int .i64,.int .i64,.int .i64,.int .i64,.int .i64]
 | .told37=>[.int .i64,.int .i64,.int .i64]
 | .entry=>[.int .i64,.int .i64,.int .i64,.int .i64,.int .i64,.int .i64]
 | .arr7=>[.int .i64,.int .i64,.int .i64,.int .i64,.int .i64,.int .i64,.int .i64]
 | .lane=>[.bool,.bool,.bool]
 |_=>[]
def EK.ofCells:(k:EK)→(Nat→Int)→(Nat→Bool)→k.T
 | .i64,f,_=>(f 0)
 | .u8,f,_=>(f 0)
 | .u64,f,_=>(f 0)
 | .bool,_,g=>(g 0)
 | .job,f,_=>⟨(f 0),(f 1),(f 2),(f 3),(f 4),(f 5),(f 6),(f 7),(f 8),(f 9)⟩
 | .req,f,g=>⟨(f 0),(f 1),(f 2),(f 3),(f 4),(f 5),(g 6),(f 7),(f 8)⟩
 | .reply,f,_=>⟨(f 0),(f 1),(f 2),(f 3),(f 4),(f 5),(f 6),(f 7),(f 8)⟩
 | .step,f,_=>⟨(f 0),(f 1)⟩
 | .span,f,_=>⟨(f 0),(f 1),(f 2)⟩
 | .item,f,_=>⟨(f 0),(f 1),(f 2),(f 3)⟩
 | .choice,f,_=>⟨(f 0),(f 1)⟩
 | .event,f,g=>⟨(f 0),(f 1),(f 2),⟨(f 3),(f 4),(f 5),(f 6),(f 7),(f 8),(g 9),(f 10),(f 11)⟩,⟨(f 12),(f 13),(f 14),(f 15),(f 16),(f 17),(f 18),(f 19),(f 20)⟩,⟨(f 21),(f 22)⟩,(g 23)⟩
 | .deed,f,g=>⟨(g 0),⟨(f 1),(f 2),(f 3),(f 4),(f 5),(f 6),(g 7),(f 8),(f 9)⟩,⟨(f 10),(f 11)⟩⟩
 | .sdeed,f,g=>⟨⟨(f 0),(f 1),(f 2),(f 3),(f 4),(f 5),(g 6),(f 7),(f 8)⟩,⟨(f 9),(f 10)⟩,(g 11)⟩
 | .change,f,g=>⟨(f 0),(f 1),(f 2),(g 3)⟩
 | .answer,f,_=>⟨(f 0),⟨(f 1),(f 2),(f 3),(f 4),(f 5),(f 6),(f 7),(f 8),(f 9)⟩⟩
 | .told37,f,_=>⟨(f 0),(f 1),(f 2)⟩
 | .entry,f,_=>⟨(f 0),(f 1),(f 2),(f 3),(f 4),(f 5)⟩
 | .arr7,f,_=>⟨(f 0),(f 1),(f 2),(f 3),(f 4),(f 5),(f 6)⟩
 | .lane,f,g=>⟨(g 0),(g 1),(g 2)⟩
 |k,_,_=>k.def
def CK.av (f:Nat→Int) (g:Nat→Bool):Nat→List CK→List AV
 |_,[]=>[]
 |j,.int k::r=> .int k (f j)::CK.av f g (j+1) r
 |j,.bool::r=> .bool (g j)::CK.av f g (j+1) r
theorem enc_ofCells (k:EK) (f:Nat→Int) (g:Nat→Bool) (h:k.cks≠[]):k.enc (k.ofCells f g)=CK.av f g 0 k.cks:=by
 cases k<;>first |rfl |exact absurd rfl h
def CK.has:CK→Value→Prop
 | .int k,u=> ∃n,u= .int k n∧(Lit.int k n).wf=true
 | .bool,u=> ∃b,u= .bool b
def ckFields (P:Program) (rec:TypeId→Option (List CK)):Nat→List Field→Option (List CK)
 |_,[]=>some []
 |pos,f::fs=>match rec f.type with
  |some l=>match decEq f.offset pos,decEq (P.cellsOf f.type) l.length with
   |isTrue _,isTrue _=>(ckFields P rec (pos+l.length) fs).map (l++ ·)
   |_,_=>none
  |none=>none
def ckPlan (P:Program):Nat→TypeId→Option (List CK)
 |0,_=>none
 |d+1,t=>match P.underlying t with
  |some .bool=>some [.bool]
  |some (.int k)=>some [.int k]
  |some (.struct fs)=>match ckFields P (ckPlan P d) 0 fs.toList with
   |some l=>match decEq (P.cellsOf t) l.length with |isTrue _=>some l |isFalse _=>none
   |none=>none
  |_=>none
variable {H:Type} {enc:TypeId × Value→H} {P:Program} {w:World} {base:Nat} {spare:Nat→Bool} {held:Bool}
def HasAt (l:List CK) (cs:List Value) (pos:Nat):Prop:= ∀(j:Nat) (c:CK),l[j]? =some c→ ∃u,cs[pos+j]? =some u∧c.has u
theorem fields_flat {fuel:Nat} {rec:TypeId→Option (List CK)}
  (ih: ∀{t l} {cs:List Value} {x:DataW H × List MemPlace},rec t=some l→DataW.trod enc P w base spare held fuel t cs=some x→cs.length=l.length∧HasAt l cs 0) (cs:List Value):
  ∀{fs:List Field} {pos:Nat} {l:List CK} {ys:List (DataW H × List MemPlace)},ckFields P rec pos fs=some l→
   (fs.mapM fun f=>DataW.trod enc P w base spare held fuel f.type ((cs.drop f.offset).take (P.cellsOf f.type)))=some ys→HasAt l cs pos
 | [],pos,l,ys,h,_=>by
  simp [ckFields] at h
  subst h
  intro j c hc
  simp at hc
 |f::fs,pos,l,ys,h,hm=>by
  simp only [ckFields] at h
  split at h
  ·rename_i l1 hr
   split at h
   ·rename_i ho hn _ _
    cases hf:ckFields P rec (pos+l1.length) fs with
    |none=>simp [hf] at h
    |some l2=>
     simp [hf] at h
     subst h
     simp only [List.mapM_cons,Option.bind_eq_bind,Option.bind_eq_some_iff,Option.pure_def] at hm
     obtain ⟨y,hy,zs,hzs,_⟩:=hm
     obtain ⟨h1,h2⟩:=ih hr hy
     have h3:=fields_flat ih cs hf hzs
     intro j c hc
     by_cases hj:j<l1.length
     ·rw [List.getElem?_append_left hj] at hc
      obtain ⟨u,hu,hc⟩:=h2 j c hc
      refine ⟨u,?_,hc⟩
      rw [Nat.zero_add,List.getElem?_take_of_lt (by omega),List.getElem?_drop,ho] at hu
      exact hu
     ·rw [List.getElem?_append_right (by omega)] at hc
      obtain ⟨u,hu,hc⟩:=h3 _ c hc
      refine ⟨u,?_,hc⟩
      rw [←hu];congr 1;omega
   ·cases h
  ·cases h
theorem trod_flat: ∀(d:Nat) {fuel:Nat} {t:TypeId} {l:List CK} {cs:List Value} {x:DataW H × List MemPlace},ckPlan P d t=some l→DataW.trod enc P w base spare held fuel t cs=some x→cs.length=l.length∧HasAt l cs 0
 |0,_,_,_,_,_,h,_=>by simp [ckPlan] at h
 |d+1,0,_,_,_,_,_,h=>by simp [DataW.trod] at h
 |d+1,fuel+1,t,l,cs,x,h,hx=>by
  simp only [ckPlan] at h
  split at h
  ·rename_i hu
   cases h
   unfold DataW.trod at hx
   simp only [hu] at hx
   split at hx<;>try (simp_all;done)
   rename_i b heq hcs
   refine ⟨rfl,fun j c hc=>?_⟩
   cases j with
   |zero=>simp at hc;subst hc;exact ⟨_,rfl,_,rfl⟩
   |succ j=>simp at hc
  ·rename_i k hu
   cases h
   unfold DataW.trod at hx
   simp only [hu] at hx
   split at hx<;>try (simp_all;done)
   rename_i _ k1 k' n heq
   cases heq
   split at hx
   ·rename_i hk
    obtain ⟨rfl,hwf⟩:=hk
    refine ⟨rfl,fun j c hc=>?_⟩
    cases j with
    |zero=>simp at hc;subst hc;exact ⟨_,rfl,_,rfl,hwf⟩
    |succ j=>simp at hc
   ·cases hx
  ·rename_i fs hu
   split at h
   ·rename_i l' hf
    split at h
    ·rename_i hn _
     cases h
     unfold DataW.trod at hx
     simp only [hu] at hx
     split at hx
     ·rename_i hl
      rw [Option.map_eq_some_iff] at hx
      obtain ⟨ys,hys,_⟩:=hx
      exact ⟨hl.trans hn,fields_flat (fun h1 h2=>trod_flat d h1 h2) cs hf hys⟩
     ·cases hx
    ·cases h
   ·cases h
  ·cases h
def Value.intOf:Value→Int
 | .int _ n=>n
 |_=>0
def Value.boolOf:Value→Bool
 | .bool b=>b
 |_=>false
theorem ckAv_get (f:Nat→Int) (g:Nat→Bool): ∀(l:List CK) (p j:Nat) (z:AV),(CK.av f g p l)[j]? =some z→ ∃c,l[j]? =some c∧z=(match c with | .int k=> .int k (f (p+j)) | .bool=> .bool (g (p+j)))
 | [],_,j,z,h=>by simp [CK.av] at h
 | .int k::l,p,0,z,h=>by simp [CK.av] at h;exact ⟨.int k,rfl,h.symm⟩
 | .bool::l,p,0,z,h=>by simp [CK.av] at h;exact ⟨.bool,rfl,h.symm⟩
 | .int k::l,p,j+1,z,h=>by
  simp [CK.av] at h
  obtain ⟨c,hc,hz⟩:=ckAv_get f g l (p+1) j z h
  exact ⟨c,by simpa using hc,by rw [hz];cases c<;>simp [Nat.add_comm,Nat.add_left_comm]⟩
 | .bool::l,p,j+1,z,h=>by
  simp [CK.av] at h
  obtain ⟨c,hc,hz⟩:=ckAv_get f g l (p+1) j z h
  exact ⟨c,by simpa using hc,by rw [hz];cases c<;>simp [Nat.add_comm,Nat.add_left_comm]⟩
def AVwf:AV→Prop
 | .int k n=>(Lit.int k n).wf=true
 |_=>True
theorem flat_elem (k:EK) (hk:k.cks≠[]) {cs:List Value} (h:HasAt k.cks cs 0): ∃y:k.T,∀(j:Nat) (z:AV),(k.enc y)[j]? =some z→ ∃u,cs[j]? =some u∧RV0 z u∧AVwf z:=by
 refine ⟨k.ofCells (fun j=>Value.intOf (cs.getD j undef)) (fun j=>Value.boolOf (cs.getD j undef)),fun j z hz=>?_⟩
 rw [enc_ofCells k _ _ hk] at hz
 obtain ⟨c,hc,rfl⟩:=ckAv_get _ _ _ 0 j z hz
 obtain ⟨u,hu,hh⟩:=h j c hc
 rw [Nat.zero_add] at hu
 refine ⟨u,hu,?_⟩
 cases c with
 |int kd=>
  obtain ⟨n,rfl,hwf⟩:=hh
  have:Value.intOf (cs.getD (0+j) undef)=n:=by simp [hu,Value.intOf]
  simp only [RV0,AVwf,this]
  exact ⟨trivial,hwf⟩
 |bool=>
  obtain ⟨b,rfl⟩:=hh
  have:Value.boolOf (cs.getD (0+j) undef)=b:=by simp [hu,Value.boolOf]
  simp only [RV0,AVwf,this]
  exact ⟨trivial,trivial⟩
theorem mapM_get {α β:Type} {f:α→Option β}: ∀{l:List α} {ys:List β},l.mapM f=some ys→ys.length=l.length∧ ∀(i:Nat) (a:α),l[i]? =some a→ ∃y,f a=some y∧ys[i]? =some y
 | [],ys,h=>by simp at h;subst h;exact ⟨rfl,fun i a h=>by simp at h⟩
 |a::l,ys,h=>by
  simp only [List.mapM_cons,Option.bind_eq_bind,Option.bind_eq_some_iff,Option.pure_def,Option.some.injEq] at h
  obtain ⟨y,hy,zs,hzs,rfl⟩:=h
  obtain ⟨h1,h2⟩:=mapM_get hzs
  refine ⟨by simp [h1],fun i b hb=>?_⟩
  cases i with
  |zero=>simp at hb;subst hb;exact ⟨y,hy,rfl⟩
  |succ i=>obtain ⟨z,hz,hi⟩:=h2 i b (by simpa using hb);exact ⟨z,hz,by simpa using hi⟩
theorem open_imm [Surr] (htb:TabsIn w) (k:EK) (hk:k.cks≠[]) {t e:TypeId} (ht:P.underlying t=some (.slice e)) (hp: ∃d,ckPlan P d e=some k.cks) (hc:P.cellsOf e=k.esz) {v:Value} {d:DataW H} {ps:List MemPlace} {r:Reach} {b0:Nat} (hval:Value.okWide P w r b0 t v) (h:DataW.Trod enc P w base spare held t v d ps):
  ∃xs:List k.T,RV (Gam.whole w htb) [] (.imm k xs) v∧xs.length≤maxLen∧ ∀x∈xs,∀z∈k.enc x,AVwf z:=by
 obtain ⟨n,h⟩:=h
 obtain ⟨dd,hp⟩:=hp
 have hsl: ∃a n c,v= .slice a n c:=by
  cases v<;>first
   |exact ⟨_,_,_,rfl⟩
   |(exfalso;simp [Value.okWide,ht,Cell.okWide,Cell.ok] at hval;done)
 obtain ⟨a0,n0,c0,rfl⟩:=hsl
 cases n with
 |zero=>simp [DataW.trod] at h
 |succ n=>
  unfold DataW.trod at h
  simp only [ht] at h
  split at h<;>try (simp_all;done)
  ·rename_i _ heq hcs
   simp [Value.cells] at hcs
   obtain ⟨rfl,rfl,rfl⟩:=hcs
   refine ⟨[],?_,Nat.zero_le _,fun x hx=>by cases hx⟩
   simp only [RV]
   exact ⟨none,0,rfl,Nat.le_refl _,fun h=>by simp at h⟩
  ·rename_i e' a len cap heq hcs
   cases heq
   simp [Value.cells] at hcs
   obtain ⟨rfl,rfl,rfl⟩:=hcs
   split at h
   ·rename_i hb
    simp only [Option.bind_eq_some_iff] at h
    obtain ⟨elems,hel,_⟩:=h
    obtain ⟨h1,h2⟩:=mapM_get hel
    have hsp:0<n0→a.spot=none:=by
     intro hn
     obtain ⟨y,hy,_⟩:=h2 0 0 (by simp [hn])
     simp only [Option.bind_eq_some_iff] at hy
     obtain ⟨cs,hcs,_⟩:=hy
     unfold World.cells? at hcs
     split at hcs
     ·obtain ⟨_,g2⟩:=mapM_get hcs
      have hp0:=k.esz_pos
      obtain ⟨u,hu,_⟩:=g2 0 0 (by simp [hc,hp0])
      cases hs:a.spot with
      |none=>rfl
      |some s=>
       exfalso
       have ha:((a.add (0*P.cellsOf e)).add 0)=a:=by simp [Addr.add]
       rw [ha] at hu
       simp only [World.cell?] at hu
       split at hu
       ·simp [hs] at hu
       ·cases hu
     ·cases hcs
    have hone: ∀i,i<n0→ ∃y:k.T,∀(j:Nat) (z:AV),(k.enc y)[j]? =some z→ ∃u,w.cell? ⟨a.block,a.off+i*k.esz+j,none⟩=some u∧a.spot=none∧RV0 z u∧AVwf z:=by
     intro i hi
     obtain ⟨y,hy,_⟩:=h2 i i (by simp [hi])
     simp only [Option.bind_eq_some_iff] at hy
     obtain ⟨cs,hcs,hy⟩:=hy
     obtain ⟨_,hat⟩:=trod_flat dd hp hy
     obtain ⟨x,hx⟩:=flat_elem k hk hat
     refine ⟨x,fun j z hz=>?_⟩
     obtain ⟨u,hu,hr,hw⟩:=hx j z hz
     unfold World.cells? at hcs
     split at hcs
     ·obtain ⟨_,g2⟩:=mapM_get hcs
      have hjl:j<P.cellsOf e:=by
       have:=(List.getElem?_eq_some_iff.1 hz).1
       rw [k.enc_len] at this;omega
      obtain ⟨u',hu',hj⟩:=g2 j j (by simp [hjl])
      rw [hu] at hj;cases hj
      have hsp:=hsp (by omega)
      refine ⟨u,?_,hsp,hr,hw⟩
      rw [←hu']
      congr 1
      cases a
      simp only [] at hsp
      subst hsp
      simp only [Addr.add,hc]
      by_cases h0:i*k.esz=0<;>by_cases h1:j=0<;>simp [h0,h1]
     ·cases hcs
    let xs:List k.T:=(List.range n0).map fun i=>if h:i<n0 then Classical.choose (hone i h) else k.def
    have hget: ∀i x,xs[i]? =some x→i<n0∧ ∀(j:Nat) (z:AV),(k.enc x)[j]? =some z→ ∃u,w.cell? ⟨a.block,a.off+i*k.esz+j,none⟩=some u∧a.spot=none∧RV0 z u∧AVwf z:=by
     intro i x hx
     have hi:i<n0:=by
      have:=(List.getElem?_eq_some_iff.1 hx).1
      simpa [xs] using this
     simp only [xs,List.getElem?_map,List.getElem?_range hi,Option.map_some,dif_pos hi,Option.some.injEq] at hx
     subst hx
     exact ⟨hi,Classical.choose_spec (hone i hi)⟩
    have hlen:xs.length=n0:=by simp [xs]
    refine ⟨xs,?_,by rw [hlen];omega,fun x hx z hz=>?_⟩
    ·simp only [RV]
     refine ⟨some a,c0,by rw [hlen],by rw [hlen];exact hb.2.1,fun hn=>⟨a.block,a.off,?_,fun i x hi j z hj=>?_⟩⟩
     ·rw [hlen] at hn
      have hx0:xs[0]? =some xs[0]:=List.getElem?_eq_getElem (by omega)
      have he0:0<(k.enc xs[0]).length:=by rw [k.enc_len];exact k.esz_pos
      obtain ⟨_,hx⟩:=hget 0 _ hx0
      obtain ⟨_,_,hs,_⟩:=hx 0 _ (List.getElem?_eq_getElem he0)
      cases a
      simp at hs
      rw [hs]
     ·obtain ⟨_,hx⟩:=hget i x hi
      obtain ⟨u,hu,_,hr,_⟩:=hx j z hj
      refine ⟨u,⟨?_,hu⟩,hr.rv1⟩
      show a.block<w.heap.size
      simp only [World.cell?] at hu
      split at hu
      ·rename_i hh
       exact (Array.getElem?_eq_some_iff.1 hh).1
      ·cases hu
    ·obtain ⟨i,hi⟩:=List.getElem?_of_mem hx
     obtain ⟨j,hj⟩:=List.getElem?_of_mem hz
     obtain ⟨_,hx⟩:=hget i x hi
     obtain ⟨_,_,_,_,hw⟩:=hx j z hj
     exact hw
   ·cases h
theorem rvs_of_get [Surr] {G:Gam}: ∀{zs:List AV} {cs:List Value},cs.length=zs.length→(∀(j:Nat) (z:AV),zs[j]? =some z→ ∃u,cs[j]? =some u∧RV0 z u)→RVs G [] zs cs
 | [],cs,hl,_=>by
  simp only [RVs]
  exact List.length_eq_zero_iff.1 hl
 |z::zs,[],hl,_=>by simp at hl
 |z::zs,c::cs,hl,h=>by
  obtain ⟨u,hu,h0⟩:=h 0 z rfl
  simp at hu
  subst hu
  simp only [RVs]
  refine ⟨c,cs,rfl,?_,rvs_of_get (by simpa using hl) fun j y hy=>by simpa using h (j+1) y (by simpa using hy)⟩
  cases z<;>simp only [RV0] at h0<;>first |exact h0.elim |exact h0
theorem open_elem [Surr] (htb:TabsIn w) (k:EK) (hk:k.cks≠[]) {t:TypeId} {fs:Array Field} (ht:P.underlying t=some (.struct fs)) (hp: ∃d,ckPlan P d t=some k.cks) {v:Value} {d:DataW H} {ps:List MemPlace} {r:Reach} {b0:Nat} (hval:Value.okWide P w r b0 t v) (h:DataW.Trod enc P w base spare held t v d ps):
  ∃x:k.T,RV (Gam.whole w htb) [] (.agg (k.enc x)) v∧ ∀z∈k.enc x,AVwf z:=by
 obtain ⟨n,h⟩:=h
 obtain ⟨dd,hp⟩:=hp
 obtain ⟨cs,rfl,_⟩:=okWide_struct ht hval
 obtain ⟨hl,hh⟩:=trod_flat dd hp h
 obtain ⟨y,hy⟩:=flat_elem k hk hh
 have he:(k.enc y).length=k.cks.length:=by
  cases k<;>first |rfl |exact absurd rfl hk
 refine ⟨y,?_,fun z hz=>?_⟩
 ·simp only [RV]
  refine ⟨cs,rfl,rvs_of_get (by rw [he];exact hl) fun j z hz=>?_⟩
  obtain ⟨u,hu,h0,_⟩:=hy j z hz
  exact ⟨u,hu,h0⟩
 ·obtain ⟨j,hj⟩:=List.getElem?_of_mem hz
  obtain ⟨_,_,_,hw⟩:=hy j z hj
  exact hw
end Go.Ax
