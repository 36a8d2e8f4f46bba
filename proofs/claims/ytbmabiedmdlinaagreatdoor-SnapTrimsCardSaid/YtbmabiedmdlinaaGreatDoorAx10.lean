import Derived.Test.YtbmabiedmdlinaaGreatDoorAx2
import Derived.Deep.AppendSrc
import Derived.Laws.CopyRow
import Derived.Laws.Cells
import Derived.Laws.StructEq
import Derived.Laws.BytesString
set_option linter.all false
namespace Go.Ax
variable [Surr] {P:Program} {G:Gam} {ρ:List Root} {w:World}
def TR (G:Gam) (ρ:List Root) (ts:List (Option AV)) (vs:Array Value):Prop:=
 vs.size=ts.length∧ ∀(s:Nat) (x:AV),ts[s]? =some (some x)→ ∃v,vs[s]? =some v∧RV G ρ x v
theorem TR.ext {e:List Root} {ts:List (Option AV)} {vs:Array Value} (h:TR G ρ ts vs):TR G (ρ++e) ts vs:=
 ⟨h.1,fun s x hs=>let ⟨v,a,b⟩:=h.2 s x hs;⟨v,a,b.ext⟩⟩
theorem TR.put {ts:List (Option AV)} {a:Act} (h:TR G ρ ts a.tmps) (dst:Option Tmp) (x:Option AV) (u:Value) (hx: ∀y,x=some y→RV G ρ y u) (H:AHeap):
  TR G ρ ((AS.put ⟨ts,H⟩ dst x).tmps) (a.put dst u).tmps:=by
 cases dst with
 |none=>exact h
 |some d=>
  refine ⟨by simp [AS.put,Act.put,h.1],fun s y hs=>?_⟩
  simp only [AS.put,Act.put] at hs ⊢
  by_cases hd:s=d
  ·subst hd
   by_cases hl:s<ts.length
   ·rw [List.getElem?_set_self hl] at hs
    simp at hs
    exact ⟨u,by simp [h.1,hl],hx y hs⟩
   ·rw [List.getElem?_eq_none (by simp;omega)] at hs;simp at hs
  ·rw [List.getElem?_set_ne (Ne.symm hd)] at hs
   obtain ⟨v,hv,r⟩:=h.2 s y hs
   exact ⟨v,by rw [Array.getElem?_setIfInBounds_ne (Ne.symm hd)];exact hv,r⟩
theorem scal_rv {v:Value} {x:AV} (h:scal v=some x):RV G ρ x v:=by
 unfold scal at h
 split at h<;>simp at h<;>subst h<;>simp [RV]
theorem scals_rv: ∀{vs:List Value} {xs:List AV},scals vs=some xs→RVs G ρ xs vs
 | [],xs,h=>by simp [scals] at h;subst h;simp [RVs]
 |v::vs,xs,h=>by
  simp only [scals] at h
  split at h
  ·rename_i x ys hx hys
   simp at h;subst h
   simp only [RVs]
   exact ⟨v,vs,rfl,scal_rv hx,scals_rv hys⟩
  ·simp at h
theorem cval_rv {v:Value} {x:AV} (h:cval v=some x):RV G ρ x v:=by
 unfold cval at h
 split at h
 ·rename_i cs
  split at h
  ·rename_i xs hxs
   simp at h;subst h
   simp only [RV]
   exact ⟨cs,rfl,scals_rv hxs⟩
  ·simp at h
 ·exact scal_rv h
theorem eval_rv {st:AS} {a:Act} (h:TR G ρ st.tmps a.tmps) {o:Operand} {x:AV} (he:st.eval o=some x):RV G ρ x (a.eval o):=by
 cases o with
 |tmp t=>
  simp only [AS.eval] at he
  split at he
  ·rename_i y hy
   subst he
   obtain ⟨v,hv,r⟩:=h.2 t x hy
   have:a.tmps.getD t undef=v:=by
    rw [Array.getD_eq_getD_getElem?,hv];rfl
   simpa [Act.eval,this] using r
  ·simp at he
 |const v=>exact cval_rv he
 |global g=>simp [AS.eval] at he
 |func f=>
  simp [AS.eval] at he
  subst he
  simp [RV,RVs,Act.eval]
theorem evals_rv {st:AS} {a:Act} (h:TR G ρ st.tmps a.tmps): ∀{os:List Operand} {xs:List AV},evals st os=some xs→RVs G ρ xs (os.map a.eval)
 | [],xs,he=>by simp [evals] at he;subst he;simp [RVs]
 |o::os,xs,he=>by
  simp only [evals] at he
  split at he
  ·rename_i x ys hx hys
   simp at he;subst he
   simp only [RVs]
   exact ⟨_,_,rfl,eval_rv h hx,evals_rv h hys⟩
  ·simp at he
end Go.Ax
namespace Go.Ax
variable [Surr] {P:Program} {G:Gam} {ρ:List Root} {w:World}
theorem run_und {t:TypeId} {d:TypeDesc} (h:P.underlying t=some d) (w:World):(underlying t).run P w= .ok d w:=by
 simp [underlying,h]
theorem info_of_cells {t:TypeId} (h:P.cellsOf t≠0): ∃i,P.info? t=some i∧i.size=P.cellsOf t:=by
 unfold Program.cellsOf at h ⊢
 cases hi:P.info? t with
 |none=>simp [hi] at h
 |some i=>exact ⟨i,rfl,by simp⟩
theorem run_size {t:TypeId} {i:TypeInfo} (h:P.info? t=some i) (w:World):(sizeOf t).run P w= .ok (P.cellsOf t) w:=by
 simp [sizeOf,typeInfo,h,Program.cellsOf]
theorem run_agg {t:TypeId} {g:Bool} (h:isAggT P t=some g) (w:World):(isAgg t).run P w= .ok g w:=by
 unfold isAggT at h
 cases hu:P.underlying t with
 |none=>simp [hu] at h
 |some d=>
  have:=run_und hu w
  cases d<;>simp [hu] at h<;>subst h<;>simp [isAgg,this]
theorem info_of_und {t:TypeId} {d:TypeDesc} (h:P.underlying t=some d): ∃i,P.info? t=some i:=by
 unfold Program.underlying at h
 cases hi:P.info? t with
 |none=>simp [hi] at h
 |some i=>exact ⟨i,rfl⟩
theorem rv_bool {c:Bool} {v:Value} (h:RV G ρ (.bool c) v):v= .bool c:=by simpa only [RV] using h
theorem rv_int {k:IntKind} {n:Int} {v:Value} (h:RV G ρ (.int k n) v):v= .int k n:=by simpa only [RV] using h
theorem rv_str {s:ByteArray} {v:Value} (h:RV G ρ (.str s) v):v= .string s:=by simpa only [RV] using h
theorem rvB {c:Bool}:RV G ρ (.bool c) (.bool c):=by simp only [RV]
theorem rvI {k:IntKind} {n:Int}:RV G ρ (.int k n) (.int k n):=by simp only [RV]
theorem rvS {s:ByteArray}:RV G ρ (.str s) (.string s):=by simp only [RV]
theorem kindEq_eq {a b:IntKind} (h:kindEq a b=true):a=b:=by cases a<;>cases b<;>first |rfl |(exact absurd h (by decide))
theorem br_elim {b:Bool} {x:Prop} (h:br b x False):b=true∧x:=by
 cases b with
 |true=>exact ⟨rfl,h⟩
 |false=>exact h.elim
def Calm (P:Program) (G:Gam) (ρ:List Root) (w:World) (r:Operand→Value) (o:Oper) (k:AV→Prop):Prop:=
 ∃x u,k x∧RV G ρ x u∧ ∀w',WOK G w'→(execOp r o).run P w'= .ok (.value u) w'
theorem un_calm {op:UnOp} {x:AV} {k:AV→Prop} {v:Value} (h:aun op x k) (hv:RV G ρ x v):
  ∃y u,k y∧RV G ρ y u∧ ∀w',(Op.unary op v).run P w'= .ok u w':=by
 unfold aun at h
 split at h
 ·have:=rv_int hv;subst this
  exact ⟨_,_,nmI_elim h,rvI,fun w'=>by simp [Op.unary,Op.intArith]⟩
 ·have:=rv_bool hv;subst this
  exact ⟨_,_,h,rvB,fun w'=>by simp [Op.unary]⟩
 ·have:=rv_int hv;subst this
  exact ⟨_,_,nmI_elim h,rvI,fun w'=>by simp [Op.unary,Op.intBits]⟩
 ·exact h.elim
theorem conv_calm {s d:TypeId} {x:AV} {k:AV→Prop} {v:Value} (h:aconv P s d x k) (hv:RV G ρ x v):
  ∃y u,k y∧RV G ρ y u∧ ∀w',(convert s d v).run P w'= .ok u w':=by
 unfold aconv at h
 split at h
 ·rename_i ds kd kk n hs hd
  have:=rv_int hv;subst this
  refine ⟨_,_,nmI_elim h,rvI,fun w'=>?_⟩
  simp [convert,run_und hs,run_und hd,Conv.intToInt]
 ·rename_i ds ss hs hd
  have:=rv_str hv;subst this
  refine ⟨_,_,h,rvS,fun w'=>?_⟩
  simp [convert,run_und hs,run_und hd]
 ·exact h.elim
theorem equal_at (t:TypeId) (x y:Value) (n:Nat) (h:n+1=10000):Op.equal t x y=Op.equalIn (n+1) t x y:=by
 rw [h];rfl
theorem eqIn_bool {t:TypeId} (n:Nat) (h:P.underlying t=some .bool) (a b:Bool) (w:World):(Op.equalIn (n+1) t (.bool a) (.bool b)).run P w= .ok (a==b) w:=by
 simp [Op.equalIn,run_und h]
theorem eqIn_ptr {t e:TypeId} (n:Nat) (h:P.underlying t=some (.pointer e)) (a b:Option Addr) (hab:a=none∨b=none) (w:World):
  (Op.equalIn (n+1) t (.pointer a) (.pointer b)).run P w= .ok (a.isNone&&b.isNone) w:=by
 rcases hab with rfl |rfl
 ·cases b<;>simp [Op.equalIn,run_und h]
 ·cases a<;>simp [Op.equalIn,run_und h]
theorem eqIn_slice {t e:TypeId} (n:Nat) (h:P.underlying t=some (.slice e)) (a b:Option Addr) (l c l' c':Nat) (hab:a=none∨b=none) (w:World):
  (Op.equalIn (n+1) t (.slice a l c) (.slice b l' c')).run P w= .ok (a.isNone&&b.isNone) w:=by
 rcases hab with rfl |rfl
 ·cases b<;>simp [Op.equalIn,run_und h]
 ·cases a<;>simp [Op.equalIn,run_und h]
theorem eqIn_func {t:TypeId} (n:Nat) {ps rs:Array TypeId} {vr:Bool} (h:P.underlying t=some (.func ps rs vr)) (x y:Value) (a b:Bool)
  (hx:(a=true∧x= .nilFunc)∨(a=false∧ ∃f p q,x= .func f p q)) (hy:(b=true∧y= .nilFunc)∨(b=false∧ ∃f p q,y= .func f p q)) (hab:a=true∨b=true) (w:World):
  (Op.equalIn (n+1) t x y).run P w= .ok (a&&b) w:=by
 rcases hx with ⟨rfl,rfl⟩ |⟨rfl,f,p,q,rfl⟩<;>rcases hy with ⟨rfl,rfl⟩ |⟨rfl,f',p',q',rfl⟩<;>simp_all [Op.equalIn,run_und h]
theorem eql_run {t:TypeId} {u v:Value} {b:Bool} {op:BinOp} (hop:op= .eql∨op= .neq) {xo yo:Operand} {w:World}
  (h1:(eqGuard op t xo yo u v).run P w= .ok () w) (h2:(Op.equal t u v).run P w= .ok b w)
  (h3: ∀op,op= .eql∨op= .neq→binOp op t u v=(match op with | .eql=>(do pure (.bool (←Op.equal t u v)):Sem Value) |_=>do pure (.bool (!(←Op.equal t u v))))):
  (do eqGuard op t xo yo u v;binOp op t u v:Sem Value).run P w= .ok (.bool (if op= .eql then b else !b)) w:=by
 rw [h3 op hop]
 rcases hop with rfl |rfl<;>simp [h1,h2]
theorem apart_run {t:TypeId} {off:Nat} {xs:List AV} {x:AV} (h:apart P t off xs=some x) {us:Array Value} (hu:RVs G ρ xs us.toList): ∃u,(part t us off).run P w= .ok u w∧RV G ρ x u:=by
 unfold apart at h
 split at h
 ·rename_i hg
  cases hb:(Nat.ble (off+P.cellsOf t) xs.length&&!Nat.beq (P.cellsOf t) 0) with
  |false=>rw [hb] at h;cases h
  |true=>
   rw [hb] at h
   simp only [cond_true,Option.some.injEq] at h
   subst h
   simp only [Bool.and_eq_true] at hb
   have hle:=Nat.le_of_ble_eq_true hb.1
   have hc0:P.cellsOf t≠0:=fun h=>by rw [h] at hb;exact absurd hb.2 (by decide)
   obtain ⟨i,hi,his⟩:=info_of_cells hc0
   refine ⟨.agg (us.extract off (off+P.cellsOf t)),by simp [part,run_agg hg,run_size hi],?_⟩
   simp only [RV]
   refine ⟨_,rfl,?_⟩
   have hlen:=hu.len
   simp at hlen
   refine RVs.of_get (by simp;omega) fun j y hj=>?_
   have hjn:j<P.cellsOf t:=by
    have:=(List.getElem?_eq_some_iff.1 hj).1
    simp at this;omega
   rw [List.getElem?_take_of_lt hjn,List.getElem?_drop] at hj
   obtain ⟨v,hv,hr⟩:=hu.get hj
   refine ⟨v,?_,hr⟩
   simp at hv
   have hmin:min (off+P.cellsOf t) us.size=off+P.cellsOf t:=by omega
   rw [Array.getElem?_toList,Array.getElem?_extract,hmin,if_pos (by omega)]
   exact hv
 ·rename_i hg
  obtain ⟨u,hu',hr⟩:=hu.get h
  simp at hu'
  exact ⟨u,by simp [part,run_agg hg,hu'],hr⟩
 ·cases h
def eqElems (d:Nat) (e:TypeId) (n:Nat) (xs ys:Array Value):List Nat→Sem Bool
 | []=>pure true
 |i::r=>do
  if !(←Op.equalIn d e (←part e xs (i*n)) (←part e ys (i*n))) then pure false else eqElems d e n xs ys r
theorem run_equalIn_array (d:Nat) {t e:TypeId} {len n:Nat} (xs ys:Array Value) (ht:P.underlying t=some (.array len e)) (hn: ∀w,(sizeOf e).run P w= .ok n w):
  (Op.equalIn (d+1) t (.agg xs) (.agg ys)).run P w=(eqElems d e n xs ys (List.range' 0 len)).run P w:=by
 simp only [Op.equalIn,Sem.run_bind,run_und ht,Result.andThen_ok,hn]
 rw [Std.Legacy.Range.forIn_eq_forIn_range']
 simp only [Std.Legacy.Range.size,Nat.sub_zero,Nat.add_sub_cancel,Nat.div_one]
 generalize List.range' 0 len=l
 clear ht hn
 induction l generalizing w with
 |nil=>simp [eqElems]
 |cons f fs ih=>
  simp only [List.forIn_cons,eqElems,Sem.run_bind,Sem.run_ite]
  generalize (part e xs (f*n)).run P w=r1
  cases r1 with
  |ok a w1=>
   simp only [Result.andThen_ok]
   generalize (part e ys (f*n)).run P w1=r2
   cases r2 with
   |ok b w2=>
    simp only [Result.andThen_ok]
    generalize (Op.equalIn d e a b).run P w2=r3
    cases r3 with
    |ok r w3=>
     cases r
     ·simp only [Result.andThen_ok,Bool.not_false,if_true,Sem.run_pure]
     ·simp only [Result.andThen_ok,Bool.not_true,Bool.false_eq_true,if_false,Sem.run_pure]
      exact ih (w:=w3)
    |halt x w3=>simp [Result.andThen]
   |halt x w2=>simp [Result.andThen]
  |halt x w1=>simp [Result.andThen]
theorem aeqT_run: ∀(d:Nat) {t:TypeId} {x y:AV} {b:Bool} {u v:Value},aeqT P d t x y=some b→RV G ρ x u→RV G ρ y v→(Op.equalIn d t u v).run P w= .ok b w
 |0,t,x,y,b,u,v,h,hu,hv=>by simp only [aeqT] at h;cases h
 |d+1,t,x,y,b,u,v,h,hu,hv=>by
  simp only [aeqT] at h
  split at h
  ·rename_i ht
   have:=rv_bool hu;have:=rv_bool hv;subst u v
   cases h
   exact run_equalIn_bool' w d t _ _ ht
  ·rename_i ht
   have:=rv_int hu;have:=rv_int hv;subst u v
   cases hk:kindEq _ _ with
   |false=>rw [hk] at h;cases h
   |true=>
    rw [hk] at h
    have hk':=kindEq_eq hk;subst hk'
    cases h
    exact run_equalIn_int w d t _ _ _ _ ht
  ·rename_i ht
   have:=rv_str hu;have:=rv_str hv;subst u v
   cases h
   exact run_equalIn_string w d t _ _ ht
  ·rename_i fs xs ys ht
   cases hp:P.stoodInHeld t with
   |true=>rw [hp] at h;cases h
   |false=>
    rw [hp] at h
    simp only [cond_false] at h
    obtain ⟨us,rfl,hus⟩: ∃us,u= .agg us∧RVs G ρ xs us.toList:=by simpa only [RV] using hu
    obtain ⟨vs,rfl,hvs⟩: ∃vs,v= .agg vs∧RVs G ρ ys vs.toList:=by simpa only [RV] using hv
    have hf:P.fieldsOf t=fs:=by simp [Program.fieldsOf,ht]
    rw [run_equalIn_struct w d t us vs (by rw [hf];exact ht) hp,hf]
    clear ht hf hu hv
    generalize fs.toList=l at h
    induction l generalizing b with
    |nil=>simp only [aeqFs] at h;cases h;simp [Op.eqFields]
    |cons f l ih=>
     simp only [aeqFs] at h
     split at h
     ·rename_i hn _
      simp only [Op.eqFields]
      rw [if_neg (by simpa using hn)]
      exact ih _ h
     ·rename_i hn _
      split at h
      ·rename_i a a' ha ha'
       split at h
       ·rename_i r s hr hs
        cases h
        obtain ⟨u1,h1,h2⟩:=apart_run (w:=w) ha hus
        obtain ⟨v1,h3,h4⟩:=apart_run (w:=w) ha' hvs
        have h5:=aeqT_run d hr h2 h4
        simp only [Op.eqFields]
        rw [if_pos (by simpa using hn)]
        simp only [Sem.run_bind,h1,h3,h5,Result.andThen_ok]
        cases r
        ·simp
        ·simpa using ih _ hs
       ·cases h
      ·cases h
  ·rename_i n e xs ys ht
   cases hc:Nat.beq (P.cellsOf e) 0 with
   |true=>rw [hc] at h;cases h
   |false=>
    rw [hc] at h
    simp only [cond_false] at h
    obtain ⟨i,hi,his⟩:=info_of_cells (P:=P) (t:=e) (Nat.ne_of_beq_eq_false hc)
    obtain ⟨us,rfl,hus⟩: ∃us,u= .agg us∧RVs G ρ xs us.toList:=by simpa only [RV] using hu
    obtain ⟨vs,rfl,hvs⟩: ∃vs,v= .agg vs∧RVs G ρ ys vs.toList:=by simpa only [RV] using hv
    rw [run_equalIn_array (n:=P.cellsOf e) d us vs ht (fun w=>run_size hi w)]
    clear ht hu hv
    generalize 0=p at h
    induction n generalizing p b with
    |zero=>simp only [aeqArr] at h;cases h;simp [eqElems]
    |succ n ih=>
     simp only [aeqArr] at h
     split at h
     ·rename_i a a' ha ha'
      split at h
      ·rename_i r s hr hs
       cases h
       obtain ⟨u1,h1,h2⟩:=apart_run (w:=w) ha hus
       obtain ⟨v1,h3,h4⟩:=apart_run (w:=w) ha' hvs
       have h5:=aeqT_run d hr h2 h4
       simp only [List.range'_succ,eqElems]
       simp only [Sem.run_bind,h1,h3,h5,Result.andThen_ok]
       cases r
       ·simp
       ·simpa using ih _ _ hs
      ·cases h
     ·cases h
  ·cases h
theorem eql_calm {t:TypeId} {x y:AV} {k:Bool→Prop} {u v:Value} (h:aeql P t x y k) (hu:RV G ρ x u) (hv:RV G ρ y v) (op:BinOp) (hop:op= .eql∨op= .neq) (xo yo:Operand):
  ∃b,k b∧ ∀w',(do eqGuard op t xo yo u v;binOp op t u v:Sem Value).run P w'= .ok (.bool (if op= .eql then b else !b)) w':=by
 unfold aeql at h
 split at h
 ·have:=rv_bool hu;have:=rv_bool hv;subst u v
  split at h
  ·rename_i hb
   refine ⟨_,h,fun w'=>eql_run hop ?_ ?_ ?_⟩
   ·rcases hop with rfl |rfl<;>rfl
   ·rw [equal_at _ _ _ 9999 rfl,eqIn_bool 9999 hb]
   ·rintro op (rfl |rfl)<;>rfl
  ·exact h.elim
 ·have:=rv_int hu;have:=rv_int hv;subst u v
  obtain ⟨hk,h2⟩:=br_elim h
  have hk:=kindEq_eq hk;subst hk
  refine ⟨_,h2,fun w'=>?_⟩
  rcases hop with rfl |rfl<;>simp [eqGuard,binOp,Op.intCmp,bne]
 ·have:=rv_str hu;have:=rv_str hv;subst u v
  refine ⟨_,h,fun w'=>?_⟩
  rcases hop with rfl |rfl<;>simp [eqGuard,binOp,Op.stringOp]
 ·simp only [RV] at hu hv;subst u v
  split at h
  ·rename_i e hb
   refine ⟨_,h,fun w'=>eql_run hop ?_ ?_ ?_⟩
   ·rcases hop with rfl |rfl<;>rfl
   ·rw [equal_at _ _ _ 9999 rfl,eqIn_ptr 9999 hb _ _ (.inl rfl)];rfl
   ·rintro op (rfl |rfl)<;>rfl
  ·exact h.elim
 ·simp only [RV] at hu hv;subst v
  obtain ⟨tt,bb,_,_,rfl⟩:=hu
  split at h
  ·rename_i e hb
   refine ⟨_,h,fun w'=>eql_run hop ?_ ?_ ?_⟩
   ·rcases hop with rfl |rfl<;>rfl
   ·rw [equal_at _ _ _ 9999 rfl,eqIn_ptr 9999 hb _ _ (.inr rfl)];rfl
   ·rintro op (rfl |rfl)<;>rfl
  ·exact h.elim
 ·simp only [RV] at hu hv;subst u
  obtain ⟨tt,bb,_,_,rfl⟩:=hv
  split at h
  ·rename_i e hb
   refine ⟨_,h,fun w'=>eql_run hop ?_ ?_ ?_⟩
   ·rcases hop with rfl |rfl<;>rfl
   ·rw [equal_at _ _ _ 9999 rfl,eqIn_ptr 9999 hb _ _ (.inl rfl)];rfl
   ·rintro op (rfl |rfl)<;>rfl
  ·exact h.elim
 ·simp only [RV] at hu hv;subst v
  obtain ⟨bb,oo,rfl,_⟩:=hu
  split at h
  ·rename_i e hb
   refine ⟨_,h,fun w'=>eql_run hop ?_ ?_ ?_⟩
   ·rcases hop with rfl |rfl<;>rfl
   ·rw [equal_at _ _ _ 9999 rfl,eqIn_ptr 9999 hb _ _ (.inr rfl)];rfl
   ·rintro op (rfl |rfl)<;>rfl
  ·exact h.elim
 ·simp only [RV] at hu hv;subst u
  obtain ⟨bb,oo,rfl,_⟩:=hv
  split at h
  ·rename_i e hb
   refine ⟨_,h,fun w'=>eql_run hop ?_ ?_ ?_⟩
   ·rcases hop with rfl |rfl<;>rfl
   ·rw [equal_at _ _ _ 9999 rfl,eqIn_ptr 9999 hb _ _ (.inl rfl)];rfl
   ·rintro op (rfl |rfl)<;>rfl
  ·exact h.elim
 ·simp only [RV] at hu hv;subst u v
  split at h
  ·rename_i e hb
   refine ⟨_,h,fun w'=>eql_run hop ?_ ?_ ?_⟩
   ·rcases hop with rfl |rfl<;>rfl
   ·rw [equal_at _ _ _ 9999 rfl,eqIn_slice 9999 hb _ _ _ _ _ _ (.inl rfl)];rfl
   ·rintro op (rfl |rfl)<;>rfl
  ·exact h.elim
 ·rename_i l es bs n
  simp only [RV] at hu hv;subst v
  obtain ⟨tt,_,_,hs⟩:=hu
  split at h
  ·rename_i e hb
   obtain ⟨a,m,c,rfl,ha⟩: ∃a m c,u= .slice a m c∧(0<n→a≠none):=by
    rcases hs with ⟨b,_,rfl⟩ |⟨hn,_,a,rfl⟩
    ·exact ⟨_,_,_,rfl,fun _=>by simp⟩
    ·exact ⟨_,_,_,rfl,fun h=>by omega⟩
   refine ⟨a.isNone,h _ (fun hn=>by have:=ha hn;cases a<;>simp_all),fun w'=>eql_run hop ?_ ?_ ?_⟩
   ·rcases hop with rfl |rfl<;>rfl
   ·rw [equal_at _ _ _ 9999 rfl,eqIn_slice 9999 hb _ _ _ _ _ _ (.inr rfl)];simp
   ·rintro op (rfl |rfl)<;>rfl
  ·exact h.elim
 ·rename_i l es bs n
  simp only [RV] at hu hv;subst u
  obtain ⟨tt,_,_,hs⟩:=hv
  split at h
  ·rename_i e hb
   obtain ⟨a,m,c,rfl,ha⟩: ∃a m c,v= .slice a m c∧(0<n→a≠none):=by
    rcases hs with ⟨b,_,rfl⟩ |⟨hn,_,a,rfl⟩
    ·exact ⟨_,_,_,rfl,fun _=>by simp⟩
    ·exact ⟨_,_,_,rfl,fun h=>by omega⟩
   refine ⟨a.isNone,h _ (fun hn=>by have:=ha hn;cases a<;>simp_all),fun w'=>eql_run hop ?_ ?_ ?_⟩
   ·rcases hop with rfl |rfl<;>rfl
   ·rw [equal_at _ _ _ 9999 rfl,eqIn_slice 9999 hb _ _ _ _ _ _ (.inl rfl)];simp
   ·rintro op (rfl |rfl)<;>rfl
  ·exact h.elim
 ·rename_i kk xs
  simp only [RV] at hu hv;subst v
  obtain ⟨a,c,rfl,_,ha⟩:=hu
  split at h
  ·rename_i e hb
   refine ⟨a.isNone,h _ (fun hn=>by obtain ⟨b,o,rfl,_⟩:=ha hn;rfl),fun w'=>eql_run hop ?_ ?_ ?_⟩
   ·rcases hop with rfl |rfl<;>rfl
   ·rw [equal_at _ _ _ 9999 rfl,eqIn_slice 9999 hb _ _ _ _ _ _ (.inr rfl)];simp
   ·rintro op (rfl |rfl)<;>rfl
  ·exact h.elim
 ·rename_i kk xs
  simp only [RV] at hu hv;subst u
  obtain ⟨a,c,rfl,_,ha⟩:=hv
  split at h
  ·rename_i e hb
   refine ⟨a.isNone,h _ (fun hn=>by obtain ⟨b,o,rfl,_⟩:=ha hn;rfl),fun w'=>eql_run hop ?_ ?_ ?_⟩
   ·rcases hop with rfl |rfl<;>rfl
   ·rw [equal_at _ _ _ 9999 rfl,eqIn_slice 9999 hb _ _ _ _ _ _ (.inl rfl)];simp
   ·rintro op (rfl |rfl)<;>rfl
  ·exact h.elim
 ·simp only [RV] at hu hv;subst v
  obtain ⟨vs,rfl,_⟩:=hu
  split at h
  ·rename_i hb
   refine ⟨_,h,fun w'=>eql_run hop ?_ ?_ ?_⟩
   ·rcases hop with rfl |rfl<;>rfl
   ·rw [equal_at _ _ _ 9999 rfl,eqIn_func 9999 hb _ _ false true (.inr ⟨rfl,_,_,_,rfl⟩) (.inl ⟨rfl,rfl⟩) (.inr rfl)];rfl
   ·rintro op (rfl |rfl)<;>rfl
  ·exact h.elim
 ·simp only [RV] at hu hv;subst u
  obtain ⟨vs,rfl,_⟩:=hv
  split at h
  ·rename_i hb
   refine ⟨_,h,fun w'=>eql_run hop ?_ ?_ ?_⟩
   ·rcases hop with rfl |rfl<;>rfl
   ·rw [equal_at _ _ _ 9999 rfl,eqIn_func 9999 hb _ _ true false (.inl ⟨rfl,rfl⟩) (.inr ⟨rfl,_,_,_,rfl⟩) (.inl rfl)];rfl
   ·rintro op (rfl |rfl)<;>rfl
  ·exact h.elim
 ·simp only [RV] at hu hv;subst u v
  split at h
  ·rename_i hb
   refine ⟨_,h,fun w'=>eql_run hop ?_ ?_ ?_⟩
   ·rcases hop with rfl |rfl<;>rfl
   ·rw [equal_at _ _ _ 9999 rfl,eqIn_func 9999 hb _ _ true true (.inl ⟨rfl,rfl⟩) (.inl ⟨rfl,rfl⟩) (.inl rfl)];rfl
   ·rintro op (rfl |rfl)<;>rfl
  ·exact h.elim
 ·rename_i xs ys
  obtain ⟨hg,h⟩:=br_elim h
  rw [forceQ_eq] at h
  split at h
  ·rename_i b hb
   replace hb:=eqPlan_spec _ _ _ _ _ hb
   obtain ⟨us,rfl,hus⟩: ∃us,u= .agg us∧RVs G ρ xs us.toList:=by simpa only [RV] using hu
   obtain ⟨vs,rfl,hvs⟩: ∃vs,v= .agg vs∧RVs G ρ ys vs.toList:=by simpa only [RV] using hv
   have hg':P.eqGuardType P.depth t=false:=by simpa using hg
   refine ⟨b,h,fun w'=>?_⟩
   have he:=aeqT_run (w:=w') 10000 hb hu hv
   rw [Sem.run_bind,run_eqGuard_agg w' op t xo yo us vs hg',Result.andThen_ok]
   rcases hop with rfl |rfl
   ·rw [run_eql_struct,he];rfl
   ·rw [run_neq_struct,he];rfl
  ·exact h.elim
 ·exact h.elim
end Go.Ax
namespace Go.Ax
variable [Surr] {P:Program} {G:Gam} {ρ:List Root} {w:World}
theorem RV.toI {x:AV} {v:Value} (h:RV G ρ x v):RV G ρ x.toI v:=by
 cases x<;>first |exact h |(simp only [RV] at h;simp only [AV.toI,RV];exact h.1)
theorem bin_calm {op:BinOp} {t:TypeId} {x y:AV} {k:AV→Prop} {u v:Value} (h:abin P op t x y k) (hu:RV G ρ x u) (hv:RV G ρ y v) (xo yo:Operand):
  ∃z r,k z∧RV G ρ z r∧ ∀w',(do eqGuard op t xo yo u v;binOp op t u v:Sem Value).run P w'= .ok r w':=by
 unfold abin at h
 split at h
 ·obtain ⟨b,hb,hr⟩:=eql_calm h hu hv .eql (.inl rfl) xo yo
  exact ⟨_,_,hb,rvB,fun w'=>by simpa using hr w'⟩
 ·obtain ⟨b,hb,hr⟩:=eql_calm h hu hv .neq (.inr rfl) xo yo
  exact ⟨_,_,hb,rvB,fun w'=>by simpa using hr w'⟩
 ·rename_i h1 h2
  split at h
  ·have:=rv_int hu;have:=rv_int hv;subst u v
   split at h
   ·exact ⟨_,_,nmI_elim h.2,rvI,fun w'=>by have:=h.1;simp [eqGuard,binOp,Op.shift];omega⟩
   ·exact ⟨_,_,nmI_elim h.2,rvI,fun w'=>by have:=h.1;simp [eqGuard,binOp,Op.shift];omega⟩
   ·obtain ⟨hk,h3⟩:=br_elim h
    have hk:=kindEq_eq hk;subst hk
    split at h3
    case h_14=>exact h3.elim
    case h_4=>exact ⟨_,_,nmI_elim h3.2,rvI,fun w'=>by simp [eqGuard,binOp,Op.intDiv,h3.1]⟩
    case h_5=>exact ⟨_,_,nmI_elim h3.2,rvI,fun w'=>by simp [eqGuard,binOp,Op.intDiv,h3.1]⟩
    all_goals first
     |exact ⟨_,_,nmI_elim h3,rvI,fun w'=>by simp [eqGuard,binOp,Op.intArith,Op.intBits,Law.landI,Law.lorI,Law.lxorI,Law.landnI]⟩
     |exact ⟨_,_,h3,rvB,fun w'=>by simp [eqGuard,binOp,Op.intCmp]⟩
  ·have:=rv_str hu;have:=rv_str hv;subst u v
   split at h
   ·refine ⟨_,_,h.2,rvS,fun w'=>?_⟩
    simp only [eqGuard,binOp,Op.stringOp]
    simp
    have:=h.1
    omega
   ·exact h.elim
  ·exact h.elim
theorem RV.cells {x:AV} {v:Value} (h:RV G ρ x v):RVs G ρ x.cells v.cells.toList:=by
 cases x
 case agg xs=>simp only [RV] at h;obtain ⟨vs,rfl,h⟩:=h;simpa [AV.cells,Value.cells] using h
 case sl l e b n=>
  have h0:=h
  simp only [RV] at h;obtain ⟨t,_,_,h⟩:=h
  rcases h with ⟨_,_,rfl⟩ |⟨_,_,_,rfl⟩<;>exact ⟨_,_,rfl,h0,rfl⟩
 all_goals
  have h0:=h
  simp only [RV] at h<;>first
   |exact h.elim
   |(subst h;exact ⟨_,_,rfl,h0,rfl⟩)
   |(obtain ⟨h1,_⟩:=h;subst h1;exact ⟨_,_,rfl,h0,rfl⟩)
   |(obtain ⟨_,_,_,_,rfl⟩:=h;exact ⟨_,_,rfl,h0,rfl⟩)
   |(obtain ⟨_,_,rfl,_⟩:=h;exact ⟨_,_,rfl,h0,rfl⟩)
   |(obtain ⟨_,rfl,_⟩:=h;exact ⟨_,_,rfl,h0,rfl⟩)
theorem RVs.set {x:AV} {v:Value} (hx:RV G ρ x v): ∀{xs:List AV} {vs:List Value} (_:RVs G ρ xs vs) (i:Nat),RVs G ρ (xs.set i x) (vs.set i v)
 | [],vs,h,i=>by simp only [RVs] at h;subst h;simp [RVs]
 |y::ys,vs,h,0=>by
  simp only [RVs] at h
  obtain ⟨u,us,rfl,_,h3⟩:=h
  exact ⟨v,us,rfl,hx,h3⟩
 |y::ys,vs,h,i+1=>by
  simp only [RVs] at h
  obtain ⟨u,us,rfl,h2,h3⟩:=h
  exact ⟨u,_,rfl,h2,RVs.set hx h3 i⟩
theorem RVs.setCells: ∀{us:List AV} {ws:List Value} (_:RVs G ρ us ws) {xs:List AV} {vs:List Value} (_:RVs G ρ xs vs) (o:Nat),RVs G ρ (setCells xs o us) (setCells vs o ws)
 | [],ws,hu,xs,vs,h,o=>by simp only [RVs] at hu;subst hu;exact h
 |u::us,ws,hu,xs,vs,h,o=>by
  simp only [RVs] at hu
  obtain ⟨w,ws,rfl,h2,h3⟩:=hu
  exact RVs.setCells h3 (h.set h2 o) (o+1)
theorem foldl_zip {α:Type}: ∀(us:List α) (cells:Array α) (o j:Nat),((us.zipIdx j).foldl (fun (cs:Array α) (x:α × Nat)=>cs.setIfInBounds (o+x.2) x.1) cells).toList=setCells cells.toList (o+j) us
 | [],_,_,_=>rfl
 |u::us,cells,o,j=>by
  simp only [List.zipIdx_cons,List.foldl_cons,Go.Ax.setCells]
  rw [foldl_zip us _ o (j+1)]
  simp [Nat.add_assoc]
theorem setCells_length {α:Type}: ∀(us xs:List α) (o:Nat),(setCells xs o us).length=xs.length
 | [],_,_=>rfl
 |u::us,xs,o=>by simp only [setCells];rw [setCells_length us];simp
def PR (G:Gam) (ρ:List Root):List (Nat × AV)→List (Nat × Value)→Prop
 | [],vs=>vs=[]
 |(i,x)::r,vs=> ∃v ws,vs=(i,v)::ws∧RV G ρ x v∧PR G ρ r ws
theorem parts_rv {st:AS} {a:Act} (h:TR G ρ st.tmps a.tmps): ∀{os:List (Nat × Operand)} {xs:List (Nat × AV)},evalParts st os=some xs→PR G ρ xs (os.map fun p=>(p.1,a.eval p.2))
 | [],xs,he=>by simp [evalParts] at he;subst he;simp [PR]
 |(i,o)::os,xs,he=>by
  simp only [evalParts] at he
  split at he
  ·rename_i x ys hx hys
   simp at he;subst he
   exact ⟨_,_,rfl,eval_rv h hx,parts_rv h hys⟩
  ·simp at he
theorem fill_rv {place:Nat→Option (Nat × Nat)}: ∀{ps:List (Nat × AV)} {qs:List (Nat × Value)} {cs out:List AV} {cells:Array Value},PR G ρ ps qs→RVs G ρ cs cells.toList→fillA place cs ps=some out→
  ∃cells',Instr.fill place cells qs=some cells'∧RVs G ρ out cells'.toList
 | [],qs,cs,out,cells,hp,hc,h=>by
  simp only [PR] at hp;subst hp
  simp only [fillA] at h
  simp at h;subst h
  exact ⟨cells,rfl,hc⟩
 |(i,x)::ps,qs,cs,out,cells,hp,hc,h=>by
  obtain ⟨v,ws,rfl,hx,hr⟩:=hp
  simp only [fillA] at h
  split at h
  ·simp at h
  ·rename_i off size hpl
   cases hb:(Nat.beq x.cells.length size&&Nat.ble (off+x.cells.length) cs.length) with
   |false=>simp [hb] at h
   |true=>
    simp only [hb,cond_true,spl_eq] at h
    have hxc:=hx.cells
    have hl1:=hxc.len
    have hl2:=hc.len
    simp only [Bool.and_eq_true] at hb
    have hb1:=Nat.eq_of_beq_eq_true hb.1
    have hb2:=Nat.le_of_ble_eq_true hb.2
    simp at hl1 hl2
    have hcells:RVs G ρ (setCells cs off x.cells) (v.cells.zipIdx.foldl (fun cs (x:Value × Nat)=>cs.setIfInBounds (off+x.2) x.1) cells).toList:=by
     have:=RVs.setCells hxc hc off
     have e:=foldl_zip v.cells.toList cells off 0
     simp only [Nat.add_zero] at e
     rw [←Array.foldl_toList,Array.toList_zipIdx]
     rw [e]
     exact this
    obtain ⟨cells',h1,h2⟩:=fill_rv hr hcells h
    refine ⟨cells',?_,h2⟩
    unfold Instr.fill
    rw [hpl]
    simp only []
    rw [if_neg (by simp;omega)]
    exact h1
theorem placesOf_eq: ∀(fs:List Field),placesOf P fs=fs.mapM (fun f=>(P.info? f.type).map fun i=>(f.offset,i.size))
 | []=>by simp [placesOf]
 |f::fs=>by
  simp only [placesOf,List.mapM_cons]
  rw [placesOf_eq fs]
  cases P.info? f.type with
  |none=>simp
  |some i=>cases fs.mapM (fun f=>(P.info? f.type).map fun i=>(f.offset,i.size))<;>simp
theorem zero_rv {t:TypeId} {cs:List AV} (h:zeroCells P t=some cs): ∃i z,P.info? t=some i∧i.zero=some z∧RVs G ρ cs z.cells.toList:=by
 unfold zeroCells at h
 split at h
 ·rename_i i hi
  split at h
  ·rename_i z hz
   split at h
   ·rename_i x hx
    simp at h;subst h
    exact ⟨i,z,hi,hz,(cval_rv hx).cells⟩
   ·simp at h
  ·simp at h
 ·simp at h
end Go.Ax
namespace Go.Ax
variable [Surr] {P:Program} {G:Gam} {w:World}
theorem exposeF_sat {ρ0:List Root}: ∀(fs:List Fld) {c:Array Value} {o:Nat} {F:List Nat} (_:SatF G ρ0 w fs c o F) (ρ:List Root),
  ∃(e:List Root) (Fl:Nat→List Nat),e.length=(exposeF fs ρ.length).2.length∧
   (∀j x,(exposeF fs ρ.length).1[j]? =some x→ ∃u,c[o+j]? =some u∧RV G (ρ++e) x u)∧
   (∀i ob,(exposeF fs ρ.length).2[i]? =some (some ob)→ ∃r,e[i]? =some r∧Sat G ρ0 w ob r (Fl i)∧ ∀b,b∈Fl i→b∈F)∧
   (∀i ob j ob' b,(exposeF fs ρ.length).2[i]? =some (some ob)→(exposeF fs ρ.length).2[j]? =some (some ob')→b∈Fl i→b∈Fl j→i=j)
 | [],c,o,F,h,ρ=>⟨[],fun _=>[],by simp [exposeF],by simp [exposeF],by simp [exposeF],by simp [exposeF]⟩
 |f::fs,c,o,F,h,ρ=>by
  cases h with
  |av hu hr h=>
   obtain ⟨e,Fl,h1,h2,h3,h4⟩:=exposeF_sat fs h ρ
   refine ⟨e,Fl,by simpa [exposeF] using h1,?_,by simpa [exposeF] using h3,by simpa [exposeF] using h4⟩
   intro j x hj
   simp only [exposeF] at hj
   cases j with
   |zero=>
    simp at hj;subst hj
    refine ⟨_,hu,?_⟩
    rcases hr with hr |⟨rfl,rfl⟩
    ·exact hr.rv
    ·simp [RV]
   |succ j=>
    simp at hj
    obtain ⟨u,hu',hr'⟩:=h2 j x hj
    exact ⟨u,by rw [←hu'];congr 1;omega,hr'⟩
  | @own k d _ _ _ b' o' F1 F2 hu hs h hd=>
   obtain ⟨e,Fl,h1,h2,h3,h4⟩:=exposeF_sat fs h (ρ++[⟨some b',o',1⟩])
   simp only [List.length_append,List.length_singleton] at h1 h2 h3 h4
   refine ⟨⟨some b',o',1⟩::e,fun i=>match i with |0=>F1 |i+1=>Fl i,by simp [exposeF,h1],?_,?_,?_⟩
   ·intro j x hj
    simp only [exposeF] at hj
    cases j with
    |zero=>
     simp at hj;subst hj
     refine ⟨_,hu,?_⟩
     simp only [RV]
     exact ⟨⟨some b',o',1⟩,b',by simp,rfl,by simp⟩
    |succ j=>
     simp at hj
     obtain ⟨u,hu',hr'⟩:=h2 j x hj
     exact ⟨u,by rw [←hu'];congr 1;omega,by simpa using hr'⟩
   ·intro i ob hi
    simp only [exposeF] at hi
    cases i with
    |zero=>
     simp at hi;subst hi
     exact ⟨_,rfl,hs,fun b hb=>by simp at hb ⊢;exact .inl hb⟩
    |succ i=>
     simp at hi
     obtain ⟨r,a1,a2,a3⟩:=h3 i ob hi
     exact ⟨r,by simpa using a1,a2,fun b hb=>by simp at hb ⊢;exact .inr (a3 b hb)⟩
   ·intro i ob j ob' b hi hj hbi hbj
    simp only [exposeF] at hi hj
    cases i with
    |zero=>
     cases j with
     |zero=>rfl
     |succ j=>
      simp at hj
      obtain ⟨r,a1,a2,a3⟩:=h3 j ob' hj
      exact absurd (a3 b hbj) (hd b hbi)
    |succ i=>
     simp at hi
     cases j with
     |zero=>
      obtain ⟨r,a1,a2,a3⟩:=h3 i ob hi
      exact absurd (a3 b hbi) (hd b hbj)
     |succ j=>
      simp at hj
      exact congrArg (· +1) (h4 i ob j ob' b hi hj hbi hbj)
  | @ownr k xs _ _ _ v r F1 F2 hu hv hs h hd=>
   obtain ⟨e,Fl,h1,h2,h3,h4⟩:=exposeF_sat fs h (ρ++[r])
   simp only [List.length_append,List.length_singleton] at h1 h2 h3 h4
   refine ⟨r::e,fun i=>match i with |0=>F1 |i+1=>Fl i,by simp [exposeF,h1],?_,?_,?_⟩
   ·intro j x hj
    simp only [exposeF] at hj
    cases j with
    |zero=>
     simp at hj;subst hj
     refine ⟨_,hu,?_⟩
     simp only [RV]
     refine ⟨r,by simp,by simpa using hv.1,?_⟩
     simpa using hv.2
    |succ j=>
     simp at hj
     obtain ⟨u,hu',hr'⟩:=h2 j x hj
     exact ⟨u,by rw [←hu'];congr 1;omega,by simpa using hr'⟩
   ·intro i ob hi
    simp only [exposeF] at hi
    cases i with
    |zero=>
     simp at hi;subst hi
     exact ⟨_,rfl,hs,fun b hb=>by simp at hb ⊢;exact .inl hb⟩
    |succ i=>
     simp at hi
     obtain ⟨r,a1,a2,a3⟩:=h3 i ob hi
     exact ⟨r,by simpa using a1,a2,fun b hb=>by simp at hb ⊢;exact .inr (a3 b hb)⟩
   ·intro i ob j ob' b hi hj hbi hbj
    simp only [exposeF] at hi hj
    cases i with
    |zero=>
     cases j with
     |zero=>rfl
     |succ j=>
      simp at hj
      obtain ⟨r,a1,a2,a3⟩:=h3 j ob' hj
      exact absurd (a3 b hbj) (hd b hbi)
    |succ i=>
     simp at hi
     cases j with
     |zero=>
      obtain ⟨r,a1,a2,a3⟩:=h3 i ob hi
      exact absurd (a3 b hbi) (hd b hbj)
     |succ j=>
      simp at hj
      exact congrArg (· +1) (h4 i ob j ob' b hi hj hbi hbj)
theorem expose_sat {ρ:List Root} {H:AHeap} {Fs:Nat→List Nat} (h:SatHF G ρ w H Fs) (l:Nat):
  ∃e Fs',SatHF G (ρ++e) w (expose l H) Fs'∧(∀x,x≠l→ ∀o,H[x]? =some (some o)→(expose l H)[x]? =some (some o)∧Fs' x=Fs x)∧(∀o,H[l]? =some (some o)→ ∀b,b∈Fs' l→b∈Fs l):=by
 unfold expose
 split
 ·rename_i k d hl
  obtain ⟨r,hr,hs⟩:=h.sat l _ hl
  have hlt:=h.lab hl
  have hlen:=h.len
  generalize hF:Fs l=F at hs
  cases hs with
  | @obj _ _ _ b c ty F hb hw hf hn=>
   obtain ⟨e,Fl,h1,h2,h3,h4⟩:=exposeF_sat _ hf ρ
   rw [←hlen] at h1 h2 h3 h4
   refine ⟨e,fun x=>if x=l then [b] else if x<H.length then Fs x else Fl (x-H.length),?_,?_,?_⟩
   ·have hget: ∀x o,x≠l→x<H.length→(H.set l (some (AObj.raw (exposeF (k.unf d) H.length).1))++(exposeF (k.unf d) H.length).2)[x]? =some (some o)→H[x]? =some (some o):=by
     intro x o hx hxl hg
     rw [List.getElem?_append_left (by simpa using hxl),List.getElem?_set_ne (Ne.symm hx)] at hg
     exact hg
    have hget2: ∀x o,¬ x<H.length→(H.set l (some (AObj.raw (exposeF (k.unf d) H.length).1))++(exposeF (k.unf d) H.length).2)[x]? =some (some o)→(exposeF (k.unf d) H.length).2[x-H.length]? =some (some o):=by
     intro x o hxl hg
     rw [List.getElem?_append_right (by simp;omega)] at hg
     simpa using hg
    have hbF: ∀x,x∈F→x∈Fs l:=fun x hx=>by rw [hF];simp [hx]
    refine h.step (Fs l) (fun x=>x=l∨ ¬ x<H.length) (fun x hx=>⟨l,_,.inl rfl,hl,hx⟩) (Nat.le_refl _) (fun _ _ _=>rfl) .rfl rfl rfl (by simp [h1,hlen]) ?_ ?_ ?_
    ·intro x o hT hg
     have hx:x≠l:=fun h=>hT (.inl h)
     have hxl:x<H.length:=Decidable.byContradiction fun h=>hT (.inr h)
     exact ⟨hget x o hx hxl hg,by simp [hx,hxl]⟩
    ·intro x o hT hg
     by_cases hx:x=l
     ·subst hx
      rw [List.getElem?_append_left (by simpa using hlt),List.getElem?_set_self hlt] at hg
      simp at hg;subst hg
      refine ⟨⟨r,getElem?_ext hr,by simpa using Sat.raw hb hw h2⟩,fun y hy=>?_⟩
      simp at hy;subst hy
      have:y∈Fs x:=by rw [hF];simp
      exact ⟨.inl this,(h.free x _ y hl this).2⟩
     ·have hxl: ¬ x<H.length:=hT.resolve_left hx
      obtain ⟨r',a1,a2,a3⟩:=h3 _ _ (hget2 x o hxl hg)
      refine ⟨⟨r',?_,?_⟩,fun y hy=>?_⟩
      ·rw [List.getElem?_append_right (by omega),←hlen];exact a1
      ·have:=a2.mono (e:=e) (w':=w) (fun _ _=>rfl)
       simpa [hx,hxl] using this
      ·simp [hx,hxl] at hy
       have:=hbF y (a3 y hy)
       exact ⟨.inl this,(h.free l _ y hl this).2⟩
    ·intro x o x' o' y hT hT' hg hg' hy hy'
     by_cases hx:x=l<;>by_cases hx':x'=l
     ·exact hx.trans hx'.symm
     ·exfalso
      have hxl: ¬ x'<H.length:=hT'.resolve_left hx'
      obtain ⟨r',a1,a2,a3⟩:=h3 _ _ (hget2 x' o' hxl hg')
      simp [hx] at hy
      simp [hx',hxl] at hy'
      have:=a3 y hy'
      rw [hy] at this
      exact hn this
     ·exfalso
      have hxl: ¬ x<H.length:=hT.resolve_left hx
      obtain ⟨r',a1,a2,a3⟩:=h3 _ _ (hget2 x o hxl hg)
      simp [hx'] at hy'
      simp [hx,hxl] at hy
      have:=a3 y hy
      rw [hy'] at this
      exact hn this
     ·have hxl: ¬ x<H.length:=hT.resolve_left hx
      have hxl': ¬ x'<H.length:=hT'.resolve_left hx'
      simp [hx,hxl] at hy
      simp [hx',hxl'] at hy'
      have:=h4 _ _ _ _ y (hget2 x o hxl hg) (hget2 x' o' hxl' hg') hy hy'
      omega
   ·intro x hx o ho
    have hxl:=h.lab ho
    exact ⟨by rw [List.getElem?_append_left (by simpa using hxl),List.getElem?_set_ne (Ne.symm hx)];exact ho,by simp [hx,hxl]⟩
   ·intro o ho y hy
    simp at hy
    simp [hy]
 ·exact ⟨[],Fs,by simpa using h,fun x _ o ho=>⟨ho,rfl⟩,fun _ _ _ hb=>hb⟩
theorem expose_not_obj (l:Nat) (H:AHeap) (k:OK) (d:k.T):(expose l H)[l]? ≠some (some (.obj k d)):=by
 unfold expose
 split
 ·rename_i k' d' hl
  have hlt:=(List.getElem?_eq_some_iff.1 hl).1
  rw [List.getElem?_append_left (by simpa using hlt),List.getElem?_set_self hlt]
  simp
 ·rename_i h
  intro hc
  exact h k d hc
theorem readCells_run {ρ:List Root} {H:AHeap} {Fs:Nat→List Nat} (h:SatHF G ρ w H Fs) {r:Ref} {n:Nat} {k:List AV→Prop} (hr:readCells H r n k) {v:Value} (hv:RV G ρ (.ptr r) v):
  ∃cs b o vs,k cs∧v= .pointer (some ⟨b,o,none⟩)∧b∈Fs r.lab∧(∃ob,H[r.lab]? =some (some ob)∧ ∀y,y∈Fs r.lab→y=b)∧cs.length=n∧RVs G ρ cs vs∧vs.length=n∧
   ∀w':World,w'.heap[b]? =w.heap[b]? → ∀j,j<n→w'.cell? ⟨b,o+j,none⟩=some (vs.getD j undef):=by
 unfold readCells at hr
 simp only [RV] at hv
 obtain ⟨t,b,ht,htb,rfl⟩:=hv
 split at hr
 ·rename_i cs hl
  obtain ⟨hb,hk⟩:=br_elim hr
  simp only [Bool.and_eq_true] at hb
  have hi:=Nat.eq_of_beq_eq_true hb.1
  have hle:=Nat.le_of_ble_eq_true hb.2
  obtain ⟨t',ht',hs⟩:=h.sat _ _ hl
  rw [ht] at ht';cases ht'
  generalize hF:Fs r.lab=F at hs
  cases hs with
  | @raw _ _ b' c ty hb' hw hc=>
   rw [htb] at hb';cases hb'
   have hlen:((cs.drop r.off).take n).length=n:=by simp;omega
   let f:Nat→Value:=fun j=>(c[t.off+(r.off+j)]?).getD undef
   refine ⟨_,b,t.off+r.idx*r.esz+r.off,(List.range n).map f,hk,rfl,by simp,⟨_,hl,by simp⟩,hlen,RVs.of_get (by rw [hlen];simp) ?_,by simp,?_⟩
   ·intro j x hj
    have hjn:j<n:=by
     have:=(List.getElem?_eq_some_iff.1 hj).1
     omega
    have hj2:cs[r.off+j]? =some x:=by
     rw [List.getElem?_take_of_lt hjn,List.getElem?_drop] at hj
     exact hj
    obtain ⟨u,hu,hru⟩:=hc _ x hj2
    refine ⟨f j,by simp [hjn],?_⟩
    simp only [f,hu];exact hru
   ·intro w' hw' j hj
    have hx: ∃x,cs[r.off+j]? =some x:=⟨_,List.getElem?_eq_getElem (by omega)⟩
    obtain ⟨x,hx⟩:=hx
    obtain ⟨u,hu,_⟩:=hc _ x hx
    simp only [World.cell?]
    rw [hw',hw]
    simp only [Option.isSome_none,Bool.false_eq_true,if_false]
    rw [hi]
    simp only [Nat.zero_mul,Nat.add_zero]
    rw [Nat.add_assoc,hu]
    simp [hj,f,hu]
 ·rename_i ek xs hl
  obtain ⟨hb,hlt,hk⟩:=br_elim hr
  simp only [Bool.and_eq_true] at hb
  have he:=Nat.eq_of_beq_eq_true hb.1
  have hle:=Nat.le_of_ble_eq_true hb.2
  obtain ⟨t',ht',hs⟩:=h.sat _ _ hl
  rw [ht] at ht';cases ht'
  generalize hF:Fs r.lab=F at hs
  cases hs with
  | @row _ _ sp _ b' c ty fz hb' hw h2 h3 hc hz=>
   rw [htb] at hb';cases hb'
   have hget:xs[r.idx]? =some (xs.getD r.idx ek.def):=by
    rw [List.getD_eq_getElem?_getD,List.getElem?_eq_getElem hlt];rfl
   replace hk:=hk _ hget
   have hlen0:=ek.enc_len (xs.getD r.idx ek.def)
   have hlen:(((ek.enc (xs.getD r.idx ek.def)).drop r.off).take n).length=n:=by rw [List.length_take,List.length_drop,hlen0];omega
   let f:Nat→Value:=fun j=>(c[t.off+r.idx*ek.esz+(r.off+j)]?).getD undef
   refine ⟨_,b,t.off+r.idx*r.esz+r.off,(List.range n).map f,hk,rfl,by simp,⟨_,hl,by simp⟩,hlen,RVs.of_get (by rw [hlen];simp) ?_,by simp,?_⟩
   ·intro j x hj
    have hjn:j<n:=by
     have:=(List.getElem?_eq_some_iff.1 hj).1
     omega
    have hj2:(ek.enc (xs.getD r.idx ek.def))[r.off+j]? =some x:=by
     rw [List.getElem?_take_of_lt hjn,List.getElem?_drop] at hj
     exact hj
    obtain ⟨u,hu,hru⟩:=hc _ _ (getElem?_ext hget) _ x hj2
    refine ⟨f j,by simp [hjn],?_⟩
    simp only [f,hu];exact hru.rv
   ·intro w' hw' j hj
    have hx: ∃x,(ek.enc (xs.getD r.idx ek.def))[r.off+j]? =some x:=⟨_,List.getElem?_eq_getElem (by omega)⟩
    obtain ⟨x,hx⟩:=hx
    obtain ⟨u,hu,_⟩:=hc _ _ (getElem?_ext hget) _ x hx
    simp only [World.cell?]
    rw [hw',hw]
    simp only [Option.isSome_none,Bool.false_eq_true,if_false]
    rw [he]
    rw [Nat.add_assoc,hu]
    simp [hj,f,hu]
  |rownil hb' ht'=>rw [htb] at hb';cases hb'
 ·exact hr.elim
def valOf (g:Bool) (vs:List Value):Value:=match g with |true=> .agg vs.toArray |false=>vs.getD 0 undef
theorem run_loadVar_cells {t:TypeId} {g:Bool} (hg:isAggT P t=some g) {i:TypeInfo} (hi:P.info? t=some i) {b o:Nat} {vs:List Value} (hl:vs.length=P.cellsOf t)
  {w':World} (hc: ∀j,j<vs.length→w'.cell? ⟨b,o+j,none⟩=some (vs.getD j undef)) (h1:g=false→vs.length=1):
  (loadVar t ⟨b,o,none⟩).run P w'= .ok (valOf g vs) w':=by
 unfold loadVar valOf
 cases g with
 |true=>
  have:=run_loadCells (P:=P) w' ⟨b,o,none⟩ vs.length (fun j=>vs.getD j undef) (fun j hj=>by
   have:=hc j hj
   unfold Addr.add
   split
   ·rename_i h0;subst h0;simpa using this
   ·exact this)
  have e:((List.range vs.length).map fun j=>vs.getD j undef)=vs:=by
   apply List.ext_getElem
   ·simp
   ·intro n h1 h2
    simp [h2]
  rw [e] at this
  simp only [Sem.run_bind,run_agg hg,Result.andThen_ok,if_true,run_size hi,←hl,this,Sem.run_pure]
 |false=>
  have:=hc 0 (by have:=h1 rfl;omega)
  simp [run_agg hg]
  simp at this
  simp [this]
theorem ofCells_rv {ρ:List Root} {g:Bool} {cs:List AV} {k:AV→Prop} (h:ofCells g cs k) {vs:List Value} (hr:RVs G ρ cs vs):
  ∃x,k x∧RV G ρ x (valOf g vs)∧(g=false→vs.length=1):=by
 cases g with
 |true=>
  simp only [ofCells,forceL_eq] at h
  exact ⟨_,h,by simp only [RV,valOf];exact ⟨_,rfl,by simpa using hr⟩,by simp⟩
 |false=>
  simp only [ofCells] at h
  split at h
  ·rename_i x
   simp only [RVs] at hr
   obtain ⟨v,ws,rfl,hx,rfl⟩:=hr
   exact ⟨x,h,by simpa [valOf] using hx,by simp⟩
  ·exact h.elim
end Go.Ax
namespace Go.Ax
variable [Surr] {G:Gam} {ρ:List Root} {w:World}
def QRes (E:Env) (G:Gam) (ρ:List Root) (w:World) (st:AS) (a:Act) (o:Oper) (Fs:Nat→List Nat) (k:KT):Prop:=
  ∃e av H' Fs' u,k av H' []∧(∀x,av=some x→RV G (ρ++e) x u)∧SatHF G (ρ++e) w H' Fs'∧
    (∀l ob,readLab o.op st≠some l→st.heap[l]? =some (some ob)→H'[l]? =some (some ob)∧Fs' l=Fs l)∧
    (∀l,readLab o.op st=some l→(∃b ob,H'[l]? =some (some ob)∧b∈Fs' l∧ ∀y,y∈Fs' l→y=b)∧ ∀ob y,st.heap[l]? =some (some ob)→y∈Fs' l→y∈Fs l)∧
    ∀w',WOK G w'→(∀l b,readLab o.op st=some l→b∈Fs' l→w'.heap[b]? =w.heap[b]?)→(execOp a.eval o).run E.P w'= .ok (.value u) w'
theorem QRes.plain {E:Env} {st:AS} {a:Act} {o:Oper} {Fs:Nat→List Nat} {k:KT} (hH:SatHF G ρ w st.heap Fs) (hl:readLab o.op st=none) {av:Option AV} {u:Value}
    (hk:k av st.heap []) (hr: ∀x,av=some x→RV G ρ x u) (hrun: ∀w',WOK G w'→(execOp a.eval o).run E.P w'= .ok (.value u) w'):QRes E G ρ w st a o Fs k:=
  ⟨[],av,st.heap,Fs,u,hk,by simpa using hr,by simpa using hH,fun _ _ _ h=>⟨h,rfl⟩,fun l h=>(by rw [hl] at h;cases h),fun w' hw _=>hrun w' hw⟩
theorem aint_eq {x:Option AV} {n:Int} (h:aint x=some n): ∃k,x=some (.int k n):=by
  unfold aint at h
  split at h
  · rename_i k m;simp at h;subst h;exact ⟨k,rfl⟩
  · simp at h
theorem imm_cell {b o:Nat} {v:Value} (hw:WOK G w) (h:G.cell b o v):w.cell? ⟨b,o,none⟩=some v:=by
  obtain ⟨hp,hc⟩:=h
  have:=(hw.prot b (G.sub b hp)).2
  simp only [World.cell?] at hc ⊢
  rw [this];exact hc
theorem addr_add (b o n:Nat):(⟨b,o,none⟩:Addr).add n=⟨b,o+n,none⟩:=by
  unfold Addr.add
  split
  · rename_i h;subst h;rfl
  · rfl
theorem run_fieldAt {E:Env} {s:TypeId} {fs:Array Field} {f:Nat} {fd:Field} (hs:E.P.underlying s=some (.struct fs)) (hf:fs[f]? =some fd) (hz:Nat.beq (E.P.cellsOf fd.type) 0=false) (b o:Nat) (w':World):
    (Instr.fieldAt s (.pointer (some ⟨b,o,none⟩)) f).run E.P w'= .ok (.pointer (some ⟨b,o+fd.offset,none⟩)) w':=by
  have hz':E.P.cellsOf fd.type≠0:=fun h=>by rw [h] at hz;exact absurd hz (by decide)
  obtain ⟨i,hi,his⟩:=info_of_cells hz'
  simp [Instr.fieldAt,Instr.sureAddr,fieldPlace,run_und hs,hf,run_size hi,hz',addr_add]
theorem RVs.take_drop: ∀{xs:List AV} {vs:List Value} (_:RVs G ρ xs vs) (o n:Nat),RVs G ρ ((xs.drop o).take n) ((vs.drop o).take n):=by
  intro xs vs h o n
  have hl:=h.len
  refine RVs.of_get (by simp [hl]) fun j x hj=>?_
  have hjn:j<n:=by
    have:=(List.getElem?_eq_some_iff.1 hj).1
    simp at this;omega
  rw [List.getElem?_take_of_lt hjn,List.getElem?_drop] at hj
  obtain ⟨v,hv,r⟩:=h.get hj
  exact ⟨v,by rw [List.getElem?_take_of_lt hjn,List.getElem?_drop];exact hv,r⟩
theorem part_rv {E:Env} {t:TypeId} {g:Bool} (hg:isAggT E.P t=some g) {cs:List AV} {vs:Array Value} (hr:RVs G ρ cs vs.toList) {o:Nat} (hle:o+E.P.cellsOf t≤cs.length) {kk:AV→Prop}
    (h:ofCells g ((cs.drop o).take (E.P.cellsOf t)) kk): ∃x u,kk x∧RV G ρ x u∧ ∀w':World,(part t vs o).run E.P w'= .ok u w':=by
  have hsub:=RVs.take_drop hr o (E.P.cellsOf t)
  obtain ⟨x,hx,hrx,h1⟩:=ofCells_rv h hsub
  have hlen:=hr.len
  simp at hlen
  cases g with
  |true=>
    refine ⟨x,_,hx,hrx,fun w'=>?_⟩
    cases hu:E.P.underlying t with
    |none=>unfold isAggT at hg;simp [hu] at hg
    |some d=>
      obtain ⟨i,hi⟩:=info_of_und hu
      simp only [part,Sem.run_bind,run_agg hg,Result.andThen_ok,if_true,run_size hi,Sem.run_pure,valOf]
      congr 2
      apply Array.ext'
      simp [List.take_drop]
  |false=>
    have h1:=h1 rfl
    refine ⟨x,_,hx,hrx,fun w'=>?_⟩
    simp at h1
    have ho:vs[o]? =some (((vs.toList.drop o).take (E.P.cellsOf t)).getD 0 undef):=by
      have hlt:o<vs.size:=by omega
      have hn:0<E.P.cellsOf t:=by omega
      rw [List.getD_eq_getElem?_getD,List.getElem?_take_of_lt hn,List.getElem?_drop]
      simp [hlt]
    simp [part,run_agg hg,ho,valOf]
section
variable {E:Env} {st:AS} {a:Act} {Fs:Nat→List Nat} {k:KT} (dst:Option Tmp) (ty:TypeId) (pos:String) (af:Array Edge) (gd:Option (Nat × Bool))
variable (hT:TR G ρ st.tmps a.tmps) (hH:SatHF G ρ w st.heap Fs)
include hT hH
theorem q_move (x:Operand) (h:aop E ⟨dst,.move x,ty,pos,af,gd⟩ st k):QRes E G ρ w st a ⟨dst,.move x,ty,pos,af,gd⟩ Fs k:=
  .plain hH rfl h (fun _ he=>eval_rv hT he) (fun w' _=>by simp [execOp])
theorem q_assign (x:Operand) (h:aop E ⟨dst,.assign x,ty,pos,af,gd⟩ st k):QRes E G ρ w st a ⟨dst,.assign x,ty,pos,af,gd⟩ Fs k:=
  .plain hH rfl h (fun _ he=>eval_rv hT he) (fun w' _=>by simp [execOp])
theorem q_pick (c x y:Operand) (h:aop E ⟨dst,.pick c x y,ty,pos,af,gd⟩ st k):QRes E G ρ w st a ⟨dst,.pick c x y,ty,pos,af,gd⟩ Fs k:=by
  simp only [aop] at h
  split at h
  · rename_i cb xb yb hc hx hy
    have h1:=rv_bool (eval_rv hT hc)
    have h2:=rv_bool (eval_rv hT hx)
    have h3:=rv_bool (eval_rv hT hy)
    refine .plain hH rfl h (u:= .bool (cond cb xb yb)) (fun z hz=>by simp at hz;subst hz;exact rvB) (fun w' _=>?_)
    cases cb<;>simp [execOp,h1,h2,h3,asBool]
  · rename_i cb hc _
    have h1:=rv_bool (eval_rv hT hc)
    cases cb with
    |true=>exact .plain hH rfl h (fun _ he=>eval_rv hT he) (fun w' _=>by simp [execOp,h1,asBool])
    |false=>exact .plain hH rfl h (fun _ he=>eval_rv hT he) (fun w' _=>by simp [execOp,h1,asBool])
  · exact h.elim
theorem q_bin (op:BinOp) (t:TypeId) (x y:Operand) (t2:TypeId) (h:aop E ⟨dst,.binOp op t x y t2,ty,pos,af,gd⟩ st k):QRes E G ρ w st a ⟨dst,.binOp op t x y t2,ty,pos,af,gd⟩ Fs k:=by
  simp only [aop] at h
  split at h
  · rename_i u v hu hv
    obtain ⟨z,r,hz,hr,hrun⟩:=bin_calm h (eval_rv hT hu).toI (eval_rv hT hv).toI x y
    refine .plain hH rfl hz (fun q hq=>by simp at hq;subst hq;exact hr) (fun w' _=>?_)
    have:=hrun w'
    simp only [execOp]
    rw [Sem.run_bind,this]
    rfl
  · exact h.elim
theorem q_un (op:UnOp) (t:TypeId) (x:Operand) (h:aop E ⟨dst,.unOp op t x,ty,pos,af,gd⟩ st k):QRes E G ρ w st a ⟨dst,.unOp op t x,ty,pos,af,gd⟩ Fs k:=by
  simp only [aop] at h
  split at h
  · rename_i u hu
    obtain ⟨z,r,hz,hr,hrun⟩:=un_calm (P:=E.P) h (eval_rv hT hu)
    exact .plain hH rfl hz (fun q hq=>by simp at hq;subst hq;exact hr) (fun w' _=>by simp [execOp,hrun w'])
  · exact h.elim
theorem q_conv (s d:TypeId) (x:Operand) (h:aop E ⟨dst,.convert s d x,ty,pos,af,gd⟩ st k):QRes E G ρ w st a ⟨dst,.convert s d x,ty,pos,af,gd⟩ Fs k:=by
  simp only [aop] at h
  split at h
  · rename_i lab esz base n hu
    split at h
    · rename_i e xs hs hd hl
      split at h
      · rename_i he
        obtain ⟨hb,⟨h1,h2⟩,hk⟩:=br_elim h
        have hb:=Nat.eq_of_beq_eq_true hb
        subst hb
        have hv:=eval_rv hT hu
        simp only [RV] at hv
        obtain ⟨t,ht,htot,hv⟩:=hv
        rcases hv with ⟨b,hbk,hv⟩ |⟨hn,_⟩
        · obtain ⟨t',ht',hsat⟩:=hH.sat _ _ hl
          rw [ht] at ht';cases ht'
          have hlab:readLab (Go.Op.convert s d x) st=some lab:=by simp [readLab,hu]
          generalize hF:Fs lab=F at hsat
          cases hsat with
          |rownil hb' _=>rw [hbk] at hb';cases hb'
          | @row _ _ sp _ b' c cty fz hb' hw h5 h6 hc hz=>
            rw [hbk] at hb';cases hb'
            refine ⟨[],_,st.heap,Fs,.string (Law.strOf ((xs.drop base).take n)),hk,fun q hq=>by simp at hq;subst hq;simp [RV],by simpa using hH,fun _ _ _ hh=>⟨hh,rfl⟩,fun l hl2=>?_,fun w' hw' hst=>?_⟩
            · rw [hlab] at hl2
              cases hl2
              exact ⟨⟨b,_,hl,by rw [hF];simp,fun y hy=>by rw [hF] at hy;simpa using hy⟩,fun _ y _ hy=>hy⟩
            · have hb2:=hst lab b hlab (by rw [hF];simp)
              have hcell: ∀(i:Nat) (z:Int),xs[i]? =some z→w'.cell? ⟨b,t.off+i,none⟩=some (.int .u8 z):=by
                intro i z hi
                have hil:=(List.getElem?_eq_some_iff.1 hi).1
                obtain ⟨u,hu2,hr⟩:=hc i z (by rw [List.getElem?_append_left hil];exact hi) 0 (.int .u8 z) rfl
                simp only [RV1,RV0] at hr
                rw [hr] at hu2
                simp only [EK.esz,Nat.mul_one,Nat.add_zero] at hu2
                simp only [World.cell?,hb2,hw]
                exact hu2
              have hlen:((xs.drop base).take n).length=n:=by simp;omega
              have hld:(loadCells ⟨b,t.off+base*1,none⟩ n).run E.P w'= .ok (((xs.drop base).take n).map (Value.int .u8)).toArray w':=by
                have:=run_loadCells_list (P:=E.P) w' ⟨b,t.off+base*1,none⟩ (((xs.drop base).take n).map (Value.int .u8)) (fun j v hj=>by
                  rw [List.getElem?_map] at hj
                  cases hz:((xs.drop base).take n)[j]? with
                  |none=>rw [hz] at hj;cases hj
                  |some z=>
                    rw [hz] at hj
                    simp only [Option.map_some,Option.some.injEq] at hj
                    subst hj
                    have hjl:=(List.getElem?_eq_some_iff.1 hz).1
                    rw [hlen] at hjl
                    rw [List.getElem?_take_of_lt hjl,List.getElem?_drop] at hz
                    have:=hcell (base+j) z hz
                    unfold Addr.add
                    split
                    · rename_i h0;subst h0;simpa using this
                    · rw [show t.off+base*1+j=t.off+(base+j) by omega];exact this)
                rw [List.length_map,hlen] at this
                exact this
              have:=run_bytesToString (P:=E.P) w' ⟨b,t.off+base*1,none⟩ n (t.tot-base) ((xs.drop base).take n) hld
              rw [show execOp a.eval (⟨dst,.convert s d x,ty,pos,af,gd⟩:Oper)=_ from rfl]
              simp only [execOp,hv,run_convert_bytes_string w' s d e _ n _ hs he hd,this,Sem.run_bind,Result.andThen_ok,Sem.run_pure,Law.strOf]
        · omega
      · exact h.elim
    · exact h.elim
  · rename_i u hns hu
    obtain ⟨z,r,hz,hr,hrun⟩:=conv_calm h (eval_rv hT hu)
    refine .plain hH ?_ hz (fun q hq=>by simp at hq;subst hq;exact hr) (fun w' _=>by simp [execOp,hrun w'])
    simp only [readLab]
    rw [hu]
    cases u<;>first |rfl |exact absurd rfl (hns _ _ _ _)
  · exact h.elim
theorem q_nil (x:Operand) (h:aop E ⟨dst,.nilCheck x,ty,pos,af,gd⟩ st k):QRes E G ρ w st a ⟨dst,.nilCheck x,ty,pos,af,gd⟩ Fs k:=by
  simp only [aop] at h
  split at h
  · rename_i r hr
    have h1:=eval_rv hT hr
    refine .plain hH rfl h (fun q hq=>by simp at hq;subst hq;exact h1) (fun w' _=>?_)
    simp only [RV] at h1
    obtain ⟨t,b,_,_,h1⟩:=h1
    simp [execOp,h1]
  · rename_i c n hr
    have h1:=eval_rv hT hr
    refine .plain hH rfl h (fun q hq=>by simp at hq;subst hq;exact h1) (fun w' _=>?_)
    simp only [RV] at h1
    obtain ⟨b,o,h1,_⟩:=h1
    simp [execOp,h1]
  · rename_i f c hr
    have h1:=eval_rv hT hr
    refine .plain hH rfl h (fun q hq=>by simp at hq;subst hq;exact h1) (fun w' _=>?_)
    simp only [RV] at h1
    obtain ⟨vs,h1,_⟩:=h1
    simp [execOp,h1]
  · exact h.elim
theorem q_fieldAddr (s:TypeId) (x:Operand) (f:Nat) (h:aop E ⟨dst,.fieldAddr s x f,ty,pos,af,gd⟩ st k):QRes E G ρ w st a ⟨dst,.fieldAddr s x f,ty,pos,af,gd⟩ Fs k:=by
  simp only [aop] at h
  split at h
  · rename_i fs hs
    split at h
    · rename_i fd hf
      split at h
      · rename_i r hz hr
        have h1:=eval_rv hT hr
        simp only [RV] at h1
        obtain ⟨t,b,ht,hb,h1⟩:=h1
        refine .plain hH rfl h (u:= .pointer (some ⟨b,t.off+r.idx*r.esz+r.off+fd.offset,none⟩)) (fun q hq=>?_) (fun w' _=>?_)
        · simp at hq;subst hq
          simp only [RV]
          exact ⟨t,b,ht,hb,by rw [Nat.add_assoc]⟩
        · simp [execOp,h1,run_fieldAt hs hf hz]
      · rename_i c n hz hr
        have h1:=eval_rv hT hr
        simp only [RV] at h1
        obtain ⟨b,o,h1,hc⟩:=h1
        refine .plain hH rfl h (u:= .pointer (some ⟨b,o+n+fd.offset,none⟩)) (fun q hq=>?_) (fun w' _=>?_)
        · simp at hq;subst hq
          simp only [RV]
          exact ⟨b,o,by rw [Nat.add_assoc],hc⟩
        · simp [execOp,h1,run_fieldAt hs hf hz]
      · exact h.elim
    · exact h.elim
  · exact h.elim
theorem q_field (s:TypeId) (x:Operand) (f:Nat) (h:aop E ⟨dst,.field s x f,ty,pos,af,gd⟩ st k):QRes E G ρ w st a ⟨dst,.field s x f,ty,pos,af,gd⟩ Fs k:=by
  simp only [aop] at h
  split at h
  · rename_i fs hs
    split at h
    · rename_i fd hf
      split at h
      · rename_i cs g hr hg
        obtain ⟨hle,h2⟩:=br_elim h
        have h1:=eval_rv hT hr
        simp only [RV] at h1
        obtain ⟨vs,h1,hrs⟩:=h1
        obtain ⟨z,u,hz,hu,hrun⟩:=part_rv hg hrs (Nat.le_of_ble_eq_true hle) h2
        refine .plain hH rfl hz (fun q hq=>by simp at hq;subst hq;exact hu) (fun w' _=>?_)
        simp [execOp,Instr.field,run_und hs,hf,h1,asAgg,hrun w']
      · exact h.elim
    · exact h.elim
  · exact h.elim
theorem q_extract (x:Operand) (i:Nat) (h:aop E ⟨dst,.extract x i,ty,pos,af,gd⟩ st k):QRes E G ρ w st a ⟨dst,.extract x i,ty,pos,af,gd⟩ Fs k:=by
  simp only [aop] at h
  split at h
  · rename_i xs hr
    split at h
    · rename_i v hv
      have h1:=eval_rv hT hr
      simp only [RV] at h1
      obtain ⟨vs,h1,hrs⟩:=h1
      obtain ⟨u,hu,hru⟩:=hrs.get hv
      refine .plain hH rfl h (fun q hq=>by simp at hq;subst hq;exact hru) (fun w' _=>?_)
      simp at hu
      simp [execOp,Instr.extract,h1,hu]
    · exact h.elim
  · exact h.elim
end
end Go.Ax
namespace Go.Ax
variable [Surr] {G:Gam} {ρ:List Root} {w:World}
theorem foldr_pick {f:Nat→Prop→Prop} {P:Nat→Prop} (hf: ∀m r,f m r→P m∧r): ∀{l:List Nat},l.foldr f True→ ∀m,m∈l→P m
 | [],_,m,hm=>by simp at hm
 |x::l,h,m,hm=>by
  simp only [List.foldr_cons] at h
  obtain ⟨h1,h2⟩:=hf _ _ h
  rcases List.mem_cons.1 hm with rfl |hm
  ·exact h1
  ·exact foldr_pick hf h2 m hm
theorem selI_pick {lit:Bool} {n:Nat} {j:Int} {K:Nat→Prop} (h:selI lit n j K) (hj:0≤j∧j<n):K j.toNat:=by
 cases lit with
 |false=>exact foldr_pick (P:=fun m=>j=(m:Int)→K m) (fun m r h=>h) h j.toNat (by simp;omega) (by omega)
 |true=>
  have key: ∀(l:List Nat),j.toNat∈l→l.foldr (fun (m:Nat) (rest:Prop)=>br (decide (j=(m:Int))) (K m) rest) True→K j.toNat:=by
   intro l
   induction l with
   |nil=>intro hm;simp at hm
   |cons m l ih=>
    intro hm h
    simp only [List.foldr_cons] at h
    by_cases hd:j=(m:Int)
    ·rw [decide_eq_true hd] at h
     have:j.toNat=m:=by omega
     rw [this];exact h
    ·rw [decide_eq_false hd] at h
     have:j.toNat≠m:=by omega
     exact ih (by simpa [this] using hm) h
  exact key _ (by simp;omega) h
theorem run_indexAt_slice {E:Env} {t e:TypeId} (ht:E.P.underlying t=some (.slice e)) {b o n c:Nat} {kk:IntKind} {j:Int} (hj:0≤j∧j<n) {i:TypeInfo} (hi:E.P.info? e=some i) (w':World):
  (Instr.indexAt t (.slice (some ⟨b,o,none⟩) n c) (.int kk j)).run E.P w'= .ok (.pointer (some ⟨b,o+j.toNat*E.P.cellsOf e,none⟩)) w':=by
 simp [Instr.indexAt,asIntOf,run_und ht,hj,run_size hi,addr_add]
theorem run_indexAt_array {E:Env} {t e:TypeId} {n:Nat} (ht:E.P.underlying t=some (.array n e)) (hn:2≤n) {b o:Nat} {kk:IntKind} {j:Int} (hj:0≤j∧j<n) {i:TypeInfo} (hi:E.P.info? e=some i) (w':World):
  (Instr.indexAt t (.pointer (some ⟨b,o,none⟩)) (.int kk j)).run E.P w'= .ok (.pointer (some ⟨b,o+j.toNat*E.P.cellsOf e,none⟩)) w':=by
 simp [Instr.indexAt,asIntOf,run_und ht,hj,run_size hi,addr_add,Instr.sureAddr]
section
variable {E:Env} {st:AS} {a:Act} {Fs:Nat→List Nat} {k:KT} (dst:Option Tmp) (ty:TypeId) (pos:String) (af:Array Edge) (gd:Option (Nat × Bool))
variable (hT:TR G ρ st.tmps a.tmps) (hH:SatHF G ρ w st.heap Fs)
include hT hH
theorem q_indexAddr (t:TypeId) (x i:Operand) (h:aop E ⟨dst,.indexAddr t x i,ty,pos,af,gd⟩ st k):QRes E G ρ w st a ⟨dst,.indexAddr t x i,ty,pos,af,gd⟩ Fs k:=by
 simp only [aop] at h
 split at h
 ·rename_i e lab esz base n j ht hx hj
  obtain ⟨kk,hj⟩:=aint_eq hj
  obtain ⟨hb,hjn,h2⟩:=br_elim h
  simp only [Bool.and_eq_true] at hb
  have he:=Nat.eq_of_beq_eq_true hb.1
  have hz:E.P.cellsOf e≠0:=fun h=>by rw [he] at h;rw [h] at hb;exact absurd hb.2 (by decide)
  have h1:=eval_rv hT hx
  have hji:=rv_int (eval_rv hT hj)
  simp only [RV] at h1
  obtain ⟨tt,htt,hle,h1⟩:=h1
  rcases h1 with ⟨b,hb,h1⟩ |⟨hn,_⟩
  ·obtain ⟨ie,hie,_⟩:=info_of_cells hz
   refine .plain hH rfl h2 (u:= .pointer (some ⟨b,tt.off+base*esz+j.toNat*E.P.cellsOf e,none⟩)) (fun q hq=>?_) (fun w' _=>?_)
   ·simp at hq;subst hq
    simp only [RV]
    exact ⟨tt,b,htt,hb,by rw [he];simp [Nat.add_mul,Nat.add_assoc]⟩
   ·simp [execOp,h1,hji,run_indexAt_slice ht hjn hie]
  ·omega
 ·rename_i e ek xs j ht hx hj
  obtain ⟨kk,hj⟩:=aint_eq hj
  obtain ⟨hb,hjn,h2⟩:=br_elim h
  replace h2:=h2 (xs.getD j.toNat ek.def) (by rw [List.getD_eq_getElem?_getD,List.getElem?_eq_getElem (by omega)];rfl)
  have he:=Nat.eq_of_beq_eq_true hb
  have h1:=eval_rv hT hx
  have hji:=rv_int (eval_rv hT hj)
  simp only [RV] at h1
  obtain ⟨ad,c,h1,_,hc⟩:=h1
  obtain ⟨b,o,rfl,hc2⟩:=hc (by omega)
  obtain ⟨ie,hie,_⟩:=info_of_cells (P:=E.P) (t:=e) (by rw [he];exact Nat.pos_iff_ne_zero.1 ek.esz_pos)
  refine .plain hH rfl h2 (u:= .pointer (some ⟨b,o+j.toNat*E.P.cellsOf e,none⟩)) (fun q hq=>?_) (fun w' _=>?_)
  ·simp at hq;subst hq
   simp only [RV]
   refine ⟨b,o+j.toNat*E.P.cellsOf e,rfl,RCs.of fun m y hm=>?_⟩
   have hlt:j.toNat<xs.length:=by omega
   have hget:xs[j.toNat]? =some (xs.getD j.toNat ek.def):=by
    rw [List.getD_eq_getElem?_getD,List.getElem?_eq_getElem hlt];rfl
   obtain ⟨u,hu,hr⟩:=hc2 _ _ hget m y (by simpa using hm)
   exact ⟨u,by rw [he];exact hu,hr.rc⟩
  ·simp [execOp,h1,hji,run_indexAt_slice ht hjn hie]
 ·rename_i n e r j ht hx hj
  obtain ⟨kk,hj⟩:=aint_eq hj
  have h1:=eval_rv hT hx
  have hji:=rv_int (eval_rv hT hj)
  simp only [RV] at h1
  obtain ⟨tt,b,htt,hb,h1⟩:=h1
  split at h
  ·rename_i ek xs hl
   obtain ⟨hc,hjn,h2⟩:=br_elim h
   simp only [Bool.and_eq_true] at hc
   obtain ⟨⟨⟨hc1,hc2⟩,hc3⟩,hc4⟩:=hc
   have hc1:=Nat.eq_of_beq_eq_true hc1
   have hc2:=Nat.eq_of_beq_eq_true hc2
   have hc3:=Nat.eq_of_beq_eq_true hc3
   have hc4:=Nat.le_of_ble_eq_true hc4
   obtain ⟨ie,hie,_⟩:=info_of_cells (P:=E.P) (t:=e) (by rw [hc1];exact Nat.pos_iff_ne_zero.1 ek.esz_pos)
   refine .plain hH rfl h2 (u:= .pointer (some ⟨b,tt.off+j.toNat*E.P.cellsOf e,none⟩)) (fun q hq=>?_) (fun w' _=>?_)
   ·simp at hq;subst hq
    simp only [RV]
    exact ⟨tt,b,htt,hb,by rw [hc1];simp⟩
   ·simp [execOp,h1,hji,hc2,hc3,run_indexAt_array ht hc4 hjn hie]
  ·obtain ⟨hc,hjn,h2⟩:=br_elim h
   simp only [Bool.and_eq_true] at hc
   obtain ⟨⟨⟨hc1,hc2⟩,hc3⟩,hc5⟩:=hc
   have hc1:=Nat.eq_of_beq_eq_true hc1
   have hc2:=Nat.le_of_ble_eq_true hc2
   have hc5:E.P.cellsOf e≠0:=fun h=>by rw [h] at hc5;exact absurd hc5 (by decide)
   obtain ⟨ie,hie,_⟩:=info_of_cells hc5
   have h3:=selI_pick h2 hjn
   refine .plain hH rfl h3 (u:= .pointer (some ⟨b,tt.off+r.idx*r.esz+r.off+j.toNat*E.P.cellsOf e,none⟩)) (fun q hq=>?_) (fun w' _=>?_)
   ·simp at hq;subst hq
    simp only [RV]
    exact ⟨tt,b,htt,hb,by rw [Nat.add_assoc]⟩
   ·simp [execOp,h1,hji,run_indexAt_array ht hc2 hjn hie]
  ·exact h.elim
 ·exact h.elim
theorem q_index (t:TypeId) (x i:Operand) (h:aop E ⟨dst,.index t x i,ty,pos,af,gd⟩ st k):QRes E G ρ w st a ⟨dst,.index t x i,ty,pos,af,gd⟩ Fs k:=by
 simp only [aop] at h
 split at h
 ·rename_i s j ht hx hj
  obtain ⟨kk,hj⟩:=aint_eq hj
  have h1:=rv_str (eval_rv hT hx)
  have hji:=rv_int (eval_rv hT hj)
  obtain ⟨hjn,h2⟩:=h
  have hlt:j.toNat<s.size:=by omega
  refine .plain hH rfl h2 (fun q hq=>by simp at hq;subst hq;exact rvI) (fun w' _=>?_)
  have hs:s[j.toNat]? =some (s.data.toList.getD j.toNat 0):=by
   have hlt2:j.toNat<s.data.size:=hlt
   rw [getElem?_pos s j.toNat hlt]
   congr 1
   show s.data[j.toNat]'hlt2=_
   simp only [List.getD_eq_getElem?_getD,Array.getElem?_toList]
   rw [Array.getElem?_eq_getElem hlt2];rfl
  simp [execOp,Instr.index,asIntOf,run_und ht,h1,hji,hjn.1,hs]
 ·rename_i n e cs j ht hx hj
  obtain ⟨kk,hj⟩:=aint_eq hj
  split at h
  ·rename_i g hg
   obtain ⟨hc,hjn,h2⟩:=br_elim h
   simp only [Bool.and_eq_true] at hc
   have hc5:E.P.cellsOf e≠0:=fun h=>by have h5:=hc.2;rw [h] at h5;exact absurd h5 (by decide)
   obtain ⟨ie,hie,hce⟩:=info_of_cells hc5
   have h1:=eval_rv hT hx
   have hji:=rv_int (eval_rv hT hj)
   simp only [RV] at h1
   obtain ⟨vs,h1,hrs⟩:=h1
   have h3:=selI_pick h2 hjn
   obtain ⟨hle,h4⟩:=br_elim h3
   obtain ⟨z,u,hz,hu,hrun⟩:=part_rv hg hrs (Nat.le_of_ble_eq_true hle) h4
   refine .plain hH rfl hz (fun q hq=>by simp at hq;subst hq;exact hu) (fun w' _=>?_)
   have hsz:(sizeOf e).run E.P w'= .ok (E.P.cellsOf e) w':=run_size hie w'
   simp [execOp,Instr.index,asIntOf,run_und ht,h1,hji,hjn.1,hjn.2,hsz,hrun w']
  ·exact h.elim
 ·exact h.elim
theorem q_load (t:TypeId) (x:Operand) (h:aop E ⟨dst,.load t x,ty,pos,af,gd⟩ st k):QRes E G ρ w st a ⟨dst,.load t x,ty,pos,af,gd⟩ Fs k:=by
 simp only [aop] at h
 split at h
 ·rename_i r g hr hg
  replace h:=exposeK_elim h
  obtain ⟨e,Fs',hH',hkeep,hsub⟩:=expose_sat hH r.lab
  have h1:=eval_rv hT hr
  obtain ⟨cs,b,o,vs,hk,hv,hbF,⟨ob,hob,hall⟩,hcl,hrs,hvl,hrun⟩:=readCells_run hH' h (h1.ext (e:=e))
  obtain ⟨x2,hx2,hrx,hlen⟩:=ofCells_rv hk hrs
  have hinfo: ∃i,E.P.info? t=some i:=by
   unfold isAggT at hg
   cases hu:E.P.underlying t with
   |none=>simp [hu] at hg
   |some d=>exact info_of_und hu
  obtain ⟨it,hit⟩:=hinfo
  have hlab:readLab (Go.Op.load t x) st=some r.lab:=by simp [readLab,hr]
  refine ⟨e,some x2,_,Fs',valOf g vs,hx2,fun q hq=>by simp at hq;subst hq;exact hrx,hH',?_,?_,?_⟩
  ·intro l ob' hl hob'
   exact hkeep l (fun h=>hl (by rw [hlab,h])) ob' hob'
  ·intro l hl
   rw [hlab] at hl
   cases hl
   exact ⟨⟨b,ob,hob,hbF,hall⟩,fun ob' y hob' hy=>hsub ob' hob' y hy⟩
  ·intro w' hw hst
   have hb:=hst r.lab b hlab hbF
   have:=run_loadVar_cells (P:=E.P) hg hit (b:=b) (o:=o) hvl (w':=w') (fun j hj=>hrun w' hb j (by omega)) hlen
   simp [execOp,Instr.loadAt,Instr.sureAddr,hv,this]
 ·rename_i c n g hr hg
  obtain ⟨hle,h2⟩:=br_elim h
  have hle:=Nat.le_of_ble_eq_true hle
  have h1:=eval_rv hT hr
  simp only [RV] at h1
  obtain ⟨b,o,h1,hc⟩:=h1
  have hinfo: ∃i,E.P.info? t=some i:=by
   unfold isAggT at hg
   cases hu:E.P.underlying t with
   |none=>simp [hu] at hg
   |some d=>exact info_of_und hu
  obtain ⟨it,hit⟩:=hinfo
  have hlab:readLab (Go.Op.load t x) st=none:=by simp [readLab,hr]
  let f:Nat→Value:=fun j=>(G.w0.cell? ⟨b,o+(n+j),none⟩).getD undef
  have hrs:RVs G ρ ((c.drop n).take (E.P.cellsOf t)) ((List.range (E.P.cellsOf t)).map f):=by
   refine RVs.of_get (by simp;omega) fun j y hj=>?_
   have hjn:j<E.P.cellsOf t:=by
    have:=(List.getElem?_eq_some_iff.1 hj).1
    simp at this;omega
   rw [List.getElem?_take_of_lt hjn,List.getElem?_drop] at hj
   obtain ⟨u,hu,hr⟩:=hc.get _ _ hj
   refine ⟨f j,by simp [hjn],?_⟩
   simp only [f,hu.2];exact hr.rv
  obtain ⟨x2,hx2,hrx,hlen⟩:=ofCells_rv h2 hrs
  refine .plain hH hlab hx2 (fun q hq=>by simp at hq;subst hq;exact hrx) (fun w' hw=>?_)
  have:=run_loadVar_cells (P:=E.P) hg hit (b:=b) (o:=o+n) (vs:=(List.range (E.P.cellsOf t)).map f) (by simp) (w':=w') (fun j hj=>by
   simp at hj
   have hx: ∃y,c[n+j]? =some y:=⟨_,List.getElem?_eq_getElem (by omega)⟩
   obtain ⟨y,hy⟩:=hx
   obtain ⟨u,hu,_⟩:=hc.get _ _ hy
   rw [Nat.add_assoc,imm_cell hw hu]
   simp [hj,f,hu.2]) hlen
  simp [execOp,Instr.loadAt,Instr.sureAddr,h1,this]
 ·exact h.elim
end
end Go.Ax
namespace Go.Ax
variable [Surr] {G:Gam} {ρ:List Root} {w:World}
theorem run_resolve_builtin {E:Env} {r:Operand→Value} {b:Builtin} {xs:Array Operand} {ts:Array TypeId} {ty:TypeId} {dst:Option Tmp} {pos:String} {af:Array Edge} {gd:Option (Nat × Bool)} (w':World):
  (execOp r ⟨dst,.call ⟨.builtin b,xs,ts⟩,ty,pos,af,gd⟩).run E.P w'=(builtin b ts ty (xs.map fun | .const _=>true |_=>false) (xs.map r)).run E.P w':=by
 simp [execOp,resolve,invoke]
 rfl
section
variable {E:Env} {st:AS} {a:Act} {Fs:Nat→List Nat} {k:KT} (dst:Option Tmp) (ty:TypeId) (pos:String) (af:Array Edge) (gd:Option (Nat × Bool))
variable (hT:TR G ρ st.tmps a.tmps) (hH:SatHF G ρ w st.heap Fs)
include hT hH
theorem q_build (t:TypeId) (parts:Array (Nat × Operand)) (h:aop E ⟨dst,.build t parts,ty,pos,af,gd⟩ st k):QRes E G ρ w st a ⟨dst,.build t parts,ty,pos,af,gd⟩ Fs k:=by
 simp only [aop] at h
 split at h
 ·rename_i fs z ps hu hz hp
  split at h
  ·rename_i pl hpl
   split at h
   ·rename_i cs hcs
    rw [forceL_eq] at h
    obtain ⟨i,zv,hi,hzv,hzr⟩:=zero_rv (G:=G) (ρ:=ρ) hz
    obtain ⟨cells,hf,hr⟩:=fill_rv (parts_rv hT hp) hzr hcs
    refine .plain hH rfl h (u:= .agg cells) (fun q hq=>?_) (fun w' _=>?_)
    ·simp at hq;subst hq
     simp only [RV];exact ⟨_,rfl,hr⟩
    ·have:=run_build (P:=E.P) w' t (parts.map fun (i,x)=>(i,a.eval x)) cells (by
      unfold Program.built
      simp only [hi,hu,hzv]
      rw [←placesOf_eq,hpl]
      simp only []
      rw [show ((parts.map fun (i,x)=>(i,a.eval x)).toList)=parts.toList.map fun p=>(p.1,a.eval p.2) from by simp]
      rw [←hf]
      congr 1
      funext j
      simp)
     simp only [execOp]
     simp [this]
   ·exact h.elim
  ·exact h.elim
 ·rename_i n e z ps hu hz hp
  split at h
  ·rename_i ie hie
   split at h
   ·rename_i cs hcs
    rw [forceL_eq] at h
    obtain ⟨i,zv,hi,hzv,hzr⟩:=zero_rv (G:=G) (ρ:=ρ) hz
    obtain ⟨cells,hf,hr⟩:=fill_rv (parts_rv hT hp) hzr hcs
    refine .plain hH rfl h (u:= .agg cells) (fun q hq=>?_) (fun w' _=>?_)
    ·simp at hq;subst hq
     simp only [RV];exact ⟨_,rfl,hr⟩
    ·have:=run_build (P:=E.P) w' t (parts.map fun (i,x)=>(i,a.eval x)) cells (by
      unfold Program.built
      simp only [hi,hu,hzv,hie]
      rw [show ((parts.map fun (i,x)=>(i,a.eval x)).toList)=parts.toList.map fun p=>(p.1,a.eval p.2) from by simp]
      rw [←hf])
     simp only [execOp]
     simp [this]
   ·exact h.elim
  ·exact h.elim
 ·exact h.elim
theorem q_makeFunc (fn:Fn) (first cap:Array Operand) (h:aop E ⟨dst,.makeFunc fn first cap,ty,pos,af,gd⟩ st k):QRes E G ρ w st a ⟨dst,.makeFunc fn first cap,ty,pos,af,gd⟩ Fs k:=by
 cases fn with
 |func f=>
  simp only [aop] at h
  split at h
  ·rename_i vs hf hv
   have hr:=evals_rv hT hv
   refine .plain hH rfl h (u:= .func (.func f) #[] (cap.map a.eval)) (fun q hq=>?_) (fun w' _=>?_)
   ·simp at hq;subst hq
    simp only [RV];exact ⟨_,rfl,by simpa using hr⟩
   ·have:first= #[]:=by cases first;simp at hf;simp [hf]
    simp [execOp,Instr.makeFunc,this]
  ·rename_i y ys hf hv
   split at h
   ·rename_i vs hx
    rw [←hf] at hx
    have hr:=evals_rv hT hx
    have hcap:cap= #[]:=by
     have hl:=(evals_rv hT hv).len
     simp at hl
     exact hl
    refine .plain hH rfl h (u:= .func (.func f) (first.map a.eval) #[]) (fun q hq=>?_) (fun w' _=>?_)
    ·simp at hq;subst hq
     simp only [RV];exact ⟨_,rfl,by simpa using hr⟩
    ·simp [execOp,Instr.makeFunc,hcap]
   ·exact h.elim
  ·exact h.elim
 |_=>simp only [aop] at h
theorem q_makeInterface (t:TypeId) (x:Operand) (h:aop E ⟨dst,.makeInterface t x,ty,pos,af,gd⟩ st k):QRes E G ρ w st a ⟨dst,.makeInterface t x,ty,pos,af,gd⟩ Fs k:=by
 simp only [aop] at h
 split at h
 ·exact h.elim
 ·rename_i d v hu hv hni
  have hr:=eval_rv hT hni
  refine .plain hH rfl h (u:= .iface t (a.eval x)) (fun q hq=>?_) (fun w' _=>?_)
  ·simp at hq;subst hq
   simp only [RV];exact ⟨_,rfl,hr⟩
  ·cases v<;>simp_all [execOp,Instr.makeInterface,run_und]
 ·exact h.elim
theorem q_builtin (b:Builtin) (hb:b= .len∨b= .max∨b= .min) (xs:Array Operand) (ts:Array TypeId) (h:aop E ⟨dst,.call ⟨.builtin b,xs,ts⟩,ty,pos,af,gd⟩ st k):
  QRes E G ρ w st a ⟨dst,.call ⟨.builtin b,xs,ts⟩,ty,pos,af,gd⟩ Fs k:=by
 simp only [aop] at h
 cases hv:evals st xs.toList with
 |none=>rcases hb with rfl |rfl |rfl<;>simp [hv] at h
 |some vs=>
  have h:abuiltin E b ts vs st.heap (fun v H T=>k (some v) H T):=by rcases hb with rfl |rfl |rfl<;>(simp only [hv] at h;exact h)
  have hr:=evals_rv hT hv
  unfold abuiltin at h
  split at h
  ·
   rename_i x
   simp only [RVs] at hr
   obtain ⟨v,ws,hxs,hx,rfl⟩:=hr
   have hxs':xs.map a.eval= #[v]:=by
    apply Array.ext';simpa using hxs
   split at h
   ·rename_i t ht
    split at h
    ·rename_i s hu
     have:=rv_str hx;subst this
     exact .plain hH rfl h (fun q hq=>by simp at hq;subst hq;exact rvI) (fun w' _=>by rw [run_resolve_builtin];simp [builtin,hxs',Builtin.len_,ht,run_und hu,goInt])
    ·rename_i e l es bs n hu
     simp only [RV] at hx
     obtain ⟨tt,_,_,hx⟩:=hx
     have hv2: ∃aa c,v= .slice aa n c:=by
      rcases hx with ⟨b,_,rfl⟩ |⟨rfl,_,aa,rfl⟩
      ·exact ⟨_,_,rfl⟩
      ·exact ⟨_,_,rfl⟩
     obtain ⟨aa,c,rfl⟩:=hv2
     exact .plain hH rfl h (fun q hq=>by simp at hq;subst hq;exact rvI) (fun w' _=>by rw [run_resolve_builtin];simp [builtin,hxs',Builtin.len_,ht,run_und hu,goInt])
    ·rename_i e kk ys hu
     simp only [RV] at hx
     obtain ⟨aa,c,rfl,_⟩:=hx
     exact .plain hH rfl h (fun q hq=>by simp at hq;subst hq;exact rvI) (fun w' _=>by rw [run_resolve_builtin];simp [builtin,hxs',Builtin.len_,ht,run_und hu,goInt])
    ·rename_i e hu
     simp only [RV] at hx;subst hx
     exact .plain hH rfl h (fun q hq=>by simp at hq;subst hq;exact rvI) (fun w' _=>by rw [run_resolve_builtin];simp [builtin,hxs',Builtin.len_,ht,run_und hu,goInt])
    ·exact h.elim
   ·exact h.elim
  ·simp at hb
  ·simp at hb
  ·simp at hb
  ·
   simp only [RVs] at hr
   obtain ⟨v,ws,hxs,hx,v2,ws2,rfl,hx2,rfl⟩:=hr
   have e1:=rv_int hx;have e2:=rv_int hx2
   have hxs':xs.map a.eval= #[v,v2]:=by
    apply Array.ext';simpa using hxs
   rw [e1,e2] at hxs'
   exact .plain hH rfl h (fun q hq=>by simp at hq;subst hq;exact rvI) (fun w' _=>by rw [run_resolve_builtin];simp [builtin,hxs',Builtin.max_,Builtin.max2])
  ·
   simp only [RVs] at hr
   obtain ⟨v,ws,hxs,hx,v2,ws2,rfl,hx2,rfl⟩:=hr
   have e1:=rv_int hx;have e2:=rv_int hx2
   have hxs':xs.map a.eval= #[v,v2]:=by
    apply Array.ext';simpa using hxs
   rw [e1,e2] at hxs'
   exact .plain hH rfl h (fun q hq=>by simp at hq;subst hq;exact rvI) (fun w' _=>by rw [run_resolve_builtin];simp [builtin,hxs',Builtin.min_,Builtin.min2])
  ·simp at hb
  ·exact h.elim
end
end Go.Ax
namespace Go.Ax
variable [Surr] {G:Gam} {ρ:List Root} {w:World}
theorem run_bounds {E:Env} {isS:Bool} {n c:Nat} {lo hi:Option Value} {l h:Int} (hl:(lo=none∧l=0)∨ ∃k,lo=some (.int k l)) (hh:(hi=none∧h=n)∨ ∃k,hi=some (.int k h)) (h1:0≤l) (h2:l≤h) (h3:h≤c) (w':World):
  (Instr.sliceBounds isS n c lo hi none).run E.P w'= .ok (l.toNat,h.toNat,c) w':=by
 have h4:0≤h:=by omega
 have h5:l≤h.toNat:=by omega
 rcases hl with ⟨rfl,rfl⟩ |⟨k,rfl⟩<;>rcases hh with ⟨rfl,rfl⟩ |⟨k',rfl⟩<;>
  simp [Instr.sliceBounds,Instr.sliceBound,asIntOf,h1,h2,h3,h4]
 all_goals (intros;omega)
theorem bound_of {st:AS} {a:Act} (hT:TR G ρ st.tmps a.tmps) {lo:Option Operand} {d l:Int} (h:(match lo.map st.eval with |none=>some d |some v=>aint v)=some l):
  (lo.map a.eval=none∧l=d)∨ ∃k,lo.map a.eval=some (.int k l):=by
 cases lo with
 |none=>simp at h;exact .inl ⟨rfl,h.symm⟩
 |some x=>
  simp at h
  obtain ⟨k,hk⟩:=aint_eq h
  have:=rv_int (eval_rv hT hk)
  exact .inr ⟨k,by simp [this]⟩
section
variable {E:Env} {st:AS} {a:Act} {Fs:Nat→List Nat} {k:KT} (dst:Option Tmp) (ty:TypeId) (pos:String) (af:Array Edge) (gd:Option (Nat × Bool))
variable (hT:TR G ρ st.tmps a.tmps) (hH:SatHF G ρ w st.heap Fs)
include hT hH
theorem q_slice (t:TypeId) (x:Operand) (lo hi:Option Operand) (h:aop E ⟨dst,.slice t x lo hi none,ty,pos,af,gd⟩ st k):QRes E G ρ w st a ⟨dst,.slice t x lo hi none,ty,pos,af,gd⟩ Fs k:=by
 simp only [aop] at h
 cases hx:st.eval x with
 |none=>simp [hx] at h
 |some v=>
  simp only [hx] at h
  have hr:=eval_rv hT hx
  unfold aslice at h
  cases v
  case str s=>
   simp only [] at h
   have hv:=rv_str hr
   split at h
   ·rename_i l hh hl hhh hu
    obtain ⟨⟨h1,h2,h3⟩,hk⟩:=h
    have b1:=bound_of hT hl
    have b2:=bound_of hT hhh
    refine .plain hH rfl hk (fun q hq=>by simp at hq;subst hq;exact rvS) (fun w' _=>?_)
    have:=run_bounds (E:=E) (isS:=false) (n:=s.size) (c:=s.size) b1 b2 h1 h2 h3 w'
    simp [execOp,Instr.sliceAt,Instr.slice,run_und hu,hv,this]
   ·exact h.elim
  case imm ek xs=>
   simp only [] at h
   simp only [RV] at hr
   obtain ⟨ad,c,hv,hc1,hc⟩:=hr
   split at h
   ·rename_i l hh e hl hhh hu
    obtain ⟨hb,⟨h1,h2,h3⟩,hk⟩:=br_elim h
    have he:=Nat.eq_of_beq_eq_true hb
    have b1:=bound_of hT hl
    have b2:=bound_of hT hhh
    have hbd:=run_bounds (E:=E) (isS:=true) (n:=xs.length) (c:=c) b1 b2 h1 h2 (by omega)
    obtain ⟨ie,hie,_⟩:=info_of_cells (P:=E.P) (t:=e) (by rw [he];exact Nat.pos_iff_ne_zero.1 ek.esz_pos)
    refine .plain hH rfl hk (u:= .slice (if c=l.toNat then ad else ad.map (·.add (l.toNat*E.P.cellsOf e))) (hh.toNat-l.toNat) (c-l.toNat)) (fun q hq=>?_) (fun w' _=>?_)
    ·simp at hq;subst hq
     simp only [RV]
     have hlen:((xs.take hh.toNat).drop l.toNat).length=hh.toNat-l.toNat:=by simp;omega
     refine ⟨_,c-l.toNat,by rw [hlen],by rw [hlen];omega,fun hn=>?_⟩
     rw [hlen] at hn
     obtain ⟨b,o,rfl,hcc⟩:=hc (by omega)
     rw [if_neg (by omega)]
     refine ⟨b,o+l.toNat*E.P.cellsOf e,by simp [addr_add],fun i y hi j z hj=>?_⟩
     have hi2:xs[l.toNat+i]? =some y:=by
      rw [List.getElem?_drop] at hi
      have:l.toNat+i<hh.toNat:=by
       have:=(List.getElem?_eq_some_iff.1 hi).1
       simp at this;omega
      rw [List.getElem?_take_of_lt this] at hi
      exact hi
     obtain ⟨u,hu2,hru⟩:=hcc _ _ hi2 j z hj
     refine ⟨u,?_,hru⟩
     rw [he]
     have:o+l.toNat*ek.esz+i*ek.esz+j=o+(l.toNat+i)*ek.esz+j:=by rw [Nat.add_mul];omega
     rw [this];exact hu2
    ·simp [execOp,Instr.sliceAt,Instr.slice,run_und hu,hv,hbd w',run_size hie]
   ·exact h.elim
  case sl lab esz base n=>
   simp only [] at h
   have hr0:=hr
   simp only [RV] at hr
   obtain ⟨tt,htt,hle,hv⟩:=hr
   split at h
   ·rename_i l hh e ek xs hl hhh hu hlab
    obtain ⟨hb,⟨h1,h2,h3⟩,hk⟩:=br_elim h
    simp only [Bool.and_eq_true] at hb
    have he:=Nat.eq_of_beq_eq_true hb.1
    have he2:=Nat.eq_of_beq_eq_true hb.2
    have b1:=bound_of hT hl
    have b2:=bound_of hT hhh
    obtain ⟨ie,hie,_⟩:=info_of_cells (P:=E.P) (t:=e) (by rw [he,←he2];exact Nat.pos_iff_ne_zero.1 ek.esz_pos)
    obtain ⟨t',ht',hs⟩:=hH.sat _ _ hlab
    rw [htt] at ht';cases ht'
    have htot:xs.length≤tt.tot:=by
     generalize Fs lab=F at hs
     cases hs with
     |row _ _ h _ _ _=>omega
     |rownil _ h=>simp
    rcases hv with ⟨b,hb,hv⟩ |⟨hn,htb,aa,hv⟩
    ·have hbd:=run_bounds (E:=E) (isS:=true) (n:=n) (c:=tt.tot-base) b1 b2 h1 h2 (by omega)
     refine .plain hH rfl hk (u:= .slice (if tt.tot-base=l.toNat then some ⟨b,tt.off+base*esz,none⟩ else some ⟨b,tt.off+base*esz+l.toNat*E.P.cellsOf e,none⟩) (hh.toNat-l.toNat) (tt.tot-base-l.toNat)) (fun q hq=>?_) (fun w' _=>?_)
     ·simp at hq;subst hq
      simp only [RV]
      refine ⟨tt,htt,by omega,?_⟩
      by_cases hz:tt.tot-base=l.toNat
      ·right
       rw [if_pos hz]
       refine ⟨by omega,by omega,some ⟨b,tt.off+base*esz,none⟩,?_⟩
       rw [show hh.toNat-l.toNat=0 from by omega,show tt.tot-base-l.toNat=0 from by omega]
      ·left
       rw [if_neg hz]
       refine ⟨b,hb,?_⟩
       rw [he,Nat.add_mul,Nat.add_assoc,Nat.sub_add_eq]
     ·have:=hbd w'
      simp [execOp,Instr.sliceAt,Instr.slice,run_und hu,hv,this,run_size hie,addr_add]
    ·have hh0:hh=0:=by omega
     have hl0:l=0:=by omega
     subst hh0 hl0
     have hbd:=run_bounds (E:=E) (isS:=true) (n:=n) (c:=0) b1 b2 (by omega) (by omega) (by omega)
     refine .plain hH rfl hk (u:= .slice aa 0 0) (fun q hq=>?_) (fun w' _=>?_)
     ·simp at hq;subst hq
      simp only [RV]
      exact ⟨tt,htt,by simp;omega,.inr ⟨by simp,by simpa using htb,aa,rfl⟩⟩
     ·have:=hbd w'
      subst hn
      simp [execOp,Instr.sliceAt,Instr.slice,run_und hu,hv,this,run_size hie]
   ·exact h.elim
  case nils=>
   simp only [] at h
   simp only [RV] at hr
   split at h
   ·rename_i l hh e hl hhh hu
    obtain ⟨⟨h1,h2⟩,hk⟩:=h
    subst h1 h2
    have b1:=bound_of hT hl
    have b2:=bound_of hT hhh
    have hbd:=run_bounds (E:=E) (isS:=true) (n:=0) (c:=0) b1 b2 (by omega) (by omega) (by omega)
    split at hk
    ·rename_i ie hie
     refine .plain hH rfl hk (u:= .slice none 0 0) (fun q hq=>?_) (fun w' _=>?_)
     ·simp at hq;subst hq
      simp only [RV]
     ·have:=hbd w'
      simp [execOp,Instr.sliceAt,Instr.slice,run_und hu,hr,this,run_size hie]
    ·exact hk.elim
   ·exact h.elim
  all_goals exact h.elim
theorem quiet_sound {o:Oper} (hq:quietOp o.op=true) (h:aop E o st k):QRes E G ρ w st a o Fs k:=by
 obtain ⟨dst,op,ty,pos,af,gd⟩:=o
 cases op with
 |move x=>exact q_move dst ty pos af gd hT hH x h
 |assign x=>exact q_assign dst ty pos af gd hT hH x h
 |pick c x y=>exact q_pick dst ty pos af gd hT hH c x y h
 |binOp op t x y t2=>exact q_bin dst ty pos af gd hT hH op t x y t2 h
 |unOp op t x=>exact q_un dst ty pos af gd hT hH op t x h
 |convert s d x=>exact q_conv dst ty pos af gd hT hH s d x h
 |nilCheck x=>exact q_nil dst ty pos af gd hT hH x h
 |fieldAddr s x f=>exact q_fieldAddr dst ty pos af gd hT hH s x f h
 |field s x f=>exact q_field dst ty pos af gd hT hH s x f h
 |extract x i=>exact q_extract dst ty pos af gd hT hH x i h
 |indexAddr t x i=>exact q_indexAddr dst ty pos af gd hT hH t x i h
 |index t x i=>exact q_index dst ty pos af gd hT hH t x i h
 |load t x=>exact q_load dst ty pos af gd hT hH t x h
 |build t p=>exact q_build dst ty pos af gd hT hH t p h
 |slice t x lo hi mx=>cases mx with
  |none=>exact q_slice dst ty pos af gd hT hH t x lo hi h
  |some _=>simp only [aop] at h
 |makeFunc f p q=>exact q_makeFunc dst ty pos af gd hT hH f p q h
 |makeInterface t x=>exact q_makeInterface dst ty pos af gd hT hH t x h
 |call c=>
  obtain ⟨cal,xs,ts⟩:=c
  cases cal with
  |builtin b=>
   refine q_builtin dst ty pos af gd hT hH b ?_ xs ts h
   cases b<;>simp [quietOp] at hq ⊢
  |value f=>simp [quietOp] at hq
  |invoke r m=>simp [quietOp] at hq
 |_=>simp [quietOp] at hq
end
end Go.Ax
