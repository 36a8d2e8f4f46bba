import Derived.Test.YtnoinchifbckcaaGreatDoorAxV9
import Derived.Test.YtnoinchifbckcaaGreatDoorAxO33
set_option linter.all false
namespace Go.Ax.V
open Go.Ax.Sp Go.Ax.Law List Int IntKind
set_option maxRecDepth 100000
def vLineA_1 (n:Int) (I:Int × List Ax.Event × List Answer × Bool × List Req × Int→Prop) (m:Int × List Ax.Event × List Answer × Bool × List Req × Int→Nat) (x:Int × List Ax.Event × List Answer × Bool × List Req × Int) (e:Ax.Event):Prop:=
SH x.2.2.2 fun s0=>AI x.2.1 s0.2.2 fun e=>br (!e.Kind==3) (NM (s0.2.2+1) fun n=>NX I m x fun y=>(x.1=y.1∧x.2.1=y.2.1∧(0=0∧length x.2.2.1=length y.2.2.1)∧s0.1=y.2.2.2.1∧(0=0∧length s0.2.1=length y.2.2.2.2.1)∧n=y.2.2.2.2.2∧True)∧x.2.2.1=y.2.2.1∧s0.2.1=y.2.2.2.2.1∧True) (LP (Int × List Ax.Event × List Answer × Bool × List Req × Int × Bool × Int) (fun x_1=>SH x_1.2.2.2.2 fun s1=>(x.1=x_1.1∧x.2.1=x_1.2.1∧(0=0∧length x.2.2.1=length x_1.2.2.1)∧s0.1=x_1.2.2.2.1∧(0=0∧length s0.2.1=length s1.1)∧s0.2.2=s1.2.1∧false=s1.2.2.1∧0=s1.2.2.2∧True)∧x.2.2.1=x_1.2.2.1∧s0.2.1=s1.1∧True) fun I_1 m_1 x_1=>SH x_1.2.2.2.2 fun s1=>SH x_1.2.2.1 fun s2=>SH (length s1.1) fun s3=>SH (length s2) fun s4=>SH (br x_1.2.2.2.1 (NM (s1.2.1+1) fun n=>NX I m x fun y=>(x_1.1=y.1∧x_1.2.1=y.2.1∧(0=0∧s4=length y.2.2.1)∧s1.2.2.1=y.2.2.2.1∧(0=0∧s3=length y.2.2.2.2.1)∧n=y.2.2.2.2.2∧True)∧s2=y.2.2.1∧s1.1=y.2.2.2.2.1∧True) (NM (s1.2.1+1) fun n=>NX I m x fun y=>(x_1.1=y.1∧x_1.2.1=y.2.1∧(0=0∧s4=length y.2.2.1)∧false=y.2.2.2.1∧(0=0∧s3=length y.2.2.2.2.1)∧n=y.2.2.2.2.2∧True)∧s2=y.2.2.1∧s1.1=y.2.2.2.2.1∧True)) fun s5=>br (decide (s1.2.2.2<LN s2)) (br (!s1.2.2.1) (AT s2 s1.2.2.2 fun e=>AI x_1.2.1 s1.2.1 fun e_1=>br (e.Task==e_1.Task) (br x_1.2.2.2.1 (AT s2 s1.2.2.2 fun e=>SH e.Reply fun s6=>AI x_1.2.1 s1.2.1 fun e_2=>SH e_2.Reply fun s7=>NM (s1.2.2.2+1) fun n=>NX I_1 m_1 x_1 fun y=>SH y.2.2.2.2 fun s8=>(x_1.1=y.1∧x_1.2.1=y.2.1∧(0=0∧s4=length y.2.2.1)∧(s6.Err==s7.Err&&(s6.Id==s7.Id&&(s6.State==s7.State&&(s6.Start==s7.Start&&(s6.End==s7.End&&(s6.Plan==s7.Plan&&(s6.A==s7.A&&(s6.B==s7.B&&(s6.C==s7.C&&true)))))))))=y.2.2.2.1∧(0=0∧s3=length s8.1)∧s1.2.1=s8.2.1∧true=s8.2.2.1∧n=s8.2.2.2∧True)∧s2=y.2.2.1∧s1.1=s8.1∧True) (NM (s1.2.2.2+1) fun n=>NX I_1 m_1 x_1 fun y=>SH y.2.2.2.2 fun s6=>(x_1.1=y.1∧x_1.2.1=y.2.1∧(0=0∧s4=length y.2.2.1)∧false=y.2.2.2.1∧(0=0∧s3=length s6.1)∧s1.2.1=s6.2.1∧true=s6.2.2.1∧n=s6.2.2.2∧True)∧s2=y.2.2.1∧s1.1=s6.1∧True)) (NM (s1.2.2.2+1) fun n=>NX I_1 m_1 x_1 fun y=>SH y.2.2.2.2 fun s6=>(x_1.1=y.1∧x_1.2.1=y.2.1∧(0=0∧s4=length y.2.2.1)∧x_1.2.2.2.1=y.2.2.2.1∧(0=0∧s3=length s6.1)∧s1.2.1=s6.2.1∧s1.2.2.1=s6.2.2.1∧n=s6.2.2.2∧True)∧s2=y.2.2.1∧s1.1=s6.1∧True)) s5) s5)
def vLineA_2 (n:Int) (I:Int × List Ax.Event × List Answer × Bool × List Req × Int→Prop) (m:Int × List Ax.Event × List Answer × Bool × List Req × Int→Nat) (x:Int × List Ax.Event × List Answer × Bool × List Req × Int):Prop:=
SH x.2.2.2.2 fun s0=>SH (length s0.1) fun s1=>AI x.2.1 s0.2 fun e=>br (e.Kind==2) (AI x.2.1 s0.2 fun e=>br (decide (e.Req.Kind≥1)) (AI x.2.1 s0.2 fun e=>br (decide (e.Req.Kind≤13)) (AI x.2.1 s0.2 fun e=>SH (tk s0.1++[e.Req]) fun s2=>1≤1∧0+s1≤s1∧s1+1≤68719476736∧AI x.2.1 s0.2 fun e_1=>br (!e_1.Kind==3) (NM (s0.2+1) fun n=>NX I m x fun y=>(x.1=y.1∧x.2.1=y.2.1∧(0=0∧length x.2.2.1=length y.2.2.1)∧x.2.2.2.1=y.2.2.2.1∧(0=0∧s1+1=length y.2.2.2.2.1)∧n=y.2.2.2.2.2∧True)∧x.2.2.1=y.2.2.1∧s2=y.2.2.2.2.1∧True) (LP (Int × List Ax.Event × List Answer × Bool × List Req × Int × Bool × Int) (fun x_1=>SH x_1.2.2.2.2 fun s3=>(x.1=x_1.1∧x.2.1=x_1.2.1∧(0=0∧length x.2.2.1=length x_1.2.2.1)∧x.2.2.2.1=x_1.2.2.2.1∧(0=0∧s1+1=length s3.1)∧s0.2=s3.2.1∧false=s3.2.2.1∧0=s3.2.2.2∧True)∧x.2.2.1=x_1.2.2.1∧s2=s3.1∧True) fun I_1 m_1 x_1=>SH x_1.2.2.2.2 fun s3=>SH x_1.2.2.1 fun s4=>SH (length s3.1) fun s5=>SH (length s4) fun s6=>SH (br x_1.2.2.2.1 (NM (s3.2.1+1) fun n=>NX I m x fun y=>(x_1.1=y.1∧x_1.2.1=y.2.1∧(0=0∧s6=length y.2.2.1)∧s3.2.2.1=y.2.2.2.1∧(0=0∧s5=length y.2.2.2.2.1)∧n=y.2.2.2.2.2∧True)∧s4=y.2.2.1∧s3.1=y.2.2.2.2.1∧True) (NM (s3.2.1+1) fun n=>NX I m x fun y=>(x_1.1=y.1∧x_1.2.1=y.2.1∧(0=0∧s6=length y.2.2.1)∧false=y.2.2.2.1∧(0=0∧s5=length y.2.2.2.2.1)∧n=y.2.2.2.2.2∧True)∧s4=y.2.2.1∧s3.1=y.2.2.2.2.1∧True)) fun s7=>br (decide (s3.2.2.2<LN s4)) (br (!s3.2.2.1) (AT s4 s3.2.2.2 fun e=>AI x_1.2.1 s3.2.1 fun e_2=>br (e.Task==e_2.Task) (br x_1.2.2.2.1 (AT s4 s3.2.2.2 fun e=>SH e.Reply fun s8=>AI x_1.2.1 s3.2.1 fun e_3=>SH e_3.Reply fun s9=>NM (s3.2.2.2+1) fun n=>NX I_1 m_1 x_1 fun y=>SH y.2.2.2.2 fun s10=>(x_1.1=y.1∧x_1.2.1=y.2.1∧(0=0∧s6=length y.2.2.1)∧(s8.Err==s9.Err&&(s8.Id==s9.Id&&(s8.State==s9.State&&(s8.Start==s9.Start&&(s8.End==s9.End&&(s8.Plan==s9.Plan&&(s8.A==s9.A&&(s8.B==s9.B&&(s8.C==s9.C&&true)))))))))=y.2.2.2.1∧(0=0∧s5=length s10.1)∧s3.2.1=s10.2.1∧true=s10.2.2.1∧n=s10.2.2.2∧True)∧s4=y.2.2.1∧s3.1=s10.1∧True) (NM (s3.2.2.2+1) fun n=>NX I_1 m_1 x_1 fun y=>SH y.2.2.2.2 fun s8=>(x_1.1=y.1∧x_1.2.1=y.2.1∧(0=0∧s6=length y.2.2.1)∧false=y.2.2.2.1∧(0=0∧s5=length s8.1)∧s3.2.1=s8.2.1∧true=s8.2.2.1∧n=s8.2.2.2∧True)∧s4=y.2.2.1∧s3.1=s8.1∧True)) (NM (s3.2.2.2+1) fun n=>NX I_1 m_1 x_1 fun y=>SH y.2.2.2.2 fun s8=>(x_1.1=y.1∧x_1.2.1=y.2.1∧(0=0∧s6=length y.2.2.1)∧x_1.2.2.2.1=y.2.2.2.1∧(0=0∧s5=length s8.1)∧s3.2.1=s8.2.1∧s3.2.2.1=s8.2.2.1∧n=s8.2.2.2∧True)∧s4=y.2.2.1∧s3.1=s8.1∧True)) s7) s7)) (vLineA_1 n I m x e)) (vLineA_1 n I m x e)) (vLineA_1 n I m x e)
def vLineA_3 (n:Int) (k:Unit→Bool × Unit→Prop) (I:Int × List Ax.Event × List Answer × Bool × List Req × Int→Prop) (m:Int × List Ax.Event × List Answer × Bool × List Req × Int→Nat) (x:Int × List Ax.Event × List Answer × Bool × List Req × Int):Prop:=
length x.2.1≤1073741824∧br (!LN (callsL x.2.1)==LN x.2.2.2.2.1) (k () (false,())) (LP (Int × List Ax.Event × Bool × List Req × List Req × Int) (fun x_1=>(x.1=x_1.1∧x.2.1=x_1.2.1∧x.2.2.2.1=x_1.2.2.1∧(0=0∧length x.2.2.2.2.1=length x_1.2.2.2.1)∧(0=0∧length (callsL x.2.1)=length x_1.2.2.2.2.1)∧0=x_1.2.2.2.2.2∧True)∧x.2.2.2.2.1=x_1.2.2.2.1∧callsL x.2.1=x_1.2.2.2.2.1∧True) fun I m x=>SH x.2.2.2 fun s0=>br (decide (s0.2.2<LN s0.2.1)) (AT s0.2.1 s0.2.2 fun e=>AT s0.1 s0.2.2 fun e_1=>br (!(e.Kind==e_1.Kind&&(e.Id==e_1.Id&&(e.User==e_1.User&&(e.Width==e_1.Width&&(e.Limit==e_1.Limit&&(e.Prio==e_1.Prio&&(e.Held==e_1.Held&&(e.Node==e_1.Node&&(e.By==e_1.By&&true)))))))))) (k () (false,())) (NM (s0.2.2+1) fun n=>NX I m x fun y=>(x.1=y.1∧x.2.1=y.2.1∧x.2.2.1=y.2.2.1∧(0=0∧length s0.1=length y.2.2.2.1)∧(0=0∧length s0.2.1=length y.2.2.2.2.1)∧n=y.2.2.2.2.2∧True)∧s0.1=y.2.2.2.1∧s0.2.1=y.2.2.2.2.1∧True)) (length x.2.1≤1073741824∧br (agreesS x.1 x.2.1==x.2.2.1) (k () (true,())) (k () (false,()))))
def vLineA (n:Int) (l:List Ax.Event) (k:Unit→Bool × Unit→Prop):Prop:=
SH (replayMF (newM n) [] (-1:Int) (0:Int) (drop (toNat (0:Int)) (take (toNat (60:Int)) l))).2 fun s0=>SH (replayMF (newM n) [] (-1:Int) (0:Int) l).2 fun s1=>SH (∃n_1 c,Stb n_1 c (newM n)) fun s2=>br (decide (LN l>60)) (((0:Int)≤0∧(0:Int)≤60∧60≤LN l)∧br (decide (n<1)) (k () (true,())) (br (decide (n>64)) (k () (true,())) ((0≤n∧n≤1000)∧(s2∧length (drop (toNat (0:Int)) (take (toNat (60:Int)) l))≤1073741824)∧LP (Int × List Ax.Event × List Answer × Bool × List Req × Int) (fun x=>(n=x.1∧drop (toNat (0:Int)) (take (toNat (60:Int)) l)=x.2.1∧((0:Nat)=0∧length s0.1=length x.2.2.1)∧decide (s0.2<0)=x.2.2.2.1∧((0:Nat)=0∧0=length x.2.2.2.2.1)∧0=x.2.2.2.2.2∧True)∧s0.1=x.2.2.1∧[]=x.2.2.2.2.1∧True) fun I m x=>br (decide (x.2.2.2.2.2<LN x.2.1)) (vLineA_2 n I m x) (vLineA_3 n k I m x)))) (br (decide (n<1)) (k () (true,())) (br (decide (n>64)) (k () (true,())) ((0≤n∧n≤1000)∧(s2∧length l≤1073741824)∧LP (Int × List Ax.Event × List Answer × Bool × List Req × Int) (fun x=>(n=x.1∧l=x.2.1∧((0:Nat)=0∧length s1.1=length x.2.2.1)∧decide (s1.2<0)=x.2.2.2.1∧((0:Nat)=0∧0=length x.2.2.2.2.1)∧0=x.2.2.2.2.2∧True)∧s1.1=x.2.2.1∧[]=x.2.2.2.2.1∧True) fun I m x=>br (decide (x.2.2.2.2.2<LN x.2.1)) (vLineA_2 n I m x) (vLineA_3 n k I m x))))
end Go.Ax.V
namespace Go.Ax.Law
def fitE (as:List Answer) (e:Go.Ax.Event):Bool:=!decide (e.Kind=3)||((tellA as e.Task).2&&eqR (tellA as e.Task).1 e.Reply)
theorem agreesL_snoc {as:List Answer} {l:List Go.Ax.Event} {i:Nat} {e:Go.Ax.Event} (he:l[i]? =some e):agreesL as (l.take (i+1))=(agreesL as (l.take i)&&fitE as e):=by
 rw [List.take_add_one,he]
 unfold agreesL fitE
 simp
end Go.Ax.Law
namespace Go.Ax.O
open Go.Ax.Sp Go.Ax.Law
theorem lineA_end {nn:Int} {k:Unit→Bool × Unit→Prop} {I:Int × List Go.Ax.Event × List Answer × Bool × List Req × Int→Prop} {m:Int × List Go.Ax.Event × List Answer × Bool × List Req × Int→Nat} {n:Int} {l:List Go.Ax.Event} {as:List Answer} {ok:Bool} {i:Int}
  (hk:k () (true,())) (hl:l.length≤60) (hok:ok=agreesS n l):V.vLineA_3 nn k I m (n,l,as,ok,callsL l,i):=by
 unfold V.vLineA_3 V.LP V.NX V.AT V.NM V.SH V.LN
 simp only [tk_eq,Nat.zero_add,Nat.le_refl,true_and,and_true]
 have hc:(callsL l).length≤l.length:=by
  unfold callsL
  rw [List.length_map]
  exact List.length_filter_le callE l
 refine ⟨by omega,br_ne (fun hh=>absurd rfl hh) (fun _=>?_)⟩
 generalize callsL l=C at*
 refine ⟨fun x=>x.1=n∧x.2.1=l∧x.2.2.1=ok∧x.2.2.2.1=C∧x.2.2.2.2.1=C∧0≤x.2.2.2.2.2∧x.2.2.2.2.2≤C.length,fun x=>(C.length-x.2.2.2.2.2).toNat,(n,l,ok,C,C,0),⟨rfl,rfl,rfl,rfl,rfl,Int.le_refl _,by simp⟩,by simp,?_⟩
 rintro ⟨n',l',ok',C1,C2,j⟩ ⟨g1,g2,g3,g4,g5,g6,g7⟩
 simp only [] at g1 g2 g3 g4 g5 g6 g7
 subst g1 g2 g3 g4 g5
 obtain ⟨j,rfl⟩:=Int.eq_ofNat_of_zero_le g6
 simp only [Int.toNat_natCast]
 refine br_dec (fun hi=>⟨⟨g6,hi⟩,by omega,fun e he=>⟨⟨g6,hi⟩,by omega,fun e1 he1=>br_not (fun hh=>?_) (fun _ q hq=>?_)⟩⟩) (fun hi=>⟨by omega,br_bool (fun _=>hk) (fun hh=>?_)⟩)
 ·rw [he] at he1;cases he1;simp at hh
 ·rw [w64 (by omega)] at hq
  subst hq
  exact ⟨(n',l',ok',C2,C2,(j:Int)+1),⟨rfl,rfl,rfl,rfl,rfl,by simp only [];omega,by simp only [];omega⟩,by simp,by simp only [];omega⟩
 ·rw [hok] at hh;simp at hh
def LA (n:Int) (l:List Go.Ax.Event) (as:List Answer) (B:Bool) (x:Int × List Go.Ax.Event × List Answer × Bool × List Req × Int):Prop:=
 x.1=n∧x.2.1=l∧x.2.2.1=as∧0≤x.2.2.2.2.2∧x.2.2.2.2.2≤l.length∧x.2.2.2.1=(B&&agreesL as (l.take x.2.2.2.2.2.toNat))∧x.2.2.2.2.1=callsL (l.take x.2.2.2.2.2.toNat)
theorem lineA_step {n:Int} {l:List Go.Ax.Event} {as:List Answer} {B:Bool} {i:Nat} (hl:l.length≤60) {e:Go.Ax.Event} (he:l[i]? =some e) {q:Int} (hq:q=IntKind.i64.wrap ((i:Int)+1)) {ok:Bool} {req:List Req}
  (h1:ok=(B&&agreesL as (l.take (i+1)))) (h2:req=callsL (l.take (i+1))):
  ∃y:Int × List Go.Ax.Event × List Answer × Bool × List Req × Int,LA n l as B y∧((n=y.1∧l=y.2.1∧as.length=y.2.2.1.length∧ok=y.2.2.2.1∧req.length=y.2.2.2.2.1.length∧q=y.2.2.2.2.2)∧as=y.2.2.1∧req=y.2.2.2.2.1)∧(l.length-y.2.2.2.2.2).toNat<(l.length-(i:Int)).toNat:=by
 have hlt:=(List.getElem?_eq_some_iff.1 he).1
 rw [w64 (by omega)] at hq
 subst hq
 have hn1:((i:Int)+1).toNat=i+1:=by omega
 exact ⟨(n,l,as,ok,req,(i:Int)+1),⟨rfl,rfl,rfl,by simp only [];omega,by simp only [];omega,by simp only [hn1];exact h1,by simp only [hn1];exact h2⟩,by simp,by simp only [];omega⟩
theorem lineA_one {nn n:Int} {l:List Go.Ax.Event} {as:List Answer} {B:Bool} {i:Nat} (hl:l.length≤60) (ha:as.length≤60) {e:Go.Ax.Event} (he:l[i]? =some e) (hc:callE e=false):
  V.vLineA_1 nn (LA n l as B) (fun x=>(l.length-x.2.2.2.2.2).toNat) (n,l,as,(B&&agreesL as (l.take i)),callsL (l.take i),(i:Int)) e:=by
 have hlt:=(List.getElem?_eq_some_iff.1 he).1
 have hcs:callsL (l.take (i+1))=callsL (l.take i):=by rw [callsL_snoc he,hc];simp
 have hag:=agreesL_snoc (as:=as) he
 unfold V.vLineA_1 V.LP V.NX V.AT V.AI V.NM V.SH V.LN
 simp only [Nat.zero_add,Int.toNat_natCast,true_and,and_true]
 refine ⟨⟨by omega,by omega⟩,fun e1 he1=>?_⟩
 rw [he] at he1;cases he1
 refine br_ne (fun h3 q hq=>?_) (fun h3=>?_)
 ·have:=lineA_step (n:=n) (as:=as) (B:=B) hl he hq (ok:=(B&&agreesL as (l.take i))) (req:=callsL (l.take i)) (by rw [hag];unfold fitE;simp [h3]) hcs.symm
  simpa using this
 ·have hfit:fitE as e=((tellA as e.Task).2&&eqR (tellA as e.Task).1 e.Reply):=by unfold fitE;simp [h3]
  refine ⟨fun x=>x.1=n∧x.2.1=l∧x.2.2.1=as∧x.2.2.2.2.1=callsL (l.take i)∧x.2.2.2.2.2.1=(i:Int)∧0≤x.2.2.2.2.2.2.2∧x.2.2.2.2.2.2.2≤as.length∧((x.2.2.2.2.2.2.1=false∧x.2.2.2.1=(B&&agreesL as (l.take i))∧tellA (as.drop x.2.2.2.2.2.2.2.toNat) e.Task=tellA as e.Task)∨(x.2.2.2.2.2.2.1=true∧(tellA as e.Task).2=true∧x.2.2.2.1=((B&&agreesL as (l.take i))&&eqR (tellA as e.Task).1 e.Reply))),fun x=>(as.length-x.2.2.2.2.2.2.2).toNat,(n,l,as,(B&&agreesL as (l.take i)),callsL (l.take i),(i:Int),false,0),⟨rfl,rfl,rfl,rfl,rfl,Int.le_refl _,by simp,.inl ⟨rfl,rfl,rfl⟩⟩,by simp,?_⟩
  rintro ⟨n',l',as',ok,req,i',fd,j⟩ ⟨g1,g2,g3,g4,g5,g6,g7,g8⟩
  simp only [] at g1 g2 g3 g4 g5 g6 g7 g8
  subst g1 g2 g3 g4 g5
  obtain ⟨j,rfl⟩:=Int.eq_ofNat_of_zero_le g6
  simp only [Int.toNat_natCast] at g8 ⊢
  have hn1:((j:Int)+1).toNat=j+1:=by omega
  have fin:fd=true→ok=(B&&agreesL as' (l'.take (i+1))):=fun hfd=>by
   rcases g8 with ⟨a1,_,_⟩ |⟨_,a2,a3⟩
   ·rw [hfd] at a1;cases a1
   ·rw [hag,hfit,a2,a3,Bool.true_and,Bool.and_assoc]
  have non:fd=false→ ¬ (j:Int)<as'.length→false=(B&&agreesL as' (l'.take (i+1))):=fun hfd hj=>by
   rcases g8 with ⟨_,a2,a3⟩ |⟨a1,_,_⟩
   ·rw [List.drop_eq_nil_of_le (by omega)] at a3
    have:(tellA as' e.Task).2=false:=by rw [←a3];rfl
    rw [hag,hfit,this,Bool.false_and,Bool.and_false,Bool.and_false]
   ·rw [hfd] at a1;cases a1
  have stp: ∀ok2,ok2=(B&&agreesL as' (l'.take (i+1)))→ ∀q,q=IntKind.i64.wrap ((i:Int)+1)→_:=fun ok2 h2 q hq=>lineA_step (n:=n') (as:=as') (B:=B) hl he hq (ok:=ok2) (req:=callsL (l'.take i)) h2 hcs.symm
  refine br_dec (fun hj=>br_not (fun hfd=>⟨⟨g6,hj⟩,by omega,fun a ha1=>⟨⟨by omega,by omega⟩,fun e2 he2=>?_⟩⟩) (fun hfd=>br_bool (fun hok q hq=>?_) (fun hok q hq=>?_))) (fun hj=>br_bool (fun hok q hq=>?_) (fun hok q hq=>?_))
  ·have hfd:fd=false:=hfd
   rw [he] at he2;cases he2
   have hin: ∀ok2 fd2,((fd2=false∧ok2=(B&&agreesL as' (l'.take i))∧tellA (as'.drop (j+1)) e.Task=tellA as' e.Task)∨(fd2=true∧(tellA as' e.Task).2=true∧ok2=((B&&agreesL as' (l'.take i))&&eqR (tellA as' e.Task).1 e.Reply)))→ ∀q,q=IntKind.i64.wrap ((j:Int)+1)→q=((j:Int)+1):=fun _ _ _ q hq=>by rw [w64 (by omega)] at hq;exact hq
   rcases g8 with ⟨_,a2,a3⟩ |⟨a1,_,_⟩
   ·refine br_eq (fun ht=>br_bool (fun hok=>⟨⟨g6,hj⟩,by omega,fun a' ha2=>⟨⟨by omega,by omega⟩,fun e3 he3 q hq=>?_⟩⟩) (fun hok q hq=>?_)) (fun ht q hq=>?_)
    ·rw [ha1] at ha2;cases ha2
     rw [he] at he3;cases he3
     rw [w64 (by omega)] at hq
     subst hq
     have hh:=tellA_here ha1 ht
     rw [a3] at hh
     exact ⟨(n',l',as',eqR a.Reply e.Reply,callsL (l'.take i),(i:Int),true,(j:Int)+1),⟨rfl,rfl,rfl,rfl,rfl,by simp only [];omega,by simp only [];omega,.inr ⟨rfl,by rw [hh],by simp only [];rw [←a2,hok,hh,Bool.true_and]⟩⟩,by simp [eqR],by simp only [];omega⟩
    ·rw [w64 (by omega)] at hq
     subst hq
     have hh:=tellA_here ha1 ht
     rw [a3] at hh
     exact ⟨(n',l',as',false,callsL (l'.take i),(i:Int),true,(j:Int)+1),⟨rfl,rfl,rfl,rfl,rfl,by simp only [];omega,by simp only [];omega,.inr ⟨rfl,by rw [hh],by simp only [];rw [←a2,hok,Bool.false_and]⟩⟩,by simp,by simp only [];omega⟩
    ·rw [w64 (by omega)] at hq
     subst hq
     exact ⟨(n',l',as',ok,callsL (l'.take i),(i:Int),fd,(j:Int)+1),⟨rfl,rfl,rfl,rfl,rfl,by simp only [];omega,by simp only [];omega,.inl ⟨hfd,a2,by simp only [hn1];rw [←tellA_step ha1 ht];exact a3⟩⟩,by simp,by simp only [];omega⟩
   ·rw [hfd] at a1;cases a1
  ·have h2:=fin hfd
   have hfd:fd=true:=hfd
   subst hfd
   have:=stp true (by rw [←h2,hok]) q hq
   simpa using this
  ·have:=stp false (by rw [←fin hfd,hok]) q hq
   simpa using this
  ·rcases Bool.eq_false_or_eq_true fd with hfd |hfd
   ·have h2:=fin hfd
    subst hfd
    have:=stp true (by rw [←h2,hok]) q hq
    simpa using this
   ·have h2:=non hfd hj
    subst hfd
    have:=stp false h2 q hq
    simpa using this
  ·rcases Bool.eq_false_or_eq_true fd with hfd |hfd
   ·have:=stp false (by rw [←fin hfd,hok]) q hq
    simpa using this
   ·have:=stp false (non hfd hj) q hq
    simpa using this
theorem lineA_two {nn n:Int} {l:List Go.Ax.Event} {as:List Answer} {B:Bool} {i:Nat} (hl:l.length≤60) (ha:as.length≤60) (hi:i<l.length):
  V.vLineA_2 nn (LA n l as B) (fun x=>(l.length-x.2.2.2.2.2).toNat) (n,l,as,(B&&agreesL as (l.take i)),callsL (l.take i),(i:Int)):=by
 have hlen:(callsL (l.take i)).length≤l.length:=by
  unfold callsL
  rw [List.length_map]
  have h1:=List.length_filter_le callE (l.take i)
  have h2:=List.length_take_le' i l
  omega
 unfold V.vLineA_2 V.LP V.NX V.AT V.AI V.NM V.SH V.LN
 simp only [tk_eq,Nat.zero_add,Nat.le_refl,Int.toNat_natCast,true_and,and_true]
 have bnd:(0:Int)≤(i:Int)∧(i:Int)<(l.length:Int):=by omega
 refine ⟨bnd,fun e he=>br_eq (fun h2=>⟨bnd,fun e1 he1=>?_⟩) (fun h2=>lineA_one hl ha he (by unfold callE;simp [h2]))⟩
 rw [he] at he1;cases he1
 refine br_dec (fun h1=>⟨bnd,fun e1 he1=>?_⟩) (fun h1=>lineA_one hl ha he (by unfold callE isK;simp;omega))
 rw [he] at he1;cases he1
 refine br_dec (fun h13=>⟨bnd,fun e1 he1=>⟨by omega,bnd,fun e2 he2=>?_⟩⟩) (fun h13=>lineA_one hl ha he (by unfold callE isK;simp;omega))
 rw [he] at he1 he2;cases he1;cases he2
 have hc:callE e=true:=by unfold callE isK;simp;omega
 have hcs:callsL (l.take (i+1))=callsL (l.take i)++[e.Req]:=by rw [callsL_snoc he,hc];simp
 have hag:=agreesL_snoc (as:=as) he
 refine br_ne (fun h3 q hq=>?_) (fun h3=>by omega)
 have:=lineA_step (n:=n) (as:=as) (B:=B) hl he hq (ok:=(B&&agreesL as (l.take i))) (req:=callsL (l.take i)++[e.Req]) (by rw [hag];unfold fitE;simp [h3]) hcs.symm
 simpa using this
theorem vLineA {n:Int} {l:List Go.Ax.Event} {k:Unit→Bool × Unit→Prop} (h:oLineA (n,l,()) k):V.vLineA n l k:=by
 have hk:k () (true,()):=h
 have e60:List.drop (Int.toNat 0) (List.take (Int.toNat 60) l)=l.take 60:=rfl
 unfold V.vLineA V.LP V.SH V.LN
 simp only [e60,tk_eq,Nat.zero_add,Nat.le_refl,true_and,and_true]
 have key: ∀(L:List Go.Ax.Event),L.length≤60→1≤n∧n≤64→(∃c,Stb n.toNat c (newM n))∧(replayS n L).2=(replayMF (newM n) [] (-1) 0 L).2∧(replayS n L).2.1.length≤60:=by
  intro L hL hn
  have hs:=new_stb (n:=n.toNat) (by omega) (by omega)
  rw [Int.toNat_of_nonneg (by omega)] at hs
  have hr:=replay_stb L (as:=[]) (bad:= -1) (i:=0) hs
  have hl:=replay_len L (newCore n) [] (-1) 0
  exact ⟨⟨_,hs⟩,hr.2,by unfold replayS;simp at hl;omega⟩
 have h60:=List.length_take_le 60 l
 refine br_dec (fun hgt=>⟨⟨by omega,by omega,by omega⟩,br_dec (fun _=>hk) (fun h1=>br_dec (fun _=>hk) (fun h2=>?_))⟩) (fun hgt=>br_dec (fun _=>hk) (fun h1=>br_dec (fun _=>hk) (fun h2=>?_)))
 ·obtain ⟨⟨c0,hs⟩,heq,hlen⟩:=key (l.take 60) h60 ⟨by omega,by omega⟩
  rw [heq] at hlen
  generalize List.take 60 l=L at*
  refine ⟨⟨by omega,by omega⟩,⟨⟨_,_,hs⟩,by omega⟩,?_⟩
  have hB:agreesS n L=(decide ((replayMF (newM n) [] (-1) 0 L).2.2<0)&&agreesL (replayMF (newM n) [] (-1) 0 L).2.1 L):=by
   unfold agreesS
   rw [heq,decide_eq_true (show 1≤n by omega),decide_eq_true (show n≤64 by omega),Bool.true_and,Bool.true_and]
  generalize (replayMF (newM n) [] (-1) 0 L).2=R at*
  obtain ⟨as,bad⟩:=R
  have hlen:as.length≤60:=hlen
  refine ⟨LA n L as (decide (bad<0)),fun x=>(L.length-x.2.2.2.2.2).toNat,(n,L,as,decide (bad<0),[],0),⟨rfl,rfl,rfl,Int.le_refl _,by simp,by simp [agreesL],rfl⟩,by simp,?_⟩
  rintro ⟨n',L',as',ok,req,i⟩ ⟨g1,g2,g3,g4,g5,g6,g7⟩
  simp only [] at g1 g2 g3 g4 g5 g6 g7
  subst g1 g2 g3 g6 g7
  obtain ⟨i,rfl⟩:=Int.eq_ofNat_of_zero_le g4
  refine br_dec (fun hi=>?_) (fun hi=>?_)
  ·have hi:(i:Int)<(L'.length:Int):=hi
   exact lineA_two (by omega) hlen (by omega)
  ·have hi: ¬ (i:Int)<(L'.length:Int):=hi
   simp only [Int.toNat_natCast]
   rw [List.take_of_length_le (by omega)]
   exact lineA_end hk (by omega) hB.symm
 ·obtain ⟨⟨c0,hs⟩,heq,hlen⟩:=key l (by omega) ⟨by omega,by omega⟩
  rw [heq] at hlen
  have hL:l.length≤60:=by omega
  generalize l=L at*
  refine ⟨⟨by omega,by omega⟩,⟨⟨_,_,hs⟩,by omega⟩,?_⟩
  have hB:agreesS n L=(decide ((replayMF (newM n) [] (-1) 0 L).2.2<0)&&agreesL (replayMF (newM n) [] (-1) 0 L).2.1 L):=by
   unfold agreesS
   rw [heq,decide_eq_true (show 1≤n by omega),decide_eq_true (show n≤64 by omega),Bool.true_and,Bool.true_and]
  generalize (replayMF (newM n) [] (-1) 0 L).2=R at*
  obtain ⟨as,bad⟩:=R
  have hlen:as.length≤60:=hlen
  refine ⟨LA n L as (decide (bad<0)),fun x=>(L.length-x.2.2.2.2.2).toNat,(n,L,as,decide (bad<0),[],0),⟨rfl,rfl,rfl,Int.le_refl _,by simp,by simp [agreesL],rfl⟩,by simp,?_⟩
  rintro ⟨n',L',as',ok,req,i⟩ ⟨g1,g2,g3,g4,g5,g6,g7⟩
  simp only [] at g1 g2 g3 g4 g5 g6 g7
  subst g1 g2 g3 g6 g7
  obtain ⟨i,rfl⟩:=Int.eq_ofNat_of_zero_le g4
  refine br_dec (fun hi=>?_) (fun hi=>?_)
  ·have hi:(i:Int)<(L'.length:Int):=hi
   exact lineA_two (by omega) hlen (by omega)
  ·have hi: ¬ (i:Int)<(L'.length:Int):=hi
   simp only [Int.toNat_natCast]
   rw [List.take_of_length_le (by omega)]
   exact lineA_end hk (by omega) hB.symm
end Go.Ax.O
