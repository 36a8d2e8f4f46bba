import Derived.Test.YtbmabiedmdlinaaGreatDoorAxV9
import Derived.Test.YtbmabiedmdlinaaGreatDoorAxP6
import Derived.Test.YtbmabiedmdlinaaGreatDoorAxS9
set_option linter.all false
namespace Go.Ax.V
open Go.Ax.Sp Go.Ax.Law List Int IntKind
set_option maxRecDepth 100000
def vAdd (p:Prof) (t:Int) (u:Int) (n:Int) (k:Prof × Unit→Int × Unit→Prop):Prop:=
SH (splitL p.steps (if nowL p.steps>t then nowL p.steps else t)) fun s0=>SH (if nowL p.steps>t then nowL p.steps else t) fun s1=>SH (take (length s0) (drop 0 s0)) fun s2=>SH (↑(splitAt p.steps s1):Int) fun s3=>SH (length s0) fun s4=>SH p.steps fun s5=>SH (Prof.mk (splitL s2 u) p.ver) fun s6=>SH (↑(splitAt s2 u):Int) fun s7=>SH (decide (u<1152921504606846976)) fun s8=>SH ((StepsOK s5∧nowL s5≤s1)∧br s8 (0+s4≤s4∧(StepsOK s2∧nowL s2≤u)∧LP (List Step × Int × Int × Int × Int) (fun x=>(0=0∧n=x.2.2.1∧s3=x.2.2.2.1∧s7=x.2.2.2.2∧True)∧s6=Prof.mk x.1 x.2.1∧True) fun I m x=>SH x.2.2.2 fun s10=>SH (length (joinL x.1)) fun s11=>br (decide (s10.1<s10.2)) (AT x.1 s10.1 fun e=>NM (e.Free+x.2.2.1) fun n=>AT x.1 s10.1 fun e=>SH (set x.1 (0+toNat s10.1) (Step.mk e.At n)) fun s12=>NM (s10.1+1) fun n_1=>NX I m x fun y=>0+length x.1≤length s12∧(0=0∧x.2.2.1=y.2.2.1∧n_1=y.2.2.2.1∧s10.2=y.2.2.2.2∧True)∧Prof.mk (take (length x.1) (drop 0 s12)) x.2.1=Prof.mk y.1 y.2.1∧True) (length x.1≤1099511627776∧NM (x.2.1+1) fun n=>0+s11≤s11∧k (Prof.mk (take s11 (drop 0 (joinL x.1))) n,()) (0,()))) (LP (List Step × Int × Int × Int × Int) (fun x=>0+s4≤s4∧(0=0∧n=x.2.2.1∧s3=x.2.2.2.1∧LN s0=x.2.2.2.2∧True)∧Prof.mk s2 p.ver=Prof.mk x.1 x.2.1∧True) fun I m x=>SH x.2.2.2 fun s10=>SH (length (joinL x.1)) fun s11=>br (decide (s10.1<s10.2)) (AT x.1 s10.1 fun e=>NM (e.Free+x.2.2.1) fun n=>AT x.1 s10.1 fun e=>SH (set x.1 (0+toNat s10.1) (Step.mk e.At n)) fun s12=>NM (s10.1+1) fun n_1=>NX I m x fun y=>0+length x.1≤length s12∧(0=0∧x.2.2.1=y.2.2.1∧n_1=y.2.2.2.1∧s10.2=y.2.2.2.2∧True)∧Prof.mk (take (length x.1) (drop 0 s12)) x.2.1=Prof.mk y.1 y.2.1∧True) (length x.1≤1099511627776∧NM (x.2.1+1) fun n=>0+s11≤s11∧k (Prof.mk (take s11 (drop 0 (joinL x.1))) n,()) (0,())))) fun s9=>SH (br (decide (n>0)) (PW p∧NM (64-n) fun n_1=>br (decide (mostL s5 s1 u>n_1)) (k (p,()) (5,())) s9) s9) fun s10=>SH (k (p,()) (1,())) fun s11=>br (noneP (some p)) (k (p,()) (8,())) (br (decide (t≥u)) s11 (br (decide (u>1152921504606846976)) s11 (br (decide (n<(-64))) s11 (br (decide (n>64)) s11 (PW p∧br (decide (s1≥u)) (k (p,()) (0,())) (br (n==0) (k (p,()) (0,())) (br (decide (n<0)) (PW p∧NM (0-n) fun n_1=>br (decide (leastL s5 s1 u<n_1)) (k (p,()) (5,())) s10) s10)))))))
def vAdv (p:Prof) (t:Int) (k:Prof × Unit→Int × Unit→Prop):Prop:=
SH (↑(idxL (take (length p.steps) (drop (0:Nat) p.steps)) t):Int) fun s0=>SH p.steps fun s1=>SH (0+toNat s0+toNat (0:Int)) fun s2=>SH (toNat (LN s1)-toNat s0) fun s3=>br (noneP (some p)) (k (p,()) ((8:Int),())) (PW p∧br (decide (t<nowL s1)) (k (p,()) ((5:Int),())) (br (decide (t>1099511627776)) (k (p,()) ((5:Int),())) (PW p∧br (t==nowL s1) (k (p,()) ((0:Int),())) ((0+length s1≤length s1∧PW (Prof.mk (take (length s1) (drop (0:Nat) s1)) p.ver)∧(0≤s0∧s0≤LN s1∧0+LN s1≤LN s1)∧(((0:Int)≤0∧(0:Int)<(↑s3:Int))∧s2<length s1∧ ∀(e:Step),s1[s2]? =some e→NM (p.ver+1) fun n=>0+toNat s0+s3≤length (set s1 s2 (Step.mk t e.Free))∧k (Prof.mk (take s3 (drop (0+toNat s0) (set s1 s2 (Step.mk t e.Free)))) n,()) ((0:Int),()))∧True)∧True))))
def vAllJ (t:Jobs) (k:Unit→List Job × Unit→Prop):Prop:=
br (noneJ (some t)) (k () ([],())) (length t.jobs≤68719476736∧length t.jobs=length t.jobs∧k () (t.jobs,()))
def vAllS (n:Int) (k:Unit→Int × Unit→Prop):Prop:=
br (decide (n≤0)) (k () (0,())) (br (decide (n≥64)) (k () (18446744073709551615,())) (0≤n∧ ∀(n_1:Int),n_1=wrap .u64 (1*2^min (toNat n) 64)→ ∀(n:Int),n=wrap .u64 (n_1-1)→k () (n,())))
def vBeginC (c:Core) (j:Job) (k:Core × Unit→Unit→Prop):Prop:=
SH (takeN c.N j.Width) fun s0=>(NW c.N∧br (s0.1.2==0) ((PW c.P∧(JW c.J∧k (Core.mk (beginJ c.J j.Id (nowL c.P.steps) s0.1.1).2 s0.2 c.P c.closed,()) ())∧True)∧True) (k (Core.mk c.J s0.2 c.P c.closed,()) ()))∧True
def vBeginJ (t:Jobs) (n:Int) (m:Int) (s:Int) (k:Jobs × Unit→Int × Unit→Prop):Prop:=
SH (length t.jobs) fun s0=>SH (getJ t.jobs n).2 fun s1=>br (decide (m<0)) (k (t,()) (10,())) (br (decide (m>1099511627776)) (k (t,()) (10,())) (JW t∧br (!s1==0) (br (s1==0) False (k (t,()) (s1,()))) (NM (n-1) fun n_1=>SH (0+toNat n_1) fun s2=>AT t.jobs n_1 fun e=>1≤1∧1≤1099511627776∧br (!contains [1] e.State) (0+s0≤s0∧k (Jobs.mk (take s0 (drop 0 t.jobs)) t.live t.made,()) (8,())) (s2<s0∧ ∀(e:Job),t.jobs[s2]? =some e→NM (m+e.Limit) fun n=>s2<s0∧ ∀(e:Job),t.jobs[s2]? =some e→SH (set t.jobs s2 (Job.mk e.Id e.User e.Width e.Limit e.Prio 3 e.Start e.End e.Plan e.Nodes)) fun s3=>s2<length s3∧ ∀(e_1:Job),s3[s2]? =some e_1→SH (set s3 s2 (Job.mk e_1.Id e_1.User e_1.Width e_1.Limit e_1.Prio e_1.State m e_1.End e_1.Plan e_1.Nodes)) fun s4=>s2<length s4∧ ∀(e_2:Job),s4[s2]? =some e_2→SH (set s4 s2 (Job.mk e_2.Id e_2.User e_2.Width e_2.Limit e_2.Prio e_2.State e_2.Start n e_2.Plan e_2.Nodes)) fun s5=>s2<length s5∧ ∀(e_3:Job),s5[s2]? =some e_3→SH (set s5 s2 (Job.mk e_3.Id e_3.User e_3.Width e_3.Limit e_3.Prio e_3.State e_3.Start e_3.End (-1) e_3.Nodes)) fun s6=>s2<length s6∧ ∀(e_4:Job),s6[s2]? =some e_4→SH (set s6 s2 (Job.mk e_4.Id e_4.User e_4.Width e_4.Limit e_4.Prio e_4.State e_4.Start e_4.End e_4.Plan s)) fun s7=>0+s0≤length s7∧k (Jobs.mk (take s0 (drop 0 s7)) t.live t.made,()) (0,())))))
def vBeginsC_1 (I:Core × List Job × Int→Prop) (m:Core × List Job × Int→Nat) (x:Core × List Job × Int):Prop:=
NM (x.2.2+1) fun n=>NX I m x fun y=>(0=0∧(0=0∧length x.2.1=length y.2.1)∧LN x.2.1=LN y.2.1∧n=y.2.2∧True)∧x.1=y.1∧x.2.1=y.2.1∧True
def vBeginsC (c:Core) (k:Core × Unit→Unit→Prop):Prop:=
SH (sortJ (inJ c.J.jobs [1])) fun s0=>JW c.J∧LP (Core × List Job × Int) (fun x=>(0=0∧(0=0∧length s0=length x.2.1)∧LN s0=LN x.2.1∧0=x.2.2∧True)∧c=x.1∧s0=x.2.1∧True) fun I m x=>br (decide (x.2.2<LN x.2.1)) (AT x.2.1 x.2.2 fun e=>br (decide (e.Plan≥0)) ((PW x.1.P∧br (decide (e.Plan≤nowL x.1.P.steps)) (CW x.1∧NM (x.2.2+1) fun n=>NX I m x fun y=>(0=0∧(0=0∧length x.2.1=length y.2.1)∧LN x.2.1=LN y.2.1∧n=y.2.2∧True)∧beginC x.1 e=y.1∧x.2.1=y.2.1∧True) (vBeginsC_1 I m x))∧True) (vBeginsC_1 I m x∧True)) (k (x.1,()) ())
def vBin (l:List Step) (t:Int) (k:Unit→Int × Bool × Unit→Prop):Prop:=
LP (List Step × Int × Int × Int) (fun x=>(l=x.1∧t=x.2.1∧True∧LN l=LN x.1∧0=x.2.2.1∧LN l=x.2.2.2∧True)∧True) fun I m x=>SH x.2.2.1 fun s0=>br (decide (s0<x.2.2.2)) (NM (s0+x.2.2.2) fun n=> ∀(n_1:Int),n_1=wrap .u64 n→(0:Int)≤1∧ ∀(n:Int),n=fdiv n_1 ((2:Int)^min (toNat (1:Int)) (64:Nat))→NM n fun n_2=>AI x.1 n_2 fun e=>br (decide (cmpS e.At x.2.1<0)) (NM (n_2+1) fun n=>NX I m x fun y=>(x.1=y.1∧x.2.1=y.2.1∧True∧LN x.1=LN y.1∧n=y.2.2.1∧x.2.2.2=y.2.2.2∧True)∧True) (NX I m x fun y=>(x.1=y.1∧x.2.1=y.2.1∧True∧LN x.1=LN y.1∧s0=y.2.2.1∧n_2=y.2.2.2∧True)∧True)) (br (decide (s0<LN x.1)) (AI x.1 s0 fun e=>k () (s0,cmpS e.At x.2.1==0,())) (k () (s0,false,())))
def vCleanR_1 (r:Req) (k:Unit→Req × Unit→Prop):Prop:=
SH (Req.mk r.Kind 0 0 0 0 0 false r.Node 0,()) fun s0=>SH (Req.mk r.Kind 0 0 0 0 0 false 0 r.By,()) fun s1=>SH (Req.mk r.Kind 0 0 0 0 0 false 0 0,()) fun s2=>br (r.Kind==7) (br (r.Kind==7) (k () s0) (br (r.Kind==9) (k () s1) (k () s2))) (br (r.Kind==8) (k () s0) (br (r.Kind==9) (k () s1) (k () s2)))
def vCleanR (r:Req) (k:Unit→Req × Unit→Prop):Prop:=
SH (Req.mk r.Kind r.Id 0 0 0 0 false 0 0,()) fun s0=>SH (vCleanR_1 r k) fun s1=>br (r.Kind==1) (((((k () (Req.mk r.Kind 0 r.User r.Width r.Limit r.Prio r.Held 0 0,())∧True)∧True)∧True)∧True)∧True) (br (r.Kind==2) (br (r.Kind==2) (k () s0) s1) (br (r.Kind==3) (br (r.Kind==3) (k () s0) s1) (br (r.Kind==4) (br (r.Kind==4) (k () s0) s1) (br (r.Kind==5) (br (r.Kind==5) (k () s0) s1) (br (r.Kind==6) (k () s0) s1)))))
def vCloneB (l:List Job) (k:Unit→List Job × Unit→Prop):Prop:=
∀(b:Bool),(0<length l→b=false)→br b (k () ([],())) (0≤0∧0+length l≤68719476736∧0+length l=length ([]++l)∧k () ([]++l,()))
def vCloneT (l:List Step) (k:Unit→List Step × Unit→Prop):Prop:=
∀(b:Bool),(0<length l→b=false)→br b (k () ([],())) (0≤0∧0+length l≤68719476736∧0+length l=length ([]++l)∧k () ([]++l,()))
def vClosedC (c:Core) (k:Unit→Bool × Unit→Prop):Prop:=
k () (c.closed,())
def vClosedCN (k:Unit→Bool × Unit→Prop):Prop:=
k () (true,())
def vCmpB (a:Job) (b:Job) (k:Unit→Int × Unit→Prop):Prop:=
SH [cmpI b.Prio a.Prio,cmpI a.Id b.Id] fun s0=>((((2≤length s0∧length s0≤1099511627776∧k () (orI s0,()))∧True)∧True)∧True)∧True
def vCmpI (n:Int) (m:Int) (k:Unit→Int × Unit→Prop):Prop:=
br (decide (n<m)) (k () ((-1),())) (br (decide (n>m)) (k () (1,())) (k () (0,())))
def vCmpS (s:Step) (t:Int) (k:Unit→Int × Unit→Prop):Prop:=
br (decide (s.At<t)) (k () ((-1),())) (br (decide (s.At>t)) (k () (1,())) (k () (0,())))
def vCompact (l:List Step) (k:Unit→List Step × Unit→Prop):Prop:=
br (decide (LN l<2)) (0+length l≤length l∧k () (take (length l) (drop (0:Nat) l),())) (LP (List Step × Int) (fun x=>(((0:Nat)=0∧length l=length x.1)∧True∧1=x.2∧True)∧l=x.1∧True) fun I m x=>SH (length x.1) fun s0=>br (decide (x.2<LN x.1)) (AT x.1 x.2 fun e=>NM (x.2-1) fun n=>AT x.1 n fun e_1=>br (decide (e.Free=e_1.Free)) ((0≤x.2∧x.2≤LN x.1∧0+LN x.1≤LN x.1)∧LP (List Step × Int × Nat × Nat × Int) (fun x_1=>(((0:Nat)=0∧s0=length x_1.1)∧True∧x.2=x_1.2.1∧(0+toNat x.2=x_1.2.2.1∧toNat (LN x.1)-toNat x.2=x_1.2.2.2.1)∧1=x_1.2.2.2.2∧True)∧x.1=x_1.1∧True) fun I m x=>SH (toNat x.2.1) fun s1=>SH x.2.2.2 fun s2=>SH (take (0+s1) x.1++(replicate (toNat (LN x.1)-s1) (Step.mk (0:Int) (0:Int))++drop (0+s1+(toNat (LN x.1)-s1)) x.1)) fun s3=>SH (length x.1) fun s4=>SH (x.2.2.1+toNat s2.2) fun s5=>br (decide (s2.2<(↑s2.1:Int))) ((0≤s2.2∧s2.2<(↑s2.1:Int))∧s5<s4∧ ∀(e:Step),x.1[s5]? =some e→NM (s2.2-1) fun n=>(0≤n∧n<(↑s2.1:Int))∧x.2.2.1+toNat n<s4∧ ∀(e_2:Step),x.1[x.2.2.1+toNat n]? =some e_2→br (!decide (e.Free=e_2.Free)) ((0≤s2.2∧s2.2<(↑s2.1:Int))∧s5<s4∧ ∀(e:Step),x.1[s5]? =some e→AT x.1 x.2.1 fun e_3=>NM (x.2.1+1) fun n=>NM (s2.2+1) fun n_1=>NX I m x fun y=>(((0:Nat)=0∧s4=length y.1)∧True∧n=y.2.1∧(x.2.2.1=y.2.2.1∧s2.1=y.2.2.2.1)∧n_1=y.2.2.2.2∧True)∧set x.1 (0+s1) e=y.1∧True) (NM (s2.2+1) fun n=>NX I m x fun y=>(((0:Nat)=0∧s4=length y.1)∧True∧x.2.1=y.2.1∧(x.2.2.1=y.2.2.1∧s2.1=y.2.2.2.1)∧n=y.2.2.2.2∧True)∧x.1=y.1∧True)∧True) ((0≤x.2.1∧x.2.1≤LN x.1∧0+LN x.1≤LN x.1)∧0+s1+(toNat (LN x.1)-s1)≤s4∧((0:Int)≤0∧0≤x.2.1∧0+x.2.1≤LN (take (0+s1) x.1++(replicate (toNat (↑s4:Int)-s1) (Step.mk (0:Int) (0:Int))++drop (0+s1+(toNat (↑s4:Int)-s1)) x.1)))∧0+toNat (0:Int)+(s1-toNat (0:Int))≤length s3∧k () (take (s1-toNat (0:Int)) (drop (0+toNat (0:Int)) s3),()))) (NM (x.2+1) fun n=>NX I m x fun y=>(((0:Nat)=0∧s0=length y.1)∧True∧n=y.2∧True)∧x.1=y.1∧True)∧True) (0+s0≤s0∧k () (take s0 (drop (0:Nat) x.1),())))
def vConI (l:List Int) (n:Int) (k:Unit→Bool × Unit→Prop):Prop:=
length l≤1099511627776∧k () (decide (idxI l n≥0),())
def vCopyJ (t:Jobs) (k:Unit→Option Jobs × Unit→Prop):Prop:=
br (noneJ (some t)) (k () (none,())) ((JW t∧(0+length t.jobs≤length t.jobs∧k () (some (Jobs.mk (take (length t.jobs) (drop 0 t.jobs)) t.live true),()))∧True)∧True)
def vCopyN (t:Nodes) (k:Unit→Option Nodes × Unit→Prop):Prop:=
br (noneN (some t)) (k () (none,())) (k () (some t,()))
def vCountW (w:Work) (c:Core) (k:Work × Core × Unit→Unit→Prop):Prop:=
br (w.req.Kind==10) (NW c.N∧k (endW w (Reply.mk 0 0 0 0 0 0 (lenS (idleN c.N)) (lenS c.N.used) (lenS (minusS c.N.drain c.N.used))),c,()) ()) (br (w.req.Kind==11) (JW c.J∧k (endW w (Reply.mk 0 0 0 0 0 0 (cntJ c.J.jobs 1) (cntJ c.J.jobs 2) (cntJ c.J.jobs 3)),c,()) ()) (br (w.req.Kind==12) ((PW c.P∧(PW c.P∧(PW c.P∧k (endW w (Reply.mk 0 0 0 (nowL c.P.steps) 0 0 (freeL c.P.steps (nowL c.P.steps)) 0 0),c,()) ()∧True)∧True)∧True)∧True) (br (w.req.Kind==13) (k (endW w (Reply.mk 0 0 0 0 0 0 0 0 0),Core.mk c.J c.N c.P true,()) ()) (k (failW w 4,c,()) ()))))
def vCountsJ (t:Jobs) (k:Unit→Int × Int × Int × Unit→Prop):Prop:=
1≤1∧(JW t∧1≤1000)∧1≤1∧(JW t∧1≤1000)∧1≤1∧(JW t∧1≤1000)∧k () (LN (inJ t.jobs [1]),LN (inJ t.jobs [2]),LN (inJ t.jobs [3]),())
def vCountsN (t:Nodes) (k:Unit→Int × Int × Int × Unit→Prop):Prop:=
br (noneN (some t)) (k () (0,0,0,())) (∀(n:Int),n=landnI IntKind.u64 t.drain t.used→(NW t∧(U64 (idleN t)∧(U64 t.used∧(U64 n∧k () (lenS (idleN t),lenS t.used,lenS n,()))∧True)∧True)∧True)∧True)
def vDoneW (w:Work) (k:Unit→Bool × Unit→Prop):Prop:=
k () (w.done,())
def vDoneWN (k:Unit→Bool × Unit→Prop):Prop:=
k () (true,())
def vDrainN (t:Nodes) (n:Int) (k:Nodes × Unit→Int × Unit→Prop):Prop:=
br (noneN (some t)) (k (t,()) (8,())) (U64 t.all∧br (!hasB t.all n) (k (t,()) (11,())) (U64 t.drain∧br (hasB t.drain n) (k (t,()) (8,())) (U64 t.drain∧k (Nodes.mk t.all t.used (withS t.drain n),()) (0,()))))
def vDrainW (w:Work) (c:Core) (k:Work × Core × Unit→Unit→Prop):Prop:=
SH (dropW w c).2 fun s0=>SH (endW s0.1 (Reply.mk 0 s0.1.req.Node (stateN (drainN s0.2.N s0.1.req.Node).2 s0.1.req.Node) 0 0 0 0 0 0),Core.mk s0.2.J (drainN s0.2.N s0.1.req.Node).2 (addP s0.2.P (untilC (Core.mk s0.2.J (drainN s0.2.N s0.1.req.Node).2 s0.2.P s0.2.closed) s0.1.req.Node) 1152921504606846976 (-1)).2 s0.2.closed,()) fun s1=>SH (drainN s0.2.N s0.1.req.Node).2 fun s2=>SH (stateN c.N w.req.Node) fun s3=>SH (Core.mk s0.2.J s2 s0.2.P s0.2.closed) fun s4=>SH (length s0.2.P.steps) fun s5=>SH (length c.P.steps) fun s6=>SH (s0.1,s0.2,()) fun s7=>SH ((CW c∧WW w∧s6≤4294967280)∧br (dropW w c).1 (k s7 ()) ((NW s0.2.N∧(CW s4∧((PW s0.2.P∧s5≤4294967290)∧(NW s2∧k s1 ()∧True)∧True)∧True)∧True)∧True)) fun s8=>br (w.part==0) ((NW c.N∧br (s3==0) (k (failW w 11,c,()) ()) (br (s3==3) (br (s3==3) (k (failW w 8,c,()) ()) s8) (br (s3==4) (k (failW w 8,c,()) ()) s8)))∧True) s8
def vDropW (w:Work) (c:Core) (k:Work × Core × Unit→Bool × Unit→Prop):Prop:=
SH (inJ c.J.jobs [1]) fun s0=>1≤1∧(JW c.J∧1≤1000)∧LP (Work × Core × List Job × Int) (fun x=>(0=0∧0=0∧(0=0∧length s0=length x.2.2.1)∧LN s0=LN x.2.2.1∧0=x.2.2.2∧True)∧w=x.1∧c=x.2.1∧s0=x.2.2.1∧True) fun I m x=>SH x.2.1.J fun s1=>SH x.2.2.1 fun s2=>SH (NM (x.2.2.2+1) fun n=>NX I m x fun y=>(0=0∧0=0∧(0=0∧length s2=length y.2.2.1)∧LN s2=LN y.2.2.1∧n=y.2.2.2∧True)∧x.1=y.1∧x.2.1=y.2.1∧s2=y.2.2.1∧True) fun s3=>SH (PW x.2.1.P∧length x.2.1.P.steps≤4294967290) fun s4=>br (decide (x.2.2.2<LN s2)) (AT s2 x.2.2.2 fun e=>SH (x.1,Core.mk (Jobs.mk (atJ s1.jobs e.Id [1] fun j=>Job.mk j.Id j.User j.Width j.Limit j.Prio j.State j.Start j.End (-1) j.Nodes).2 s1.live s1.made) x.2.1.N (addP x.2.1.P (planS e).1.From (planS e).1.To (planS e).1.Width).2 x.2.1.closed,()) fun s5=>SH ((s4∧(JW s1∧k s5 (true,()))∧True)∧True) fun s6=>br (!(planS e).2) (s3∧True) (br (!x.1.job.Id==0) (br (!lessJ x.1.job e) s3 s6∧True) (s6∧True))) (k (Work.mk x.1.req x.1.choice x.1.commit x.1.reply x.1.part (!x.1.job.Id==0) x.1.ok x.1.job x.1.back x.1.to,x.2.1,()) (false,()))
def vEndW (w:Work) (r:Reply) (k:Work × Unit→Unit→Prop):Prop:=
k (Work.mk w.req w.choice w.commit r w.part true w.ok w.job w.back w.to,()) ()
def vFailR (e:Int) (k:Unit→Reply × Unit→Prop):Prop:=
k () (Reply.mk e 0 0 0 0 0 0 0 0,())
def vFailW (w:Work) (e:Int) (k:Work × Unit→Unit→Prop):Prop:=
k (endW w (Reply.mk e 0 0 0 0 0 0 0 0),()) ()
def vFinJ (t:Jobs) (n:Int) (s:Int) (m:Int) (k:Jobs × Unit→Int × Unit→Prop):Prop:=
SH (length t.jobs) fun s0=>SH (getJ t.jobs n).2 fun s1=>SH (Jobs.mk (take s0 (drop 0 t.jobs)) t.live t.made,()) fun s2=>SH (t.live-1) fun s3=>SH (br (!s1==0) (k (t,()) (s1,())) False) fun s4=>br (decide (s<4)) (k (t,()) (1,())) (br (decide (s>6)) (k (t,()) (1,())) (br (decide (m<0)) (k (t,()) (10,())) (br (decide (m>2199023255552)) (k (t,()) (10,())) (br (s==5) (2≤2∧1≤1∧3≤68719476736∧JW t∧br (!s1==0) s4 (NM (n-1) fun n_1=>SH (0+toNat n_1) fun s5=>SH t.jobs[s5]? fun s6=>AT t.jobs n_1 fun e=>3≤3∧3≤1099511627776∧br (!contains [3,1,2] e.State) (0+s0≤s0∧k s2 (8,())) (s5<s0∧ ∀(e:Job),s6=some e→br (e.State==3) (s5<s0∧ ∀(e:Job),s6=some e→SH (set t.jobs s5 (Job.mk e.Id e.User e.Width e.Limit e.Prio e.State e.Start m e.Plan e.Nodes)) fun s7=>s5<length s7∧ ∀(e_1:Job),s7[s5]? =some e_1→SH (set s7 s5 (Job.mk e_1.Id e_1.User e_1.Width e_1.Limit e_1.Prio s e_1.Start e_1.End e_1.Plan e_1.Nodes)) fun s8=>s5<length s8∧ ∀(e_2:Job),s8[s5]? =some e_2→SH (set s8 s5 (Job.mk e_2.Id e_2.User e_2.Width e_2.Limit e_2.Prio e_2.State e_2.Start e_2.End (-1) e_2.Nodes)) fun s9=>NM s3 fun n=>0+s0≤length s9∧k (Jobs.mk (take s0 (drop 0 s9)) n t.made,()) (0,())) (s5<s0∧ ∀(e:Job),s6=some e→SH (set t.jobs s5 (Job.mk e.Id e.User e.Width e.Limit e.Prio s e.Start e.End e.Plan e.Nodes)) fun s7=>s5<length s7∧ ∀(e_1:Job),s7[s5]? =some e_1→SH (set s7 s5 (Job.mk e_1.Id e_1.User e_1.Width e_1.Limit e_1.Prio e_1.State e_1.Start e_1.End (-1) e_1.Nodes)) fun s8=>NM s3 fun n=>0+s0≤length s8∧k (Jobs.mk (take s0 (drop 0 s8)) n t.made,()) (0,()))))) (JW t∧br (!s1==0) s4 (NM (n-1) fun n_1=>SH (0+toNat n_1) fun s5=>SH t.jobs[s5]? fun s6=>AT t.jobs n_1 fun e=>1≤1∧1≤1099511627776∧br (!contains [3] e.State) (0+s0≤s0∧k s2 (8,())) (s5<s0∧ ∀(e:Job),s6=some e→br (e.State==3) (s5<s0∧ ∀(e:Job),s6=some e→SH (set t.jobs s5 (Job.mk e.Id e.User e.Width e.Limit e.Prio e.State e.Start m e.Plan e.Nodes)) fun s7=>s5<length s7∧ ∀(e_1:Job),s7[s5]? =some e_1→SH (set s7 s5 (Job.mk e_1.Id e_1.User e_1.Width e_1.Limit e_1.Prio s e_1.Start e_1.End e_1.Plan e_1.Nodes)) fun s8=>s5<length s8∧ ∀(e_2:Job),s8[s5]? =some e_2→SH (set s8 s5 (Job.mk e_2.Id e_2.User e_2.Width e_2.Limit e_2.Prio e_2.State e_2.Start e_2.End (-1) e_2.Nodes)) fun s9=>NM s3 fun n=>0+s0≤length s9∧k (Jobs.mk (take s0 (drop 0 s9)) n t.made,()) (0,())) (s5<s0∧ ∀(e:Job),s6=some e→SH (set t.jobs s5 (Job.mk e.Id e.User e.Width e.Limit e.Prio s e.Start e.End e.Plan e.Nodes)) fun s7=>s5<length s7∧ ∀(e_1:Job),s7[s5]? =some e_1→SH (set s7 s5 (Job.mk e_1.Id e_1.User e_1.Width e_1.Limit e_1.Prio e_1.State e_1.Start e_1.End (-1) e_1.Nodes)) fun s8=>NM s3 fun n=>0+s0≤length s8∧k (Jobs.mk (take s0 (drop 0 s8)) n t.made,()) (0,())))))))))
def vFinW (w:Work) (c:Core) (k:Work × Core × Unit→Unit→Prop):Prop:=
SH (finishJ c.J w.req.Id 4 (nowL c.P.steps)) fun s0=>SH (finishJ c.J w.req.Id 5 (nowL c.P.steps)) fun s1=>SH (Work.mk w.req w.choice w.commit w.reply w.part true w.ok w.job w.back w.to) fun s2=>SH (unplanC w c) fun s3=>SH (Work.mk w.req w.choice w.commit w.reply w.part w.done w.ok (getJ c.J.jobs w.req.Id).1 w.back w.to) fun s4=>SH c.closed fun s5=>SH (Core.mk s0.2 c.N c.P s5) fun s6=>SH (Core.mk s1.2 c.N c.P s5) fun s7=>br (w.part==0) (br (w.req.Kind==2) ((JW c.J∧((PW c.P∧(JW c.J∧br (!s1.1==0) (k (failW s4 s1.1,s7,()) ()) (CW s7∧k (Work.mk w.req w.choice w.commit (toldC s7 w.req.Id) w.part w.done w.ok (getJ c.J.jobs w.req.Id).1 w.back w.to,s7,()) ()))∧True)∧True)∧True)∧True) ((JW c.J∧((PW c.P∧(JW c.J∧br (!s0.1==0) (k (failW s4 s0.1,s6,()) ()) (CW s6∧k (Work.mk w.req w.choice w.commit (toldC s6 w.req.Id) w.part w.done w.ok (getJ c.J.jobs w.req.Id).1 w.back w.to,s6,()) ()))∧True)∧True)∧True)∧True)) (br (w.part==1) (br (w.job.State==3) (((NW c.N∧U64 w.job.Nodes)∧k (Work.mk w.req w.choice w.commit w.reply w.part w.done w.ok w.job (giveN c.N w.job.Nodes).1.1 w.to,Core.mk c.J (giveN c.N w.job.Nodes).2 c.P s5,()) ()∧True)∧True) (k (w,c,()) ())) ((CW c∧WW w∧length c.P.steps≤4294967280)∧br (w.job.State==3) (br (decide (w.back>0)) ((PW s3.P∧((PW s3.P∧length s3.P.steps≤4294967290)∧k (s2,Core.mk s3.J s3.N (addP s3.P (nowL s3.P.steps) w.job.End w.back).2 s3.closed,()) ())∧True)∧True) (k (s2,s3,()) ())) (k (s2,s3,()) ())))
def vFirst (x:Int) (n:Int) (k:Unit→Int × Bool × Unit→Prop):Prop:=
br (decide (n<0)) (k () (0,false,())) (U64 x∧br (decide (n>lenS x)) (k () (0,false,())) (LP (Int × Int × Int × Int) (fun x_1=>(x=x_1.1∧0=x_1.2.1∧n=x_1.2.2.1∧0=x_1.2.2.2∧True)∧True) fun I m x=>br (decide (x.2.2.2<x.2.2.1)) (U64 x.1∧U64 x.2.1∧U64 x.1∧NM (x.2.2.2+1) fun n=>NX I m x fun y=>(withoutS x.1 (lowS x.1)=y.1∧withS x.2.1 (lowS x.1)=y.2.1∧x.2.2.1=y.2.2.1∧n=y.2.2.2∧True)∧True) (k () (x.2.1,true,()))))
def vFitsC (c:Core) (x:Choice) (k:Unit→Bool × Unit→Prop):Prop:=
SH (getJ c.J.jobs x.Id).1 fun s0=>SH (addP c.P (planS s0).1.From (planS s0).1.To (planS s0).1.Width).2 fun s1=>SH (x.At+s0.Limit) fun s2=>SH c.P.steps fun s3=>SH s0.Width fun s4=>SH (!(getJ c.J.jobs x.Id).2==0) fun s5=>SH (SH (br (planS s0).2 (PW c.P∧(PW c.P∧length s3≤4294967290)∧NM s2 fun n=>(PW s1∧k () (decide (leastL s1.steps x.At n≥s4),()))∧True) (NM s2 fun n=>(PW c.P∧k () (decide (leastL s3 x.At n≥s4),()))∧True)) fun s7=>SH (k () (false,())) fun s8=>br s5 (s8∧True) (br (!s0.State==1) (s8∧True) ((PW c.P∧br (decide (x.At<nowL s3)) s8 (br (decide (x.At>1099511627776)) s8 (br (decide (s0.Plan≥0)) (br (decide (x.At≥s0.Plan)) s8 s7) s7)))∧True))∧True) fun s6=>br (closedC (some c)) (k () (false,())) ((JW c.J∧s6∧True)∧((JW c.J∧s6)∧True)∧True)
def vFreeJ (t:Jobs) (n:Int) (k:Jobs × Unit→Int × Unit→Prop):Prop:=
SH (length t.jobs) fun s0=>SH (getJ t.jobs n).2 fun s1=>JW t∧br (!s1==0) (br (s1==0) False (k (t,()) (s1,()))) (NM (n-1) fun n_1=>SH (0+toNat n_1) fun s2=>AT t.jobs n_1 fun e=>1≤1∧1≤1099511627776∧br (!contains [2] e.State) (0+s0≤s0∧k (Jobs.mk (take s0 (drop 0 t.jobs)) t.live t.made,()) (8,())) (s2<s0∧ ∀(e:Job),t.jobs[s2]? =some e→SH (set t.jobs s2 (Job.mk e.Id e.User e.Width e.Limit e.Prio 1 e.Start e.End e.Plan e.Nodes)) fun s3=>0+s0≤length s3∧k (Jobs.mk (take s0 (drop 0 s3)) t.live t.made,()) (0,())))
def vFreeP (p:Prof) (t:Int) (k:Unit→Int × Unit→Prop):Prop:=
br (noneP (some p)) (k () (0,())) ((PW p∧AI p.steps (↑(idxL p.steps t):Int) fun e=>k () (e.Free,()))∧True)
def vFreeW (w:Work) (c:Core) (k:Work × Core × Unit→Unit→Prop):Prop:=
SH (atJ c.J.jobs w.req.Id [2] fun j=>Job.mk j.Id j.User j.Width j.Limit j.Prio 1 j.Start j.End j.Plan j.Nodes) fun s0=>SH (Core.mk (Jobs.mk s0.2 c.J.live c.J.made) c.N c.P c.closed) fun s1=>br (decide (w.part>0)) ((CW c∧WW w∧length c.P.steps≤4294967280)∧k ((dropW w c).2.1,(dropW w c).2.2,()) ()) ((JW c.J∧br (!s0.1==0) (k (failW w s0.1,s1,()) ()) ((JW (Jobs.mk s0.2 c.J.live c.J.made)∧(CW s1∧k (Work.mk w.req w.choice w.commit (toldC s1 w.req.Id) w.part w.done w.ok (getJ s0.2 w.req.Id).1 w.back w.to,s1,()) ())∧True)∧True))∧True)
def vGetJ (t:Jobs) (n:Int) (k:Unit→Job × Int × Unit→Prop):Prop:=
SH (Job.mk 0 0 0 0 0 0 0 0 0 0) fun s0=>br (noneJ (some t)) (k () (s0,8,())) (br (decide (n<1)) (k () (s0,7,())) (br (decide (n>LN t.jobs)) (k () (s0,7,())) (NM (n-1) fun n_1=>AI t.jobs n_1 fun e=>k () (e,0,()))))
def vGiveN (t:Nodes) (s:Int) (k:Nodes × Unit→Int × Int × Unit→Prop):Prop:=
br (noneN (some t)) (k (t,()) (0,8,())) (∀(n:Int),n=landnI IntKind.u64 s t.used→br (!n==0) (k (t,()) (0,11,())) (∀(n:Int),n=landnI IntKind.u64 t.used s→ ∀(n_1:Int),n_1=landnI IntKind.u64 s t.drain→U64 n_1∧k (Nodes.mk t.all n t.drain,()) (lenS n_1,0,())))
def vHas (x:Int) (n:Int) (k:Unit→Bool × Unit→Prop):Prop:=
br (decide (n≥0)) (br (decide (n<64)) (0≤n∧ ∀(n_1:Int),n_1=fdiv x (2^min (toNat n) 64)→ ∀(n:Int),n=landI IntKind.u64 n_1 1→k () (n==1,())) (k () (false,()))) (k () (false,()))
def vHoldJ (t:Jobs) (n:Int) (k:Jobs × Unit→Int × Unit→Prop):Prop:=
SH (length t.jobs) fun s0=>SH (getJ t.jobs n).2 fun s1=>JW t∧br (!s1==0) (br (s1==0) False (k (t,()) (s1,()))) (NM (n-1) fun n_1=>SH (0+toNat n_1) fun s2=>AT t.jobs n_1 fun e=>1≤1∧1≤1099511627776∧br (!contains [1] e.State) (0+s0≤s0∧k (Jobs.mk (take s0 (drop 0 t.jobs)) t.live t.made,()) (8,())) (s2<s0∧ ∀(e:Job),t.jobs[s2]? =some e→SH (set t.jobs s2 (Job.mk e.Id e.User e.Width e.Limit e.Prio 2 e.Start e.End e.Plan e.Nodes)) fun s3=>s2<length s3∧ ∀(e_1:Job),s3[s2]? =some e_1→SH (set s3 s2 (Job.mk e_1.Id e_1.User e_1.Width e_1.Limit e_1.Prio e_1.State e_1.Start e_1.End (-1) e_1.Nodes)) fun s4=>0+s0≤length s4∧k (Jobs.mk (take s0 (drop 0 s4)) t.live t.made,()) (0,())))
def vHoldW (w:Work) (c:Core) (k:Work × Core × Unit→Unit→Prop):Prop:=
SH (atJ c.J.jobs w.req.Id [1] fun j=>Job.mk j.Id j.User j.Width j.Limit j.Prio 2 j.Start j.End (-1) j.Nodes) fun s0=>SH (Core.mk (Jobs.mk s0.2 c.J.live c.J.made) c.N c.P c.closed) fun s1=>br (decide (w.part>0)) ((CW c∧WW w∧length c.P.steps≤4294967280)∧k (Work.mk w.req w.choice w.commit w.reply w.part true w.ok w.job w.back w.to,unplanC w c,()) ()) ((JW c.J∧((JW c.J∧br (!s0.1==0) (k (failW (Work.mk w.req w.choice w.commit w.reply w.part w.done w.ok (getJ c.J.jobs w.req.Id).1 w.back w.to) s0.1,s1,()) ()) (CW s1∧k (Work.mk w.req w.choice w.commit (toldC s1 w.req.Id) w.part w.done w.ok (getJ c.J.jobs w.req.Id).1 w.back w.to,s1,()) ()))∧True)∧True)∧True)
def vHolderC (c:Core) (n:Int) (k:Unit→Job × Unit→Prop):Prop:=
SH (inJ c.J.jobs [(3:Int)]) fun s0=>SH ((0:Int)=0∧(0:Int)=0∧(0:Int)=0∧(0:Int)=0∧(0:Int)=0∧(0:Int)=0∧(0:Int)=0∧(0:Int)=0∧(0:Int)=0∧(0:Int)=0∧True) fun s1=>1≤1∧(JW c.J∧(1:Nat)≤1000)∧LP (List Job × Int × Int) (fun x=>(n=x.2.1∧(0:Nat)=0∧((0:Nat)=0∧length s0=length x.1)∧LN s0=LN x.1∧0=x.2.2∧True)∧s1∧s0=x.1∧True) fun I m x=>br (decide (x.2.2<LN x.1)) (AT x.1 x.2.2 fun e=>U64 e.Nodes∧br (hasB e.Nodes x.2.1) (k () (e,())) (NM (x.2.2+1) fun n=>NX I m x fun y=>(x.2.1=y.2.1∧(0:Nat)=0∧((0:Nat)=0∧length x.1=length y.1)∧LN x.1=LN y.1∧n=y.2.2∧True)∧s1∧x.1=y.1∧True)) (k () (Job.mk (0:Int) (0:Int) (0:Int) (0:Int) (0:Int) (0:Int) (0:Int) (0:Int) (0:Int) (0:Int),()))
def vIdleI (t:Nodes) (k:Unit→Int × Unit→Prop):Prop:=
∀(n:Int),n=landnI IntKind.u64 t.all t.used→ ∀(n_1:Int),n_1=landnI IntKind.u64 n t.drain→k () (n_1,())
def vIdleN (t:Nodes) (k:Unit→Int × Unit→Prop):Prop:=
br (noneN (some t)) (k () (0,())) (NW t∧k () (idleN t,()))
def vIdxI (l:List Int) (n:Int) (k:Unit→Int × Unit→Prop):Prop:=
LP (List Int × Int × Int) (fun x=>(l=x.1∧n=x.2.1∧LN l=LN x.1∧0=x.2.2∧True)∧True) fun I m x=>br (decide (x.2.2<LN x.1)) (AI x.1 x.2.2 fun e=>br (x.2.1==e) (k () (x.2.2,())) (NM (x.2.2+1) fun n=>NX I m x fun y=>(x.1=y.1∧x.2.1=y.2.1∧LN x.1=LN y.1∧n=y.2.2∧True)∧True)) (k () ((-1),()))
def vInJ (t:Jobs) (l:List Int) (k:Unit→List Job × Unit→Prop):Prop:=
JW t∧LP (List Int × List Job × List Job × Int) (fun x=>(l=x.1∧(0=0∧0=length x.2.2.1)∧(0=0∧length t.jobs=length x.2.1)∧LN t.jobs=LN x.2.1∧0=x.2.2.2∧True)∧t.jobs=x.2.1∧[]=x.2.2.1∧True) fun I m x=>SH (length x.2.2.1) fun s0=>br (decide (x.2.2.2<LN x.2.1)) (AT x.2.1 x.2.2.2 fun e=>length x.1≤1099511627776∧br (contains x.1 e.State) (1≤1∧0+s0≤s0∧s0+1≤68719476736∧NM (x.2.2.2+1) fun n=>NX I m x fun y=>(x.1=y.1∧(0=0∧s0+1=length y.2.2.1)∧(0=0∧length x.2.1=length y.2.1)∧LN x.2.1=LN y.2.1∧n=y.2.2.2∧True)∧x.2.1=y.2.1∧take s0 (drop 0 x.2.2.1)++[e]=y.2.2.1∧True) (NM (x.2.2.2+1) fun n=>NX I m x fun y=>(x.1=y.1∧(0=0∧s0=length y.2.2.1)∧(0=0∧length x.2.1=length y.2.1)∧LN x.2.1=LN y.2.1∧n=y.2.2.2∧True)∧x.2.1=y.2.1∧x.2.2.1=y.2.2.1∧True)) (s0=s0∧k () (x.2.2.1,()))
def vIndex (p:Prof) (t:Int) (k:Unit→Int × Unit→Prop):Prop:=
SH (↑(aheadL p.steps t):Int) fun s0=>(Rising p.steps∧length p.steps≤1099511627776)∧br (!any p.steps fun s=>decide (s.At=t)) (NM (s0-1) fun n=>k () (if 0>n then 0 else n,())) (k () (if 0>s0 then 0 else s0,()))
def vInsT (l:List Step) (i:Int) (s:List Step) (k:List Step × Unit→List Step × Unit→Prop):Prop:=
SH (toNat (0:Int)) fun s0=>SH (toNat i) fun s1=>SH (take (length s) (drop (0:Nat) s)) fun s2=>SH (length s) fun s3=>SH (0+s0+s1) fun s4=>SH (length l) fun s5=>SH (toNat (LN l)-s1) fun s6=>SH (↑(0+s0):Int) fun s7=>SH (take s5 (drop (0:Nat) l)) fun s8=>SH (0+s3≤s3) fun s9=>(0≤i∧i≤LN l∧0+LN l≤LN l)∧br (LN s==0) (s3=s3∧0+s5≤s5∧k (s,()) (s8,())) (br (i==LN l) (s9∧0+s5≤s5∧s5+length s2≤68719476736∧s3=s3∧(0:Nat)+(s5+length s2)≤length (s8++s2)∧k (s,()) (take (s5+length s2) (drop (0:Nat) (s8++s2)),())) (NM (LN l+LN s) fun n=> ∀(sp:List Step),SH (l++sp) fun s10=>SH (take (s1-s0) (drop (0+s0) s10)) fun s11=>SH (drop s4 s10) fun s12=>SH (take s6 (drop (0+s1) s10)) fun s13=>br (decide (n>(↑(s5+length sp-0):Int))) (((0:Int)≤0∧0≤i∧0+i≤LN s10)∧NM (LN l+LN s) fun n=>NM (n-i) fun n_1=>SH (s11++replicate (toNat n_1) (Step.mk (0:Int) (0:Int))) fun s14=>SH (s1-s0+toNat n_1) fun s15=>SH (take (0+s1) s14) fun s16=>SH (toNat (↑s15:Int)) fun s17=>((0:Nat)=0+s0∧0+s0+(s1-s0)≤length s10∧0<s1-s0∧0<n_1∧(↑(s1-s0):Int)+n_1≤68719476736∧(↑(s5+length sp-0):Int)<(↑(s1-s0):Int)+n_1)∧(0≤i∧i≤(↑s15:Int)∧(0:Int)+(↑s15:Int)≤LN s14)∧s9∧0+s1+(s17-s1)≤length s14∧ ∀(m:Nat),m=min (length s2) (s17-s1)→SH (s16++(take m s2++drop (0+s1+m) s14)) fun s18=>NM (i+LN s) fun n=>SH (0+toNat n) fun s19=>(0≤n∧n≤(↑s15:Int)∧(0:Int)+(↑s15:Int)≤LN s18)∧(0≤i∧i≤LN l∧0+LN l≤LN s10)∧(0+s1+s6≤length s10∧s19+(s17-toNat n)≤length s18∧ ∀(m_1:Nat),m_1=min (length s13) (s17-toNat n)→SH (take s19 s18++(take m_1 s13++drop (s19+m_1) s18)) fun s20=>s3=s3∧0+s15≤length s20∧k (s,()) (take s15 (drop (0:Nat) s20),()))∧True) (NM (LN l+LN s) fun n=>SH (↑(toNat n-s0):Int) fun s14=>SH (take (toNat s14-s1) s12) fun s15=>((0:Int)≤0∧0≤n∧0+n≤LN s10)∧NM (i+LN s) fun n_1=>(0≤n_1∧n_1≤s14∧s7+s14≤LN s10)∧(0<s3∧0<toNat s14-toNat n_1∧s9)∧NM (i+LN s) fun n_2=>SH (0+s0+toNat n_2) fun s16=>SH (take s16 s10) fun s17=>(0≤n_2∧n_2≤s14∧s7+s14≤LN s10)∧(0≤i∧i≤s14∧s7+s14≤LN s10)∧(s4+(toNat s14-s1)≤length s10∧s16+(toNat s14-toNat n_2)≤length s10∧ ∀(m:Nat),m=min (length s15) (toNat s14-toNat n_2)→SH (s17++(take m s15++drop (s16+m) s10)) fun s18=>(0≤i∧i≤s14∧s7+s14≤LN s18)∧s9∧s4+(toNat s14-s1)≤length s18∧ ∀(m_1:Nat),m_1=min (length s2) (toNat s14-s1)→SH (take s4 s18++(take m_1 s2++drop (s4+m_1) s18)) fun s19=>s3=s3∧0+s0+(toNat n-s0)≤length s19∧k (s,()) (take (toNat n-s0) (drop (0+s0) s19),()))∧True)))
def vJoin1 (p:Prof) (k:Prof × Unit→Unit→Prop):Prop:=
SH p.steps fun s0=>length s0=length s0∧length s0≤1099511627776∧0+length (joinL s0)≤length (joinL s0)∧k (Prof.mk (take (length (joinL s0)) (drop 0 (joinL s0))) p.ver,()) ()
def vLeast (p:Prof) (t:Int) (u:Int) (k:Unit→Int × Unit→Prop):Prop:=
SH (↑(idxL p.steps (if nowL p.steps>t then nowL p.steps else t)):Int) fun s0=>SH p.steps fun s1=>br (noneP (some p)) (k () (0,())) (PW p∧br (decide ((if nowL s1>t then nowL s1 else t)≥u)) (k () (64,())) ((PW p∧(0≤s0∧s0≤LN s1∧LN s1≤LN s1)∧LP (List Step × Int × Int × Int) (fun x=>(u=x.2.1∧64=x.2.2.1∧drop (toNat s0) (take (toNat (LN s1)) s1)=x.1∧LN (drop (toNat s0) (take (toNat ↑(length s1)) s1))=LN x.1∧0=x.2.2.2∧True)∧True) fun I m x=>br (decide (x.2.2.2<LN x.1)) (AI x.1 x.2.2.2 fun e=>br (decide (e.At≥x.2.1)) (k () (x.2.2.1,())) (NM (x.2.2.2+1) fun n=>NX I m x fun y=>(x.2.1=y.2.1∧(if e.Free<x.2.2.1 then e.Free else x.2.2.1)=y.2.2.1∧x.1=y.1∧LN x.1=LN y.1∧n=y.2.2.2∧True)∧True)) (k () (x.2.2.1,())))∧True))
def vLeastI (l:List Int) (k:Unit→Int × Unit→Prop):Prop:=
LP (List Int × Int × Int) (fun x=>(1152921504606846976=x.2.1∧l=x.1∧LN l=LN x.1∧0=x.2.2∧True)∧True) fun I m x=>br (decide (x.2.2<LN x.1)) (AI x.1 x.2.2 fun e=>NM (x.2.2+1) fun n=>NX I m x fun y=>((if e<x.2.1 then e else x.2.1)=y.2.1∧x.1=y.1∧LN x.1=LN y.1∧n=y.2.2∧True)∧True) (k () (x.2.1,()))
def vLenS (x:Int) (k:Unit→Int × Unit→Prop):Prop:=
U64 x∧k () (lenS x,())
def vLessB (a:Job) (b:Job) (k:Unit→Bool × Unit→Prop):Prop:=
k () (decide (cmpJ a b<0),())
def vLowS (x:Int) (k:Unit→Int × Unit→Prop):Prop:=
br (x==0) (k () ((-1),())) (U64 x∧k () ((↑(Lib.ctz 64 (toNat x)):Int),()))
def vMost (p:Prof) (t:Int) (u:Int) (k:Unit→Int × Unit→Prop):Prop:=
SH p.steps fun s0=>SH (↑(idxL s0 t):Int) fun s1=>(PW p∧(0≤s1∧s1≤LN s0∧LN s0≤LN s0)∧LP (List Step × Int × Int × Int) (fun x=>(u=x.2.1∧0=x.2.2.1∧drop (toNat s1) (take (toNat (LN s0)) s0)=x.1∧LN (drop (toNat s1) (take (toNat ↑(length s0)) s0))=LN x.1∧0=x.2.2.2∧True)∧True) fun I m x=>br (decide (x.2.2.2<LN x.1)) (AI x.1 x.2.2.2 fun e=>br (decide (e.At≥x.2.1)) (k () (x.2.2.1,())) (NM (x.2.2.2+1) fun n=>NX I m x fun y=>(x.2.1=y.2.1∧(if e.Free>x.2.2.1 then e.Free else x.2.2.1)=y.2.2.1∧x.1=y.1∧LN x.1=LN y.1∧n=y.2.2.2∧True)∧True)) (k () (x.2.2.1,())))∧True
def vNaN (n:Int) (k:Unit→Bool × Unit→Prop):Prop:=
k () (!n==n,())
def vNewC (n:Int) (k:Unit→Option Core × Int × Unit→Prop):Prop:=
(n<1∨64<n→k () (none,1,()))∧(1≤n∧n≤64→(1≤n∧n≤64)∧k () (some (Core.mk newJs (newN n) (newP n) false),0,()))
def vNewJ (u:Unit) (k:Unit→Jobs × Unit→Prop):Prop:=
k () (Jobs.mk [] 0 true,())
def vNewN (n:Int) (k:Unit→Option Nodes × Int × Unit→Prop):Prop:=
br (decide (n<1)) (k () (none,1,())) (br (decide (n>64)) (k () (none,1,())) (k () (some (Nodes.mk (allS n) 0 0),0,())))
def vNewP (n:Int) (k:Unit→Option Prof × Int × Unit→Prop):Prop:=
br (decide (n<0)) (k () (none,1,())) (br (decide (n>64)) (k () (none,1,())) (1≤1∧k () (some (Prof.mk [Step.mk 0 n] 0),0,())))
def vNewW (r:Req) (k:Unit→Work × Unit→Prop):Prop:=
k () (Work.mk (cleanR r) (Choice.mk 0 0) false (Reply.mk 0 0 0 0 0 0 0 0 0) 0 false false (Job.mk 0 0 0 0 0 0 0 0 0 0) 0 0,())
def vNewX (x:Choice) (k:Unit→Work × Unit→Prop):Prop:=
k () (Work.mk (Req.mk 0 0 0 0 0 0 false 0 0) x true (Reply.mk 0 0 0 0 0 0 0 0 0) 0 false false (Job.mk 0 0 0 0 0 0 0 0 0 0) 0 0,())
def vNextC (c:Core) (k:Unit→Int × Unit→Prop):Prop:=
SH (inJ c.J.jobs [3]) fun s0=>1≤1∧(JW c.J∧1≤1000)∧LP (Core × List Job × Int × Int) (fun x=>(((c.J.jobs=x.1.J.jobs∧c.J.live=x.1.J.live∧c.J.made=x.1.J.made∧True)∧(c.N.all=x.1.N.all∧c.N.used=x.1.N.used∧c.N.drain=x.1.N.drain∧True)∧(c.P.steps=x.1.P.steps∧c.P.ver=x.1.P.ver∧True)∧c.closed=x.1.closed∧True)∧1152921504606846976=x.2.2.1∧(0=0∧length s0=length x.2.1)∧LN s0=LN x.2.1∧0=x.2.2.2∧True)∧s0=x.2.1∧True) fun I m x=>SH (spansC x.1.J.jobs) fun s1=>br (decide (x.2.2.2<LN x.2.1)) (AT x.2.1 x.2.2.2 fun e=>SH [x.2.2.1,e.End] fun s2=>2≤length s2∧length s2≤1099511627776∧NM (x.2.2.2+1) fun n=>NX I m x fun y=>(((x.1.J.jobs=y.1.J.jobs∧x.1.J.live=y.1.J.live∧x.1.J.made=y.1.J.made∧True)∧(x.1.N.all=y.1.N.all∧x.1.N.used=y.1.N.used∧x.1.N.drain=y.1.N.drain∧True)∧(x.1.P.steps=y.1.P.steps∧x.1.P.ver=y.1.P.ver∧True)∧x.1.closed=y.1.closed∧True)∧leastI s2=y.2.2.1∧(0=0∧length x.2.1=length y.2.1)∧LN x.2.1=LN y.2.1∧n=y.2.2.2∧True)∧x.2.1=y.2.1∧True) (CW x.1∧LP (List Span × Int × Int) (fun x_1=>(x.2.2.1=x_1.2.1∧(0=0∧length s1=length x_1.1)∧LN s1=LN x_1.1∧0=x_1.2.2∧True)∧s1=x_1.1∧True) fun I m x=>br (decide (x.2.2<LN x.1)) (AT x.1 x.2.2 fun e=>SH [x.2.1,e.From] fun s2=>2≤length s2∧length s2≤1099511627776∧NM (x.2.2+1) fun n=>NX I m x fun y=>(leastI s2=y.2.1∧(0=0∧length x.1=length y.1)∧LN x.1=LN y.1∧n=y.2.2∧True)∧x.1=y.1∧True) (k () (x.2.1,())))
def vNoneC (c:Core) (k:Unit→Bool × Unit→Prop):Prop:=
k () (false,())
def vNoneCN (k:Unit→Bool × Unit→Prop):Prop:=
k () (true,())
def vNoneJ (t:Jobs) (k:Unit→Bool × Unit→Prop):Prop:=
k () (!t.made,())
def vNoneJN (k:Unit→Bool × Unit→Prop):Prop:=
k () (true,())
def vNoneN (t:Nodes) (k:Unit→Bool × Unit→Prop):Prop:=
k () (t.all==0,())
def vNoneNN (k:Unit→Bool × Unit→Prop):Prop:=
k () (true,())
def vNoneP (p:Prof) (k:Unit→Bool × Unit→Prop):Prop:=
k () (LN p.steps==0,())
def vNonePN (k:Unit→Bool × Unit→Prop):Prop:=
k () (true,())
def vNow (p:Prof) (k:Unit→Int × Unit→Prop):Prop:=
br (noneP (some p)) (k () (0,())) (AI p.steps 0 fun e=>k () (e.At,()))
def vOkW (w:Work) (k:Unit→Bool × Unit→Prop):Prop:=
k () (w.ok,())
def vOnes (x:Int) (k:Unit→Int × Unit→Prop):Prop:=
(0:Int)≤1∧ ∀(n:Int),n=fdiv x ((2:Int)^min (toNat (1:Int)) (64:Nat))→ ∀(n_1:Int),n_1=landI IntKind.u64 n (6148914691236517205:Int)→ ∀(n:Int),n=landI IntKind.u64 x (6148914691236517205:Int)→ ∀(n_2:Int),n_2=wrap .u64 (n_1+n)→(0:Int)≤2∧ ∀(n:Int),n=fdiv n_2 ((2:Int)^min (toNat (2:Int)) (64:Nat))→ ∀(n_3:Int),n_3=landI IntKind.u64 n (3689348814741910323:Int)→ ∀(n:Int),n=landI IntKind.u64 n_2 (3689348814741910323:Int)→ ∀(n_4:Int),n_4=wrap .u64 (n_3+n)→(0:Int)≤4∧ ∀(n:Int),n=fdiv n_4 ((2:Int)^min (toNat (4:Int)) (64:Nat))→ ∀(n_5:Int),n_5=wrap .u64 (n+n_4)→ ∀(n:Int),n=landI IntKind.u64 n_5 (1085102592571150095:Int)→(0:Int)≤8∧ ∀(n_6:Int),n_6=fdiv n ((2:Int)^min (toNat (8:Int)) (64:Nat))→ ∀(n_7:Int),n_7=wrap .u64 (n+n_6)→(0:Int)≤16∧ ∀(n:Int),n=fdiv n_7 ((2:Int)^min (toNat (16:Int)) (64:Nat))→ ∀(n_8:Int),n_8=wrap .u64 (n_7+n)→(0:Int)≤32∧ ∀(n:Int),n=fdiv n_8 ((2:Int)^min (toNat (32:Int)) (64:Nat))→ ∀(n_9:Int),n_9=wrap .u64 (n_8+n)→NM n_9 fun n=> ∀(n_10:Int),n_10=landI IntKind.i64 n (127:Int)→k () (n_10,())
def vOrI (l:List Int) (k:Unit→Int × Unit→Prop):Prop:=
LP (List Int × Int) (fun x=>((0:Int)=0∧l=x.1∧LN l=LN x.1∧0=x.2∧True)∧True) fun I m x=>br (decide (x.2<LN x.1)) (AI x.1 x.2 fun e=>br (!e==0) (k () (e,())) (NM (x.2+1) fun n=>NX I m x fun y=>((0:Int)=0∧x.1=y.1∧LN x.1=LN y.1∧n=y.2∧True)∧True)) (k () ((0:Int),()))
def vOrdS (l:List Job) (k:Unit→List Job × Unit→Prop):Prop:=
length l≤68719476736∧length l=length l∧SmallJs l∧length l=length (sortJ l)∧k () (sortJ l,())
def vPCopy (p:Prof) (k:Unit→Option Prof × Unit→Prop):Prop:=
br (noneP (some p)) (k () (none,())) ((PW p∧(0+length p.steps≤length p.steps∧k () (some (Prof.mk (take (length p.steps) (drop 0 p.steps)) p.ver),()))∧True)∧True)
def vPSteps (p:Prof) (k:Unit→List Step × Unit→Prop):Prop:=
br (noneP (some p)) (k () ([],())) (length p.steps≤68719476736∧length p.steps=length p.steps∧k () (p.steps,()))
def vPlanJ (t:Jobs) (n:Int) (m:Int) (k:Jobs × Unit→Int × Unit→Prop):Prop:=
SH (length t.jobs) fun s0=>SH (getJ t.jobs n).2 fun s1=>br (decide (m<(-1))) (k (t,()) (10,())) (br (decide (m>1099511627776)) (k (t,()) (10,())) (JW t∧br (!s1==0) (br (s1==0) False (k (t,()) (s1,()))) (NM (n-1) fun n_1=>SH (0+toNat n_1) fun s2=>AT t.jobs n_1 fun e=>1≤1∧1≤1099511627776∧br (!contains [1] e.State) (0+s0≤s0∧k (Jobs.mk (take s0 (drop 0 t.jobs)) t.live t.made,()) (8,())) (s2<s0∧ ∀(e:Job),t.jobs[s2]? =some e→SH (set t.jobs s2 (Job.mk e.Id e.User e.Width e.Limit e.Prio e.State e.Start e.End m e.Nodes)) fun s3=>0+s0≤length s3∧k (Jobs.mk (take s0 (drop 0 s3)) t.live t.made,()) (0,())))))
def vPlanS (j:Job) (k:Unit→Span × Bool × Unit→Prop):Prop:=
br (!j.State==1) (k () (Span.mk 0 0 0,false,())) (br (decide (j.Plan<0)) (k () (Span.mk 0 0 0,false,())) (NM (j.Plan+j.Limit) fun n=>k () (Span.mk j.Plan n j.Width,true,())))
def vRel (p:Prof) (s:Span) (k:Prof × Unit→Int × Unit→Prop):Prop:=
(PW p∧length p.steps≤4294967290)∧k ((addP p s.From s.To s.Width).2,()) ((addP p s.From s.To s.Width).1,())
def vRepW (w:Work) (k:Unit→Reply × Unit→Prop):Prop:=
k () (w.reply,())
def vRes (p:Prof) (s:Span) (k:Prof × Unit→Int × Unit→Prop):Prop:=
NM (0-s.Width) fun n=>(PW p∧length p.steps≤4294967290)∧k ((addP p s.From s.To n).2,()) ((addP p s.From s.To n).1,())
def vResumeN (t:Nodes) (n:Int) (k:Nodes × Unit→Int × Unit→Prop):Prop:=
br (noneN (some t)) (k (t,()) (8,())) (U64 t.all∧br (!hasB t.all n) (k (t,()) (11,())) (U64 t.drain∧br (!hasB t.drain n) (k (t,()) (8,())) (U64 t.drain∧k (Nodes.mk t.all t.used (withoutS t.drain n),()) (0,()))))
def vResumeW (w:Work) (c:Core) (k:Work × Core × Unit→Unit→Prop):Prop:=
SH (resumeN c.N w.req.Node) fun s0=>SH (Core.mk c.J s0.2 c.P c.closed) fun s1=>(NW c.N∧br (!s0.1==0) (k (failW w s0.1,s1,()) ()) ((CW s1∧((PW c.P∧length c.P.steps≤4294967290)∧(NW s0.2∧k (endW w (Reply.mk 0 w.req.Node (stateN s0.2 w.req.Node) 0 0 0 0 0 0),Core.mk c.J s0.2 (addP c.P (untilC s1 w.req.Node) 1152921504606846976 1).2 c.closed,()) ()∧True)∧True)∧True)∧True))∧True
def vRightR (r:Req) (k:Unit→Int × Unit→Prop):Prop:=
br (decide (r.User<0)) (k () (1,())) (br (decide (r.User>255)) (k () (1,())) (br (decide (r.Prio<0)) (k () (1,())) (br (decide (r.Prio>1000)) (k () (1,())) (br (decide (r.Width<1)) (k () (9,())) (br (decide (r.Width>64)) (k () (9,())) (br (decide (r.Limit<1)) (k () (10,())) (br (decide (r.Limit>1048576)) (k () (10,())) (k () (0,())))))))))
def vSame (a:Step) (b:Step) (k:Unit→Bool × Unit→Prop):Prop:=
k () (a.Free==b.Free,())
def vServeW (w:Work) (c:Core) (k:Work × Core × Unit→Unit→Prop):Prop:=
SH (length c.P.steps) fun s0=>SH w.req.Kind fun s1=>SH (finishW w c) fun s2=>SH (resumeW w c) fun s3=>SH (endW w (toldC c w.req.Id),c,()) fun s4=>SH ((countW w c).1,(countW w c).2,()) fun s5=>SH ((drainW w c).1,(drainW w c).2,()) fun s6=>SH ((freeW w c).1,(freeW w c).2,()) fun s7=>SH ((holdW w c).1,(holdW w c).2,()) fun s8=>SH ((tickW w c).1,(tickW w c).2,()) fun s9=>SH (CW c∧WW w∧s0≤4294967280) fun s10=>SH (br (s1==3) (s10∧k s8 ()) (br (s1==4) (s10∧k s7 ()) (br (s1==6) (CW c∧k s4 ()) (br (s1==7) (s10∧k s6 ()) (br (s1==8) (s10∧k (s3.1,s3.2,()) ()) (br (s1==9) (s10∧k s9 ()) (s10∧k s5 ()))))))) fun s11=>br (s1==1) (s10∧k ((submitW w c).1,(submitW w c).2,()) ()) (br (s1==2) (br (s1==2) (s10∧k (s2.1,s2.2,()) ()) s11) (br (s1==5) (s10∧k (s2.1,s2.2,()) ()) s11))
def vSettleW (w:Work) (c:Core) (k:Work × Core × Unit→Unit→Prop):Prop:=
SH w.choice fun s0=>SH (Work.mk w.req s0 w.commit w.reply w.part true w.ok w.job w.back w.to) fun s1=>SH (length c.P.steps) fun s2=>br (w.part==0) ((CW c∧s2≤4294967290)∧br (!fitsC c s0) (k (Work.mk w.req s0 w.commit w.reply w.part true (fitsC c s0) w.job w.back w.to,c,()) ()) ((JW c.J∧k (Work.mk w.req s0 w.commit w.reply w.part w.done (fitsC c s0) (getJ c.J.jobs s0.Id).1 w.back w.to,c,()) ()∧True)∧True)) (br (w.part==1) ((CW c∧WW w∧s2≤4294967280)∧k (w,unplanC w c,()) ()) (br (w.part==2) (NM (s0.At+w.job.Limit) fun n=>((PW c.P∧s2≤4294967290)∧k (w,Core.mk c.J c.N (addP c.P s0.At n (wr (0-w.job.Width))).2 c.closed,()) ())∧True) ((PW c.P∧br (s0.At==nowL c.P.steps) (CW c∧k (s1,beginC c w.job,()) ()) ((JW c.J∧k (s1,Core.mk (planJ c.J w.job.Id s0.At).2 c.N c.P c.closed,()) ())∧True))∧True)))
def vSizeN (t:Nodes) (k:Unit→Int × Unit→Prop):Prop:=
br (noneN (some t)) (k () (0,())) (U64 t.all∧k () (lenS t.all,()))
def vSpansC (c:Core) (k:Unit→List Span × Unit→Prop):Prop:=
SH (inJ c.J.jobs [1]) fun s0=>1≤1∧(JW c.J∧1≤1000)∧LP (List Job × List Span × Int) (fun x=>((0=0∧0=length x.2.1)∧(0=0∧length s0=length x.1)∧LN s0=LN x.1∧0=x.2.2∧True)∧s0=x.1∧[]=x.2.1∧True) fun I m x=>SH (length x.2.1) fun s1=>br (decide (x.2.2<LN x.1)) (AT x.1 x.2.2 fun e=>br (planS e).2 (1≤1∧0+s1≤s1∧s1+1≤68719476736∧NM (x.2.2+1) fun n=>NX I m x fun y=>((0=0∧s1+1=length y.2.1)∧(0=0∧length x.1=length y.1)∧LN x.1=LN y.1∧n=y.2.2∧True)∧x.1=y.1∧take s1 (drop 0 x.2.1)++[(planS e).1]=y.2.1∧True) (NM (x.2.2+1) fun n=>NX I m x fun y=>((0=0∧s1=length y.2.1)∧(0=0∧length x.1=length y.1)∧LN x.1=LN y.1∧n=y.2.2∧True)∧x.1=y.1∧x.2.1=y.2.1∧True)) (s1=s1∧k () (x.2.1,()))
def vSplit (p:Prof) (t:Int) (k:Prof × Unit→Int × Unit→Prop):Prop:=
SH p.steps fun s0=>SH (↑(idxL s0 t):Int) fun s1=>SH (length s0) fun s2=>PW p∧AT s0 s1 fun e=>br (e.At==t) (0+s2≤s2∧k (Prof.mk (take s2 (drop 0 s0)) p.ver,()) (s1,())) (NM (s1+1) fun n=>SH (toNat n) fun s3=>AT s0 s1 fun e=>SH (take s3 s0++[Step.mk t e.Free]++drop s3 s0) fun s4=>((s2=s2∧1=1∧(0<n∧n≤LN s0∧s2≤8589934592∧1=1)∧(NM (s1+1) fun n_1=>0+length s4≤length s4∧k (Prof.mk (take (length s4) (drop 0 s4)) p.ver,()) (n_1,()))∧True)∧True)∧True)
def vStateN (t:Nodes) (n:Int) (k:Unit→Int × Unit→Prop):Prop:=
SH (br (hasB t.used n) (k () (2,())) (br (hasB t.drain n) (k () (4,())) (k () (1,())))) fun s0=>br (noneN (some t)) (k () (0,())) (U64 t.all∧br (!hasB t.all n) (k () (0,())) ((U64 t.used∧(U64 t.drain∧br (hasB t.used n) (br (hasB t.drain n) (k () (3,())) s0) s0)∧True)∧True))
def vStepW (w:Work) (c:Core) (k:Work × Core × Unit→Bool × Unit→Prop):Prop:=
SH (settleW w c).1 fun s0=>SH (serveW w c).1 fun s1=>SH (length c.P.steps) fun s2=>SH (br w.commit ((CW c∧WW w∧s2≤4294967280)∧NM (s0.part+1) fun n=>k (Work.mk s0.req s0.choice s0.commit s0.reply n s0.done s0.ok s0.job s0.back s0.to,(settleW w c).2,()) (s0.done,())) ((CW c∧WW w∧s2≤4294967280)∧NM (s1.part+1) fun n=>k (Work.mk s1.req s1.choice s1.commit s1.reply n s1.done s1.ok s1.job s1.back s1.to,(serveW w c).2,()) (s1.done,()))) fun s3=>br (doneW (some w)) (k (w,c,()) (true,())) (br (w.part==0) (br c.closed (NM (w.part+1) fun n=>k (Work.mk w.req w.choice w.commit (Reply.mk 12 0 0 0 0 0 0 0 0) n true w.ok w.job w.back w.to,c,()) (true,())) s3) s3)
def vSubJ (t:Jobs) (r:Req) (k:Jobs × Unit→Int × Int × Unit→Prop):Prop:=
SH (length t.jobs) fun s0=>SH (take s0 (drop 0 t.jobs)) fun s1=>SH (0+s0≤s0∧k (Jobs.mk s1 t.live t.made,()) (0,6,())) fun s2=>br (noneJ (some t)) (k (t,()) (0,8,())) (br (!rightR r==0) (k (t,()) (0,rightR r,())) (br (decide (t.live≥64)) s2 (br (decide (LN t.jobs≥1024)) s2 (NM (LN t.jobs+1) fun n=>SH (s1++[Job.mk n r.User r.Width r.Limit r.Prio 1 (-1) (-1) (-1) 0]) fun s3=>SH (s1++[Job.mk n r.User r.Width r.Limit r.Prio 2 (-1) (-1) (-1) 0]) fun s4=>(br r.Held (((1≤1∧0+s0≤s0∧s0+1≤68719476736∧(NM (t.live+1) fun n_1=>0+(s0+1)≤length s4∧k (Jobs.mk (take (s0+1) (drop 0 s4)) n_1 t.made,()) (n,0,()))∧True)∧True)∧True) (((1≤1∧0+s0≤s0∧s0+1≤68719476736∧(NM (t.live+1) fun n_1=>0+(s0+1)≤length s3∧k (Jobs.mk (take (s0+1) (drop 0 s3)) n_1 t.made,()) (n,0,()))∧True)∧True)∧True)∧True)∧True))))
def vSubW (w:Work) (c:Core) (k:Work × Core × Unit→Unit→Prop):Prop:=
SH (submitJ c.J w.req) fun s0=>SH (Core.mk s0.2 c.N c.P c.closed) fun s1=>br (decide (w.part>0)) ((CW c∧WW w∧length c.P.steps≤4294967280)∧k ((dropW w c).2.1,(dropW w c).2.2,()) ()) (CW c∧br (wantsC c w.req==0) ((JW c.J∧br (!s0.1.2==0) (k (failW w s0.1.2,s1,()) ()) (JW s0.2∧CW s1∧k (Work.mk w.req w.choice w.commit (toldC s1 s0.1.1) w.part w.req.Held w.ok (getJ s0.2.jobs s0.1.1).1 w.back w.to,s1,()) ()))∧True) (br (!wantsC c w.req==0) (k (failW w (wantsC c w.req),c,()) ()) (JW c.J∧CW c∧k (Work.mk w.req w.choice w.commit (Reply.mk 7 0 0 0 0 0 0 0 0) w.part w.req.Held w.ok (Job.mk 0 0 0 0 0 0 0 0 0 0) w.back w.to,c,()) ())))
def vTakeN (t:Nodes) (n:Int) (k:Nodes × Unit→Int × Int × Unit→Prop):Prop:=
SH (firstS (idleN t) n) fun s0=>br (noneN (some t)) (k (t,()) (0,8,())) (br (decide (n<1)) (k (t,()) (0,1,())) (NW t∧U64 (idleN t)∧br (!s0.2) (k (t,()) (0,6,())) (∀(n_1:Int),n_1=lorI IntKind.u64 t.used s0.1→k (Nodes.mk t.all n_1 t.drain,()) (s0.1,0,()))))
def vTellR (j:Job) (k:Unit→Reply × Unit→Prop):Prop:=
k () (Reply.mk 0 j.Id j.State j.Start j.End j.Plan j.Width j.Prio 0,())
def vThreeR (a:Int) (b:Int) (c:Int) (k:Unit→Reply × Unit→Prop):Prop:=
k () (Reply.mk 0 0 0 0 0 0 a b c,())
def vTickW (w:Work) (c:Core) (k:Work × Core × Unit→Unit→Prop):Prop:=
SH (Core.mk c.J c.N (advP c.P (if nowL c.P.steps>nextC c then nowL c.P.steps else nextC c)).2 c.closed) fun s0=>SH (advP c.P w.to).2 fun s1=>SH (timeoutsC s0) fun s2=>br (w.part==0) (br (decide (w.req.By<1)) (k (failW w 10,c,()) ()∧True) ((PW c.P∧NM (1099511627776-nowL c.P.steps) fun n=>br (decide (w.req.By>n)) (k (failW w 10,c,()) ()) ((PW c.P∧NM (nowL c.P.steps+w.req.By) fun n=>SH (advP c.P n).2 fun s3=>SH (Work.mk w.req w.choice w.commit w.reply w.part w.done w.ok w.job w.back n) fun s4=>(CW c∧br (decide (nextC c>n)) ((PW c.P∧(PW s3∧(PW s3∧(PW s3∧k (endW s4 (Reply.mk 0 0 0 (nowL s3.steps) 0 0 (freeL s3.steps (nowL s3.steps)) 0 0),Core.mk c.J c.N s3 c.closed,()) ()∧True)∧True)∧True)∧True)∧True) ((PW c.P∧(PW c.P∧CW s0∧CW s2∧k (s4,beginsC s2,()) ())∧True)∧True))∧True)∧True))∧True)) (CW c∧br (decide (nextC c>w.to)) ((PW c.P∧(PW s1∧(PW s1∧(PW s1∧k (endW w (Reply.mk 0 0 0 (nowL s1.steps) 0 0 (freeL s1.steps (nowL s1.steps)) 0 0),Core.mk c.J c.N s1 c.closed,()) ()∧True)∧True)∧True)∧True)∧True) ((PW c.P∧(PW c.P∧CW s0∧CW s2∧k (w,beginsC s2,()) ())∧True)∧True))
def vTimeC (c:Core) (k:Core × Unit→Unit→Prop):Prop:=
SH (inJ c.J.jobs [3]) fun s0=>1≤1∧(JW c.J∧1≤1000)∧LP (Core × List Job × Int) (fun x=>(0=0∧(0=0∧length s0=length x.2.1)∧LN s0=LN x.2.1∧0=x.2.2∧True)∧c=x.1∧s0=x.2.1∧True) fun I m x=>br (decide (x.2.2<LN x.2.1)) (AT x.2.1 x.2.2 fun e=>(PW x.1.P∧br (decide (e.End≤nowL x.1.P.steps)) ((JW x.1.J∧((NW x.1.N∧U64 e.Nodes)∧NM (x.2.2+1) fun n=>NX I m x fun y=>(0=0∧(0=0∧length x.2.1=length y.2.1)∧LN x.2.1=LN y.2.1∧n=y.2.2∧True)∧Core.mk (finishJ x.1.J e.Id 6 e.End).2 (giveN x.1.N e.Nodes).2 x.1.P x.1.closed=y.1∧x.2.1=y.2.1∧True)∧True)∧True) (NM (x.2.2+1) fun n=>NX I m x fun y=>(0=0∧(0=0∧length x.2.1=length y.2.1)∧LN x.2.1=LN y.2.1∧n=y.2.2∧True)∧x.1=y.1∧x.2.1=y.2.1∧True))∧True) (k (x.1,()) ())
def vToldC (c:Core) (n:Int) (k:Unit→Reply × Unit→Prop):Prop:=
SH (getJ c.J.jobs n) fun s0=>JW c.J∧br (!s0.2==0) (k () (Reply.mk s0.2 0 0 0 0 0 0 0 0,())) (k () (Reply.mk 0 s0.1.Id s0.1.State s0.1.Start s0.1.End s0.1.Plan s0.1.Width s0.1.Prio 0,()))
def vTwinC (c:Core) (k:Unit→Option Core × Unit→Prop):Prop:=
(JW c.J∧(NW c.N∧(PW c.P∧k () (some c,())∧True)∧True)∧True)∧True
def vUnplan (w:Work) (c:Core) (k:Work × Core × Unit→Unit→Prop):Prop:=
SH (planS w.job) fun s0=>br s0.2 (((PW c.P∧length c.P.steps≤4294967290)∧k (w,Core.mk c.J c.N (addP c.P s0.1.From s0.1.To s0.1.Width).2 c.closed,()) ())∧True) (k (w,c,()) ())
def vUntilC (c:Core) (n:Int) (k:Unit→Int × Unit→Prop):Prop:=
SH (holderJ c.J.jobs n) fun s0=>CW c∧br (!s0.Id==0) ((PW c.P∧NM (nowL c.P.steps+1) fun n_1=>k () (if n_1>s0.End then n_1 else s0.End,()))∧True) (PW c.P∧k () (nowL c.P.steps,()))
def vUsedN (t:Nodes) (k:Unit→Int × Unit→Prop):Prop:=
br (noneN (some t)) (k () (0,())) (k () (t.used,()))
def vWaiting (t:Jobs) (k:Unit→List Job × Unit→Prop):Prop:=
SH (inJ t.jobs [1]) fun s0=>SH (take (length s0) (drop 0 s0)) fun s1=>1≤1∧(JW t∧1≤1000)∧0+length s0≤length s0∧SmallJs s1∧length (sortJ s1)=length (sortJ s1)∧k () (sortJ s1,())
def vWantsC (c:Core) (r:Req) (k:Unit→Int × Unit→Prop):Prop:=
SH (k () (0,())) fun s0=>br (r.Kind==1) ((NW c.N∧br (decide (r.Width>lenS c.N.all)) (br (decide (r.Width≤64)) (br (decide (r.User≥0)) (br (decide (r.User≤255)) (br (decide (r.Prio≥0)) (br (decide (r.Prio≤1000)) (k () (9,())) s0) s0) s0) s0) s0) s0)∧True) (s0∧True)∧True
def vWith (x:Int) (n:Int) (k:Unit→Int × Unit→Prop):Prop:=
br (decide (n<0)) (k () (x,())) (br (decide (n≥64)) (k () (x,())) (0≤n∧ ∀(n_1:Int),n_1=wrap .u64 (1*2^min (toNat n) 64)→ ∀(n:Int),n=lorI IntKind.u64 x n_1→k () (n,())))
def vWithout (x:Int) (n:Int) (k:Unit→Int × Unit→Prop):Prop:=
br (decide (n<0)) (k () (x,())) (br (decide (n≥64)) (k () (x,())) (0≤n∧ ∀(n_1:Int),n_1=wrap .u64 (1*2^min (toNat n) 64)→ ∀(n:Int),n=landnI IntKind.u64 x n_1→k () (n,())))
end Go.Ax.V
namespace Go.Ax.O
open Go.Ax.Sp Go.Ax.Law
theorem idxI_at {l:List Int} {v:Int} {i:Nat} (h:l[i]? =some v) (hn: ∀(p:Nat) (y:Int),p<i→l[p]? =some y→y≠v):idxI l v=(i:Int):=by
 have:l.findIdx? (fun x=>decide (x=v))=some i:=by
  rw [List.findIdx?_eq_some_iff_getElem]
  refine ⟨(List.getElem?_eq_some_iff.1 h).1,by simp [(List.getElem?_eq_some_iff.1 h).2],fun j hj=>?_⟩
  have:=hn j _ hj (List.getElem?_eq_getElem (by have:=(List.getElem?_eq_some_iff.1 h).1;omega))
  simpa using this
 simp [idxI,this]
theorem idxI_none {l:List Int} {v:Int} (hn: ∀(p:Nat) (y:Int),l[p]? =some y→y≠v):idxI l v= -1:=by
 have:l.findIdx? (fun x=>decide (x=v))=none:=by
  rw [List.findIdx?_eq_none_iff]
  intro x hx
  obtain ⟨p,hp⟩:=List.getElem?_of_mem hx
  simpa using hn p x hp
 simp [idxI,this]
theorem vIdxI {l:List Int} {n:Int} {k:Unit→Int × Unit→Prop} (h:oIdxI (l,n,()) k):V.vIdxI l n k:=by
 unfold V.vIdxI V.LP V.NX V.AI V.NM V.LN
 obtain ⟨hl,hk⟩:=h
 simp only [] at hl hk
 refine ⟨fun x=>x.1=l∧x.2.1=n∧0≤x.2.2∧x.2.2≤l.length∧ ∀(p:Nat) (y:Int),(p:Int)<x.2.2→l[p]? =some y→y≠n,fun x=>(l.length-x.2.2).toNat,(l,n,0),⟨rfl,rfl,Int.le_refl _,by simp,fun p y hp=>by simp only [] at hp;omega⟩,⟨⟨rfl,rfl,rfl,rfl,trivial⟩,trivial⟩,?_⟩
 rintro ⟨l',n',i⟩ ⟨g1,g2,g3,g4,g5⟩
 simp only [] at g1 g2 g3 g4 g5
 subst g1 g2
 obtain ⟨i,rfl⟩:=Int.eq_ofNat_of_zero_le g3
 dsimp only
 refine br_dec (fun hi=>⟨⟨g3,hi⟩,fun e he=>?_⟩) (fun hi=>?_)
 ·rw [Int.toNat_natCast] at he
  refine br_bool (fun hne=>?_) (fun hne m hm=>?_)
  ·have hne:n'=e:=by simpa using hne
   subst hne
   rw [idxI_at he fun p y hp hy=>g5 p y (by omega) hy] at hk
   exact hk
  ·have hne:n'≠e:=by simpa using hne
   rw [w64 (by omega)] at hm
   subst hm
   refine ⟨(l',n',(i:Int)+1),⟨rfl,rfl,by simp only [];omega,by simp only [];omega,fun p y hp hy=>?_⟩,⟨⟨rfl,rfl,rfl,rfl,trivial⟩,trivial⟩,by simp only [];omega⟩
   simp only [] at hp
   by_cases hpi:p=i
   ·subst hpi;rw [he] at hy;cases hy;exact fun h=>hne h.symm
   ·exact g5 p y (by omega) hy
 ·rw [idxI_none fun p y hy=>g5 p y (by have:=(List.getElem?_eq_some_iff.1 hy).1;omega) hy] at hk
  exact hk
theorem idxI_ge {l:List Int} {v:Int}:decide (idxI l v≥0)=l.contains v:=by
 unfold idxI
 cases h:l.findIdx? fun x=>decide (x=v) with
 |some i=>
  have:=List.findIdx?_eq_some_iff_getElem.1 h
  obtain ⟨h1,h2,_⟩:=this
  have:v∈l:=by
   have:l[i]=v:=by simpa using h2
   rw [←this];exact List.getElem_mem h1
  simp [this]
 |none=>
  rw [List.findIdx?_eq_none_iff] at h
  have:v∉l:=fun hm=>by simpa using h v hm
  simp [this]
theorem vConI {l:List Int} {n:Int} {k:Unit→Bool × Unit→Prop} (h:oConI (l,n,()) k):V.vConI l n k:=by
 obtain ⟨hl,hk⟩:=h
 refine ⟨hl,?_⟩
 rw [idxI_ge]
 exact hk
theorem vNaN {n:Int} {k:Unit→Bool × Unit→Prop} (h:oNaN (n,()) k):V.vNaN n k:=by
 have h:k () (false,()):=h
 unfold V.vNaN
 simpa using h
theorem vCmpI {n m:Int} {k:Unit→Int × Unit→Prop} (h:oCmpI (n,m,()) k):V.vCmpI n m k:=by
 have h:k () (cmpI n m,()):=h
 unfold cmpI at h
 refine br_dec (fun h1=>?_) (fun h1=>br_dec (fun h2=>?_) (fun h2=>?_))
 ·rw [if_pos h1] at h;exact h
 ·rw [if_neg h1,if_pos h2] at h;exact h
 ·rw [if_neg h1,if_neg h2] at h;exact h
theorem vOrI {l:List Int} {k:Unit→Int × Unit→Prop} (h:oOrI (l,()) k):V.vOrI l k:=by
 unfold V.vOrI V.LP V.NX V.AI V.NM V.LN
 obtain ⟨hl,hk⟩:=h
 simp only [] at hl hk
 refine ⟨fun x=>x.1=l∧0≤x.2∧x.2≤l.length∧orI (l.drop x.2.toNat)=orI l,fun x=>(l.length-x.2).toNat,(l,0),⟨rfl,Int.le_refl _,by simp,by simp⟩,⟨⟨rfl,rfl,rfl,rfl,trivial⟩,trivial⟩,?_⟩
 rintro ⟨l',i⟩ ⟨g1,g3,g4,g5⟩
 simp only [] at g1 g3 g4 g5
 subst g1
 obtain ⟨i,rfl⟩:=Int.eq_ofNat_of_zero_le g3
 rw [Int.toNat_natCast] at g5
 dsimp only
 refine br_dec (fun hi=>⟨⟨g3,hi⟩,fun e he=>?_⟩) (fun hi=>?_)
 ·rw [Int.toNat_natCast] at he
  have hd:l'.drop i=e::l'.drop (i+1):=by
   rw [List.drop_eq_getElem_cons (by omega)]
   congr 1
   exact (List.getElem?_eq_some_iff.1 he).2
  rw [hd] at g5
  refine br_not (fun hne=>?_) (fun hne m hm=>?_)
  ·have hne:e≠0:=by simpa using hne
   have:orI (e::l'.drop (i+1))=e:=by simp [orI,hne]
   rw [←g5,this] at hk
   exact hk
  ·have hne:e=0:=by simpa using hne
   subst hne
   rw [w64 (by omega)] at hm
   subst hm
   refine ⟨(l',(i:Int)+1),⟨rfl,by simp only [];omega,by simp only [];omega,?_⟩,⟨⟨rfl,rfl,rfl,rfl,trivial⟩,trivial⟩,by simp only [];omega⟩
   simp only []
   rw [show ((i:Int)+1).toNat=i+1 by omega,←g5]
   simp [orI]
 ·have:l'.drop i=[]:=by simp;omega
  rw [this] at g5
  rw [←g5] at hk
  exact hk
theorem vLeastI {l:List Int} {k:Unit→Int × Unit→Prop} (h:oLeastI (l,()) k):V.vLeastI l k:=by
 unfold V.vLeastI V.LP V.NX V.AI V.NM V.LN
 obtain ⟨hl,hk⟩:=h
 simp only [] at hl hk
 refine ⟨fun x=>x.1=l∧0≤x.2.2∧x.2.2≤l.length∧x.2.1=leastI (l.take x.2.2.toNat),fun x=>(l.length-x.2.2).toNat,(l,1152921504606846976,0),⟨rfl,Int.le_refl _,by simp,by simp [leastI]⟩,⟨⟨rfl,rfl,rfl,rfl,trivial⟩,trivial⟩,?_⟩
 rintro ⟨l',v,i⟩ ⟨g1,g3,g4,g5⟩
 simp only [] at g1 g3 g4 g5
 subst g1
 obtain ⟨i,rfl⟩:=Int.eq_ofNat_of_zero_le g3
 rw [Int.toNat_natCast] at g5
 dsimp only
 refine br_dec (fun hi=>⟨⟨g3,hi⟩,fun e he m hm=>?_⟩) (fun hi=>?_)
 ·rw [Int.toNat_natCast] at he
  rw [w64 (by omega)] at hm
  subst hm
  refine ⟨(l',if e<v then e else v,(i:Int)+1),⟨rfl,by simp only [];omega,by simp only [];omega,?_⟩,⟨⟨rfl,rfl,rfl,rfl,trivial⟩,trivial⟩,by simp only [];omega⟩
  simp only []
  rw [show ((i:Int)+1).toNat=i+1 by omega,List.take_add_one,he]
  simp only [leastI,Option.toList_some,List.foldl_append,List.foldl_cons,List.foldl_nil]
  simp only [leastI] at g5
  rw [←g5]
  simp only [Int.min_def]
  split<;>split<;>omega
 ·rw [List.take_of_length_le (by omega)] at g5
  rw [g5]
  exact hk
theorem popsum1 {p0 p1 p2 p3 p4 p5 p6 p7 A:Nat} (h0:p0≤8) (h1:p1≤8) (h2:p2≤8) (h3:p3≤8) (h4:p4≤8) (h5:p5≤8) (h6:p6≤8) (h7:p7≤8)
  (hA:A=p0+256*(p1+256*(p2+256*(p3+256*(p4+256*(p5+256*(p6+256*p7))))))):A+A/256=(p0+p1)+256*((p1+p2)+256*((p2+p3)+256*((p3+p4)+256*((p4+p5)+256*((p5+p6)+256*((p6+p7)+256*p7)))))):=by
 have:A/256=p1+256*(p2+256*(p3+256*(p4+256*(p5+256*(p6+256*p7))))):=by omega
 omega
theorem popsum2 {q0 q1 q2 q3 q4 q5 q6 q7 A:Nat} (h0:q0≤16) (h1:q1≤16) (h2:q2≤16) (h3:q3≤16) (h4:q4≤16) (h5:q5≤16) (h6:q6≤16) (h7:q7≤16)
  (hA:A=q0+256*(q1+256*(q2+256*(q3+256*(q4+256*(q5+256*(q6+256*q7))))))):A+A/65536=(q0+q2)+256*((q1+q3)+256*((q2+q4)+256*((q3+q5)+256*((q4+q6)+256*((q5+q7)+256*(q6+256*q7)))))):=by
 have:A/65536=q2+256*(q3+256*(q4+256*(q5+256*(q6+256*q7)))):=by omega
 omega
theorem popsum3 {q0 q1 q2 q3 q4 q5 q6 q7 A:Nat} (h0:q0≤32) (h1:q1≤32) (h2:q2≤32) (h3:q3≤32) (h4:q4≤32) (h5:q5≤32) (h6:q6≤32) (h7:q7≤32)
  (hA:A=q0+256*(q1+256*(q2+256*(q3+256*(q4+256*(q5+256*(q6+256*q7))))))):A+A/4294967296<9223372036854775808∧(A+A/4294967296)%128=(q0+q4)%128:=by
 have:A/4294967296=q4+256*(q5+256*(q6+256*q7)):=by omega
 constructor<;>omega
theorem land127 {a:Nat} (h:a<9223372036854775808):landI .i64 (a:Int) 127=((a%128:Nat):Int):=by
 unfold landI
 show IntKind.i64.wrap ((BitVec.ofInt 64 (a:Int)&&&BitVec.ofInt 64 ((127:Nat):Int)).toNat:Nat)=_
 rw [BitVec.toNat_and,bv64 (by omega),bv64 (by decide),show (127:Nat)=2^7-1 from rfl,Nat.and_two_pow_sub_one_eq_mod,w64 (by omega)]
theorem vOnes {x:Int} {k:Unit→Int × Unit→Prop} (h:oOnes (x,()) k):V.vOnes x k:=by
 unfold V.vOnes V.NM
 obtain ⟨hx,hk⟩:=h
 obtain ⟨a,ha,rfl⟩:=U64.ex hx
 obtain ⟨p0,p1,p2,p3,p4,p5,p6,p7,h0,h1,h2,h3,h4,h5,h6,h7,b1,b2,b3,e1,e2⟩:=ones_sum ha
 have hk:k () (((popN a 64:Nat):Int),()):=by simpa [lenS] using hk
 rw [e2] at hk
 refine ⟨by decide,fun n hn n1 hn1 n2 hn2 n3 hn3=>⟨by decide,fun n4 hn4 n5 hn5 n6 hn6 n7 hn7=>⟨by decide,fun n8 hn8 n9 hn9 n10 hn10=>⟨by decide,fun n11 hn11 n12 hn12=>⟨by decide,fun n13 hn13 n14 hn14=>⟨by decide,fun n15 hn15 n16 hn16 n17 hn17 n18 hn18=>?_⟩⟩⟩⟩⟩⟩
 have m1:min (Int.toNat 1) 64=1:=by decide
 have m2:min (Int.toNat 2) 64=2:=by decide
 have m4:min (Int.toNat 4) 64=4:=by decide
 have m8:min (Int.toNat 8) 64=8:=by decide
 have m16:min (Int.toNat 16) 64=16:=by decide
 have m32:min (Int.toNat 32) 64=32:=by decide
 rw [m1,fdiv2] at hn
 subst hn
 rw [show (6148914691236517205:Int)=((6148914691236517205:Nat):Int) from rfl,landU (by omega) (by decide)] at hn1
 rw [show (6148914691236517205:Int)=((6148914691236517205:Nat):Int) from rfl,landU ha (by decide)] at hn2
 subst hn1 hn2
 rw [←Int.natCast_add,wuN (by exact b1)] at hn3
 have hn3:n3=((f1 6148914691236517205 a:Nat):Int):=hn3
 subst hn3
 clear ha hx m1
 generalize f1 6148914691236517205 a=y1 at*
 rw [m2,fdiv2] at hn4
 subst hn4
 rw [show (3689348814741910323:Int)=((3689348814741910323:Nat):Int) from rfl,landU (by omega) (by decide)] at hn5
 rw [show (3689348814741910323:Int)=((3689348814741910323:Nat):Int) from rfl,landU b1 (by decide)] at hn6
 subst hn5 hn6
 rw [←Int.natCast_add,wuN (by exact b2)] at hn7
 have hn7:n7=((f2 3689348814741910323 y1:Nat):Int):=hn7
 subst hn7
 clear b1 m2
 generalize f2 3689348814741910323 y1=y2 at*
 rw [m4,fdiv2] at hn8
 subst hn8
 rw [←Int.natCast_add,wuN (by exact b3)] at hn9
 subst hn9
 rw [show (1085102592571150095:Int)=((1085102592571150095:Nat):Int) from rfl,landU b3 (by decide),show (y2/2^4+y2)&&&1085102592571150095=_ from e1] at hn10
 clear e1 b2 b3 m4
 obtain ⟨A,hA⟩: ∃A,A=p0+256*(p1+256*(p2+256*(p3+256*(p4+256*(p5+256*(p6+256*p7)))))):=⟨_,rfl⟩
 rw [←hA] at hn10
 subst hn10
 have s1:=popsum1 h0 h1 h2 h3 h4 h5 h6 h7 hA
 have s2:=popsum2 (by omega) (by omega) (by omega) (by omega) (by omega) (by omega) (by omega) (by omega) s1
 obtain ⟨s3,s4⟩:=popsum3 (by omega) (by omega) (by omega) (by omega) (by omega) (by omega) (by omega) (by omega) s2
 clear hA s1 s2
 rw [m8,fdiv2] at hn11
 subst hn11
 rw [←Int.natCast_add,wuN (by omega)] at hn12
 subst hn12
 rw [m16,fdiv2] at hn13
 subst hn13
 rw [←Int.natCast_add,wuN (by omega)] at hn14
 subst hn14
 rw [m32,fdiv2] at hn15
 subst hn15
 rw [←Int.natCast_add,wuN (by omega)] at hn16
 subst hn16
 rw [w64 (by omega)] at hn17
 subst hn17
 rw [land127 (by exact s3)] at hn18
 have e:n18=((p0+p1+p2+p3+p4+p5+p6+p7:Nat):Int):=by
  rw [hn18]
  congr 1
  refine Eq.trans s4 ?_
  rw [Nat.mod_eq_of_lt (by omega)]
  omega
 rw [e]
 exact hk
theorem vLenS {x:Int} {k:Unit→Int × Unit→Prop} (h:oOnes (x,()) k):V.vLenS x k:=h
theorem vLowS {x:Int} {k:Unit→Int × Unit→Prop} (h:oLow (x,()) k):V.vLowS x k:=by
 obtain ⟨hx,hk⟩:=h
 simp only [] at hx hk
 unfold lowS at hk
 refine br_bool (fun h0=>?_) (fun h0=>?_)
 ·have h0:x=0:=by simpa using h0
  rw [if_pos h0] at hk;exact hk
 ·have h0:x≠0:=by simpa using h0
  rw [if_neg h0] at hk;exact ⟨hx,hk⟩
theorem vHas {x n:Int} {k:Unit→Bool × Unit→Prop} (h:oHas (x,n,()) k):V.vHas x n k:=by
 obtain ⟨hx,hk⟩:=h
 simp only [] at hx hk
 obtain ⟨a,ha,rfl⟩:=U64.ex hx
 unfold hasB at hk
 refine br_dec (fun h0=>br_dec (fun h1=>⟨h0,fun n1 hn1 n2 hn2=>?_⟩) (fun h1=>?_)) (fun h0=>?_)
 ·obtain ⟨m,rfl⟩:=Int.eq_ofNat_of_zero_le h0
  rw [Int.toNat_natCast,show min m 64=m by omega,fdiv2] at hn1
  subst hn1
  have hlt:a/2^m<18446744073709551616:=Nat.lt_of_le_of_lt (Nat.div_le_self _ _) ha
  rw [show (1:Int)=((1:Nat):Int) from rfl,landU hlt (by decide),Nat.and_one_is_mod] at hn2
  subst hn2
  have e:(((a/2^m%2:Nat):Int)==1)=a.testBit m:=by
   rw [Nat.testBit_eq_decide_div_mod_eq]
   generalize a/2^m%2=q
   by_cases h:q=1
   ·simp [h]
   ·have h2:(q:Int)≠1:=by omega
    simp [h,h2]
  rw [e]
  have h1:(m:Int)<64:=h1
  simp only [Int.toNat_natCast,decide_eq_true h0,decide_eq_true h1,Bool.true_and] at hk
  exact hk
 ·simp only [decide_eq_false h1,Bool.and_false,Bool.false_and] at hk;exact hk
 ·simp only [decide_eq_false h0,Bool.false_and] at hk;exact hk
theorem pow_lt {m:Nat} (h:m<64):2^m<18446744073709551616:=Nat.pow_lt_pow_right (a:=2) (by decide) (show m<64 from h)
theorem shl1 {m:Nat} (h:m<64):IntKind.u64.wrap (1*2^(min (Int.toNat (m:Int)) 64))=((2^m:Nat):Int):=by
 rw [Int.toNat_natCast,show min m 64=m by omega,Int.one_mul,show ((2:Int)^m)=((2^m:Nat):Int) by simp]
 exact wuN (pow_lt h)
theorem vWith {x n:Int} {k:Unit→Int × Unit→Prop} (h:oWith (x,n,()) k):V.vWith x n k:=by
 obtain ⟨hx,hk⟩:=h
 simp only [] at hx hk
 obtain ⟨a,ha,rfl⟩:=U64.ex hx
 unfold withS at hk
 refine br_dec (fun h0=>?_) (fun h0=>br_dec (fun h1=>?_) (fun h1=>⟨by omega,fun n1 hn1 n2 hn2=>?_⟩))
 ·rw [if_pos (.inl h0)] at hk;exact hk
 ·rw [if_pos (.inr h1)] at hk;exact hk
 ·rw [if_neg (by omega)] at hk
  obtain ⟨m,rfl⟩:=Int.eq_ofNat_of_zero_le (show 0≤n by omega)
  rw [shl1 (by omega)] at hn1
  subst hn1
  rw [lorU ha (pow_lt (by omega))] at hn2
  subst hn2
  simpa using hk
theorem vWithout {x n:Int} {k:Unit→Int × Unit→Prop} (h:oWithout (x,n,()) k):V.vWithout x n k:=by
 obtain ⟨hx,hk⟩:=h
 simp only [] at hx hk
 obtain ⟨a,ha,rfl⟩:=U64.ex hx
 unfold withoutS at hk
 refine br_dec (fun h0=>?_) (fun h0=>br_dec (fun h1=>?_) (fun h1=>⟨by omega,fun n1 hn1 n2 hn2=>?_⟩))
 ·rw [if_pos (.inl h0)] at hk;exact hk
 ·rw [if_pos (.inr h1)] at hk;exact hk
 ·rw [if_neg (by omega)] at hk
  obtain ⟨m,rfl⟩:=Int.eq_ofNat_of_zero_le (show 0≤n by omega)
  rw [shl1 (by omega)] at hn1
  subst hn1
  rw [landnU ha (pow_lt (by omega))] at hn2
  subst hn2
  rw [Int.toNat_natCast] at hk
  unfold minusS at hk
  rw [Int.toNat_natCast,Int.toNat_natCast] at hk
  exact hk
theorem vAllS {n:Int} {k:Unit→Int × Unit→Prop} (h:oAllS (n,()) k):V.vAllS n k:=by
 have hk:k () (allS n,()):=h
 unfold allS at hk
 refine br_dec (fun h0=>?_) (fun h0=>br_dec (fun h1=>?_) (fun h1=>⟨by omega,fun n1 hn1 n2 hn2=>?_⟩))
 ·rw [if_pos h0] at hk;exact hk
 ·rw [if_neg h0,if_pos h1] at hk;exact hk
 ·rw [if_neg h0,if_neg h1] at hk
  obtain ⟨m,rfl⟩:=Int.eq_ofNat_of_zero_le (show 0≤n by omega)
  rw [shl1 (by omega)] at hn1
  subst hn1
  have hp:=pow_lt (show m<64 by omega)
  have h1:1≤2^m:=Nat.one_le_two_pow
  rw [show (((2^m:Nat):Int)-1)=((2^m-1:Nat):Int) by omega,wuN (by omega)] at hn2
  subst hn2
  simpa using hk
theorem U64_with {x n:Int} (h:U64 x):U64 (withS x n):=by
 obtain ⟨a,ha,rfl⟩:=U64.ex h
 unfold withS
 split
 ·exact h
 ·exact U64.nat (Nat.or_lt_two_pow (n:=64) (by simpa using ha) (Nat.pow_lt_pow_right (a:=2) (by decide) (by omega)))
theorem U64_minus {x y:Int} (h:U64 x):U64 (minusS x y):=by
 obtain ⟨a,ha,rfl⟩:=U64.ex h
 unfold minusS
 exact U64.nat (minus_lt (by simpa using ha))
theorem U64_union {x y:Int} (h:U64 x) (h':U64 y):U64 (unionS x y):=by
 obtain ⟨a,ha,rfl⟩:=U64.ex h
 obtain ⟨b,hb,rfl⟩:=U64.ex h'
 unfold unionS
 exact U64.nat (Nat.or_lt_two_pow (n:=64) (by simpa using ha) (by simpa using hb))
theorem U64_without {x n:Int} (h:U64 x):U64 (withoutS x n):=by
 unfold withoutS
 split
 ·exact h
 ·exact U64_minus h
theorem U64_firstN: ∀{n:Nat} {out s:Int},U64 out→U64 (firstN n out s)
 |0,_,_,h=>h
 |n+1,out,s,h=>by
  simp only [firstN]
  exact U64_firstN (U64_with h)
theorem U64_first {s n:Int}:U64 (firstS s n).1:=by
 unfold firstS
 split
 ·exact U64.zero
 ·exact U64_firstN U64.zero
theorem popN_le (x:Nat): ∀n,popN x n≤n
 |0=>Nat.le_refl _
 |n+1=>by
  have:=popN_le x n
  simp only [popN]
  split<;>omega
theorem lenS_le (x:Int):0≤lenS x∧lenS x≤64:=by
 have:=popN_le x.toNat 64
 unfold lenS
 omega
theorem vFirst {x n:Int} {k:Unit→Int × Bool × Unit→Prop} (h:oFirst (x,n,()) k):V.vFirst x n k:=by
 unfold V.vFirst V.LP V.NX V.NM
 obtain ⟨hx,hk⟩:=h
 simp only [] at hx hk
 unfold firstS at hk
 refine br_dec (fun h0=>?_) (fun h0=>⟨hx,br_dec (fun h1=>?_) (fun h1=>?_)⟩)
 ·rw [if_pos (.inl h0)] at hk;exact hk
 ·rw [if_pos (.inr h1)] at hk;exact hk
 ·rw [if_neg (by omega)] at hk
  have hle:=lenS_le x
  refine ⟨fun y=>y.2.2.1=n∧0≤y.2.2.2∧y.2.2.2≤n∧U64 y.1∧U64 y.2.1∧firstN (n-y.2.2.2).toNat y.2.1 y.1=firstN n.toNat 0 x,fun y=>(n-y.2.2.2).toNat,(x,0,n,0),⟨rfl,Int.le_refl _,by simp only [];omega,hx,U64.zero,by simp⟩,⟨⟨rfl,rfl,rfl,rfl,trivial⟩,trivial⟩,?_⟩
  rintro ⟨s,out,n',i⟩ ⟨g1,g2,g3,g4,g5,g6⟩
  simp only [] at g1 g2 g3 g4 g5 g6
  subst g1
  dsimp only
  refine br_dec (fun hi=>⟨g4,g5,g4,fun m hm=>?_⟩) (fun hi=>?_)
  ·rw [w64 (by omega)] at hm
   subst hm
   refine ⟨(withoutS s (lowS s),withS out (lowS s),n',i+1),⟨rfl,by simp only [];omega,by simp only [];omega,U64_without g4,U64_with g5,?_⟩,⟨⟨rfl,rfl,rfl,rfl,trivial⟩,trivial⟩,by simp only [];omega⟩
   simp only []
   rw [←g6,show (n'-i).toNat=(n'-(i+1)).toNat+1 by omega]
   rfl
  ·rw [show (n'-i).toNat=0 by omega] at g6
   simp only [firstN] at g6
   rw [←g6] at hk
   exact hk
end Go.Ax.O
namespace Go.Ax.O
open Go.Ax.Sp Go.Ax.Law
theorem td {α:Type} (l:List α):List.take l.length (List.drop 0 l)=l:=by simp
theorem noneP_no {p:Prof} (h:PW p):noneP (some p)=false:=by
  have:=h.1
  simp only [noneP,List.isEmpty_eq_false_iff]
  exact this
theorem br_f {b:Bool} {A B:Prop} (h:b=false) (h2:B):br b A B:=by subst h;exact h2
theorem vCloneT {l:List Step} {k:Unit→List Step × Unit→Prop} (h:oCloneT (l,()) k):V.vCloneT l k:=by
  obtain ⟨hl,hk⟩:=h
  simp only [] at hl hk
  intro b hb
  refine br_bool (fun h=>?_) (fun _=>⟨Nat.le_refl _,by omega,by simp,hk⟩)
  have:l=[]:=by
    cases l with
    |nil=>rfl
    |cons a r=>rw [hb (by simp)] at h;cases h
  subst this;exact hk
theorem vNoneP {p:Prof} {k:Unit→Bool × Unit→Prop} (h:oNoneP (some p,()) k):V.vNoneP p k:=by
  have h:k () (p.steps.isEmpty,()):=h
  unfold V.vNoneP V.LN
  have:((p.steps.length:Int)==0)=p.steps.isEmpty:=by
    cases p.steps with
    |nil=>rfl
    |cons a r=>simp;omega
  rw [this];exact h
theorem vNonePN {k:Unit→Bool × Unit→Prop} (h:oNoneP (none,()) k):V.vNonePN k:=h
theorem vNow {p:Prof} {k:Unit→Int × Unit→Prop} (h:oNow (p,()) k):V.vNow p k:=by
  unfold V.vNow V.AI
  obtain ⟨hp,hk⟩:=h
  simp only [] at hp hk
  have hl:=List.length_pos_iff.2 hp.1
  refine br_f (noneP_no hp) ⟨⟨by decide,by omega⟩,fun e he=>?_⟩
  obtain ⟨l,v⟩:=p
  cases l with
  |nil=>exact absurd rfl hp.1
  |cons a r=>simp at he;subst he;exact hk
theorem vPSteps {p:Prof} {k:Unit→List Step × Unit→Prop} (h:oPSteps (p,()) k):V.vPSteps p k:=by
  obtain ⟨hp,hk⟩:=h
  simp only [] at hp hk
  exact br_f (noneP_no hp) ⟨by have:=hp.2.2;omega,rfl,hk⟩
theorem vPCopy {p:Prof} {k:Unit→Option Prof × Unit→Prop} (h:oPCopy (p,()) k):V.vPCopy p k:=by
  obtain ⟨hp,hk⟩:=h
  simp only [] at hp hk
  refine br_f (noneP_no hp) ⟨⟨hp,⟨by omega,?_⟩,trivial⟩,trivial⟩
  rw [td];exact hk
theorem vCmpS {s:Step} {t:Int} {k:Unit→Int × Unit→Prop} (h:oCmpS (s,t,()) k):V.vCmpS s t k:=by
  have h:k () (cmpS s.At t,()):=h
  unfold cmpS at h
  refine br_dec (fun h1=>?_) (fun h1=>br_dec (fun h2=>?_) (fun h2=>?_))
  · rw [if_pos h1] at h;exact h
  · rw [if_neg h1,if_pos h2] at h;exact h
  · rw [if_neg h1,if_neg h2] at h;exact h
theorem cmpS_lt {a t:Int}:cmpS a t<0↔a<t:=by
  unfold cmpS;split
  · simp [*]
  · split<;>simp<;>omega
theorem cmpS_eq {a t:Int}:(cmpS a t==0)=decide (a=t):=by
  unfold cmpS;split
  · simp;omega
  · split
    · simp;omega
    · simp;omega
theorem half2 {x n n1 n2 n3:Int} (h0:0≤x) (h1:x≤4611686018427387904) (e1:n=IntKind.i64.wrap x) (e2:n1=IntKind.u64.wrap n) (e3:n2=Int.fdiv n1 (2^min (Int.toNat 1) 64)) (e4:n3=IntKind.i64.wrap n2):n3=x/2:=by
  rw [w64 (by omega)] at e1
  subst e1
  obtain ⟨a,rfl⟩:=Int.eq_ofNat_of_zero_le h0
  rw [wuN (by omega)] at e2
  subst e2
  rw [show min (Int.toNat 1) 64=1 by decide,fdiv2] at e3
  subst e3
  rw [w64 (by omega)] at e4
  rw [e4];omega
theorem vBin {l:List Step} {t:Int} {k:Unit→Int × Bool × Unit→Prop} (h:oBin 0 (l,t,(),()) k):V.vBin l t k:=by
  unfold V.vBin V.LP V.NX V.AI V.NM V.SH V.LN
  obtain ⟨⟨hr,hl⟩,hk⟩:=h
  simp only [] at hr hl hk
  have hal:=ahead_le l t
  refine ⟨fun x=>x.1=l∧x.2.1=t∧0≤x.2.2.1∧x.2.2.1≤aheadL l t∧(aheadL l t:Int)≤x.2.2.2∧x.2.2.2≤l.length,fun x=>(x.2.2.2-x.2.2.1).toNat,(l,t,0,l.length),⟨rfl,rfl,Int.le_refl _,by simp only [];omega,by simp only [];omega,Int.le_refl _⟩,⟨⟨rfl,rfl,trivial,rfl,rfl,rfl,trivial⟩,trivial⟩,?_⟩
  rintro ⟨l',t',i,j⟩ ⟨g1,g2,g3,g4,g5,g6⟩
  simp only [] at g1 g2 g3 g4 g5 g6
  subst g1 g2
  dsimp only
  refine br_dec (fun hij n hn n1 hn1=>⟨by decide,fun n2 hn2 n3 hn3=>?_⟩) (fun hij=>?_)
  · have e:=half2 (by omega) (by omega) hn hn1 hn2 hn3
    subst e
    refine ⟨⟨by omega,by omega⟩,fun s hs=>?_⟩
    have hiff:=ahead_iff hr (t:=t') hs
    refine br_dec (fun hc m hm=>?_) (fun hc=>?_)
    · have:=hiff.1 (cmpS_lt.1 hc)
      rw [w64 (by omega)] at hm
      subst hm
      exact ⟨(l',t',(i+j)/2+1,j),⟨rfl,rfl,by simp only [];omega,by simp only [];omega,g5,g6⟩,⟨⟨rfl,rfl,trivial,rfl,rfl,rfl,trivial⟩,trivial⟩,by simp only [];omega⟩
    · have: ¬ ((i+j)/2).toNat<aheadL l' t':=fun h=>hc (cmpS_lt.2 (hiff.2 h))
      exact ⟨(l',t',i,(i+j)/2),⟨rfl,rfl,g3,g4,by simp only [];omega,by simp only [];omega⟩,⟨⟨rfl,rfl,trivial,rfl,rfl,rfl,trivial⟩,trivial⟩,by simp only [];omega⟩
  · have e:i=(aheadL l' t':Int):=by omega
    subst e
    have hany:l'.any (fun s=>decide (s.At=t'))=(match l'[aheadL l' t']? with |some s=>decide (s.At=t') |none=>false):=by
      have hu:=upto_ahead hr t'
      cases hs:l'[aheadL l' t']? with
      |none=>
        have:l'.length≤aheadL l' t':=by simpa using hs
        have:=upto_le l' t'
        cases hb:l'.any (fun s=>decide (s.At=t')) with
        |false=>rfl
        |true=>rw [hb] at hu;simp at hu;omega
      |some s=>
        simp only []
        have h1:=upto_iff hr (t:=t') hs
        have h2:=ahead_iff hr (t:=t') hs
        cases hb:l'.any (fun s=>decide (s.At=t')) with
        |false=>
          rw [hb] at hu;simp at hu
          have: ¬ s.At≤t':=fun h=>by have:=h1.1 h;omega
          have:s.At≠t':=by omega
          simp [this]
        |true=>
          rw [hb] at hu;simp at hu
          have g1:s.At≤t':=h1.2 (by omega)
          have g2: ¬ s.At<t':=fun h=>by have:=h2.1 h;omega
          have:s.At=t':=by omega
          simp [this]
    refine br_dec (fun hi=>⟨⟨by omega,hi⟩,fun s hs=>?_⟩) (fun hi=>?_)
    · rw [Int.toNat_natCast] at hs
      rw [hs] at hany
      simp only [] at hany
      rw [cmpS_eq,←hany]
      exact hk
    · have:l'[aheadL l' t']? =none:=by simp;omega
      rw [this] at hany
      simp only [] at hany
      rw [←hany]
      exact hk
theorem vIndex {p:Prof} {t:Int} {k:Unit→Int × Unit→Prop} (h:oIndex (p,t,()) k):V.vIndex p t k:=by
  unfold V.vIndex V.NM V.SH
  obtain ⟨hp,hk⟩:=h
  simp only [] at hp hk
  obtain ⟨h0,hr,hl⟩:=hp
  have hal:=ahead_le p.steps t
  rw [idx_eq hr] at hk
  refine ⟨⟨hr,by omega⟩,br_not (fun hb n hn=>?_) (fun hb=>?_)⟩
  · rw [w64 (by omega)] at hn
    subst hn
    simp only [hb] at hk
    exact hk
  · rw [if_neg (by omega)]
    simp only [hb] at hk
    exact hk
theorem vFreeP {p:Prof} {t:Int} {k:Unit→Int × Unit→Prop} (h:oFree (p,t,()) k):V.vFreeP p t k:=by
  unfold V.vFreeP V.AI
  obtain ⟨hp,hk⟩:=h
  simp only [] at hp hk
  have hlt:=idx_lt hp.1 t
  refine br_f (noneP_no hp) ⟨⟨hp,⟨by omega,by omega⟩,fun e he=>?_⟩,trivial⟩
  rw [Int.toNat_natCast] at he
  unfold freeL at hk
  rw [he] at hk
  exact hk
theorem takeWhile_take {l:List Step} {u:Int} {i:Nat} {f:Int→Step→Int} {a:Int} {e:Step} (h:l[i]? =some e) (hall: ∀(p:Nat) (s:Step),p<i→l[p]? =some s→s.At<u):
    (e.At≥u→(l.takeWhile fun s=>decide (s.At<u)).foldl f a=(l.take i).foldl f a):=by
  induction l generalizing i a with
  |nil=>simp at h
  |cons s r ih=>
    intro hu
    cases i with
    |zero=>
      simp at h;subst h
      simp [List.takeWhile_cons,show ¬ s.At<u by omega]
    |succ i=>
      have hs:=hall 0 s (by omega) (by simp)
      rw [List.takeWhile_cons,if_pos (by simpa using hs)]
      simp only [List.foldl_cons,List.take_succ_cons]
      exact ih (by simpa using h) (fun p s hp hps=>hall (p+1) s (by omega) (by simpa using hps)) hu
theorem takeWhile_all {u:Int}: ∀{l:List Step},(∀(p:Nat) (s:Step),l[p]? =some s→s.At<u)→l.takeWhile (fun s=>decide (s.At<u))=l
  | [],_=>rfl
  |s::r,h=>by
    have hs:=h 0 s (by simp)
    rw [List.takeWhile_cons,if_pos (by simpa using hs),takeWhile_all fun p s hp=>h (p+1) s (by simpa using hp)]
theorem max_if (a b:Int):(if b>a then b else a)=max a b:=by simp only [Int.max_def];split<;>split<;>omega
theorem min_if (a b:Int):(if b<a then b else a)=min a b:=by simp only [Int.min_def];split<;>split<;>omega
theorem vLeast {p:Prof} {t u:Int} {k:Unit→Int × Unit→Prop} (h:oLeast (p,t,u,()) k):V.vLeast p t u k:=by
  obtain ⟨hp,hk⟩:=h
  simp only [] at hp hk
  have hlen:=hp.2.2
  unfold leastL at hk
  unfold V.vLeast V.LP V.NX V.AI V.NM V.SH V.LN
  simp only [max_if]
  refine br_f (noneP_no hp) ⟨hp,br_dec (fun h1=>?_) (fun h1=>⟨⟨hp,⟨by omega,by have:=idx_lt hp.1 (max t (nowL p.steps));omega,by omega⟩,?_⟩,trivial⟩)⟩
  · rw [if_pos h1] at hk;exact hk
  · rw [if_neg h1] at hk
    unfold partL at hk
    simp only [Int.toNat_natCast,List.take_length]
    generalize hd:p.steps.drop (idxL p.steps (max t (nowL p.steps)))=d at hk ⊢
    have hdl:d.length≤p.steps.length:=by rw [←hd];simp
    refine ⟨fun x=>x.1=d∧x.2.1=u∧0≤x.2.2.2∧x.2.2.2≤d.length∧x.2.2.1=(d.take x.2.2.2.toNat).foldl (fun n s=>min n s.Free) 64∧ ∀(p:Nat) (s:Step),(p:Int)<x.2.2.2→d[p]? =some s→s.At<u,fun x=>(d.length-x.2.2.2).toNat,(d,u,64,0),⟨rfl,rfl,Int.le_refl _,by simp,by simp,fun p s hp=>by simp only [] at hp;omega⟩,⟨⟨rfl,rfl,rfl,rfl,rfl,trivial⟩,trivial⟩,?_⟩
    rintro ⟨d',u',n,i⟩ ⟨g1,g2,g3,g4,g5,g6⟩
    simp only [] at g1 g2 g3 g4 g5 g6
    subst g1 g2
    obtain ⟨i,rfl⟩:=Int.eq_ofNat_of_zero_le g3
    rw [Int.toNat_natCast] at g5
    dsimp only
    refine br_dec (fun hi=>⟨⟨g3,hi⟩,fun e he=>?_⟩) (fun hi=>?_)
    · rw [Int.toNat_natCast] at he
      refine br_dec (fun hu=>?_) (fun hu m hm=>?_)
      · rw [takeWhile_take he (fun p s hp hs=>g6 p s (by omega) hs) hu,←g5] at hk
        exact hk
      · rw [w64 (by omega)] at hm
        subst hm
        refine ⟨(d',u',min n e.Free,(i:Int)+1),⟨rfl,rfl,by simp only [];omega,by simp only [];omega,?_,fun p s hp hs=>?_⟩,⟨⟨rfl,min_if _ _,rfl,rfl,rfl,trivial⟩,trivial⟩,by simp only [];omega⟩
        · simp only []
          rw [show ((i:Int)+1).toNat=i+1 by omega,List.take_add_one,he]
          simp [g5]
        · simp only [] at hp
          by_cases hpi:p=i
          · subst hpi;rw [he] at hs;cases hs;omega
          · exact g6 p s (by omega) hs
    · rw [takeWhile_all (fun p s hs=>g6 p s (by have:=(List.getElem?_eq_some_iff.1 hs).1;omega) hs)] at hk
      rw [List.take_of_length_le (by omega)] at g5
      rw [←g5] at hk
      exact hk
theorem vMost {p:Prof} {t u:Int} {k:Unit→Int × Unit→Prop} (h:oMost (p,t,u,()) k):V.vMost p t u k:=by
  unfold V.vMost V.LP V.NX V.AI V.NM V.SH V.LN
  obtain ⟨hp,hk⟩:=h
  simp only [] at hp hk
  have hlen:=hp.2.2
  unfold mostL partL at hk
  refine ⟨⟨hp,⟨by omega,by have:=idx_lt hp.1 t;omega,by omega⟩,?_⟩,trivial⟩
  simp only [Int.toNat_natCast,List.take_length]
  generalize hd:p.steps.drop (idxL p.steps t)=d at hk ⊢
  have hdl:d.length≤p.steps.length:=by rw [←hd];simp
  refine ⟨fun x=>x.1=d∧x.2.1=u∧0≤x.2.2.2∧x.2.2.2≤d.length∧x.2.2.1=(d.take x.2.2.2.toNat).foldl (fun n s=>max n s.Free) 0∧ ∀(p:Nat) (s:Step),(p:Int)<x.2.2.2→d[p]? =some s→s.At<u,fun x=>(d.length-x.2.2.2).toNat,(d,u,0,0),⟨rfl,rfl,Int.le_refl _,by simp,by simp,fun p s hp=>by simp only [] at hp;omega⟩,⟨⟨rfl,rfl,rfl,rfl,rfl,trivial⟩,trivial⟩,?_⟩
  rintro ⟨d',u',n,i⟩ ⟨g1,g2,g3,g4,g5,g6⟩
  simp only [] at g1 g2 g3 g4 g5 g6
  subst g1 g2
  obtain ⟨i,rfl⟩:=Int.eq_ofNat_of_zero_le g3
  rw [Int.toNat_natCast] at g5
  dsimp only
  refine br_dec (fun hi=>⟨⟨g3,hi⟩,fun e he=>?_⟩) (fun hi=>?_)
  · rw [Int.toNat_natCast] at he
    refine br_dec (fun hu=>?_) (fun hu m hm=>?_)
    · rw [takeWhile_take he (fun p s hp hs=>g6 p s (by omega) hs) hu,←g5] at hk
      exact hk
    · rw [w64 (by omega)] at hm
      subst hm
      refine ⟨(d',u',max n e.Free,(i:Int)+1),⟨rfl,rfl,by simp only [];omega,by simp only [];omega,?_,fun p s hp hs=>?_⟩,⟨⟨rfl,max_if _ _,rfl,rfl,rfl,trivial⟩,trivial⟩,by simp only [];omega⟩
      · simp only []
        rw [show ((i:Int)+1).toNat=i+1 by omega,List.take_add_one,he]
        simp [g5]
      · simp only [] at hp
        by_cases hpi:p=i
        · subst hpi;rw [he] at hs;cases hs;omega
        · exact g6 p s (by omega) hs
  · rw [takeWhile_all (fun p s hs=>g6 p s (by have:=(List.getElem?_eq_some_iff.1 hs).1;omega) hs)] at hk
    rw [List.take_of_length_le (by omega)] at g5
    rw [←g5] at hk
    exact hk
theorem vSame {a b:Step} {k:Unit→Bool × Unit→Prop} (h:oSame (a,b,()) k):V.vSame a b k:=by
  have h:k () (decide (a.Free=b.Free),()):=h
  exact h
theorem vRel {p:Prof} {s:Span} {k:Prof × Unit→Int × Unit→Prop} (h:oRel (p,s,()) k):V.vRel p s k:=h
theorem vRes {p:Prof} {s:Span} {k:Prof × Unit→Int × Unit→Prop} (h:oRes (p,s,()) k):V.vRes p s k:=by
  unfold V.vRes V.NM
  intro n hn
  subst hn
  exact h
theorem vNewP {n:Int} {k:Unit→Option Prof × Int × Unit→Prop} (h:oNewP (n,()) k):V.vNewP n k:=by
  obtain ⟨⟨h1,h2⟩,hk⟩:=h
  have h1:(1:Int)≤n:=h1
  have h2:n≤(64:Int):=h2
  exact br_dec (fun h=>absurd h (by omega)) (fun _=>br_dec (fun h=>absurd h (by omega)) (fun _=>⟨Nat.le_refl _,hk⟩))
theorem vJoin1 {p:Prof} {k:Prof × Unit→Unit→Prop} (h:oJoin1 (p,()) k):V.vJoin1 p k:=by
  unfold V.vJoin1 V.SH
  obtain ⟨hl,hk⟩:=h
  refine ⟨rfl,hl,by omega,?_⟩
  rw [td];exact hk
end Go.Ax.O
