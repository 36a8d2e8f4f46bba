import Derived.Test.YtbmabiedmdlinaaGreatDoorAxO60
import Derived.Test.YtbmabiedmdlinaaGreatDoorAxV9
set_option linter.all false
namespace Go.Ax.Law
def toSim (p:Plain28):Sim:=⟨p.S,p.depth,p.l,p.pos,p.run,[],p.entry,p.lost,0⟩
def ofSim (p:Plain28) (s:Sim):Plain28:=⟨s.S,p.depth,p.l,s.pos,s.run,s.tentry,s.lost⟩
def donePl (run:List Int) (j:Job):Int:=if j.Id<1∨(run.length:Int)<j.Id then 0 else wr (j.Start+(run[(j.Id-1).toNat]?).getD 0)
def someE (l:List Entry):List Entry:=(l.filter fun e=>rightE e&&decide (e.At≤1048576)).take 15
end Go.Ax.Law
namespace Go.Ax.Sp
def sSomeE:Sig:=⟨[(.imm .entry,false)],[.row .entry]⟩
def oSomeE:sSomeE.Out:=fun x k=>x.1.length≤9223372036854775807∧k () (Law.someE x.1,())
def sDonePl:Sig:=⟨[(.view .plain28,false),(.elem .job,false)],[.int .i64]⟩
def oDonePl:sDonePl.Out:=fun x k=>(x.2.1.Id≤1000000)∧k () (Law.donePl x.1.run x.2.1,())
def sNextPl28:Sig:=⟨[(.obj .plain28,true)],[.int .i64]⟩
def oNextPl28:sNextPl28.Out:=fun x k=>Law.SimOK (Law.toSim x.1)∧k (x.1,()) (Law.nextS (Law.toSim x.1),())
def sStepPl:Sig:=⟨[(.obj .plain28,true)],[.bool]⟩
def oStepPl:sStepPl.Out:=fun x k=>(Law.SimOK (Law.toSim x.1)∧1≤x.1.depth∧x.1.depth≤64)∧k (Law.ofSim x.1 (Law.stepM (Law.toSim x.1)).2,()) ((Law.stepM (Law.toSim x.1)).1,())
def sSame28:Sig:=⟨[(.imm .job,false),(.imm .i64,false),(.int .i64,false),(.int .i64,false),(.obj .plain28,true)],[.bool]⟩
def oSame28:sSame28.Out:=fun x k=>(Law.SimOK (Law.toSim x.2.2.2.2.1)∧x.1=x.2.2.2.2.1.S.C.J.jobs∧x.2.1=x.2.2.2.2.1.entry∧x.2.2.1=x.2.2.2.2.1.lost∧x.2.2.2.1=Law.nowC x.2.2.2.2.1.S.C)∧k (x.2.2.2.2.1,()) (true,())
def sSimP:Sig:=⟨[(.int .i64,false),(.int .i64,false),(.imm .entry,false),(.int .i64,false)],[.bool]⟩
def oSimP:sSimP.Out:=fun x k=>x.2.2.1.length≤9223372036854775807∧k () (true,())
def lSomeE:LoopAnn:={X:=List Entry × List Entry × Int,live:=fun x=>[(0,.imm .entry x.1),(3,.sl 0 6 0 x.2.1.length),(4,.int .i64 x.2.2)],heap:=fun x=>[some (.row .entry x.2.1)],norm:=[.row 3 .entry,.home 3 0]}
def lNextP:LoopAnn:={X:=Plain28 × Int × List Job × Int,live:=fun x=>[(0,.ptr ⟨0,0,0,0⟩),(3,.int .i64 x.2.1),(4,.sl 9 10 0 x.2.2.1.length),(5,.int .i64 x.2.2.2)],heap:=fun x=>[some (.obj .plain28 x.1),none,none,none,none,none,none,none,none,some (.row .job x.2.2.1)],norm:=[.fold 0 .plain28]}
def lStepP1:LoopAnn:={X:=Plain28 × List Job × Int,live:=fun x=>[(0,.ptr ⟨0,0,0,0⟩),(4,.sl 10 10 0 x.2.1.length),(5,.int .i64 x.2.2)],heap:=fun x=>[some (.obj .plain28 x.1),none,none,none,none,none,none,none,none,none,some (.row .job x.2.1)],norm:=[.fold 0 .plain28,.home 4 10]}
def lStepP2:LoopAnn:={X:=Plain28 × Int,live:=fun x=>[(0,.ptr ⟨0,0,0,0⟩),(6,.int .i64 x.2)],heap:=fun x=>[some (.obj .plain28 x.1)],norm:=[.fold 0 .plain28]}
def lSame28:LoopAnn:={X:=List Job × List Int × Int × Int × Plain28 × Int,live:=fun x=>[(1,.ptr ⟨0,0,0,0⟩),(2,.ptr ⟨1,0,0,0⟩),(5,.int .i64 x.2.2.2.2.2)],heap:=fun x=>[some (.obj .plain28 x.2.2.2.2.1),some (.raw [.imm .job x.1,.imm .i64 x.2.1,.int .i64 x.2.2.1,.int .i64 x.2.2.2.1])],norm:=[.fold 0 .plain28]}
def lSimP:LoopAnn:={X:=Int × Sim × Plain28 × Int,live:=fun x=>[(3,.int .i64 x.1),(9,.ptr ⟨1,0,0,0⟩),(13,.ptr ⟨4,0,0,0⟩),(14,.int .i64 x.2.2.2)],heap:=fun x=>[none,some (.obj .sim x.2.1),none,none,some (.obj .plain28 x.2.2.1)],norm:=[.fold 1 .sim,.fold 4 .plain28]}
end Go.Ax.Sp
namespace Go.Ax.V
open Go.Ax.Sp Go.Ax.Law List Int IntKind
set_option maxRecDepth 100000
def vSomeE (l:List Entry) (k:Unit→List Entry × Unit→Prop):Prop:=
LP (List Entry × List Entry × Int) (fun x=>(l=x.1∧(0=0∧0=length x.2.1)∧0=x.2.2∧True)∧[]=x.2.1∧True) fun I m x=>SH (length x.2.1) fun s0=>SH (NM (x.2.2+1) fun n=>NX I m x fun y=>(x.1=y.1∧(0=0∧s0=length y.2.1)∧n=y.2.2∧True)∧x.2.1=y.2.1∧True) fun s1=>br (decide (x.2.2<LN x.1)) (br (decide (LN x.2.1<15)) (AI x.1 x.2.2 fun e=>br (rightE e) (AI x.1 x.2.2 fun e=>br (decide (e.At≤1048576)) (AI x.1 x.2.2 fun e=>1≤1∧0+s0≤s0∧s0+1≤68719476736∧NM (x.2.2+1) fun n=>NX I m x fun y=>(x.1=y.1∧(0=0∧s0+1=length y.2.1)∧n=y.2.2∧True)∧take s0 (drop 0 x.2.1)++[e]=y.2.1∧True) s1) s1) (s0=s0∧k () (x.2.1,()))) (s0=s0∧k () (x.2.1,()))
def vDonePl (p:Plain28) (j:Job) (k:Unit→Int × Unit→Prop):Prop:=
br (decide (j.Id<1)) (k () (0,())) (br (decide (j.Id>LN p.run)) (k () (0,())) (NM (j.Id-1) fun n=>AI p.run n fun e=>NM (j.Start+e) fun n=>k () (n,())))
def vNextPl28 (p:Plain28) (k:Plain28 × Unit→Int × Unit→Prop):Prop:=
SH (Plain28.mk p.S p.depth (take (length p.l) (drop 0 p.l)) p.pos (take (length p.run) (drop 0 p.run)) (take (length p.entry) (drop 0 p.entry)) p.lost) fun s0=>SH (length p.entry) fun s1=>SH p.S.C.J.jobs fun s2=>SH (length p.run) fun s3=>SH (0+length p.l≤length p.l) fun s4=>br (decide (p.pos<LN p.l)) (AT p.l p.pos fun e=>JW p.S.C.J∧LP (Plain28 × Int × List Job × Int) (fun x=>s4∧0+s3≤s3∧0+s1≤s1∧(0=0∧e.At=x.2.1∧(0=0∧length s2=length x.2.2.1)∧0=x.2.2.2∧True)∧s0=x.1∧s2=x.2.2.1∧True) fun I m x=>SH x.2.2.1 fun s5=>SH x.2.2.2 fun s6=>SH (length s5) fun s7=>SH x.1.run fun s8=>SH (SH (NM (s6+1) fun n=>NX I m x fun y=>(0=0∧x.2.1=y.2.1∧(0=0∧s7=length y.2.2.1)∧n=y.2.2.2∧True)∧x.1=y.1∧s5=y.2.2.1∧True) fun s10=>SH (AT s5 s6 fun e=>NM (s6+1) fun n=>NX I m x fun y=>(0=0∧e.Plan=y.2.1∧(0=0∧s7=length y.2.2.1)∧n=y.2.2.2∧True)∧x.1=y.1∧s5=y.2.2.1∧True) fun s11=>SH (AT s5 s6 fun e=>br (e.State==1) (AT s5 s6 fun e=>br (decide (e.Plan≥0)) (AT s5 s6 fun e=>br (decide (e.Plan<x.2.1)) s11 s10) s10) s10) fun s12=>AT s5 s6 fun e=>br (e.State==3) (AT s5 s6 fun e=>e.Id≤1000000∧br (decide (donePl s8 e<x.2.1)) (AT s5 s6 fun e=>SH (NM (s6+1) fun n=>NX I m x fun y=>(0=0∧donePl s8 e=y.2.1∧(0=0∧s7=length y.2.2.1)∧n=y.2.2.2∧True)∧x.1=y.1∧s5=y.2.2.1∧True) fun s13=>e.Id≤1000000∧AT s5 s6 fun e_1=>br (e_1.State==1) (AT s5 s6 fun e_2=>br (decide (e_2.Plan≥0)) (AT s5 s6 fun e_3=>br (decide (e_3.Plan<donePl s8 e)) s11 s13) s13) s13) s12) s12) fun s9=>SH (AT s5 s6 fun e=>NM (s6+1) fun n=>NX I m x fun y=>(0=0∧e.Plan=y.2.1∧(0=0∧s7=length y.2.2.1)∧n=y.2.2.2∧True)∧x.1=y.1∧s5=y.2.2.1∧True) fun s10=>br (decide (s6<LN s5)) (AT s5 s6 fun e=>br (e.State==3) (AT s5 s6 fun e=>br (decide (e.End<x.2.1)) (AT s5 s6 fun e=>SH (NM (s6+1) fun n=>NX I m x fun y=>(0=0∧e.End=y.2.1∧(0=0∧s7=length y.2.2.1)∧n=y.2.2.2∧True)∧x.1=y.1∧s5=y.2.2.1∧True) fun s11=>SH (AT s5 s6 fun e_2=>br (e_2.State==1) (AT s5 s6 fun e_3=>br (decide (e_3.Plan≥0)) (AT s5 s6 fun e_4=>br (decide (e_4.Plan<e.End)) s10 s11) s11) s11) fun s12=>AT s5 s6 fun e_1=>br (e_1.State==3) (AT s5 s6 fun e_2=>e_2.Id≤1000000∧br (decide (donePl s8 e_2<e.End)) (AT s5 s6 fun e=>SH (NM (s6+1) fun n=>NX I m x fun y=>(0=0∧donePl s8 e=y.2.1∧(0=0∧s7=length y.2.2.1)∧n=y.2.2.2∧True)∧x.1=y.1∧s5=y.2.2.1∧True) fun s13=>e.Id≤1000000∧AT s5 s6 fun e_3=>br (e_3.State==1) (AT s5 s6 fun e_4=>br (decide (e_4.Plan≥0)) (AT s5 s6 fun e_5=>br (decide (e_5.Plan<donePl s8 e)) s10 s13) s13) s13) s12) s12) s9) s9) (k (x.1,()) (x.2.1,()))) (JW p.S.C.J∧LP (Plain28 × Int × List Job × Int) (fun x=>s4∧0+s3≤s3∧0+s1≤s1∧(0=0∧1152921504606846976=x.2.1∧(0=0∧length s2=length x.2.2.1)∧0=x.2.2.2∧True)∧s0=x.1∧s2=x.2.2.1∧True) fun I m x=>SH x.2.2.1 fun s5=>SH x.2.2.2 fun s6=>SH (length s5) fun s7=>SH x.1.run fun s8=>SH (SH (NM (s6+1) fun n=>NX I m x fun y=>(0=0∧x.2.1=y.2.1∧(0=0∧s7=length y.2.2.1)∧n=y.2.2.2∧True)∧x.1=y.1∧s5=y.2.2.1∧True) fun s10=>SH (AT s5 s6 fun e=>NM (s6+1) fun n=>NX I m x fun y=>(0=0∧e.Plan=y.2.1∧(0=0∧s7=length y.2.2.1)∧n=y.2.2.2∧True)∧x.1=y.1∧s5=y.2.2.1∧True) fun s11=>SH (AT s5 s6 fun e=>br (e.State==1) (AT s5 s6 fun e=>br (decide (e.Plan≥0)) (AT s5 s6 fun e=>br (decide (e.Plan<x.2.1)) s11 s10) s10) s10) fun s12=>AT s5 s6 fun e=>br (e.State==3) (AT s5 s6 fun e=>e.Id≤1000000∧br (decide (donePl s8 e<x.2.1)) (AT s5 s6 fun e=>SH (NM (s6+1) fun n=>NX I m x fun y=>(0=0∧donePl s8 e=y.2.1∧(0=0∧s7=length y.2.2.1)∧n=y.2.2.2∧True)∧x.1=y.1∧s5=y.2.2.1∧True) fun s13=>e.Id≤1000000∧AT s5 s6 fun e_1=>br (e_1.State==1) (AT s5 s6 fun e_2=>br (decide (e_2.Plan≥0)) (AT s5 s6 fun e_3=>br (decide (e_3.Plan<donePl s8 e)) s11 s13) s13) s13) s12) s12) fun s9=>SH (AT s5 s6 fun e=>NM (s6+1) fun n=>NX I m x fun y=>(0=0∧e.Plan=y.2.1∧(0=0∧s7=length y.2.2.1)∧n=y.2.2.2∧True)∧x.1=y.1∧s5=y.2.2.1∧True) fun s10=>br (decide (s6<LN s5)) (AT s5 s6 fun e=>br (e.State==3) (AT s5 s6 fun e=>br (decide (e.End<x.2.1)) (AT s5 s6 fun e=>SH (NM (s6+1) fun n=>NX I m x fun y=>(0=0∧e.End=y.2.1∧(0=0∧s7=length y.2.2.1)∧n=y.2.2.2∧True)∧x.1=y.1∧s5=y.2.2.1∧True) fun s11=>SH (AT s5 s6 fun e_2=>br (e_2.State==1) (AT s5 s6 fun e_3=>br (decide (e_3.Plan≥0)) (AT s5 s6 fun e_4=>br (decide (e_4.Plan<e.End)) s10 s11) s11) s11) fun s12=>AT s5 s6 fun e_1=>br (e_1.State==3) (AT s5 s6 fun e_2=>e_2.Id≤1000000∧br (decide (donePl s8 e_2<e.End)) (AT s5 s6 fun e=>SH (NM (s6+1) fun n=>NX I m x fun y=>(0=0∧donePl s8 e=y.2.1∧(0=0∧s7=length y.2.2.1)∧n=y.2.2.2∧True)∧x.1=y.1∧s5=y.2.2.1∧True) fun s13=>e.Id≤1000000∧AT s5 s6 fun e_3=>br (e_3.State==1) (AT s5 s6 fun e_4=>br (decide (e_4.Plan≥0)) (AT s5 s6 fun e_5=>br (decide (e_5.Plan<donePl s8 e)) s10 s13) s13) s13) s12) s12) s9) s9) (k (x.1,()) (x.2.1,())))
def vStepPl (p:Plain28) (k:Plain28 × Unit→Bool × Unit→Prop):Prop:=
SH (length p.entry) fun s0=>SH (length p.run) fun s1=>SH (length p.l) fun s2=>SH ((0:Int)≤4∧(4:Int)≤1000) fun s3=>SimOK (toSim p)∧br (decide (nextS (toSim p)>1099511627776)) (k (p,()) (false,())) (PW p.S.C.P∧br (decide (nextS (toSim p)>nowL p.S.C.P.steps)) ((PW p.S.C.P∧NM (nextS (toSim p)-nowL p.S.C.P.steps) fun n=>SH (wholeW (newW (Req.mk (9:Int) (0:Int) (0:Int) (0:Int) (0:Int) (0:Int) false (0:Int) n)) p.S.C).2.2 fun s4=>(OkS p.S.C∧(1:Nat)≤1∧(JW s4.J∧(1:Nat)≤1000)∧LP (Plain28 × List Job × Int) (fun x=>0+s2≤s2∧0+s1≤s1∧0+s0≤s0∧((0:Nat)=0∧((0:Nat)=0∧length (inJ s4.J.jobs [(3:Int)])=length x.2.1)∧0=x.2.2∧True)∧Plain28.mk (Sched.mk s4) p.depth (take s2 (drop (0:Nat) p.l)) p.pos (take s1 (drop (0:Nat) p.run)) (take s0 (drop (0:Nat) p.entry)) p.lost=x.1∧inJ s4.J.jobs [(3:Int)]=x.2.1∧True) fun I m x=>SH (length x.1.entry) fun s5=>SH (length x.1.run) fun s6=>SH (length x.1.l) fun s7=>SH (Plain28.mk x.1.S x.1.depth (take s7 (drop (0:Nat) x.1.l)) x.1.pos (take s6 (drop (0:Nat) x.1.run)) (take s5 (drop (0:Nat) x.1.entry)) x.1.lost) fun s8=>SH (0+s5≤s5) fun s9=>SH (0+s6≤s6) fun s10=>SH (0+s7≤s7) fun s11=>br (decide (x.2.2<LN x.2.1)) (AT x.2.1 x.2.2 fun e=>(s11∧s10∧s9∧e.Id≤1000000∧(PW x.1.S.C.P∧br (decide (donePl (take s6 (drop (0:Nat) x.1.run)) e≤nowL x.1.S.C.P.steps)) (AT x.2.1 x.2.2 fun e=>(OkS x.1.S.C∧NM (x.2.2+1) fun n=>NX I m x fun y=>s11∧s10∧s9∧((0:Nat)=0∧((0:Nat)=0∧length x.2.1=length y.2.1)∧n=y.2.2∧True)∧Plain28.mk (Sched.mk (wholeW (newW (Req.mk (5:Int) e.Id (0:Int) (0:Int) (0:Int) (0:Int) false (0:Int) (0:Int))) x.1.S.C).2.2) x.1.depth (take s7 (drop (0:Nat) x.1.l)) x.1.pos (take s6 (drop (0:Nat) x.1.run)) (take s5 (drop (0:Nat) x.1.entry)) x.1.lost=y.1∧x.2.1=y.2.1∧True)∧True) (NM (x.2.2+1) fun n=>NX I m x fun y=>s11∧s10∧s9∧((0:Nat)=0∧((0:Nat)=0∧length x.2.1=length y.2.1)∧n=y.2.2∧True)∧s8=y.1∧x.2.1=y.2.1∧True))∧True)∧True) (LP (Plain28 × Int) (fun x_1=>s11∧s10∧s9∧((0:Nat)=0∧x.1.pos=x_1.2∧True)∧s8=x_1.1∧True) fun I m x=>SH (length x.1.entry) fun s12=>SH (length x.1.run) fun s13=>SH (length x.1.l) fun s14=>SH (take s12 (drop (0:Nat) x.1.entry)) fun s15=>SH (take s13 (drop (0:Nat) x.1.run)) fun s16=>SH x.1.S.C fun s17=>SH (take s14 (drop (0:Nat) x.1.l)) fun s18=>SH x.1.depth fun s19=>SH (s15++[x.2]) fun s20=>SH (x.2+1) fun s21=>SH (Plain28.mk (Sched.mk (settleS s17 s19 (4:Int)).2) s19 s18 x.1.pos s16 s15 x.1.lost,()) fun s22=>SH (((OkS s17∧s3)∧0+s14≤s14∧0+s13≤s13∧0+s12≤s12∧k s22 (true,()))∧True) fun s23=>SH (0+s12≤s12) fun s24=>SH (0+s13≤s13) fun s25=>SH (0+s14≤s14) fun s26=>br (decide (x.2<LN x.1.l)) (AT x.1.l x.2 fun e=>(PW s17.P∧br (decide (e.At≤nowL s17.P.steps)) (AT x.1.l x.2 fun e=>SH (wholeW (newW (Req.mk (1:Int) (0:Int) e.User e.Width e.Limit e.Prio false (0:Int) (0:Int))) s17).2 fun s27=>SH (s16++[e.Run]) fun s28=>SH (br (!s27.1.reply.Err==0) (NM (x.1.lost+1) fun n=>NM s21 fun n_1=>NM s21 fun n_2=>NX I m x fun y=>s26∧s25∧s24∧((0:Nat)=0∧n_2=y.2∧True)∧Plain28.mk (Sched.mk s27.2) s19 s18 n_1 s16 s15 n=y.1∧True) ((((1:Nat)≤1∧s25∧s13+1≤68719476736∧((1:Nat)≤1∧s24∧s12+1≤68719476736∧NM s21 fun n=>NM s21 fun n_1=>NX I m x fun y=>s26∧(0:Nat)+(s13+1)≤length s28∧(0:Nat)+(s12+1)≤length s20∧((0:Nat)=0∧n_1=y.2∧True)∧Plain28.mk (Sched.mk s27.2) s19 s18 n (take (s13+1) (drop (0:Nat) s28)) (take (s12+1) (drop (0:Nat) s20)) x.1.lost=y.1∧True)∧True)∧True)∧True)∧True) fun s29=>(OkS s17∧s29∧True)∧((OkS s17∧s29)∧True)∧True) s23)∧True) (s23∧True)))∧True)∧True) ((1:Nat)≤1∧(JW p.S.C.J∧(1:Nat)≤1000)∧LP (Plain28 × List Job × Int) (fun x=>0+s2≤s2∧0+s1≤s1∧0+s0≤s0∧((0:Nat)=0∧((0:Nat)=0∧length (inJ p.S.C.J.jobs [(3:Int)])=length x.2.1)∧0=x.2.2∧True)∧Plain28.mk p.S p.depth (take s2 (drop (0:Nat) p.l)) p.pos (take s1 (drop (0:Nat) p.run)) (take s0 (drop (0:Nat) p.entry)) p.lost=x.1∧inJ p.S.C.J.jobs [(3:Int)]=x.2.1∧True) fun I m x=>SH (length x.1.entry) fun s4=>SH (length x.1.run) fun s5=>SH (length x.1.l) fun s6=>SH (Plain28.mk x.1.S x.1.depth (take s6 (drop (0:Nat) x.1.l)) x.1.pos (take s5 (drop (0:Nat) x.1.run)) (take s4 (drop (0:Nat) x.1.entry)) x.1.lost) fun s7=>SH (0+s4≤s4) fun s8=>SH (0+s5≤s5) fun s9=>SH (0+s6≤s6) fun s10=>br (decide (x.2.2<LN x.2.1)) (AT x.2.1 x.2.2 fun e=>(s10∧s9∧s8∧e.Id≤1000000∧(PW x.1.S.C.P∧br (decide (donePl (take s5 (drop (0:Nat) x.1.run)) e≤nowL x.1.S.C.P.steps)) (AT x.2.1 x.2.2 fun e=>(OkS x.1.S.C∧NM (x.2.2+1) fun n=>NX I m x fun y=>s10∧s9∧s8∧((0:Nat)=0∧((0:Nat)=0∧length x.2.1=length y.2.1)∧n=y.2.2∧True)∧Plain28.mk (Sched.mk (wholeW (newW (Req.mk (5:Int) e.Id (0:Int) (0:Int) (0:Int) (0:Int) false (0:Int) (0:Int))) x.1.S.C).2.2) x.1.depth (take s6 (drop (0:Nat) x.1.l)) x.1.pos (take s5 (drop (0:Nat) x.1.run)) (take s4 (drop (0:Nat) x.1.entry)) x.1.lost=y.1∧x.2.1=y.2.1∧True)∧True) (NM (x.2.2+1) fun n=>NX I m x fun y=>s10∧s9∧s8∧((0:Nat)=0∧((0:Nat)=0∧length x.2.1=length y.2.1)∧n=y.2.2∧True)∧s7=y.1∧x.2.1=y.2.1∧True))∧True)∧True) (LP (Plain28 × Int) (fun x_1=>s10∧s9∧s8∧((0:Nat)=0∧x.1.pos=x_1.2∧True)∧s7=x_1.1∧True) fun I m x=>SH (length x.1.entry) fun s11=>SH (length x.1.run) fun s12=>SH (length x.1.l) fun s13=>SH (take s11 (drop (0:Nat) x.1.entry)) fun s14=>SH (take s12 (drop (0:Nat) x.1.run)) fun s15=>SH x.1.S.C fun s16=>SH (take s13 (drop (0:Nat) x.1.l)) fun s17=>SH x.1.depth fun s18=>SH (s14++[x.2]) fun s19=>SH (x.2+1) fun s20=>SH (Plain28.mk (Sched.mk (settleS s16 s18 (4:Int)).2) s18 s17 x.1.pos s15 s14 x.1.lost,()) fun s21=>SH (((OkS s16∧s3)∧0+s13≤s13∧0+s12≤s12∧0+s11≤s11∧k s21 (true,()))∧True) fun s22=>SH (0+s11≤s11) fun s23=>SH (0+s12≤s12) fun s24=>SH (0+s13≤s13) fun s25=>br (decide (x.2<LN x.1.l)) (AT x.1.l x.2 fun e=>(PW s16.P∧br (decide (e.At≤nowL s16.P.steps)) (AT x.1.l x.2 fun e=>SH (wholeW (newW (Req.mk (1:Int) (0:Int) e.User e.Width e.Limit e.Prio false (0:Int) (0:Int))) s16).2 fun s26=>SH (s15++[e.Run]) fun s27=>SH (br (!s26.1.reply.Err==0) (NM (x.1.lost+1) fun n=>NM s20 fun n_1=>NM s20 fun n_2=>NX I m x fun y=>s25∧s24∧s23∧((0:Nat)=0∧n_2=y.2∧True)∧Plain28.mk (Sched.mk s26.2) s18 s17 n_1 s15 s14 n=y.1∧True) ((((1:Nat)≤1∧s24∧s12+1≤68719476736∧((1:Nat)≤1∧s23∧s11+1≤68719476736∧NM s20 fun n=>NM s20 fun n_1=>NX I m x fun y=>s25∧(0:Nat)+(s12+1)≤length s27∧(0:Nat)+(s11+1)≤length s19∧((0:Nat)=0∧n_1=y.2∧True)∧Plain28.mk (Sched.mk s26.2) s18 s17 n (take (s12+1) (drop (0:Nat) s27)) (take (s11+1) (drop (0:Nat) s19)) x.1.lost=y.1∧True)∧True)∧True)∧True)∧True) fun s28=>(OkS s16∧s28∧True)∧((OkS s16∧s28)∧True)∧True) s22)∧True) (s22∧True))))
def vSame28 (a:List Job) (b:List Int) (c:Int) (d:Int) (p:Plain28) (k:Plain28 × Unit→Bool × Unit→Prop):Prop:=
SH (Plain28.mk p.S p.depth (take (length p.l) (drop 0 p.l)) p.pos (take (length p.run) (drop 0 p.run)) (take (length p.entry) (drop 0 p.entry)) p.lost) fun s0=>SH (length p.entry) fun s1=>SH (length p.run) fun s2=>SH (length p.l) fun s3=>SH (length p.S.C.J.jobs) fun s4=>SH (0+s3≤s3∧0+s2≤s2∧0+s1≤s1∧k (s0,()) (false,())) fun s5=>(JW p.S.C.J∧(0+s4≤s4∧length a≤1099511627776∧br (!sameJ a (take s4 (drop 0 p.S.C.J.jobs))) (s5∧True) (br (!LN b==LN p.entry) (s5∧True) (br (!c==p.lost) (s5∧True) ((PW p.S.C.P∧br (!d==nowL p.S.C.P.steps) s5 (LP (List Job × List Int × Int × Int × Plain28 × Int) (fun x=>0+s3≤s3∧0+s2≤s2∧0+s1≤s1∧(0=0∧0=0∧0=x.2.2.2.2.2∧True)∧s0=x.2.2.2.2.1∧(a=x.1∧b=x.2.1∧c=x.2.2.1∧d=x.2.2.2.1∧True)∧True) fun I m x=>SH x.2.2.2.2.1 fun s6=>SH (Plain28.mk s6.S s6.depth (take (length s6.l) (drop 0 s6.l)) s6.pos (take (length s6.run) (drop 0 s6.run)) (take (length s6.entry) (drop 0 s6.entry)) s6.lost) fun s7=>SH (length s6.entry) fun s8=>SH (length s6.run) fun s9=>SH (length s6.l) fun s10=>SH x.2.2.2.2.2 fun s11=>br (decide (s11<LN s6.entry)) (AI x.2.1 s11 fun e=>AT s6.entry s11 fun e_1=>br (!e==e_1) (0+s10≤s10∧0+s9≤s9∧0+s8≤s8∧k (s7,()) (false,())) (NM (s11+1) fun n=>NX I m x fun y=>0+s10≤s10∧0+s9≤s9∧0+s8≤s8∧(0=0∧0=0∧n=y.2.2.2.2.2∧True)∧s7=y.2.2.2.2.1∧(x.1=y.1∧x.2.1=y.2.1∧x.2.2.1=y.2.2.1∧x.2.2.2.1=y.2.2.2.1∧True)∧True)) (0+s10≤s10∧0+s9≤s9∧0+s8≤s8∧k (s7,()) (true,()))))∧True))))∧True)∧True
end Go.Ax.V
namespace Go.Ax.Law
open Go.Ax.O
theorem fold_min1 (run:List Int) (c:Int): ∀(l:List Job) (t:Int),l.foldl (fun t j=>min (min t j.End) (doneS run j)) (min t c)=min (l.foldl (fun t j=>min (min t j.End) (doneS run j)) t) c
  | [],_=>rfl
  |j::l,t=>by
    simp only [List.foldl_cons]
    rw [show min (min (min t c) j.End) (doneS run j)=min (min (min t j.End) (doneS run j)) c by omega]
    exact fold_min1 run c l _
def nextF (run:List Int) (t:Int) (e:Job):Int:=
  if e.State=3 then (if donePl run e<(if e.End<t then e.End else t) then donePl run e else (if e.End<t then e.End else t))
  else if e.State=1∧0≤e.Plan∧e.Plan<t then e.Plan else t
theorem spans_cons (j:Job) (l:List Job):spansC (j::l)=if (planS j).2=true then (planS j).1::spansC l else spansC l:=by
  unfold spansC inJ
  by_cases h:(planS j).2=true
  · have hs:=(planS_some h).1
    rw [if_pos h,List.filter_cons_of_pos (by simp [hs]),List.filterMap_cons_some (b:=(planS j).1) (by rw [if_pos h])]
  · rw [if_neg h]
    by_cases h1:[(1:Int)].contains j.State=true
    · rw [List.filter_cons_of_pos (p:=fun j:Job=>[(1:Int)].contains j.State) h1,List.filterMap_cons_none (by rw [if_neg h])]
    · rw [List.filter_cons_of_neg (p:=fun j:Job=>[(1:Int)].contains j.State) h1]
theorem next_fold (run:List Int): ∀(l:List Job),(∀j∈l,j.State=3→doneS run j=donePl run j)→ ∀t,l.foldl (nextF run) t=(spansC l).foldl (fun t x=>min t x.From) ((inJ l [3]).foldl (fun t j=>min (min t j.End) (doneS run j)) t)
  | [],_,_=>rfl
  |j::l,h,t=>by
    have ih:=next_fold run l (fun a ha=>h a (List.mem_cons_of_mem _ ha))
    rw [List.foldl_cons,ih,spans_cons]
    by_cases h3:j.State=3
    · have hd:=h j List.mem_cons_self h3
      have hp: ¬ (planS j).2=true:=fun hh=>by have:=(planS_some hh).1;omega
      have hin:inJ (j::l) [3]=j::inJ l [3]:=by unfold inJ;rw [List.filter_cons_of_pos (by simp [h3])]
      have e1:nextF run t j=min (min t j.End) (doneS run j):=by
        unfold nextF;rw [if_pos h3,hd];split<;>split<;>omega
      rw [if_neg hp,hin,List.foldl_cons,e1]
    · have hin:inJ (j::l) [3]=inJ l [3]:=by unfold inJ;rw [List.filter_cons_of_neg (by simp [h3])]
      rw [hin]
      by_cases hp:(planS j).2=true
      · obtain ⟨g1,g2,g3⟩:=planS_some hp
        have e1:nextF run t j=min t j.Plan:=by
          unfold nextF;rw [if_neg h3];split<;>omega
        rw [if_pos hp,List.foldl_cons,e1,fold_min1,g3]
      · have e1:nextF run t j=t:=by
          unfold nextF;rw [if_neg h3,if_neg]
          rintro ⟨g1,g2,g3⟩
          apply hp
          unfold planS
          rw [if_neg (by omega)]
        rw [if_neg hp,e1]
theorem done_eq {s:Sim} (h:SimOK s) {j:Job} (hj:j∈s.S.C.J.jobs) (h3:j.State=3):doneS s.run j=donePl s.run j:=by
  obtain ⟨i,hi⟩:=List.getElem?_of_mem hj
  have hid:=id_at h.ok.cw hi
  have hlt:=(List.getElem?_eq_some_iff.1 hi).1
  have hrl:=h.rl
  have hso:=h.so j hj h3
  have hnow:=h.ok.now
  obtain ⟨v,hv⟩: ∃v,s.run[(j.Id-1).toNat]? =some v:=⟨_,List.getElem?_eq_getElem (by omega)⟩
  have hr:=h.rr v (List.mem_of_getElem? hv)
  unfold doneS donePl
  rw [if_neg (by omega),hv,Option.getD_some,wr_in (by omega)]
  unfold addF clampF forever
  simp only [List.foldl_cons,List.foldl_nil]
  omega
structure Kp (s y:Sim):Prop where
  de:y.depth=s.depth
  ld:y.load=s.load
  tj:y.tjobs=s.tjobs
  en:y.endd=s.endd
theorem Kp.rfl {s:Sim}:Kp s s:=⟨Eq.refl _,Eq.refl _,Eq.refl _,Eq.refl _⟩
theorem Kp.trans {a b c:Sim} (h:Kp a b) (g:Kp b c):Kp a c:=⟨g.de.trans h.de,g.ld.trans h.ld,g.tj.trans h.tj,g.en.trans h.en⟩
theorem kp_to (s:Sim) (t:Int):Kp s (toS s t):=by unfold toS;split<;>exact ⟨rfl,rfl,rfl,rfl⟩
theorem kp_leave1 (s:Sim) (j:Job):Kp s (leave1 s j):=by unfold leave1;split<;>exact ⟨rfl,rfl,rfl,rfl⟩
theorem kp_leaveF: ∀(l:List Job) (s:Sim),Kp s (l.foldl leave1 s)
  | [],_=>Kp.rfl
  |j::l,s=>(kp_leave1 s j).trans (kp_leaveF l _)
theorem kp_arrive1 (s:Sim) (e:Entry):Kp s (arrive1 s e):=by unfold arrive1;split<;>exact ⟨rfl,rfl,rfl,rfl⟩
theorem kp_arriveF: ∀(f:Nat) (s:Sim),Kp s (arriveF f s)
  |0,_=>Kp.rfl
  |f+1,s=>by
    simp only [arriveF]
    split
    · split
      · exact (kp_arrive1 s _).trans (kp_arriveF f _)
      · exact Kp.rfl
    · exact Kp.rfl
theorem kp_rest (s:Sim):Kp s (restS s):=⟨rfl,rfl,rfl,rfl⟩
theorem kp_step (s:Sim):Kp s (stepM s).2:=by
  unfold stepM
  split
  · exact Kp.rfl
  · exact (kp_to s _).trans ((kp_leaveF _ _).trans ((kp_arriveF _ _).trans (kp_rest _)))
theorem of_to (p:Plain28):ofSim p (toSim p)=p:=rfl
theorem to_of {p:Plain28} {s:Sim} (h:Kp (toSim p) s):toSim (ofSim p s)=s:=by
  obtain ⟨h1,h2,h3,h4⟩:=h
  cases s
  simp only [toSim] at h1 h2 h3 h4
  subst h1 h2 h3 h4
  rfl
end Go.Ax.Law
namespace Go.Ax.O
open Go.Ax.Sp Go.Ax.Law
theorem vSomeE {l:List Entry} {k:Unit→List Entry × Unit→Prop} (h:oSomeE (l,()) k):V.vSomeE l k:=by
  obtain ⟨hl,h⟩:=h
  have hl:l.length≤9223372036854775807:=hl
  have h:k () (someE l,()):=h
  unfold V.vSomeE V.LP V.NX V.NM V.SH V.AI V.LN
  let q:Entry→Bool:=fun e=>rightE e&&decide (e.At≤1048576)
  refine ⟨fun x=>x.1=l∧0≤x.2.2∧x.2.2≤l.length∧x.2.1=(l.take x.2.2.toNat).filter q∧x.2.1.length≤15,fun x=>(l.length-x.2.2).toNat,(l,[],0),⟨rfl,Int.le_refl _,by simp only [];omega,by simp,by simp⟩,by simp,?_⟩
  rintro ⟨l',out,i⟩ ⟨e0,p1,p2,e1,p3⟩
  simp only [] at e0 p1 p2 e1 p3
  subst e0
  refine br_dec (fun hi=>br_dec (fun ho=>⟨⟨p1,hi⟩,fun e he=>?_⟩) (fun ho=>⟨rfl,?_⟩)) (fun hi=>⟨rfl,?_⟩)
  · have hi:i<(l'.length:Int):=hi
    have ho:(out.length:Int)<15:=ho
    have skip:q e=false→ ∀n,n=IntKind.i64.wrap (i+1)→ ∃y:List Entry × List Entry × Int,(y.1=l'∧0≤y.2.2∧y.2.2≤l'.length∧y.2.1=(l'.take y.2.2.toNat).filter q∧y.2.1.length≤15)∧((l'=y.1∧(0=0∧out.length=y.2.1.length)∧n=y.2.2∧True)∧out=y.2.1∧True)∧(l'.length-y.2.2).toNat<(l'.length-i).toNat:=fun hq n hn=>by
      rw [w64 (by omega)] at hn
      subst hn
      refine ⟨(l',out,i+1),⟨rfl,by simp only [];omega,by simp only [];omega,?_,p3⟩,by simp,by simp only [];omega⟩
      simp only []
      rw [show (i+1).toNat=i.toNat+1 by omega,List.take_add_one,he,List.filter_append,e1]
      simp [hq]
    refine br_bool (fun hr=>⟨⟨p1,hi⟩,fun e' he'=>?_⟩) (fun hr=>skip (by simp only [q,hr,Bool.false_and]))
    rw [he] at he';cases he'
    refine br_dec (fun ha=>⟨⟨p1,hi⟩,fun e' he'=>?_⟩) (fun ha=>skip (by simp only [q,ha,decide_false,Bool.and_false]))
    rw [he] at he';cases he'
    have hq:q e=true:=by simp only [q,hr,Bool.true_and];exact decide_eq_true ha
    refine ⟨Nat.le_refl _,by simp,by simp only [];omega,fun n hn=>?_⟩
    rw [w64 (by simp only [];omega)] at hn
    replace hn:n=i+1:=hn
    subst hn
    refine ⟨(l',out++[e],i+1),⟨rfl,by simp only [];omega,by simp only [];omega,?_,by simp only [List.length_append,List.length_singleton];omega⟩,by simp,by simp only [];omega⟩
    simp only []
    rw [show (i+1).toNat=i.toNat+1 by omega,List.take_add_one,he,List.filter_append,e1]
    simp [hq]
  · have ho: ¬ (out.length:Int)<15:=ho
    have:out=someE l':=by
      unfold someE
      have hs:l'.filter q=out++(l'.drop i.toNat).filter q:=by
        conv=>lhs;rw [←List.take_append_drop i.toNat l',List.filter_append]
        rw [e1]
      show out=(l'.filter q).take 15
      rw [hs,List.take_append_of_le_length (by omega),List.take_of_length_le (by omega)]
    simp only []
    rw [this];exact h
  · have hi: ¬ i<(l'.length:Int):=hi
    have:out=someE l':=by
      unfold someE
      show out=(l'.filter q).take 15
      rw [List.take_of_length_le (l:=l') (by omega)] at e1
      rw [←e1,List.take_of_length_le (by omega)]
    simp only []
    rw [this];exact h
theorem vDonePl {p:Plain28} {j:Job} {k:Unit→Int × Unit→Prop} (h:oDonePl (p,j,()) k):V.vDonePl p j k:=by
  obtain ⟨h1,h⟩:=h
  have h1:j.Id≤1000000:=h1
  have h:k () (donePl p.run j,()):=h
  unfold donePl at h
  unfold V.vDonePl V.NM V.AI V.LN
  refine br_dec (fun g1=>?_) (fun g1=>br_dec (fun g2=>?_) (fun g2 n hn=>?_))
  · rw [if_pos (.inl g1)] at h;exact h
  · rw [if_pos (.inr g2)] at h;exact h
  · have g2: ¬ (p.run.length:Int)<j.Id:=g2
    rw [w64 (by omega)] at hn
    subst hn
    refine ⟨⟨by omega,by omega⟩,fun e he n2 hn2=>?_⟩
    rw [if_neg (by omega),he,Option.getD_some] at h
    subst hn2
    exact h
theorem vNextPl28 {p:Plain28} {k:Plain28 × Unit→Int × Unit→Prop} (h:oNextPl28 (p,()) k):V.vNextPl28 p k:=by
  obtain ⟨hs,h⟩:=h
  replace hs:SimOK (toSim p):=hs
  have h:k (p,()) (nextS (toSim p),()):=h
  have hps:=hs.ps
  have hjl:=hs.ok.cw.1.2.1
  have hjw:JW p.S.C.J:=hs.ok.cw.1
  have hfold:=next_fold p.run p.S.C.J.jobs (fun j hj h3=>done_eq hs hj h3)
  have hnx:nextS (toSim p)=p.S.C.J.jobs.foldl (nextF p.run) (headS (toSim p)):=(hfold _).symm
  have hjl:p.S.C.J.jobs.length≤1000000:=by
    have:(toSim p).S.C.J.jobs.length≤1000000:=by omega
    exact this
  rw [hnx] at h
  have hps:0≤p.pos∧p.pos≤p.l.length:=hps
  have hids: ∀(i:Nat) (e:Job),p.S.C.J.jobs[i]? =some e→e.Id≤1000000:=fun i e he=>by
    have hid:=id_at hs.ok.cw (i:=i) (j:=e) he
    have:=(List.getElem?_eq_some_iff.1 he).1
    omega
  unfold V.vNextPl28 V.LP V.NX V.NM V.SH V.AT V.LN
  simp only [tklS,Nat.zero_add,Nat.le_refl,true_and,and_true]
  refine br_dec (fun hp=>?_) (fun hp=>?_)
  all_goals first
    | (obtain ⟨e0,he0⟩: ∃e,p.l[p.pos.toNat]? =some e:=⟨_,List.getElem?_eq_getElem (by omega)⟩
       have hd:headS (toSim p)=e0.At:=by unfold headS;rw [show (toSim p).load[(toSim p).pos.toNat]? =some e0 from he0]
       refine ⟨⟨hps.1,hp⟩,by omega,fun e' he'=>⟨hjw,?_⟩⟩
       rw [he0] at he';cases he'
       rw [hd] at h
       generalize e0.At=t0 at h ⊢)
    | (have hn:p.l[p.pos.toNat]? =none:=List.getElem?_eq_none (by omega)
       have hd:headS (toSim p)=1152921504606846976:=by unfold headS;rw [show (toSim p).load[(toSim p).pos.toNat]? =none from hn]
       rw [hd] at h
       refine ⟨hjw,?_⟩
       generalize (1152921504606846976:Int)=t0 at h ⊢)
  all_goals
    refine ⟨fun x=>x.1=p∧x.2.2.1=p.S.C.J.jobs∧0≤x.2.2.2∧x.2.2.2≤p.S.C.J.jobs.length∧x.2.1=(p.S.C.J.jobs.take x.2.2.2.toNat).foldl (nextF p.run) t0,fun x=>(p.S.C.J.jobs.length-x.2.2.2).toNat,(p,t0,p.S.C.J.jobs,0),⟨rfl,rfl,Int.le_refl _,by simp only [];omega,rfl⟩,by simp,?_⟩
    rintro ⟨p',t,l,i⟩ ⟨e0,e1,p1,p2,e3⟩
    simp only [] at e0 e1 p1 p2 e3
    subst e0 e1
    refine br_dec (fun hi=>?_) (fun hi=>?_)
    · have hi:i<(p'.S.C.J.jobs.length:Int):=hi
      obtain ⟨e,he⟩: ∃e,p'.S.C.J.jobs[i.toNat]? =some e:=⟨_,List.getElem?_eq_getElem (by omega)⟩
      have hid:=hids _ _ he
      have hlt:i.toNat<p'.S.C.J.jobs.length:=by omega
      have hfs:=fold_stepS (f:=nextF p'.run) (t0:=t0) p1 he
      rw [←e3] at hfs
      repeat' first
        |(refine ⟨⟨p1,hi⟩,hlt,fun e' he'=>?_⟩;rw [he] at he';cases he')
        |refine ⟨hid,?_⟩
        |refine br_dec (fun _=>?_) (fun _=>?_)
        |refine br_eq (fun _=>?_) (fun _=>?_)
        | (intro q hq
           rw [w64 (by simp only [];omega)] at hq
           replace hq:q=i+1:=hq
           subst hq
           exact ⟨(p',nextF p'.run t e,p'.S.C.J.jobs,i+1),⟨rfl,rfl,by simp only [];omega,by simp only [];omega,hfs.symm⟩,⟨⟨by unfold nextF;(repeat' split)<;>simp only [] at* <;>omega,rfl,rfl⟩,rfl,rfl⟩,by simp only [];omega⟩)
    · have hi: ¬ i<(p'.S.C.J.jobs.length:Int):=hi
      rw [List.take_of_length_le (by omega)] at e3
      simp only []
      rw [e3];exact h
theorem vStepPl {p:Plain28} {k:Plain28 × Unit→Bool × Unit→Prop} (h:oStepPl (p,()) k):V.vStepPl p k:=by
  obtain ⟨⟨hs,hd1,hd2⟩,h⟩:=h
  replace hs:SimOK (toSim p):=hs
  have h:k (ofSim p (stepM (toSim p)).2,()) ((stepM (toSim p)).1,()):=h
  unfold stepM at h
  have hnw:=hs.ok.now
  have hoc:OkS p.S.C:=hs.ok
  unfold V.vStepPl V.LP V.NX V.NM V.SH V.AT V.LN
  simp only [tklS,tklS1,Nat.zero_add,Nat.le_refl,true_and,and_true,and_self,List.length_append,List.length_singleton]
  refine ⟨hs,br_dec (fun hn=>?_) (fun hn=>⟨hs.ok.cw.2.2,br_dec (fun ht=>⟨hs.ok.cw.2.2,fun q hq=>⟨hs.ok,?_⟩⟩) (fun ht=>?_)⟩)⟩
  · rw [if_pos hn] at h;exact h
  all_goals
    rw [if_neg hn] at h
    have hS:=hs.to (nextS (toSim p))
    have hK:=kp_to (toSim p) (nextS (toSim p))
  all_goals first
    | (subst hq
       have e1:toS (toSim p) (nextS (toSim p))={toSim p with S:=⟨(wholeW (newW (Req.mk 9 0 0 0 0 0 false 0 (IntKind.i64.wrap (nextS (toSim p)-nowL p.S.C.P.steps)))) p.S.C).2.2⟩}:=if_pos ht
       generalize (wholeW (newW (Req.mk 9 0 0 0 0 0 false 0 (IntKind.i64.wrap (nextS (toSim p)-nowL p.S.C.P.steps)))) p.S.C).2.2=c at e1 ⊢)
    |(have e1:toS (toSim p) (nextS (toSim p))={toSim p with S:=⟨p.S.C⟩}:=if_neg ht)
  all_goals
    have hJW:=hS.ok.cw.1
    rw [e1] at hJW
    refine ⟨⟨hJW,by decide⟩,?_⟩
    generalize toS (toSim p) (nextS (toSim p))=Y at*
    have hids: ∀(i:Int) (e:Job),(inJ Y.S.C.J.jobs [3])[i.toNat]? =some e→e.Id≤1000000∧doneS Y.run e=donePl Y.run e:=fun i e he=>by
      have hm:=inJ_mem (List.mem_of_getElem? he)
      exact ⟨(run_ids hS he).2.2,done_eq hS hm.1 (by simpa using hm.2)⟩
    have hil:=in_le Y.S.C.J.jobs [3]
    have hjl:=hS.ok.cw.1.2.1
    refine ⟨fun x=> ∃y,x.1=ofSim p y∧x.2.1=inJ Y.S.C.J.jobs [3]∧0≤x.2.2∧x.2.2≤(inJ Y.S.C.J.jobs [3]).length∧y=((inJ Y.S.C.J.jobs [3]).take x.2.2.toNat).foldl leave1 Y,fun x=>((inJ Y.S.C.J.jobs [3]).length-x.2.2).toNat,(ofSim p Y,inJ Y.S.C.J.jobs [3],0),⟨Y,rfl,rfl,Int.le_refl _,by simp only [];omega,rfl⟩,by rw [e1];exact ⟨⟨rfl,rfl⟩,rfl,rfl⟩,?_⟩
    rintro ⟨x,l',i⟩ ⟨y,ex,el,p1,p2,ey⟩
    simp only [] at ex el p1 p2 ey
    subst ex el
    obtain ⟨hy,hyr⟩:=SimOK.leaveF ((inJ Y.S.C.J.jobs [3]).take i.toNat) hS
    rw [←ey] at hy hyr
    have hky:Kp (toSim p) y:=hK.trans (by rw [ey];exact kp_leaveF _ _)
    refine br_dec (fun hi=>?_) (fun hi=>?_)
    · have hi:i<((inJ Y.S.C.J.jobs [3]).length:Int):=hi
      refine ⟨⟨p1,hi⟩,by simp only [];omega,fun e he=>?_⟩
      obtain ⟨hid,hde⟩:=hids i e he
      rw [←hyr] at hde
      have hfs:=fold_stepS (f:=leave1) (t0:=Y) p1 he
      rw [←ey] at hfs
      refine ⟨hid,hy.ok.cw.2.2,br_dec (fun hd=>⟨⟨p1,hi⟩,by simp only [];omega,fun e' he'=>?_⟩) (fun hd q hq=>?_)⟩
      · rw [he] at he';cases he'
        refine ⟨hy.ok,fun q hq=>?_⟩
        rw [w64 (by simp only [];omega)] at hq
        replace hq:q=i+1:=hq
        subst hq
        have e2:leave1 y e={y with S:=⟨(doS y.S.C ⟨5,e.Id,0,0,0,0,false,0,0⟩).2⟩}:=if_pos (by rw [hde];exact hd)
        exact ⟨(ofSim p (leave1 y e),inJ Y.S.C.J.jobs [3],i+1),⟨leave1 y e,rfl,rfl,by simp only [];omega,by simp only [];omega,hfs.symm⟩,⟨⟨rfl,rfl⟩,by rw [e2];rfl,rfl⟩,by simp only [];omega⟩
      · rw [w64 (by simp only [];omega)] at hq
        replace hq:q=i+1:=hq
        subst hq
        have e2:leave1 y e=y:=if_neg (by rw [hde];exact hd)
        exact ⟨(ofSim p (leave1 y e),inJ Y.S.C.J.jobs [3],i+1),⟨leave1 y e,rfl,rfl,by simp only [];omega,by simp only [];omega,hfs.symm⟩,⟨⟨rfl,rfl⟩,by rw [e2],rfl⟩,by simp only [];omega⟩
    · have hi: ¬ i<((inJ Y.S.C.J.jobs [3]).length:Int):=hi
      rw [List.take_of_length_le (by omega)] at ey
      have hle:y=leaveS Y:=ey
      refine ⟨fun x=> ∃z,x.1=ofSim p z∧x.2=z.pos∧SimOK z∧Kp (toSim p) z∧arriveS z=arriveS y,fun x=>(p.l.length-x.2).toNat,(ofSim p y,y.pos),⟨y,rfl,rfl,hy,hky,rfl⟩,⟨rfl,rfl⟩,?_⟩
      rintro ⟨x2,kk⟩ ⟨z,ex,ek,hz,hkz,haz⟩
      simp only [] at ex ek
      subst ex ek
      have hlz:z.load=p.l:=hkz.ld
      have hps:=hz.ps;have hll:=hz.ll;have hlo:=hz.lo;have hen:=hz.en;have hrl:=hz.rl;have hjl:=hz.ok.cw.1.2.1
      have fin:(∀e,z.load[z.pos.toNat]? =some e→nowC z.S.C<e.At)→k (ofSim p (restS z),()) (true,()):=fun hh=>by
        have hz2:arriveS (leaveS Y)=z:=by rw [←hle,←haz];exact arriveS_end hh
        rw [hz2] at h;exact h
      unfold restS at fin
      rw [show z.depth=p.depth from hkz.de] at fin
      refine br_dec (fun hp=>?_) (fun hp=>?_)
      · have hp:z.pos<(p.l.length:Int):=hp
        obtain ⟨e,hge⟩: ∃e,z.load[z.pos.toNat]? =some e:=⟨_,List.getElem?_eq_getElem (by rw [hlz];omega)⟩
        have hgl:p.l[z.pos.toNat]? =some e:=by rw [←hlz];exact hge
        refine ⟨⟨hps.1,hp⟩,by simp only [ofSim];omega,fun e' he'=>?_⟩
        rw [show (ofSim p z).l[z.pos.toNat]? =some e from hgl] at he';cases he'
        refine ⟨hz.ok.cw.2.2,br_dec (fun hat=>⟨⟨hps.1,hp⟩,by simp only [ofSim];omega,fun e' he'=>?_⟩) (fun hat=>⟨⟨hz.ok,by decide,by decide⟩,fin fun e' he'=>?_⟩)⟩
        · rw [show (ofSim p z).l[z.pos.toNat]? =some e from hgl] at he';cases he'
          have ha:=arriveS_more hz hge hat
          obtain ⟨g1,g2,g3⟩:=hz.arrive1 hge
          have hk1:=hkz.trans (kp_arrive1 z e)
          have hm:(p.l.length-(z.pos+1)).toNat<(p.l.length-z.pos).toNat:=by omega
          refine ⟨hz.ok,br_ne (fun herr n hn n1 hn1 n2 hn2=>?_) (fun herr=>⟨by simp only [ofSim];omega,by simp only [ofSim];omega,fun n1 hn1 n2 hn2=>?_⟩)⟩
          · have herr:(doS z.S.C (reqE e)).1.Err≠0:=herr
            have e3:arrive1 z e={z with S:=⟨(doS z.S.C (reqE e)).2⟩,lost:=wr (z.lost+1),pos:=z.pos+1}:=if_pos herr
            rw [w64 (by simp only [];omega)] at hn1 hn2
            subst hn hn1 hn2
            exact ⟨(ofSim p (arrive1 z e),z.pos+1),⟨arrive1 z e,rfl,g2.symm,g1,hk1,ha.symm.trans haz⟩,⟨rfl,by rw [e3];rfl⟩,hm⟩
          · have herr:(doS z.S.C (reqE e)).1.Err=0:=herr
            have e3:arrive1 z e={z with S:=⟨(doS z.S.C (reqE e)).2⟩,run:=z.run++[e.Run],tentry:=z.tentry++[z.pos],pos:=z.pos+1}:=if_neg (by simpa using herr)
            rw [w64 (by simp only [];omega)] at hn1 hn2
            subst hn1 hn2
            exact ⟨(ofSim p (arrive1 z e),z.pos+1),⟨arrive1 z e,rfl,g2.symm,g1,hk1,ha.symm.trans haz⟩,⟨rfl,by rw [e3];rfl⟩,hm⟩
        · rw [hge] at he';cases he';exact Int.not_le.1 hat
      · have hp: ¬ z.pos<(p.l.length:Int):=hp
        refine ⟨⟨hz.ok,by decide,by decide⟩,fin fun e' he'=>?_⟩
        have:=(List.getElem?_eq_some_iff.1 he').1
        rw [hlz] at this
        omega
theorem vSame28 {a:List Job} {b:List Int} {c d:Int} {p:Plain28} {k:Plain28 × Unit→Bool × Unit→Prop} (h:oSame28 (a,b,c,d,p,()) k):V.vSame28 a b c d p k:=by
  obtain ⟨⟨hs,ha,hb,hc,hd⟩,h⟩:=h
  replace hs:SimOK (toSim p):=hs
  replace ha:a=p.S.C.J.jobs:=ha
  replace hb:b=p.entry:=hb
  replace hc:c=p.lost:=hc
  replace hd:d=nowC p.S.C:=hd
  replace h:k (p,()) (true,()):=h
  have hjl:=hs.ok.cw.1.2.1
  have hjl:p.S.C.J.jobs.length≤1000000:=by
    have:(toSim p).S.C.J.jobs.length≤1000000:=by omega
    exact this
  have hen:p.entry.length≤1024:=hs.en.1
  subst ha hb hc hd
  unfold V.vSame28 V.LP V.NX V.NM V.SH V.AT V.AI V.LN
  simp only [tklS,Nat.zero_add,Nat.le_refl,true_and,and_true]
  refine ⟨hs.ok.cw.1,by omega,?_⟩
  refine br_not (fun hh=>?_) (fun _=>?_)
  · rw [sameJ_iff.2 rfl] at hh;cases hh
  refine br_ne (fun hh=>absurd rfl hh) (fun _=>br_ne (fun hh=>absurd rfl hh) (fun _=>⟨hs.ok.cw.2.2,br_ne (fun hh=>absurd rfl hh) (fun _=>?_)⟩))
  refine ⟨fun x=>x.2.1=p.entry∧x.2.2.2.2.1=p∧0≤x.2.2.2.2.2∧x.2.2.2.2.2≤p.entry.length,fun x=>(p.entry.length-x.2.2.2.2.2).toNat,(p.S.C.J.jobs,p.entry,p.lost,nowC p.S.C,p,0),⟨rfl,rfl,Int.le_refl _,by simp only [];omega⟩,by simp,?_⟩
  rintro ⟨x1,x2,x3,x4,x5,i⟩ ⟨e1,e2,p1,p2⟩
  simp only [] at e1 e2 p1 p2
  subst e1 e2
  refine br_dec (fun hi=>?_) (fun _=>h)
  have hi:i<(x5.entry.length:Int):=hi
  refine ⟨⟨p1,hi⟩,fun e he=>⟨⟨p1,hi⟩,by simp only [];omega,fun e' he'=>br_ne (fun hh=>?_) (fun _ q hq=>?_)⟩⟩
  · have he:x5.entry[i.toNat]? =some e:=he
    have he':x5.entry[i.toNat]? =some e':=he'
    rw [he] at he';cases he';exact absurd rfl hh
  · rw [w64 (by simp only [];omega)] at hq
    replace hq:q=i+1:=hq
    subst hq
    exact ⟨(x1,x5.entry,x3,x4,x5,i+1),⟨rfl,rfl,by simp only [];omega,by simp only [];omega⟩,by simp,by simp only [];omega⟩
end Go.Ax.O
