import Derived.Test.YtbmabiedmdlinaaGreatDoorAxV22
import Derived.Test.YtbmabiedmdlinaaGreatDoorAxV9
import Derived.Test.YtbmabiedmdlinaaGreatDoorAxO40
import Derived.Test.YtbmabiedmdlinaaGreatDoorAxO21
set_option linter.all false
namespace Go.Ax.Law
def keyE (e:Entry):Int:=e.At
def cmpE (a b:Entry):Int:=if a.At<b.At then-1 else if b.At<a.At then 1 else 0
def sortE (l:List Entry):List Entry:=l.mergeSort fun a b=>decide (keyE a≤keyE b)
def SmallIdsE (xs:List Entry):Prop:= ∀c∈xs,-9223372036854775808≤c.At∧c.At≤9223372036854775807
def InsPreE (xs:List Entry) (a b:Int):Prop:=SmallIdsE xs∧0≤a∧a≤b∧b≤xs.length∧xs.length≤1099511627776
def SwapPreE (xs:List Entry) (a b n:Int):Prop:=0≤a∧0≤b∧0≤n∧a+n≤xs.length∧b+n≤xs.length∧(a+n≤b∨b+n≤a)∧xs.length≤1099511627776
def RotPreE (xs:List Entry) (a m b:Int):Prop:=0≤a∧a<m∧m<b∧b≤xs.length∧xs.length≤1099511627776
def SymPreE (N:Nat) (xs:List Entry) (a m b:Int):Prop:=RotPreE xs a m b∧SmallIdsE xs∧(b-a).toNat<N∧Rises Law.keyE xs a m∧Rises Law.keyE xs m b
def StabPreE (xs:List Entry):Prop:=SmallIdsE xs∧xs.length≤1099511627776
def SmallEs (l:List Entry):Prop:=(∀e∈l,-9223372036854775808≤e.At∧e.At≤9223372036854775807)∧l.length≤1048576
end Go.Ax.Law
namespace Go.Ax.Sp
def sInsE (f:FuncId):Sig:=⟨[(.row .entry,true),(.int .i64,false),(.int .i64,false),(.fn f,false)],[]⟩
def oInsE (f:FuncId):(sInsE f).Out:=fun x k=>Law.InsPreE x.1 x.2.1 x.2.2.1∧ ∀ys,Law.SortedSeg Law.keyE x.1 ys x.2.1 x.2.2.1→k (ys,()) ()
def lIns1E (f:FuncId):LoopAnn:={X:=List Entry × Int × Int × Int,live:=fun x=>[(0,.sl 0 6 0 x.1.length),(1,.int .i64 x.2.1),(2,.int .i64 x.2.2.1),(3,.fn f []),(8,.int .i64 x.2.2.2)],heap:=fun x=>[some (.row .entry x.1)]}
def lIns2E (f:FuncId):LoopAnn:={X:=List Entry × Int × Int × Int × Int,live:=fun x=>[(0,.sl 0 6 0 x.1.length),(1,.int .i64 x.2.1),(2,.int .i64 x.2.2.1),(3,.fn f []),(8,.int .i64 x.2.2.2.1),(9,.int .i64 x.2.2.2.2)],heap:=fun x=>[some (.row .entry x.1)]}
def sSortFE (f:FuncId):Sig:=⟨[(.row .entry,true),(.fn f,false)],[]⟩
def sSwapRE (f:FuncId):Sig:=⟨[(.row .entry,true),(.int .i64,false),(.int .i64,false),(.int .i64,false),(.fn f,false)],[]⟩
def oSwapRE (f:FuncId):(sSwapRE f).Out:=fun x k=>Law.SwapPreE x.1 x.2.1 x.2.2.1 x.2.2.2.1∧ ∀ys,Law.Swapped x.1 ys x.2.1 x.2.2.1 x.2.2.2.1→k (ys,()) ()
def lSwapRE:LoopAnn:={X:=List Entry × Int × Int × Int × Int,live:=fun x=>[(0,.sl 0 6 0 x.1.length),(1,.int .i64 x.2.1),(2,.int .i64 x.2.2.1),(3,.int .i64 x.2.2.2.1),(10,.int .i64 x.2.2.2.2)],heap:=fun x=>[some (.row .entry x.1)]}
def oRotE (f:FuncId):(sSwapRE f).Out:=fun x k=>Law.RotPreE x.1 x.2.1 x.2.2.1 x.2.2.2.1∧ ∀ys,Law.Rotated x.1 ys x.2.1 x.2.2.1 x.2.2.2.1→k (ys,()) ()
def lRotE (f:FuncId):LoopAnn:={X:=List Entry × Int × Int × Int,live:=fun x=>[(0,.sl 0 6 0 x.1.length),(2,.int .i64 x.2.1),(4,.fn f []),(10,.int .i64 x.2.2.1),(11,.int .i64 x.2.2.2)],heap:=fun x=>[some (.row .entry x.1)]}
def oSymE (f:FuncId) (N:Nat):(sSwapRE f).Out:=fun x k=>Law.SymPreE N x.1 x.2.1 x.2.2.1 x.2.2.2.1∧ ∀ys,Law.SortedSeg Law.keyE x.1 ys x.2.1 x.2.2.2.1→k (ys,()) ()
def lSy1E (f:FuncId):LoopAnn:={X:=List Entry × Int × Int × Int,live:=fun x=>[(0,.sl 0 6 0 x.1.length),(1,.int .i64 x.2.1),(4,.fn f []),(10,.int .i64 x.2.2.1),(11,.int .i64 x.2.2.2)],heap:=fun x=>[some (.row .entry x.1)]}
def lSy2E:LoopAnn:={X:=List Entry × Int × Int,live:=fun x=>[(0,.sl 0 6 0 x.1.length),(10,.int .i64 x.2.1),(13,.int .i64 x.2.2)],heap:=fun x=>[some (.row .entry x.1)]}
def lSy3E (f:FuncId):LoopAnn:={X:=List Entry × Int × Int × Int,live:=fun x=>[(0,.sl 0 6 0 x.1.length),(2,.int .i64 x.2.1),(4,.fn f []),(14,.int .i64 x.2.2.1),(15,.int .i64 x.2.2.2)],heap:=fun x=>[some (.row .entry x.1)]}
def lSy4E:LoopAnn:={X:=List Entry × Int × Int,live:=fun x=>[(0,.sl 0 6 0 x.1.length),(14,.int .i64 x.2.1),(17,.int .i64 x.2.2)],heap:=fun x=>[some (.row .entry x.1)]}
def lSy5E (f:FuncId):LoopAnn:={X:=List Entry × Int × Int × Int × Int × Int × Int × Int × Int,live:=fun x=>[(0,.sl 0 6 0 x.1.length),(1,.int .i64 x.2.1),(2,.int .i64 x.2.2.1),(3,.int .i64 x.2.2.2.1),(4,.fn f []),(18,.int .i64 x.2.2.2.2.1),(19,.int .i64 x.2.2.2.2.2.1),(20,.int .i64 x.2.2.2.2.2.2.1),(21,.int .i64 x.2.2.2.2.2.2.2.1),(22,.int .i64 x.2.2.2.2.2.2.2.2)],heap:=fun x=>[some (.row .entry x.1)]}
def sStabE (f:FuncId):Sig:=⟨[(.row .entry,true),(.int .i64,false),(.fn f,false)],[]⟩
def oStabE (f:FuncId):(sStabE f).Out:=fun x k=>(Law.StabPreE x.1∧x.2.1=x.1.length)∧ ∀ys,Law.SortedSeg Law.keyE x.1 ys 0 x.1.length→k (ys,()) ()
def lSt1E (f:FuncId):LoopAnn:={X:=List Entry × Int × Int × Int × Int,live:=fun x=>[(0,.sl 0 6 0 x.1.length),(1,.int .i64 x.2.1),(2,.fn f []),(6,.int .i64 x.2.2.1),(7,.int .i64 x.2.2.2.1),(8,.int .i64 x.2.2.2.2)],heap:=fun x=>[some (.row .entry x.1)]}
def lSt2E (f:FuncId):LoopAnn:={X:=List Entry × Int × Int,live:=fun x=>[(0,.sl 0 6 0 x.1.length),(1,.int .i64 x.2.1),(2,.fn f []),(6,.int .i64 x.2.2)],heap:=fun x=>[some (.row .entry x.1)]}
def oStabFE (f:FuncId):(sSortFE f).Out:=fun x k=>Law.StabPreE x.1∧ ∀ys,Law.SortedSeg Law.keyE x.1 ys 0 x.1.length→k (ys,()) ()
def sSortE (f:FuncId):Sig:=⟨[(.row .entry,true),(.fn f,false)],[]⟩
def oSortE (f:FuncId):(sSortE f).Out:=fun x k=>Law.SmallEs x.1∧k (Law.sortE x.1,()) ()
def sCmpE:Sig:=⟨[(.elem .entry,false),(.elem .entry,false)],[.int .i64]⟩
def oCmpE:sCmpE.Out:=fun x k=>k () (Law.cmpE x.1 x.2.1,())
def sCloneE:Sig:=⟨[(.imm .entry,false)],[.row .entry]⟩
def oCloneE:sCloneE.Out:=fun x k=>x.1.length≤68719476736∧k () (x.1,())
def sSortS:Sig:=⟨[(.imm .entry,false)],[.row .entry]⟩
def oSortS:sSortS.Out:=fun x k=>Law.SmallEs x.1∧k () (Law.sortE x.1,())
end Go.Ax.Sp
namespace Go.Ax.V
open Go.Ax.Sp Go.Ax.Law List Int IntKind
set_option maxRecDepth 100000
def vCmpE (a:Entry) (b:Entry) (k:Unit→Int × Unit→Prop):Prop:=
br (decide (a.At<b.At)) (k () ((-1),())) (br (decide (a.At>b.At)) (k () (1,())) (k () (0,())))
def vInsE (l:List Entry) (a:Int) (b:Int) (k:List Entry × Unit→Unit→Prop):Prop:=
NM (a+1) fun n=>LP (List Entry × Int × Int × Int) (fun x=>((0=0∧length l=length x.1)∧a=x.2.1∧b=x.2.2.1∧True∧n=x.2.2.2∧True)∧l=x.1∧True) fun I m x=>br (decide (x.2.2.2<x.2.2.1)) (LP (List Entry × Int × Int × Int × Int) (fun x_1=>((0=0∧length x.1=length x_1.1)∧x.2.1=x_1.2.1∧x.2.2.1=x_1.2.2.1∧True∧x.2.2.2=x_1.2.2.2.1∧x.2.2.2=x_1.2.2.2.2∧True)∧x.1=x_1.1∧True) fun I_1 m_1 x_1=>SH x_1.2.2.2.2 fun s0=>SH (0+toNat s0) fun s1=>SH (NM (x_1.2.2.2.1+1) fun n=>NX I m x fun y=>((0=0∧length x_1.1=length y.1)∧x_1.2.1=y.2.1∧x_1.2.2.1=y.2.2.1∧True∧n=y.2.2.2∧True)∧x_1.1=y.1∧True) fun s2=>br (decide (s0>x_1.2.1)) (AT x_1.1 s0 fun e=>NM (s0-1) fun n=>AT x_1.1 n fun e_1=>br (decide (cmpE e e_1<0)) (NM (s0-1) fun n=>NM (s0-1) fun n_1=>AT x_1.1 n_1 fun e=>AT x_1.1 s0 fun e_2=>(0≤s0∧s0<LN x_1.1)∧(s1<length x_1.1∧ ∀(e_3:Entry),x_1.1[s1]? =some e_3→(0≤n∧n<LN x_1.1)∧(0+toNat n<length (set x_1.1 s1 e)∧ ∀(e_4:Entry),(set x_1.1 s1 e)[0+toNat n]? =some e_4→NM (s0-1) fun n_2=>NX I_1 m_1 x_1 fun y=>((0=0∧length x_1.1=length y.1)∧x_1.2.1=y.2.1∧x_1.2.2.1=y.2.2.1∧True∧x_1.2.2.2.1=y.2.2.2.1∧n_2=y.2.2.2.2∧True)∧set (set x_1.1 s1 e) (0+toNat n) e_2=y.1∧True)∧True)∧True) s2∧True) (s2∧True)) (length l=length x.1∧k (x.1,()) ())
def vSwapRE (l:List Entry) (a:Int) (b:Int) (m:Int) (k:List Entry × Unit→Unit→Prop):Prop:=
LP (List Entry × Int × Int × Int × Int) (fun x=>((0=0∧length l=length x.1)∧a=x.2.1∧b=x.2.2.1∧m=x.2.2.2.1∧0=x.2.2.2.2∧True)∧l=x.1∧True) fun I m x=>SH x.2.2.2 fun s0=>br (decide (s0.2<s0.1)) (NM (x.2.1+s0.2) fun n=>SH (0+toNat n) fun s1=>NM (x.2.2.1+s0.2) fun n_1=>NM (x.2.2.1+s0.2) fun n_2=>AT x.1 n_2 fun e=>NM (x.2.1+s0.2) fun n_3=>AT x.1 n_3 fun e_1=>(0≤n∧n<LN x.1)∧(s1<length x.1∧ ∀(e_2:Entry),x.1[s1]? =some e_2→(0≤n_1∧n_1<LN x.1)∧(0+toNat n_1<length (set x.1 s1 e)∧ ∀(e_3:Entry),(set x.1 s1 e)[0+toNat n_1]? =some e_3→NM (s0.2+1) fun n_4=>NX I m x fun y=>((0=0∧length x.1=length y.1)∧x.2.1=y.2.1∧x.2.2.1=y.2.2.1∧s0.1=y.2.2.2.1∧n_4=y.2.2.2.2∧True)∧set (set x.1 s1 e) (0+toNat n_1) e_1=y.1∧True)∧True)∧True) (length l=length x.1∧k (x.1,()) ())
def vRotE (l:List Entry) (a:Int) (b:Int) (m:Int) (k:List Entry × Unit→Unit→Prop):Prop:=
NM (b-a) fun n=>NM (m-b) fun n_1=>LP (List Entry × Int × Int × Int) (fun x=>((0=0∧length l=length x.1)∧b=x.2.1∧True∧n=x.2.2.1∧n_1=x.2.2.2∧True)∧l=x.1∧True) fun I m x=>SH x.2.2.1 fun s0=>SH (length x.1) fun s1=>SH x.2.2.2 fun s2=>br (!s0==s2) (br (decide (s0>s2)) (NM (x.2.1-s0) fun n=>s1=s1∧SwapPreE x.1 n x.2.1 s2∧ ∀(ys:List Entry),Swapped x.1 ys n x.2.1 s2→NM (s0-s2) fun n=>NX I m x fun y=>((0=0∧s1=length y.1)∧x.2.1=y.2.1∧True∧n=y.2.2.1∧s2=y.2.2.2∧True)∧ys=y.1∧True) (NM (x.2.1-s0) fun n=>NM (x.2.1+s2) fun n_2=>NM (n_2-s0) fun n_3=>s1=s1∧SwapPreE x.1 n n_3 s0∧ ∀(ys:List Entry),Swapped x.1 ys n n_3 s0→NM (s2-s0) fun n=>NX I m x fun y=>((0=0∧s1=length y.1)∧x.2.1=y.2.1∧True∧s0=y.2.2.1∧n=y.2.2.2∧True)∧ys=y.1∧True)) (NM (x.2.1-s0) fun n=>s1=s1∧SwapPreE x.1 n x.2.1 s0∧ ∀(ys:List Entry),Swapped x.1 ys n x.2.1 s0→length l=length ys∧k (ys,()) ())
def vSymE (n:Nat) (l:List Entry) (a:Int) (b:Int) (m:Int) (k:List Entry × Unit→Unit→Prop):Prop:=
SH (length l) fun s0=>SH ((2:Int)^min (toNat (1:Int)) (64:Nat)) fun s1=>NM (b-a) fun n_1=>br (n_1==1) (LP (List Entry × Int × Int × Int) (fun x=>(((0:Nat)=0∧s0=length x.1)∧a=x.2.1∧True∧b=x.2.2.1∧m=x.2.2.2∧True)∧l=x.1∧True) fun I m x=>br (decide (x.2.2.1<x.2.2.2)) (NM (x.2.2.1+x.2.2.2) fun n=> ∀(n_2:Int),n_2=wrap .u64 n→(0:Int)≤1∧ ∀(n:Int),n=fdiv n_2 s1→NM n fun n_3=>AT x.1 n_3 fun e=>AT x.1 x.2.1 fun e_1=>br (decide (cmpE e e_1<0)) (NM (n_3+1) fun n=>NX I m x fun y=>(((0:Nat)=0∧length x.1=length y.1)∧x.2.1=y.2.1∧True∧n=y.2.2.1∧x.2.2.2=y.2.2.2∧True)∧x.1=y.1∧True) (NX I m x fun y=>(((0:Nat)=0∧length x.1=length y.1)∧x.2.1=y.2.1∧True∧x.2.2.1=y.2.2.1∧n_3=y.2.2.2∧True)∧x.1=y.1∧True)∧True) (LP (List Entry × Int × Int) (fun x_1=>(((0:Nat)=0∧length x.1=length x_1.1)∧x.2.2.1=x_1.2.1∧x.2.1=x_1.2.2∧True)∧x.1=x_1.1∧True) fun I m x=>SH (0+toNat x.2.2) fun s2=>NM (x.2.1-1) fun n=>br (decide (x.2.2<n)) (NM (x.2.2+1) fun n=>NM (x.2.2+1) fun n_2=>AT x.1 n_2 fun e=>AT x.1 x.2.2 fun e_1=>(0≤x.2.2∧x.2.2<LN x.1)∧(s2<length x.1∧ ∀(e_2:Entry),x.1[s2]? =some e_2→(0≤n∧n<LN x.1)∧(0+toNat n<length (set x.1 s2 e)∧ ∀(e_3:Entry),(set x.1 s2 e)[0+toNat n]? =some e_3→NM (x.2.2+1) fun n_3=>NX I m x fun y=>(((0:Nat)=0∧length x.1=length y.1)∧x.2.1=y.2.1∧n_3=y.2.2∧True)∧set (set x.1 s2 e) (0+toNat n) e_1=y.1∧True)∧True)∧True) (s0=length x.1∧k (x.1,()) ()))) (NM (m-b) fun n_2=>br (n_2==1) (LP (List Entry × Int × Int × Int) (fun x=>(((0:Nat)=0∧s0=length x.1)∧b=x.2.1∧True∧a=x.2.2.1∧b=x.2.2.2∧True)∧l=x.1∧True) fun I m x=>br (decide (x.2.2.1<x.2.2.2)) (NM (x.2.2.1+x.2.2.2) fun n=> ∀(n_3:Int),n_3=wrap .u64 n→(0:Int)≤1∧ ∀(n:Int),n=fdiv n_3 s1→NM n fun n_4=>AT x.1 x.2.1 fun e=>AT x.1 n_4 fun e_1=>br (!decide (cmpE e e_1<0)) (NM (n_4+1) fun n=>NX I m x fun y=>(((0:Nat)=0∧length x.1=length y.1)∧x.2.1=y.2.1∧True∧n=y.2.2.1∧x.2.2.2=y.2.2.2∧True)∧x.1=y.1∧True) (NX I m x fun y=>(((0:Nat)=0∧length x.1=length y.1)∧x.2.1=y.2.1∧True∧x.2.2.1=y.2.2.1∧n_4=y.2.2.2∧True)∧x.1=y.1∧True)∧True) (LP (List Entry × Int × Int) (fun x_1=>(((0:Nat)=0∧length x.1=length x_1.1)∧x.2.2.1=x_1.2.1∧x.2.1=x_1.2.2∧True)∧x.1=x_1.1∧True) fun I m x=>SH (0+toNat x.2.2) fun s2=>br (decide (x.2.2>x.2.1)) (NM (x.2.2-1) fun n=>NM (x.2.2-1) fun n_3=>AT x.1 n_3 fun e=>AT x.1 x.2.2 fun e_1=>(0≤x.2.2∧x.2.2<LN x.1)∧(s2<length x.1∧ ∀(e_2:Entry),x.1[s2]? =some e_2→(0≤n∧n<LN x.1)∧(0+toNat n<length (set x.1 s2 e)∧ ∀(e_3:Entry),(set x.1 s2 e)[0+toNat n]? =some e_3→NM (x.2.2-1) fun n_4=>NX I m x fun y=>(((0:Nat)=0∧length x.1=length y.1)∧x.2.1=y.2.1∧n_4=y.2.2∧True)∧set (set x.1 s2 e) (0+toNat n) e_1=y.1∧True)∧True)∧True) (s0=length x.1∧k (x.1,()) ()))) (NM (a+m) fun n_3=> ∀(n_4:Int),n_4=wrap .u64 n_3→(0:Int)≤1∧ ∀(n_5:Int),n_5=fdiv n_4 s1→NM n_5 fun n_6=>NM (n_6+b) fun n_7=>br (decide (b>n_6)) (NM (n_7-m) fun n_8=>NM (n_7-1) fun n_9=>LP (List Entry × Int × Int × Int × Int × Int × Int × Int × Int) (fun x=>SH x.2.2.2.2 fun s2=>(((0:Nat)=0∧s0=length x.1)∧a=x.2.1∧b=x.2.2.1∧m=x.2.2.2.1∧True∧n_6=s2.1∧n_7=s2.2.1∧n_8=s2.2.2.1∧n_6=s2.2.2.2.1∧n_9=s2.2.2.2.2∧True)∧l=x.1∧True) fun I m x=>SH x.2.2.2 fun s2=>SH (length x.1) fun s3=>SH s2.2.2.2 fun s4=>SH (x.1,()) fun s5=>SH (decide (s4.1<s2.2.1)) fun s6=>SH (decide (x.2.1<s4.1)) fun s7=>SH (s0=s3∧k s5 ()) fun s8=>SH (SymPreE n x.1 x.2.1 s4.1 s2.2.1) fun s9=>br (decide (s4.1<s4.2.1)) (NM (s4.1+s4.2.1) fun n=> ∀(n_10:Int),n_10=wrap .u64 n→(0:Int)≤1∧ ∀(n:Int),n=fdiv n_10 s1→NM n fun n_11=>NM (s4.2.2-n_11) fun n=>AT x.1 n fun e=>AT x.1 n_11 fun e_1=>br (!decide (cmpE e e_1<0)) (NM (n_11+1) fun n=>NX I m x fun y=>SH y.2.2.2.2 fun s10=>(((0:Nat)=0∧s3=length y.1)∧x.2.1=y.2.1∧x.2.2.1=y.2.2.1∧s2.1=y.2.2.2.1∧True∧s2.2.1=s10.1∧s2.2.2.1=s10.2.1∧n=s10.2.2.1∧s4.2.1=s10.2.2.2.1∧s4.2.2=s10.2.2.2.2∧True)∧x.1=y.1∧True) (NX I m x fun y=>SH y.2.2.2.2 fun s10=>(((0:Nat)=0∧s3=length y.1)∧x.2.1=y.2.1∧x.2.2.1=y.2.2.1∧s2.1=y.2.2.2.1∧True∧s2.2.1=s10.1∧s2.2.2.1=s10.2.1∧s4.1=s10.2.2.1∧n_11=s10.2.2.2.1∧s4.2.2=s10.2.2.2.2∧True)∧x.1=y.1∧True)∧True) (NM (s2.2.2.1-s4.1) fun n_10=>SH (decide (s2.2.1<n_10)) fun s10=>SH (decide (n_10<s2.1)) fun s11=>SH (SH (br s10 (br s11 (s3=s3∧SymPreE n x.1 s2.2.1 n_10 s2.1∧ ∀(ys:List Entry),SortedSeg keyE x.1 ys s2.2.1 s2.1→s0=length ys∧k (ys,()) ()) s8) s8) fun s13=>br s7 (br s6 (s3=s3∧s9∧ ∀(ys:List Entry),SortedSeg keyE x.1 ys x.2.1 s2.2.1→br s10 (br s11 (s3=length ys∧SymPreE n ys s2.2.1 n_10 s2.1∧ ∀(ys_1:List Entry),SortedSeg keyE ys ys_1 s2.2.1 s2.1→s0=length ys_1∧k (ys_1,()) ()) (s0=length ys∧k (ys,()) ())) (s0=length ys∧k (ys,()) ())) s13) s13) fun s12=>br (decide (s4.1<x.2.2.1)) (br (decide (x.2.2.1<n_10)) (s3=s3∧RotPreE x.1 s4.1 x.2.2.1 n_10∧ ∀(ys:List Entry),Rotated x.1 ys s4.1 x.2.2.1 n_10→SH (length ys) fun s13=>SH (br s10 (br s11 (s3=s13∧SymPreE n ys s2.2.1 n_10 s2.1∧ ∀(ys_1:List Entry),SortedSeg keyE ys ys_1 s2.2.1 s2.1→s0=length ys_1∧k (ys_1,()) ()) (s0=s13∧k (ys,()) ())) (s0=s13∧k (ys,()) ())) fun s14=>br s7 (br s6 (s3=s13∧SymPreE n ys x.2.1 s4.1 s2.2.1∧ ∀(ys_1:List Entry),SortedSeg keyE ys ys_1 x.2.1 s2.2.1→br s10 (br s11 (s3=length ys_1∧SymPreE n ys_1 s2.2.1 n_10 s2.1∧ ∀(ys:List Entry),SortedSeg keyE ys_1 ys s2.2.1 s2.1→s0=length ys∧k (ys,()) ()) (s0=length ys_1∧k (ys_1,()) ())) (s0=length ys_1∧k (ys_1,()) ())) s14) s14) s12) s12)) (NM (n_7-1) fun n_8=>LP (List Entry × Int × Int × Int × Int × Int × Int × Int × Int) (fun x=>SH x.2.2.2.2 fun s2=>(((0:Nat)=0∧s0=length x.1)∧a=x.2.1∧b=x.2.2.1∧m=x.2.2.2.1∧True∧n_6=s2.1∧n_7=s2.2.1∧a=s2.2.2.1∧b=s2.2.2.2.1∧n_8=s2.2.2.2.2∧True)∧l=x.1∧True) fun I m x=>SH x.2.2.2 fun s2=>SH (length x.1) fun s3=>SH s2.2.2.2 fun s4=>SH (x.1,()) fun s5=>SH (decide (s4.1<s2.2.1)) fun s6=>SH (decide (x.2.1<s4.1)) fun s7=>SH (s0=s3∧k s5 ()) fun s8=>SH (SymPreE n x.1 x.2.1 s4.1 s2.2.1) fun s9=>br (decide (s4.1<s4.2.1)) (NM (s4.1+s4.2.1) fun n=> ∀(n_9:Int),n_9=wrap .u64 n→(0:Int)≤1∧ ∀(n:Int),n=fdiv n_9 s1→NM n fun n_10=>NM (s4.2.2-n_10) fun n=>AT x.1 n fun e=>AT x.1 n_10 fun e_1=>br (!decide (cmpE e e_1<0)) (NM (n_10+1) fun n=>NX I m x fun y=>SH y.2.2.2.2 fun s10=>(((0:Nat)=0∧s3=length y.1)∧x.2.1=y.2.1∧x.2.2.1=y.2.2.1∧s2.1=y.2.2.2.1∧True∧s2.2.1=s10.1∧s2.2.2.1=s10.2.1∧n=s10.2.2.1∧s4.2.1=s10.2.2.2.1∧s4.2.2=s10.2.2.2.2∧True)∧x.1=y.1∧True) (NX I m x fun y=>SH y.2.2.2.2 fun s10=>(((0:Nat)=0∧s3=length y.1)∧x.2.1=y.2.1∧x.2.2.1=y.2.2.1∧s2.1=y.2.2.2.1∧True∧s2.2.1=s10.1∧s2.2.2.1=s10.2.1∧s4.1=s10.2.2.1∧n_10=s10.2.2.2.1∧s4.2.2=s10.2.2.2.2∧True)∧x.1=y.1∧True)∧True) (NM (s2.2.2.1-s4.1) fun n_9=>SH (decide (s2.2.1<n_9)) fun s10=>SH (decide (n_9<s2.1)) fun s11=>SH (SH (br s10 (br s11 (s3=s3∧SymPreE n x.1 s2.2.1 n_9 s2.1∧ ∀(ys:List Entry),SortedSeg keyE x.1 ys s2.2.1 s2.1→s0=length ys∧k (ys,()) ()) s8) s8) fun s13=>br s7 (br s6 (s3=s3∧s9∧ ∀(ys:List Entry),SortedSeg keyE x.1 ys x.2.1 s2.2.1→br s10 (br s11 (s3=length ys∧SymPreE n ys s2.2.1 n_9 s2.1∧ ∀(ys_1:List Entry),SortedSeg keyE ys ys_1 s2.2.1 s2.1→s0=length ys_1∧k (ys_1,()) ()) (s0=length ys∧k (ys,()) ())) (s0=length ys∧k (ys,()) ())) s13) s13) fun s12=>br (decide (s4.1<x.2.2.1)) (br (decide (x.2.2.1<n_9)) (s3=s3∧RotPreE x.1 s4.1 x.2.2.1 n_9∧ ∀(ys:List Entry),Rotated x.1 ys s4.1 x.2.2.1 n_9→SH (length ys) fun s13=>SH (br s10 (br s11 (s3=s13∧SymPreE n ys s2.2.1 n_9 s2.1∧ ∀(ys_1:List Entry),SortedSeg keyE ys ys_1 s2.2.1 s2.1→s0=length ys_1∧k (ys_1,()) ()) (s0=s13∧k (ys,()) ())) (s0=s13∧k (ys,()) ())) fun s14=>br s7 (br s6 (s3=s13∧SymPreE n ys x.2.1 s4.1 s2.2.1∧ ∀(ys_1:List Entry),SortedSeg keyE ys ys_1 x.2.1 s2.2.1→br s10 (br s11 (s3=length ys_1∧SymPreE n ys_1 s2.2.1 n_9 s2.1∧ ∀(ys:List Entry),SortedSeg keyE ys_1 ys s2.2.1 s2.1→s0=length ys∧k (ys,()) ()) (s0=length ys_1∧k (ys_1,()) ())) (s0=length ys_1∧k (ys_1,()) ())) s14) s14) s12) s12))))
def vStabE (l:List Entry) (a:Int) (k:List Entry × Unit→Unit→Prop):Prop:=
LP (List Entry × Int × Int × Int × Int) (fun x=>((0=0∧length l=length x.1)∧a=x.2.1∧True∧20=x.2.2.1∧0=x.2.2.2.1∧20=x.2.2.2.2∧True)∧l=x.1∧True) fun I m x=>SH x.2.2.2 fun s0=>SH (length x.1) fun s1=>br (decide (s0.2≤x.2.1)) (s1=s1∧InsPreE x.1 s0.1 s0.2∧ ∀(ys:List Entry),SortedSeg keyE x.1 ys s0.1 s0.2→NM (s0.2+x.2.2.1) fun n=>NX I m x fun y=>((0=0∧s1=length y.1)∧x.2.1=y.2.1∧True∧x.2.2.1=y.2.2.1∧s0.2=y.2.2.2.1∧n=y.2.2.2.2∧True)∧ys=y.1∧True) (s1=s1∧InsPreE x.1 s0.1 x.2.1∧ ∀(ys:List Entry),SortedSeg keyE x.1 ys s0.1 x.2.1→LP (List Entry × Int × Int) (fun x_1=>((0=0∧s1=length x_1.1)∧x.2.1=x_1.2.1∧True∧x.2.2.1=x_1.2.2∧True)∧ys=x_1.1∧True) fun I m x=>br (decide (x.2.2<x.2.1)) (NM (2*x.2.2) fun n=>LP (List Entry × Int × Int × Int × Int) (fun x_1=>((0=0∧length x.1=length x_1.1)∧x.2.1=x_1.2.1∧True∧x.2.2=x_1.2.2.1∧0=x_1.2.2.2.1∧n=x_1.2.2.2.2∧True)∧x.1=x_1.1∧True) fun I_1 m_1 x_1=>SH x_1.2.2.2 fun s2=>SH (length x_1.1) fun s3=>br (decide (s2.2≤x_1.2.1)) (NM (s2.1+x_1.2.2.1) fun n=>s3=s3∧SymPreE 1099511627777 x_1.1 s2.1 n s2.2∧ ∀(ys:List Entry),SortedSeg keyE x_1.1 ys s2.1 s2.2→NM (2*x_1.2.2.1) fun n=>NM (s2.2+n) fun n_1=>NX I_1 m_1 x_1 fun y=>((0=0∧s3=length y.1)∧x_1.2.1=y.2.1∧True∧x_1.2.2.1=y.2.2.1∧s2.2=y.2.2.2.1∧n_1=y.2.2.2.2∧True)∧ys=y.1∧True) (NM (s2.1+x_1.2.2.1) fun n=>br (decide (n<x_1.2.1)) (s3=s3∧SymPreE 1099511627777 x_1.1 s2.1 n x_1.2.1∧ ∀(ys:List Entry),SortedSeg keyE x_1.1 ys s2.1 x_1.2.1→NM (x_1.2.2.1*2) fun n=>NX I m x fun y=>((0=0∧s3=length y.1)∧x_1.2.1=y.2.1∧True∧n=y.2.2∧True)∧ys=y.1∧True) (NM (x_1.2.2.1*2) fun n=>NX I m x fun y=>((0=0∧s3=length y.1)∧x_1.2.1=y.2.1∧True∧n=y.2.2∧True)∧x_1.1=y.1∧True))) (length l=length x.1∧k (x.1,()) ()))
def vStabFE (l:List Entry) (k:List Entry × Unit→Unit→Prop):Prop:=
length l=length l∧(StabPreE l∧LN l=(↑(length l):VK.T ((fun x=>x.1) (VK.int IntKind.i64,false))))∧ ∀(ys:List Entry),SortedSeg keyE l ys 0 (LN l)→length l=length ys∧k (ys,()) ()
def vCloneE (l:List Entry) (k:Unit→List Entry × Unit→Prop):Prop:=
∀(b:Bool),(0<length l→b=false)→br b (k () ([],())) (0≤0∧0+length l≤68719476736∧0+length l=length ([]++l)∧k () ([]++l,()))
def vSortS (l:List Entry) (k:Unit→List Entry × Unit→Prop):Prop:=
length l≤68719476736∧length l=length l∧SmallEs l∧length l=length (sortE l)∧k () (sortE l,())
end Go.Ax.V
namespace Go.Ax.O
open Go.Ax.Sp Go.Ax.Law
theorem cmpE_lt {a b:Entry} (ha: -9223372036854775808≤a.At∧a.At≤9223372036854775807) (hb: -9223372036854775808≤b.At∧b.At≤9223372036854775807):cmpE a b<0↔keyE a<keyE b:=by
  unfold cmpE keyE
  split
  · simp;omega
  · split<;>simp<;>omega
theorem small_getE {xs:List Entry} (h:SmallIdsE xs) {i:Nat} {x:Entry} (hx:xs[i]? =some x): -9223372036854775808≤x.At∧x.At≤9223372036854775807:=h x (List.mem_of_getElem? hx)
theorem small_segE {xs ys:List Entry} (h:SmallIdsE xs) (hf: ∀c,ys.filter (keyIs keyE c)=xs.filter (keyIs keyE c)):SmallIdsE ys:=by
  intro c hc
  have:c∈ys.filter (keyIs keyE (keyE c)):=List.mem_filter.2 ⟨hc,by simp [keyIs]⟩
  rw [hf] at this
  exact h c (List.mem_filter.1 this).1
theorem vInsE {l:List Entry} {a b:Int} {k:List Entry × Unit→Unit→Prop} (h:oInsE 0 (l,a,b,(),()) k):V.vInsE l a b k:=by
  unfold V.vInsE V.LP V.NX V.AT V.NM V.SH V.LN
  obtain ⟨⟨hsm,h0,hab,hbl,hll⟩,hk⟩:=h
  simp only [] at hsm h0 hab hbl hll hk
  intro n hn
  rw [w64 (by omega)] at hn
  subst hn
  obtain ⟨an,rfl⟩:=Int.eq_ofNat_of_zero_le h0
  refine ⟨fun x=>x.2.1=an∧x.2.2.1=b∧(an:Int)+1≤x.2.2.2∧(x.2.2.2≤b∨(x.2.2.2=an+1∧x.1=l))∧SortedSeg keyE l x.1 an x.2.2.2,fun x=>(b-x.2.2.2).toNat,(l,an,b,(an:Int)+1),⟨rfl,rfl,Int.le_refl _,.inr ⟨rfl,rfl⟩,.refl (by simp)⟩,⟨⟨⟨rfl,rfl⟩,rfl,rfl,trivial,rfl,trivial⟩,rfl,trivial⟩,?_⟩
  rintro ⟨ys,a',b',i⟩ ⟨h1,h2,h3,h4,h5⟩
  simp only [] at h1 h2 h3 h4 h5
  subst h1 h2
  refine br_dec (fun hi=>?_) (fun hi=>?_)
  · simp only [] at hi
    obtain ⟨i,rfl⟩:=Int.eq_ofNat_of_zero_le (show 0≤i by omega)
    have hlen:=h5.1
    refine ⟨fun x=>x.2.1=an∧x.2.2.1=b'∧x.2.2.2.1=i∧0≤x.2.2.2.2∧Sinks keyE l x.1 an i x.2.2.2.2.toNat,fun x=>x.2.2.2.2.toNat,(ys,an,b',i,i),⟨rfl,rfl,rfl,by simp,.start h5 (by omega) (by simp only [];omega)⟩,⟨⟨⟨rfl,rfl⟩,rfl,rfl,trivial,rfl,rfl,trivial⟩,rfl,trivial⟩,?_⟩
    rintro ⟨zs,a',b'',i',j⟩ ⟨g1,g2,g3,g4,g5⟩
    simp only [] at g1 g2 g3 g4 g5
    subst g1 g2 g3
    obtain ⟨j,rfl⟩:=Int.eq_ofNat_of_zero_le g4
    simp only [Int.toNat_natCast] at g5
    have hs:=small_segE hsm g5.2.2.2.2.2.2
    have hzl:=g5.2.2.2.1
    have hji:=g5.2.1
    have haj:=g5.1
    have next:SortedSeg keyE l zs an ((i:Int)+1)→ ∀n:Int,n=IntKind.wrap IntKind.i64 ((i:Int)+1)→ ∃y:List Entry × Int × Int × Int,(y.2.1=(an:Int)∧y.2.2.1=b''∧(an:Int)+1≤y.2.2.2∧(y.2.2.2≤b''∨(y.2.2.2=an+1∧y.1=l))∧SortedSeg keyE l y.1 an y.2.2.2)∧
        (((0=0∧zs.length=y.1.length)∧(an:Int)=y.2.1∧b''=y.2.2.1∧True∧n=y.2.2.2∧True)∧zs=y.1∧True)∧(b''-y.2.2.2).toNat<(b''-(i:Int)).toNat:=by
      intro hs n hn
      rw [w64 (by omega)] at hn
      subst hn
      exact ⟨(zs,an,b'',(i:Int)+1),⟨rfl,rfl,by simp only [];omega,.inl (by simp only [];omega),hs⟩,⟨⟨⟨rfl,rfl⟩,rfl,rfl,trivial,rfl,trivial⟩,rfl,trivial⟩,by simp only [];omega⟩
    refine br_dec (fun hj=>?_) (fun hj=>⟨next (g5.stop (.inl (by simp only [] at hj;omega))),trivial⟩)
    simp only [gt_iff_lt] at hj
    obtain ⟨j,rfl⟩: ∃q,j=q+1:=⟨j-1,by omega⟩
    simp only [Int.toNat_natCast,Nat.zero_add]
    refine ⟨⟨by omega,by omega⟩,by omega,fun e he n hn=>?_⟩
    rw [w64 (by omega)] at hn
    have hn2:n=(j:Int):=by omega
    subst hn2
    simp only [Int.toNat_natCast]
    refine ⟨⟨by omega,by omega⟩,by omega,fun e1 he1=>⟨br_dec (fun hlt=>?_) (fun hlt=>?_),trivial⟩⟩
    · rw [cmpE_lt (small_getE hs he) (small_getE hs he1)] at hlt
      intro n hn n1 hn1
      rw [w64 (by omega)] at hn hn1
      have hn2:n=(j:Int):=by omega
      have hn3:n1=(j:Int):=by omega
      subst hn2 hn3
      simp only [Int.toNat_natCast]
      refine ⟨⟨by omega,by omega⟩,by omega,fun e2 he2=>⟨⟨by omega,by omega⟩,by omega,fun e3 he3=>⟨⟨by omega,by omega⟩,⟨by omega,fun e4 he4=>⟨⟨by omega,by omega⟩,⟨by simp;omega,fun e5 he5 n2 hn2=>?_⟩,trivial⟩⟩,trivial⟩⟩⟩
      rw [he1] at he2;cases he2
      rw [he] at he3;cases he3
      rw [w64 (by omega)] at hn2
      have hn3:n2=(j:Int):=by omega
      subst hn3
      refine ⟨((zs.set (j+1) e1).set j e,an,b'',i,j),⟨rfl,rfl,rfl,by simp,?_⟩,⟨⟨⟨trivial,by simp⟩,rfl,rfl,trivial,rfl,rfl,trivial⟩,rfl,trivial⟩,by simp⟩
      exact g5.step (by omega) he1 he hlt
    · rw [cmpE_lt (small_getE hs he) (small_getE hs he1)] at hlt
      have nx:=next (g5.stop (.inr fun u v _ hu hv=>by
        rw [he] at hv;cases hv
        simp only [Nat.add_sub_cancel] at hu
        rw [he1] at hu;cases hu
        omega))
      simp only [Nat.zero_add] at nx ⊢
      exact nx
  · simp only [] at hi
    refine ⟨h5.1.symm,hk ys ?_⟩
    rcases h4 with h4 |⟨h4,rfl⟩
    · have:i=b':=by omega
      rw [←this];exact h5
    · exact .refl (by omega)
theorem vSwapRE {l:List Entry} {a b m:Int} {k:List Entry × Unit→Unit→Prop} (h:oSwapRE 0 (l,a,b,m,(),()) k):V.vSwapRE l a b m k:=by
  unfold V.vSwapRE V.LP V.NX V.AT V.NM V.SH V.LN
  obtain ⟨⟨h1,h2,h3,h4,h5,h6,h7⟩,hk⟩:=h
  simp only [] at h1 h2 h3 h4 h5 h6 h7 hk
  refine ⟨fun x=>Swapped l x.1 a b x.2.2.2.2∧x.2.1=a∧x.2.2.1=b∧x.2.2.2.1=m∧0≤x.2.2.2.2∧x.2.2.2.2≤m,fun x=>(m-x.2.2.2.2).toNat,(l,a,b,m,0),⟨Swapped.refl _ _ _,rfl,rfl,rfl,Int.le_refl _,h3⟩,⟨⟨⟨rfl,rfl⟩,rfl,rfl,rfl,rfl,trivial⟩,rfl,trivial⟩,?_⟩
  rintro ⟨c,a',b',m',i⟩ ⟨g1,g2,g3,g4,g5,g6⟩
  simp only [] at g1 g2 g3 g4 g5 g6
  subst g2 g3 g4
  have hlc:=g1.1
  dsimp only
  refine br_dec (fun hi n hn n1 hn1 n2 hn2=>?_) (fun hi=>?_)
  · rw [w64 (by omega)] at hn hn1 hn2
    subst hn hn1 hn2
    refine ⟨⟨by omega,by omega⟩,by omega,fun e he n3 hn3=>?_⟩
    rw [w64 (by omega)] at hn3
    subst hn3
    refine ⟨⟨by omega,by omega⟩,by omega,fun e1 he1=>⟨⟨by omega,by omega⟩,⟨by omega,fun e2 he2=>⟨⟨by omega,by omega⟩,⟨by rw [List.length_set];omega,fun e3 he3 n4 hn4=>?_⟩,trivial⟩⟩,trivial⟩⟩
    rw [w64 (by omega)] at hn4
    subst hn4
    refine ⟨((c.set (0+(a'+i).toNat) e).set (0+(b'+i).toNat) e1,a',b',m',i+1),⟨?_,rfl,rfl,rfl,by simp only [];omega,by simp only [];omega⟩,⟨⟨⟨rfl,by simp⟩,rfl,rfl,rfl,rfl,trivial⟩,rfl,trivial⟩,by simp only [];omega⟩
    rw [Nat.zero_add] at he he1
    simp only [Nat.zero_add]
    exact g1.step h1 h2 g5 (by omega) he1 he
  · have:i=m':=by omega
    subst this
    exact ⟨hlc.symm,hk c g1⟩
theorem vRotE {l:List Entry} {a b m:Int} {k:List Entry × Unit→Unit→Prop} (h:oRotE 0 (l,a,b,m,(),()) k):V.vRotE l a b m k:=by
  unfold V.vRotE V.LP V.NX V.NM V.SH
  obtain ⟨⟨h1,h2,h3,h4,h5⟩,hk⟩:=h
  simp only [] at h1 h2 h3 h4 h5 hk
  intro n hn n1 hn1
  rw [w64 (by omega)] at hn hn1
  subst hn hn1
  refine ⟨fun x=>x.2.1=b∧1≤x.2.2.1∧x.2.2.1≤b-a∧1≤x.2.2.2∧x.2.2.2≤m-b∧x.1.length=l.length∧ ∀ys,Rotated x.1 ys (b-x.2.2.1) b (b+x.2.2.2)→Rotated l ys a b m,fun x=>(x.2.2.1+x.2.2.2).toNat,(l,b,b-a,m-b),⟨rfl,by simp only [];omega,Int.le_refl _,by simp only [];omega,Int.le_refl _,rfl,fun ys hy=>?_⟩,⟨⟨⟨rfl,rfl⟩,rfl,trivial,rfl,rfl,trivial⟩,rfl,trivial⟩,?_⟩
  · simp only [] at hy
    rw [show b-(b-a)=a by omega,show b+(m-b)=m by omega] at hy
    exact hy
  rintro ⟨c,b',i,j⟩ ⟨g1,g2,g3,g4,g5,g6,g7⟩
  simp only [] at g1 g2 g3 g4 g5 g6 g7
  subst g1
  dsimp only
  refine br_not (fun hne=>?_) (fun heq=>?_)
  · have hne:i≠j:=by simpa using hne
    refine br_dec (fun hgt n hn=>?_) (fun hgt n hn n2 hn2 n3 hn3=>?_)
    · rw [w64 (by omega)] at hn
      subst hn
      refine ⟨rfl,⟨by omega,by omega,by omega,by omega,by omega,by omega,by omega⟩,fun ys hys n hn=>?_⟩
      rw [w64 (by omega)] at hn
      subst hn
      refine ⟨(ys,b',i-j,j),⟨rfl,by simp only [];omega,by simp only [];omega,g4,g5,by simp only [];rw [hys.1,g6],fun zs hz=>g7 zs ?_⟩,⟨⟨⟨rfl,hys.1.symm⟩,rfl,trivial,rfl,rfl,trivial⟩,rfl,trivial⟩,by simp only [];omega⟩
      exact Rotated.left (by omega) (by omega) (by omega) hys hz
    · rw [w64 (by omega)] at hn hn2
      subst hn hn2
      rw [w64 (by omega)] at hn3
      subst hn3
      refine ⟨rfl,⟨by omega,by omega,by omega,by omega,by omega,by omega,by omega⟩,fun ys hys n hn=>?_⟩
      rw [w64 (by omega)] at hn
      subst hn
      refine ⟨(ys,b',i,j-i),⟨rfl,g2,g3,by simp only [];omega,by simp only [];omega,by simp only [];rw [hys.1,g6],fun zs hz=>g7 zs ?_⟩,⟨⟨⟨rfl,hys.1.symm⟩,rfl,trivial,rfl,rfl,trivial⟩,rfl,trivial⟩,by simp only [];omega⟩
      exact Rotated.right (by omega) (by omega) (by omega) hys hz
  · have heq:i=j:=by simpa using heq
    subst heq
    intro n hn
    rw [w64 (by omega)] at hn
    subst hn
    refine ⟨rfl,⟨by omega,by omega,by omega,by omega,by omega,by omega,by omega⟩,fun ys hys=>⟨by rw [hys.1,g6],hk ys (g7 ys (Rotated.one (by omega) (by omega) hys))⟩⟩
theorem atI_ofE {xs:List Entry} {p:Int} {e:Entry} (h:xs[0+p.toNat]? =some e):atI xs p=some e:=by rw [Nat.zero_add] at h;exact h
theorem small_atE {xs:List Entry} (h:SmallIdsE xs) {p:Int} {e:Entry} (he:atI xs p=some e): -9223372036854775808≤e.At∧e.At≤9223372036854775807:=h e (List.mem_of_getElem? he)
theorem symTRE {n:Nat} {l ys zs:List Entry} {a st mid en m:Int} {k:List Entry × Unit→Unit→Prop} (hH:Halves keyE l ys a st mid en m) (hsm:SmallIdsE l) (h0:0≤a) (h1:a<mid) (h2:mid≤en) (h3:en≤m) (hml:m≤l.length) (hll:l.length≤1099511627776) (hN:(m-a).toNat<n+1)
    (hk: ∀ws,SortedSeg keyE l ws a m→k (ws,()) ()) (hz:SortedSeg keyE ys zs a mid):
    br (decide (mid<en)) (br (decide (en<m)) (l.length=zs.length∧SymPreE n zs mid en m∧ ∀ws,SortedSeg keyE zs ws mid m→l.length=ws.length∧k (ws,()) ()) (l.length=zs.length∧k (zs,()) ())) (l.length=zs.length∧k (zs,()) ()):=by
  have hzl:zs.length=l.length:=by rw [hz.1,hH.len]
  have r3:Rises keyE zs mid en:=hH.r3.congr fun i h0 h1 h2=>hz.out h0 (by omega)
  have r4:Rises keyE zs en m:=hH.r4.congr fun i h0 h1 h2=>hz.out h0 (by omega)
  refine br_dec (fun c1=>br_dec (fun c2=>?_) (fun c2=>?_)) (fun c1=>?_)
  · refine ⟨hzl.symm,⟨⟨by omega,c1,c2,by omega,by omega⟩,?_,by omega,r3,r4⟩,fun ws hw=>⟨by rw [hw.1,hzl],hk ws (hH.merge h0 (by omega) (by omega) hz hw)⟩⟩
    exact small_segE (small_segE hsm hH.fil) hz.2.2.2
  · have:en=m:=by omega
    subst this
    exact ⟨hzl.symm,hk zs (hH.merge h0 (by omega) (by omega) hz (.same r3))⟩
  · have:en=mid:=by omega
    subst this
    exact ⟨hzl.symm,hk zs (hH.merge h0 (by omega) (by omega) hz (.same r4))⟩
theorem symTLE {n:Nat} {l ys:List Entry} {a st mid en m:Int} {k:List Entry × Unit→Unit→Prop} (hH:Halves keyE l ys a st mid en m) (hsm:SmallIdsE l) (h0:0≤a) (h1:a<mid) (h2:mid≤en) (h3:en≤m) (hmm:mid<m) (hs1:a≤st) (hs2:st≤mid) (hml:m≤l.length) (hll:l.length≤1099511627776) (hN:(m-a).toNat<n+1)
    (hk: ∀ws,SortedSeg keyE l ws a m→k (ws,()) ()) {A:List Entry→Prop} (hA: ∀zs,SortedSeg keyE ys zs a mid→A zs):
    br (decide (a<st)) (br (decide (st<mid)) (l.length=ys.length∧SymPreE n ys a st mid∧ ∀zs,SortedSeg keyE ys zs a mid→A zs) (A ys)) (A ys):=by
  refine br_dec (fun c1=>br_dec (fun c2=>?_) (fun c2=>?_)) (fun c1=>?_)
  · exact ⟨hH.len.symm,⟨⟨by omega,c1,c2,by rw [hH.len];omega,by rw [hH.len];exact hll⟩,small_segE hsm hH.fil,by omega,hH.r1,hH.r2⟩,hA⟩
  · have:st=mid:=by omega
    subst this
    exact hA ys (.same hH.r1)
  · have:st=a:=by omega
    subst this
    exact hA ys (.same hH.r2)
theorem vSymE {n:Nat} {l:List Entry} {a b m:Int} {k:List Entry × Unit→Unit→Prop} (h:oSymE 0 (n+1) (l,a,b,m,(),()) k):V.vSymE n l a b m k:=by
  unfold V.vSymE V.LP V.NX V.AT V.NM V.SH V.LN
  obtain ⟨⟨⟨h1,h2,h3,h4,h5⟩,hsm,hN,s1,s2⟩,hk⟩:=h
  simp only [] at h1 h2 h3 h4 h5 hsm hN s1 s2 hk
  intro n1 hn1
  rw [w64 (by omega)] at hn1
  subst hn1
  refine br_bool (fun hc=>?_) (fun hc n2 hn2=>?_)
  · have hb:b=a+1:=by simp at hc;omega
    subst hb
    obtain ⟨u,hu⟩:=atI_some (xs:=l) (p:=a) h1 (by omega)
    have hus:=small_atE hsm hu
    refine ⟨fun x=>x.1=l∧x.2.1=a∧a+1≤x.2.2.1∧x.2.2.1≤x.2.2.2∧x.2.2.2≤m∧(∀(p:Int) (x':Entry),a+1≤p→p<x.2.2.1→atI l p=some x'→keyE x'<keyE u)∧(∀(p:Int) (x':Entry),x.2.2.2≤p→p<m→atI l p=some x'→keyE u≤keyE x'),
      fun x=>(x.2.2.2-x.2.2.1).toNat,(l,a,a+1,m),⟨rfl,rfl,Int.le_refl _,by simp only [];omega,Int.le_refl _,fun p x' p1 p2=>by simp only [] at p2;omega,fun p x' p1 p2=>by simp only [] at p1;omega⟩,⟨⟨⟨rfl,rfl⟩,rfl,trivial,rfl,rfl,trivial⟩,rfl,trivial⟩,?_⟩
    rintro ⟨c,a',i,j⟩ ⟨g1,g2,g3,g4,g5,g6,g7⟩
    simp only [] at g1 g2 g3 g4 g5 g6 g7
    subst g1 g2
    dsimp only
    refine br_dec (fun hij n1 e1 n2 e2=>⟨by decide,fun n3 e3 n4 e4=>?_⟩) (fun hij=>?_)
    · have hh:=half (by omega) (by omega) e1 e2 e3 e4
      clear e1 e2 e3 e4
      have hh1:i≤n4∧n4<j:=by omega
      refine ⟨⟨by omega,by omega⟩,by omega,fun e he=>⟨⟨by omega,by omega⟩,by omega,fun e1 he1=>⟨?_,trivial⟩⟩⟩
      have he:=atI_ofE he
      have he1:=atI_ofE he1
      rw [hu] at he1
      cases he1
      have hes:=small_atE hsm he
      refine br_dec (fun hlt n5 hn5=>?_) (fun hlt=>?_)
      · rw [cmpE_lt hes hus] at hlt
        rw [w64 (by omega)] at hn5
        subst hn5
        refine ⟨(c,a',n4+1,j),⟨rfl,rfl,by simp only [];omega,by simp only [];omega,g5,fun p x' p1 p2 hx=>?_,g7⟩,⟨⟨⟨rfl,rfl⟩,rfl,trivial,rfl,rfl,trivial⟩,rfl,trivial⟩,by simp only [];omega⟩
        simp only [] at p2
        have:=s2.le (by omega) p1 (by omega:p≤n4) (by omega) hx he
        omega
      · rw [cmpE_lt hes hus] at hlt
        refine ⟨(c,a',i,n4),⟨rfl,rfl,g3,by simp only [];omega,by simp only [];omega,g6,fun p x' p1 p2 hx=>?_⟩,⟨⟨⟨rfl,rfl⟩,rfl,trivial,rfl,rfl,trivial⟩,rfl,trivial⟩,by simp only [];omega⟩
        simp only [] at p1
        have:=s2.le (by omega) (by omega) p1 p2 he hx
        omega
    · have hij:j=i:=by omega
      subst hij
      refine ⟨fun x=>x.2.1=j∧a'≤x.2.2∧(x.2.2≤j-1)∧Rotated c x.1 a' (a'+1) (x.2.2+1),fun x=>(j-x.2.2).toNat,(c,j,a'),⟨rfl,Int.le_refl _,by simp only [];omega,Rotated.triv (.inr rfl) (by omega) (Int.le_refl _)⟩,⟨⟨⟨rfl,rfl⟩,rfl,rfl,trivial⟩,rfl,trivial⟩,?_⟩
      rintro ⟨d,j',q⟩ ⟨f1,f2,f3,f4⟩
      simp only [] at f1 f2 f3 f4
      subst f1
      have hdl:=f4.1
      dsimp only
      intro n1 hn1
      rw [w64 (by omega)] at hn1
      subst hn1
      refine br_dec (fun hlt n2 hn2 n3 hn3=>?_) (fun hlt=>?_)
      · rw [w64 (by omega)] at hn2 hn3
        subst hn2 hn3
        refine ⟨⟨by omega,by omega⟩,by omega,fun e he=>⟨⟨by omega,by omega⟩,by omega,fun e1 he1=>⟨⟨by omega,by omega⟩,⟨by omega,fun e2 _=>⟨⟨by omega,by omega⟩,⟨by rw [List.length_set];omega,fun e3 _ n4 hn4=>?_⟩,trivial⟩⟩,trivial⟩⟩⟩
        rw [w64 (by omega)] at hn4
        subst hn4
        refine ⟨((d.set (0+q.toNat) e).set (0+(q+1).toNat) e1,j',q+1),⟨rfl,by simp only [];omega,by simp only [];omega,?_⟩,⟨⟨⟨rfl,by simp⟩,rfl,rfl,trivial⟩,rfl,trivial⟩,by simp only [];omega⟩
        simp only [Nat.zero_add]
        have:=f4.stepL h1 f2 (by omega) (atI_ofE he1) (atI_ofE he)
        rw [show q+1+1=q+2 by omega]
        exact this
      · have hq:q+1=j':=by omega
        rw [hq] at f4
        exact ⟨hdl.symm,hk d (insL h1 (by omega) (by omega) h4 hu s2 g6 g7 f4)⟩
  · rw [w64 (by omega)] at hn2
    subst hn2
    have hc:b-a≠1:=by simpa using hc
    refine br_bool (fun hc2=>?_) (fun hc2=>?_)
    · have hb:m=b+1:=by simp at hc2;omega
      subst hb
      obtain ⟨v,hv⟩:=atI_some (xs:=l) (p:=b) (by omega) (by omega)
      have hvs:=small_atE hsm hv
      refine ⟨fun x=>x.1=l∧x.2.1=b∧a≤x.2.2.1∧x.2.2.1≤x.2.2.2∧x.2.2.2≤b∧(∀(p:Int) (x':Entry),a≤p→p<x.2.2.1→atI l p=some x'→keyE x'≤keyE v)∧(∀(p:Int) (x':Entry),x.2.2.2≤p→p<b→atI l p=some x'→keyE v<keyE x'),
        fun x=>(x.2.2.2-x.2.2.1).toNat,(l,b,a,b),⟨rfl,rfl,Int.le_refl _,by simp only [];omega,Int.le_refl _,fun p x' p1 p2=>by simp only [] at p2;omega,fun p x' p1 p2=>by simp only [] at p1;omega⟩,⟨⟨⟨rfl,rfl⟩,rfl,trivial,rfl,rfl,trivial⟩,rfl,trivial⟩,?_⟩
      rintro ⟨c,b',i,j⟩ ⟨g1,g2,g3,g4,g5,g6,g7⟩
      simp only [] at g1 g2 g3 g4 g5 g6 g7
      subst g1 g2
      dsimp only
      refine br_dec (fun hij n1 e1 n2 e2=>⟨by decide,fun n3 e3 n4 e4=>?_⟩) (fun hij=>?_)
      · have hh:=half (by omega) (by omega) e1 e2 e3 e4
        clear e1 e2 e3 e4
        have hh1:i≤n4∧n4<j:=by omega
        refine ⟨⟨by omega,by omega⟩,by omega,fun e he=>⟨⟨by omega,by omega⟩,by omega,fun e1 he1=>⟨?_,trivial⟩⟩⟩
        have he:=atI_ofE he
        have he1:=atI_ofE he1
        rw [hv] at he
        cases he
        have hes:=small_atE hsm he1
        refine br_not (fun hlt=>?_) (fun hlt=>?_)
        · intro n5 hn5
          have hlt: ¬ cmpE v e1<0:=of_decide_eq_false hlt
          rw [cmpE_lt hvs hes] at hlt
          rw [w64 (by omega)] at hn5
          subst hn5
          refine ⟨(c,b',n4+1,j),⟨rfl,rfl,by simp only [];omega,by simp only [];omega,g5,fun p x' p1 p2 hx=>?_,g7⟩,⟨⟨⟨rfl,rfl⟩,rfl,trivial,rfl,rfl,trivial⟩,rfl,trivial⟩,by simp only [];omega⟩
          simp only [] at p2
          have:=s1.le (by omega) p1 (by omega:p≤n4) (by omega) hx he1
          omega
        · have hlt:cmpE v e1<0:=of_decide_eq_true hlt
          rw [cmpE_lt hvs hes] at hlt
          refine ⟨(c,b',i,n4),⟨rfl,rfl,g3,by simp only [];omega,by simp only [];omega,g6,fun p x' p1 p2 hx=>?_⟩,⟨⟨⟨rfl,rfl⟩,rfl,trivial,rfl,rfl,trivial⟩,rfl,trivial⟩,by simp only [];omega⟩
          simp only [] at p1
          have:=s1.le (by omega) (by omega) p1 p2 he1 hx
          omega
      · have hij:j=i:=by omega
        subst hij
        refine ⟨fun x=>x.2.1=j∧j≤x.2.2∧x.2.2≤b'∧Rotated c x.1 x.2.2 b' (b'+1),fun x=>(x.2.2-j).toNat,(c,j,b'),⟨rfl,by simp only [];omega,Int.le_refl _,Rotated.triv (.inl rfl) (Int.le_refl _) (by omega)⟩,⟨⟨⟨rfl,rfl⟩,rfl,rfl,trivial⟩,rfl,trivial⟩,?_⟩
        rintro ⟨d,j',q⟩ ⟨f1,f2,f3,f4⟩
        simp only [] at f1 f2 f3 f4
        subst f1
        have hdl:=f4.1
        dsimp only
        refine br_dec (fun hlt n2 hn2 n3 hn3=>?_) (fun hlt=>?_)
        · rw [w64 (by omega)] at hn2 hn3
          subst hn2 hn3
          refine ⟨⟨by omega,by omega⟩,by omega,fun e he=>⟨⟨by omega,by omega⟩,by omega,fun e1 he1=>⟨⟨by omega,by omega⟩,⟨by omega,fun e2 _=>⟨⟨by omega,by omega⟩,⟨by rw [List.length_set];omega,fun e3 _ n4 hn4=>?_⟩,trivial⟩⟩,trivial⟩⟩⟩
          rw [w64 (by omega)] at hn4
          subst hn4
          refine ⟨((d.set (0+q.toNat) e).set (0+(q-1).toNat) e1,j',q-1),⟨rfl,by simp only [];omega,by simp only [];omega,?_⟩,⟨⟨⟨rfl,by simp⟩,rfl,rfl,trivial⟩,rfl,trivial⟩,by simp only [];omega⟩
          simp only [Nat.zero_add]
          exact f4.stepR (by omega) f3 (by omega) (atI_ofE he) (atI_ofE he1)
        · have hq:q=j':=by omega
          subst hq
          exact ⟨hdl.symm,hk d (insR h1 g3 (by omega) (by omega) hv s1 g6 g7 f4)⟩
    · have hc2:m-b≠1:=by simpa using hc2
      intro n3 e3 n4 e4
      refine ⟨by decide,fun n5 e5 mid e6=>?_⟩
      have hmid:=half (by omega) (by omega) e3 e4 e5 e6
      clear e3 e4 e5 e6
      have hm1:a<mid∧mid<m∧mid≤(a+m)/2∧(a+m)/2≤mid:=by omega
      intro n7 hn7
      rw [w64 (by omega)] at hn7
      subst hn7
      refine br_dec (fun hg n8 hn8 n9 hn9=>?_) (fun hg n8 hn8=>?_)
      · rw [w64 (by omega)] at hn8 hn9
        subst hn8 hn9
        obtain ⟨lo,hi,hlh⟩: ∃lo hi:Int,(mid<b∧lo=mid+b-m∧hi=mid)∨(b≤mid∧lo=a∧hi=b):=⟨_,_,.inl ⟨by omega,rfl,rfl⟩⟩
        refine ⟨fun x=>x.1=l∧x.2.1=a∧x.2.2.1=b∧x.2.2.2.1=m∧x.2.2.2.2.1=mid∧x.2.2.2.2.2.1=mid+b∧lo≤x.2.2.2.2.2.2.1∧x.2.2.2.2.2.2.1≤x.2.2.2.2.2.2.2.1∧x.2.2.2.2.2.2.2.1≤hi∧x.2.2.2.2.2.2.2.2=mid+b-1∧(∀(c:Int) (u v:Entry),lo≤c→c<x.2.2.2.2.2.2.1→atI l c=some u→atI l (mid+b-1-c)=some v→keyE u≤keyE v)∧(∀(c:Int) (u v:Entry),x.2.2.2.2.2.2.2.1≤c→c<hi→atI l c=some u→atI l (mid+b-1-c)=some v→keyE v<keyE u),
          fun x=>(x.2.2.2.2.2.2.2.1-x.2.2.2.2.2.2.1).toNat,(l,a,b,m,mid,mid+b,mid+b-m,mid,mid+b-1),⟨rfl,rfl,rfl,rfl,rfl,rfl,by simp only [];omega,by simp only [];omega,by simp only [];omega,rfl,fun c u v q1 q2=>by simp only [] at q2;omega,fun c u v q1 q2=>by simp only [] at q1;omega⟩,⟨⟨⟨rfl,rfl⟩,rfl,rfl,rfl,trivial,rfl,rfl,rfl,rfl,rfl,trivial⟩,rfl,trivial⟩,?_⟩
        rintro ⟨c,a',b',m',mid',n',st,r,p⟩ ⟨g1,g2,g3,g4,g5,g6,g7,g8,g9,g10,g11,g12⟩
        simp only [] at g1 g2 g3 g4 g5 g6 g7 g8 g9 g10 g11 g12
        subst g1 g2 g3 g4 g5 g6 g10
        have hal:a'≤lo:=by omega
        have hib:hi≤b'∧hi≤mid':=by omega
        dsimp only
        refine br_dec (fun hlt n1 e1 n2 e2=>⟨by decide,fun n3 e3 n4 e4 n5 hn5=>?_⟩) (fun hlt n1 hn1=>?_)
        · have hh:=half (by omega) (by omega) e1 e2 e3 e4
          clear e1 e2 e3 e4
          have hh1:st≤n4∧n4<r:=by omega
          rw [w64 (by omega)] at hn5
          subst hn5
          refine ⟨⟨by omega,by omega⟩,by omega,fun e he=>⟨⟨by omega,by omega⟩,by omega,fun e1 he1=>⟨?_,trivial⟩⟩⟩
          have he:=atI_ofE he
          have he1:=atI_ofE he1
          have hes:=small_atE hsm he
          have hes1:=small_atE hsm he1
          refine br_not (fun hq n6 hn6=>?_) (fun hq=>?_)
          · have hq: ¬ cmpE e e1<0:=of_decide_eq_false hq
            rw [cmpE_lt hes hes1] at hq
            rw [w64 (by omega)] at hn6
            subst hn6
            refine ⟨(c,a',b',m',mid',mid'+b',n4+1,r,mid'+b'-1),⟨rfl,rfl,rfl,rfl,rfl,rfl,by simp only [];omega,by simp only [];omega,g9,rfl,fun c u v q1 q2 hu hv=>?_,g12⟩,⟨⟨⟨rfl,rfl⟩,rfl,rfl,rfl,trivial,rfl,rfl,rfl,rfl,rfl,trivial⟩,rfl,trivial⟩,by simp only [];omega⟩
            simp only [] at q2
            have l1:=s1.le (by omega) (by omega:a'≤c) (by omega:c≤n4) (by omega) hu he1
            have l2:=s2.le (by omega) (by omega) (by omega:mid'+b'-1-n4≤mid'+b'-1-c) (by omega) he hv
            omega
          · have hq:cmpE e e1<0:=of_decide_eq_true hq
            rw [cmpE_lt hes hes1] at hq
            refine ⟨(c,a',b',m',mid',mid'+b',st,n4,mid'+b'-1),⟨rfl,rfl,rfl,rfl,rfl,rfl,g7,by simp only [];omega,by simp only [];omega,rfl,g11,fun c u v q1 q2 hu hv=>?_⟩,⟨⟨⟨rfl,rfl⟩,rfl,rfl,rfl,trivial,rfl,rfl,rfl,rfl,rfl,trivial⟩,rfl,trivial⟩,by simp only [];omega⟩
            simp only [] at q1
            have l1:=s1.le (by omega) (by omega:a'≤n4) q1 (by omega) he1 hu
            have l2:=s2.le (by omega) (by omega) (by omega:mid'+b'-1-c≤mid'+b'-1-n4) (by omega) hv he
            omega
        · have hr:r=st:=by omega
          subst hr
          rw [w64 (by omega)] at hn1
          subst hn1
          obtain ⟨en,hen⟩: ∃en,en=mid'+b'-r:=⟨_,rfl⟩
          rw [←hen]
          have hH: ∀ys,Rotated c ys r b' en→Halves keyE c ys a' r mid' en m':=fun ys hys=>halves h1 h2 h3 h4 (by omega) (by omega) hlh hal g7 g9 hen (by omega) s1 s2 g11 g12 hys
          refine br_dec (fun c1=>br_dec (fun c2=>?_) (fun c2=>?_)) (fun c1=>?_)
          · refine ⟨rfl,⟨by omega,c1,c2,by omega,h5⟩,fun ys hys=>?_⟩
            have hh:=hH ys hys
            exact symTLE hh hsm h1 (by omega) (by omega) (by omega) (by omega) (by omega) (by omega) h4 h5 hN hk fun zs hz=>symTRE hh hsm h1 (by omega) (by omega) (by omega) h4 h5 hN hk hz
          all_goals
            have hh:=hH c (Rotated.triv (by omega) (by omega) (by omega))
            exact symTLE hh hsm h1 (by omega) (by omega) (by omega) (by omega) (by omega) (by omega) h4 h5 hN hk fun zs hz=>symTRE hh hsm h1 (by omega) (by omega) (by omega) h4 h5 hN hk hz
      · rw [w64 (by omega)] at hn8
        subst hn8
        obtain ⟨lo,hi,hlh⟩: ∃lo hi:Int,(mid<b∧lo=mid+b-m∧hi=mid)∨(b≤mid∧lo=a∧hi=b):=⟨_,_,.inr ⟨by omega,rfl,rfl⟩⟩
        refine ⟨fun x=>x.1=l∧x.2.1=a∧x.2.2.1=b∧x.2.2.2.1=m∧x.2.2.2.2.1=mid∧x.2.2.2.2.2.1=mid+b∧lo≤x.2.2.2.2.2.2.1∧x.2.2.2.2.2.2.1≤x.2.2.2.2.2.2.2.1∧x.2.2.2.2.2.2.2.1≤hi∧x.2.2.2.2.2.2.2.2=mid+b-1∧(∀(c:Int) (u v:Entry),lo≤c→c<x.2.2.2.2.2.2.1→atI l c=some u→atI l (mid+b-1-c)=some v→keyE u≤keyE v)∧(∀(c:Int) (u v:Entry),x.2.2.2.2.2.2.2.1≤c→c<hi→atI l c=some u→atI l (mid+b-1-c)=some v→keyE v<keyE u),
          fun x=>(x.2.2.2.2.2.2.2.1-x.2.2.2.2.2.2.1).toNat,(l,a,b,m,mid,mid+b,a,b,mid+b-1),⟨rfl,rfl,rfl,rfl,rfl,rfl,by simp only [];omega,by simp only [];omega,by simp only [];omega,rfl,fun c u v q1 q2=>by simp only [] at q2;omega,fun c u v q1 q2=>by simp only [] at q1;omega⟩,⟨⟨⟨rfl,rfl⟩,rfl,rfl,rfl,trivial,rfl,rfl,rfl,rfl,rfl,trivial⟩,rfl,trivial⟩,?_⟩
        rintro ⟨c,a',b',m',mid',n',st,r,p⟩ ⟨g1,g2,g3,g4,g5,g6,g7,g8,g9,g10,g11,g12⟩
        simp only [] at g1 g2 g3 g4 g5 g6 g7 g8 g9 g10 g11 g12
        subst g1 g2 g3 g4 g5 g6 g10
        have hal:a'≤lo:=by omega
        have hib:hi≤b'∧hi≤mid':=by omega
        dsimp only
        refine br_dec (fun hlt n1 e1 n2 e2=>⟨by decide,fun n3 e3 n4 e4 n5 hn5=>?_⟩) (fun hlt n1 hn1=>?_)
        · have hh:=half (by omega) (by omega) e1 e2 e3 e4
          clear e1 e2 e3 e4
          have hh1:st≤n4∧n4<r:=by omega
          rw [w64 (by omega)] at hn5
          subst hn5
          refine ⟨⟨by omega,by omega⟩,by omega,fun e he=>⟨⟨by omega,by omega⟩,by omega,fun e1 he1=>⟨?_,trivial⟩⟩⟩
          have he:=atI_ofE he
          have he1:=atI_ofE he1
          have hes:=small_atE hsm he
          have hes1:=small_atE hsm he1
          refine br_not (fun hq n6 hn6=>?_) (fun hq=>?_)
          · have hq: ¬ cmpE e e1<0:=of_decide_eq_false hq
            rw [cmpE_lt hes hes1] at hq
            rw [w64 (by omega)] at hn6
            subst hn6
            refine ⟨(c,a',b',m',mid',mid'+b',n4+1,r,mid'+b'-1),⟨rfl,rfl,rfl,rfl,rfl,rfl,by simp only [];omega,by simp only [];omega,g9,rfl,fun c u v q1 q2 hu hv=>?_,g12⟩,⟨⟨⟨rfl,rfl⟩,rfl,rfl,rfl,trivial,rfl,rfl,rfl,rfl,rfl,trivial⟩,rfl,trivial⟩,by simp only [];omega⟩
            simp only [] at q2
            have l1:=s1.le (by omega) (by omega:a'≤c) (by omega:c≤n4) (by omega) hu he1
            have l2:=s2.le (by omega) (by omega) (by omega:mid'+b'-1-n4≤mid'+b'-1-c) (by omega) he hv
            omega
          · have hq:cmpE e e1<0:=of_decide_eq_true hq
            rw [cmpE_lt hes hes1] at hq
            refine ⟨(c,a',b',m',mid',mid'+b',st,n4,mid'+b'-1),⟨rfl,rfl,rfl,rfl,rfl,rfl,g7,by simp only [];omega,by simp only [];omega,rfl,g11,fun c u v q1 q2 hu hv=>?_⟩,⟨⟨⟨rfl,rfl⟩,rfl,rfl,rfl,trivial,rfl,rfl,rfl,rfl,rfl,trivial⟩,rfl,trivial⟩,by simp only [];omega⟩
            simp only [] at q1
            have l1:=s1.le (by omega) (by omega:a'≤n4) q1 (by omega) he1 hu
            have l2:=s2.le (by omega) (by omega) (by omega:mid'+b'-1-c≤mid'+b'-1-n4) (by omega) hv he
            omega
        · have hr:r=st:=by omega
          subst hr
          rw [w64 (by omega)] at hn1
          subst hn1
          obtain ⟨en,hen⟩: ∃en,en=mid'+b'-r:=⟨_,rfl⟩
          rw [←hen]
          have hH: ∀ys,Rotated c ys r b' en→Halves keyE c ys a' r mid' en m':=fun ys hys=>halves h1 h2 h3 h4 (by omega) (by omega) hlh hal g7 g9 hen (by omega) s1 s2 g11 g12 hys
          refine br_dec (fun c1=>br_dec (fun c2=>?_) (fun c2=>?_)) (fun c1=>?_)
          · refine ⟨rfl,⟨by omega,c1,c2,by omega,h5⟩,fun ys hys=>?_⟩
            have hh:=hH ys hys
            exact symTLE hh hsm h1 (by omega) (by omega) (by omega) (by omega) (by omega) (by omega) h4 h5 hN hk fun zs hz=>symTRE hh hsm h1 (by omega) (by omega) (by omega) h4 h5 hN hk hz
          all_goals
            have hh:=hH c (Rotated.triv (by omega) (by omega) (by omega))
            exact symTLE hh hsm h1 (by omega) (by omega) (by omega) (by omega) (by omega) (by omega) h4 h5 hN hk fun zs hz=>symTRE hh hsm h1 (by omega) (by omega) (by omega) h4 h5 hN hk hz
theorem dvd_gapE {d a c:Int} (ha:d ∣ a) (hc:d ∣ c) (h:a<c):a+d≤c:=by
  have:=Int.le_of_dvd (by omega) (Int.dvd_sub hc ha)
  omega
theorem Rises.subE {key:Entry→Int} {xs:List Entry} {a b a' b':Int} (h:Rises key xs a b) (h1:a≤a') (h2:b'≤b):Rises key xs a' b':=
  fun p q x y p0 p1 pq q1 hx hy=>h p q x y p0 (by omega) pq (by omega) hx hy
theorem Rises.noneE {key:Entry→Int} {xs:List Entry} {a b:Int} (h:b≤a):Rises key xs a b:=fun p q x y p0 p1 pq q1 _ _=>by omega
theorem vStabE {l:List Entry} {a:Int} {k:List Entry × Unit→Unit→Prop} (h:oStabE 0 (l,a,(),()) k):V.vStabE l a k:=by
  unfold V.vStabE V.LP V.NX V.NM V.SH
  obtain ⟨⟨⟨hsm,hll⟩,ha⟩,hk⟩:=h
  simp only [] at hsm hll ha hk
  subst ha
  refine ⟨fun x=>x.2.1=l.length∧x.2.2.1=20∧0≤x.2.2.2.1∧x.2.2.2.1≤l.length∧x.2.2.2.2=x.2.2.2.1+20∧(20:Int) ∣ x.2.2.2.1∧x.1.length=l.length∧(∀c,x.1.filter (keyIs keyE c)=l.filter (keyIs keyE c))∧ ∀c:Int,0≤c→20 ∣ c→c+20≤x.2.2.2.1→Rises keyE x.1 c (c+20),
    fun x=>(l.length-x.2.2.2.1).toNat,(l,l.length,20,0,20),⟨rfl,rfl,Int.le_refl _,by simp only [];omega,rfl,⟨0,rfl⟩,rfl,fun _=>rfl,fun c h1 h2 h3=>by simp only [] at h3;omega⟩,⟨⟨⟨rfl,rfl⟩,rfl,trivial,rfl,rfl,rfl,trivial⟩,rfl,trivial⟩,?_⟩
  rintro ⟨cur,n,bs,a,b⟩ ⟨g1,g2,g3,g4,g5,g6,g7,g8,g9⟩
  simp only [] at g1 g2 g3 g4 g5 g6 g7 g8 g9
  subst g1 g2 g5
  dsimp only
  refine br_dec (fun hb=>⟨rfl,⟨small_segE hsm g8,g3,by omega,by omega,by omega⟩,fun ys hys n hn=>?_⟩) (fun hb=>⟨rfl,⟨small_segE hsm g8,g3,g4,by omega,by omega⟩,fun ys hys=>?_⟩)
  · rw [w64 (by omega)] at hn
    subst hn
    refine ⟨(ys,l.length,20,a+20,a+20+20),⟨rfl,rfl,by simp only [];omega,hb,rfl,Int.dvd_add g6 ⟨1,rfl⟩,by simp only [];rw [hys.1,g7],fun c=>by simp only [];rw [hys.2.2.2,g8],fun c h1 h2 h3=>?_⟩,⟨⟨⟨rfl,hys.1.symm⟩,rfl,trivial,rfl,rfl,rfl,trivial⟩,rfl,trivial⟩,by simp only [];omega⟩
    simp only [] at h3 ⊢
    by_cases hca:c=a
    · subst hca;exact hys.rises
    · have:c+20≤a:=dvd_gapE h2 g6 (by omega)
      exact (g9 c h1 h2 this).congr fun i i0 i1 i2=>hys.out i0 (by omega)
  · have hblk: ∀c:Int,0≤c→(20:Int) ∣ c→Rises keyE ys c (min (c+20) l.length):=by
      intro c h1 h2
      by_cases hca:c=a
      · subst hca;exact Rises.subE hys.rises (Int.le_refl _) (by omega)
      · by_cases hlt:c<a
        · have:c+20≤a:=dvd_gapE h2 g6 hlt
          exact Rises.subE ((g9 c h1 h2 this).congr fun i i0 i1 i2=>hys.out i0 (by omega)) (Int.le_refl _) (by omega)
        · have:a+20≤c:=dvd_gapE g6 h2 (by omega)
          exact Rises.noneE (by omega)
    refine ⟨fun x=>x.2.1=l.length∧0<x.2.2∧x.2.2≤2199023255552∧x.1.length=l.length∧(∀c,x.1.filter (keyIs keyE c)=l.filter (keyIs keyE c))∧ ∀c:Int,0≤c→x.2.2 ∣ c→Rises keyE x.1 c (min (c+x.2.2) l.length),
      fun x=>(l.length-x.2.2).toNat,(ys,l.length,20),⟨rfl,by simp only [];omega,by simp only [];omega,by simp only [];rw [hys.1,g7],fun c=>by simp only [];rw [hys.2.2.2,g8],hblk⟩,⟨⟨⟨rfl,hys.1.symm⟩,rfl,trivial,rfl,trivial⟩,rfl,trivial⟩,?_⟩
    clear hys hblk ys
    rintro ⟨cs,n,s⟩ ⟨f1,f2,f3,f4,f5,f6⟩
    simp only [] at f1 f2 f3 f4 f5 f6
    subst f1
    dsimp only
    refine br_dec (fun hsn n hn=>?_) (fun hsn=>?_)
    · rw [w64 (by omega)] at hn
      subst hn
      refine ⟨fun x=>x.2.1=l.length∧x.2.2.1=s∧0≤x.2.2.2.1∧x.2.2.2.1≤l.length∧x.2.2.2.2=x.2.2.2.1+2*s∧(2*s) ∣ x.2.2.2.1∧x.1.length=l.length∧(∀c,x.1.filter (keyIs keyE c)=l.filter (keyIs keyE c))∧(∀c:Int,0≤c→(2*s) ∣ c→c+2*s≤x.2.2.2.1→Rises keyE x.1 c (c+2*s))∧(∀c:Int,x.2.2.2.1≤c→s ∣ c→Rises keyE x.1 c (min (c+s) l.length)),
        fun x=>(l.length-x.2.2.2.1).toNat,(cs,l.length,s,0,2*s),⟨rfl,rfl,Int.le_refl _,by simp only [];omega,by simp only [];omega,⟨0,by simp⟩,f4,f5,fun c h1 h2 h3=>by simp only [] at h3;omega,fun c h1 h2=>f6 c h1 h2⟩,⟨⟨⟨rfl,rfl⟩,rfl,trivial,rfl,rfl,rfl,trivial⟩,rfl,trivial⟩,?_⟩
      rintro ⟨ds,n,s',a',b'⟩ ⟨q1,q2,q3,q4,q5,q6,q7,q8,q9,q10⟩
      simp only [] at q1 q2 q3 q4 q5 q6 q7 q8 q9 q10
      subst q1 q2 q5
      have hsa:s' ∣ a':=Int.dvd_trans ⟨2,by rw [Int.mul_comm]⟩ q6
      have hsm':=small_segE hsm q8
      dsimp only
      refine br_dec (fun hb n hn=>?_) (fun hb n hn=>?_)
      · rw [w64 (by omega)] at hn
        subst hn
        have ra:=q10 a' (Int.le_refl _) hsa
        have rb:=q10 (a'+s') (by omega) (Int.dvd_add hsa ⟨1,by simp⟩)
        refine ⟨rfl,⟨⟨q3,by omega,by omega,by omega,by omega⟩,hsm',by omega,Rises.subE ra (Int.le_refl _) (by omega),Rises.subE rb (Int.le_refl _) (by omega)⟩,fun ys hys n hn n2 hn2=>?_⟩
        rw [w64 (by omega)] at hn
        subst hn
        rw [w64 (by omega)] at hn2
        subst hn2
        have hdv:(2*s') ∣ a'+2*s':=Int.dvd_add q6 ⟨1,by simp⟩
        refine ⟨(ys,l.length,s',a'+2*s',a'+2*s'+2*s'),⟨rfl,rfl,by simp only [];omega,hb,rfl,hdv,by simp only [];rw [hys.1,q7],fun c=>by simp only [];rw [hys.2.2.2,q8],fun c h1 h2 h3=>?_,fun c h1 h2=>?_⟩,⟨⟨⟨rfl,hys.1.symm⟩,rfl,trivial,rfl,rfl,rfl,trivial⟩,rfl,trivial⟩,by simp only [];omega⟩
        · simp only [] at h3 ⊢
          by_cases hca:c=a'
          · subst hca;exact hys.rises
          · have:c+2*s'≤a':=dvd_gapE h2 q6 (by omega)
            exact (q9 c h1 h2 this).congr fun i i0 i1 i2=>hys.out i0 (by omega)
        · simp only [] at h1 ⊢
          exact (q10 c (by omega) h2).congr fun i i0 i1 i2=>hys.out i0 (by omega)
      · rw [w64 (by omega)] at hn
        subst hn
        have ra:=q10 a' (Int.le_refl _) hsa
        have rb:=q10 (a'+s') (by omega) (Int.dvd_add hsa ⟨1,by simp⟩)
        have fin: ∀ys:List Entry,ys.length=l.length→(∀c,ys.filter (keyIs keyE c)=l.filter (keyIs keyE c))→(∀i,0≤i→i<a'→atI ys i=atI ds i)→Rises keyE ys a' l.length→ ∀n,n=IntKind.i64.wrap (s'*2)→
            ∃y:List Entry × Int × Int,(y.2.1=l.length∧0<y.2.2∧y.2.2≤2199023255552∧y.1.length=l.length∧(∀c,y.1.filter (keyIs keyE c)=l.filter (keyIs keyE c))∧ ∀c:Int,0≤c→y.2.2 ∣ c→Rises keyE y.1 c (min (c+y.2.2) l.length))∧(((0=0∧ds.length=y.1.length)∧(l.length:Int)=y.2.1∧True∧n=y.2.2∧True)∧ys=y.1∧True)∧(l.length-y.2.2).toNat<(l.length-s').toNat:=by
          intro ys hyl hyf hyo hyr n hn
          rw [w64 (by omega)] at hn
          subst hn
          refine ⟨(ys,l.length,s'*2),⟨rfl,by simp only [];omega,by simp only [];omega,hyl,hyf,fun c h1 h2=>?_⟩,⟨⟨⟨rfl,by simp only [];omega⟩,rfl,trivial,rfl,trivial⟩,rfl,trivial⟩,by simp only [];omega⟩
          simp only [] at h2 ⊢
          rw [Int.mul_comm] at h2
          by_cases hca:c=a'
          · subst hca;exact Rises.subE hyr (Int.le_refl _) (by omega)
          · by_cases hlt:c<a'
            · have hg:c+2*s'≤a':=dvd_gapE h2 q6 hlt
              exact Rises.subE ((q9 c h1 h2 hg).congr fun i i0 i1 i2=>hyo i i0 (by omega)) (Int.le_refl _) (by omega)
            · have:a'+2*s'≤c:=dvd_gapE q6 h2 (by omega)
              exact Rises.noneE (by omega)
        refine br_dec (fun hm=>?_) (fun hm=>?_)
        · refine ⟨rfl,⟨⟨q3,by omega,by omega,by omega,by omega⟩,hsm',by omega,Rises.subE ra (Int.le_refl _) (by omega),Rises.subE rb (Int.le_refl _) (by omega)⟩,fun ys hys=>?_⟩
          exact fin ys (by rw [hys.1,q7]) (fun c=>by rw [hys.2.2.2,q8]) (fun i i0 i1=>hys.out i0 (by omega)) hys.rises
        · exact fin ds q7 q8 (fun _ _ _=>rfl) (Rises.subE ra (Int.le_refl _) (by omega))
    · refine ⟨f4.symm,hk cs (.mk2 f4 (fun p hp ho=>?_) ?_ f5)⟩
      · have e1:atI cs p=none:=by simp only [atI];rw [List.getElem?_eq_none];omega
        have e2:atI l p=none:=by simp only [atI];rw [List.getElem?_eq_none];omega
        rw [e1,e2]
      · have:=f6 0 (Int.le_refl _) ⟨0,by simp⟩
        exact Rises.subE this (Int.le_refl _) (by omega)
theorem vStabFE {l:List Entry} {k:List Entry × Unit→Unit→Prop} (h:oStabFE 0 (l,(),()) k):V.vStabFE l k:=by
  unfold V.vStabFE V.LN
  obtain ⟨hp,hk⟩:=h
  exact ⟨rfl,⟨hp,rfl⟩,fun ys hys=>⟨hys.1.symm,hk ys hys⟩⟩
end Go.Ax.O
namespace Go.Ax.Law
theorem le_totalE (a b:Entry):(decide (keyE a≤keyE b)||decide (keyE b≤keyE a))=true:=by
  rw [Bool.or_eq_true,decide_eq_true_eq,decide_eq_true_eq];omega
theorem le_transE (a b c:Entry) (h1:decide (keyE a≤keyE b)=true) (h2:decide (keyE b≤keyE c)=true):decide (keyE a≤keyE c)=true:=by
  simp at*;omega
theorem sortE_sorted (l:List Entry):(sortE l).Pairwise (fun a b=>keyE a≤keyE b):=by
  have:=List.pairwise_mergeSort (le:=fun a b:Entry=>decide (keyE a≤keyE b)) le_transE le_totalE l
  exact this.imp fun h=>by simpa using h
theorem sortE_filter (l:List Entry) (c:Int):(sortE l).filter (keyIs keyE c)=l.filter (keyIs keyE c):=by
  have hp:(l.filter (keyIs keyE c)).Pairwise (fun a b=>decide (keyE a≤keyE b)=true):=by
    rw [List.pairwise_iff_getElem]
    intro i j hi hj _
    have h1:=(List.mem_filter.1 (List.getElem_mem hi)).2
    have h2:=(List.mem_filter.1 (List.getElem_mem hj)).2
    simp [keyIs] at h1 h2 ⊢
    omega
  have hs:=List.sublist_mergeSort (le:=fun a b:Entry=>decide (keyE a≤keyE b)) le_transE le_totalE hp (List.filter_sublist (p:=keyIs keyE c) (l:=l))
  have hs2:=hs.filter (keyIs keyE c)
  have hf:(l.filter (keyIs keyE c)).filter (keyIs keyE c)=l.filter (keyIs keyE c):=by
    rw [List.filter_filter];simp
  rw [hf] at hs2
  have hl:((sortE l).filter (keyIs keyE c)).length=(l.filter (keyIs keyE c)).length:=((List.mergeSort_perm l _).filter _).length_eq
  exact (hs2.eq_of_length hl.symm).symm
theorem seg_sortE {l ys:List Entry} (h:SortedSeg keyE l ys 0 l.length):ys=sortE l:=by
  obtain ⟨h1,h2,h3,h4⟩:=h
  refine sorted_unique (key:=keyE) ?_ (sortE_sorted l) fun c=>by rw [h4,sortE_filter]
  rw [List.pairwise_iff_getElem]
  intro i j hi hj hij
  exact h3 i j _ _ (by omega) hij (by omega) (List.getElem?_eq_getElem hi) (List.getElem?_eq_getElem hj)
end Go.Ax.Law
namespace Go.Ax.O
open Go.Ax.Sp Go.Ax.Law
theorem vSortE {l:List Entry} {k:List Entry × Unit→Unit→Prop} (h:oSortE 0 (l,(),()) k):V.vStabFE l k:=by
  obtain ⟨hs,hk⟩:=h
  simp only [] at hs hk
  refine vStabFE ⟨⟨hs.1,by have:=hs.2;simp only [];omega⟩,fun ys hy=>?_⟩
  rw [seg_sortE hy]
  exact hk
theorem vCmpE {a b:Entry} {k:Unit→Int × Unit→Prop} (h:oCmpE (a,b,()) k):V.vCmpE a b k:=by
  have h:k () (cmpE a b,()):=h
  unfold cmpE at h
  unfold V.vCmpE
  refine br_dec (fun g=>?_) (fun g=>br_dec (fun g2=>?_) (fun g2=>?_))
  · rw [if_pos g] at h;exact h
  · rw [if_neg g,if_pos g2] at h;exact h
  · rw [if_neg g,if_neg g2] at h;exact h
theorem vCloneE {l:List Entry} {k:Unit→List Entry × Unit→Prop} (h:oCloneE (l,()) k):V.vCloneE l k:=by
  obtain ⟨hl,hk⟩:=h
  simp only [] at hl hk
  intro b hb
  refine br_bool (fun h=>?_) (fun _=>⟨Nat.le_refl _,by omega,by simp,hk⟩)
  have:l=[]:=by
    cases l with
    |nil=>rfl
    |cons a r=>rw [hb (by simp)] at h;cases h
  subst this
  exact hk
theorem vSortS {l:List Entry} {k:Unit→List Entry × Unit→Prop} (h:oSortS (l,()) k):V.vSortS l k:=by
  obtain ⟨hs,hk⟩:=h
  have hl:(sortE l).length=l.length:=by unfold sortE;exact List.length_mergeSort l
  exact ⟨by have:=hs.2;simp only [] at this;omega,rfl,hs,hl.symm,hk⟩
end Go.Ax.O
