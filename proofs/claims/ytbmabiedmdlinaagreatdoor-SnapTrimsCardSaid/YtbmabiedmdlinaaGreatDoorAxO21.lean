import Derived.Test.YtbmabiedmdlinaaGreatDoorAxV9
import Derived.Test.YtbmabiedmdlinaaGreatDoorAxO18
set_option linter.all false
namespace Go.Ax.V
open Go.Ax.Sp Go.Ax.Law List Int IntKind
set_option maxRecDepth 100000
def vInsB (l:List Job) (a:Int) (b:Int) (k:List Job × Unit→Unit→Prop):Prop:=
NM (a+1) fun n=>LP (List Job × Int × Int × Int) (fun x=>((0=0∧length l=length x.1)∧a=x.2.1∧b=x.2.2.1∧True∧n=x.2.2.2∧True)∧l=x.1∧True) fun I m x=>br (decide (x.2.2.2<x.2.2.1)) (LP (List Job × Int × Int × Int × Int) (fun x_1=>((0=0∧length x.1=length x_1.1)∧x.2.1=x_1.2.1∧x.2.2.1=x_1.2.2.1∧True∧x.2.2.2=x_1.2.2.2.1∧x.2.2.2=x_1.2.2.2.2∧True)∧x.1=x_1.1∧True) fun I_1 m_1 x_1=>SH x_1.2.2.2.2 fun s0=>SH (0+toNat s0) fun s1=>SH (NM (x_1.2.2.2.1+1) fun n=>NX I m x fun y=>((0=0∧length x_1.1=length y.1)∧x_1.2.1=y.2.1∧x_1.2.2.1=y.2.2.1∧True∧n=y.2.2.2∧True)∧x_1.1=y.1∧True) fun s2=>br (decide (s0>x_1.2.1)) (AT x_1.1 s0 fun e=>NM (s0-1) fun n=>AT x_1.1 n fun e_1=>br (decide (cmpJ e e_1<0)) (NM (s0-1) fun n=>NM (s0-1) fun n_1=>AT x_1.1 n_1 fun e=>AT x_1.1 s0 fun e_2=>(0≤s0∧s0<LN x_1.1)∧(s1<length x_1.1∧ ∀(e_3:Job),x_1.1[s1]? =some e_3→(0≤n∧n<LN x_1.1)∧(0+toNat n<length (set x_1.1 s1 e)∧ ∀(e_4:Job),(set x_1.1 s1 e)[0+toNat n]? =some e_4→NM (s0-1) fun n_2=>NX I_1 m_1 x_1 fun y=>((0=0∧length x_1.1=length y.1)∧x_1.2.1=y.2.1∧x_1.2.2.1=y.2.2.1∧True∧x_1.2.2.2.1=y.2.2.2.1∧n_2=y.2.2.2.2∧True)∧set (set x_1.1 s1 e) (0+toNat n) e_2=y.1∧True)∧True)∧True) s2∧True) (s2∧True)) (length l=length x.1∧k (x.1,()) ())
def vRotB (l:List Job) (a:Int) (b:Int) (m:Int) (k:List Job × Unit→Unit→Prop):Prop:=
NM (b-a) fun n=>NM (m-b) fun n_1=>LP (List Job × Int × Int × Int) (fun x=>((0=0∧length l=length x.1)∧b=x.2.1∧True∧n=x.2.2.1∧n_1=x.2.2.2∧True)∧l=x.1∧True) fun I m x=>SH x.2.2.1 fun s0=>SH (length x.1) fun s1=>SH x.2.2.2 fun s2=>br (!s0==s2) (br (decide (s0>s2)) (NM (x.2.1-s0) fun n=>s1=s1∧SwapPreB x.1 n x.2.1 s2∧ ∀(ys:List Job),Swapped x.1 ys n x.2.1 s2→NM (s0-s2) fun n=>NX I m x fun y=>((0=0∧s1=length y.1)∧x.2.1=y.2.1∧True∧n=y.2.2.1∧s2=y.2.2.2∧True)∧ys=y.1∧True) (NM (x.2.1-s0) fun n=>NM (x.2.1+s2) fun n_2=>NM (n_2-s0) fun n_3=>s1=s1∧SwapPreB x.1 n n_3 s0∧ ∀(ys:List Job),Swapped x.1 ys n n_3 s0→NM (s2-s0) fun n=>NX I m x fun y=>((0=0∧s1=length y.1)∧x.2.1=y.2.1∧True∧s0=y.2.2.1∧n=y.2.2.2∧True)∧ys=y.1∧True)) (NM (x.2.1-s0) fun n=>s1=s1∧SwapPreB x.1 n x.2.1 s0∧ ∀(ys:List Job),Swapped x.1 ys n x.2.1 s0→length l=length ys∧k (ys,()) ())
def vStabB (l:List Job) (a:Int) (k:List Job × Unit→Unit→Prop):Prop:=
LP (List Job × Int × Int × Int × Int) (fun x=>((0=0∧length l=length x.1)∧a=x.2.1∧True∧20=x.2.2.1∧0=x.2.2.2.1∧20=x.2.2.2.2∧True)∧l=x.1∧True) fun I m x=>SH x.2.2.2 fun s0=>SH (length x.1) fun s1=>br (decide (s0.2≤x.2.1)) (s1=s1∧InsPreB x.1 s0.1 s0.2∧ ∀(ys:List Job),SortedSeg keyJ x.1 ys s0.1 s0.2→NM (s0.2+x.2.2.1) fun n=>NX I m x fun y=>((0=0∧s1=length y.1)∧x.2.1=y.2.1∧True∧x.2.2.1=y.2.2.1∧s0.2=y.2.2.2.1∧n=y.2.2.2.2∧True)∧ys=y.1∧True) (s1=s1∧InsPreB x.1 s0.1 x.2.1∧ ∀(ys:List Job),SortedSeg keyJ x.1 ys s0.1 x.2.1→LP (List Job × Int × Int) (fun x_1=>((0=0∧s1=length x_1.1)∧x.2.1=x_1.2.1∧True∧x.2.2.1=x_1.2.2∧True)∧ys=x_1.1∧True) fun I m x=>br (decide (x.2.2<x.2.1)) (NM (2*x.2.2) fun n=>LP (List Job × Int × Int × Int × Int) (fun x_1=>((0=0∧length x.1=length x_1.1)∧x.2.1=x_1.2.1∧True∧x.2.2=x_1.2.2.1∧0=x_1.2.2.2.1∧n=x_1.2.2.2.2∧True)∧x.1=x_1.1∧True) fun I_1 m_1 x_1=>SH x_1.2.2.2 fun s2=>SH (length x_1.1) fun s3=>br (decide (s2.2≤x_1.2.1)) (NM (s2.1+x_1.2.2.1) fun n=>s3=s3∧SymPreB 1099511627777 x_1.1 s2.1 n s2.2∧ ∀(ys:List Job),SortedSeg keyJ x_1.1 ys s2.1 s2.2→NM (2*x_1.2.2.1) fun n=>NM (s2.2+n) fun n_1=>NX I_1 m_1 x_1 fun y=>((0=0∧s3=length y.1)∧x_1.2.1=y.2.1∧True∧x_1.2.2.1=y.2.2.1∧s2.2=y.2.2.2.1∧n_1=y.2.2.2.2∧True)∧ys=y.1∧True) (NM (s2.1+x_1.2.2.1) fun n=>br (decide (n<x_1.2.1)) (s3=s3∧SymPreB 1099511627777 x_1.1 s2.1 n x_1.2.1∧ ∀(ys:List Job),SortedSeg keyJ x_1.1 ys s2.1 x_1.2.1→NM (x_1.2.2.1*2) fun n=>NX I m x fun y=>((0=0∧s3=length y.1)∧x_1.2.1=y.2.1∧True∧n=y.2.2∧True)∧ys=y.1∧True) (NM (x_1.2.2.1*2) fun n=>NX I m x fun y=>((0=0∧s3=length y.1)∧x_1.2.1=y.2.1∧True∧n=y.2.2∧True)∧x_1.1=y.1∧True))) (length l=length x.1∧k (x.1,()) ()))
def vStabFB (l:List Job) (k:List Job × Unit→Unit→Prop):Prop:=
length l=length l∧(StabPreB l∧LN l=(↑(length l):VK.T ((fun x=>x.1) (VK.int IntKind.i64,false))))∧ ∀(ys:List Job),SortedSeg keyJ l ys 0 (LN l)→length l=length ys∧k (ys,()) ()
def vSwapRB (l:List Job) (a:Int) (b:Int) (m:Int) (k:List Job × Unit→Unit→Prop):Prop:=
LP (List Job × Int × Int × Int × Int) (fun x=>((0=0∧length l=length x.1)∧a=x.2.1∧b=x.2.2.1∧m=x.2.2.2.1∧0=x.2.2.2.2∧True)∧l=x.1∧True) fun I m x=>SH x.2.2.2 fun s0=>br (decide (s0.2<s0.1)) (NM (x.2.1+s0.2) fun n=>SH (0+toNat n) fun s1=>NM (x.2.2.1+s0.2) fun n_1=>NM (x.2.2.1+s0.2) fun n_2=>AT x.1 n_2 fun e=>NM (x.2.1+s0.2) fun n_3=>AT x.1 n_3 fun e_1=>(0≤n∧n<LN x.1)∧(s1<length x.1∧ ∀(e_2:Job),x.1[s1]? =some e_2→(0≤n_1∧n_1<LN x.1)∧(0+toNat n_1<length (set x.1 s1 e)∧ ∀(e_3:Job),(set x.1 s1 e)[0+toNat n_1]? =some e_3→NM (s0.2+1) fun n_4=>NX I m x fun y=>((0=0∧length x.1=length y.1)∧x.2.1=y.2.1∧x.2.2.1=y.2.2.1∧s0.1=y.2.2.2.1∧n_4=y.2.2.2.2∧True)∧set (set x.1 s1 e) (0+toNat n_1) e_1=y.1∧True)∧True)∧True) (length l=length x.1∧k (x.1,()) ())
def vSymB (n:Nat) (l:List Job) (a:Int) (b:Int) (m:Int) (k:List Job × Unit→Unit→Prop):Prop:=
SH (length l) fun s0=>SH ((2:Int)^min (toNat (1:Int)) (64:Nat)) fun s1=>NM (b-a) fun n_1=>br (n_1==1) (LP (List Job × Int × Int × Int) (fun x=>(((0:Nat)=0∧s0=length x.1)∧a=x.2.1∧True∧b=x.2.2.1∧m=x.2.2.2∧True)∧l=x.1∧True) fun I m x=>br (decide (x.2.2.1<x.2.2.2)) (NM (x.2.2.1+x.2.2.2) fun n=> ∀(n_2:Int),n_2=wrap .u64 n→(0:Int)≤1∧ ∀(n:Int),n=fdiv n_2 s1→NM n fun n_3=>AT x.1 n_3 fun e=>AT x.1 x.2.1 fun e_1=>br (decide (cmpJ e e_1<0)) (NM (n_3+1) fun n=>NX I m x fun y=>(((0:Nat)=0∧length x.1=length y.1)∧x.2.1=y.2.1∧True∧n=y.2.2.1∧x.2.2.2=y.2.2.2∧True)∧x.1=y.1∧True) (NX I m x fun y=>(((0:Nat)=0∧length x.1=length y.1)∧x.2.1=y.2.1∧True∧x.2.2.1=y.2.2.1∧n_3=y.2.2.2∧True)∧x.1=y.1∧True)∧True) (LP (List Job × Int × Int) (fun x_1=>(((0:Nat)=0∧length x.1=length x_1.1)∧x.2.2.1=x_1.2.1∧x.2.1=x_1.2.2∧True)∧x.1=x_1.1∧True) fun I m x=>SH (0+toNat x.2.2) fun s2=>NM (x.2.1-1) fun n=>br (decide (x.2.2<n)) (NM (x.2.2+1) fun n=>NM (x.2.2+1) fun n_2=>AT x.1 n_2 fun e=>AT x.1 x.2.2 fun e_1=>(0≤x.2.2∧x.2.2<LN x.1)∧(s2<length x.1∧ ∀(e_2:Job),x.1[s2]? =some e_2→(0≤n∧n<LN x.1)∧(0+toNat n<length (set x.1 s2 e)∧ ∀(e_3:Job),(set x.1 s2 e)[0+toNat n]? =some e_3→NM (x.2.2+1) fun n_3=>NX I m x fun y=>(((0:Nat)=0∧length x.1=length y.1)∧x.2.1=y.2.1∧n_3=y.2.2∧True)∧set (set x.1 s2 e) (0+toNat n) e_1=y.1∧True)∧True)∧True) (s0=length x.1∧k (x.1,()) ()))) (NM (m-b) fun n_2=>br (n_2==1) (LP (List Job × Int × Int × Int) (fun x=>(((0:Nat)=0∧s0=length x.1)∧b=x.2.1∧True∧a=x.2.2.1∧b=x.2.2.2∧True)∧l=x.1∧True) fun I m x=>br (decide (x.2.2.1<x.2.2.2)) (NM (x.2.2.1+x.2.2.2) fun n=> ∀(n_3:Int),n_3=wrap .u64 n→(0:Int)≤1∧ ∀(n:Int),n=fdiv n_3 s1→NM n fun n_4=>AT x.1 x.2.1 fun e=>AT x.1 n_4 fun e_1=>br (!decide (cmpJ e e_1<0)) (NM (n_4+1) fun n=>NX I m x fun y=>(((0:Nat)=0∧length x.1=length y.1)∧x.2.1=y.2.1∧True∧n=y.2.2.1∧x.2.2.2=y.2.2.2∧True)∧x.1=y.1∧True) (NX I m x fun y=>(((0:Nat)=0∧length x.1=length y.1)∧x.2.1=y.2.1∧True∧x.2.2.1=y.2.2.1∧n_4=y.2.2.2∧True)∧x.1=y.1∧True)∧True) (LP (List Job × Int × Int) (fun x_1=>(((0:Nat)=0∧length x.1=length x_1.1)∧x.2.2.1=x_1.2.1∧x.2.1=x_1.2.2∧True)∧x.1=x_1.1∧True) fun I m x=>SH (0+toNat x.2.2) fun s2=>br (decide (x.2.2>x.2.1)) (NM (x.2.2-1) fun n=>NM (x.2.2-1) fun n_3=>AT x.1 n_3 fun e=>AT x.1 x.2.2 fun e_1=>(0≤x.2.2∧x.2.2<LN x.1)∧(s2<length x.1∧ ∀(e_2:Job),x.1[s2]? =some e_2→(0≤n∧n<LN x.1)∧(0+toNat n<length (set x.1 s2 e)∧ ∀(e_3:Job),(set x.1 s2 e)[0+toNat n]? =some e_3→NM (x.2.2-1) fun n_4=>NX I m x fun y=>(((0:Nat)=0∧length x.1=length y.1)∧x.2.1=y.2.1∧n_4=y.2.2∧True)∧set (set x.1 s2 e) (0+toNat n) e_1=y.1∧True)∧True)∧True) (s0=length x.1∧k (x.1,()) ()))) (NM (a+m) fun n_3=> ∀(n_4:Int),n_4=wrap .u64 n_3→(0:Int)≤1∧ ∀(n_5:Int),n_5=fdiv n_4 s1→NM n_5 fun n_6=>NM (n_6+b) fun n_7=>br (decide (b>n_6)) (NM (n_7-m) fun n_8=>NM (n_7-1) fun n_9=>LP (List Job × Int × Int × Int × Int × Int × Int × Int × Int) (fun x=>SH x.2.2.2.2 fun s2=>(((0:Nat)=0∧s0=length x.1)∧a=x.2.1∧b=x.2.2.1∧m=x.2.2.2.1∧True∧n_6=s2.1∧n_7=s2.2.1∧n_8=s2.2.2.1∧n_6=s2.2.2.2.1∧n_9=s2.2.2.2.2∧True)∧l=x.1∧True) fun I m x=>SH x.2.2.2 fun s2=>SH (length x.1) fun s3=>SH s2.2.2.2 fun s4=>SH (x.1,()) fun s5=>SH (decide (s4.1<s2.2.1)) fun s6=>SH (decide (x.2.1<s4.1)) fun s7=>SH (s0=s3∧k s5 ()) fun s8=>SH (SymPreB n x.1 x.2.1 s4.1 s2.2.1) fun s9=>br (decide (s4.1<s4.2.1)) (NM (s4.1+s4.2.1) fun n=> ∀(n_10:Int),n_10=wrap .u64 n→(0:Int)≤1∧ ∀(n:Int),n=fdiv n_10 s1→NM n fun n_11=>NM (s4.2.2-n_11) fun n=>AT x.1 n fun e=>AT x.1 n_11 fun e_1=>br (!decide (cmpJ e e_1<0)) (NM (n_11+1) fun n=>NX I m x fun y=>SH y.2.2.2.2 fun s10=>(((0:Nat)=0∧s3=length y.1)∧x.2.1=y.2.1∧x.2.2.1=y.2.2.1∧s2.1=y.2.2.2.1∧True∧s2.2.1=s10.1∧s2.2.2.1=s10.2.1∧n=s10.2.2.1∧s4.2.1=s10.2.2.2.1∧s4.2.2=s10.2.2.2.2∧True)∧x.1=y.1∧True) (NX I m x fun y=>SH y.2.2.2.2 fun s10=>(((0:Nat)=0∧s3=length y.1)∧x.2.1=y.2.1∧x.2.2.1=y.2.2.1∧s2.1=y.2.2.2.1∧True∧s2.2.1=s10.1∧s2.2.2.1=s10.2.1∧s4.1=s10.2.2.1∧n_11=s10.2.2.2.1∧s4.2.2=s10.2.2.2.2∧True)∧x.1=y.1∧True)∧True) (NM (s2.2.2.1-s4.1) fun n_10=>SH (decide (s2.2.1<n_10)) fun s10=>SH (decide (n_10<s2.1)) fun s11=>SH (SH (br s10 (br s11 (s3=s3∧SymPreB n x.1 s2.2.1 n_10 s2.1∧ ∀(ys:List Job),SortedSeg keyJ x.1 ys s2.2.1 s2.1→s0=length ys∧k (ys,()) ()) s8) s8) fun s13=>br s7 (br s6 (s3=s3∧s9∧ ∀(ys:List Job),SortedSeg keyJ x.1 ys x.2.1 s2.2.1→br s10 (br s11 (s3=length ys∧SymPreB n ys s2.2.1 n_10 s2.1∧ ∀(ys_1:List Job),SortedSeg keyJ ys ys_1 s2.2.1 s2.1→s0=length ys_1∧k (ys_1,()) ()) (s0=length ys∧k (ys,()) ())) (s0=length ys∧k (ys,()) ())) s13) s13) fun s12=>br (decide (s4.1<x.2.2.1)) (br (decide (x.2.2.1<n_10)) (s3=s3∧RotPreB x.1 s4.1 x.2.2.1 n_10∧ ∀(ys:List Job),Rotated x.1 ys s4.1 x.2.2.1 n_10→SH (length ys) fun s13=>SH (br s10 (br s11 (s3=s13∧SymPreB n ys s2.2.1 n_10 s2.1∧ ∀(ys_1:List Job),SortedSeg keyJ ys ys_1 s2.2.1 s2.1→s0=length ys_1∧k (ys_1,()) ()) (s0=s13∧k (ys,()) ())) (s0=s13∧k (ys,()) ())) fun s14=>br s7 (br s6 (s3=s13∧SymPreB n ys x.2.1 s4.1 s2.2.1∧ ∀(ys_1:List Job),SortedSeg keyJ ys ys_1 x.2.1 s2.2.1→br s10 (br s11 (s3=length ys_1∧SymPreB n ys_1 s2.2.1 n_10 s2.1∧ ∀(ys:List Job),SortedSeg keyJ ys_1 ys s2.2.1 s2.1→s0=length ys∧k (ys,()) ()) (s0=length ys_1∧k (ys_1,()) ())) (s0=length ys_1∧k (ys_1,()) ())) s14) s14) s12) s12)) (NM (n_7-1) fun n_8=>LP (List Job × Int × Int × Int × Int × Int × Int × Int × Int) (fun x=>SH x.2.2.2.2 fun s2=>(((0:Nat)=0∧s0=length x.1)∧a=x.2.1∧b=x.2.2.1∧m=x.2.2.2.1∧True∧n_6=s2.1∧n_7=s2.2.1∧a=s2.2.2.1∧b=s2.2.2.2.1∧n_8=s2.2.2.2.2∧True)∧l=x.1∧True) fun I m x=>SH x.2.2.2 fun s2=>SH (length x.1) fun s3=>SH s2.2.2.2 fun s4=>SH (x.1,()) fun s5=>SH (decide (s4.1<s2.2.1)) fun s6=>SH (decide (x.2.1<s4.1)) fun s7=>SH (s0=s3∧k s5 ()) fun s8=>SH (SymPreB n x.1 x.2.1 s4.1 s2.2.1) fun s9=>br (decide (s4.1<s4.2.1)) (NM (s4.1+s4.2.1) fun n=> ∀(n_9:Int),n_9=wrap .u64 n→(0:Int)≤1∧ ∀(n:Int),n=fdiv n_9 s1→NM n fun n_10=>NM (s4.2.2-n_10) fun n=>AT x.1 n fun e=>AT x.1 n_10 fun e_1=>br (!decide (cmpJ e e_1<0)) (NM (n_10+1) fun n=>NX I m x fun y=>SH y.2.2.2.2 fun s10=>(((0:Nat)=0∧s3=length y.1)∧x.2.1=y.2.1∧x.2.2.1=y.2.2.1∧s2.1=y.2.2.2.1∧True∧s2.2.1=s10.1∧s2.2.2.1=s10.2.1∧n=s10.2.2.1∧s4.2.1=s10.2.2.2.1∧s4.2.2=s10.2.2.2.2∧True)∧x.1=y.1∧True) (NX I m x fun y=>SH y.2.2.2.2 fun s10=>(((0:Nat)=0∧s3=length y.1)∧x.2.1=y.2.1∧x.2.2.1=y.2.2.1∧s2.1=y.2.2.2.1∧True∧s2.2.1=s10.1∧s2.2.2.1=s10.2.1∧s4.1=s10.2.2.1∧n_10=s10.2.2.2.1∧s4.2.2=s10.2.2.2.2∧True)∧x.1=y.1∧True)∧True) (NM (s2.2.2.1-s4.1) fun n_9=>SH (decide (s2.2.1<n_9)) fun s10=>SH (decide (n_9<s2.1)) fun s11=>SH (SH (br s10 (br s11 (s3=s3∧SymPreB n x.1 s2.2.1 n_9 s2.1∧ ∀(ys:List Job),SortedSeg keyJ x.1 ys s2.2.1 s2.1→s0=length ys∧k (ys,()) ()) s8) s8) fun s13=>br s7 (br s6 (s3=s3∧s9∧ ∀(ys:List Job),SortedSeg keyJ x.1 ys x.2.1 s2.2.1→br s10 (br s11 (s3=length ys∧SymPreB n ys s2.2.1 n_9 s2.1∧ ∀(ys_1:List Job),SortedSeg keyJ ys ys_1 s2.2.1 s2.1→s0=length ys_1∧k (ys_1,()) ()) (s0=length ys∧k (ys,()) ())) (s0=length ys∧k (ys,()) ())) s13) s13) fun s12=>br (decide (s4.1<x.2.2.1)) (br (decide (x.2.2.1<n_9)) (s3=s3∧RotPreB x.1 s4.1 x.2.2.1 n_9∧ ∀(ys:List Job),Rotated x.1 ys s4.1 x.2.2.1 n_9→SH (length ys) fun s13=>SH (br s10 (br s11 (s3=s13∧SymPreB n ys s2.2.1 n_9 s2.1∧ ∀(ys_1:List Job),SortedSeg keyJ ys ys_1 s2.2.1 s2.1→s0=length ys_1∧k (ys_1,()) ()) (s0=s13∧k (ys,()) ())) (s0=s13∧k (ys,()) ())) fun s14=>br s7 (br s6 (s3=s13∧SymPreB n ys x.2.1 s4.1 s2.2.1∧ ∀(ys_1:List Job),SortedSeg keyJ ys ys_1 x.2.1 s2.2.1→br s10 (br s11 (s3=length ys_1∧SymPreB n ys_1 s2.2.1 n_9 s2.1∧ ∀(ys:List Job),SortedSeg keyJ ys_1 ys s2.2.1 s2.1→s0=length ys∧k (ys,()) ()) (s0=length ys_1∧k (ys_1,()) ())) (s0=length ys_1∧k (ys_1,()) ())) s14) s14) s12) s12))))
end Go.Ax.V
namespace Go.Ax.Law
variable {α:Type}
theorem atI_set2 {xs:List α} {i j:Int} {u v:α} (hi:0≤i) (hj:0≤j) (hil:i<xs.length) (hjl:j<xs.length) {p:Int} (hp:0≤p):
    atI ((xs.set i.toNat v).set j.toNat u) p=if p=j then some u else if p=i then some v else atI xs p:=by
  simp only [atI,List.getElem?_set,List.length_set]
  by_cases e1:p=j
  · rw [if_pos (by omega),if_pos (by omega),if_pos e1]
  · rw [if_neg (by omega),if_neg e1]
    by_cases e2:p=i
    · rw [if_pos (by omega),if_pos (by omega),if_pos e2]
    · rw [if_neg (by omega),if_neg e2]
theorem Rotated.stepL {xs cs:List α} {a k:Int} {u v:α} (h:Rotated xs cs a (a+1) (k+1)) (ha:0≤a) (hk:a≤k) (hl:k+1<xs.length) (hu:atI cs k=some u) (hv:atI cs (k+1)=some v):Rotated xs ((cs.set k.toNat v).set (k+1).toNat u) a (a+1) (k+2):=by
  obtain ⟨h1,h2⟩:=h
  have hu':=h2 k (by omega)
  have hv':=h2 (k+1) (by omega)
  rw [hu] at hu'
  rw [hv] at hv'
  rw [if_pos (by omega)] at hv'
  rw [if_neg (by omega),if_neg (by omega)] at hu'
  refine ⟨by simpa using h1,fun p hp=>?_⟩
  rw [atI_set2 (by omega) (by omega) (by omega) (by omega) hp]
  by_cases e1:p=k+1
  · subst e1
    rw [if_pos rfl,if_neg (by omega),if_neg (by omega),hu']<;>(congr 1;omega)
  · rw [if_neg e1]
    by_cases e2:p=k
    · subst e2
      rw [if_pos rfl,if_neg (by omega),if_pos (by omega),hv']<;>(congr 1;omega)
    · rw [if_neg e2,h2 p hp]
      by_cases c1:p<a∨k+1≤p
      · rw [if_pos c1,if_pos (by omega)]
      · rw [if_neg c1,if_pos (by omega),if_neg (by omega),if_pos (by omega)]
theorem Rotated.stepR {xs cs:List α} {b k:Int} {u v:α} (h:Rotated xs cs k b (b+1)) (hk:1≤k) (hkb:k≤b) (hl:b<xs.length) (hu:atI cs (k-1)=some u) (hv:atI cs k=some v):Rotated xs ((cs.set k.toNat u).set (k-1).toNat v) (k-1) b (b+1):=by
  obtain ⟨h1,h2⟩:=h
  have hu':=h2 (k-1) (by omega)
  have hv':=h2 k (by omega)
  rw [hu] at hu'
  rw [hv] at hv'
  rw [if_pos (by omega)] at hu'
  rw [if_neg (by omega),if_pos (by omega)] at hv'
  refine ⟨by simpa using h1,fun p hp=>?_⟩
  rw [atI_set2 (by omega) (by omega) (by omega) (by omega) hp]
  by_cases e1:p=k-1
  · subst e1
    rw [if_pos rfl,if_neg (by omega),if_pos (by omega),hv']<;>(congr 1;omega)
  · rw [if_neg e1]
    by_cases e2:p=k
    · subst e2
      rw [if_pos rfl,if_neg (by omega),if_neg (by omega),hu']<;>(congr 1;omega)
    · rw [if_neg e2,h2 p hp]
      by_cases c1:p<k∨b+1≤p
      · rw [if_pos c1,if_pos (by omega)]
      · rw [if_neg c1,if_neg (by omega),if_neg (by omega),if_neg (by omega)]
theorem insL {key:α→Int} {xs ys:List α} {a i m:Int} {u:α} (h0:0≤a) (hi:a+1≤i) (him:i≤m) (hm:m≤xs.length) (hu:atI xs a=some u) (hs:Rises key xs (a+1) m)
    (l1: ∀(p:Int) (x:α),a+1≤p→p<i→atI xs p=some x→key x<key u) (l2: ∀(p:Int) (x:α),i≤p→p<m→atI xs p=some x→key u≤key x)
    (hr:Rotated xs ys a (a+1) i):SortedSeg key xs ys a m:=by
  have hr':=hr
  obtain ⟨hl,hr2⟩:=hr
  have e1: ∀p,a≤p→p<i-1→atI ys p=atI xs (p+1):=fun p h1 h2=>by
    rw [hr2 p (by omega),if_neg (by omega),if_pos (by omega)]<;>(congr 1;omega)
  have e2:atI ys (i-1)=some u:=by
    rw [hr2 _ (by omega),if_neg (by omega),if_neg (by omega),←hu]<;>(congr 1;omega)
  have e3: ∀p,0≤p→(p<a∨i≤p)→atI ys p=atI xs p:=fun p hp h=>by rw [hr2 p hp,if_pos h]
  refine .mk2 hl (fun p hp h=>e3 p hp (by omega)) ?_ (fun c=>?_)
  · intro p q x y p0 p1 pq q1 hx hy
    by_cases hp:p<i-1
    · rw [e1 p p1 hp] at hx
      by_cases hq:q<i-1
      · rw [e1 q (by omega) hq] at hy
        exact hs _ _ x y (by omega) (by omega) (by omega) (by omega) hx hy
      · by_cases hq2:q=i-1
        · subst hq2;rw [e2] at hy;cases hy
          exact Int.le_of_lt (l1 _ x (by omega) (by omega) hx)
        · rw [e3 q (by omega) (by omega)] at hy
          exact hs _ _ x y (by omega) (by omega) (by omega) (by omega) hx hy
    · rw [e3 q (by omega) (by omega)] at hy
      by_cases hp2:p=i-1
      · subst hp2;rw [e2] at hx;cases hx
        exact l2 q y (by omega) q1 hy
      · rw [e3 p p0 (by omega)] at hx
        exact hs _ _ x y (by omega) (by omega) (by omega) (by omega) hx hy
  · obtain ⟨a',rfl⟩:=Int.eq_ofNat_of_zero_le h0
    obtain ⟨i',rfl⟩:=Int.eq_ofNat_of_zero_le (show 0≤i by omega)
    refine Rotated.filter (m:=a'+1) hr' (by omega) (by omega) (by omega) (fun p q x y p1 p2 q1 q2 hx hy=>?_) c
    have:p=a':=by omega
    subst this
    rw [atI_nat,hx] at hu
    cases hu
    exact l1 q y (by omega) (by omega) (by rw [atI_nat];exact hy)
theorem insR {key:α→Int} {xs ys:List α} {a b i:Int} {v:α} (h0:0≤a) (hi:a≤i) (hib:i≤b) (hm:b<xs.length) (hv:atI xs b=some v) (hs:Rises key xs a b)
    (l1: ∀(p:Int) (x:α),a≤p→p<i→atI xs p=some x→key x≤key v) (l2: ∀(p:Int) (x:α),i≤p→p<b→atI xs p=some x→key v<key x)
    (hr:Rotated xs ys i b (b+1)):SortedSeg key xs ys a (b+1):=by
  have hr':=hr
  obtain ⟨hl,hr2⟩:=hr
  have e1: ∀p,i+1≤p→p≤b→atI ys p=atI xs (p-1):=fun p h1 h2=>by
    rw [hr2 p (by omega),if_neg (by omega),if_neg (by omega)]<;>(congr 1;omega)
  have e2:atI ys i=some v:=by
    rw [hr2 _ (by omega),if_neg (by omega),if_pos (by omega),←hv]<;>(congr 1;omega)
  have e3: ∀p,0≤p→(p<i∨b+1≤p)→atI ys p=atI xs p:=fun p hp h=>by rw [hr2 p hp,if_pos h]
  refine .mk2 hl (fun p hp h=>e3 p hp (by omega)) ?_ (fun c=>?_)
  · intro p q x y p0 p1 pq q1 hx hy
    by_cases hp:p<i
    · rw [e3 p p0 (by omega)] at hx
      by_cases hq:q<i
      · rw [e3 q (by omega) (by omega)] at hy
        exact hs _ _ x y (by omega) (by omega) (by omega) (by omega) hx hy
      · by_cases hq2:q=i
        · subst hq2;rw [e2] at hy;cases hy
          exact l1 _ x (by omega) (by omega) hx
        · rw [e1 q (by omega) (by omega)] at hy
          exact hs.le (by omega) (by omega) (by omega) (by omega) hx hy
    · rw [e1 q (by omega) (by omega)] at hy
      by_cases hp2:p=i
      · subst hp2;rw [e2] at hx;cases hx
        exact Int.le_of_lt (l2 _ y (by omega) (by omega) hy)
      · rw [e1 p (by omega) (by omega)] at hx
        exact hs _ _ x y (by omega) (by omega) (by omega) (by omega) hx hy
  · obtain ⟨i',rfl⟩:=Int.eq_ofNat_of_zero_le (show 0≤i by omega)
    obtain ⟨b',rfl⟩:=Int.eq_ofNat_of_zero_le (show 0≤b by omega)
    refine Rotated.filter (e:=b'+1) hr' (by omega) (by omega) (by omega) (fun p q x y p1 p2 q1 q2 hx hy=>?_) c
    have:q=b':=by omega
    subst this
    rw [atI_nat,hy] at hv
    cases hv
    exact l2 p x (by omega) (by omega) (by rw [atI_nat];exact hx)
theorem Rises.congr {key:α→Int} {xs ys:List α} {a b:Int} (h:Rises key xs a b) (he: ∀i,0≤i→a≤i→i<b→atI ys i=atI xs i):Rises key ys a b:=by
  intro p q x y p0 p1 pq q1 hx hy
  rw [he p p0 p1 (by omega)] at hx
  rw [he q (by omega) (by omega) q1] at hy
  exact h p q x y p0 p1 pq q1 hx hy
theorem half {x n n2 n3 n4:Int} (h0:0≤x) (h1:x≤4611686018427387904) (e1:n=IntKind.i64.wrap x) (e2:n2=IntKind.u64.wrap n) (e3:n3=Int.fdiv n2 (2^min (Int.toNat 1) 64)) (e4:n4=IntKind.i64.wrap n3):n4=x/2:=by
  rw [w64 (by omega)] at e1
  subst e1
  have:IntKind.u64.wrap n=n:=by simp [IntKind.wrap,IntKind.bits,IntKind.signed];omega
  rw [this] at e2
  subst e2
  have e:(2:Int)^min (Int.toNat 1) 64=2:=rfl
  rw [e,Int.fdiv_eq_ediv_of_nonneg _ (by decide)] at e3
  subst e3
  rw [w64 (by omega)] at e4
  exact e4
end Go.Ax.Law
namespace Go.Ax.O
open Go.Ax.Sp Go.Ax.Law
theorem cmpJ_lt {a b:Job} (ha: -9223372036854775808≤a.Id∧a.Id≤9223372036854775807) (hb: -9223372036854775808≤b.Id∧b.Id≤9223372036854775807):cmpJ a b<0↔keyJ a<keyJ b:=by
  unfold cmpJ cmpI keyJ
  rcases Int.lt_trichotomy b.Prio a.Prio with h |h |h
  · rw [if_pos h];simp;omega
  · have h1: ¬ b.Prio<a.Prio:=by omega
    have h2: ¬ b.Prio>a.Prio:=by omega
    simp only [h1,h2,if_false]
    rcases Int.lt_trichotomy a.Id b.Id with g |g |g
    · simp [g];omega
    · have g1: ¬ a.Id<b.Id:=by omega
      have g2: ¬ a.Id>b.Id:=by omega
      simp [g1,g2];omega
    · have g1: ¬ a.Id<b.Id:=by omega
      simp [g1,g];omega
  · have h1: ¬ b.Prio<a.Prio:=by omega
    simp only [h1,if_false]
    rw [if_pos h];simp;omega
theorem small_getB {xs:List Job} (h:SmallIdsB xs) {i:Nat} {x:Job} (hx:xs[i]? =some x): -9223372036854775808≤x.Id∧x.Id≤9223372036854775807:=h x (List.mem_of_getElem? hx)
theorem small_segB {xs ys:List Job} (h:SmallIdsB xs) (hf: ∀c,ys.filter (keyIs keyJ c)=xs.filter (keyIs keyJ c)):SmallIdsB ys:=by
  intro c hc
  have:c∈ys.filter (keyIs keyJ (keyJ c)):=List.mem_filter.2 ⟨hc,by simp [keyIs]⟩
  rw [hf] at this
  exact h c (List.mem_filter.1 this).1
theorem vInsB {l:List Job} {a b:Int} {k:List Job × Unit→Unit→Prop} (h:oInsB 0 (l,a,b,(),()) k):V.vInsB l a b k:=by
  unfold V.vInsB V.LP V.NX V.AT V.NM V.SH V.LN
  obtain ⟨⟨hsm,h0,hab,hbl,hll⟩,hk⟩:=h
  simp only [] at hsm h0 hab hbl hll hk
  intro n hn
  rw [w64 (by omega)] at hn
  subst hn
  obtain ⟨an,rfl⟩:=Int.eq_ofNat_of_zero_le h0
  refine ⟨fun x=>x.2.1=an∧x.2.2.1=b∧(an:Int)+1≤x.2.2.2∧(x.2.2.2≤b∨(x.2.2.2=an+1∧x.1=l))∧SortedSeg keyJ l x.1 an x.2.2.2,fun x=>(b-x.2.2.2).toNat,(l,an,b,(an:Int)+1),⟨rfl,rfl,Int.le_refl _,.inr ⟨rfl,rfl⟩,.refl (by simp)⟩,⟨⟨⟨rfl,rfl⟩,rfl,rfl,trivial,rfl,trivial⟩,rfl,trivial⟩,?_⟩
  rintro ⟨ys,a',b',i⟩ ⟨h1,h2,h3,h4,h5⟩
  simp only [] at h1 h2 h3 h4 h5
  subst h1 h2
  refine br_dec (fun hi=>?_) (fun hi=>?_)
  · simp only [] at hi
    obtain ⟨i,rfl⟩:=Int.eq_ofNat_of_zero_le (show 0≤i by omega)
    have hlen:=h5.1
    refine ⟨fun x=>x.2.1=an∧x.2.2.1=b'∧x.2.2.2.1=i∧0≤x.2.2.2.2∧Sinks keyJ l x.1 an i x.2.2.2.2.toNat,fun x=>x.2.2.2.2.toNat,(ys,an,b',i,i),⟨rfl,rfl,rfl,by simp,.start h5 (by omega) (by simp only [];omega)⟩,⟨⟨⟨rfl,rfl⟩,rfl,rfl,trivial,rfl,rfl,trivial⟩,rfl,trivial⟩,?_⟩
    rintro ⟨zs,a',b'',i',j⟩ ⟨g1,g2,g3,g4,g5⟩
    simp only [] at g1 g2 g3 g4 g5
    subst g1 g2 g3
    obtain ⟨j,rfl⟩:=Int.eq_ofNat_of_zero_le g4
    simp only [Int.toNat_natCast] at g5
    have hs:=small_segB hsm g5.2.2.2.2.2.2
    have hzl:=g5.2.2.2.1
    have hji:=g5.2.1
    have haj:=g5.1
    have next:SortedSeg keyJ l zs an ((i:Int)+1)→ ∀n:Int,n=IntKind.wrap IntKind.i64 ((i:Int)+1)→ ∃y:List Job × Int × Int × Int,(y.2.1=(an:Int)∧y.2.2.1=b''∧(an:Int)+1≤y.2.2.2∧(y.2.2.2≤b''∨(y.2.2.2=an+1∧y.1=l))∧SortedSeg keyJ l y.1 an y.2.2.2)∧
        (((0=0∧zs.length=y.1.length)∧(an:Int)=y.2.1∧b''=y.2.2.1∧True∧n=y.2.2.2∧True)∧zs=y.1∧True)∧(b''-y.2.2.2).toNat<(b''-(i:Int)).toNat:=by
      intro hs n hn
      rw [w64 (by omega)] at hn
      subst hn
      exact ⟨(zs,an,b'',(i:Int)+1),⟨rfl,rfl,by simp only [];omega,.inl (by simp only [];omega),hs⟩,⟨⟨⟨rfl,rfl⟩,rfl,rfl,trivial,rfl,trivial⟩,rfl,trivial⟩,by simp only [];omega⟩
    refine br_dec (fun hj=>?_) (fun hj=>⟨next (g5.stop (.inl (by simp only [] at hj;omega))),trivial⟩)
    simp only [gt_iff_lt] at hj
    obtain ⟨j,rfl⟩: ∃q,j=q+1:=⟨j-1,by omega⟩
    simp only [Int.toNat_natCast,Nat.zero_add]
    refine ⟨⟨by omega,by omega⟩,by omega,fun e he n hn=>?_⟩
    rw [w64 (by omega)] at hn
    have hn2:n=(j:Int):=by omega
    subst hn2
    simp only [Int.toNat_natCast]
    refine ⟨⟨by omega,by omega⟩,by omega,fun e1 he1=>⟨br_dec (fun hlt=>?_) (fun hlt=>?_),trivial⟩⟩
    · rw [cmpJ_lt (small_getB hs he) (small_getB hs he1)] at hlt
      intro n hn n1 hn1
      rw [w64 (by omega)] at hn hn1
      have hn2:n=(j:Int):=by omega
      have hn3:n1=(j:Int):=by omega
      subst hn2 hn3
      simp only [Int.toNat_natCast]
      refine ⟨⟨by omega,by omega⟩,by omega,fun e2 he2=>⟨⟨by omega,by omega⟩,by omega,fun e3 he3=>⟨⟨by omega,by omega⟩,⟨by omega,fun e4 he4=>⟨⟨by omega,by omega⟩,⟨by simp;omega,fun e5 he5 n2 hn2=>?_⟩,trivial⟩⟩,trivial⟩⟩⟩
      rw [he1] at he2;cases he2
      rw [he] at he3;cases he3
      rw [w64 (by omega)] at hn2
      have hn3:n2=(j:Int):=by omega
      subst hn3
      refine ⟨((zs.set (j+1) e1).set j e,an,b'',i,j),⟨rfl,rfl,rfl,by simp,?_⟩,⟨⟨⟨trivial,by simp⟩,rfl,rfl,trivial,rfl,rfl,trivial⟩,rfl,trivial⟩,by simp⟩
      exact g5.step (by omega) he1 he hlt
    · rw [cmpJ_lt (small_getB hs he) (small_getB hs he1)] at hlt
      have nx:=next (g5.stop (.inr fun u v _ hu hv=>by
        rw [he] at hv;cases hv
        simp only [Nat.add_sub_cancel] at hu
        rw [he1] at hu;cases hu
        omega))
      simp only [Nat.zero_add] at nx ⊢
      exact nx
  · simp only [] at hi
    refine ⟨h5.1.symm,hk ys ?_⟩
    rcases h4 with h4 |⟨h4,rfl⟩
    · have:i=b':=by omega
      rw [←this];exact h5
    · exact .refl (by omega)
theorem vSwapRB {l:List Job} {a b m:Int} {k:List Job × Unit→Unit→Prop} (h:oSwapRB 0 (l,a,b,m,(),()) k):V.vSwapRB l a b m k:=by
  unfold V.vSwapRB V.LP V.NX V.AT V.NM V.SH V.LN
  obtain ⟨⟨h1,h2,h3,h4,h5,h6,h7⟩,hk⟩:=h
  simp only [] at h1 h2 h3 h4 h5 h6 h7 hk
  refine ⟨fun x=>Swapped l x.1 a b x.2.2.2.2∧x.2.1=a∧x.2.2.1=b∧x.2.2.2.1=m∧0≤x.2.2.2.2∧x.2.2.2.2≤m,fun x=>(m-x.2.2.2.2).toNat,(l,a,b,m,0),⟨Swapped.refl _ _ _,rfl,rfl,rfl,Int.le_refl _,h3⟩,⟨⟨⟨rfl,rfl⟩,rfl,rfl,rfl,rfl,trivial⟩,rfl,trivial⟩,?_⟩
  rintro ⟨c,a',b',m',i⟩ ⟨g1,g2,g3,g4,g5,g6⟩
  simp only [] at g1 g2 g3 g4 g5 g6
  subst g2 g3 g4
  have hlc:=g1.1
  dsimp only
  refine br_dec (fun hi n hn n1 hn1 n2 hn2=>?_) (fun hi=>?_)
  · rw [w64 (by omega)] at hn hn1 hn2
    subst hn hn1 hn2
    refine ⟨⟨by omega,by omega⟩,by omega,fun e he n3 hn3=>?_⟩
    rw [w64 (by omega)] at hn3
    subst hn3
    refine ⟨⟨by omega,by omega⟩,by omega,fun e1 he1=>⟨⟨by omega,by omega⟩,⟨by omega,fun e2 he2=>⟨⟨by omega,by omega⟩,⟨by rw [List.length_set];omega,fun e3 he3 n4 hn4=>?_⟩,trivial⟩⟩,trivial⟩⟩
    rw [w64 (by omega)] at hn4
    subst hn4
    refine ⟨((c.set (0+(a'+i).toNat) e).set (0+(b'+i).toNat) e1,a',b',m',i+1),⟨?_,rfl,rfl,rfl,by simp only [];omega,by simp only [];omega⟩,⟨⟨⟨rfl,by simp⟩,rfl,rfl,rfl,rfl,trivial⟩,rfl,trivial⟩,by simp only [];omega⟩
    rw [Nat.zero_add] at he he1
    simp only [Nat.zero_add]
    exact g1.step h1 h2 g5 (by omega) he1 he
  · have:i=m':=by omega
    subst this
    exact ⟨hlc.symm,hk c g1⟩
theorem vRotB {l:List Job} {a b m:Int} {k:List Job × Unit→Unit→Prop} (h:oRotB 0 (l,a,b,m,(),()) k):V.vRotB l a b m k:=by
  unfold V.vRotB V.LP V.NX V.NM V.SH
  obtain ⟨⟨h1,h2,h3,h4,h5⟩,hk⟩:=h
  simp only [] at h1 h2 h3 h4 h5 hk
  intro n hn n1 hn1
  rw [w64 (by omega)] at hn hn1
  subst hn hn1
  refine ⟨fun x=>x.2.1=b∧1≤x.2.2.1∧x.2.2.1≤b-a∧1≤x.2.2.2∧x.2.2.2≤m-b∧x.1.length=l.length∧ ∀ys,Rotated x.1 ys (b-x.2.2.1) b (b+x.2.2.2)→Rotated l ys a b m,fun x=>(x.2.2.1+x.2.2.2).toNat,(l,b,b-a,m-b),⟨rfl,by simp only [];omega,Int.le_refl _,by simp only [];omega,Int.le_refl _,rfl,fun ys hy=>?_⟩,⟨⟨⟨rfl,rfl⟩,rfl,trivial,rfl,rfl,trivial⟩,rfl,trivial⟩,?_⟩
  · simp only [] at hy
    rw [show b-(b-a)=a by omega,show b+(m-b)=m by omega] at hy
    exact hy
  rintro ⟨c,b',i,j⟩ ⟨g1,g2,g3,g4,g5,g6,g7⟩
  simp only [] at g1 g2 g3 g4 g5 g6 g7
  subst g1
  dsimp only
  refine br_not (fun hne=>?_) (fun heq=>?_)
  · have hne:i≠j:=by simpa using hne
    refine br_dec (fun hgt n hn=>?_) (fun hgt n hn n2 hn2 n3 hn3=>?_)
    · rw [w64 (by omega)] at hn
      subst hn
      refine ⟨rfl,⟨by omega,by omega,by omega,by omega,by omega,by omega,by omega⟩,fun ys hys n hn=>?_⟩
      rw [w64 (by omega)] at hn
      subst hn
      refine ⟨(ys,b',i-j,j),⟨rfl,by simp only [];omega,by simp only [];omega,g4,g5,by simp only [];rw [hys.1,g6],fun zs hz=>g7 zs ?_⟩,⟨⟨⟨rfl,hys.1.symm⟩,rfl,trivial,rfl,rfl,trivial⟩,rfl,trivial⟩,by simp only [];omega⟩
      exact Rotated.left (by omega) (by omega) (by omega) hys hz
    · rw [w64 (by omega)] at hn hn2
      subst hn hn2
      rw [w64 (by omega)] at hn3
      subst hn3
      refine ⟨rfl,⟨by omega,by omega,by omega,by omega,by omega,by omega,by omega⟩,fun ys hys n hn=>?_⟩
      rw [w64 (by omega)] at hn
      subst hn
      refine ⟨(ys,b',i,j-i),⟨rfl,g2,g3,by simp only [];omega,by simp only [];omega,by simp only [];rw [hys.1,g6],fun zs hz=>g7 zs ?_⟩,⟨⟨⟨rfl,hys.1.symm⟩,rfl,trivial,rfl,rfl,trivial⟩,rfl,trivial⟩,by simp only [];omega⟩
      exact Rotated.right (by omega) (by omega) (by omega) hys hz
  · have heq:i=j:=by simpa using heq
    subst heq
    intro n hn
    rw [w64 (by omega)] at hn
    subst hn
    refine ⟨rfl,⟨by omega,by omega,by omega,by omega,by omega,by omega,by omega⟩,fun ys hys=>⟨by rw [hys.1,g6],hk ys (g7 ys (Rotated.one (by omega) (by omega) hys))⟩⟩
theorem atI_ofB {xs:List Job} {p:Int} {e:Job} (h:xs[0+p.toNat]? =some e):atI xs p=some e:=by rw [Nat.zero_add] at h;exact h
theorem small_atB {xs:List Job} (h:SmallIdsB xs) {p:Int} {e:Job} (he:atI xs p=some e): -9223372036854775808≤e.Id∧e.Id≤9223372036854775807:=h e (List.mem_of_getElem? he)
theorem symTRB {n:Nat} {l ys zs:List Job} {a st mid en m:Int} {k:List Job × Unit→Unit→Prop} (hH:Halves keyJ l ys a st mid en m) (hsm:SmallIdsB l) (h0:0≤a) (h1:a<mid) (h2:mid≤en) (h3:en≤m) (hml:m≤l.length) (hll:l.length≤1099511627776) (hN:(m-a).toNat<n+1)
    (hk: ∀ws,SortedSeg keyJ l ws a m→k (ws,()) ()) (hz:SortedSeg keyJ ys zs a mid):
    br (decide (mid<en)) (br (decide (en<m)) (l.length=zs.length∧SymPreB n zs mid en m∧ ∀ws,SortedSeg keyJ zs ws mid m→l.length=ws.length∧k (ws,()) ()) (l.length=zs.length∧k (zs,()) ())) (l.length=zs.length∧k (zs,()) ()):=by
  have hzl:zs.length=l.length:=by rw [hz.1,hH.len]
  have r3:Rises keyJ zs mid en:=hH.r3.congr fun i h0 h1 h2=>hz.out h0 (by omega)
  have r4:Rises keyJ zs en m:=hH.r4.congr fun i h0 h1 h2=>hz.out h0 (by omega)
  refine br_dec (fun c1=>br_dec (fun c2=>?_) (fun c2=>?_)) (fun c1=>?_)
  · refine ⟨hzl.symm,⟨⟨by omega,c1,c2,by omega,by omega⟩,?_,by omega,r3,r4⟩,fun ws hw=>⟨by rw [hw.1,hzl],hk ws (hH.merge h0 (by omega) (by omega) hz hw)⟩⟩
    exact small_segB (small_segB hsm hH.fil) hz.2.2.2
  · have:en=m:=by omega
    subst this
    exact ⟨hzl.symm,hk zs (hH.merge h0 (by omega) (by omega) hz (.same r3))⟩
  · have:en=mid:=by omega
    subst this
    exact ⟨hzl.symm,hk zs (hH.merge h0 (by omega) (by omega) hz (.same r4))⟩
theorem symTLB {n:Nat} {l ys:List Job} {a st mid en m:Int} {k:List Job × Unit→Unit→Prop} (hH:Halves keyJ l ys a st mid en m) (hsm:SmallIdsB l) (h0:0≤a) (h1:a<mid) (h2:mid≤en) (h3:en≤m) (hmm:mid<m) (hs1:a≤st) (hs2:st≤mid) (hml:m≤l.length) (hll:l.length≤1099511627776) (hN:(m-a).toNat<n+1)
    (hk: ∀ws,SortedSeg keyJ l ws a m→k (ws,()) ()) {A:List Job→Prop} (hA: ∀zs,SortedSeg keyJ ys zs a mid→A zs):
    br (decide (a<st)) (br (decide (st<mid)) (l.length=ys.length∧SymPreB n ys a st mid∧ ∀zs,SortedSeg keyJ ys zs a mid→A zs) (A ys)) (A ys):=by
  refine br_dec (fun c1=>br_dec (fun c2=>?_) (fun c2=>?_)) (fun c1=>?_)
  · exact ⟨hH.len.symm,⟨⟨by omega,c1,c2,by rw [hH.len];omega,by rw [hH.len];exact hll⟩,small_segB hsm hH.fil,by omega,hH.r1,hH.r2⟩,hA⟩
  · have:st=mid:=by omega
    subst this
    exact hA ys (.same hH.r1)
  · have:st=a:=by omega
    subst this
    exact hA ys (.same hH.r2)
theorem vSymB {n:Nat} {l:List Job} {a b m:Int} {k:List Job × Unit→Unit→Prop} (h:oSymB 0 (n+1) (l,a,b,m,(),()) k):V.vSymB n l a b m k:=by
  unfold V.vSymB V.LP V.NX V.AT V.NM V.SH V.LN
  obtain ⟨⟨⟨h1,h2,h3,h4,h5⟩,hsm,hN,s1,s2⟩,hk⟩:=h
  simp only [] at h1 h2 h3 h4 h5 hsm hN s1 s2 hk
  intro n1 hn1
  rw [w64 (by omega)] at hn1
  subst hn1
  refine br_bool (fun hc=>?_) (fun hc n2 hn2=>?_)
  · have hb:b=a+1:=by simp at hc;omega
    subst hb
    obtain ⟨u,hu⟩:=atI_some (xs:=l) (p:=a) h1 (by omega)
    have hus:=small_atB hsm hu
    refine ⟨fun x=>x.1=l∧x.2.1=a∧a+1≤x.2.2.1∧x.2.2.1≤x.2.2.2∧x.2.2.2≤m∧(∀(p:Int) (x':Job),a+1≤p→p<x.2.2.1→atI l p=some x'→keyJ x'<keyJ u)∧(∀(p:Int) (x':Job),x.2.2.2≤p→p<m→atI l p=some x'→keyJ u≤keyJ x'),
      fun x=>(x.2.2.2-x.2.2.1).toNat,(l,a,a+1,m),⟨rfl,rfl,Int.le_refl _,by simp only [];omega,Int.le_refl _,fun p x' p1 p2=>by simp only [] at p2;omega,fun p x' p1 p2=>by simp only [] at p1;omega⟩,⟨⟨⟨rfl,rfl⟩,rfl,trivial,rfl,rfl,trivial⟩,rfl,trivial⟩,?_⟩
    rintro ⟨c,a',i,j⟩ ⟨g1,g2,g3,g4,g5,g6,g7⟩
    simp only [] at g1 g2 g3 g4 g5 g6 g7
    subst g1 g2
    dsimp only
    refine br_dec (fun hij n1 e1 n2 e2=>⟨by decide,fun n3 e3 n4 e4=>?_⟩) (fun hij=>?_)
    · have hh:=half (by omega) (by omega) e1 e2 e3 e4
      clear e1 e2 e3 e4
      have hh1:i≤n4∧n4<j:=by omega
      refine ⟨⟨by omega,by omega⟩,by omega,fun e he=>⟨⟨by omega,by omega⟩,by omega,fun e1 he1=>⟨?_,trivial⟩⟩⟩
      have he:=atI_ofB he
      have he1:=atI_ofB he1
      rw [hu] at he1
      cases he1
      have hes:=small_atB hsm he
      refine br_dec (fun hlt n5 hn5=>?_) (fun hlt=>?_)
      · rw [cmpJ_lt hes hus] at hlt
        rw [w64 (by omega)] at hn5
        subst hn5
        refine ⟨(c,a',n4+1,j),⟨rfl,rfl,by simp only [];omega,by simp only [];omega,g5,fun p x' p1 p2 hx=>?_,g7⟩,⟨⟨⟨rfl,rfl⟩,rfl,trivial,rfl,rfl,trivial⟩,rfl,trivial⟩,by simp only [];omega⟩
        simp only [] at p2
        have:=s2.le (by omega) p1 (by omega:p≤n4) (by omega) hx he
        omega
      · rw [cmpJ_lt hes hus] at hlt
        refine ⟨(c,a',i,n4),⟨rfl,rfl,g3,by simp only [];omega,by simp only [];omega,g6,fun p x' p1 p2 hx=>?_⟩,⟨⟨⟨rfl,rfl⟩,rfl,trivial,rfl,rfl,trivial⟩,rfl,trivial⟩,by simp only [];omega⟩
        simp only [] at p1
        have:=s2.le (by omega) (by omega) p1 p2 he hx
        omega
    · have hij:j=i:=by omega
      subst hij
      refine ⟨fun x=>x.2.1=j∧a'≤x.2.2∧(x.2.2≤j-1)∧Rotated c x.1 a' (a'+1) (x.2.2+1),fun x=>(j-x.2.2).toNat,(c,j,a'),⟨rfl,Int.le_refl _,by simp only [];omega,Rotated.triv (.inr rfl) (by omega) (Int.le_refl _)⟩,⟨⟨⟨rfl,rfl⟩,rfl,rfl,trivial⟩,rfl,trivial⟩,?_⟩
      rintro ⟨d,j',q⟩ ⟨f1,f2,f3,f4⟩
      simp only [] at f1 f2 f3 f4
      subst f1
      have hdl:=f4.1
      dsimp only
      intro n1 hn1
      rw [w64 (by omega)] at hn1
      subst hn1
      refine br_dec (fun hlt n2 hn2 n3 hn3=>?_) (fun hlt=>?_)
      · rw [w64 (by omega)] at hn2 hn3
        subst hn2 hn3
        refine ⟨⟨by omega,by omega⟩,by omega,fun e he=>⟨⟨by omega,by omega⟩,by omega,fun e1 he1=>⟨⟨by omega,by omega⟩,⟨by omega,fun e2 _=>⟨⟨by omega,by omega⟩,⟨by rw [List.length_set];omega,fun e3 _ n4 hn4=>?_⟩,trivial⟩⟩,trivial⟩⟩⟩
        rw [w64 (by omega)] at hn4
        subst hn4
        refine ⟨((d.set (0+q.toNat) e).set (0+(q+1).toNat) e1,j',q+1),⟨rfl,by simp only [];omega,by simp only [];omega,?_⟩,⟨⟨⟨rfl,by simp⟩,rfl,rfl,trivial⟩,rfl,trivial⟩,by simp only [];omega⟩
        simp only [Nat.zero_add]
        have:=f4.stepL h1 f2 (by omega) (atI_ofB he1) (atI_ofB he)
        rw [show q+1+1=q+2 by omega]
        exact this
      · have hq:q+1=j':=by omega
        rw [hq] at f4
        exact ⟨hdl.symm,hk d (insL h1 (by omega) (by omega) h4 hu s2 g6 g7 f4)⟩
  · rw [w64 (by omega)] at hn2
    subst hn2
    have hc:b-a≠1:=by simpa using hc
    refine br_bool (fun hc2=>?_) (fun hc2=>?_)
    · have hb:m=b+1:=by simp at hc2;omega
      subst hb
      obtain ⟨v,hv⟩:=atI_some (xs:=l) (p:=b) (by omega) (by omega)
      have hvs:=small_atB hsm hv
      refine ⟨fun x=>x.1=l∧x.2.1=b∧a≤x.2.2.1∧x.2.2.1≤x.2.2.2∧x.2.2.2≤b∧(∀(p:Int) (x':Job),a≤p→p<x.2.2.1→atI l p=some x'→keyJ x'≤keyJ v)∧(∀(p:Int) (x':Job),x.2.2.2≤p→p<b→atI l p=some x'→keyJ v<keyJ x'),
        fun x=>(x.2.2.2-x.2.2.1).toNat,(l,b,a,b),⟨rfl,rfl,Int.le_refl _,by simp only [];omega,Int.le_refl _,fun p x' p1 p2=>by simp only [] at p2;omega,fun p x' p1 p2=>by simp only [] at p1;omega⟩,⟨⟨⟨rfl,rfl⟩,rfl,trivial,rfl,rfl,trivial⟩,rfl,trivial⟩,?_⟩
      rintro ⟨c,b',i,j⟩ ⟨g1,g2,g3,g4,g5,g6,g7⟩
      simp only [] at g1 g2 g3 g4 g5 g6 g7
      subst g1 g2
      dsimp only
      refine br_dec (fun hij n1 e1 n2 e2=>⟨by decide,fun n3 e3 n4 e4=>?_⟩) (fun hij=>?_)
      · have hh:=half (by omega) (by omega) e1 e2 e3 e4
        clear e1 e2 e3 e4
        have hh1:i≤n4∧n4<j:=by omega
        refine ⟨⟨by omega,by omega⟩,by omega,fun e he=>⟨⟨by omega,by omega⟩,by omega,fun e1 he1=>⟨?_,trivial⟩⟩⟩
        have he:=atI_ofB he
        have he1:=atI_ofB he1
        rw [hv] at he
        cases he
        have hes:=small_atB hsm he1
        refine br_not (fun hlt=>?_) (fun hlt=>?_)
        · intro n5 hn5
          have hlt: ¬ cmpJ v e1<0:=of_decide_eq_false hlt
          rw [cmpJ_lt hvs hes] at hlt
          rw [w64 (by omega)] at hn5
          subst hn5
          refine ⟨(c,b',n4+1,j),⟨rfl,rfl,by simp only [];omega,by simp only [];omega,g5,fun p x' p1 p2 hx=>?_,g7⟩,⟨⟨⟨rfl,rfl⟩,rfl,trivial,rfl,rfl,trivial⟩,rfl,trivial⟩,by simp only [];omega⟩
          simp only [] at p2
          have:=s1.le (by omega) p1 (by omega:p≤n4) (by omega) hx he1
          omega
        · have hlt:cmpJ v e1<0:=of_decide_eq_true hlt
          rw [cmpJ_lt hvs hes] at hlt
          refine ⟨(c,b',i,n4),⟨rfl,rfl,g3,by simp only [];omega,by simp only [];omega,g6,fun p x' p1 p2 hx=>?_⟩,⟨⟨⟨rfl,rfl⟩,rfl,trivial,rfl,rfl,trivial⟩,rfl,trivial⟩,by simp only [];omega⟩
          simp only [] at p1
          have:=s1.le (by omega) (by omega) p1 p2 he1 hx
          omega
      · have hij:j=i:=by omega
        subst hij
        refine ⟨fun x=>x.2.1=j∧j≤x.2.2∧x.2.2≤b'∧Rotated c x.1 x.2.2 b' (b'+1),fun x=>(x.2.2-j).toNat,(c,j,b'),⟨rfl,by simp only [];omega,Int.le_refl _,Rotated.triv (.inl rfl) (Int.le_refl _) (by omega)⟩,⟨⟨⟨rfl,rfl⟩,rfl,rfl,trivial⟩,rfl,trivial⟩,?_⟩
        rintro ⟨d,j',q⟩ ⟨f1,f2,f3,f4⟩
        simp only [] at f1 f2 f3 f4
        subst f1
        have hdl:=f4.1
        dsimp only
        refine br_dec (fun hlt n2 hn2 n3 hn3=>?_) (fun hlt=>?_)
        · rw [w64 (by omega)] at hn2 hn3
          subst hn2 hn3
          refine ⟨⟨by omega,by omega⟩,by omega,fun e he=>⟨⟨by omega,by omega⟩,by omega,fun e1 he1=>⟨⟨by omega,by omega⟩,⟨by omega,fun e2 _=>⟨⟨by omega,by omega⟩,⟨by rw [List.length_set];omega,fun e3 _ n4 hn4=>?_⟩,trivial⟩⟩,trivial⟩⟩⟩
          rw [w64 (by omega)] at hn4
          subst hn4
          refine ⟨((d.set (0+q.toNat) e).set (0+(q-1).toNat) e1,j',q-1),⟨rfl,by simp only [];omega,by simp only [];omega,?_⟩,⟨⟨⟨rfl,by simp⟩,rfl,rfl,trivial⟩,rfl,trivial⟩,by simp only [];omega⟩
          simp only [Nat.zero_add]
          exact f4.stepR (by omega) f3 (by omega) (atI_ofB he) (atI_ofB he1)
        · have hq:q=j':=by omega
          subst hq
          exact ⟨hdl.symm,hk d (insR h1 g3 (by omega) (by omega) hv s1 g6 g7 f4)⟩
    · have hc2:m-b≠1:=by simpa using hc2
      intro n3 e3 n4 e4
      refine ⟨by decide,fun n5 e5 mid e6=>?_⟩
      have hmid:=half (by omega) (by omega) e3 e4 e5 e6
      clear e3 e4 e5 e6
      have hm1:a<mid∧mid<m∧mid≤(a+m)/2∧(a+m)/2≤mid:=by omega
      intro n7 hn7
      rw [w64 (by omega)] at hn7
      subst hn7
      refine br_dec (fun hg n8 hn8 n9 hn9=>?_) (fun hg n8 hn8=>?_)
      · rw [w64 (by omega)] at hn8 hn9
        subst hn8 hn9
        obtain ⟨lo,hi,hlh⟩: ∃lo hi:Int,(mid<b∧lo=mid+b-m∧hi=mid)∨(b≤mid∧lo=a∧hi=b):=⟨_,_,.inl ⟨by omega,rfl,rfl⟩⟩
        refine ⟨fun x=>x.1=l∧x.2.1=a∧x.2.2.1=b∧x.2.2.2.1=m∧x.2.2.2.2.1=mid∧x.2.2.2.2.2.1=mid+b∧lo≤x.2.2.2.2.2.2.1∧x.2.2.2.2.2.2.1≤x.2.2.2.2.2.2.2.1∧x.2.2.2.2.2.2.2.1≤hi∧x.2.2.2.2.2.2.2.2=mid+b-1∧(∀(c:Int) (u v:Job),lo≤c→c<x.2.2.2.2.2.2.1→atI l c=some u→atI l (mid+b-1-c)=some v→keyJ u≤keyJ v)∧(∀(c:Int) (u v:Job),x.2.2.2.2.2.2.2.1≤c→c<hi→atI l c=some u→atI l (mid+b-1-c)=some v→keyJ v<keyJ u),
          fun x=>(x.2.2.2.2.2.2.2.1-x.2.2.2.2.2.2.1).toNat,(l,a,b,m,mid,mid+b,mid+b-m,mid,mid+b-1),⟨rfl,rfl,rfl,rfl,rfl,rfl,by simp only [];omega,by simp only [];omega,by simp only [];omega,rfl,fun c u v q1 q2=>by simp only [] at q2;omega,fun c u v q1 q2=>by simp only [] at q1;omega⟩,⟨⟨⟨rfl,rfl⟩,rfl,rfl,rfl,trivial,rfl,rfl,rfl,rfl,rfl,trivial⟩,rfl,trivial⟩,?_⟩
        rintro ⟨c,a',b',m',mid',n',st,r,p⟩ ⟨g1,g2,g3,g4,g5,g6,g7,g8,g9,g10,g11,g12⟩
        simp only [] at g1 g2 g3 g4 g5 g6 g7 g8 g9 g10 g11 g12
        subst g1 g2 g3 g4 g5 g6 g10
        have hal:a'≤lo:=by omega
        have hib:hi≤b'∧hi≤mid':=by omega
        dsimp only
        refine br_dec (fun hlt n1 e1 n2 e2=>⟨by decide,fun n3 e3 n4 e4 n5 hn5=>?_⟩) (fun hlt n1 hn1=>?_)
        · have hh:=half (by omega) (by omega) e1 e2 e3 e4
          clear e1 e2 e3 e4
          have hh1:st≤n4∧n4<r:=by omega
          rw [w64 (by omega)] at hn5
          subst hn5
          refine ⟨⟨by omega,by omega⟩,by omega,fun e he=>⟨⟨by omega,by omega⟩,by omega,fun e1 he1=>⟨?_,trivial⟩⟩⟩
          have he:=atI_ofB he
          have he1:=atI_ofB he1
          have hes:=small_atB hsm he
          have hes1:=small_atB hsm he1
          refine br_not (fun hq n6 hn6=>?_) (fun hq=>?_)
          · have hq: ¬ cmpJ e e1<0:=of_decide_eq_false hq
            rw [cmpJ_lt hes hes1] at hq
            rw [w64 (by omega)] at hn6
            subst hn6
            refine ⟨(c,a',b',m',mid',mid'+b',n4+1,r,mid'+b'-1),⟨rfl,rfl,rfl,rfl,rfl,rfl,by simp only [];omega,by simp only [];omega,g9,rfl,fun c u v q1 q2 hu hv=>?_,g12⟩,⟨⟨⟨rfl,rfl⟩,rfl,rfl,rfl,trivial,rfl,rfl,rfl,rfl,rfl,trivial⟩,rfl,trivial⟩,by simp only [];omega⟩
            simp only [] at q2
            have l1:=s1.le (by omega) (by omega:a'≤c) (by omega:c≤n4) (by omega) hu he1
            have l2:=s2.le (by omega) (by omega) (by omega:mid'+b'-1-n4≤mid'+b'-1-c) (by omega) he hv
            omega
          · have hq:cmpJ e e1<0:=of_decide_eq_true hq
            rw [cmpJ_lt hes hes1] at hq
            refine ⟨(c,a',b',m',mid',mid'+b',st,n4,mid'+b'-1),⟨rfl,rfl,rfl,rfl,rfl,rfl,g7,by simp only [];omega,by simp only [];omega,rfl,g11,fun c u v q1 q2 hu hv=>?_⟩,⟨⟨⟨rfl,rfl⟩,rfl,rfl,rfl,trivial,rfl,rfl,rfl,rfl,rfl,trivial⟩,rfl,trivial⟩,by simp only [];omega⟩
            simp only [] at q1
            have l1:=s1.le (by omega) (by omega:a'≤n4) q1 (by omega) he1 hu
            have l2:=s2.le (by omega) (by omega) (by omega:mid'+b'-1-c≤mid'+b'-1-n4) (by omega) hv he
            omega
        · have hr:r=st:=by omega
          subst hr
          rw [w64 (by omega)] at hn1
          subst hn1
          obtain ⟨en,hen⟩: ∃en,en=mid'+b'-r:=⟨_,rfl⟩
          rw [←hen]
          have hH: ∀ys,Rotated c ys r b' en→Halves keyJ c ys a' r mid' en m':=fun ys hys=>halves h1 h2 h3 h4 (by omega) (by omega) hlh hal g7 g9 hen (by omega) s1 s2 g11 g12 hys
          refine br_dec (fun c1=>br_dec (fun c2=>?_) (fun c2=>?_)) (fun c1=>?_)
          · refine ⟨rfl,⟨by omega,c1,c2,by omega,h5⟩,fun ys hys=>?_⟩
            have hh:=hH ys hys
            exact symTLB hh hsm h1 (by omega) (by omega) (by omega) (by omega) (by omega) (by omega) h4 h5 hN hk fun zs hz=>symTRB hh hsm h1 (by omega) (by omega) (by omega) h4 h5 hN hk hz
          all_goals
            have hh:=hH c (Rotated.triv (by omega) (by omega) (by omega))
            exact symTLB hh hsm h1 (by omega) (by omega) (by omega) (by omega) (by omega) (by omega) h4 h5 hN hk fun zs hz=>symTRB hh hsm h1 (by omega) (by omega) (by omega) h4 h5 hN hk hz
      · rw [w64 (by omega)] at hn8
        subst hn8
        obtain ⟨lo,hi,hlh⟩: ∃lo hi:Int,(mid<b∧lo=mid+b-m∧hi=mid)∨(b≤mid∧lo=a∧hi=b):=⟨_,_,.inr ⟨by omega,rfl,rfl⟩⟩
        refine ⟨fun x=>x.1=l∧x.2.1=a∧x.2.2.1=b∧x.2.2.2.1=m∧x.2.2.2.2.1=mid∧x.2.2.2.2.2.1=mid+b∧lo≤x.2.2.2.2.2.2.1∧x.2.2.2.2.2.2.1≤x.2.2.2.2.2.2.2.1∧x.2.2.2.2.2.2.2.1≤hi∧x.2.2.2.2.2.2.2.2=mid+b-1∧(∀(c:Int) (u v:Job),lo≤c→c<x.2.2.2.2.2.2.1→atI l c=some u→atI l (mid+b-1-c)=some v→keyJ u≤keyJ v)∧(∀(c:Int) (u v:Job),x.2.2.2.2.2.2.2.1≤c→c<hi→atI l c=some u→atI l (mid+b-1-c)=some v→keyJ v<keyJ u),
          fun x=>(x.2.2.2.2.2.2.2.1-x.2.2.2.2.2.2.1).toNat,(l,a,b,m,mid,mid+b,a,b,mid+b-1),⟨rfl,rfl,rfl,rfl,rfl,rfl,by simp only [];omega,by simp only [];omega,by simp only [];omega,rfl,fun c u v q1 q2=>by simp only [] at q2;omega,fun c u v q1 q2=>by simp only [] at q1;omega⟩,⟨⟨⟨rfl,rfl⟩,rfl,rfl,rfl,trivial,rfl,rfl,rfl,rfl,rfl,trivial⟩,rfl,trivial⟩,?_⟩
        rintro ⟨c,a',b',m',mid',n',st,r,p⟩ ⟨g1,g2,g3,g4,g5,g6,g7,g8,g9,g10,g11,g12⟩
        simp only [] at g1 g2 g3 g4 g5 g6 g7 g8 g9 g10 g11 g12
        subst g1 g2 g3 g4 g5 g6 g10
        have hal:a'≤lo:=by omega
        have hib:hi≤b'∧hi≤mid':=by omega
        dsimp only
        refine br_dec (fun hlt n1 e1 n2 e2=>⟨by decide,fun n3 e3 n4 e4 n5 hn5=>?_⟩) (fun hlt n1 hn1=>?_)
        · have hh:=half (by omega) (by omega) e1 e2 e3 e4
          clear e1 e2 e3 e4
          have hh1:st≤n4∧n4<r:=by omega
          rw [w64 (by omega)] at hn5
          subst hn5
          refine ⟨⟨by omega,by omega⟩,by omega,fun e he=>⟨⟨by omega,by omega⟩,by omega,fun e1 he1=>⟨?_,trivial⟩⟩⟩
          have he:=atI_ofB he
          have he1:=atI_ofB he1
          have hes:=small_atB hsm he
          have hes1:=small_atB hsm he1
          refine br_not (fun hq n6 hn6=>?_) (fun hq=>?_)
          · have hq: ¬ cmpJ e e1<0:=of_decide_eq_false hq
            rw [cmpJ_lt hes hes1] at hq
            rw [w64 (by omega)] at hn6
            subst hn6
            refine ⟨(c,a',b',m',mid',mid'+b',n4+1,r,mid'+b'-1),⟨rfl,rfl,rfl,rfl,rfl,rfl,by simp only [];omega,by simp only [];omega,g9,rfl,fun c u v q1 q2 hu hv=>?_,g12⟩,⟨⟨⟨rfl,rfl⟩,rfl,rfl,rfl,trivial,rfl,rfl,rfl,rfl,rfl,trivial⟩,rfl,trivial⟩,by simp only [];omega⟩
            simp only [] at q2
            have l1:=s1.le (by omega) (by omega:a'≤c) (by omega:c≤n4) (by omega) hu he1
            have l2:=s2.le (by omega) (by omega) (by omega:mid'+b'-1-n4≤mid'+b'-1-c) (by omega) he hv
            omega
          · have hq:cmpJ e e1<0:=of_decide_eq_true hq
            rw [cmpJ_lt hes hes1] at hq
            refine ⟨(c,a',b',m',mid',mid'+b',st,n4,mid'+b'-1),⟨rfl,rfl,rfl,rfl,rfl,rfl,g7,by simp only [];omega,by simp only [];omega,rfl,g11,fun c u v q1 q2 hu hv=>?_⟩,⟨⟨⟨rfl,rfl⟩,rfl,rfl,rfl,trivial,rfl,rfl,rfl,rfl,rfl,trivial⟩,rfl,trivial⟩,by simp only [];omega⟩
            simp only [] at q1
            have l1:=s1.le (by omega) (by omega:a'≤n4) q1 (by omega) he1 hu
            have l2:=s2.le (by omega) (by omega) (by omega:mid'+b'-1-c≤mid'+b'-1-n4) (by omega) hv he
            omega
        · have hr:r=st:=by omega
          subst hr
          rw [w64 (by omega)] at hn1
          subst hn1
          obtain ⟨en,hen⟩: ∃en,en=mid'+b'-r:=⟨_,rfl⟩
          rw [←hen]
          have hH: ∀ys,Rotated c ys r b' en→Halves keyJ c ys a' r mid' en m':=fun ys hys=>halves h1 h2 h3 h4 (by omega) (by omega) hlh hal g7 g9 hen (by omega) s1 s2 g11 g12 hys
          refine br_dec (fun c1=>br_dec (fun c2=>?_) (fun c2=>?_)) (fun c1=>?_)
          · refine ⟨rfl,⟨by omega,c1,c2,by omega,h5⟩,fun ys hys=>?_⟩
            have hh:=hH ys hys
            exact symTLB hh hsm h1 (by omega) (by omega) (by omega) (by omega) (by omega) (by omega) h4 h5 hN hk fun zs hz=>symTRB hh hsm h1 (by omega) (by omega) (by omega) h4 h5 hN hk hz
          all_goals
            have hh:=hH c (Rotated.triv (by omega) (by omega) (by omega))
            exact symTLB hh hsm h1 (by omega) (by omega) (by omega) (by omega) (by omega) (by omega) h4 h5 hN hk fun zs hz=>symTRB hh hsm h1 (by omega) (by omega) (by omega) h4 h5 hN hk hz
theorem dvd_gapB {d a c:Int} (ha:d ∣ a) (hc:d ∣ c) (h:a<c):a+d≤c:=by
  have:=Int.le_of_dvd (by omega) (Int.dvd_sub hc ha)
  omega
theorem Rises.subB {key:Job→Int} {xs:List Job} {a b a' b':Int} (h:Rises key xs a b) (h1:a≤a') (h2:b'≤b):Rises key xs a' b':=
  fun p q x y p0 p1 pq q1 hx hy=>h p q x y p0 (by omega) pq (by omega) hx hy
theorem Rises.noneB {key:Job→Int} {xs:List Job} {a b:Int} (h:b≤a):Rises key xs a b:=fun p q x y p0 p1 pq q1 _ _=>by omega
theorem vStabB {l:List Job} {a:Int} {k:List Job × Unit→Unit→Prop} (h:oStabB 0 (l,a,(),()) k):V.vStabB l a k:=by
  unfold V.vStabB V.LP V.NX V.NM V.SH
  obtain ⟨⟨⟨hsm,hll⟩,ha⟩,hk⟩:=h
  simp only [] at hsm hll ha hk
  subst ha
  refine ⟨fun x=>x.2.1=l.length∧x.2.2.1=20∧0≤x.2.2.2.1∧x.2.2.2.1≤l.length∧x.2.2.2.2=x.2.2.2.1+20∧(20:Int) ∣ x.2.2.2.1∧x.1.length=l.length∧(∀c,x.1.filter (keyIs keyJ c)=l.filter (keyIs keyJ c))∧ ∀c:Int,0≤c→20 ∣ c→c+20≤x.2.2.2.1→Rises keyJ x.1 c (c+20),
    fun x=>(l.length-x.2.2.2.1).toNat,(l,l.length,20,0,20),⟨rfl,rfl,Int.le_refl _,by simp only [];omega,rfl,⟨0,rfl⟩,rfl,fun _=>rfl,fun c h1 h2 h3=>by simp only [] at h3;omega⟩,⟨⟨⟨rfl,rfl⟩,rfl,trivial,rfl,rfl,rfl,trivial⟩,rfl,trivial⟩,?_⟩
  rintro ⟨cur,n,bs,a,b⟩ ⟨g1,g2,g3,g4,g5,g6,g7,g8,g9⟩
  simp only [] at g1 g2 g3 g4 g5 g6 g7 g8 g9
  subst g1 g2 g5
  dsimp only
  refine br_dec (fun hb=>⟨rfl,⟨small_segB hsm g8,g3,by omega,by omega,by omega⟩,fun ys hys n hn=>?_⟩) (fun hb=>⟨rfl,⟨small_segB hsm g8,g3,g4,by omega,by omega⟩,fun ys hys=>?_⟩)
  · rw [w64 (by omega)] at hn
    subst hn
    refine ⟨(ys,l.length,20,a+20,a+20+20),⟨rfl,rfl,by simp only [];omega,hb,rfl,Int.dvd_add g6 ⟨1,rfl⟩,by simp only [];rw [hys.1,g7],fun c=>by simp only [];rw [hys.2.2.2,g8],fun c h1 h2 h3=>?_⟩,⟨⟨⟨rfl,hys.1.symm⟩,rfl,trivial,rfl,rfl,rfl,trivial⟩,rfl,trivial⟩,by simp only [];omega⟩
    simp only [] at h3 ⊢
    by_cases hca:c=a
    · subst hca;exact hys.rises
    · have:c+20≤a:=dvd_gapB h2 g6 (by omega)
      exact (g9 c h1 h2 this).congr fun i i0 i1 i2=>hys.out i0 (by omega)
  · have hblk: ∀c:Int,0≤c→(20:Int) ∣ c→Rises keyJ ys c (min (c+20) l.length):=by
      intro c h1 h2
      by_cases hca:c=a
      · subst hca;exact Rises.subB hys.rises (Int.le_refl _) (by omega)
      · by_cases hlt:c<a
        · have:c+20≤a:=dvd_gapB h2 g6 hlt
          exact Rises.subB ((g9 c h1 h2 this).congr fun i i0 i1 i2=>hys.out i0 (by omega)) (Int.le_refl _) (by omega)
        · have:a+20≤c:=dvd_gapB g6 h2 (by omega)
          exact Rises.noneB (by omega)
    refine ⟨fun x=>x.2.1=l.length∧0<x.2.2∧x.2.2≤2199023255552∧x.1.length=l.length∧(∀c,x.1.filter (keyIs keyJ c)=l.filter (keyIs keyJ c))∧ ∀c:Int,0≤c→x.2.2 ∣ c→Rises keyJ x.1 c (min (c+x.2.2) l.length),
      fun x=>(l.length-x.2.2).toNat,(ys,l.length,20),⟨rfl,by simp only [];omega,by simp only [];omega,by simp only [];rw [hys.1,g7],fun c=>by simp only [];rw [hys.2.2.2,g8],hblk⟩,⟨⟨⟨rfl,hys.1.symm⟩,rfl,trivial,rfl,trivial⟩,rfl,trivial⟩,?_⟩
    clear hys hblk ys
    rintro ⟨cs,n,s⟩ ⟨f1,f2,f3,f4,f5,f6⟩
    simp only [] at f1 f2 f3 f4 f5 f6
    subst f1
    dsimp only
    refine br_dec (fun hsn n hn=>?_) (fun hsn=>?_)
    · rw [w64 (by omega)] at hn
      subst hn
      refine ⟨fun x=>x.2.1=l.length∧x.2.2.1=s∧0≤x.2.2.2.1∧x.2.2.2.1≤l.length∧x.2.2.2.2=x.2.2.2.1+2*s∧(2*s) ∣ x.2.2.2.1∧x.1.length=l.length∧(∀c,x.1.filter (keyIs keyJ c)=l.filter (keyIs keyJ c))∧(∀c:Int,0≤c→(2*s) ∣ c→c+2*s≤x.2.2.2.1→Rises keyJ x.1 c (c+2*s))∧(∀c:Int,x.2.2.2.1≤c→s ∣ c→Rises keyJ x.1 c (min (c+s) l.length)),
        fun x=>(l.length-x.2.2.2.1).toNat,(cs,l.length,s,0,2*s),⟨rfl,rfl,Int.le_refl _,by simp only [];omega,by simp only [];omega,⟨0,by simp⟩,f4,f5,fun c h1 h2 h3=>by simp only [] at h3;omega,fun c h1 h2=>f6 c h1 h2⟩,⟨⟨⟨rfl,rfl⟩,rfl,trivial,rfl,rfl,rfl,trivial⟩,rfl,trivial⟩,?_⟩
      rintro ⟨ds,n,s',a',b'⟩ ⟨q1,q2,q3,q4,q5,q6,q7,q8,q9,q10⟩
      simp only [] at q1 q2 q3 q4 q5 q6 q7 q8 q9 q10
      subst q1 q2 q5
      have hsa:s' ∣ a':=Int.dvd_trans ⟨2,by rw [Int.mul_comm]⟩ q6
      have hsm':=small_segB hsm q8
      dsimp only
      refine br_dec (fun hb n hn=>?_) (fun hb n hn=>?_)
      · rw [w64 (by omega)] at hn
        subst hn
        have ra:=q10 a' (Int.le_refl _) hsa
        have rb:=q10 (a'+s') (by omega) (Int.dvd_add hsa ⟨1,by simp⟩)
        refine ⟨rfl,⟨⟨q3,by omega,by omega,by omega,by omega⟩,hsm',by omega,Rises.subB ra (Int.le_refl _) (by omega),Rises.subB rb (Int.le_refl _) (by omega)⟩,fun ys hys n hn n2 hn2=>?_⟩
        rw [w64 (by omega)] at hn
        subst hn
        rw [w64 (by omega)] at hn2
        subst hn2
        have hdv:(2*s') ∣ a'+2*s':=Int.dvd_add q6 ⟨1,by simp⟩
        refine ⟨(ys,l.length,s',a'+2*s',a'+2*s'+2*s'),⟨rfl,rfl,by simp only [];omega,hb,rfl,hdv,by simp only [];rw [hys.1,q7],fun c=>by simp only [];rw [hys.2.2.2,q8],fun c h1 h2 h3=>?_,fun c h1 h2=>?_⟩,⟨⟨⟨rfl,hys.1.symm⟩,rfl,trivial,rfl,rfl,rfl,trivial⟩,rfl,trivial⟩,by simp only [];omega⟩
        · simp only [] at h3 ⊢
          by_cases hca:c=a'
          · subst hca;exact hys.rises
          · have:c+2*s'≤a':=dvd_gapB h2 q6 (by omega)
            exact (q9 c h1 h2 this).congr fun i i0 i1 i2=>hys.out i0 (by omega)
        · simp only [] at h1 ⊢
          exact (q10 c (by omega) h2).congr fun i i0 i1 i2=>hys.out i0 (by omega)
      · rw [w64 (by omega)] at hn
        subst hn
        have ra:=q10 a' (Int.le_refl _) hsa
        have rb:=q10 (a'+s') (by omega) (Int.dvd_add hsa ⟨1,by simp⟩)
        have fin: ∀ys:List Job,ys.length=l.length→(∀c,ys.filter (keyIs keyJ c)=l.filter (keyIs keyJ c))→(∀i,0≤i→i<a'→atI ys i=atI ds i)→Rises keyJ ys a' l.length→ ∀n,n=IntKind.i64.wrap (s'*2)→
            ∃y:List Job × Int × Int,(y.2.1=l.length∧0<y.2.2∧y.2.2≤2199023255552∧y.1.length=l.length∧(∀c,y.1.filter (keyIs keyJ c)=l.filter (keyIs keyJ c))∧ ∀c:Int,0≤c→y.2.2 ∣ c→Rises keyJ y.1 c (min (c+y.2.2) l.length))∧(((0=0∧ds.length=y.1.length)∧(l.length:Int)=y.2.1∧True∧n=y.2.2∧True)∧ys=y.1∧True)∧(l.length-y.2.2).toNat<(l.length-s').toNat:=by
          intro ys hyl hyf hyo hyr n hn
          rw [w64 (by omega)] at hn
          subst hn
          refine ⟨(ys,l.length,s'*2),⟨rfl,by simp only [];omega,by simp only [];omega,hyl,hyf,fun c h1 h2=>?_⟩,⟨⟨⟨rfl,by simp only [];omega⟩,rfl,trivial,rfl,trivial⟩,rfl,trivial⟩,by simp only [];omega⟩
          simp only [] at h2 ⊢
          rw [Int.mul_comm] at h2
          by_cases hca:c=a'
          · subst hca;exact Rises.subB hyr (Int.le_refl _) (by omega)
          · by_cases hlt:c<a'
            · have hg:c+2*s'≤a':=dvd_gapB h2 q6 hlt
              exact Rises.subB ((q9 c h1 h2 hg).congr fun i i0 i1 i2=>hyo i i0 (by omega)) (Int.le_refl _) (by omega)
            · have:a'+2*s'≤c:=dvd_gapB q6 h2 (by omega)
              exact Rises.noneB (by omega)
        refine br_dec (fun hm=>?_) (fun hm=>?_)
        · refine ⟨rfl,⟨⟨q3,by omega,by omega,by omega,by omega⟩,hsm',by omega,Rises.subB ra (Int.le_refl _) (by omega),Rises.subB rb (Int.le_refl _) (by omega)⟩,fun ys hys=>?_⟩
          exact fin ys (by rw [hys.1,q7]) (fun c=>by rw [hys.2.2.2,q8]) (fun i i0 i1=>hys.out i0 (by omega)) hys.rises
        · exact fin ds q7 q8 (fun _ _ _=>rfl) (Rises.subB ra (Int.le_refl _) (by omega))
    · refine ⟨f4.symm,hk cs (.mk2 f4 (fun p hp ho=>?_) ?_ f5)⟩
      · have e1:atI cs p=none:=by simp only [atI];rw [List.getElem?_eq_none];omega
        have e2:atI l p=none:=by simp only [atI];rw [List.getElem?_eq_none];omega
        rw [e1,e2]
      · have:=f6 0 (Int.le_refl _) ⟨0,by simp⟩
        exact Rises.subB this (Int.le_refl _) (by omega)
theorem vStabFB {l:List Job} {k:List Job × Unit→Unit→Prop} (h:oStabFB 0 (l,(),()) k):V.vStabFB l k:=by
  unfold V.vStabFB V.LN
  obtain ⟨hp,hk⟩:=h
  exact ⟨rfl,⟨hp,rfl⟩,fun ys hys=>⟨hys.1.symm,hk ys hys⟩⟩
end Go.Ax.O
namespace Go.Ax.Law
variable {α:Type}
theorem sorted_unique {key:α→Int}: ∀{xs ys:List α},xs.Pairwise (fun a b=>key a≤key b)→ys.Pairwise (fun a b=>key a≤key b)→(∀c,xs.filter (keyIs key c)=ys.filter (keyIs key c))→xs=ys
 | [],[],_,_,_=>rfl
 | [],y::ys,_,_,h=>by
  have:=h (key y)
  simp [keyIs] at this
 |x::xs,[],_,_,h=>by
  have:=h (key x)
  simp [keyIs] at this
 |x::xs,y::ys,hx,hy,h=>by
  have hx1:=List.pairwise_cons.1 hx
  have hy1:=List.pairwise_cons.1 hy
  have mem: ∀{u v:List α} {z:α},(∀c,u.filter (keyIs key c)=v.filter (keyIs key c))→z∈u→z∈v:=fun {u v z} h hz=>by
   have:z∈u.filter (keyIs key (key z)):=List.mem_filter.2 ⟨hz,by simp [keyIs]⟩
   rw [h] at this
   exact (List.mem_filter.1 this).1
  have h1:key x≤key y:=by
   rcases List.mem_cons.1 (mem (fun c=>(h c).symm) (List.mem_cons_self (a:=y) (l:=ys))) with e |e
   ·rw [e];exact Int.le_refl _
   ·exact hx1.1 y e
  have h2:key y≤key x:=by
   rcases List.mem_cons.1 (mem h (List.mem_cons_self (a:=x) (l:=xs))) with e |e
   ·rw [e];exact Int.le_refl _
   ·exact hy1.1 x e
  have he:key x=key y:=by omega
  have hc:=h (key x)
  have kx:keyIs key (key x) x=true:=by simp [keyIs]
  have ky:keyIs key (key x) y=true:=by simp [keyIs,he]
  rw [List.filter_cons_of_pos kx,List.filter_cons_of_pos ky] at hc
  have hxy:x=y:=(List.cons.inj hc).1
  subst hxy
  congr 1
  refine sorted_unique hx1.2 hy1.2 fun c=>?_
  have:=h c
  by_cases hk:keyIs key c x=true
  ·rw [List.filter_cons_of_pos hk,List.filter_cons_of_pos hk] at this
   exact (List.cons.inj this).2
  ·rw [List.filter_cons_of_neg hk,List.filter_cons_of_neg hk] at this
   exact this
theorem le_total' (a b:Job):(decide (keyJ a≤keyJ b)||decide (keyJ b≤keyJ a))=true:=by
 rw [Bool.or_eq_true,decide_eq_true_eq,decide_eq_true_eq];omega
theorem le_trans' (a b c:Job) (h1:decide (keyJ a≤keyJ b)=true) (h2:decide (keyJ b≤keyJ c)=true):decide (keyJ a≤keyJ c)=true:=by
 simp at*;omega
theorem sortJ_sorted (l:List Job):(sortJ l).Pairwise (fun a b=>keyJ a≤keyJ b):=by
 have:=List.pairwise_mergeSort (le:=fun a b:Job=>decide (keyJ a≤keyJ b)) le_trans' le_total' l
 exact this.imp fun h=>by simpa using h
theorem sortJ_filter (l:List Job) (c:Int):(sortJ l).filter (keyIs keyJ c)=l.filter (keyIs keyJ c):=by
 have hp:(l.filter (keyIs keyJ c)).Pairwise (fun a b=>decide (keyJ a≤keyJ b)=true):=by
  rw [List.pairwise_iff_getElem]
  intro i j hi hj _
  have h1:=(List.mem_filter.1 (List.getElem_mem hi)).2
  have h2:=(List.mem_filter.1 (List.getElem_mem hj)).2
  simp [keyIs] at h1 h2 ⊢
  omega
 have hs:=List.sublist_mergeSort (le:=fun a b:Job=>decide (keyJ a≤keyJ b)) le_trans' le_total' hp (List.filter_sublist (p:=keyIs keyJ c) (l:=l))
 have hs2:=hs.filter (keyIs keyJ c)
 have hf:(l.filter (keyIs keyJ c)).filter (keyIs keyJ c)=l.filter (keyIs keyJ c):=by
  rw [List.filter_filter];simp
 rw [hf] at hs2
 have hl:((sortJ l).filter (keyIs keyJ c)).length=(l.filter (keyIs keyJ c)).length:=((List.mergeSort_perm l _).filter _).length_eq
 exact (hs2.eq_of_length hl.symm).symm
theorem seg_sortJ {l ys:List Job} (h:SortedSeg keyJ l ys 0 l.length):ys=sortJ l:=by
 obtain ⟨h1,h2,h3,h4⟩:=h
 refine sorted_unique (key:=keyJ) ?_ (sortJ_sorted l) fun c=>by rw [h4,sortJ_filter]
 rw [List.pairwise_iff_getElem]
 intro i j hi hj hij
 exact h3 i j _ _ (by omega) hij (by omega) (List.getElem?_eq_getElem hi) (List.getElem?_eq_getElem hj)
end Go.Ax.Law
namespace Go.Ax.O
open Go.Ax.Sp Go.Ax.Law
theorem vSortB {l:List Job} {k:List Job × Unit→Unit→Prop} (h:oSortB 0 (l,(),()) k):V.vStabFB l k:=by
 obtain ⟨hs,hk⟩:=h
 simp only [] at hs hk
 refine vStabFB ⟨⟨hs.1,by have:=hs.2;simp only [];omega⟩,fun ys hy=>?_⟩
 rw [seg_sortJ hy]
 exact hk
end Go.Ax.O
