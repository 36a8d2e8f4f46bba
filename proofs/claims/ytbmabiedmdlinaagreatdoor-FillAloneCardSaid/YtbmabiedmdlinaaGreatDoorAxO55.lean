import Derived.Test.YtbmabiedmdlinaaGreatDoorAxV9
import Derived.Test.YtbmabiedmdlinaaGreatDoorAxO53
set_option linter.all false
namespace Go.Ax.V
open Go.Ax.Sp Go.Ax.Law List Int IntKind
set_option maxRecDepth 100000
def vFillA (n:Int) (l:List Deed) (a:Int) (b:Int) (k:Unit→Bool × Unit→Prop):Prop:=
SH (k () (false,())) fun s0=>SH (k () (true,())) fun s1=>((2:Int)<1∨a<1∨64<a∨b<1∨64<b→br (decide (a<1)) s1 (br (decide (a>64)) s1 (br (decide (b<1)) s1 (br (decide (b>64)) s1 ((n<1∨64<n→s1)∧(1≤n∧n≤64→CW (madeS n l)∧CT (Int × Fill × Core × Core × LockSet × List Choice × Int × Int) (fun J=>LP (Int × Fill × Core × Core × LockSet × List Choice × Int × Int) (fun x=>False) fun I m x=>SH (stepF x.2.1 x.2.2.1 x.2.2.2.2.1) fun s2=>SH x.2.2.2.2.2 fun s3=>SH (length s3.1) fun s4=>SH (take s4 (drop (0:Nat) s3.1)++[s2.1.1]) fun s5=>SH (!(s2.1.1.Id==0&&(s2.1.1.At==0&&true))) fun s6=>SH (Sched.mk x.2.2.2.1) fun s7=>SH (Sched.mk s2.2.2.1) fun s8=>SH (s3.2.2+1) fun s9=>SH s2.2.2.2 fun s10=>SH (!s2.1.2.1) fun s11=>SH (EN J fun y=>SH y.2.2.2.2 fun s13=>(x.1=y.1∧(0:Nat)=0∧(0:Int)=0∧(0:Nat)=0∧(0:Nat)=0∧(0:Nat)=0∧((0:Nat)=0∧s4=length s13.2.1)∧s3.2.1=s13.2.2.1∧s3.2.2=s13.2.2.2∧True)∧x.2.1=y.2.1∧Sched.mk x.2.2.1=Sched.mk y.2.2.1∧s7=Sched.mk y.2.2.2.1∧x.2.2.2.2.1=s13.1∧s3.1=s13.2.1∧True) fun s12=>SH (NM s9 fun n=>NX I m x fun y=>SH y.2.2.2.2 fun s14=>(x.1=y.1∧(0:Nat)=0∧(0:Int)=0∧(0:Nat)=0∧(0:Nat)=0∧(0:Nat)=0∧((0:Nat)=0∧s4+1=length s14.2.1)∧s3.2.1=s14.2.2.1∧n=s14.2.2.2∧True)∧s2.2.1=y.2.1∧s8=Sched.mk y.2.2.1∧s7=Sched.mk y.2.2.2.1∧s10=s14.1∧s5=s14.2.1∧True) fun s13=>SH (NM s9 fun n=>NX I m x fun y=>SH y.2.2.2.2 fun s15=>(x.1=y.1∧(0:Nat)=0∧(0:Int)=0∧(0:Nat)=0∧(0:Nat)=0∧(0:Nat)=0∧((0:Nat)=0∧s4=length s15.2.1)∧s3.2.1=s15.2.2.1∧n=s15.2.2.2∧True)∧s2.2.1=y.2.1∧s8=Sched.mk y.2.2.1∧s7=Sched.mk y.2.2.2.1∧s10=s15.1∧s3.1=s15.2.1∧True) fun s14=>br (decide (s3.2.2<3000)) (br (!stageF (some x.2.1)==8) (br (waitsF x.2.1 x.2.2.2.2.1) s0 (PreF x.2.1 x.2.2.1∧br s2.1.2.1 ((1:Nat)≤1∧0+s4≤s4∧s4+1≤68719476736∧br s2.1.2.2 (NM (s3.2.1+1) fun n=>SH (NM s9 fun n_1=>NX I m x fun y=>SH y.2.2.2.2 fun s16=>(x.1=y.1∧(0:Nat)=0∧(0:Int)=0∧(0:Nat)=0∧(0:Nat)=0∧(0:Nat)=0∧((0:Nat)=0∧s4+1=length s16.2.1)∧n=s16.2.2.1∧n_1=s16.2.2.2∧True)∧s2.2.1=y.2.1∧s8=Sched.mk y.2.2.1∧s7=Sched.mk y.2.2.2.1∧s10=s16.1∧s5=s16.2.1∧True) fun s15=>br s11 (br s6 s0 (br s2.1.2.2 s0 s15)) s15) (br s11 (br s6 s0 (br s2.1.2.2 s0 s13)) s13)) (br s2.1.2.2 (NM (s3.2.1+1) fun n=>SH (NM s9 fun n_1=>NX I m x fun y=>SH y.2.2.2.2 fun s16=>(x.1=y.1∧(0:Nat)=0∧(0:Int)=0∧(0:Nat)=0∧(0:Nat)=0∧(0:Nat)=0∧((0:Nat)=0∧s4=length s16.2.1)∧n=s16.2.2.1∧n_1=s16.2.2.2∧True)∧s2.2.1=y.2.1∧s8=Sched.mk y.2.2.1∧s7=Sched.mk y.2.2.2.1∧s10=s16.1∧s3.1=s16.2.1∧True) fun s15=>br s11 (br s6 s0 (br s2.1.2.2 s0 s15)) s15) (br s11 (br s6 s0 (br s2.1.2.2 s0 s14)) s14)))) s12) s12) fun x=>SH (passS x.2.2.2.1 x.1) fun s2=>SH x.2.2.2.2 fun s3=>OkS x.2.2.2.1∧br (!stageF (some x.2.1)==8) s0 (br (!s2.1.2.2.2==0) s0 (br (!LN s2.1.1==LN s3.2.1) s0 (br (!s2.1.2.1==s3.2.2.1) s0 (br (!x.2.1.taken==s3.2.2.1) s0 (br x.2.1.stale s0 (br (!idleL s3.1) s0 (LP (Core × Core × List Choice × List Choice × Int × List Int × Int) (fun x_1=>((0:Nat)=0∧(0:Nat)=0∧((0:Nat)=0∧length s3.2.1=length x_1.2.2.1)∧(0:Nat)=0∧0=x_1.2.2.2.2.2.2∧True)∧Sched.mk x.2.2.1=Sched.mk x_1.1∧Sched.mk s2.2=Sched.mk x_1.2.1∧s3.2.1=x_1.2.2.1∧s2.1.1=x_1.2.2.2.1∧s2.1.2.2.1=x_1.2.2.2.2.2.1∧(((0:Nat)=0∧length s2.1.1=length x_1.2.2.2.1)∧s2.1.2.1=x_1.2.2.2.2.1∧((0:Nat)=0∧length s2.1.2.2.1=length x_1.2.2.2.2.2.1)∧True)∧True) fun I m x=>SH x.2.2.2 fun s4=>SH x.1.P.steps fun s5=>SH x.1.J.jobs fun s6=>SH x.2.1.P.steps fun s7=>SH (length x.2.1.J.jobs) fun s8=>br (decide (s4.2.2.2<LN x.2.2.1)) (AT x.2.2.1 s4.2.2.2 fun e=>AT s4.1 s4.2.2.2 fun e_1=>br (!(e.Id==e_1.Id&&(e.At==e_1.At&&true))) s0 (NM (s4.2.2.2+1) fun n=>NX I m x fun y=>((0:Nat)=0∧(0:Nat)=0∧((0:Nat)=0∧length x.2.2.1=length y.2.2.1)∧(0:Nat)=0∧n=y.2.2.2.2.2.2∧True)∧Sched.mk x.1=Sched.mk y.1∧Sched.mk x.2.1=Sched.mk y.2.1∧x.2.2.1=y.2.2.1∧s4.1=y.2.2.2.1∧s4.2.2.1=y.2.2.2.2.2.1∧(((0:Nat)=0∧length s4.1=length y.2.2.2.1)∧s4.2.1=y.2.2.2.2.1∧((0:Nat)=0∧length s4.2.2.1=length y.2.2.2.2.2.1)∧True)∧True)) ((JW x.1.J∧(JW x.2.1.J∧(0+s8≤s8∧0+length s6≤length s6∧length (take (length s6) (drop (0:Nat) s6))≤1099511627776∧br (sameJ (take (length s6) (drop (0:Nat) s6)) (take s8 (drop (0:Nat) x.2.1.J.jobs))) ((PW x.1.P∧(PW x.2.1.P∧(0+length s7≤length s7∧0+length s5≤length s5∧length (take (length s5) (drop (0:Nat) s5))≤1099511627776∧br (sameS (take (length s5) (drop (0:Nat) s5)) (take (length s7) (drop (0:Nat) s7))) s1 s0∧True)∧True)∧True)∧True) ((((s0∧True)∧True)∧True)∧True))∧True)∧True)∧True))))))))))))))∧((1:Int)≤2∧1≤a∧a≤64∧1≤b∧b≤64→br (decide (a<1)) s0 (br (decide (a>64)) s0 (br (decide (b<1)) s0 (br (decide (b>64)) s0 ((n<1∨64<n→s1)∧(1≤n∧n≤64→CW (madeS n l)∧CT (Int × Fill × Core × Core × LockSet × List Choice × Int × Int) (fun J=>LP (Int × Fill × Core × Core × LockSet × List Choice × Int × Int) (fun x=>SH x.2.2.2.2 fun s2=>(b=x.1∧(0:Nat)=0∧(0:Int)=0∧(0:Nat)=0∧(0:Nat)=0∧(0:Nat)=0∧((0:Nat)=0∧0=length s2.2.1)∧0=s2.2.2.1∧0=s2.2.2.2∧True)∧fill0 (2:Int) a b=x.2.1∧Sched.mk (madeS n l)=Sched.mk x.2.2.1∧Sched.mk (madeS n l)=Sched.mk x.2.2.2.1∧LockSet.mk (0:Int) (0:Int) (0:Int) 0=s2.1∧[]=s2.2.1∧True) fun I m x=>SH (stepF x.2.1 x.2.2.1 x.2.2.2.2.1) fun s2=>SH x.2.2.2.2.2 fun s3=>SH (length s3.1) fun s4=>SH (take s4 (drop (0:Nat) s3.1)++[s2.1.1]) fun s5=>SH (!(s2.1.1.Id==0&&(s2.1.1.At==0&&true))) fun s6=>SH (Sched.mk x.2.2.2.1) fun s7=>SH (Sched.mk s2.2.2.1) fun s8=>SH (s3.2.2+1) fun s9=>SH s2.2.2.2 fun s10=>SH (!s2.1.2.1) fun s11=>SH (EN J fun y=>SH y.2.2.2.2 fun s13=>(x.1=y.1∧(0:Nat)=0∧(0:Int)=0∧(0:Nat)=0∧(0:Nat)=0∧(0:Nat)=0∧((0:Nat)=0∧s4=length s13.2.1)∧s3.2.1=s13.2.2.1∧s3.2.2=s13.2.2.2∧True)∧x.2.1=y.2.1∧Sched.mk x.2.2.1=Sched.mk y.2.2.1∧s7=Sched.mk y.2.2.2.1∧x.2.2.2.2.1=s13.1∧s3.1=s13.2.1∧True) fun s12=>SH (NM s9 fun n=>NX I m x fun y=>SH y.2.2.2.2 fun s14=>(x.1=y.1∧(0:Nat)=0∧(0:Int)=0∧(0:Nat)=0∧(0:Nat)=0∧(0:Nat)=0∧((0:Nat)=0∧s4+1=length s14.2.1)∧s3.2.1=s14.2.2.1∧n=s14.2.2.2∧True)∧s2.2.1=y.2.1∧s8=Sched.mk y.2.2.1∧s7=Sched.mk y.2.2.2.1∧s10=s14.1∧s5=s14.2.1∧True) fun s13=>SH (NM s9 fun n=>NX I m x fun y=>SH y.2.2.2.2 fun s15=>(x.1=y.1∧(0:Nat)=0∧(0:Int)=0∧(0:Nat)=0∧(0:Nat)=0∧(0:Nat)=0∧((0:Nat)=0∧s4=length s15.2.1)∧s3.2.1=s15.2.2.1∧n=s15.2.2.2∧True)∧s2.2.1=y.2.1∧s8=Sched.mk y.2.2.1∧s7=Sched.mk y.2.2.2.1∧s10=s15.1∧s3.1=s15.2.1∧True) fun s14=>br (decide (s3.2.2<3000)) (br (!stageF (some x.2.1)==8) (br (waitsF x.2.1 x.2.2.2.2.1) s0 (PreF x.2.1 x.2.2.1∧br s2.1.2.1 ((1:Nat)≤1∧0+s4≤s4∧s4+1≤68719476736∧br s2.1.2.2 (NM (s3.2.1+1) fun n=>SH (NM s9 fun n_1=>NX I m x fun y=>SH y.2.2.2.2 fun s16=>(x.1=y.1∧(0:Nat)=0∧(0:Int)=0∧(0:Nat)=0∧(0:Nat)=0∧(0:Nat)=0∧((0:Nat)=0∧s4+1=length s16.2.1)∧n=s16.2.2.1∧n_1=s16.2.2.2∧True)∧s2.2.1=y.2.1∧s8=Sched.mk y.2.2.1∧s7=Sched.mk y.2.2.2.1∧s10=s16.1∧s5=s16.2.1∧True) fun s15=>br s11 (br s6 s0 (br s2.1.2.2 s0 s15)) s15) (br s11 (br s6 s0 (br s2.1.2.2 s0 s13)) s13)) (br s2.1.2.2 (NM (s3.2.1+1) fun n=>SH (NM s9 fun n_1=>NX I m x fun y=>SH y.2.2.2.2 fun s16=>(x.1=y.1∧(0:Nat)=0∧(0:Int)=0∧(0:Nat)=0∧(0:Nat)=0∧(0:Nat)=0∧((0:Nat)=0∧s4=length s16.2.1)∧n=s16.2.2.1∧n_1=s16.2.2.2∧True)∧s2.2.1=y.2.1∧s8=Sched.mk y.2.2.1∧s7=Sched.mk y.2.2.2.1∧s10=s16.1∧s3.1=s16.2.1∧True) fun s15=>br s11 (br s6 s0 (br s2.1.2.2 s0 s15)) s15) (br s11 (br s6 s0 (br s2.1.2.2 s0 s14)) s14)))) s12) s12) fun x=>SH (passS x.2.2.2.1 x.1) fun s2=>SH x.2.2.2.2 fun s3=>OkS x.2.2.2.1∧br (!stageF (some x.2.1)==8) s0 (br (!s2.1.2.2.2==0) s0 (br (!LN s2.1.1==LN s3.2.1) s0 (br (!s2.1.2.1==s3.2.2.1) s0 (br (!x.2.1.taken==s3.2.2.1) s0 (br x.2.1.stale s0 (br (!idleL s3.1) s0 (LP (Core × Core × List Choice × List Choice × Int × List Int × Int) (fun x_1=>((0:Nat)=0∧(0:Nat)=0∧((0:Nat)=0∧length s3.2.1=length x_1.2.2.1)∧(0:Nat)=0∧0=x_1.2.2.2.2.2.2∧True)∧Sched.mk x.2.2.1=Sched.mk x_1.1∧Sched.mk s2.2=Sched.mk x_1.2.1∧s3.2.1=x_1.2.2.1∧s2.1.1=x_1.2.2.2.1∧s2.1.2.2.1=x_1.2.2.2.2.2.1∧(((0:Nat)=0∧length s2.1.1=length x_1.2.2.2.1)∧s2.1.2.1=x_1.2.2.2.2.1∧((0:Nat)=0∧length s2.1.2.2.1=length x_1.2.2.2.2.2.1)∧True)∧True) fun I m x=>SH x.2.2.2 fun s4=>SH x.1.P.steps fun s5=>SH x.1.J.jobs fun s6=>SH x.2.1.P.steps fun s7=>SH (length x.2.1.J.jobs) fun s8=>br (decide (s4.2.2.2<LN x.2.2.1)) (AT x.2.2.1 s4.2.2.2 fun e=>AT s4.1 s4.2.2.2 fun e_1=>br (!(e.Id==e_1.Id&&(e.At==e_1.At&&true))) s0 (NM (s4.2.2.2+1) fun n=>NX I m x fun y=>((0:Nat)=0∧(0:Nat)=0∧((0:Nat)=0∧length x.2.2.1=length y.2.2.1)∧(0:Nat)=0∧n=y.2.2.2.2.2.2∧True)∧Sched.mk x.1=Sched.mk y.1∧Sched.mk x.2.1=Sched.mk y.2.1∧x.2.2.1=y.2.2.1∧s4.1=y.2.2.2.1∧s4.2.2.1=y.2.2.2.2.2.1∧(((0:Nat)=0∧length s4.1=length y.2.2.2.1)∧s4.2.1=y.2.2.2.2.1∧((0:Nat)=0∧length s4.2.2.1=length y.2.2.2.2.2.1)∧True)∧True)) ((JW x.1.J∧(JW x.2.1.J∧(0+s8≤s8∧0+length s6≤length s6∧length (take (length s6) (drop (0:Nat) s6))≤1099511627776∧br (sameJ (take (length s6) (drop (0:Nat) s6)) (take s8 (drop (0:Nat) x.2.1.J.jobs))) ((PW x.1.P∧(PW x.2.1.P∧(0+length s7≤length s7∧0+length s5≤length s5∧length (take (length s5) (drop (0:Nat) s5))≤1099511627776∧br (sameS (take (length s5) (drop (0:Nat) s5)) (take (length s7) (drop (0:Nat) s7))) s1 s0∧True)∧True)∧True)∧True) ((((s0∧True)∧True)∧True)∧True))∧True)∧True)∧True))))))))))))))
end Go.Ax.V
namespace Go.Ax.O
open Go.Ax.Sp Go.Ax.Law
theorem vFillA {n:Int} {l:List Deed} {a b:Int} {k:Unit→Bool × Unit→Prop} (h:oFillA (n,l,a,b,()) k):V.vFillA n l a b k:=by
  have h:k () (true,()):=h
  unfold V.vFillA V.CT V.EN V.LP V.NX V.NM V.SH V.AT V.LN
  refine ⟨fun hh=>br_dec (fun _=>h) fun h1=>br_dec (fun _=>h) fun h2=>br_dec (fun _=>h) fun h3=>br_dec (fun _=>h) fun h4=>absurd hh (by omega),
    fun hh=>br_dec (fun g=>absurd g (by omega)) fun h1=>br_dec (fun g=>absurd g (by omega)) fun h2=>br_dec (fun g=>absurd g (by omega)) fun h3=>br_dec (fun g=>absurd g (by omega)) fun h4=>⟨fun _=>h,fun hn=>?_⟩⟩
  have ha:1≤a∧a≤64:=by omega
  have hb:1≤b∧b≤64:=by omega
  clear hh h1 h2 h3 h4
  obtain ⟨nn,m,hs⟩:=(show OkS (madeS n l) from ⟨_,_,madeS_stb hn.1 hn.2 l⟩)
  generalize madeS n l=c0 at hs ⊢
  have hpr:passS c0 b=((chosC c0 b,(passF c0 0 [] (chosC c0 b)).2.1,(passF c0 0 [] (chosC c0 b)).2.2,0),(passF c0 0 [] (chosC c0 b)).1):=by
    have e:=plan_right hs.rep.deep hb.1 hb.2
    have e2:(planF c0.P (((waitC c0).take b.toNat).map itemJ)).2=chosC c0 b:=by unfold chosC itemsC;rw [List.map_take]
    rw [e2] at e
    unfold passS
    rw [e]
    simp
  have hlen:=chos_len hs b
  simp only [tkl,Nat.zero_add,Nat.le_refl,true_and,and_true]
  refine ⟨hs.cw,fun x=>x.1=b∧(∃rem,PhB c0 a b rem x.2.1 x.2.2.1 x.2.2.2.2.1 x.2.2.2.2.2.1)∧x.2.1.stage=8∧x.2.2.2.1=c0∧x.2.2.2.2.2.2.1=x.2.1.taken,?_,?_⟩
  · refine ⟨fun x=>x.1=b∧0≤x.2.2.2.2.2.2.2∧(∃rem,PhB c0 a b rem x.2.1 x.2.2.1 x.2.2.2.2.1 x.2.2.2.2.2.1∧x.2.2.2.2.2.2.2+rem≤1000)∧x.2.2.2.1=c0∧x.2.2.2.2.2.2.1=x.2.1.taken∧x.2.2.2.2.2.1.length≤x.2.2.2.2.2.2.2,fun x=>(3000-x.2.2.2.2.2.2.2).toNat,
      (b,fill0 2 a b,c0,c0,lock0,[],0,0),⟨rfl,Int.le_refl _,⟨1000,phB_start c0 a b,by simp⟩,rfl,rfl,by simp⟩,by simp [lock0],?_⟩
    rintro ⟨b',f,cs,cu,s,tr,tk,i⟩ ⟨e0,hi,⟨rem,hp,hr⟩,e1,e2,htl⟩
    simp only [] at e0 hi hp hr e1 e2 htl
    subst e0 e1 e2
    have hrem:=hp.rem
    refine br_dec (fun h3=>br_ne (fun h8=>?_) (fun h8=>?_)) (fun h3=>absurd (show i<3000 by omega) h3)
    · have h8:f.stage≠8:=h8
      obtain ⟨g1,g2,⟨r,r0,r1,r2⟩,g4,g5,g6,g7⟩:=PhB.step hs hb ha hp h8
      have nx: ∀(q tkn:Int) (trn:List Choice),q=IntKind.i64.wrap (i+1)→trn=(if (stepF f cs s).1.2.1=true then tr++[(stepF f cs s).1.1] else tr)→tkn=f.taken+(if (stepF f cs s).1.2.2=true then 1 else 0)→
          ∃y:Int × Fill × Core × Core × LockSet × List Choice × Int × Int,(y.1=b'∧0≤y.2.2.2.2.2.2.2∧(∃rem,PhB cu a b' rem y.2.1 y.2.2.1 y.2.2.2.2.1 y.2.2.2.2.2.1∧y.2.2.2.2.2.2.2+rem≤1000)∧y.2.2.2.1=cu∧y.2.2.2.2.2.2.1=y.2.1.taken∧y.2.2.2.2.2.1.length≤y.2.2.2.2.2.2.2)∧
            y=(b',(stepF f cs s).2.1,(stepF f cs s).2.2.1,cu,(stepF f cs s).2.2.2,trn,tkn,i+1)∧q=i+1∧(3000-y.2.2.2.2.2.2.2).toNat<(3000-i).toNat:=fun q tkn trn hq ht hk=>by
        rw [w64 (by omega)] at hq
        subst ht hk
        refine ⟨_,⟨rfl,by simp only [];omega,⟨r,r2,by simp only [];omega⟩,rfl,g5.symm,?_⟩,rfl,hq,by simp only [];omega⟩
        simp only []
        split
        · rw [List.length_append];simp only [List.length_cons,List.length_nil];omega
        · omega
      have hw: ∀q,q=IntKind.i64.wrap (f.taken+1)→q=f.taken+1:=fun q hq=>by rw [w64 (by omega)] at hq;exact hq
      refine br_bool (fun hh=>by rw [g2] at hh;cases hh) (fun _=>⟨g1,br_bool (fun ht=>⟨by simp only [];omega,?_⟩) (fun ht=>?_)⟩)
      · refine br_bool (fun hok q hq=>?_) (fun hok=>?_)
        · refine br_bool (fun hh=>by rw [ht] at hh;cases hh) (fun _ q2 hq2=>?_)
          obtain ⟨y,hy,hye,hqe,hm⟩:=nx q2 q (tr++[(stepF f cs s).1.1]) hq2 (by rw [if_pos ht]) (by rw [if_pos hok];exact hw q hq)
          exact ⟨y,hy,by rw [hye];simp [hqe],hm⟩
        · refine br_bool (fun hh=>by rw [ht] at hh;cases hh) (fun _ q2 hq2=>?_)
          obtain ⟨y,hy,hye,hqe,hm⟩:=nx q2 f.taken (tr++[(stepF f cs s).1.1]) hq2 (by rw [if_pos ht]) (by rw [if_neg (by rw [hok];decide)];simp)
          exact ⟨y,hy,by rw [hye];simp [hqe],hm⟩
      · obtain ⟨q1,q2⟩:=g4 ht
        refine br_bool (fun hok=>by rw [q2] at hok;cases hok) (fun hok=>br_bool (fun _=>br_bool (fun hh=>?_) (fun _=>br_bool (fun hh=>by rw [q2] at hh;cases hh) (fun _ q3 hq3=>?_))) (fun hh=>by rw [ht] at hh;cases hh))
        · rw [q1] at hh;simp [ch0] at hh
        · obtain ⟨y,hy,hye,hqe,hm⟩:=nx q3 f.taken tr hq3 (by rw [if_neg (by rw [ht];decide)]) (by rw [if_neg (by rw [q2];decide)];simp)
          exact ⟨y,hy,by rw [hye];simp [hqe],hm⟩
    · exact ⟨(b',f,cs,cu,s,tr,f.taken,i),⟨rfl,⟨rem,hp⟩,h8,rfl,rfl⟩,by simp⟩
  · rintro ⟨b',f,cs,cu,s,tr,tk,i⟩ ⟨e0,⟨rem,hp⟩,h8,e1,e2⟩
    simp only [] at e0 hp h8 e1 e2
    subst e0 e1 e2
    obtain ⟨l1,l2,l3,l4,l5⟩:=hp.last h8
    simp only [hpr]
    refine ⟨⟨_,_,hs⟩,br_ne (fun hh=>absurd h8 hh) fun _=>br_ne (fun hh=>absurd rfl hh) fun _=>br_ne (fun hh=>absurd (by rw [l3]) hh) fun _=>br_ne (fun hh=>absurd l2.symm hh) fun _=>br_ne (fun hh=>absurd rfl hh) fun _=>br_bool (fun hh=>by rw [l5] at hh;cases hh) fun _=>br_bool (fun hh=>?_) fun _=>?_⟩
    · have:idleL s=true:=by unfold idleL;rw [l4.1,l4.2.1,l4.2.2];rfl
      rw [this] at hh;cases hh
    · subst l1 l3
      obtain ⟨m',hm'⟩:=passF_stb (chosC cu b') 0 [] hs
      have hcw:=hm'.cw
      have hln:=hm'.len
      refine ⟨fun x=>x.1=(passF cu 0 [] (chosC cu b')).1∧x.2.1=(passF cu 0 [] (chosC cu b')).1∧x.2.2.1=chosC cu b'∧x.2.2.2.1=chosC cu b'∧0≤x.2.2.2.2.2.2,fun x=>((chosC cu b').length-x.2.2.2.2.2.2).toNat,((passF cu 0 [] (chosC cu b')).1,(passF cu 0 [] (chosC cu b')).1,chosC cu b',chosC cu b',(passF cu 0 [] (chosC cu b')).2.1,(passF cu 0 [] (chosC cu b')).2.2,0),⟨rfl,rfl,rfl,rfl,Int.le_refl _⟩,by simp,?_⟩
      generalize (passF cu 0 [] (chosC cu b')).1=cz at hcw hln
      rintro ⟨c1,c2,l1,l2,t,sl,j⟩ ⟨e0,e1,e2,e3,hj⟩
      simp only [] at e0 e1 e2 e3 hj
      subst e0 e1 e2 e3
      refine br_dec (fun hjl=>?_) (fun hjl=>?_)
      · have hjl:j<((chosC cu b').length:Int):=hjl
        refine ⟨⟨hj,hjl⟩,by simp only [];omega,fun e he=>⟨⟨hj,hjl⟩,by simp only [];omega,fun e' he'=>?_⟩⟩
        rw [he] at he';cases he'
        refine br_bool (fun hh=>by simp at hh) (fun _ q hq=>?_)
        rw [w64 (by simp only [];omega)] at hq
        replace hq:q=j+1:=hq
        subst hq
        exact ⟨(c2,c2,chosC cu b',chosC cu b',t,sl,j+1),⟨rfl,rfl,rfl,rfl,by simp only [];omega⟩,by simp,by simp only [];omega⟩
      · refine ⟨hcw.1,hcw.1,by have:=hcw.1.2.1;simp only [];omega,br_bool (fun _=>⟨hcw.2.2,hcw.2.2,by simp only [];omega,br_bool (fun _=>h) (fun hh=>absurd ((sameS_iff.2 rfl).symm.trans hh) (by simp))⟩) (fun hh=>absurd ((sameJ_iff.2 rfl).symm.trans hh) (by simp))⟩
end Go.Ax.O
