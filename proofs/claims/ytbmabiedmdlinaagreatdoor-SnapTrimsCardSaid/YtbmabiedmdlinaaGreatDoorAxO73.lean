import Derived.Test.YtbmabiedmdlinaaGreatDoorAxV9
import Derived.Test.YtbmabiedmdlinaaGreatDoorAxV22
import Derived.Test.YtbmabiedmdlinaaGreatDoorAxO72
set_option linter.all false
namespace Go.Ax.V
open Go.Ax.Sp Go.Ax.Law List Int IntKind
set_option maxRecDepth 100000
def vSnapT (n:Int) (l:List Deed) (k:Unit→Bool × Unit→Prop):Prop:=
SH (k () (true,())) fun s0=>SH (k () (false,())) fun s1=>LP (Int × List Deed × List SDeed × List SDeed × Int) (fun x=>(n=x.1∧take 60 l=x.2.1∧(0=0∧0=length x.2.2.1)∧(0=0∧0=length x.2.2.2.1)∧0=x.2.2.2.2∧True)∧[]=x.2.2.1∧[]=x.2.2.2.1∧True) fun I m x=>SH (length x.2.2.1) fun s2=>SH x.2.2.2 fun s3=>SH (take s2 (drop 0 x.2.2.1)) fun s4=>SH (length s3.1) fun s5=>SH (s3.2+1) fun s6=>br (decide (s3.2<LN x.2.1)) (AI x.2.1 s3.2 fun e=>SH (s4++[SDeed.mk e.R e.X e.Commit]) fun s7=>SH (take s5 (drop 0 s3.1)++[cleanS (SDeed.mk e.R e.X e.Commit)]) fun s8=>SH (NM s6 fun n=>NX I m x fun y=>(x.1=y.1∧x.2.1=y.2.1∧(0=0∧s2+1=length y.2.2.1)∧(0=0∧s5=length y.2.2.2.1)∧n=y.2.2.2.2∧True)∧s7=y.2.2.1∧s3.1=y.2.2.2.1∧True) fun s9=>SH (1≤1∧0+s5≤s5∧s5+1≤68719476736∧NM s6 fun n=>NX I m x fun y=>(x.1=y.1∧x.2.1=y.2.1∧(0=0∧s2+1=length y.2.2.1)∧(0=0∧s5+1=length y.2.2.2.1)∧n=y.2.2.2.2∧True)∧s7=y.2.2.1∧s8=y.2.2.2.1∧True) fun s10=>1≤1∧0+s2≤s2∧s2+1≤68719476736∧br e.Commit s10 (br (!e.R.Kind==6) (br (!e.R.Kind==10) (br (!e.R.Kind==11) (br (!e.R.Kind==12) s10 s9) s9) s9) s9)) (0+s2≤s2∧length s4≤1000000∧br (!LN (trimS s4)==LN s3.1) s1 (LP (Int × List SDeed × List SDeed × List SDeed × Int) (fun x_1=>(x.1=x_1.1∧(0=0∧s2=length x_1.2.1)∧(0=0∧s5=length x_1.2.2.1)∧(0=0∧length (trimS s4)=length x_1.2.2.2.1)∧0=x_1.2.2.2.2∧True)∧x.2.2.1=x_1.2.1∧s3.1=x_1.2.2.1∧trimS s4=x_1.2.2.2.1∧True) fun I m x=>SH x.2.2.2 fun s7=>SH (decide (x.1>64)) fun s8=>SH (decide (x.1<1)) fun s9=>SH (1≤x.1∧x.1≤64) fun s10=>SH (x.1<1∨64<x.1) fun s11=>SH (br s9 s0 (br s8 s0 s1)) fun s12=>br (decide (s7.2<LN s7.1)) (AT s7.1 s7.2 fun e=>AT x.2.2.1 s7.2 fun e_1=>br (!(e.Req.Kind==e_1.Req.Kind&&(e.Req.Id==e_1.Req.Id&&(e.Req.User==e_1.Req.User&&(e.Req.Width==e_1.Req.Width&&(e.Req.Limit==e_1.Req.Limit&&(e.Req.Prio==e_1.Req.Prio&&(e.Req.Held==e_1.Req.Held&&(e.Req.Node==e_1.Req.Node&&(e.Req.By==e_1.Req.By&&true))))))))&&(e.Choice.Id==e_1.Choice.Id&&(e.Choice.At==e_1.Choice.At&&true)&&(e.Commit==e_1.Commit&&true)))) s1 (NM (s7.2+1) fun n=>NX I m x fun y=>(x.1=y.1∧(0=0∧length x.2.1=length y.2.1)∧(0=0∧length x.2.2.1=length y.2.2.1)∧(0=0∧length s7.1=length y.2.2.2.1)∧n=y.2.2.2.2∧True)∧x.2.1=y.2.1∧x.2.2.1=y.2.2.1∧s7.1=y.2.2.2.1∧True)) ((s11→(s11→s12)∧(s10→s12))∧(s10→(s11→s12)∧(s10→LP (List SDeed × List SDeed × Diary × Diary × Int) (fun x_1=>((0=0∧length x.2.1=length x_1.1)∧(0=0∧length s7.1=length x_1.2.1)∧0=0∧0=0∧0=x_1.2.2.2.2∧True)∧x.2.1=x_1.1∧s7.1=x_1.2.1∧newD x.1=x_1.2.2.1∧newD x.1=x_1.2.2.2.1∧True) fun I m x=>br (decide (x.2.2.2.2<LN x.1)) (AT x.1 x.2.2.2.2 fun e=>OkD x.2.2.1∧NM (x.2.2.2.2+1) fun n=>NX I m x fun y=>((0=0∧length x.1=length y.1)∧(0=0∧length x.2.1=length y.2.1)∧0=0∧0=0∧n=y.2.2.2.2∧True)∧x.1=y.1∧x.2.1=y.2.1∧(actD x.2.2.1 e).1=y.2.2.1∧x.2.2.2.1=y.2.2.2.1∧True) (LP (List SDeed × Diary × Diary × Int) (fun x_1=>((0=0∧length x.2.1=length x_1.1)∧0=0∧0=0∧0=x_1.2.2.2∧True)∧x.2.1=x_1.1∧x.2.2.1=x_1.2.1∧x.2.2.2.1=x_1.2.2.1∧True) fun I m x=>br (decide (x.2.2.2<LN x.1)) (AT x.1 x.2.2.2 fun e=>OkD x.2.2.1∧NM (x.2.2.2+1) fun n=>NX I m x fun y=>((0=0∧length x.1=length y.1)∧0=0∧0=0∧n=y.2.2.2∧True)∧x.1=y.1∧x.2.1=y.2.1∧(actD x.2.2.1 e).1=y.2.2.1∧True) (oc x.2.1.S False fun dS=>oc x.2.2.1.S False fun dS_1=>((CW dS.C∧CW dS_1.C)∧br (sameC dS.C dS_1.C) s0 s1∧True)∧True)))))))
end Go.Ax.V
namespace Go.Ax.Law
open Go.Ax.O
theorem same_refl (c:Core):sameC c c=true:=by
 unfold sameC
 rw [sameJ_iff.2 rfl,sameS_iff.2 rfl]
 simp
theorem trim_len (l:List SDeed):(trimS l).length≤l.length:=by
 unfold trimS
 rw [List.length_map]
 exact List.length_filter_le _ _
theorem act_take {d:Diary} {l:List SDeed} {i:Int} {e:SDeed} (h0:0≤i) (he:l[i.toNat]? =some e):actL d (l.take (i+1).toNat)=(actD (actL d (l.take i.toNat)) e).1:=by
 unfold actL
 rw [show (i+1).toNat=i.toNat+1 by omega,List.take_add_one,he,List.foldl_append];rfl
end Go.Ax.Law
namespace Go.Ax.O
open Go.Ax.Sp Go.Ax.Law
theorem vSnapT {n:Int} {l:List Deed} {k:Unit→Bool × Unit→Prop} (h:oSnapT (n,l,()) k):V.vSnapT n l k:=by
 have h:k () (true,()):=h
 unfold V.vSnapT
 simp only [V.LP,V.NX,V.NM,V.SH,V.AT,V.AI,V.LN,tkl70,Nat.zero_add,Nat.le_refl,true_and,and_true]
 have hL:(l.take 60).length≤60:=by rw [List.length_take];omega
 generalize l.take 60=L at hL ⊢
 refine ⟨fun x=>x.1=n∧x.2.1=L∧0≤x.2.2.2.2∧x.2.2.2.2≤L.length∧x.2.2.1=(L.take x.2.2.2.2.toNat).map ofDeed∧x.2.2.2.1=trimS ((L.take x.2.2.2.2.toNat).map ofDeed),fun x=>(L.length-x.2.2.2.2).toNat,(n,L,[],[],0),⟨rfl,rfl,Int.le_refl _,by simp only [];omega,rfl,rfl⟩,by simp,?_⟩
 rintro ⟨n',L',al,wa,i⟩ ⟨e0,e1,p1,p2,e2,e3⟩
 simp only [] at e0 e1 p1 p2 e2 e3
 subst e0 e1
 have hal:al.length=i.toNat:=by rw [e2,List.length_map,List.length_take];omega
 have hwa:wa.length≤al.length:=by rw [e3,e2];exact trim_len _
 refine br_dec (fun hi=>⟨⟨p1,hi⟩,fun e he=>?_⟩) (fun hi=>?_)
 ·have hi:i<(L'.length:Int):=hi
  have he:L'[i.toNat]? =some e:=he
  have hal1:(L'.take (i+1).toNat).map ofDeed=al++[ofDeed e]:=by
   rw [show (i+1).toNat=i.toNat+1 by omega,List.take_add_one,he,List.map_append,e2];rfl
  have htr:trimS (al++[ofDeed e])=wa++(if keepS (ofDeed e)=true then [cleanS (ofDeed e)] else []):=by
   rw [e3,←e2]
   unfold trimS
   rw [List.filter_append,List.map_append]
   by_cases hk:keepS (ofDeed e)=true
   ·simp [hk]
   ·simp [hk]
  have yes:keepS (ofDeed e)=true→wa.length+1≤68719476736∧ ∀q,q=IntKind.i64.wrap (i+1)→ ∃y:Int × List Deed × List SDeed × List SDeed × Int,(y.1=n'∧y.2.1=L'∧0≤y.2.2.2.2∧y.2.2.2.2≤L'.length∧y.2.2.1=(L'.take y.2.2.2.2.toNat).map ofDeed∧y.2.2.2.1=trimS ((L'.take y.2.2.2.2.toNat).map ofDeed))∧((n'=y.1∧L'=y.2.1∧al.length+1=y.2.2.1.length∧wa.length+1=y.2.2.2.1.length∧q=y.2.2.2.2)∧al++[ofDeed e]=y.2.2.1∧wa++[cleanS (ofDeed e)]=y.2.2.2.1)∧(L'.length-y.2.2.2.2).toNat<(L'.length-i).toNat:=fun hk=>⟨by omega,fun q hq=>by
   rw [w64 (by omega)] at hq
   subst hq
   rw [if_pos hk] at htr
   exact ⟨(n',L',al++[ofDeed e],wa++[cleanS (ofDeed e)],i+1),⟨rfl,rfl,by simp only [];omega,by simp only [];omega,hal1.symm,by simp only [];rw [hal1,htr]⟩,by simp,by simp only [];omega⟩⟩
  have no:keepS (ofDeed e)=false→ ∀q,q=IntKind.i64.wrap (i+1)→ ∃y:Int × List Deed × List SDeed × List SDeed × Int,(y.1=n'∧y.2.1=L'∧0≤y.2.2.2.2∧y.2.2.2.2≤L'.length∧y.2.2.1=(L'.take y.2.2.2.2.toNat).map ofDeed∧y.2.2.2.1=trimS ((L'.take y.2.2.2.2.toNat).map ofDeed))∧((n'=y.1∧L'=y.2.1∧al.length+1=y.2.2.1.length∧wa.length=y.2.2.2.1.length∧q=y.2.2.2.2)∧al++[ofDeed e]=y.2.2.1∧wa=y.2.2.2.1)∧(L'.length-y.2.2.2.2).toNat<(L'.length-i).toNat:=fun hk q hq=>by
   rw [w64 (by omega)] at hq
   subst hq
   rw [if_neg (by simp [hk]),List.append_nil] at htr
   exact ⟨(n',L',al++[ofDeed e],wa,i+1),⟨rfl,rfl,by simp only [];omega,by simp only [];omega,hal1.symm,by simp only [];rw [hal1,htr]⟩,by simp,by simp only [];omega⟩
  refine ⟨by simp only [];omega,br_bool (fun hc=>yes (by unfold keepS ofDeed;rw [hc];rfl)) (fun hc=>br_ne (fun h6=>br_ne (fun h10=>br_ne (fun h11=>br_ne (fun h12=>yes ?_) (fun h12=>no ?_)) (fun h11=>no ?_)) (fun h10=>no ?_)) (fun h6=>no ?_))⟩
  all_goals (unfold keepS ofDeed;rw [hc];simp_all)
 ·have hi: ¬ i<(L'.length:Int):=hi
  rw [List.take_of_length_le (by omega)] at e2 e3
  rw [←e2] at e3
  subst e3
  have hal2:al.length≤60:=by omega
  refine ⟨by simp only [];omega,br_ne (fun hh=>absurd rfl hh) (fun _=>?_)⟩
  refine ⟨fun x=>x.1=n'∧x.2.1=al∧x.2.2.1=trimS al∧x.2.2.2.1=trimS al∧0≤x.2.2.2.2∧x.2.2.2.2≤(trimS al).length,fun x=>((trimS al).length-x.2.2.2.2).toNat,(n',al,trimS al,trimS al,0),⟨rfl,rfl,rfl,rfl,Int.le_refl _,by simp only [];omega⟩,by simp,?_⟩
  rintro ⟨n2,a2,w2,g2,i2⟩ ⟨q0,q1,q2,q3,r1,r2⟩
  simp only [] at q0 q1 q2 q3 r1 r2
  subst q0 q1 q2 q3
  refine br_dec (fun hi2=>?_) (fun _=>?_)
  ·have hi2:i2<((trimS a2).length:Int):=hi2
   refine ⟨⟨r1,hi2⟩,by simp only [];omega,fun e he=>⟨⟨r1,hi2⟩,by simp only [];omega,fun e' he'=>?_⟩⟩
   have he:(trimS a2)[i2.toNat]? =some e:=he
   have he':(trimS a2)[i2.toNat]? =some e':=he'
   rw [he] at he';cases he'
   refine br_not (fun hq=>?_) (fun _ q hq=>?_)
   ·simp at hq
   ·rw [w64 (by simp only [];omega)] at hq
    replace hq:q=i2+1:=hq
    subst hq
    exact ⟨(n2,a2,trimS a2,trimS a2,i2+1),⟨rfl,rfl,rfl,rfl,by simp only [];omega,by simp only [];omega⟩,by simp,by simp only [];omega⟩
  ·have out:n2<1∨64<n2→br (decide (n2<1)) (k () (true,())) (br (decide (n2>64)) (k () (true,())) (k () (false,()))):=fun g=>br_dec (fun _=>h) fun g1=>br_dec (fun _=>h) fun g2=>absurd g (by omega)
   refine ⟨fun g=>⟨out,fun _=>out g⟩,fun g=>⟨out,fun _=>?_⟩⟩
   have hn:OkS (newCore n2):=by
    obtain ⟨m,rfl⟩:=Int.eq_ofNat_of_zero_le (show 0≤n2 by have:=g.1;omega)
    exact ⟨_,_,new_stb (n:=m) (by have:=g.1;omega) (by have:=g.2;omega)⟩
   have hfold: ∀(z:List SDeed),z.length≤60→(actL (newD n2) z).S=some ⟨z.foldl actC (newCore n2)⟩∧OkS (z.foldl actC (newCore n2)):=fun z hz=>by
    obtain ⟨f1,f2,_⟩:=act_fold z (d:=newD n2) (s:=⟨newCore n2⟩) rfl hn (by show 0+z.length≤4096;omega)
    exact ⟨f1,f2⟩
   have hok: ∀(z:List SDeed),z.length≤60→OkD (actL (newD n2) z):=fun z hz s hs=>by
    obtain ⟨f1,f2⟩:=hfold z hz
    rw [f1] at hs;cases hs;exact f2
   have htl:=trim_len a2
   refine ⟨fun x=>x.1=a2∧x.2.1=trimS a2∧x.2.2.2.1=newD n2∧0≤x.2.2.2.2∧x.2.2.2.2≤a2.length∧x.2.2.1=actL (newD n2) (a2.take x.2.2.2.2.toNat),fun x=>(a2.length-x.2.2.2.2).toNat,(a2,trimS a2,newD n2,newD n2,0),⟨rfl,rfl,rfl,Int.le_refl _,by simp only [];omega,rfl⟩,by simp,?_⟩
   rintro ⟨a3,w3,d3,b3,i3⟩ ⟨s0,s1,s2,u1,u2,s3⟩
   simp only [] at s0 s1 s2 u1 u2 s3
   subst s0 s1 s2 s3
   refine br_dec (fun hi3=>?_) (fun hi3=>?_)
   ·have hi3:i3<(a3.length:Int):=hi3
    refine ⟨⟨u1,hi3⟩,by simp only [];omega,fun e he=>⟨hok _ (by rw [List.length_take];omega),fun q hq=>?_⟩⟩
    rw [w64 (by simp only [];omega)] at hq
    replace hq:q=i3+1:=hq
    subst hq
    exact ⟨(a3,trimS a3,_,newD n2,i3+1),⟨rfl,rfl,rfl,by simp only [];omega,by simp only [];omega,rfl⟩,⟨⟨rfl,rfl,rfl⟩,rfl,rfl,(act_take u1 he).symm,rfl⟩,by simp only [];omega⟩
   ·have hi3: ¬ i3<(a3.length:Int):=hi3
    rw [List.take_of_length_le (l:=a3) (by omega)]
    refine ⟨fun x=>x.1=trimS a3∧x.2.1=actL (newD n2) a3∧0≤x.2.2.2∧x.2.2.2≤(trimS a3).length∧x.2.2.1=actL (newD n2) ((trimS a3).take x.2.2.2.toNat),fun x=>((trimS a3).length-x.2.2.2).toNat,(trimS a3,actL (newD n2) a3,newD n2,0),⟨rfl,rfl,Int.le_refl _,by simp only [];omega,rfl⟩,by simp,?_⟩
    rintro ⟨w4,d4,b4,i4⟩ ⟨s0,s1,v1,v2,s2⟩
    simp only [] at s0 s1 v1 v2 s2
    subst s0 s1 s2
    refine br_dec (fun hi4=>?_) (fun hi4=>?_)
    ·have hi4:i4<((trimS a3).length:Int):=hi4
     refine ⟨⟨v1,hi4⟩,by simp only [];omega,fun e he=>⟨hok _ (by rw [List.length_take];omega),fun q hq=>?_⟩⟩
     rw [w64 (by simp only [];omega)] at hq
     replace hq:q=i4+1:=hq
     subst hq
     exact ⟨(trimS a3,actL (newD n2) a3,_,i4+1),⟨rfl,rfl,by simp only [];omega,by simp only [];omega,rfl⟩,⟨⟨rfl,rfl⟩,rfl,rfl,(act_take v1 he).symm⟩,by simp only [];omega⟩
    ·have hi4: ¬ i4<((trimS a3).length:Int):=hi4
     rw [List.take_of_length_le (l:=trimS a3) (by omega)]
     obtain ⟨f1,f2⟩:=hfold a3 hal2
     obtain ⟨f3,f4⟩:=hfold (trimS a3) (by omega)
     rw [trim_same] at f3 f4
     refine oc_s (fun e=>?_) (fun s e=>oc_s (fun e'=>?_) (fun s' e'=>?_))
     ·rw [f1] at e;cases e
     ·rw [f3] at e';cases e'
     ·rw [f1] at e;cases e
      rw [f3] at e';cases e'
      refine ⟨⟨f2.cw,f2.cw⟩,br_bool (fun _=>h) (fun hh=>?_)⟩
      rw [same_refl] at hh;cases hh
end Go.Ax.O
