import Derived.Test.YtbmabiedmdlinaaGreatDoorAxV9
import Derived.Test.YtbmabiedmdlinaaGreatDoorAxP19
set_option linter.all false
namespace Go.Ax.V
open Go.Ax.Sp Go.Ax.Law List Int IntKind
set_option maxRecDepth 100000
def vOpAlone (n:Int) (l:List Deed) (r:Req) (k:Unit→Bool × Unit→Prop):Prop:=
SH (((((((((k () (false,())∧True)∧True)∧True)∧True)∧True)∧True)∧True)∧True)∧True) fun s0=>SH (((((s0∧True)∧True)∧True)∧True)∧True) fun s1=>SH ((((k () (false,())∧True)∧True)∧True)∧True) fun s2=>(n<1∨64<n→k () (true,()))∧(1≤n∧n≤64→CW (madeS n l)∧CW (madeS n l)∧CT (Req × Core × Core × LockSet × OpD × Work × Int × Int) (fun J=>LP (Req × Core × Core × LockSet × OpD × Work × Int × Int) (fun x=>(0=0∧0=0∧0=0∧0=0∧0=0∧0=0∧0=x.2.2.2.2.2.2.1∧0=x.2.2.2.2.2.2.2∧True)∧(r.Kind=x.1.Kind∧r.Id=x.1.Id∧r.User=x.1.User∧r.Width=x.1.Width∧r.Limit=x.1.Limit∧r.Prio=x.1.Prio∧r.Held=x.1.Held∧r.Node=x.1.Node∧r.By=x.1.By∧True)∧Sched.mk (madeS n l)=Sched.mk x.2.1∧Sched.mk (madeS n l)=Sched.mk x.2.2.1∧LockSet.mk 0 0 0 0=x.2.2.2.1∧newO r 3=x.2.2.2.2.1∧newW r=x.2.2.2.2.2.1∧True) fun I m x=>SH x.2.2.2.2 fun s3=>SH (EN J fun y=>(0=0∧0=0∧0=0∧0=0∧0=0∧0=0∧s3.2.2.1=y.2.2.2.2.2.2.1∧s3.2.2.2=y.2.2.2.2.2.2.2∧True)∧(x.1.Kind=y.1.Kind∧x.1.Id=y.1.Id∧x.1.User=y.1.User∧x.1.Width=y.1.Width∧x.1.Limit=y.1.Limit∧x.1.Prio=y.1.Prio∧x.1.Held=y.1.Held∧x.1.Node=y.1.Node∧x.1.By=y.1.By∧True)∧Sched.mk x.2.1=Sched.mk y.2.1∧Sched.mk x.2.2.1=Sched.mk y.2.2.1∧x.2.2.2.1=y.2.2.2.1∧s3.1=y.2.2.2.2.1∧s3.2.1=y.2.2.2.2.2.1∧True) fun s4=>br (decide (s3.2.2.2<2000)) (br (!doneW (some s3.2.1)) ((CW x.2.2.1∧WW s3.2.1∧length x.2.2.1.P.steps≤4294967280)∧NM (s3.2.2.1+1) fun n=>NM (s3.2.2.2+1) fun n_1=>NX I m x fun y=>(0=0∧0=0∧0=0∧0=0∧0=0∧0=0∧n=y.2.2.2.2.2.2.1∧n_1=y.2.2.2.2.2.2.2∧True)∧(x.1.Kind=y.1.Kind∧x.1.Id=y.1.Id∧x.1.User=y.1.User∧x.1.Width=y.1.Width∧x.1.Limit=y.1.Limit∧x.1.Prio=y.1.Prio∧x.1.Held=y.1.Held∧x.1.Node=y.1.Node∧x.1.By=y.1.By∧True)∧Sched.mk x.2.1=Sched.mk y.2.1∧Sched.mk (stepW s3.2.1 x.2.2.1).2=Sched.mk y.2.2.1∧x.2.2.2.1=y.2.2.2.1∧s3.1=y.2.2.2.2.1∧(stepW s3.2.1 x.2.2.1).1=y.2.2.2.2.2.1∧True) s4) s4) fun x=>SH (needsR x.1.Kind) fun s3=>CT (Req × Core × Core × LockSet × OpD × Work × Int × Lane × Int × Int × Int) (fun J=>LP (Req × Core × Core × LockSet × OpD × Work × Int × Lane × Int × Int × Int) (fun x_1=>SH x_1.2.2.2.2.2 fun s4=>(0=0∧0=0∧0=0∧0=0∧0=0∧0=0∧x.2.2.2.2.2.2.1=s4.2.1∧0=0∧0=s4.2.2.2.1∧0=s4.2.2.2.2.1∧0=s4.2.2.2.2.2∧True)∧(x.1.Kind=x_1.1.Kind∧x.1.Id=x_1.1.Id∧x.1.User=x_1.1.User∧x.1.Width=x_1.1.Width∧x.1.Limit=x_1.1.Limit∧x.1.Prio=x_1.1.Prio∧x.1.Held=x_1.1.Held∧x.1.Node=x_1.1.Node∧x.1.By=x_1.1.By∧True)∧Sched.mk x.2.1=Sched.mk x_1.2.1∧Sched.mk x.2.2.1=Sched.mk x_1.2.2.1∧x.2.2.2.1=x_1.2.2.2.1∧x.2.2.2.2.1=x_1.2.2.2.2.1∧x.2.2.2.2.2.1=s4.1∧(s3.a0=s4.2.2.1.a0∧s3.a1=s4.2.2.1.a1∧s3.a2=s4.2.2.1.a2∧True)∧True) fun I m x=>SH x.2.2.2.2 fun s4=>SH s4.2.2.2 fun s5=>SH (stepH s4.1.H x.2.1 x.2.2.2.1) fun s6=>SH (EN J fun y=>SH y.2.2.2.2.2 fun s8=>(0=0∧0=0∧0=0∧0=0∧0=0∧0=0∧s4.2.2.1=s8.2.1∧0=0∧s5.2.1=s8.2.2.2.1∧s5.2.2.1=s8.2.2.2.2.1∧s5.2.2.2=s8.2.2.2.2.2∧True)∧(x.1.Kind=y.1.Kind∧x.1.Id=y.1.Id∧x.1.User=y.1.User∧x.1.Width=y.1.Width∧x.1.Limit=y.1.Limit∧x.1.Prio=y.1.Prio∧x.1.Held=y.1.Held∧x.1.Node=y.1.Node∧x.1.By=y.1.By∧True)∧Sched.mk x.2.1=Sched.mk y.2.1∧Sched.mk x.2.2.1=Sched.mk y.2.2.1∧x.2.2.2.1=y.2.2.2.1∧s4.1=y.2.2.2.2.1∧s4.2.1=s8.1∧(s5.1.a0=s8.2.2.1.a0∧s5.1.a1=s8.2.2.1.a1∧s5.1.a2=s8.2.2.1.a2∧True)∧True) fun s7=>br (decide (s5.2.2.2<3000)) (br (!decide (s4.1.H.stage=5)) (br (waitsH s4.1.H x.2.2.2.1) (k () (false,())) ((PreH s4.1.H x.2.1∧br s6.1 (NM (s5.2.2.1+1) fun n=>NM (s5.2.1+1) fun n_1=>NM (s5.2.2.2+1) fun n_2=>NX I m x fun y=>SH y.2.2.2.2.2 fun s8=>(0=0∧0=0∧0=0∧0=0∧0=0∧0=0∧s4.2.2.1=s8.2.1∧0=0∧n_1=s8.2.2.2.1∧n=s8.2.2.2.2.1∧n_2=s8.2.2.2.2.2∧True)∧(x.1.Kind=y.1.Kind∧x.1.Id=y.1.Id∧x.1.User=y.1.User∧x.1.Width=y.1.Width∧x.1.Limit=y.1.Limit∧x.1.Prio=y.1.Prio∧x.1.Held=y.1.Held∧x.1.Node=y.1.Node∧x.1.By=y.1.By∧True)∧Sched.mk s6.2.2.1=Sched.mk y.2.1∧Sched.mk x.2.2.1=Sched.mk y.2.2.1∧s6.2.2.2=y.2.2.2.1∧OpD.mk s6.2.1 s4.1.req=y.2.2.2.2.1∧s4.2.1=s8.1∧(s5.1.a0=s8.2.2.1.a0∧s5.1.a1=s8.2.2.1.a1∧s5.1.a2=s8.2.2.1.a2∧True)∧True) (NM (s5.2.1+1) fun n=>NM (s5.2.2.2+1) fun n_1=>NX I m x fun y=>SH y.2.2.2.2.2 fun s8=>(0=0∧0=0∧0=0∧0=0∧0=0∧0=0∧s4.2.2.1=s8.2.1∧0=0∧n=s8.2.2.2.1∧s5.2.2.1=s8.2.2.2.2.1∧n_1=s8.2.2.2.2.2∧True)∧(x.1.Kind=y.1.Kind∧x.1.Id=y.1.Id∧x.1.User=y.1.User∧x.1.Width=y.1.Width∧x.1.Limit=y.1.Limit∧x.1.Prio=y.1.Prio∧x.1.Held=y.1.Held∧x.1.Node=y.1.Node∧x.1.By=y.1.By∧True)∧Sched.mk s6.2.2.1=Sched.mk y.2.1∧Sched.mk x.2.2.1=Sched.mk y.2.2.1∧s6.2.2.2=y.2.2.2.1∧OpD.mk s6.2.1 s4.1.req=y.2.2.2.2.1∧s4.2.1=s8.1∧(s5.1.a0=s8.2.2.1.a0∧s5.1.a1=s8.2.2.1.a1∧s5.1.a2=s8.2.2.1.a2∧True)∧True))∧True)) s7) s7) fun x=>SH x.2.2.2.2 fun s4=>SH s4.1.H.W.reply fun s5=>SH s4.2.1.reply fun s6=>SH (cleanR x.1) fun s7=>SH x.2.2.1 fun s8=>SH x.2.1.P.steps fun s9=>SH x.2.1.J.jobs fun s10=>SH s4.1.req fun s11=>SH (2*lenL s4.2.2.2.1) fun s12=>SH (length s8.P.steps) fun s13=>SH (length s8.J.jobs) fun s14=>br (decide (s4.1.H.stage=5)) (br (doneW (some s4.2.1)) (br (s4.2.2.2.2.2.1==1) ((NM (s12+2+s4.2.2.1) fun n=>NM (n-1) fun n_1=>br (s4.2.2.2.2.1==n_1) (((NM s12 fun n=>NM (n+2) fun n_2=>br (s12+2==n_2) (br (idleL x.2.2.2.1) ((br (s5.Err==s6.Err&&(s5.Id==s6.Id&&(s5.State==s6.State&&(s5.Start==s6.Start&&(s5.End==s6.End&&(s5.Plan==s6.Plan&&(s5.A==s6.A&&(s5.B==s6.B&&(s5.C==s6.C&&true))))))))) ((br (s11.Kind==s7.Kind&&(s11.Id==s7.Id&&(s11.User==s7.User&&(s11.Width==s7.Width&&(s11.Limit==s7.Limit&&(s11.Prio==s7.Prio&&(s11.Held==s7.Held&&(s11.Node==s7.Node&&(s11.By==s7.By&&true))))))))) ((JW x.2.1.J∧(JW s8.J∧(0+s14≤s14∧0+length s10≤length s10∧length (take (length s10) (drop 0 s10))≤1099511627776∧br (sameJ (take (length s10) (drop 0 s10)) (take s14 (drop 0 s8.J.jobs))) ((PW x.2.1.P∧(PW s8.P∧(0+s13≤s13∧0+length s9≤length s9∧length (take (length s9) (drop 0 s9))≤1099511627776∧br (sameS (take (length s9) (drop 0 s9)) (take s13 (drop 0 s8.P.steps))) (k () (true,())) (k () (false,()))∧True)∧True)∧True)∧True) s2)∧True)∧True)∧True) (((s2∧True)∧True)∧True)∧True)∧True) s0∧True)∧True) ((s0∧True)∧True)∧True) (((s0∧True)∧True)∧True))∧True)∧True) s1)∧True) (s1∧True)) (s1∧True)∧True) ((s1∧True)∧True)∧True)
end Go.Ax.V
namespace Go.Ax.Law
theorem Ends.done2 {w:Work} {c:Core} {k:Nat} {w':Work} {c':Core} (h:Ends w c k w' c'):w'.done=true∧1≤k:=by
  induction h with
  |one hd=>exact ⟨hd,by omega⟩
  |more hd he ih=>exact ⟨ih.1,by omega⟩
end Go.Ax.Law
namespace Go.Ax.O
open Go.Ax.Sp Go.Ax.Law
theorem free3 (l:Lane) (q:Int):FreeF lock0 l 3 q:=by unfold FreeF lock0;simp
theorem vOpAlone {n:Int} {l:List Deed} {r:Req} {k:Unit→Bool × Unit→Prop} (h:oOpD (n,l,r,()) k):V.vOpAlone n l r k:=by
  have h:k () (true,()):=h
  unfold V.vOpAlone V.CT V.EN V.LP V.NX V.NM V.SH
  refine ⟨fun _=>h,fun hn=>?_⟩
  have hs:=(show OkS (madeS n l) from ⟨_,_,madeS_stb hn.1 hn.2 l⟩)
  generalize madeS n l=c0 at hs ⊢
  generalize hell:needsR r.Kind=ell
  obtain ⟨J,hJ,ok⟩:=ph_ok (s0:=lock0) (l:=ell) (who:=3) hs r
  generalize (wholeW (newW r) c0).2.1=w1 at ok
  generalize (wholeW (newW r) c0).2.2=c1 at ok
  have hl3:=lenL_le' ell
  have hen:=ok.en
  have hdn:=hen.done2
  have hkp:=hen.keeps ok.cw ok.ww (by have:=ok.ln;omega)
  have hln:=ok.ln
  have h0d:(newW r).done=false:=rfl
  refine ⟨hs.cw,hs.cw,fun x=>x.1=r∧x.2.1=c0∧x.2.2.1=c1∧x.2.2.2.1=lock0∧x.2.2.2.2.1=newO r 3∧x.2.2.2.2.2.1=w1∧x.2.2.2.2.2.2.1=J,?_,?_⟩
  refine ⟨fun x=>x.1=r∧x.2.1=c0∧x.2.2.2.1=lock0∧x.2.2.2.2.1=newO r 3∧0≤x.2.2.2.2.2.2.1∧x.2.2.2.2.2.2.1=x.2.2.2.2.2.2.2∧x.2.2.2.2.2.2.1≤J∧
      ((∃j:Nat,Law.Ends x.2.2.2.2.2.1 x.2.2.1 j w1 c1∧x.2.2.2.2.2.1.done=false∧CW x.2.2.1∧WW x.2.2.2.2.2.1∧x.2.2.1.P.steps.length+4*j≤4294960000∧x.2.2.2.2.2.2.1+j=J)∨(x.2.2.2.2.2.1=w1∧x.2.2.1=c1∧x.2.2.2.2.2.2.1=J)),fun x=>(2000-x.2.2.2.2.2.2.2).toNat,
    (r,c0,c0,lock0,newO r 3,newW r,0,0),⟨rfl,rfl,rfl,rfl,by simp,rfl,by simp only [];omega,.inl ⟨J,hen,h0d,ok.cw,ok.ww,hln,by simp⟩⟩,by simp [lock0],?_⟩
  rintro ⟨r',cs,cu,s,o,w,parts,i⟩ ⟨e0,e1,e2,e3,g1,g2,g3,hc⟩
  simp only [] at e0 e1 e2 e3 g1 g2 g3 hc
  subst e0 e1 e2 e3 g2
  refine br_dec (fun hi=>br_not (fun hd=>?_) (fun hd=>?_)) (fun hi=>absurd hi (by simp only [];omega))
  · have hd:w.done=false:=by simpa [doneW] using hd
    rcases hc with ⟨j,q1,q2,q3,q4,q5,q6⟩ |⟨q1,q2,q3⟩
    · have q1k:=q1.done2.2
      refine ⟨⟨q3,q4,by simp only [];omega⟩,fun p hp p2 hp2=>?_⟩
      rw [w64 (by simp only [];omega)] at hp hp2
      replace hp:p=parts+1:=hp
      replace hp2:p2=parts+1:=hp2
      obtain ⟨k1,k2,k3⟩:=stepW_ok q3 q4 (by omega)
      refine ⟨(r',cs,(stepW w cu).2,lock0,newO r' 3,(stepW w cu).1,parts+1,parts+1),⟨rfl,rfl,rfl,rfl,by simp only [];omega,rfl,by simp only [];omega,?_⟩,by simp [hp,hp2],by simp only [];omega⟩
      cases q1 with
      |one hd=>exact .inr ⟨rfl,rfl,by simp only [];omega⟩
      | @more _ _ j _ _ hd he=>exact .inl ⟨j,he,hd,k1,k2,by simp only [];omega,by simp only [];omega⟩
    · subst q1;rw [hdn.1] at hd;cases hd
  · have hd:w.done=true:=by simpa [doneW] using hd
    have hc2:w=w1∧cu=c1∧parts=J:=by
      rcases hc with ⟨j,q1,q2,_⟩ |hc
      · rw [hd] at q2;cases q2
      · exact hc
    obtain ⟨q1,q2,q3⟩:=hc2
    exact ⟨(r',cs,cu,lock0,newO r' 3,w,parts,parts),⟨rfl,rfl,q2,rfl,rfl,q1,q3⟩,by simp⟩
  · rintro ⟨r',cs,cu,s,o,w,parts,i⟩ ⟨e0,e1,e2,e3,e4,e5,e6⟩
    simp only [] at e0 e1 e2 e3 e4 e5 e6
    subst e0 e1 e2 e3 e4 e5 e6
    have hd:=hdn.1
    simp only [hell]
    refine ⟨fun x=>x.1=r'∧x.2.1=cu∧x.2.2.1=cu∧idleL x.2.2.2.1=true∧x.2.2.2.2.1.H.W=w∧x.2.2.2.2.1.H.stage=5∧x.2.2.2.2.1.req=cleanR r'∧x.2.2.2.2.2.1=w∧x.2.2.2.2.2.2.1=J∧x.2.2.2.2.2.2.2.1=ell∧x.2.2.2.2.2.2.2.2.1=2*lenL ell+J+1∧x.2.2.2.2.2.2.2.2.2.1=1,?_,?_⟩
    refine ⟨fun x=>x.1=r'∧x.2.2.1=cu∧x.2.2.2.2.2.1=w∧x.2.2.2.2.2.2.1=J∧x.2.2.2.2.2.2.2.1=ell∧x.2.2.2.2.2.2.2.2.1=x.2.2.2.2.2.2.2.2.2.2∧0≤x.2.2.2.2.2.2.2.2.2.2∧x.2.2.2.2.1.req=cleanR r'∧(∃rem,Ph lock0 ell 3 (newW r') cs J w cu rem x.2.2.2.2.1.H x.2.1 x.2.2.2.1∧x.2.2.2.2.2.2.2.2.2.2+rem=2*lenL ell+J+1)∧x.2.2.2.2.2.2.2.2.2.1=(if x.2.2.2.2.1.H.stage≤1 then 0 else 1),fun x=>(3000-x.2.2.2.2.2.2.2.2.2.2).toNat,
      (r',cs,cu,lock0,newO r' 3,w,(J:Int),ell,0,0,0),⟨rfl,rfl,rfl,rfl,rfl,rfl,by simp,rfl,⟨2*lenL ell+J+1,by simp only [newO,hell];exact ph_start (newW r') cs J w cu,by simp⟩,?_⟩,by simp,?_⟩
    · simp only [newO,hell,newH];split<;>simp
    rintro ⟨r2,c,cu2,s,⟨H,rq⟩,w2,J2,ln,steps,turns,i⟩ ⟨e0,e1,e2,e3,e4,e5,g4,e6,⟨rem,hp,hr⟩,e7⟩
    simp only [] at e0 e1 e2 e3 e4 e5 g4 e6 hp hr e7
    subst e0 e1 e2 e3 e4 e5 e6
    have hlf:=hp.left
    refine br_dec (fun hi=>br_nde (fun h5=>?_) (fun h5=>?_)) (fun hi=>absurd hi (by simp only [];omega))
    · have h5: ¬ H.stage=5:=h5
      obtain ⟨t1,t2,t3⟩:=Ph.step ok (free3 _ _) hp h5
      obtain ⟨u1,u2⟩:=step_turn H c s hlf.2.2.1 (by omega)
      have hw:=hp.waits (free3 _ _)
      have nx: ∀a b tn,a=steps+1→b=steps+1→tn=(if (stepH H c s).2.1.stage≤1 then 0 else 1)→ ∃y:Req × Core × Core × LockSet × OpD × Work × Int × Lane × Int × Int × Int,
          (y.1=r2∧y.2.2.1=cu2∧y.2.2.2.2.2.1=w2∧y.2.2.2.2.2.2.1=J∧y.2.2.2.2.2.2.2.1=ln∧y.2.2.2.2.2.2.2.2.1=y.2.2.2.2.2.2.2.2.2.2∧0≤y.2.2.2.2.2.2.2.2.2.2∧y.2.2.2.2.1.req=cleanR r2∧(∃rem,Ph lock0 ln 3 (newW r2) cs J w2 cu2 rem y.2.2.2.2.1.H y.2.1 y.2.2.2.1∧y.2.2.2.2.2.2.2.2.2.2+rem=2*lenL ln+J+1)∧y.2.2.2.2.2.2.2.2.2.1=(if y.2.2.2.2.1.H.stage≤1 then 0 else 1))∧
          y=(r2,(stepH H c s).2.2.1,cu2,(stepH H c s).2.2.2,⟨(stepH H c s).2.1,cleanR r2⟩,w2,(J:Int),ln,a,tn,b)∧(3000-y.2.2.2.2.2.2.2.2.2.2).toNat<(3000-steps).toNat:=fun a b tn h1 h2 h3=>by
        have hi:steps<3000:=hi
        subst h1 h2
        exact ⟨_,⟨rfl,rfl,rfl,rfl,rfl,rfl,by simp only [];omega,rfl,⟨rem-1,t2,by simp only [];omega⟩,h3⟩,rfl,by simp only [];omega⟩
      refine br_bool (fun hh=>absurd (hw.symm.trans hh) (by simp)) (fun _=>⟨⟨t1,br_bool (fun ht p hp1 p2 hp2 p3 hp3=>?_) (fun ht p2 hp2 p3 hp3=>?_)⟩,trivial⟩)
      · have ht:H.stage=1:=by rw [t3] at ht;simpa using ht
        rw [ht,if_pos (by omega)] at e7
        have hi:steps<3000:=hi
        have hr0:=hlf.1
        rw [w64 (by simp only [];omega)] at hp1 hp2 hp3
        replace hp1:p=turns+1:=hp1
        replace hp2:p2=steps+1:=hp2
        replace hp3:p3=steps+1:=hp3
        have hu:=u2 (by omega)
        obtain ⟨y,hy,hye,hm⟩:=nx p2 p3 p hp2 hp3 (by rw [if_neg (by omega)];omega)
        exact ⟨y,hy,by rw [hye];simp,hm⟩
      · have ht: ¬ H.stage=1:=by rw [t3] at ht;simpa using ht
        have hi:steps<3000:=hi
        rw [w64 (by simp only [];omega)] at hp2 hp3
        replace hp2:p2=steps+1:=hp2
        replace hp3:p3=steps+1:=hp3
        obtain ⟨y,hy,hye,hm⟩:=nx p2 p3 turns hp2 hp3 (by
          rw [e7]
          by_cases h0:H.stage=0
          · have:=u1 h0
            rw [if_pos (by omega),if_pos this]
          · have:=u2 (by omega)
            rw [if_neg (by omega),if_neg (by omega)])
        exact ⟨y,hy,by rw [hye];simp,hm⟩
    · have h5:H.stage=5:=h5
      obtain ⟨lw,lc,l0,l1,l2⟩:=hp.last h5
      have hrem:=hlf.2.1.2 h5
      rw [h5,if_neg (by omega)] at e7
      have hidle:idleL s=true:=by unfold idleL;rw [l0,l1,l2];rfl
      exact ⟨(r2,c,cu2,s,⟨H,cleanR r2⟩,w2,(J:Int),ln,steps,turns,steps),⟨rfl,lc,rfl,hidle,lw,h5,rfl,rfl,rfl,rfl,by simp only [];omega,e7⟩,by simp⟩
    · rintro ⟨r2,c,cu2,s,⟨H,rq⟩,w2,J2,ln,steps,turns,i⟩ ⟨e0,e1,e2,hidle,lw,h5,e6,e3,e4,e5,e8,e7⟩
      simp only [] at e0 e1 e2 hidle lw h5 e6 e3 e4 e5 e8 e7
      subst e0 e1 e2 e3 e4 e5 e6
      have hss: ∀(l:List Job),sameJ (List.take l.length (List.drop 0 l)) (List.take l.length (List.drop 0 l))=true:=fun l=>sameJ_iff.2 rfl
      have hst: ∀(l:List Step),sameS (List.take l.length (List.drop 0 l)) (List.take l.length (List.drop 0 l))=true:=fun l=>sameS_iff.2 rfl
      have hjl:=hkp.1.1.2.1
      have hul:=hkp.2.2
      refine ⟨br_dec (fun _=>⟨br_bool (fun _=>br_eq (fun _=>⟨fun p hp1 p2 hp2=>br_eq (fun _=>⟨⟨fun p3 hp3 p4 hp4=>br_eq (fun _=>⟨br_bool (fun _=>?_) (fun hh=>absurd (hidle.symm.trans hh) (by simp)),trivial⟩) (fun hh=>?_),trivial⟩,trivial⟩) (fun hh=>?_),trivial⟩) (fun hh=>absurd e7 hh)) (fun hh=>?_),trivial⟩) (fun hh=>absurd h5 hh),trivial⟩
      · refine ⟨⟨br_bool (fun _=>⟨⟨br_bool (fun _=>⟨⟨hkp.1.1,⟨hkp.1.1,⟨by simp,by simp,by rw [List.length_take];simp only [];omega,br_bool (fun _=>⟨⟨hkp.1.2.2,⟨hkp.1.2.2,⟨by simp,by simp,by rw [List.length_take];simp only [];omega,br_bool (fun _=>h) (fun hh=>absurd ((hst _).symm.trans hh) (by simp)),trivial⟩,trivial⟩,trivial⟩,trivial⟩) (fun hh=>absurd ((hss _).symm.trans hh) (by simp))⟩,trivial⟩,trivial⟩,trivial⟩) (fun hh=>?_),trivial⟩,trivial⟩) (fun hh=>?_),trivial⟩,trivial⟩
        · simp at hh
        · rw [lw] at hh;simp at hh
      · rw [w64 (by simp only [];omega)] at hp3
        subst hp3
        rw [w64 (by simp only [];omega)] at hp4
        exact absurd hp4.symm hh
      · rw [w64 (by simp only [];omega)] at hp1
        subst hp1
        rw [w64 (by simp only [];omega)] at hp2
        subst hp2
        simp only [] at hh;omega
      · exact absurd (hd.symm.trans hh) (by simp)
end Go.Ax.O
