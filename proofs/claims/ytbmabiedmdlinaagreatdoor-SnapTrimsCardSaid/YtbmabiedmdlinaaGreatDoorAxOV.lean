import Derived.Test.YtbmabiedmdlinaaGreatDoorAxG
import Derived.Lib.Overlaps
set_option linter.all false
namespace Go.Ax
def ovSpec (k:EK):SpecT:=fun args H K=>match args with
 | [.sl l1 e1 b1 n1,.sl l2 e2 b2 n2]=>match H[l1]?,H[l2]? with
  |some (some (.row k1 xs)),some (some (.row k2 ys))=>br (!Nat.beq l1 l2&&Nat.beq e1 k.esz&&Nat.beq k1.num k.num) ((0<n1∧0<n2∧b1+n1≤xs.length)∧K (.bool false) H []) False
  |_,_=>False
 |_=>False
variable [Surr]
theorem ov_spec {P:Program} {f:FuncId} {fn:Func} {tS tR e:TypeId} {k:EK} (hf:P.funcs[f]? =some fn) (hname:(fn.name== "runtime.NumGoroutine")=false) (hb:fn.body.isNone=true) (hn:Extern.findNext fn=none)
  (he:Extern.find fn=some (Extern.SlicesOverlaps.overlaps #[tS,tS] #[tR])) (ht:P.underlying tS=some (.slice e)) (hz:(P.info? e).isSome=true) (hk8:k.num≠1):ExtOK P f (ovSpec k):=by
 intro args H K hk G w ρ Fs vs hH hr
 unfold ovSpec at hk
 split at hk
 ·rename_i l1 e1 b1 n1 l2 e2 b2 n2
  split at hk
  ·rename_i k1 xs k2 ys h1 h2
   obtain ⟨hc,⟨hn1,hn2,hlen⟩,hK⟩:=br_elim hk
   simp only [Bool.and_eq_true,Bool.not_eq_true'] at hc
   have hne:l1≠l2:=fun h=>by subst h;simp at hc
   have hes:=Nat.eq_of_beq_eq_true hc.1.2
   have hkk:=EK.num_inj (Nat.eq_of_beq_eq_true hc.2)
   subst hkk hes
   simp only [RVs] at hr
   obtain ⟨u1,ws,rfl,hr1,u2,ws2,rfl,hr2,rfl⟩:=hr
   simp only [RV] at hr1 hr2
   obtain ⟨t1,ht1,g1,hr1⟩:=hr1
   obtain ⟨t2,ht2,g2,hr2⟩:=hr2
   rcases hr1 with ⟨x1,hx1,rfl⟩ |⟨h,_⟩
   ·rcases hr2 with ⟨x2,hx2,rfl⟩ |⟨h,_⟩
    ·obtain ⟨r1,hrr1,hs1⟩:=hH.sat _ _ h1
     obtain ⟨r2,hrr2,hs2⟩:=hH.sat _ _ h2
     rw [ht1] at hrr1;cases hrr1
     rw [ht2] at hrr2;cases hrr2
     have hne2:x1≠x2:=by
      intro h
      subst h
      refine hne (hH.apart l1 _ l2 _ x1 h1 h2 ?_ ?_)
      ·generalize Fs l1=F at hs1
       cases hs1 with
       |row hb _ _ _ _ _=>rw [hx1] at hb;cases hb;simp
       |rownil hb _=>rw [hx1] at hb;cases hb
      ·generalize Fs l2=F at hs2
       cases hs2 with
       |row hb _ _ _ _ _=>rw [hx2] at hb;cases hb;simp
       |rownil hb _=>rw [hx2] at hb;cases hb
     generalize Fs l1=F1 at hs1
     generalize Fs l2=F2 at hs2
     cases hs1 with
     |rownil hb _=>rw [hx1] at hb;cases hb
     | @row _ _ sp1 _ x1' c1 ty1 fz1 hb1 hw1 htot1 hcs1 hx1' hz1=>
      rw [hx1] at hb1;cases hb1
      cases hs2 with
      |rownil hb _=>rw [hx2] at hb;cases hb
      | @row _ _ sp2 _ x2' c2 ty2 fz2 hb2 hw2 htot2 hcs2 hx2' hz2=>
       rw [hx2] at hb2;cases hb2
       have hsz: ∃i,P.info? e=some i:=Option.isSome_iff_exists.1 hz
       obtain ⟨i,hi⟩:=hsz
       obtain rfl:fz1=(0,0):=hz1.resolve_right fun h=>hk8 h.1
       have hk2:c2.size≠0:=by
        have:=Nat.mul_pos (show 0<t2.tot by omega) k2.esz_pos
        omega
       have hrun:=Lib.run_overlaps_apart (P:=P) w tS tR e ht i.size (fun w=>by simp [sizeOf,typeInfo,hi]) ⟨x1,t1.off+b1*k1.esz,none⟩ ⟨x2,t2.off+b2*e2,none⟩ n1 (t1.tot-b1) n2 (t2.tot-b2) hne2 ty1 ty2 c1.size c2.size
        (by simp [World.shape?,hw1]) (by simp [World.shape?,hw2]) hk2 (by simp [World.frozen?,hw1]) (by simp [World.frozen?,hw1])
       refine ⟨.bool false,.bool false,H,[],[],Fs,w,?_,hK,by simp only [RV],by simpa using hH,fun l o hl _=>⟨hl,rfl,fun _ _=>rfl⟩⟩
       rw [run_callFunc_extern hf hname hb hn he]
       show ((Extern.SlicesOverlaps.overlaps #[tS,tS] #[tR] #[_,_]).run P w).andThen _=_
       rw [hrun]
       rfl
    ·omega
   ·omega
  ·exact hk.elim
 ·exact hk.elim
end Go.Ax
