import Derived.Test.YtbmabiedmdlinaaGreatDoorAxP6
import Derived.Shelf.Spec.TrailingZeros
import Derived.Lib.LaidTab
set_option linter.all false
namespace Go.Ax.Sp
open Go.Proofs
variable [Surr]
def tzTab:List Value:=Lib.deBruijn64tab.map fun (n:Nat)=>Value.int .u8 (n:Int)
theorem WOK.tabAt {G:Gam} {w:World} {g:Nat} (h:WOK G w) (hT:(g,tzTab)∈Surr.tabs):TabAt g Lib.deBruijn64tab w:=by
 intro j hj
 obtain ⟨h1,h2⟩:=G.tab _ _ hT
 have e:tzTab[j]? =some (.int .u8 ((Lib.deBruijn64tab.getD j 0:Nat):Int)):=by
  simp only [tzTab,List.getElem?_map,List.getElem?_eq_getElem hj,Option.map_some,List.getD_eq_getElem?_getD,Option.getD_some]
 have h3:=h2 j _ e
 simp only [World.cell?] at h3 ⊢
 rw [(h.prot _ (G.sub _ h1)).2]
 exact h3
theorem tz_spec {P:Program} {r:Go.Shelf.Ren} {f:FuncId} (L:Lays7.n29 P r) (hf:r.f 29=f) (hT:(r.g 1,tzTab)∈Surr.tabs):SpecOK P f (sSet1.spec oTZ):=by
 intro args H K hk G w ρ Fs vs hH hr
 subst hf
 have hk:takeVs [VK.int .u64] args H fun x H1 ls=>oTZ x fun y z=>forceL (putKept [(VK.int .u64,false)] y ls H1++[]) fun H2=>forceL (gone H H1 0) fun T=>K (.int .i64 z.1) H2 T:=hk
 match args,hr,hk with
 | [],_,hk=>exact (hk:False).elim
 | .int .u64 x::[],hr,hk=>
  simp only [RVs] at hr
  obtain ⟨v,us,rfl,hv,rfl⟩:=hr
  have hk:oTZ (x,()) fun y z=>forceL (putKept [(VK.int .u64,false)] y [none] H++[]) fun H2=>forceL (gone H H 0) fun T=>K (.int .i64 z.1) H2 T:=hk
  obtain ⟨⟨x0,x1⟩,hk⟩:=hk
  simp only [] at x0 x1 hk
  obtain ⟨n,rfl⟩:=Int.eq_ofNat_of_zero_le x0
  simp only [RV] at hv
  subst hv
  simp only [forceL_eq,putKept,List.append_nil,Int.toNat_natCast] at hk
  refine (Any7.bits_TrailingZeros64 L n (by omega) w (fun _=>WOK.tabAt hH.wok hT)).mono fun e w' he=>?_
  obtain ⟨rfl,rfl⟩:=he
  exact ⟨_,_,_,_,[],Fs,rfl,hk,by simp [RV],by simpa using hH,fun l o hl _=>⟨hl,rfl,fun _ _=>rfl⟩⟩
 |a::_::_,_,hk=>
  have hk:takeV (.int .u64) a H fun _ _ _=>False:=hk
  cases a<;>simp only [takeV] at hk
  revert hk
  unfold br
  split<;>exact False.elim
 | .bool _::[],_,hk=>exact (hk:False).elim
end Go.Ax.Sp
