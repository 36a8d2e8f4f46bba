import Derived.Test.YtbmabiedmdlinaaGreatDoorAxV22
import Derived.Test.YtbmabiedmdlinaaGreatDoorAxV9
import Derived.Test.YtbmabiedmdlinaaGreatDoorAxO40
set_option linter.all false
namespace Go.Ax.Law
def ch0:Choice:=⟨0,0⟩
def lane3:Lane:=⟨true,true,true⟩
def fill0 (who some depth:Int):Fill:=⟨none,who,some,depth,0,[],0,[],0,none,0,false⟩
def stageF:Option Fill→Int
  |none=>8
  |some f=>f.stage
def whichF (f:Fill):Int:=if f.stage<3 then 0 else 2
def waitsF (f:Fill) (s:LockSet):Bool:=
  if f.stage=0 then decide (ownL s 0≠0) else if f.stage=3 then decide (ownL s 2≠0)
  else if f.stage=7 then (match f.hand with |some h=>waitsH h s |none=>false) else false
def lockF (f:Fill) (s:LockSet):Fill × LockSet:=
  (if (tryL s (whichF f) f.who).1=0 then {f with stage:=wr (f.stage+1)} else f,(tryL s (whichF f) f.who).2)
def letF (f:Fill) (s:LockSet):Fill × LockSet:=({f with stage:=wr (f.stage+1)},(unlockL s (whichF f) f.who).2)
def PreNx (p:Planner):Prop:=PreI p.P p.items.length∧p.out.length≤p.pos∧p.items.length≤64∧0≤p.pos∧p.pos≤p.items.length∧p.items.all rightI=true
def newPl (p:Prof) (d:Int) (l:List Item):Option Planner:=
  if d<1∨64<d then none else if (l.take d.toNat).any (fun i=>!rightI i) then none else Option.some ⟨p,l.take d.toNat,0,[]⟩
def copyF (f:Fill) (c:Core):Fill:=
  if f.stage=1 then {f with items:=itemsC c,stage:=wr (f.stage+1)} else {f with version:=c.P.ver,P:=newPl c.P f.depth f.items,stage:=wr (f.stage+1)}
def nextF (f:Fill):Fill:=
  if (f.choices.length:Int)≤f.pos then {f with stage:=8}
  else match f.choices[f.pos.toNat]? with |some x=>{f with hand:=Option.some (newH (newX x) f.who lane3)} |none=>f
def plansF (f:Fill) (p:Planner):Fill:=
  if 0<((nextPl p f.some).2.items.length:Int)-(nextPl p f.some).2.pos then {f with P:=Option.some (nextPl p f.some).2}
  else nextF {f with P:=Option.some (nextPl p f.some).2,choices:=(nextPl p f.some).2.out,stage:=7}
def commitF (f:Fill) (h:Hand) (x:Choice) (c:Core) (s:LockSet):(Choice × Bool × Bool) × Fill × Core × LockSet:=
  let st:Bool:=if h.stage=1∧f.pos=0 then decide (c.P.ver≠f.version) else f.stale
  let tk:Int:=if (stepH h c s).1=true∧(stepH h c s).2.1.W.ok=true then wr (f.taken+1) else f.taken
  let g:Fill:=⟨f.P,f.who,f.some,f.depth,f.stage,f.items,f.version,f.choices,f.pos,.some (stepH h c s).2.1,tk,st⟩
  (if (stepH h c s).1 then (x,true,(stepH h c s).2.1.W.ok) else (ch0,false,false),
   if 4≤(stepH h c s).2.1.stage then nextF {g with pos:=wr (f.pos+1)} else g,(stepH h c s).2.2.1,(stepH h c s).2.2.2)
def planO (f:Fill):Fill:=match f.P with |some p=>plansF f p |none=>f
def commitO (f:Fill) (c:Core) (s:LockSet):(Choice × Bool × Bool) × Fill × Core × LockSet:=
  match f.hand,f.choices[f.pos.toNat]? with
  |some h,some x=>commitF f h x c s
  |_,_=>((ch0,false,false),f,c,s)
def stepF (f:Fill) (c:Core) (s:LockSet):(Choice × Bool × Bool) × Fill × Core × LockSet:=
  if f.stage=0∨f.stage=3 then ((ch0,false,false),(lockF f s).1,c,(lockF f s).2)
  else if f.stage=1∨f.stage=4 then ((ch0,false,false),copyF f c,c,s)
  else if f.stage=2∨f.stage=5 then ((ch0,false,false),(letF f s).1,c,(letF f s).2)
  else if f.stage=6 then ((ch0,false,false),planO f,c,s)
  else if f.stage=7 then commitO f c s
  else ((ch0,false,false),f,c,s)
def PreCp (f:Fill) (c:Core):Prop:=CW c∧f.items.length≤1099511627776∧f.items.length≤68719476736
def PrePl (f:Fill):Prop:=(∃p,f.P=some p∧PreNx p)∧f.pos=0
def PreNxt (f:Fill):Prop:=0≤f.pos∧f.choices.length≤1000000
def PreCm (f:Fill) (c:Core):Prop:=(∃h,f.hand=some h∧PreH h c)∧0≤f.pos∧f.pos<f.choices.length∧f.choices.length≤1000000
def PreF (f:Fill) (c:Core):Prop:=((f.stage=1∨f.stage=4)→PreCp f c)∧(f.stage=6→PrePl f)∧(f.stage=7→PreCm f c)
end Go.Ax.Law
namespace Go.Ax.Sp
def oVersP:sPInt.Out:=fun x k=>Law.PW x.1∧k () (x.1.ver,())
def sNewF:Sig:=⟨[(.int .i64,false),(.int .i64,false),(.int .i64,false)],[.opt .fill,.int .i64]⟩
def oNewF:sNewF.Out:=fun x k=>((x.1<1∨x.2.1<1∨64<x.2.1∨x.2.2.1<1∨64<x.2.2.1)→k () (none,1,()))∧
  ((1≤x.1∧1≤x.2.1∧x.2.1≤64∧1≤x.2.2.1∧x.2.2.1≤64)→k () (some (Law.fill0 x.1 x.2.1 x.2.2.1),0,()))
def sIntF:Sig:=⟨[(.vopt .fill,false)],[.int .i64]⟩
def oStageF:sIntF.Out:=fun x k=>k () (Law.stageF x.1,())
def oTakenF:sIntF.Out:=fun x k=>k () ((match x.1 with |some f=>f.taken |none=>0),())
def sBoolF:Sig:=⟨[(.vopt .fill,false)],[.bool]⟩
def oStaleF:sBoolF.Out:=fun x k=>k () ((match x.1 with |some f=>f.stale |none=>false),())
def sWaitsF:Sig:=⟨[(.obj .fill,true),(.obj .lockSet,true)],[.bool]⟩
def oWaitsF:sWaitsF.Out:=fun x k=>k (x.1,x.2.1,()) (Law.waitsF x.1 x.2.1,())
def sWhichF:Sig:=⟨[(.view .fill,false)],[.int .i64]⟩
def oWhichF:sWhichF.Out:=fun x k=>k () (Law.whichF x.1,())
def sLockF:Sig:=⟨[(.obj .fill,true),(.obj .lockSet,true)],[]⟩
def oLockF:sLockF.Out:=fun x k=>k ((Law.lockF x.1 x.2.1).1,(Law.lockF x.1 x.2.1).2,()) ()
def oLetF:sLockF.Out:=fun x k=>k ((Law.letF x.1 x.2.1).1,(Law.letF x.1 x.2.1).2,()) ()
def sCopyF:Sig:=⟨[(.obj .fill,true),(.obj .core,true)],[]⟩
def oCopyF:sCopyF.Out:=fun x k=>Law.PreCp x.1 x.2.1∧k (Law.copyF x.1 x.2.1,x.2.1,()) ()
def sPlanF:Sig:=⟨[(.obj .fill,true)],[]⟩
def oPlanF:sPlanF.Out:=fun x k=>Law.PrePl x.1∧k (Law.planO x.1,()) ()
def oNextF:sPlanF.Out:=fun x k=>Law.PreNxt x.1∧k (Law.nextF x.1,()) ()
def sStepF:Sig:=⟨[(.obj .fill,true),(.obj .core,true),(.obj .lockSet,true)],[.elem .choice,.bool,.bool]⟩
def oCommitF:sStepF.Out:=fun x k=>Law.PreCm x.1 x.2.1∧k ((Law.commitO x.1 x.2.1 x.2.2.1).2.1,(Law.commitO x.1 x.2.1 x.2.2.1).2.2.1,(Law.commitO x.1 x.2.1 x.2.2.1).2.2.2,()) ((Law.commitO x.1 x.2.1 x.2.2.1).1.1,(Law.commitO x.1 x.2.1 x.2.2.1).1.2.1,(Law.commitO x.1 x.2.1 x.2.2.1).1.2.2,())
def oStepF:sStepF.Out:=fun x k=>Law.PreF x.1 x.2.1∧k ((Law.stepF x.1 x.2.1 x.2.2.1).2.1,(Law.stepF x.1 x.2.1 x.2.2.1).2.2.1,(Law.stepF x.1 x.2.1 x.2.2.1).2.2.2,()) ((Law.stepF x.1 x.2.1 x.2.2.1).1.1,(Law.stepF x.1 x.2.1 x.2.2.1).1.2.1,(Law.stepF x.1 x.2.1 x.2.2.1).1.2.2,())
end Go.Ax.Sp
namespace Go.Ax.V
open Go.Ax.Sp Go.Ax.Law List Int IntKind
set_option maxRecDepth 100000
def vVersP (p:Prof) (k:Unit→Int × Unit→Prop):Prop:=
br (noneP (some p)) (k () (0,())) (k () (p.ver,()))
def vNewF (a:Int) (b:Int) (c:Int) (k:Unit→Option Fill × Int × Unit→Prop):Prop:=
SH (none,1,()) fun s0=>br (decide (a<1)) (k () s0) (br (decide (b<1)) (k () s0) (br (decide (b>64)) (k () s0) (br (decide (c<1)) (k () s0) (br (decide (c>64)) (k () s0) (k () (some (Fill.mk none a b c 0 [] 0 [] 0 none 0 false),0,()))))))
def vStageF (f:Fill) (k:Unit→Int × Unit→Prop):Prop:=
k () (f.stage,())
def vStageFN (k:Unit→Int × Unit→Prop):Prop:=
k () (8,())
def vTakenF (f:Fill) (k:Unit→Int × Unit→Prop):Prop:=
k () (f.taken,())
def vTakenFN (k:Unit→Int × Unit→Prop):Prop:=
k () (0,())
def vStaleF (f:Fill) (k:Unit→Bool × Unit→Prop):Prop:=
k () (f.stale,())
def vStaleFN (k:Unit→Bool × Unit→Prop):Prop:=
k () (false,())
def vWaitsF (f:Fill) (s:LockSet) (k:Fill × LockSet × Unit→Bool × Unit→Prop):Prop:=
SH (length f.choices) fun s0=>SH (length f.items) fun s1=>SH (take s0 (drop 0 f.choices)) fun s2=>SH (take s1 (drop 0 f.items)) fun s3=>SH (0+s0≤s0) fun s4=>SH (0+s1≤s1) fun s5=>br (stageF (some f)==0) (k (f,s,()) (!ownL s 0==0,())) (br (stageF (some f)==3) (k (f,s,()) (!ownL s 2==0,())) (br (stageF (some f)==7) (oc f.P (oc f.hand (s5∧s4∧k (Fill.mk none f.who f.some f.depth f.stage s3 f.version s2 f.pos none f.taken f.stale,s,()) (false,())) fun dhand=>s5∧s4∧k (Fill.mk none f.who f.some f.depth f.stage s3 f.version s2 f.pos (some dhand) f.taken f.stale,s,()) (waitsH dhand s,())) fun dP=>oc f.hand (s5∧s4∧k (Fill.mk (some dP) f.who f.some f.depth f.stage s3 f.version s2 f.pos none f.taken f.stale,s,()) (false,())) fun dhand=>s5∧s4∧k (Fill.mk (some dP) f.who f.some f.depth f.stage s3 f.version s2 f.pos (some dhand) f.taken f.stale,s,()) (waitsH dhand s,())) (k (f,s,()) (false,()))))
def vWhichF (f:Fill) (k:Unit→Int × Unit→Prop):Prop:=
br (decide (f.stage<3)) (k () (0,())) (k () (2,()))
def vLockF (f:Fill) (s:LockSet) (k:Fill × LockSet × Unit→Unit→Prop):Prop:=
SH (take (length f.choices) (drop 0 f.choices)) fun s0=>SH (take (length f.items) (drop 0 f.items)) fun s1=>SH (length f.choices) fun s2=>SH (length f.items) fun s3=>SH (Fill.mk none f.who f.some f.depth f.stage s1 f.version s0 f.pos none f.taken f.stale) fun s4=>SH f.version fun s5=>SH f.depth fun s6=>SH f.stage fun s7=>SH f.stale fun s8=>SH f.taken fun s9=>SH (tryL s (whichF s4) f.who) fun s10=>SH (0+s2≤s2) fun s11=>SH (0+s3≤s3) fun s12=>oc f.P (oc f.hand ((s12∧s11∧br (s10.1==0) (NM (s7+1) fun n=>s12∧s11∧k (Fill.mk none f.who f.some s6 n s1 s5 s0 f.pos none s9 s8,s10.2,()) ()) (s12∧s11∧k (s4,s10.2,()) ())∧True)∧True) fun dhand=>SH (Fill.mk none f.who f.some s6 s7 s1 s5 s0 f.pos (some dhand) s9 s8) fun s13=>SH (tryL s (whichF s13) f.who) fun s14=>(s12∧s11∧br (s14.1==0) (NM (s7+1) fun n=>s12∧s11∧k (Fill.mk none f.who f.some s6 n s1 s5 s0 f.pos (some dhand) s9 s8,s14.2,()) ()) (s12∧s11∧k (s13,s14.2,()) ())∧True)∧True) fun dP=>SH (Fill.mk (some dP) f.who f.some s6 s7 s1 s5 s0 f.pos none s9 s8) fun s13=>SH (tryL s (whichF s13) f.who) fun s14=>oc f.hand ((s12∧s11∧br (s14.1==0) (NM (s7+1) fun n=>s12∧s11∧k (Fill.mk (some dP) f.who f.some s6 n s1 s5 s0 f.pos none s9 s8,s14.2,()) ()) (s12∧s11∧k (s13,s14.2,()) ())∧True)∧True) fun dhand=>SH (Fill.mk (some dP) f.who f.some s6 s7 s1 s5 s0 f.pos (some dhand) s9 s8) fun s15=>SH (tryL s (whichF s15) f.who) fun s16=>(s12∧s11∧br (s16.1==0) (NM (s7+1) fun n=>s12∧s11∧k (Fill.mk (some dP) f.who f.some s6 n s1 s5 s0 f.pos (some dhand) s9 s8,s16.2,()) ()) (s12∧s11∧k (s15,s16.2,()) ())∧True)∧True
def vLetF (f:Fill) (s:LockSet) (k:Fill × LockSet × Unit→Unit→Prop):Prop:=
SH (length f.choices) fun s0=>SH (length f.items) fun s1=>SH (take s0 (drop 0 f.choices)) fun s2=>SH (take s1 (drop 0 f.items)) fun s3=>SH f.version fun s4=>SH f.depth fun s5=>SH f.stage fun s6=>SH f.stale fun s7=>SH f.taken fun s8=>SH (0+s0≤s0) fun s9=>SH (0+s1≤s1) fun s10=>oc f.P (oc f.hand ((s10∧s9∧(NM (s6+1) fun n=>s10∧s9∧k (Fill.mk none f.who f.some s5 n s3 s4 s2 f.pos none s8 s7,(unlockL s (whichF (Fill.mk none f.who f.some s5 s6 s3 s4 s2 f.pos none s8 s7)) f.who).2,()) ())∧True)∧True) fun dhand=>(s10∧s9∧(NM (s6+1) fun n=>s10∧s9∧k (Fill.mk none f.who f.some s5 n s3 s4 s2 f.pos (some dhand) s8 s7,(unlockL s (whichF (Fill.mk none f.who f.some s5 s6 s3 s4 s2 f.pos (some dhand) s8 s7)) f.who).2,()) ())∧True)∧True) fun dP=>oc f.hand ((s10∧s9∧(NM (s6+1) fun n=>s10∧s9∧k (Fill.mk (some dP) f.who f.some s5 n s3 s4 s2 f.pos none s8 s7,(unlockL s (whichF (Fill.mk (some dP) f.who f.some s5 s6 s3 s4 s2 f.pos none s8 s7)) f.who).2,()) ())∧True)∧True) fun dhand=>(s10∧s9∧(NM (s6+1) fun n=>s10∧s9∧k (Fill.mk (some dP) f.who f.some s5 n s3 s4 s2 f.pos (some dhand) s8 s7,(unlockL s (whichF (Fill.mk (some dP) f.who f.some s5 s6 s3 s4 s2 f.pos (some dhand) s8 s7)) f.who).2,()) ())∧True)∧True
def vCopyF (f:Fill) (c:Core) (k:Fill × Core × Unit→Unit→Prop):Prop:=
SH (take (length (sortJ (inJ c.J.jobs [1]))) (drop 0 (sortJ (inJ c.J.jobs [1])))) fun s0=>SH (take (length f.items) (drop 0 f.items)) fun s1=>SH (length f.choices) fun s2=>SH (length f.items) fun s3=>SH (take s2 (drop 0 f.choices)) fun s4=>SH f.depth fun s5=>SH (length (sortJ (inJ c.J.jobs [1]))) fun s6=>SH (any (take (toNat s5) s1) fun i=>!rightI i) fun s7=>SH (f.stage+1) fun s8=>SH (length (map itemJ s0)) fun s9=>SH f.stale fun s10=>SH f.taken fun s11=>SH (some (Planner.mk c.P (take (toNat s5) s1) 0 [])) fun s12=>SH c.P.ver fun s13=>SH (take s9 (drop 0 (map itemJ s0))) fun s14=>SH (f.stage==1) fun s15=>SH (SH ((NM s8 fun n=>0+s3≤s3∧0+s2≤s2∧k (Fill.mk none f.who f.some s5 n s1 s13 s4 f.pos none s11 s10,c,()) ())∧True) fun s17=>PW c.P∧(0+s3≤s3∧(PW c.P∧length s1≤68719476736)∧(s5<1∨64<s5→s17)∧(1≤s5∧s5≤64→(s7=true→s17)∧(s7=false→(NM s8 fun n=>0+s3≤s3∧0+s2≤s2∧k (Fill.mk s12 f.who f.some s5 n s1 s13 s4 f.pos none s11 s10,c,()) ())∧True)))∧True) fun s16=>SH (0+s2≤s2) fun s17=>SH (0+s3≤s3) fun s18=>SH (length s0≤4294967296) fun s19=>SH (0+s6≤s6) fun s20=>SH (0+s9≤s9) fun s21=>oc f.P (oc f.hand (br s15 (JW c.J∧s20∧s19∧NM s8 fun n=>s21∧s17∧k (Fill.mk none f.who f.some s5 n s14 f.version s4 f.pos none s11 s10,c,()) ()) s16) fun dhand=>SH ((NM s8 fun n=>s18∧s17∧k (Fill.mk none f.who f.some s5 n s1 s13 s4 f.pos (some dhand) s11 s10,c,()) ())∧True) fun s22=>br s15 (JW c.J∧s20∧s19∧NM s8 fun n=>s21∧s17∧k (Fill.mk none f.who f.some s5 n s14 f.version s4 f.pos (some dhand) s11 s10,c,()) ()) (PW c.P∧(s18∧(PW c.P∧length s1≤68719476736)∧(s5<1∨64<s5→s22)∧(1≤s5∧s5≤64→(s7=true→s22)∧(s7=false→(NM s8 fun n=>s18∧s17∧k (Fill.mk s12 f.who f.some s5 n s1 s13 s4 f.pos (some dhand) s11 s10,c,()) ())∧True)))∧True)) fun dP=>oc f.hand (br s15 (JW c.J∧s20∧s19∧NM s8 fun n=>s21∧s17∧k (Fill.mk (some dP) f.who f.some s5 n s14 f.version s4 f.pos none s11 s10,c,()) ()) s16) fun dhand=>SH ((NM s8 fun n=>s18∧s17∧k (Fill.mk none f.who f.some s5 n s1 s13 s4 f.pos (some dhand) s11 s10,c,()) ())∧True) fun s22=>br s15 (JW c.J∧s20∧s19∧NM s8 fun n=>s21∧s17∧k (Fill.mk (some dP) f.who f.some s5 n s14 f.version s4 f.pos (some dhand) s11 s10,c,()) ()) (PW c.P∧(s18∧(PW c.P∧length s1≤68719476736)∧(s5<1∨64<s5→s22)∧(1≤s5∧s5≤64→(s7=true→s22)∧(s7=false→(NM s8 fun n=>s18∧s17∧k (Fill.mk s12 f.who f.some s5 n s1 s13 s4 f.pos (some dhand) s11 s10,c,()) ())∧True)))∧True)
def vNextF (f:Fill) (k:Fill × Unit→Unit→Prop):Prop:=
SH (length f.choices) fun s0=>SH (length f.items) fun s1=>SH (take s0 (drop 0 f.choices)) fun s2=>SH (take s1 (drop 0 f.items)) fun s3=>SH (decide (f.pos≥LN f.choices)) fun s4=>SH f.version fun s5=>SH f.depth fun s6=>SH f.stale fun s7=>SH f.taken fun s8=>SH (AT f.choices f.pos fun e=>((((0+s1≤s1∧0+s0≤s0∧k (Fill.mk none f.who f.some s6 f.stage s3 s5 s2 f.pos (some (newH (newX e) f.who (Lane.mk true true true))) s8 s7,()) ())∧True)∧True)∧True)∧True) fun s9=>SH (0+s0≤s0) fun s10=>SH (0+s1≤s1) fun s11=>oc f.P (oc f.hand (br s4 (s11∧s10∧k (Fill.mk none f.who f.some s6 8 s3 s5 s2 f.pos none s8 s7,()) ()) s9) fun dhand=>br s4 (s11∧s10∧k (Fill.mk none f.who f.some s6 8 s3 s5 s2 f.pos (some dhand) s8 s7,()) ()) s9) fun dP=>SH (AT f.choices f.pos fun e=>((((s11∧s10∧k (Fill.mk (some dP) f.who f.some s6 f.stage s3 s5 s2 f.pos (some (newH (newX e) f.who (Lane.mk true true true))) s8 s7,()) ())∧True)∧True)∧True)∧True) fun s12=>oc f.hand (br s4 (s11∧s10∧k (Fill.mk (some dP) f.who f.some s6 8 s3 s5 s2 f.pos none s8 s7,()) ()) s12) fun dhand=>br s4 (s11∧s10∧k (Fill.mk (some dP) f.who f.some s6 8 s3 s5 s2 f.pos (some dhand) s8 s7,()) ()) s12
def vPlanF (f:Fill) (k:Fill × Unit→Unit→Prop):Prop:=
SH (toNat f.some) fun s0=>SH (length f.items) fun s1=>SH (take s1 (drop 0 f.items)) fun s2=>SH (length f.choices) fun s3=>SH f.version fun s4=>SH (0+s1≤s1) fun s5=>oc f.P (oc f.hand (False∧True) fun dhand=>False∧True) fun dP=>SH (planF dP.P (take (min s0 (length dP.items-toNat dP.pos)) (drop (toNat dP.pos) dP.items))) fun s6=>SH (dP.pos+(↑(min s0 (length dP.items-toNat dP.pos)):Int)) fun s7=>SH (dP.out++s6.2) fun s8=>SH dP.items fun s9=>SH (Fill.mk (some (Planner.mk s6.1 s9 s7 s8)) f.who f.some f.depth 7 s2 s4 (take (length s8) (drop 0 s8)) f.pos none f.taken f.stale) fun s10=>SH (length s8) fun s11=>SH (some (Planner.mk s6.1 s9 s7 s8)) fun s12=>SH (length s9) fun s13=>SH (PreI dP.P s13∧LN dP.out≤dP.pos∧s13≤64∧0≤dP.pos∧dP.pos≤LN s9∧all s9 rightI=true) fun s14=>oc f.hand ((s14∧(s13≤1000000∧0≤s7∧s7≤1000000)∧br (decide (LN s9-s7>0)) (s5∧0+s3≤s3∧k (Fill.mk s12 f.who f.some f.depth f.stage s2 s4 (take s3 (drop 0 f.choices)) f.pos none f.taken f.stale,()) ()) (s11≤1000000∧s5∧0+s11≤s11∧PreNxt s10∧k (nextF s10,()) ()))∧True) fun dhand=>SH (Fill.mk s12 f.who f.some f.depth 7 s2 s4 (take s11 (drop 0 s8)) f.pos (some dhand) f.taken f.stale) fun s15=>(s14∧(s13≤1000000∧0≤s7∧s7≤1000000)∧br (decide (LN s9-s7>0)) (s5∧0+s3≤s3∧k (Fill.mk s12 f.who f.some f.depth f.stage s2 s4 (take s3 (drop 0 f.choices)) f.pos (some dhand) f.taken f.stale,()) ()) (s11≤1000000∧s5∧0+s11≤s11∧PreNxt s15∧k (nextF s15,()) ()))∧True
def vCommitF (f:Fill) (c:Core) (s:LockSet) (k:Fill × Core × LockSet × Unit→Choice × Bool × Bool × Unit→Prop):Prop:=
SH (take (length f.choices) (drop 0 f.choices)) fun s0=>SH (take (length f.items) (drop 0 f.items)) fun s1=>SH (length f.choices) fun s2=>SH (length f.items) fun s3=>SH f.version fun s4=>SH (Choice.mk 0 0,false,false,()) fun s5=>SH f.depth fun s6=>SH f.stage fun s7=>SH f.taken fun s8=>SH (!c.P.ver==s4) fun s9=>SH f.stale fun s10=>SH (f.pos+1) fun s11=>SH (0+s2≤s2) fun s12=>SH (0+s3≤s3) fun s13=>SH (AT f.choices f.pos fun e=>(False∧True)∧True) fun s14=>oc f.P (oc f.hand s14 fun dhand=>SH (stepH dhand c s).2 fun s15=>SH (s15.2.1,s15.2.2,()) fun s16=>SH (some s15.1) fun s17=>SH (Fill.mk none f.who f.some s6 s7 s1 s4 s0 f.pos s17 s8 s10,s16) fun s18=>SH (true,s15.1.W.ok,()) fun s19=>SH (!(stepH dhand c s).1) fun s20=>SH (decide (stageO s17≥4)) fun s21=>SH (Fill.mk none f.who f.some s6 s7 s1 s4 s0 f.pos s17 s8 s9,s16) fun s22=>SH (s13∧s12∧k s18 s5) fun s23=>AT f.choices f.pos fun e=>SH (SH (br s21 (NM s11 fun n=>SH (Fill.mk none f.who f.some s6 s7 s1 s4 s0 n s17 s8 s10) fun s26=>s13∧s12∧PreNxt s26∧br s20 (k (nextF s26,s16) s5) (k (nextF s26,s16) (e,s19))) (br s20 s23 (s13∧s12∧k s18 (e,s19)))) fun s25=>PreH dhand c∧br (stepH dhand c s).1 (br s15.1.W.ok (NM (s8+1) fun n=>SH (Fill.mk none f.who f.some s6 s7 s1 s4 s0 f.pos s17 n s10,s16) fun s26=>br s21 (NM s11 fun n_1=>SH (Fill.mk none f.who f.some s6 s7 s1 s4 s0 n_1 s17 n s10) fun s27=>s13∧s12∧PreNxt s27∧br s20 (k (nextF s27,s16) s5) (k (nextF s27,s16) (e,s19))) (br s20 (s13∧s12∧k s26 s5) (s13∧s12∧k s26 (e,s19)))) s25) s25) fun s24=>SH (br s21 (NM s11 fun n=>SH (Fill.mk none f.who f.some s6 s7 s1 s4 s0 n s17 s8 s9) fun s26=>s13∧s12∧PreNxt s26∧br s20 (k (nextF s26,s16) s5) (k (nextF s26,s16) (e,s19))) (br s20 (s13∧s12∧k s22 s5) (s13∧s12∧k s22 (e,s19)))) fun s25=>(br (stageO (some dhand)==1) (br (f.pos==0) ((PW c.P∧(PreH dhand c∧br (stepH dhand c s).1 (br s15.1.W.ok (NM (s8+1) fun n=>SH (Fill.mk none f.who f.some s6 s7 s1 s4 s0 f.pos s17 n s9,s16) fun s26=>br s21 (NM s11 fun n_1=>SH (Fill.mk none f.who f.some s6 s7 s1 s4 s0 n_1 s17 n s9) fun s27=>s13∧s12∧PreNxt s27∧br s20 (k (nextF s27,s16) s5) (k (nextF s27,s16) (e,s19))) (br s20 (s13∧s12∧k s26 s5) (s13∧s12∧k s26 (e,s19)))) s25) s25)∧True)∧True) s24) s24∧True)∧True) fun dP=>oc f.hand s14 fun dhand=>SH (stepH dhand c s).2 fun s15=>SH (s15.2.1,s15.2.2,()) fun s16=>SH (some s15.1) fun s17=>SH (Fill.mk (some dP) f.who f.some s6 s7 s1 s4 s0 f.pos s17 s8 s10,s16) fun s18=>SH (true,s15.1.W.ok,()) fun s19=>SH (!(stepH dhand c s).1) fun s20=>SH (decide (stageO s17≥4)) fun s21=>SH (Fill.mk (some dP) f.who f.some s6 s7 s1 s4 s0 f.pos s17 s8 s9,s16) fun s22=>SH (s13∧s12∧k s18 s5) fun s23=>AT f.choices f.pos fun e=>SH (SH (br s21 (NM s11 fun n=>SH (Fill.mk (some dP) f.who f.some s6 s7 s1 s4 s0 n s17 s8 s10) fun s26=>s13∧s12∧PreNxt s26∧br s20 (k (nextF s26,s16) s5) (k (nextF s26,s16) (e,s19))) (br s20 s23 (s13∧s12∧k s18 (e,s19)))) fun s25=>PreH dhand c∧br (stepH dhand c s).1 (br s15.1.W.ok (NM (s8+1) fun n=>SH (Fill.mk (some dP) f.who f.some s6 s7 s1 s4 s0 f.pos s17 n s10,s16) fun s26=>br s21 (NM s11 fun n_1=>SH (Fill.mk (some dP) f.who f.some s6 s7 s1 s4 s0 n_1 s17 n s10) fun s27=>s13∧s12∧PreNxt s27∧br s20 (k (nextF s27,s16) s5) (k (nextF s27,s16) (e,s19))) (br s20 (s13∧s12∧k s26 s5) (s13∧s12∧k s26 (e,s19)))) s25) s25) fun s24=>SH (br s21 (NM s11 fun n=>SH (Fill.mk (some dP) f.who f.some s6 s7 s1 s4 s0 n s17 s8 s9) fun s26=>s13∧s12∧PreNxt s26∧br s20 (k (nextF s26,s16) s5) (k (nextF s26,s16) (e,s19))) (br s20 (s13∧s12∧k s22 s5) (s13∧s12∧k s22 (e,s19)))) fun s25=>(br (stageO (some dhand)==1) (br (f.pos==0) ((PW c.P∧(PreH dhand c∧br (stepH dhand c s).1 (br s15.1.W.ok (NM (s8+1) fun n=>SH (Fill.mk (some dP) f.who f.some s6 s7 s1 s4 s0 f.pos s17 n s9,s16) fun s26=>br s21 (NM s11 fun n_1=>SH (Fill.mk (some dP) f.who f.some s6 s7 s1 s4 s0 n_1 s17 n s9) fun s27=>s13∧s12∧PreNxt s27∧br s20 (k (nextF s27,s16) s5) (k (nextF s27,s16) (e,s19))) (br s20 (s13∧s12∧k s26 s5) (s13∧s12∧k s26 (e,s19)))) s25) s25)∧True)∧True) s24) s24∧True)∧True
def vStepF (f:Fill) (c:Core) (s:LockSet) (k:Fill × Core × LockSet × Unit→Choice × Bool × Bool × Unit→Prop):Prop:=
SH (Fill.mk f.P f.who f.some f.depth (wr (f.stage+1)) f.items f.version f.choices f.pos f.hand f.taken f.stale) fun s0=>SH (Choice.mk 0 0,false,false,()) fun s1=>SH (stageF (some f)) fun s2=>SH (if (tryL s (whichF f) f.who).1=0 then s0 else f,c,(tryL s (whichF f) f.who).2,()) fun s3=>SH (commitO f c s) fun s4=>SH (s0,c,(unlockL s (whichF f) f.who).2,()) fun s5=>SH (c,s,()) fun s6=>SH (PreCp f c∧k (copyF f c,s6) s1) fun s7=>br (s2==0) (k s3 s1) (br (s2==3) (k s3 s1) (br (s2==1) s7 (br (s2==4) s7 (br (s2==2) (k s5 s1) (br (s2==5) (k s5 s1) (br (s2==6) (PrePl f∧k (planO f,s6) s1) (br (s2==7) (PreCm f c∧k (s4.2.1,s4.2.2.1,s4.2.2.2,()) (s4.1.1,s4.1.2.1,s4.1.2.2,())) (k (f,s6) s1))))))))
end Go.Ax.V
namespace Go.Ax.O
open Go.Ax.Sp Go.Ax.Law
theorem oc_i {α:Type} {o:Option α} {n:Prop} {s:α→Prop} (h1:o=none→n) (h2: ∀d,o=some d→s d):oc o n s:=by
  cases o with
  |none=>exact h1 rfl
  |some d=>exact h2 d rfl
theorem nd (x:Int):(!x==0)=decide (x≠0):=by by_cases h:x=0<;>simp [h]
theorem nd2 (x y:Int):(!x==y)=decide (x≠y):=by by_cases h:x=y<;>simp [h]
theorem tkl {α:Type} (l:List α):List.take l.length (List.drop 0 l)=l:=by simp
theorem vVersP {p:Prof} {k:Unit→Int × Unit→Prop} (h:oVersP (p,()) k):V.vVersP p k:=by
  obtain ⟨hp,hk⟩:=h
  unfold V.vVersP
  exact br_f (noneP_no hp) hk
theorem vNewF {a b c:Int} {k:Unit→Option Fill × Int × Unit→Prop} (h:oNewF (a,b,c,()) k):V.vNewF a b c k:=by
  obtain ⟨h1,h2⟩:=h
  have h2:(1≤a∧1≤b∧b≤64∧1≤c∧c≤64)→k () (some (fill0 a b c),0,()):=h2
  unfold V.vNewF V.SH
  exact br_dec (fun g=>h1 (.inl g)) fun g1=>br_dec (fun g=>h1 (.inr (.inl g))) fun g2=>br_dec (fun g=>h1 (.inr (.inr (.inl g)))) fun g3=>br_dec (fun g=>h1 (.inr (.inr (.inr (.inl g))))) fun g4=>br_dec (fun g=>h1 (.inr (.inr (.inr (.inr g))))) fun g5=>h2 (by omega)
theorem vStageF {f:Fill} {k:Unit→Int × Unit→Prop} (h:oStageF (some f,()) k):V.vStageF f k:=h
theorem vStageFN {k:Unit→Int × Unit→Prop} (h:oStageF (none,()) k):V.vStageFN k:=h
theorem vTakenF {f:Fill} {k:Unit→Int × Unit→Prop} (h:oTakenF (some f,()) k):V.vTakenF f k:=h
theorem vTakenFN {k:Unit→Int × Unit→Prop} (h:oTakenF (none,()) k):V.vTakenFN k:=h
theorem vStaleF {f:Fill} {k:Unit→Bool × Unit→Prop} (h:oStaleF (some f,()) k):V.vStaleF f k:=h
theorem vStaleFN {k:Unit→Bool × Unit→Prop} (h:oStaleF (none,()) k):V.vStaleFN k:=h
theorem vWaitsF {f:Fill} {s:LockSet} {k:Fill × LockSet × Unit→Bool × Unit→Prop} (h:oWaitsF (f,s,()) k):V.vWaitsF f s k:=by
  obtain ⟨P,who,sm,dp,st,it,vr,ch,q,hd,tk,sl⟩:=f
  have h:k (⟨P,who,sm,dp,st,it,vr,ch,q,hd,tk,sl⟩,s,()) (waitsF ⟨P,who,sm,dp,st,it,vr,ch,q,hd,tk,sl⟩ s,()):=h
  unfold waitsF at h
  simp only [] at h
  unfold V.vWaitsF V.SH
  simp only [tkl,Nat.zero_add,Nat.le_refl,true_and,stageF]
  refine br_eq (fun g=>?_) (fun g=>br_eq (fun g2=>?_) (fun g2=>br_eq (fun g3=>?_) (fun g3=>?_)))
  · rw [if_pos g] at h;rw [nd];exact h
  · rw [if_neg g,if_pos g2] at h;rw [nd];exact h
  · rw [if_neg g,if_neg g2,if_pos g3] at h
    refine oc_i (fun e=>?_) (fun p e=>?_)<;>subst e<;>refine oc_i (fun e=>?_) (fun hh e=>?_)<;>subst e<;>exact h
  · rw [if_neg g,if_neg g2,if_neg g3] at h;exact h
theorem vWhichF {f:Fill} {k:Unit→Int × Unit→Prop} (h:oWhichF (f,()) k):V.vWhichF f k:=by
  have h:k () (whichF f,()):=h
  unfold whichF at h
  unfold V.vWhichF
  exact br_dec (fun g=>by rw [if_pos g] at h;exact h) (fun g=>by rw [if_neg g] at h;exact h)
theorem vLockF {f:Fill} {s:LockSet} {k:Fill × LockSet × Unit→Unit→Prop} (h:oLockF (f,s,()) k):V.vLockF f s k:=by
  obtain ⟨P,who,sm,dp,st,it,vr,ch,q,hd,tk,sl⟩:=f
  have h:k ((lockF ⟨P,who,sm,dp,st,it,vr,ch,q,hd,tk,sl⟩ s).1,(lockF ⟨P,who,sm,dp,st,it,vr,ch,q,hd,tk,sl⟩ s).2,()) ():=h
  unfold lockF at h
  simp only [] at h
  unfold V.vLockF V.NM V.SH
  simp only [tkl,Nat.zero_add,Nat.le_refl,true_and,and_true]
  refine oc_i (fun e=>?_) (fun p e=>?_)<;>subst e<;>refine oc_i (fun e=>?_) (fun hh e=>?_)<;>subst e<;>
    exact br_eq (fun g n hn=>by subst hn;rw [if_pos g] at h;exact h) (fun g=>by rw [if_neg g] at h;exact h)
theorem vLetF {f:Fill} {s:LockSet} {k:Fill × LockSet × Unit→Unit→Prop} (h:oLetF (f,s,()) k):V.vLetF f s k:=by
  obtain ⟨P,who,sm,dp,st,it,vr,ch,q,hd,tk,sl⟩:=f
  have h:k ((letF ⟨P,who,sm,dp,st,it,vr,ch,q,hd,tk,sl⟩ s).1,(letF ⟨P,who,sm,dp,st,it,vr,ch,q,hd,tk,sl⟩ s).2,()) ():=h
  unfold letF at h
  unfold V.vLetF V.NM V.SH
  simp only [tkl,Nat.zero_add,Nat.le_refl,true_and,and_true]
  refine oc_i (fun e=>?_) (fun p e=>?_)<;>subst e<;>refine oc_i (fun e=>?_) (fun hh e=>?_)<;>subst e<;>
    exact fun n hn=>by subst hn;exact h
theorem vCopyF {f:Fill} {c:Core} {k:Fill × Core × Unit→Unit→Prop} (h:oCopyF (f,c,()) k):V.vCopyF f c k:=by
  obtain ⟨P,who,sm,dp,st,it,vr,ch,q,hd,tk,sl⟩:=f
  obtain ⟨⟨hc,hl,hl2⟩,h⟩:=h
  have hc:CW c:=hc
  have h:k (copyF ⟨P,who,sm,dp,st,it,vr,ch,q,hd,tk,sl⟩ c,c,()) ():=h
  simp only [] at hl hl2
  have hw:(waitC c).length≤1024:=by
    have a1:=hc.1.2.1
    have a2:(inJ c.J.jobs [1]).length≤c.J.jobs.length:=List.length_filter_le _ _
    unfold waitC;rw [sort_len];omega
  have hw2:(sortJ (inJ c.J.jobs [1])).length≤4294967296:=by
    have:(sortJ (inJ c.J.jobs [1])).length≤1024:=hw
    omega
  unfold copyF at h
  simp only [] at h
  unfold V.vCopyF V.NM V.SH
  simp only [tkl,Nat.zero_add,Nat.le_refl,true_and,and_true]
  have h1:st=1→k (⟨P,who,sm,dp,wr (st+1),(sortJ (inJ c.J.jobs [1])).map itemJ,vr,ch,q,hd,tk,sl⟩,c,()) ():=fun g=>by rw [if_pos g] at h;exact h
  have h2: ¬ st=1→(dp<1∨64<dp∨(it.take dp.toNat).any (fun i=>!rightI i)=true)→k (⟨none,who,sm,dp,wr (st+1),it,c.P.ver,ch,q,hd,tk,sl⟩,c,()) ():=fun g g2=>by
    rw [if_neg g] at h
    have e:newPl c.P dp it=none:=by
      unfold newPl
      by_cases g3:dp<1∨64<dp
      · rw [if_pos g3]
      · rw [if_neg g3, if_pos (by rcases g2 with g2 |g2 |g2;· exact absurd (.inl g2) g3
                                  · exact absurd (.inr g2) g3
                                  · exact g2)]
    rw [e] at h
    exact h
  have h3: ¬ st=1→1≤dp∧dp≤64→(it.take dp.toNat).any (fun i=>!rightI i)=false→k (⟨some ⟨c.P,it.take dp.toNat,0,[]⟩,who,sm,dp,wr (st+1),it,c.P.ver,ch,q,hd,tk,sl⟩,c,()) ():=fun g g2 g3=>by
    rw [if_neg g] at h
    have e:newPl c.P dp it=some ⟨c.P,it.take dp.toNat,0,[]⟩:=by
      unfold newPl
      rw [if_neg (by omega),if_neg (by rw [g3];decide)]
    rw [e] at h
    exact h
  refine oc_i (fun e=>?_) (fun p e=>?_)<;>subst e<;>refine oc_i (fun e=>?_) (fun hh e=>?_)<;>subst e<;>
    exact br_eq (fun g=>⟨hc.1,hw2,fun n hn=>by subst hn;exact h1 g⟩) (fun g=>⟨hc.2.2,⟨hc.2.2,hl2⟩,fun g2 n hn=>by subst hn;exact h2 g (by omega),fun g2=>⟨fun g3 n hn=>by subst hn;exact h2 g (.inr (.inr g3)),fun g3 n hn=>by subst hn;exact h3 g g2 g3⟩⟩)
theorem vNextF {f:Fill} {k:Fill × Unit→Unit→Prop} (h:oNextF (f,()) k):V.vNextF f k:=by
  obtain ⟨P,who,sm,dp,st,it,vr,ch,q,hd,tk,sl⟩:=f
  obtain ⟨⟨h0,hl⟩,h⟩:=h
  simp only [] at h0 hl
  have h:k (nextF ⟨P,who,sm,dp,st,it,vr,ch,q,hd,tk,sl⟩,()) ():=h
  unfold nextF at h
  simp only [] at h
  unfold V.vNextF V.AT V.SH V.LN
  simp only [tkl,Nat.zero_add,Nat.le_refl,true_and,and_true]
  have h2: ¬ (ch.length:Int)≤q→(0≤q∧q<(ch.length:Int))∧q.toNat<ch.length∧ ∀e,ch[q.toNat]? =some e→k (⟨P,who,sm,dp,st,it,vr,ch,q,some (newH (newX e) who (Lane.mk true true true)),tk,sl⟩,()) ():=fun g=>
    ⟨⟨h0,by omega⟩,by omega,fun e he=>by rw [if_neg g,he] at h;exact h⟩
  refine oc_i (fun e=>?_) (fun p e=>?_)<;>subst e<;>refine oc_i (fun e=>?_) (fun hh e=>?_)<;>subst e<;>
    exact br_dec (fun g=>by rw [if_pos g] at h;exact h) (fun g=>h2 g)
theorem vPlanF {f:Fill} {k:Fill × Unit→Unit→Prop} (h:oPlanF (f,()) k):V.vPlanF f k:=by
  obtain ⟨P,who,sm,dp,st,it,vr,ch,q,hd,tk,sl⟩:=f
  obtain ⟨⟨⟨p,e,hp⟩,hq⟩,h⟩:=h
  simp only [] at e hq
  subst e hq
  have h:k (plansF ⟨some p,who,sm,dp,st,it,vr,ch,0,hd,tk,sl⟩ p,()) ():=h
  obtain ⟨hp1,hp2,hp3,hp4,hp5,hp6⟩:=hp
  obtain ⟨g1,g2⟩:=planF_ok ((p.items.drop p.pos.toNat).take (min sm.toNat (p.items.length-p.pos.toNat))) (p:=p.P) (n:=0) ⟨hp1.1,by have:=hp1.2.1;rw [List.length_take,List.length_drop];omega,hp1.2.2⟩
  have hlo:(p.out++(planF p.P ((p.items.drop p.pos.toNat).take (min sm.toNat (p.items.length-p.pos.toNat)))).2).length≤1000000:=by
    rw [List.length_append]
    rw [List.length_take,List.length_drop] at g2
    omega
  unfold plansF nextPl at h
  simp only [] at h
  unfold V.vPlanF V.SH V.LN
  simp only [tkl,Nat.zero_add,Nat.le_refl,true_and,and_true]
  refine oc_i (fun e=>by cases e) (fun p' e=>?_)
  cases e
  refine oc_i (fun e=>?_) (fun hh e=>?_)<;>subst e<;>
    exact ⟨⟨hp1,hp2,hp3,hp4,hp5,hp6⟩,⟨by omega,by omega,by omega⟩,br_dec (fun g=>by rw [if_pos g] at h;exact h) (fun g=>⟨hlo,⟨Int.le_refl _,hlo⟩,by rw [if_neg g] at h;exact h⟩)⟩
theorem vCommitF {f:Fill} {c:Core} {s:LockSet} {k:Fill × Core × LockSet × Unit→Choice × Bool × Bool × Unit→Prop} (h:oCommitF (f,c,s,()) k):V.vCommitF f c s k:=by
  obtain ⟨P,who,sm,dp,st,it,vr,ch,q,hd,tk,sl⟩:=f
  obtain ⟨⟨⟨hh,e,hp⟩,hq,hq2,hch⟩,h⟩:=h
  have hp:PreH hh c:=hp
  simp only [] at e hq hq2 hch
  subst e
  obtain ⟨x,hx⟩: ∃x,ch[q.toNat]? =some x:=⟨_,List.getElem?_eq_getElem (by omega)⟩
  have h:k ((commitO ⟨P,who,sm,dp,st,it,vr,ch,q,some hh,tk,sl⟩ c s).2.1,(commitO ⟨P,who,sm,dp,st,it,vr,ch,q,some hh,tk,sl⟩ c s).2.2.1,(commitO ⟨P,who,sm,dp,st,it,vr,ch,q,some hh,tk,sl⟩ c s).2.2.2,()) ((commitO ⟨P,who,sm,dp,st,it,vr,ch,q,some hh,tk,sl⟩ c s).1.1,(commitO ⟨P,who,sm,dp,st,it,vr,ch,q,some hh,tk,sl⟩ c s).1.2.1,(commitO ⟨P,who,sm,dp,st,it,vr,ch,q,some hh,tk,sl⟩ c s).1.2.2,()):=h
  have eo:commitO ⟨P,who,sm,dp,st,it,vr,ch,q,some hh,tk,sl⟩ c s=commitF ⟨P,who,sm,dp,st,it,vr,ch,q,some hh,tk,sl⟩ hh x c s:=by
    unfold commitO;simp only [hx]
  rw [eo] at h
  clear eo
  have hpw:PW c.P:=hp.1.2.2
  unfold commitF at h
  simp only [] at h
  unfold V.vCommitF V.NM V.SH V.AT
  simp only [tkl,Nat.zero_add,Nat.le_refl,true_and,and_true,nd2]
  have hpn: ∀(a:Option Planner) (H:Go.Ax.Hand) (tk' q':Int) (sl':Bool),q'=wr (q+1)→PreNxt ⟨a,who,sm,dp,st,it,vr,ch,q',some H,tk',sl'⟩:=fun a H tk' q' sl' e=>by
    subst e
    have e2:wr (q+1)=q+1:=w64 (by omega)
    exact ⟨by simp only [];omega,hch⟩
  have key: ∀(sl':Bool),sl'=(if hh.stage=1∧q=0 then decide (c.P.ver≠vr) else sl)→
      br (stepH hh c s).1 (br (stepH hh c s).2.1.W.ok (∀n,n=IntKind.i64.wrap (tk+1)→br (decide (stageO (some (stepH hh c s).2.1)≥4)) (∀n1,n1=IntKind.i64.wrap (q+1)→PreNxt ⟨P,who,sm,dp,st,it,vr,ch,n1,some (stepH hh c s).2.1,n,sl'⟩∧br (!(stepH hh c s).1) (k (nextF ⟨P,who,sm,dp,st,it,vr,ch,n1,some (stepH hh c s).2.1,n,sl'⟩,(stepH hh c s).2.2.1,(stepH hh c s).2.2.2,()) (Choice.mk 0 0,false,false,())) (k (nextF ⟨P,who,sm,dp,st,it,vr,ch,n1,some (stepH hh c s).2.1,n,sl'⟩,(stepH hh c s).2.2.1,(stepH hh c s).2.2.2,()) (x,true,(stepH hh c s).2.1.W.ok,())))
          (br (!(stepH hh c s).1) (k (⟨P,who,sm,dp,st,it,vr,ch,q,some (stepH hh c s).2.1,n,sl'⟩,(stepH hh c s).2.2.1,(stepH hh c s).2.2.2,()) (Choice.mk 0 0,false,false,())) (k (⟨P,who,sm,dp,st,it,vr,ch,q,some (stepH hh c s).2.1,n,sl'⟩,(stepH hh c s).2.2.1,(stepH hh c s).2.2.2,()) (x,true,(stepH hh c s).2.1.W.ok,()))))
        (br (decide (stageO (some (stepH hh c s).2.1)≥4)) (∀n1,n1=IntKind.i64.wrap (q+1)→PreNxt ⟨P,who,sm,dp,st,it,vr,ch,n1,some (stepH hh c s).2.1,tk,sl'⟩∧br (!(stepH hh c s).1) (k (nextF ⟨P,who,sm,dp,st,it,vr,ch,n1,some (stepH hh c s).2.1,tk,sl'⟩,(stepH hh c s).2.2.1,(stepH hh c s).2.2.2,()) (Choice.mk 0 0,false,false,())) (k (nextF ⟨P,who,sm,dp,st,it,vr,ch,n1,some (stepH hh c s).2.1,tk,sl'⟩,(stepH hh c s).2.2.1,(stepH hh c s).2.2.2,()) (x,true,(stepH hh c s).2.1.W.ok,())))
          (br (!(stepH hh c s).1) (k (⟨P,who,sm,dp,st,it,vr,ch,q,some (stepH hh c s).2.1,tk,sl'⟩,(stepH hh c s).2.2.1,(stepH hh c s).2.2.2,()) (Choice.mk 0 0,false,false,())) (k (⟨P,who,sm,dp,st,it,vr,ch,q,some (stepH hh c s).2.1,tk,sl'⟩,(stepH hh c s).2.2.1,(stepH hh c s).2.2.2,()) (x,true,(stepH hh c s).2.1.W.ok,())))))
        (br (decide (stageO (some (stepH hh c s).2.1)≥4)) (∀n1,n1=IntKind.i64.wrap (q+1)→PreNxt ⟨P,who,sm,dp,st,it,vr,ch,n1,some (stepH hh c s).2.1,tk,sl'⟩∧br (!(stepH hh c s).1) (k (nextF ⟨P,who,sm,dp,st,it,vr,ch,n1,some (stepH hh c s).2.1,tk,sl'⟩,(stepH hh c s).2.2.1,(stepH hh c s).2.2.2,()) (Choice.mk 0 0,false,false,())) (k (nextF ⟨P,who,sm,dp,st,it,vr,ch,n1,some (stepH hh c s).2.1,tk,sl'⟩,(stepH hh c s).2.2.1,(stepH hh c s).2.2.2,()) (x,true,(stepH hh c s).2.1.W.ok,())))
          (br (!(stepH hh c s).1) (k (⟨P,who,sm,dp,st,it,vr,ch,q,some (stepH hh c s).2.1,tk,sl'⟩,(stepH hh c s).2.2.1,(stepH hh c s).2.2.2,()) (Choice.mk 0 0,false,false,())) (k (⟨P,who,sm,dp,st,it,vr,ch,q,some (stepH hh c s).2.1,tk,sl'⟩,(stepH hh c s).2.2.1,(stepH hh c s).2.2.2,()) (x,true,(stepH hh c s).2.1.W.ok,())))):=fun sl' es=>by
    rw [←es] at h
    generalize stepH hh c s=r at h ⊢
    obtain ⟨T,H,c',s'⟩:=r
    simp only [] at h ⊢
    cases T with
    |true=>
      cases ho:H.W.ok with
      |true=>
        simp only [ho,eq_self,and_self,if_true] at h
        intro n hn;subst hn
        refine br_dec (fun g4 n1 hn1=>⟨hpn _ _ _ _ _ hn1,?_⟩) (fun g4=>?_)
        · subst hn1;rw [if_pos (show 4≤H.stage from g4)] at h;exact h
        · rw [if_neg (show ¬ 4≤H.stage from g4)] at h;exact h
      |false=>
        simp only [ho,eq_self,Bool.false_eq_true,and_false,if_false,if_true] at h
        refine br_dec (fun g4 n1 hn1=>⟨hpn _ _ _ _ _ hn1,?_⟩) (fun g4=>?_)
        · subst hn1;rw [if_pos (show 4≤H.stage from g4)] at h;exact h
        · rw [if_neg (show ¬ 4≤H.stage from g4)] at h;exact h
    |false=>
      simp only [Bool.false_eq_true,false_and,if_false] at h
      refine br_dec (fun g4 n1 hn1=>⟨hpn _ _ _ _ _ hn1,?_⟩) (fun g4=>?_)
      · subst hn1;rw [if_pos (show 4≤H.stage from g4)] at h;exact h
      · rw [if_neg (show ¬ 4≤H.stage from g4)] at h;exact h
  have hall:(0≤q∧q<(ch.length:Int))∧q.toNat<ch.length:=⟨⟨hq,hq2⟩,by omega⟩
  refine oc_i (fun e=>?_) (fun p e=>?_)<;>subst e<;>refine oc_i (fun e=>by cases e) (fun h2 e=>?_)<;>cases e<;>
    refine ⟨hall.1,hall.2,fun e he=>?_⟩<;>rw [hx] at he<;>cases he<;>
    exact br_eq (fun (g1:hh.stage=1)=>br_eq (fun g2=>⟨hpw,hp,key _ (by rw [if_pos ⟨g1,g2⟩])⟩) (fun g2=>⟨hp,key _ (by rw [if_neg (fun hh=>g2 hh.2)])⟩)) (fun (g1: ¬ hh.stage=1)=>⟨hp,key _ (by rw [if_neg (fun hh=>g1 hh.1)])⟩)
theorem vStepF {f:Fill} {c:Core} {s:LockSet} {k:Fill × Core × LockSet × Unit→Choice × Bool × Bool × Unit→Prop} (h:oStepF (f,c,s,()) k):V.vStepF f c s k:=by
  obtain ⟨⟨h1,h2,h3⟩,h⟩:=h
  have h:k ((stepF f c s).2.1,(stepF f c s).2.2.1,(stepF f c s).2.2.2,()) ((stepF f c s).1.1,(stepF f c s).1.2.1,(stepF f c s).1.2.2,()):=h
  simp only [] at h1 h2 h3
  unfold stepF at h
  unfold V.vStepF V.SH
  simp only [stageF]
  refine br_eq (fun g=>?_) (fun g0=>br_eq (fun g=>?_) (fun g3=>br_eq (fun g=>?_) (fun g1=>br_eq (fun g=>?_) (fun g4=>br_eq (fun g=>?_) (fun g2=>br_eq (fun g=>?_) (fun g5=>br_eq (fun g=>?_) (fun g6=>br_eq (fun g=>?_) (fun g7=>?_))))))))
  · rw [if_pos (.inl g)] at h;exact h
  · rw [if_pos (.inr g)] at h;exact h
  · rw [if_neg (by omega),if_pos (.inl g)] at h;exact ⟨h1 (.inl g),h⟩
  · rw [if_neg (by omega),if_pos (.inr g)] at h;exact ⟨h1 (.inr g),h⟩
  · rw [if_neg (by omega),if_neg (by omega),if_pos (.inl g)] at h;exact h
  · rw [if_neg (by omega),if_neg (by omega),if_pos (.inr g)] at h;exact h
  · rw [if_neg (by omega),if_neg (by omega),if_neg (by omega),if_pos g] at h;exact ⟨h2 g,h⟩
  · rw [if_neg (by omega),if_neg (by omega),if_neg (by omega),if_neg (by omega),if_pos g] at h;exact ⟨h3 g,h⟩
  · rw [if_neg (by omega),if_neg (by omega),if_neg (by omega),if_neg (by omega),if_neg (by omega)] at h;exact h
end Go.Ax.O
