import Derived.Test.YtnoinchifbckcaaGreatDoorAxP8
import Derived.Test.YtnoinchifbckcaaGreatDoorAxD14
set_option linter.all false
namespace Go.Ax.Sp
abbrev cv (c:Core):AV:= .cptr ((OK.unf .core c).map (viewFld 8)) 0
def sDoP:Sig:=⟨[(.obj .core,true),(.obj .model,true),(.elem .deed,false)],[.bool]⟩
def oDoP:sDoP.Out:=fun x k=>(∃n,Law.Stb n x.1 x.2.1)∧k (Law.doD x.1 x.2.2.1,Law.doDM x.2.1 x.2.2.1,()) (true,())
def sUnlike:Sig:=⟨[(.view .core,false),(.view .model,false)],[.int .i64]⟩
def oUnlike:sUnlike.Out:=fun x k=>(∃n,Law.Stb n x.1 x.2.1)∧k () (0,())
def lUnlike:LoopAnn:={X:=Core × Model × Int × Int,live:=fun x=>[(0,cv x.1),(1,mv x.2.1),(5,.int .i64 x.2.2.1),(6,.int .i64 x.2.2.2)],heap:=fun _=>[]}
def sPlays:Sig:=⟨[(.int .i64,false),(.imm .deed,false)],[.bool]⟩
def oPlays:sPlays.Out:=fun _ k=>k () (true,())
def lPlays:LoopAnn:={X:=List Deed × Core × Model × Int,live:=fun x=>[(1,.imm .deed x.1),(5,.ptr ⟨0,0,0,0⟩),(7,.ptr ⟨1,0,0,0⟩),(8,.int .i64 x.2.2.2)],heap:=fun x=>[some (.obj .core x.2.1),some (.obj .model x.2.2.1)],norm:=[.fold 0 .core,.fold 1 .model]}
end Go.Ax.Sp
