import Derived.Test.YtbmabiedmdlinaaGreatDoorAxW
import Derived.WideKeyArgs
set_option linter.all false
namespace Go.Ax
open Go.ChangeShapes Go.WideShapes
inductive CK where
 |int (k:IntKind)
 |bool
def EK.ofCells:(k:EK)→(Nat→Int)→(Nat→Bool)→k.T
 | .i64,f,_=>(f 0)
 | .u8,f,_=>(f 0)
 | .u64,f,_=>(f 0)
 | .bool,_,g=>(g 0)
 | .job,f,_=>⟨(f 0),(f 1),(f 2),(f 3),(f 4),(f 5),(f 6),(f 7),(f 8),(f 9)⟩
 | .req,f,g=>⟨(f 0),(f 1),(f 2),(f 3),(f 4),(f 5),(g 6),(f 7),(f 8)⟩
 | .reply,f,_=>⟨(f 0),(f 1),(f 2),(f 3),(f 4),(f 5),(f 6),(f 7),(f 8)⟩
 | .step,f,_=>⟨(f 0),(f 1)⟩
 | .span,f,_=>⟨(f 0),(f 1),(f 2)⟩
 | .item,f,_=>⟨(f 0),(f 1),(f 2),(f 3)⟩
 | .choice,f,_=>⟨(f 0),(f 1)⟩
 | .event,f,g=>⟨(f 0),(f 1),(f 2),⟨(f 3),(f 4),(f 5),(f 6),(f 7),(f 8),(g 9),(f 10),(f 11)⟩,⟨(f 12),(f 13),(f 14),(f 15),(f 16),(f 17),(f 18),(f 19),(f 20)⟩,⟨(f 21),(f 22)⟩,(g 23)⟩
 | .deed,f,g=>⟨(g 0),⟨(f 1),(f 2),(f 3),(f 4),(f 5),(f 6),(g 7),(f 8),(f 9)⟩,⟨(f 10),(f 11)⟩⟩
 | .sdeed,f,g=>⟨⟨(f 0),(f 1),(f 2),(f 3),(f 4),(f 5),(g 6),(f 7),(f 8)⟩,⟨(f 9),(f 10)⟩,(g 11)⟩
 | .change,f,g=>⟨(f 0),(f 1),(f 2),(g 3)⟩
 | .answer,f,_=>⟨(f 0),⟨(f 1),(f 2),(f 3),(f 4),(f 5),(f 6),(f 7),(f 8),(f 9)⟩⟩
 | .told37,f,_=>⟨(f 0),(f 1),(f 2)⟩
 | .entry,f,_=>⟨(f 0),(f 1),(f 2),(f 3),(f 4),(f 5)⟩
 | .arr7,f,_=>⟨(f 0),(f 1),(f 2),(f 3),(f 4),(f 5),(f 6)⟩
 | .lane,f,g=>⟨(g 0),(g 1),(g 2)⟩
 |k,_,_=>k.def
def CK.av (f:Nat→Int) (g:Nat→Bool):Nat→List CK→List AV
 |_,[]=>[]
 |j,.int k::r=> .int k (f j)::CK.av f g (j+1) r
 |j,.bool::r=> .bool (g j)::CK.av f g (j+1) r
variable {H:Type} {enc:TypeId × Value→H} {P:Program} {w:World} {base:Nat} {spare:Nat→Bool} {held:Bool}
end Go.Ax

