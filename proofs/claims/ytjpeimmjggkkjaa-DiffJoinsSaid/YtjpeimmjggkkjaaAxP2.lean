/-
  Contracts: whose plans moved between jobs.
-/
import Derived.Test.YtjpeimmjggkkjaaAxP1
set_option linter.all false
namespace Go.Ax.Law
def few (l : List Job) : List Job := (l.take 30).map fun j => { j with Id := j.Id.tmod 1099511627776 }
/-- Did the plan of a job move, lower or else? -/
def mv (a b : Job) (low : Bool) : Bool :=
  decide (a.State = 1) && decide (b.State = 1) && decide (0 ≤ a.Plan) && (if low then decide (0 ≤ b.Plan) && decide (b.Plan < a.Plan) else decide (b.Plan < 0) || decide (a.Plan < b.Plan))
def movedB (was now : List Job) (id : Int) (low : Bool) : Bool := was.any fun a => now.any fun b => decide (a.Id = id) && decide (b.Id = id) && mv a b low
def movedRaw (was now : List Job) (low : Bool) : List Int := (was.filter fun a => now.any fun b => decide (a.Id = b.Id) && mv a b low).map fun a => a.Id
def sortI (l : List Int) : List Int := l.mergeSort fun x y => decide (x ≤ y)
def compact : List Int → List Int
  | [] => []
  | [x] => [x]
  | x :: y :: r => if x = y then compact (y :: r) else x :: compact (y :: r)
def movedIds (was now : List Job) (low : Bool) : List Int := compact (sortI (movedRaw was now low))
def RightOK (got : List Int) (was now : List Job) (low : Bool) : Prop :=
  (∀ (i : Nat) x, got[i]? = some x → movedB was now x low = true ∧ (∀ y, 0 < i → got[i - 1]? = some y → y < x)) ∧ ∀ a ∈ was, movedB was now a.Id low = got.any fun x => decide (x = a.Id)
end Go.Ax.Law
namespace Go.Ax.Sp
def sFew : Sig := ⟨[(.imm .job, false)], [.row .job]⟩
def oFew : sFew.Out := fun x k => k () (Law.few x.1, ())
def lFew : LoopAnn := { X := List Job × List Job × Int, live := fun x => [(0, .imm .job x.1), (3, .sl 0 10 0 x.2.1.length), (4, .int .i64 x.2.2)], heap := fun x => [some (.row .job x.2.1)], norm := [.row 3 .job, .home 3 0] }
def sMvd : Sig := ⟨[(.imm .job, false), (.imm .job, false), (.int .i64, false), (.bool, false)], [.bool]⟩
def oMvd : sMvd.Out := fun x k => (x.1.length ≤ 1099511627776 ∧ x.2.1.length ≤ 1099511627776) ∧ k () (Law.movedB x.1 x.2.1 x.2.2.1 x.2.2.2.1, ())
def lMvd1 : LoopAnn := { X := List Job × List Job × Int × Bool × Int, live := fun x => [(0, .imm .job x.1), (1, .imm .job x.2.1), (2, .int .i64 x.2.2.1), (3, .bool x.2.2.2.1), (9, .int .i64 x.2.2.2.2)], heap := fun _ => [] }
def lMvd2 : LoopAnn := { X := List Job × List Job × Int × Bool × Int × Int, live := fun x => [(0, .imm .job x.1), (1, .imm .job x.2.1), (2, .int .i64 x.2.2.1), (3, .bool x.2.2.2.1), (9, .int .i64 x.2.2.2.2.1), (10, .int .i64 x.2.2.2.2.2)], heap := fun _ => [] }
def sSortI : Sig := ⟨[(.row .i64, true)], []⟩
def oSortI : sSortI.Out := fun x k => x.1.length ≤ 1099511627776 ∧ k (Law.sortI x.1, ()) ()
def sCompI : Sig := ⟨[(.row .i64, false)], [.part .i64]⟩
def oCompI : sCompI.Out := fun x k => x.1.length ≤ 1099511627776 ∧ k () (Law.compact x.1, ())
def lCp1 : LoopAnn := { X := List Int × Int, live := fun x => [(0, .sl 0 1 0 x.1.length), (3, .int .i64 x.2)], heap := fun x => [some (.row .i64 x.1)] }
def lCp2 : LoopAnn := { X := List Int × Int × Nat × Nat × Int, live := fun x => [(0, .sl 0 1 0 x.1.length), (3, .int .i64 x.2.1), (4, .sl 0 1 x.2.2.1 x.2.2.2.1), (5, .int .i64 x.2.2.2.2)], heap := fun x => [some (.row .i64 x.1)] }
def sDmoved : Sig := ⟨[(.imm .job, false), (.imm .job, false), (.bool, false)], [.part .i64]⟩
def oDmoved : sDmoved.Out := fun x k => (x.1.length ≤ 1099511 ∧ x.2.1.length ≤ 1099511) ∧ k () (Law.movedIds x.1 x.2.1 x.2.2.1, ())
def lDm1 : LoopAnn := { X := List Job × List Job × Bool × List Int × Int, live := fun x => [(1, .imm .job x.2.1), (2, .bool x.2.2.1), (7, .sl 0 1 0 x.2.2.2.1.length), (12, .imm .job x.1), (13, .int .i64 x.1.length), (14, .int .i64 x.2.2.2.2)], heap := fun x => [some (.row .i64 x.2.2.2.1)], norm := [.row 7 .i64, .home 7 0] }
def lDm2 : LoopAnn := { X := List Job × List Job × Bool × List Int × Int × Job × Int, live := fun x => [(1, .imm .job x.2.1), (2, .bool x.2.2.1), (7, .sl 0 1 0 x.2.2.2.1.length), (12, .imm .job x.1), (13, .int .i64 x.1.length), (14, .int .i64 x.2.2.2.2.1), (9, .ptr ⟨1, 0, 0, 0⟩), (18, .imm .job x.2.1), (19, .int .i64 x.2.1.length), (20, .int .i64 x.2.2.2.2.2.2)], heap := fun x => [some (.row .i64 x.2.2.2.1), some (.raw (EK.enc .job x.2.2.2.2.2.1))] }
def sRaised : Sig := ⟨[(.imm .job, false), (.imm .job, false)], [.part .i64]⟩
def oRaised (low : Bool) : sRaised.Out := fun x k => (x.1.length ≤ 1099511 ∧ x.2.1.length ≤ 1099511) ∧ k () (Law.movedIds x.1 x.2.1 low, ())
def sRight : Sig := ⟨[(.imm .i64, false), (.imm .job, false), (.imm .job, false), (.bool, false)], [.bool]⟩
def oRight : sRight.Out := fun x k => (Law.RightOK x.1 x.2.1 x.2.2.1 x.2.2.2.1 ∧ x.1.length ≤ 1099511 ∧ x.2.1.length ≤ 1099511 ∧ x.2.2.1.length ≤ 1099511) ∧ k () (true, ())
def lRi1 : LoopAnn := { X := List Int × List Job × List Job × Bool × Int, live := fun x => [(0, .imm .i64 x.1), (1, .imm .job x.2.1), (2, .imm .job x.2.2.1), (3, .bool x.2.2.2.1), (9, .int .i64 x.2.2.2.2)], heap := fun _ => [] }
def lRi2 : LoopAnn := { X := List Int × List Job × List Job × Bool × Int, live := fun x => [(0, .imm .i64 x.1), (1, .imm .job x.2.1), (2, .imm .job x.2.2.1), (3, .bool x.2.2.2.1), (10, .int .i64 x.2.2.2.2)], heap := fun _ => [] }
def lRi3 : LoopAnn := { X := List Int × List Job × List Job × Bool × Int × Bool × Int, live := fun x => [(0, .imm .i64 x.1), (1, .imm .job x.2.1), (2, .imm .job x.2.2.1), (3, .bool x.2.2.2.1), (10, .int .i64 x.2.2.2.2.1), (11, .bool x.2.2.2.2.2.1), (12, .int .i64 x.2.2.2.2.2.2)], heap := fun _ => [] }
def sPlans : Sig := ⟨[(.imm .job, false), (.imm .job, false)], [.bool]⟩
def oPlans : sPlans.Out := fun _ k => k () (true, ())
end Go.Ax.Sp
