/-
  Contracts: sorting of changes.
-/
import Derived.Test.YtjpeimmjggkkjaaAxS1
set_option linter.all false
namespace Go.Ax.Law
def idCmp (a b : Change) : Int := IntKind.i64.wrap (a.Id - b.Id)
def SmallIds (xs : List Change) : Prop := ∀ c ∈ xs, -1099511627776 ≤ c.Id ∧ c.Id ≤ 1099511627776
def InsPre (xs : List Change) (a b : Int) : Prop := SmallIds xs ∧ 0 ≤ a ∧ a ≤ b ∧ b ≤ xs.length ∧ xs.length ≤ 1099511627776
end Go.Ax.Law
namespace Go.Ax.Sp
def sIdCmp : Sig := ⟨[(.elem .change, false), (.elem .change, false)], [.int .i64]⟩
def oIdCmp : sIdCmp.Out := fun x k => k () (Law.idCmp x.1 x.2.1, ())
def sIns (f : FuncId) : Sig := ⟨[(.row .change, true), (.int .i64, false), (.int .i64, false), (.fn f, false)], []⟩
def oIns (f : FuncId) : (sIns f).Out := fun x k => Law.InsPre x.1 x.2.1 x.2.2.1 ∧ ∀ ys, Law.SortedSeg Change.Id x.1 ys x.2.1 x.2.2.1 → k (ys, ()) ()
def lIns1 (f : FuncId) : LoopAnn := { X := List Change × Int × Int × Int, live := fun x => [(0, .sl 0 4 0 x.1.length), (1, .int .i64 x.2.1), (2, .int .i64 x.2.2.1), (3, .fn f []), (8, .int .i64 x.2.2.2)], heap := fun x => [some (.row .change x.1)] }
def lIns2 (f : FuncId) : LoopAnn := { X := List Change × Int × Int × Int × Int, live := fun x => [(0, .sl 0 4 0 x.1.length), (1, .int .i64 x.2.1), (2, .int .i64 x.2.2.1), (3, .fn f []), (8, .int .i64 x.2.2.2.1), (9, .int .i64 x.2.2.2.2)], heap := fun x => [some (.row .change x.1)] }
end Go.Ax.Sp
namespace Go.Ax.Law
def may (x y : Int) : Bool :=
  (decide (0 ≤ x) && decide (x ≤ 2) && decide (1 ≤ y) && decide (y ≤ 6)) || (decide (x = 3) && decide (3 ≤ y) && decide (y ≤ 6)) || (decide (4 ≤ x) && decide (x ≤ 6) && decide (x = y))
/-- What has become of a job, if its id is the first of its kind. -/
def chg (was : List Job) (j : Job) : Option Change :=
  match was.find? fun x => decide (x.Id = j.Id) with
  | none => some ⟨j.Id, 0, j.State, decide (0 ≤ j.Plan)⟩
  | some x => if x.State ≠ j.State ∨ x.Plan ≠ j.Plan then some ⟨j.Id, x.State, j.State, decide (x.Plan ≠ j.Plan)⟩ else none
def diffsTo (was now : List Job) : Nat → List Change
  | 0 => []
  | n + 1 => diffsTo was now n ++ (match now[n]? with
    | some j => if (now.take n).any fun x => decide (x.Id = j.Id) then [] else (chg was j).toList
    | none => [])
def diffs (was now : List Job) : List Change := diffsTo was now now.length
def SmallJobs (xs : List Job) : Prop := ∀ c ∈ xs, -1099511627776 ≤ c.Id ∧ c.Id ≤ 1099511627776
def PdqPre (xs : List Change) (a b : Int) : Prop := InsPre xs a b ∧ b - a ≤ 12
def OfPre (was now : List Job) : Prop := SmallJobs was ∧ SmallJobs now ∧ was.length ≤ 1099511627776 ∧ now.length ≤ 12
end Go.Ax.Law
namespace Go.Ax.Sp
def sLen : Sig := ⟨[(.int .u64, false)], [.int .i64]⟩
def oLen : sLen.Out := fun x k => 0 ≤ x.1 ∧ ∀ n, 0 ≤ n → n ≤ 400 → k () (n, ())
def sPdq (f : FuncId) : Sig := ⟨[(.row .change, true), (.int .i64, false), (.int .i64, false), (.int .i64, false), (.fn f, false)], []⟩
def oPdq (f : FuncId) : (sPdq f).Out := fun x k => Law.PdqPre x.1 x.2.1 x.2.2.1 ∧ ∀ ys, Law.SortedSeg Change.Id x.1 ys x.2.1 x.2.2.1 → k (ys, ()) ()
def lPdq (f : FuncId) : LoopAnn := { X := List Change × Int × Int × Int × Bool × Bool, live := fun x => [(0, .sl 0 4 0 x.1.length), (1, .int .i64 x.2.1), (2, .int .i64 x.2.2.1), (3, .int .i64 x.2.2.2.1), (4, .fn f []), (10, .bool x.2.2.2.2.1), (11, .bool x.2.2.2.2.2)], heap := fun x => [some (.row .change x.1)] }
def sSortF (f : FuncId) : Sig := ⟨[(.row .change, true), (.fn f, false)], []⟩
def oSortF (f : FuncId) : (sSortF f).Out := fun x k => Law.PdqPre x.1 0 x.1.length ∧ ∀ ys, Law.SortedSeg Change.Id x.1 ys 0 x.1.length → k (ys, ()) ()
def sOf : Sig := ⟨[(.imm .job, false), (.imm .job, false)], [.row .change]⟩
def oOf : sOf.Out := fun x k => Law.OfPre x.1 x.2.1 ∧ ∀ ys, Law.SortedSeg Change.Id (Law.diffs x.1 x.2.1) ys 0 (Law.diffs x.1 x.2.1).length → k () (ys, ())
def lOf1 : LoopAnn := { X := List Job × List Job × List (Int × Job) × Int, live := fun x => [(1, .imm .job x.2.1), (5, .mp 0), (17, .imm .job x.1), (18, .int .i64 x.1.length), (19, .int .i64 x.2.2.2)], heap := fun x => [some (.map .job x.2.2.1)] }
def lOf2 : LoopAnn := { X := List Job × List (Int × Job) × List (Int × Bool) × List Change × Int, live := fun x => [(5, .mp 0), (10, .mp 1), (11, .sl 2 4 0 x.2.2.2.1.length), (38, .imm .job x.1), (39, .int .i64 x.1.length), (40, .int .i64 x.2.2.2.2)], heap := fun x => [some (.map .job x.2.1), some (.map .bool x.2.2.1), some (.row .change x.2.2.2.1)], norm := [.row 11 .change, .home 11 2] }
def sMay : Sig := ⟨[(.int .i64, false), (.int .i64, false)], [.bool]⟩
def oMay : sMay.Out := fun x k => k () (Law.may x.1 x.2.1, ())
def sTrue : Sig := ⟨[], [.bool]⟩
def oTrue : sTrue.Out := fun _ k => k () (true, ())
def oMays : sMay.Out := fun _ k => k () (true, ())
end Go.Ax.Sp
