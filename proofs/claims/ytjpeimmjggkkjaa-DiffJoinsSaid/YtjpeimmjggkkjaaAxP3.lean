/-
  Contracts: changes between jobs, as they are told, and the law on them.
-/
import Derived.Test.YtjpeimmjggkkjaaAxP2
set_option linter.all false
namespace Go.Ax.Law
/-- Sorted by a function, each id once. -/
def SortPre (xs : List Change) : Prop := SmallIds xs ∧ (xs.map Change.Id).Nodup ∧ xs.length ≤ 1099511627776
def Sorted (xs ys : List Change) : Prop := ys.Perm xs ∧ ys.Pairwise fun a b => a.Id < b.Id
def OfPre2 (was now : List Job) : Prop := SmallJobs was ∧ SmallJobs now ∧ was.length ≤ 1099511627776 ∧ now.length ≤ 1099511627
/-- Where an id is first. -/
def findI (l : List Job) (id : Int) : Int := match l.findIdx? fun x => decide (x.Id = id) with | some i => (i : Int) | none => -1
/-- The change of one of the later jobs. -/
def ofC (was now : List Job) (i : Nat) : Change × Bool :=
  match now[i]? with
  | none => (⟨0, 0, 0, false⟩, false)
  | some j => if findI now j.Id ≠ (i : Int) then (⟨0, 0, 0, false⟩, false) else
    match was.find? fun x => decide (x.Id = j.Id) with
    | none => (⟨j.Id, 0, j.State, decide (0 ≤ j.Plan)⟩, true)
    | some x => (⟨j.Id, x.State, j.State, decide (x.Plan ≠ j.Plan)⟩, decide (x.State ≠ j.State) || decide (x.Plan ≠ j.Plan))
def bad (c : Change) : Bool := !may c.From c.To
def findBad (l : List Change) : Int := match l.findIdx? bad with | some i => (i : Int) | none => -1
def hit (m : Int) (c : Change) : Bool := decide (c.To = m) && decide (c.To ≠ c.From)
def cnt (l : List Change) (m : Int) : Int := (l.countP (hit m) : Nat)
def count (l : List Change) : Arr7 := ⟨cnt l 0, cnt l 1, cnt l 2, cnt l 3, cnt l 4, cnt l 5, cnt l 6⟩
end Go.Ax.Law
namespace Go.Ax.Sp
def oSortF2 (f : FuncId) : (sSortF f).Out := fun x k => Law.SortPre x.1 ∧ ∀ ys, Law.Sorted x.1 ys → k (ys, ()) ()
def oOf2 : sOf.Out := fun x k => Law.OfPre2 x.1 x.2.1 ∧ ∀ ys, Law.Sorted (Law.diffs x.1 x.2.1) ys → k () (ys, ())
def sFind : Sig := ⟨[(.imm .job, false), (.int .i64, false)], [.int .i64]⟩
def oFind : sFind.Out := fun x k => x.1.length ≤ 1099511627776 ∧ k () (Law.findI x.1 x.2.1, ())
def lFind : LoopAnn := { X := List Job × Int × Int, live := fun x => [(0, .imm .job x.1), (1, .int .i64 x.2.1), (5, .int .i64 x.2.2)], heap := fun _ => [] }
def sOfC : Sig := ⟨[(.imm .job, false), (.imm .job, false), (.int .i64, false)], [.elem .change, .bool]⟩
def oOfC : sOfC.Out := fun x k => (x.1.length ≤ 1099511627776 ∧ x.2.1.length ≤ 1099511627776 ∧ 0 ≤ x.2.2.1 ∧ x.2.2.1 < x.2.1.length) ∧ k () ((Law.ofC x.1 x.2.1 x.2.2.1.toNat).1, (Law.ofC x.1 x.2.1 x.2.2.1.toNat).2, ())
def sBad : Sig := ⟨[(.elem .change, false)], [.bool]⟩
def oBad : sBad.Out := fun x k => k () (Law.bad x.1, ())
def sIdxF (f : FuncId) : Sig := ⟨[(.imm .change, false), (.fn f, false)], [.int .i64]⟩
def oIdxF (f : FuncId) : (sIdxF f).Out := fun x k => x.1.length ≤ 1099511627776 ∧ k () (Law.findBad x.1, ())
def lIdxF (f : FuncId) : LoopAnn := { X := List Change × Int, live := fun x => [(0, .imm .change x.1), (1, .fn f []), (7, .int .i64 x.1.length), (8, .int .i64 x.2)], heap := fun _ => [] }
def sConF (f : FuncId) : Sig := ⟨[(.imm .change, false), (.fn f, false)], [.bool]⟩
def oConF (f : FuncId) : (sConF f).Out := fun x k => x.1.length ≤ 1099511627776 ∧ k () (decide (0 ≤ Law.findBad x.1), ())
def sSound : Sig := ⟨[(.imm .change, false)], [.bool]⟩
def oSound : sSound.Out := fun x k => x.1.length ≤ 1099511627776 ∧ k () (!decide (0 ≤ Law.findBad x.1), ())
def sCount : Sig := ⟨[(.imm .change, false)], [.elem .arr7]⟩
def oCount : sCount.Out := fun x k => x.1.length ≤ 1099511627776 ∧ k () (Law.count x.1, ())
def lCount : LoopAnn := { X := List Change × Arr7 × Int, live := fun x => [(2, .ptr ⟨0, 0, 0, 0⟩), (3, .ptr ⟨1, 0, 0, 0⟩), (6, .imm .change x.1), (7, .int .i64 x.1.length), (8, .int .i64 x.2.2)], heap := fun x => [some (.raw [.int .i64 0, .int .i64 0, .int .i64 0, .int .i64 0, .int .i64 0, .int .i64 0, .int .i64 0]), some (.raw (EK.enc .arr7 x.2.1))] }
def lCh1 : LoopAnn := { X := List Job × List Job × List Change × Int × Bool × Arr7 × Int, live := fun x => [(0, .sl 0 10 0 x.1.length), (1, .sl 1 10 0 x.2.1.length), (5, .sl 2 4 0 x.2.2.1.length), (6, .int .i64 x.2.2.2.1), (7, .bool x.2.2.2.2.1), (8, .ptr ⟨3, 0, 0, 0⟩), (9, .int .i64 x.2.2.2.2.2.2)], heap := fun x => [some (.row .job x.1), some (.row .job x.2.1), some (.row .change x.2.2.1), some (.raw (EK.enc .arr7 x.2.2.2.2.2.1))] }
def lCh2 : LoopAnn := { X := List Job × List Job × List Change × Int × Bool × Arr7 × Int × Change × Int × Int, live := fun x => [(0, .sl 0 10 0 x.1.length), (1, .sl 1 10 0 x.2.1.length), (5, .sl 2 4 0 x.2.2.1.length), (6, .int .i64 x.2.2.2.1), (7, .bool x.2.2.2.2.1), (8, .ptr ⟨3, 0, 0, 0⟩), (9, .int .i64 x.2.2.2.2.2.2.1), (10, .ptr ⟨4, 0, 0, 0⟩), (12, .int .i64 x.2.2.2.2.2.2.2.2.1), (13, .int .i64 x.2.2.2.2.2.2.2.2.2)], heap := fun x => [some (.row .job x.1), some (.row .job x.2.1), some (.row .change x.2.2.1), some (.raw (EK.enc .arr7 x.2.2.2.2.2.1)), some (.raw (EK.enc .change x.2.2.2.2.2.2.2.1))] }
def sChanges : Sig := ⟨[(.imm .job, false), (.imm .job, false)], [.bool]⟩
def oChanges : sChanges.Out := fun _ k => k () (true, ())
end Go.Ax.Sp
