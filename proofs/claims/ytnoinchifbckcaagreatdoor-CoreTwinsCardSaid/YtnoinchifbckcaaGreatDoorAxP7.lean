/-
  Contracts: a stable sort of jobs.
-/
import Derived.Test.YtnoinchifbckcaaGreatDoorAxP6
import Derived.Test.YtnoinchifbckcaaGreatDoorAxS4
set_option linter.all false
namespace Go.Ax.Law
def SmallIdsB (xs : List Job) : Prop := ∀ c ∈ xs, -9223372036854775808 ≤ c.Id ∧ c.Id ≤ 9223372036854775807
def InsPreB (xs : List Job) (a b : Int) : Prop := SmallIdsB xs ∧ 0 ≤ a ∧ a ≤ b ∧ b ≤ xs.length ∧ xs.length ≤ 1099511627776
def SwapPreB (xs : List Job) (a b n : Int) : Prop := 0 ≤ a ∧ 0 ≤ b ∧ 0 ≤ n ∧ a + n ≤ xs.length ∧ b + n ≤ xs.length ∧ (a + n ≤ b ∨ b + n ≤ a) ∧ xs.length ≤ 1099511627776
def RotPreB (xs : List Job) (a m b : Int) : Prop := 0 ≤ a ∧ a < m ∧ m < b ∧ b ≤ xs.length ∧ xs.length ≤ 1099511627776
def SymPreB (N : Nat) (xs : List Job) (a m b : Int) : Prop := RotPreB xs a m b ∧ SmallIdsB xs ∧ (b - a).toNat < N ∧ Rises Law.keyJ xs a m ∧ Rises Law.keyJ xs m b
def StabPreB (xs : List Job) : Prop := SmallIdsB xs ∧ xs.length ≤ 1099511627776
end Go.Ax.Law
namespace Go.Ax.Sp
def sInsB (f : FuncId) : Sig := ⟨[(.row .job, true), (.int .i64, false), (.int .i64, false), (.fn f, false)], []⟩
def oInsB (f : FuncId) : (sInsB f).Out := fun x k => Law.InsPreB x.1 x.2.1 x.2.2.1 ∧ ∀ ys, Law.SortedSeg Law.keyJ x.1 ys x.2.1 x.2.2.1 → k (ys, ()) ()
def lIns1B (f : FuncId) : LoopAnn := { X := List Job × Int × Int × Int, live := fun x => [(0, .sl 0 10 0 x.1.length), (1, .int .i64 x.2.1), (2, .int .i64 x.2.2.1), (3, .fn f []), (8, .int .i64 x.2.2.2)], heap := fun x => [some (.row .job x.1)] }
def lIns2B (f : FuncId) : LoopAnn := { X := List Job × Int × Int × Int × Int, live := fun x => [(0, .sl 0 10 0 x.1.length), (1, .int .i64 x.2.1), (2, .int .i64 x.2.2.1), (3, .fn f []), (8, .int .i64 x.2.2.2.1), (9, .int .i64 x.2.2.2.2)], heap := fun x => [some (.row .job x.1)] }
def sSortFB (f : FuncId) : Sig := ⟨[(.row .job, true), (.fn f, false)], []⟩
def sSwapRB (f : FuncId) : Sig := ⟨[(.row .job, true), (.int .i64, false), (.int .i64, false), (.int .i64, false), (.fn f, false)], []⟩
def oSwapRB (f : FuncId) : (sSwapRB f).Out := fun x k => Law.SwapPreB x.1 x.2.1 x.2.2.1 x.2.2.2.1 ∧ ∀ ys, Law.Swapped x.1 ys x.2.1 x.2.2.1 x.2.2.2.1 → k (ys, ()) ()
def lSwapRB : LoopAnn := { X := List Job × Int × Int × Int × Int, live := fun x => [(0, .sl 0 10 0 x.1.length), (1, .int .i64 x.2.1), (2, .int .i64 x.2.2.1), (3, .int .i64 x.2.2.2.1), (10, .int .i64 x.2.2.2.2)], heap := fun x => [some (.row .job x.1)] }
def oRotB (f : FuncId) : (sSwapRB f).Out := fun x k => Law.RotPreB x.1 x.2.1 x.2.2.1 x.2.2.2.1 ∧ ∀ ys, Law.Rotated x.1 ys x.2.1 x.2.2.1 x.2.2.2.1 → k (ys, ()) ()
def lRotB (f : FuncId) : LoopAnn := { X := List Job × Int × Int × Int, live := fun x => [(0, .sl 0 10 0 x.1.length), (2, .int .i64 x.2.1), (4, .fn f []), (10, .int .i64 x.2.2.1), (11, .int .i64 x.2.2.2)], heap := fun x => [some (.row .job x.1)] }
def oSymB (f : FuncId) (N : Nat) : (sSwapRB f).Out := fun x k => Law.SymPreB N x.1 x.2.1 x.2.2.1 x.2.2.2.1 ∧ ∀ ys, Law.SortedSeg Law.keyJ x.1 ys x.2.1 x.2.2.2.1 → k (ys, ()) ()
def lSy1B (f : FuncId) : LoopAnn := { X := List Job × Int × Int × Int, live := fun x => [(0, .sl 0 10 0 x.1.length), (1, .int .i64 x.2.1), (4, .fn f []), (10, .int .i64 x.2.2.1), (11, .int .i64 x.2.2.2)], heap := fun x => [some (.row .job x.1)] }
def lSy2B : LoopAnn := { X := List Job × Int × Int, live := fun x => [(0, .sl 0 10 0 x.1.length), (10, .int .i64 x.2.1), (13, .int .i64 x.2.2)], heap := fun x => [some (.row .job x.1)] }
def lSy3B (f : FuncId) : LoopAnn := { X := List Job × Int × Int × Int, live := fun x => [(0, .sl 0 10 0 x.1.length), (2, .int .i64 x.2.1), (4, .fn f []), (14, .int .i64 x.2.2.1), (15, .int .i64 x.2.2.2)], heap := fun x => [some (.row .job x.1)] }
def lSy4B : LoopAnn := { X := List Job × Int × Int, live := fun x => [(0, .sl 0 10 0 x.1.length), (14, .int .i64 x.2.1), (17, .int .i64 x.2.2)], heap := fun x => [some (.row .job x.1)] }
def lSy5B (f : FuncId) : LoopAnn := { X := List Job × Int × Int × Int × Int × Int × Int × Int × Int, live := fun x => [(0, .sl 0 10 0 x.1.length), (1, .int .i64 x.2.1), (2, .int .i64 x.2.2.1), (3, .int .i64 x.2.2.2.1), (4, .fn f []), (18, .int .i64 x.2.2.2.2.1), (19, .int .i64 x.2.2.2.2.2.1), (20, .int .i64 x.2.2.2.2.2.2.1), (21, .int .i64 x.2.2.2.2.2.2.2.1), (22, .int .i64 x.2.2.2.2.2.2.2.2)], heap := fun x => [some (.row .job x.1)] }
def sStabB (f : FuncId) : Sig := ⟨[(.row .job, true), (.int .i64, false), (.fn f, false)], []⟩
def oStabB (f : FuncId) : (sStabB f).Out := fun x k => (Law.StabPreB x.1 ∧ x.2.1 = x.1.length) ∧ ∀ ys, Law.SortedSeg Law.keyJ x.1 ys 0 x.1.length → k (ys, ()) ()
def lSt1B (f : FuncId) : LoopAnn := { X := List Job × Int × Int × Int × Int, live := fun x => [(0, .sl 0 10 0 x.1.length), (1, .int .i64 x.2.1), (2, .fn f []), (6, .int .i64 x.2.2.1), (7, .int .i64 x.2.2.2.1), (8, .int .i64 x.2.2.2.2)], heap := fun x => [some (.row .job x.1)] }
def lSt2B (f : FuncId) : LoopAnn := { X := List Job × Int × Int, live := fun x => [(0, .sl 0 10 0 x.1.length), (1, .int .i64 x.2.1), (2, .fn f []), (6, .int .i64 x.2.2)], heap := fun x => [some (.row .job x.1)] }
def oStabFB (f : FuncId) : (sSortFB f).Out := fun x k => Law.StabPreB x.1 ∧ ∀ ys, Law.SortedSeg Law.keyJ x.1 ys 0 x.1.length → k (ys, ()) ()
end Go.Ax.Sp
