/-
  Contracts: changes behind changes, and a stable sort of them.
-/
import Derived.Test.YtjpeimmjggkkjaaAxP3
import Derived.Test.YtjpeimmjggkkjaaAxS4
import Derived.Test.YtjpeimmjggkkjaaAxI
set_option linter.all false
namespace Go.Ax
/-- One contract where a bare function is handed over, another one else. -/
def selSpec (S1 S2 : SpecT) : SpecT := fun args H K => match args with
  | [_, .fn _ []] => S1 args H K
  | _ => S2 args H K
theorem sel_ok {P : Program} {f : FuncId} {S1 S2 : SpecT} (h1 : SpecOK P f S1) (h2 : SpecOK P f S2) : SpecOK P f (selSpec S1 S2) := by
  intro args H K hk
  unfold selSpec at hk
  split at hk
  · exact h1 _ H K hk
  · exact h2 _ H K hk
end Go.Ax
namespace Go.Ax.Law
def SwapPre (xs : List Change) (a b n : Int) : Prop := 0 ≤ a ∧ 0 ≤ b ∧ 0 ≤ n ∧ a + n ≤ xs.length ∧ b + n ≤ xs.length ∧ (a + n ≤ b ∨ b + n ≤ a) ∧ xs.length ≤ 1099511627776
def RotPre (xs : List Change) (a m b : Int) : Prop := 0 ≤ a ∧ a < m ∧ m < b ∧ b ≤ xs.length ∧ xs.length ≤ 1099511627776
def SymPre (N : Nat) (xs : List Change) (a m b : Int) : Prop := RotPre xs a m b ∧ SmallIds xs ∧ (b - a).toNat < N ∧ Rises Change.Id xs a m ∧ Rises Change.Id xs m b
def StabPre (xs : List Change) : Prop := SmallIds xs ∧ xs.length ≤ 1099511627776
/-- Does it tell nothing? -/
def idle (c : Change) : Bool := decide (c.From = c.To) && !c.Plan
def findIdle (l : List Change) : Int := match l.findIdx? idle with | some i => (i : Int) | none => -1
def keptC (l : List Change) : List Change := l.filter fun c => !idle c
/-- A change behind others. -/
def join1 (l : List Change) (c : Change) : List Change :=
  match l.findIdx? fun x => decide (x.Id = c.Id) with
  | none => l ++ [c]
  | some i => match l[i]? with
    | none => l
    | some x => l.set i ⟨x.Id, x.From, c.To, x.Plan || c.Plan⟩
def joinC (a b : List Change) : List Change := b.foldl join1 a
def JoinPre (a b : List Change) : Prop := SmallIds (joinC a b) ∧ a.length ≤ 1099511627 ∧ b.length ≤ 1099511627
end Go.Ax.Law
namespace Go.Ax.Sp
abbrev A5 (f : FuncId) : AKs := [(.row .change, true), (.int .i64, false), (.int .i64, false), (.int .i64, false), (.fn f, false)]
def sSwapR (f : FuncId) : Sig := ⟨[(.row .change, true), (.int .i64, false), (.int .i64, false), (.int .i64, false), (.fn f, false)], []⟩
def oSwapR (f : FuncId) : (sSwapR f).Out := fun x k => Law.SwapPre x.1 x.2.1 x.2.2.1 x.2.2.2.1 ∧ ∀ ys, Law.Swapped x.1 ys x.2.1 x.2.2.1 x.2.2.2.1 → k (ys, ()) ()
def lSwapR : LoopAnn := { X := List Change × Int × Int × Int × Int, live := fun x => [(0, .sl 0 4 0 x.1.length), (1, .int .i64 x.2.1), (2, .int .i64 x.2.2.1), (3, .int .i64 x.2.2.2.1), (10, .int .i64 x.2.2.2.2)], heap := fun x => [some (.row .change x.1)] }
def oRot (f : FuncId) : (sSwapR f).Out := fun x k => Law.RotPre x.1 x.2.1 x.2.2.1 x.2.2.2.1 ∧ ∀ ys, Law.Rotated x.1 ys x.2.1 x.2.2.1 x.2.2.2.1 → k (ys, ()) ()
def lRot (f : FuncId) : LoopAnn := { X := List Change × Int × Int × Int, live := fun x => [(0, .sl 0 4 0 x.1.length), (2, .int .i64 x.2.1), (4, .fn f []), (10, .int .i64 x.2.2.1), (11, .int .i64 x.2.2.2)], heap := fun x => [some (.row .change x.1)] }
def oSym (f : FuncId) (N : Nat) : (sSwapR f).Out := fun x k => Law.SymPre N x.1 x.2.1 x.2.2.1 x.2.2.2.1 ∧ ∀ ys, Law.SortedSeg Change.Id x.1 ys x.2.1 x.2.2.2.1 → k (ys, ()) ()
def lSy1 (f : FuncId) : LoopAnn := { X := List Change × Int × Int × Int, live := fun x => [(0, .sl 0 4 0 x.1.length), (1, .int .i64 x.2.1), (4, .fn f []), (10, .int .i64 x.2.2.1), (11, .int .i64 x.2.2.2)], heap := fun x => [some (.row .change x.1)] }
def lSy2 : LoopAnn := { X := List Change × Int × Int, live := fun x => [(0, .sl 0 4 0 x.1.length), (10, .int .i64 x.2.1), (13, .int .i64 x.2.2)], heap := fun x => [some (.row .change x.1)] }
def lSy3 (f : FuncId) : LoopAnn := { X := List Change × Int × Int × Int, live := fun x => [(0, .sl 0 4 0 x.1.length), (2, .int .i64 x.2.1), (4, .fn f []), (14, .int .i64 x.2.2.1), (15, .int .i64 x.2.2.2)], heap := fun x => [some (.row .change x.1)] }
def lSy4 : LoopAnn := { X := List Change × Int × Int, live := fun x => [(0, .sl 0 4 0 x.1.length), (14, .int .i64 x.2.1), (17, .int .i64 x.2.2)], heap := fun x => [some (.row .change x.1)] }
def lSy5 (f : FuncId) : LoopAnn := { X := List Change × Int × Int × Int × Int × Int × Int × Int × Int, live := fun x => [(0, .sl 0 4 0 x.1.length), (1, .int .i64 x.2.1), (2, .int .i64 x.2.2.1), (3, .int .i64 x.2.2.2.1), (4, .fn f []), (18, .int .i64 x.2.2.2.2.1), (19, .int .i64 x.2.2.2.2.2.1), (20, .int .i64 x.2.2.2.2.2.2.1), (21, .int .i64 x.2.2.2.2.2.2.2.1), (22, .int .i64 x.2.2.2.2.2.2.2.2)], heap := fun x => [some (.row .change x.1)] }
def sStab (f : FuncId) : Sig := ⟨[(.row .change, true), (.int .i64, false), (.fn f, false)], []⟩
def oStab (f : FuncId) : (sStab f).Out := fun x k => (Law.StabPre x.1 ∧ x.2.1 = x.1.length) ∧ ∀ ys, Law.SortedSeg Change.Id x.1 ys 0 x.1.length → k (ys, ()) ()
def lSt1 (f : FuncId) : LoopAnn := { X := List Change × Int × Int × Int × Int, live := fun x => [(0, .sl 0 4 0 x.1.length), (1, .int .i64 x.2.1), (2, .fn f []), (6, .int .i64 x.2.2.1), (7, .int .i64 x.2.2.2.1), (8, .int .i64 x.2.2.2.2)], heap := fun x => [some (.row .change x.1)] }
def lSt2 (f : FuncId) : LoopAnn := { X := List Change × Int × Int, live := fun x => [(0, .sl 0 4 0 x.1.length), (1, .int .i64 x.2.1), (2, .fn f []), (6, .int .i64 x.2.2)], heap := fun x => [some (.row .change x.1)] }
def oStabF (f : FuncId) : (sSortF f).Out := fun x k => Law.StabPre x.1 ∧ ∀ ys, Law.SortedSeg Change.Id x.1 ys 0 x.1.length → k (ys, ()) ()
def sIdle : Sig := ⟨[(.elem .change, false)], [.bool]⟩
def oIdle : sIdle.Out := fun x k => k () (Law.idle x.1, ())
def oIdxD (f : FuncId) : (sIdxF f).Out := fun x k => x.1.length ≤ 1099511627776 ∧ k () (Law.findIdle x.1, ())
def sDelF (f : FuncId) : Sig := ⟨[(.row .change, false), (.fn f, false)], [.part .change]⟩
def oDelF (f : FuncId) : (sDelF f).Out := fun x k => x.1.length ≤ 1099511627776 ∧ k () (Law.keptC x.1, ())
def lDelF (f : FuncId) : LoopAnn := { X := List Change × Int × Int, live := fun x => [(0, .sl 0 4 0 x.1.length), (1, .fn f []), (5, .int .i64 x.2.1), (6, .int .i64 x.2.2)], heap := fun x => [some (.row .change x.1)] }
def sClone : Sig := ⟨[(.imm .change, false)], [.row .change]⟩
def oClone : sClone.Out := fun x k => x.1.length ≤ 1099511627 ∧ k () (x.1, ())
def sJoin : Sig := ⟨[(.imm .change, false), (.imm .change, false)], [.row .change]⟩
def oJoin : sJoin.Out := fun x k => Law.JoinPre x.1 x.2.1 ∧ ∀ ys, Law.SortedSeg Change.Id (Law.keptC (Law.joinC x.1 x.2.1)) ys 0 (Law.keptC (Law.joinC x.1 x.2.1)).length → k () (ys, ())
def lJo : LoopAnn := { X := List Change × List Change × Int, live := fun x => [(5, .sl 0 4 0 x.1.length), (11, .imm .change x.2.1), (12, .int .i64 x.2.1.length), (13, .int .i64 x.2.2)], heap := fun x => [some (.row .change x.1)], norm := [.row 5 .change, .home 5 0] }
def lIdxJ (f : FuncId) : LoopAnn := { X := List Change × Change × Int, live := fun x => [(0, .sl 0 4 0 x.1.length), (1, .fn f [.ptr ⟨1, 0, 0, 0⟩]), (7, .int .i64 x.1.length), (8, .int .i64 x.2.2)], heap := fun x => [some (.row .change x.1), some (.raw (EK.enc .change x.2.1))] }
def sJoins : Sig := ⟨[(.imm .change, false), (.imm .change, false)], [.bool]⟩
def oJoins : sJoins.Out := fun _ k => k () (true, ())
def lDj1 : LoopAnn := { X := List Change × List Change × List Change × Int, live := fun x => [(0, .imm .change x.1), (1, .imm .change x.2.1), (5, .sl 0 4 0 x.2.2.1.length), (6, .int .i64 x.2.2.2)], heap := fun x => [some (.row .change x.2.2.1)], norm := [.row 5 .change, .home 5 0] }
def lDj2 : LoopAnn := { X := List Change × List Change × List Change × Int × Int × Int, live := fun x => [(0, .imm .change x.1), (1, .imm .change x.2.1), (5, .sl 0 4 0 x.2.2.1.length), (6, .int .i64 x.2.2.2.1), (7, .int .i64 x.2.2.2.2.1), (8, .int .i64 x.2.2.2.2.2)], heap := fun x => [some (.row .change x.2.2.1)] }
def lDj3 : LoopAnn := { X := List Change × List Change × List Change × List Change × Int, live := fun x => [(0, .imm .change x.1), (1, .imm .change x.2.1), (5, .sl 0 4 0 x.2.2.1.length), (10, .sl 1 4 0 x.2.2.2.1.length), (11, .int .i64 x.2.2.2.2)], heap := fun x => [some (.row .change x.2.2.1), some (.row .change x.2.2.2.1)], norm := [.row 10 .change, .home 10 1] }
def lDj4 : LoopAnn := { X := List Change × List Change × List Change × Int, live := fun x => [(10, .sl 1 4 0 x.2.1.length), (12, .sl 2 4 0 x.2.2.1.length), (13, .int .i64 x.2.2.2)], heap := fun x => [some (.row .change x.1), some (.row .change x.2.1), some (.row .change x.2.2.1)] }
def lDj5 : LoopAnn := { X := List Change × List Change × List Change × Int × Int × Int, live := fun x => [(10, .sl 1 4 0 x.2.1.length), (12, .sl 2 4 0 x.2.2.1.length), (13, .int .i64 x.2.2.2.1), (14, .int .i64 x.2.2.2.2.1), (15, .int .i64 x.2.2.2.2.2)], heap := fun x => [some (.row .change x.1), some (.row .change x.2.1), some (.row .change x.2.2.1)] }
end Go.Ax.Sp
