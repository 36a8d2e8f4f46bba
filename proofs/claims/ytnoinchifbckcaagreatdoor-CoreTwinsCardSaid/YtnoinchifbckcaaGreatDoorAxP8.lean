/-
  Contracts: the first laws of a core.
-/
import Derived.Test.YtnoinchifbckcaaGreatDoorAxP7
set_option linter.all false
namespace Go.Ax
/-- What a function does that cuts a row that never changes. -/
def cutSpec (k : EK) (n : Nat) : SpecT := fun args H K => match args with
  | [.imm k' xs] => if h : k' = k then forceL (List.range H.length) fun T => K (.imm k ((h ▸ xs : List k.T).take n)) H T else False
  | _ => False
variable [Surr]
theorem cut_sound {E : LEnv} (hE : E.toEnv.OK) {f : FuncId} {fn : Func} (hf : E.P.funcs[f]? = some fn) {k : EK} {n : Nat}
    (hb : ∀ (xs : List k.T) (H : AHeap) (K : AV → AHeap → List Nat → Prop), inlSpec E fn [.imm k xs] H K = forceL (List.range H.length) fun T => br (decide ((xs.length : Int) > (n : Int))) (((0 : Int) ≤ 0 ∧ (0 : Int) ≤ (n : Int) ∧ (n : Int) ≤ xs.length) ∧ K (.imm k ((xs.take (Int.toNat (n : Int))).drop (Int.toNat 0))) H T) (K (.imm k xs) H T)) :
    SpecOK E.P f (cutSpec k n) := by
  intro args H K h
  have hi := inl_sound hE hf
  unfold cutSpec at h
  split at h
  · rename_i k' xs
    split at h
    · rename_i hk
      subst hk
      refine hi _ _ _ ?_
      rw [hb]
      simp only [forceL_eq] at h ⊢
      by_cases hl : (xs.length : Int) > (n : Int)
      · simp only [hl, decide_true, br]
        exact ⟨⟨by decide, by omega, by omega⟩, by simpa using h⟩
      · simp only [hl, decide_false, br]
        rw [List.take_of_length_le (by omega)] at h
        exact h
    · exact h.elim
  · exact h.elim
end Go.Ax
namespace Go.Ax.Law
/-- Work is done whole. -/
def wholeF : Nat → Int → Work → Core → Int × Work × Core
  | 0, _, w, c => (0, w, c)
  | f + 1, n, w, c => if (stepW w c).1.done then (n, stepW w c) else wholeF f (n + 1) (stepW w c).1 (stepW w c).2
def wholeW (w : Work) (c : Core) : Int × Work × Core := wholeF 1999 1 w c
def deedW (d : Deed) : Work := if d.Commit then newX d.X else newW d.R
def doD (c : Core) (d : Deed) : Core := (wholeW (deedW d) c).2.2
def madeC (n : Int) (l : List Deed) : Core := (l.take 60).foldl doD (newCore n)
def eqJ (a b : Job) : Bool := a.Id == b.Id && (a.User == b.User && (a.Width == b.Width && (a.Limit == b.Limit && (a.Prio == b.Prio && (a.State == b.State && (a.Start == b.Start && (a.End == b.End && (a.Plan == b.Plan && (a.Nodes == b.Nodes && true)))))))))
def eqS (a b : Step) : Bool := a.At == b.At && (a.Free == b.Free && true)
def sameJ : List Job → List Job → Bool
  | [], [] => true
  | a :: l, b :: r => eqJ a b && sameJ l r
  | _, _ => false
def sameS : List Step → List Step → Bool
  | [], [] => true
  | a :: l, b :: r => eqS a b && sameS l r
  | _, _ => false
end Go.Ax.Law
namespace Go.Ax.Sp
def sWhole : Sig := ⟨[(.obj .core, true), (.obj .work, true)], [.int .i64]⟩
def PreWh (w : Work) (c : Core) : Prop := Law.CW c ∧ Law.WW w ∧ c.P.steps.length ≤ 4294900000
def oWhole : sWhole.Out := fun x k => PreWh x.2.1 x.1 ∧ k ((Law.wholeW x.2.1 x.1).2.2, (Law.wholeW x.2.1 x.1).2.1, ()) ((Law.wholeW x.2.1 x.1).1, ())
def lWhole : LoopAnn := { X := Core × Work × Int, live := fun x => [(0, .ptr ⟨0, 0, 0, 0⟩), (1, .ptr ⟨1, 0, 0, 0⟩), (5, .int .i64 x.2.2)], heap := fun x => [some (.obj .core x.1), some (.obj .work x.2.1)], norm := [.fold 0 .core, .fold 1 .work] }
def sMade : Sig := ⟨[(.int .i64, false), (.imm .deed, false)], [.opt .core]⟩
def oMade : sMade.Out := fun x k => ((x.1 < 1 ∨ 64 < x.1) → k () (none, ())) ∧ (1 ≤ x.1 ∧ x.1 ≤ 64 → k () (some (Law.madeC x.1 x.2.1), ()))
def lMade : LoopAnn := { X := List Deed × Core × Int, live := fun x => [(1, .imm .deed x.1), (5, .ptr ⟨0, 0, 0, 0⟩), (7, .int .i64 x.2.2)], heap := fun x => [some (.obj .core x.2.1)], norm := [.fold 0 .core] }
def sYes : Sig := ⟨[], [.bool]⟩
def oYes : sYes.Out := fun _ k => k () (true, ())
def sSameJ : Sig := ⟨[(.imm .job, false), (.imm .job, false)], [.bool]⟩
def oSameJ : sSameJ.Out := fun x k => (x.1.length ≤ 1099511627776) ∧ k () (Law.sameJ x.1 x.2.1, ())
def lSameJ : LoopAnn := { X := List Job × List Job × Int, live := fun x => [(0, .imm .job x.1), (1, .imm .job x.2.1), (5, .int .i64 x.2.2)], heap := fun _ => [] }
def sSameS : Sig := ⟨[(.imm .step, false), (.imm .step, false)], [.bool]⟩
def oSameS : sSameS.Out := fun x k => (x.1.length ≤ 1099511627776) ∧ k () (Law.sameS x.1 x.2.1, ())
def lSameS : LoopAnn := { X := List Step × List Step × Int, live := fun x => [(0, .imm .step x.1), (1, .imm .step x.2.1), (5, .int .i64 x.2.2)], heap := fun _ => [] }
def sWants : Sig := ⟨[(.int .i64, false), (.imm .deed, false), (.elem .req, false)], [.bool]⟩
def oWants : sWants.Out := fun _ k => k () (true, ())
def sTwins : Sig := ⟨[(.int .i64, false), (.imm .deed, false), (.imm .deed, false)], [.bool]⟩
def oTwins : sTwins.Out := fun _ k => k () (true, ())
def lTwins : LoopAnn := { X := Core × List Job × List Step × Core × List Deed × Int, live := fun x => [(2, .imm .deed x.2.2.2.2.1), (7, .ptr ⟨0, 0, 0, 0⟩), (8, .sl 1 10 0 x.2.1.length), (9, .sl 2 2 0 x.2.2.1.length), (10, .ptr ⟨6, 0, 0, 0⟩), (11, .int .i64 x.2.2.2.2.2)], heap := fun x => [some (.obj .core x.1), some (.row .job x.2.1), some (.row .step x.2.2.1), none, none, none, some (.obj .core x.2.2.2.1)], norm := [.fold 0 .core, .home 8 1, .home 9 2, .fold 6 .core] }
end Go.Ax.Sp
