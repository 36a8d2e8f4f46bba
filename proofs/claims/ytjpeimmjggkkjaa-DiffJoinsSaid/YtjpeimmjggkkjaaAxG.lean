/-
  Contracts, one after the other.
-/
import Derived.Test.YtjpeimmjggkkjaaAx25
import Derived.KernelRfl
set_option linter.all false
namespace Go.Ax
theorem Env.OK.nil {P : Program} {ek : List (TypeId × EK)} : Env.OK { P := P, spec := [], ek := ek } := by
  intro f S h
  cases h
theorem Env.OK.cons {P : Program} {L : List (FuncId × SpecT)} {ek : List (TypeId × EK)} (h : Env.OK { P := P, spec := L, ek := ek }) {f : FuncId} {S : SpecT} {fn : Func} (hf : P.funcs[f]? = some fn) (hb : fn.body.isSome = true)
    (hn : (fn.name == "runtime.NumGoroutine") = false) (hs : SpecOK P f S) : Env.OK { P := P, spec := (f, S) :: L, ek := ek } := by
  intro g T hg
  simp only [lookN] at hg
  split at hg
  · rename_i he
    cases hg
    rw [← Nat.eq_of_beq_eq_true he]
    exact ⟨⟨fn, hf, hb, hn⟩, hs⟩
  · exact h g T hg
end Go.Ax
