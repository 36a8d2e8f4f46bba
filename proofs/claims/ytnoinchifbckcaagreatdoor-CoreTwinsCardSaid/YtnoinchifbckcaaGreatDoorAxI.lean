/-
  A function without loops: its body is gone through where it is called.
-/
import Derived.Test.YtnoinchifbckcaaGreatDoorAxG
set_option linter.all false
namespace Go.Ax

noncomputable def inlSpec (E : LEnv) (fn : Func) : SpecT := fun args H K =>
  forceL (List.range H.length) fun T => abody { E with n0 := H.length } fn args H fun v H' => K v H' T

variable [Surr]
theorem inl_sound {E : LEnv} (hE : E.toEnv.OK) {f : FuncId} {fn : Func} (hf : E.P.funcs[f]? = some fn) : SpecOK E.P f (inlSpec E fn) := by
  intro args H K hk G w ρ Fs vs hH hr
  simp only [inlSpec, forceL_eq] at hk
  refine (abody_sound (E := { E with n0 := H.length }) hE hf rfl hk hH hr).mono fun e w' he => ?_
  obtain ⟨v, av, H', e', Fs', rfl, hK, hrv, hs⟩ := he
  exact ⟨v, av, H', _, e', Fs', rfl, hK, hrv, hs, fun l o hl hn => absurd (List.mem_range.2 (hH.lab hl)) hn⟩
end Go.Ax
