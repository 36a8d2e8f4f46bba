/-
  The executor is right, part one: what the operations that leave the world alone come to.
-/
import Derived.Test.YtjpeimmjggkkjaaAx2
import Derived.Deep.AppendSrc
import Derived.Laws.CopyRow
import Derived.Laws.Cells
set_option linter.all false
namespace Go.Ax
variable {P : Program} {G : Gam} {ρ : List Root} {w : World}

/-- The temporaries hold what is told of them. -/
def TR (G : Gam) (ρ : List Root) (ts : List (Option AV)) (vs : Array Value) : Prop :=
  vs.size = ts.length ∧ ∀ (s : Nat) (x : AV), ts[s]? = some (some x) → ∃ v, vs[s]? = some v ∧ RV G ρ x v

theorem TR.ext {e : List Root} {ts : List (Option AV)} {vs : Array Value} (h : TR G ρ ts vs) : TR G (ρ ++ e) ts vs :=
  ⟨h.1, fun s x hs => let ⟨v, a, b⟩ := h.2 s x hs; ⟨v, a, b.ext⟩⟩

theorem TR.put {ts : List (Option AV)} {a : Act} (h : TR G ρ ts a.tmps) (dst : Option Tmp) (x : Option AV) (u : Value) (hx : ∀ y, x = some y → RV G ρ y u) (H : AHeap) :
    TR G ρ ((AS.put ⟨ts, H⟩ dst x).tmps) (a.put dst u).tmps := by
  cases dst with
  | none => exact h
  | some d =>
    refine ⟨by simp [AS.put, Act.put, h.1], fun s y hs => ?_⟩
    simp only [AS.put, Act.put] at hs ⊢
    by_cases hd : s = d
    · subst hd
      by_cases hl : s < ts.length
      · rw [List.getElem?_set_self hl] at hs
        simp at hs
        exact ⟨u, by simp [h.1, hl], hx y hs⟩
      · rw [List.getElem?_eq_none (by simp; omega)] at hs; simp at hs
    · rw [List.getElem?_set_ne (Ne.symm hd)] at hs
      obtain ⟨v, hv, r⟩ := h.2 s y hs
      exact ⟨v, by rw [Array.getElem?_setIfInBounds_ne (Ne.symm hd)]; exact hv, r⟩

theorem scal_rv {v : Value} {x : AV} (h : scal v = some x) : RV G ρ x v := by
  unfold scal at h
  split at h <;> simp at h <;> subst h <;> simp [RV]

theorem scals_rv : ∀ {vs : List Value} {xs : List AV}, scals vs = some xs → RVs G ρ xs vs
  | [], xs, h => by simp [scals] at h; subst h; simp [RVs]
  | v :: vs, xs, h => by
    simp only [scals] at h
    split at h
    · rename_i x ys hx hys
      simp at h; subst h
      simp only [RVs]
      exact ⟨v, vs, rfl, scal_rv hx, scals_rv hys⟩
    · simp at h

theorem cval_rv {v : Value} {x : AV} (h : cval v = some x) : RV G ρ x v := by
  unfold cval at h
  split at h
  · rename_i cs
    split at h
    · rename_i xs hxs
      simp at h; subst h
      simp only [RV]
      exact ⟨cs, rfl, scals_rv hxs⟩
    · simp at h
  · exact scal_rv h

theorem eval_rv {st : AS} {a : Act} (h : TR G ρ st.tmps a.tmps) {o : Operand} {x : AV} (he : st.eval o = some x) : RV G ρ x (a.eval o) := by
  cases o with
  | tmp t =>
    simp only [AS.eval] at he
    split at he
    · rename_i y hy
      subst he
      obtain ⟨v, hv, r⟩ := h.2 t x hy
      have : a.tmps.getD t undef = v := by
        rw [Array.getD_eq_getD_getElem?, hv]; rfl
      simpa [Act.eval, this] using r
    · simp at he
  | const v => exact cval_rv he
  | global g => simp [AS.eval] at he
  | func f =>
    simp [AS.eval] at he
    subst he
    simp [RV, RVs, Act.eval]

theorem evals_rv {st : AS} {a : Act} (h : TR G ρ st.tmps a.tmps) : ∀ {os : List Operand} {xs : List AV}, evals st os = some xs → RVs G ρ xs (os.map a.eval)
  | [], xs, he => by simp [evals] at he; subst he; simp [RVs]
  | o :: os, xs, he => by
    simp only [evals] at he
    split at he
    · rename_i x ys hx hys
      simp at he; subst he
      simp only [RVs]
      exact ⟨_, _, rfl, eval_rv h hx, evals_rv h hys⟩
    · simp at he

end Go.Ax
