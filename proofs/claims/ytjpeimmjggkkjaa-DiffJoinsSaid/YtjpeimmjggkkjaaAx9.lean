/-
  The executor is right, part seven: built values, slices, builtins; all operations that leave the world alone, together.
-/
import Derived.Test.YtjpeimmjggkkjaaAx8
set_option linter.all false
namespace Go.Ax
variable {G : Gam} {ρ : List Root} {w : World}

theorem run_resolve_builtin {E : Env} {r : Operand → Value} {b : Builtin} {xs : Array Operand} {ts : Array TypeId} {ty : TypeId} {dst : Option Tmp} {pos : String} {af : Array Edge} {gd : Option (Nat × Bool)} (w' : World) :
    (execOp r ⟨dst, .call ⟨.builtin b, xs, ts⟩, ty, pos, af, gd⟩).run E.P w' = (builtin b ts ty (xs.map fun | .const _ => true | _ => false) (xs.map r)).run E.P w' := by
  simp [execOp, resolve, invoke]
  rfl

section
variable {E : Env} {st : AS} {a : Act} {Fs : Nat → List Nat} {k : KT} (dst : Option Tmp) (ty : TypeId) (pos : String) (af : Array Edge) (gd : Option (Nat × Bool))
variable (hT : TR G ρ st.tmps a.tmps) (hH : SatHF G ρ w st.heap Fs)
include hT hH

theorem q_build (t : TypeId) (parts : Array (Nat × Operand)) (h : aop E ⟨dst, .build t parts, ty, pos, af, gd⟩ st k) : QRes E G ρ w st a ⟨dst, .build t parts, ty, pos, af, gd⟩ Fs k := by
  simp only [aop] at h
  split at h
  · rename_i fs z ps hu hz hp
    split at h
    · rename_i pl hpl
      split at h
      · rename_i cs hcs
        rw [forceL_eq] at h
        obtain ⟨i, zv, hi, hzv, hzr⟩ := zero_rv (G := G) (ρ := ρ) hz
        obtain ⟨cells, hf, hr⟩ := fill_rv (parts_rv hT hp) hzr hcs
        refine .plain hH rfl h (u := .agg cells) (fun q hq => ?_) (fun w' _ => ?_)
        · simp at hq; subst hq
          simp only [RV]; exact ⟨_, rfl, hr⟩
        · have := run_build (P := E.P) w' t (parts.map fun (i, x) => (i, a.eval x)) cells (by
            unfold Program.built
            simp only [hi, hu, hzv]
            rw [← placesOf_eq, hpl]
            simp only []
            rw [show ((parts.map fun (i, x) => (i, a.eval x)).toList) = parts.toList.map fun p => (p.1, a.eval p.2) from by simp]
            rw [← hf]
            congr 1
            funext j
            simp)
          simp only [execOp]
          simp [this]
      · exact h.elim
    · exact h.elim
  · rename_i n e z ps hu hz hp
    split at h
    · rename_i ie hie
      split at h
      · rename_i cs hcs
        rw [forceL_eq] at h
        obtain ⟨i, zv, hi, hzv, hzr⟩ := zero_rv (G := G) (ρ := ρ) hz
        obtain ⟨cells, hf, hr⟩ := fill_rv (parts_rv hT hp) hzr hcs
        refine .plain hH rfl h (u := .agg cells) (fun q hq => ?_) (fun w' _ => ?_)
        · simp at hq; subst hq
          simp only [RV]; exact ⟨_, rfl, hr⟩
        · have := run_build (P := E.P) w' t (parts.map fun (i, x) => (i, a.eval x)) cells (by
            unfold Program.built
            simp only [hi, hu, hzv, hie]
            rw [show ((parts.map fun (i, x) => (i, a.eval x)).toList) = parts.toList.map fun p => (p.1, a.eval p.2) from by simp]
            rw [← hf])
          simp only [execOp]
          simp [this]
      · exact h.elim
    · exact h.elim
  · exact h.elim

theorem q_makeFunc (fn : Fn) (first cap : Array Operand) (h : aop E ⟨dst, .makeFunc fn first cap, ty, pos, af, gd⟩ st k) : QRes E G ρ w st a ⟨dst, .makeFunc fn first cap, ty, pos, af, gd⟩ Fs k := by
  cases fn with
  | func f =>
    simp only [aop] at h
    split at h
    · rename_i vs hf hv
      have hr := evals_rv hT hv
      refine .plain hH rfl h (u := .func (.func f) #[] (cap.map a.eval)) (fun q hq => ?_) (fun w' _ => ?_)
      · simp at hq; subst hq
        simp only [RV]; exact ⟨_, rfl, by simpa using hr⟩
      · have : first = #[] := by cases first; simp at hf; simp [hf]
        simp [execOp, Instr.makeFunc, this]
    · exact h.elim
  | _ => simp only [aop] at h

theorem q_makeInterface (t : TypeId) (x : Operand) (h : aop E ⟨dst, .makeInterface t x, ty, pos, af, gd⟩ st k) : QRes E G ρ w st a ⟨dst, .makeInterface t x, ty, pos, af, gd⟩ Fs k := by
  simp only [aop] at h
  split at h
  · exact h.elim
  · rename_i d v hu hv hni
    have hr := eval_rv hT hni
    refine .plain hH rfl h (u := .iface t (a.eval x)) (fun q hq => ?_) (fun w' _ => ?_)
    · simp at hq; subst hq
      simp only [RV]; exact ⟨_, rfl, hr⟩
    · cases v <;> simp_all [execOp, Instr.makeInterface, run_und]
  · exact h.elim

theorem q_builtin (b : Builtin) (hb : b = .len ∨ b = .max ∨ b = .min) (xs : Array Operand) (ts : Array TypeId) (h : aop E ⟨dst, .call ⟨.builtin b, xs, ts⟩, ty, pos, af, gd⟩ st k) :
    QRes E G ρ w st a ⟨dst, .call ⟨.builtin b, xs, ts⟩, ty, pos, af, gd⟩ Fs k := by
  simp only [aop] at h
  cases hv : evals st xs.toList with
  | none => simp [hv] at h
  | some vs =>
    simp only [hv] at h
    have hr := evals_rv hT hv
    unfold abuiltin at h
    split at h
    · -- len
      rename_i x
      simp only [RVs] at hr
      obtain ⟨v, ws, hxs, hx, rfl⟩ := hr
      have hxs' : xs.map a.eval = #[v] := by
        apply Array.ext'; simpa using hxs
      split at h
      · rename_i t ht
        split at h
        · rename_i s hu
          have := rv_str hx; subst this
          exact .plain hH rfl h (fun q hq => by simp at hq; subst hq; exact rvI) (fun w' _ => by rw [run_resolve_builtin]; simp [builtin, hxs', Builtin.len_, ht, run_und hu, goInt])
        · rename_i e l es bs n hu
          simp only [RV] at hx
          obtain ⟨tt, _, _, hx⟩ := hx
          have hv2 : ∃ aa c, v = .slice aa n c := by
            rcases hx with ⟨b, _, rfl⟩ | ⟨rfl, _, aa, rfl⟩
            · exact ⟨_, _, rfl⟩
            · exact ⟨_, _, rfl⟩
          obtain ⟨aa, c, rfl⟩ := hv2
          exact .plain hH rfl h (fun q hq => by simp at hq; subst hq; exact rvI) (fun w' _ => by rw [run_resolve_builtin]; simp [builtin, hxs', Builtin.len_, ht, run_und hu, goInt])
        · rename_i e kk ys hu
          simp only [RV] at hx
          obtain ⟨aa, c, rfl, _⟩ := hx
          exact .plain hH rfl h (fun q hq => by simp at hq; subst hq; exact rvI) (fun w' _ => by rw [run_resolve_builtin]; simp [builtin, hxs', Builtin.len_, ht, run_und hu, goInt])
        · rename_i e hu
          simp only [RV] at hx; subst hx
          exact .plain hH rfl h (fun q hq => by simp at hq; subst hq; exact rvI) (fun w' _ => by rw [run_resolve_builtin]; simp [builtin, hxs', Builtin.len_, ht, run_und hu, goInt])
        · exact h.elim
      · exact h.elim
    · simp at hb
    · simp at hb
    · simp at hb
    · -- max
      simp only [RVs] at hr
      obtain ⟨v, ws, hxs, hx, v2, ws2, rfl, hx2, rfl⟩ := hr
      have e1 := rv_int hx; have e2 := rv_int hx2
      have hxs' : xs.map a.eval = #[v, v2] := by
        apply Array.ext'; simpa using hxs
      rw [e1, e2] at hxs'
      exact .plain hH rfl h (fun q hq => by simp at hq; subst hq; exact rvI) (fun w' _ => by rw [run_resolve_builtin]; simp [builtin, hxs', Builtin.max_, Builtin.max2])
    · -- min
      simp only [RVs] at hr
      obtain ⟨v, ws, hxs, hx, v2, ws2, rfl, hx2, rfl⟩ := hr
      have e1 := rv_int hx; have e2 := rv_int hx2
      have hxs' : xs.map a.eval = #[v, v2] := by
        apply Array.ext'; simpa using hxs
      rw [e1, e2] at hxs'
      exact .plain hH rfl h (fun q hq => by simp at hq; subst hq; exact rvI) (fun w' _ => by rw [run_resolve_builtin]; simp [builtin, hxs', Builtin.min_, Builtin.min2])
    · simp at hb
    · exact h.elim

end

end Go.Ax
