/-
  The executor is right, part seventeen: bodies.
-/
import Derived.Test.YtjpeimmjggkkjaaAx18
set_option linter.all false
namespace Go.Ax
variable {G : Gam} {ρ : List Root} {w : World}

def resOne (tmps : Array Value) : ResultVar → Sem Value
  | .tmp t => pure (tmps.getD t undef)
  | .cell a t => do loadVar t (← asAddr (tmps.getD a undef))

theorem tmps_get {ts : List (Option AV)} {tmps : Array Value} (hT : TR G ρ ts tmps) {t : Nat} {x : AV} (h : ts[t]? = some (some x)) : RV G ρ x (tmps.getD t undef) := by
  obtain ⟨v, hv, hr⟩ := hT.2 t x h
  rw [Array.getD_eq_getD_getElem?, hv]
  exact hr

theorem aresult_run {E : Env} {st : AS} {tmps : Array Value} {Fs : Nat → List Nat} (hT : TR G ρ st.tmps tmps) (hH : SatHF G ρ w st.heap Fs) : ∀ {rs : List ResultVar} {k : List AV → Prop}, aresult E st rs k →
    ∃ vs us, k vs ∧ RVs G ρ vs us ∧ (rs.mapM (resOne tmps)).run E.P w = .ok us w
  | [], k, h => by
    simp only [aresult] at h
    exact ⟨[], [], h, by simp [RVs], by simp⟩
  | .tmp t :: rs, k, h => by
    simp only [aresult] at h
    split at h
    · rename_i v hv
      obtain ⟨vs, us, h1, h2, h3⟩ := aresult_run hT hH h
      exact ⟨v :: vs, _ :: us, h1, by simp only [RVs]; exact ⟨_, us, rfl, tmps_get hT hv, h2⟩, by simp [resOne, h3]⟩
    · exact h.elim
  | .cell c t :: rs, k, h => by
    simp only [aresult] at h
    split at h
    · rename_i q g hq hg
      have hinfo : ∃ i, E.P.info? t = some i := by
        unfold isAggT at hg
        cases hu : E.P.underlying t with
        | none => simp [hu] at hg
        | some d => exact info_of_und hu
      obtain ⟨it, hit⟩ := hinfo
      obtain ⟨cs, b, o, ws, hk, hv, hbF, _, hcl, hrs, hvl, hrun⟩ := readCells_run hH h (tmps_get hT hq)
      obtain ⟨x2, hx2, hrx, hlen⟩ := ofCells_rv hk hrs
      obtain ⟨vs, us, h1, h2, h3⟩ := aresult_run hT hH hx2
      have := run_loadVar_cells (P := E.P) hg hit (b := b) (o := o) hvl (w' := w) (fun j hj => hrun w rfl j (by omega)) hlen
      refine ⟨x2 :: vs, _ :: us, h1, by simp only [RVs]; exact ⟨_, us, rfl, hrx, h2⟩, ?_⟩
      simp [resOne, h3, hv, this, asAddr]
    · exact h.elim

theorem abody_sound {E : LEnv} (hE : E.toEnv.OK) {f : FuncId} {fn : Func} (hf : E.P.funcs[f]? = some fn) {args : List AV} {H : AHeap} {K : AV → AHeap → Prop} (hn0 : E.n0 = H.length) (h : abody E fn args H K)
    {Fs : Nat → List Nat} {vs : List Value} (hH : SatHF G ρ w H Fs) (hr : RVs G ρ args vs) :
    Calls E.P f vs.toArray w fun e w' => ∃ v av H' e' Fs', e = .returned v ∧ K av H' ∧ RV G (ρ ++ e') av v ∧ SatHF G (ρ ++ e') w' H' Fs' := by
  unfold abody at h
  split at h
  · rename_i c hc
    rw [forceL_eq] at h
    have hlen := hr.len
    refine calls_of_wp hf hc (aexec_sound (G := G) (ρ0 := ρ) hE (hn0.trans hH.len) c [] _ _ w _ _ h ⟨?_, ⟨Fs, by simpa using hH⟩, rfl⟩ fun x st' e' a' w' hk hs' => ?_)
    · rw [List.append_nil]
      refine ⟨by simp [hlen], fun s y hy => ?_⟩
      by_cases hs : s < args.length
      · rw [List.getElem?_append_left (by simpa using hs)] at hy
        rw [List.getElem?_map] at hy
        cases ha : args[s]? with
        | none => simp [ha] at hy
        | some z =>
          simp [ha] at hy
          subst hy
          obtain ⟨v, hv, hrv⟩ := hr.get ha
          refine ⟨v, ?_, hrv⟩
          rw [Array.getElem?_append_left (by simp; omega)]
          simpa using hv
      · rw [List.getElem?_append_right (by simp; omega)] at hy
        have := List.mem_of_getElem? hy
        simp at this
    · have key : ∀ {k : List AV → Prop}, (k = fun vs => match vs with | [v] => K v st'.heap | vs => K (.tup vs) st'.heap) → aresult E.toEnv st' fn.results.toList k → a'.defers = [] ∧ ∃ v, (results fn a'.tmps).run E.P w' = .ok v w' ∧
          (∃ v1 av H' e' Fs', Ending.returned v = .returned v1 ∧ K av H' ∧ RV G (ρ ++ e') av v1 ∧ SatHF G (ρ ++ e') w' H' Fs') := by
        intro k hkk h1
        obtain ⟨Fs', hH'⟩ := hs'.sat
        obtain ⟨avs, us, h2, h3, h4⟩ := aresult_run hs'.tr hH' h1
        subst hkk
        have hm : fn.results.mapM (resOne a'.tmps) = List.toArray <$> fn.results.toList.mapM (resOne a'.tmps) := by
          rw [← List.mapM_toArray]
        have hres : (results fn a'.tmps).run E.P w' = .ok (if h : us.toArray.size = 1 then us.toArray[0] else .tuple us.toArray) w' := by
          have : results fn a'.tmps = (do let vs ← fn.results.mapM (resOne a'.tmps); pure (if h : vs.size = 1 then vs[0] else .tuple vs)) := by
            unfold results
            congr 1
          rw [this, hm]
          simp only [Sem.run_bind, map_eq_pure_bind, h4, Result.andThen_ok, Sem.run_pure]
        refine ⟨hs'.df, _, hres, ?_⟩
        have hl := h3.len
        split at h2
        · rename_i v
          simp only [RVs] at h3
          obtain ⟨u, ws, rfl, h5, rfl⟩ := h3
          exact ⟨_, v, _, e', Fs', rfl, h2, by simpa using h5, hH'⟩
        · rename_i hne
          have hsz : ¬ us.toArray.size = 1 := by
            intro h1
            simp at h1
            rw [h1] at hl
            match avs, hl with
            | [v], _ => exact hne v rfl
          rw [dif_neg hsz]
          exact ⟨_, .tup avs, _, e', Fs', rfl, h2, by simp only [RV]; exact ⟨_, rfl, by simpa using h3⟩, hH'⟩
      cases x with
      | normal => exact key rfl hk
      | exit id => exact hk.elim
      | ret => exact key rfl hk
  · exact h.elim
end Go.Ax
