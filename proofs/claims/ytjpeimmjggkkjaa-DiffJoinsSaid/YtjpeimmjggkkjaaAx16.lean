/-
  The executor is right, part fourteen: regions in the order of the text.
-/
import Derived.Test.YtjpeimmjggkkjaaAx15b
set_option linter.all false
namespace Go.Ax
variable {G : Gam} {ρ : List Root} {w : World}

/-- Any operation, whether it is calm or not. -/
theorem op_seq {E : Env} (hE : E.OK) {st : AS} {a : Act} {Fs : Nat → List Nat} {k : KT} {o : Oper} (hT : TR G ρ st.tmps a.tmps) (hH : SatHF G ρ w st.heap Fs) (h : aop E o st k)
    (next : Act → World → Prop) (Q : Exit → Act → World → Prop)
    (hn : ∀ e av H' T Fs' u w', k av H' T → (∀ x, av = some x → RV G (ρ ++ e) x u) → SatHF G (ρ ++ e) w' H' Fs' → next (a.put o.dst u) w') : o.wp E.P a w next Q := by
  by_cases hq : quietOp o.op = true
  · obtain ⟨e, av, H', Fs', u, hk, hr, hs, _, _, hrun⟩ := quiet_sound hT hH hq h
    have := hrun w (by have := hs.wok; exact this) (fun l b _ _ => rfl)
    unfold Oper.wp
    rw [this, Oper.upon_value]
    exact hn e av H' [] Fs' u w hk hr hs
  · exact eff_sound hE hT hH (by simpa using hq) h next Q fun e av H' T Fs' u w' h1 h2 h3 _ => hn e av H' T Fs' u w' h1 h2 h3

theorem put_defers (a : Act) (d : Option Tmp) (v : Value) : (a.put d v).defers = a.defers := by cases d <;> rfl

/-- What a guard tells. -/
theorem aguard_sound {ops : Array Oper} {o : Oper} {st : AS} {a : Act} {k : Bool → AS → Prop} (h : aguard ops o st k) (hT : TR G ρ st.tmps a.tmps) :
    ∃ st', k (Region.wanted o (yielded ops a.tmps)) st' ∧ st'.heap = st.heap ∧ TR G ρ st'.tmps a.tmps := by
  unfold aguard at h
  split at h
  · rename_i hg
    refine ⟨st, ?_, rfl, hT⟩
    simpa [Region.wanted, hg] using h
  · rename_i j want hg
    split at h
    · rename_i d hd
      split at h
      · rename_i b hb
        obtain ⟨v, hv, hr⟩ := hT.2 d _ hb
        have hvb := rv_bool hr
        subst hvb
        have hy : yielded ops a.tmps j = some b := by
          unfold yielded
          rw [hd]
          simp [hv]
        have hw : Region.wanted o (yielded ops a.tmps) = (b == want) := by
          unfold Region.wanted
          rw [hg]
          simp [hy]
        have hput : TR G ρ (st.put (some d) (some (.bool b))).tmps a.tmps := by
          refine ⟨by simp [AS.put, hT.1], fun s y hs => ?_⟩
          simp only [AS.put] at hs
          by_cases hsd : s = d
          · subst hsd
            have hl := (List.getElem?_eq_some_iff.1 hb).1
            rw [List.getElem?_set_self hl] at hs
            simp at hs; subst hs
            exact ⟨_, hv, rvB⟩
          · rw [List.getElem?_set_ne (Ne.symm hsd)] at hs
            exact hT.2 s y hs
        rw [hw]
        cases b with
        | true =>
          simp only [br, AS.putK_eq] at h
          exact ⟨st.put (some d) (some (.bool true)), by simpa using h, rfl, hput⟩
        | false =>
          simp only [br, AS.putK_eq] at h
          exact ⟨st.put (some d) (some (.bool false)), by simpa using h, rfl, hput⟩
      · rename_i hb
        obtain ⟨v, hv, hr⟩ := hT.2 d _ hb
        simp only [RV, RVs] at hr
        obtain ⟨us, rfl, hus⟩ := hr
        have hw : Region.wanted o (yielded ops a.tmps) = false := by
          unfold Region.wanted
          rw [hg]
          simp [yielded, hd, hv]
        rw [hw]
        exact ⟨st, h, rfl, hT⟩
      · exact h.elim
    · exact h.elim

theorem rv_undef : RV G ρ (.tup []) undef := by simp [RV, RVs, undef]

theorem put_heap (st : AS) (d : Option Tmp) (x : Option AV) : (st.put d x).heap = st.heap := by cases d <;> rfl

/-- What a state and an act have in common. -/
structure ST (G : Gam) (ρ : List Root) (w : World) (st : AS) (a : Act) : Prop where
  tr : TR G ρ st.tmps a.tmps
  sat : SatH G ρ w st.heap
  df : a.defers = []

theorem aseq_sound {E : Env} (hE : E.OK) {ops : Array Oper} {K : AS → Prop} {Q : Exit → Act → World → Prop} {ρ0 : List Root} :
    ∀ (l : List Nat) (e : List Root) (st : AS) (a : Act) (w : World), aseq E ops l st K → ST G (ρ0 ++ e) w st a →
      (∀ st' e' a' w', K st' → ST G (ρ0 ++ e') w' st' a' → Q .normal a' w') → wpOps E.P ops Q l a w
  | [], e, st, a, w, h, hs, hQ => hQ st e a w h hs
  | i :: l, e, st, a, w, h, hs, hQ => by
    simp only [aseq] at h
    simp only [wpOps]
    cases ho : ops[i]? with
    | none =>
      simp only [ho] at h
      exact aseq_sound hE l e st a w h hs hQ
    | some o =>
      simp only [ho] at h
      obtain ⟨st', hk, hheap, hT⟩ := aguard_sound h hs.tr
      cases hw : Region.wanted o (yielded ops a.tmps) with
      | true =>
        simp only [hw] at hk
        simp only []
        rw [if_pos hw]
        obtain ⟨Fs, hsat⟩ := hs.sat
        rw [← hheap] at hsat
        refine .inl (op_seq hE hT hsat hk _ Q fun e' av H' T Fs' u w' hk' hr hs' => ?_)
        rw [AS.putK_eq] at hk'
        rw [List.append_assoc] at hr hs'
        refine aseq_sound hE l (e ++ e') _ _ w' hk' ⟨?_, ?_, by rw [put_defers]; exact hs.df⟩ hQ
        · have := TR.put (G := G) (ρ := ρ0 ++ (e ++ e')) (ts := st'.tmps) (a := a) (by rw [← List.append_assoc]; exact hT.ext) o.dst av u hr H'
          exact this
        · rw [put_heap]; exact ⟨Fs', hs'⟩
      | false =>
        simp only [hw] at hk
        simp only []
        rw [if_neg (by rw [hw]; exact Bool.false_ne_true)]
        rw [AS.putK_eq] at hk
        refine aseq_sound hE l e _ _ w hk ⟨?_, ?_, by rw [put_defers]; exact hs.df⟩ hQ
        · exact TR.put (ts := st'.tmps) hT o.dst (some (.tup [])) undef (fun y hy => by cases hy; exact rv_undef) st'.heap
        · rw [put_heap, hheap]; exact hs.sat

end Go.Ax
