/-
  The executor is right, part three: operators, fields, indexes, slices, what a region that leaves the world alone does.
-/
import Derived.Test.YtjpeimmjggkkjaaAx4
set_option linter.all false
namespace Go.Ax
variable {P : Program} {G : Gam} {ρ : List Root} {w : World}

theorem bin_calm {op : BinOp} {t : TypeId} {x y : AV} {k : AV → Prop} {u v : Value} (h : abin P op t x y k) (hu : RV G ρ x u) (hv : RV G ρ y v) (xo yo : Operand) :
    ∃ z r, k z ∧ RV G ρ z r ∧ ∀ w', (do eqGuard op t xo yo u v; binOp op t u v : Sem Value).run P w' = .ok r w' := by
  unfold abin at h
  split at h
  · obtain ⟨b, hb, hr⟩ := eql_calm h hu hv .eql (.inl rfl) xo yo
    exact ⟨_, _, hb, rvB, fun w' => by simpa using hr w'⟩
  · obtain ⟨b, hb, hr⟩ := eql_calm h hu hv .neq (.inr rfl) xo yo
    exact ⟨_, _, hb, rvB, fun w' => by simpa using hr w'⟩
  · rename_i h1 h2
    split at h
    · have := rv_int hu; have := rv_int hv; subst u v
      split at h
      · exact ⟨_, _, nmI_elim h.2, rvI, fun w' => by have := h.1; simp [eqGuard, binOp, Op.shift]; omega⟩
      · exact ⟨_, _, nmI_elim h.2, rvI, fun w' => by have := h.1; simp [eqGuard, binOp, Op.shift]; omega⟩
      · obtain ⟨hk, h3⟩ := br_elim h
        have hk := kindEq_eq hk; subst hk
        split at h3
        case h_14 => exact h3.elim
        case h_4 => exact ⟨_, _, nmI_elim h3.2, rvI, fun w' => by simp [eqGuard, binOp, Op.intDiv, h3.1]⟩
        case h_5 => exact ⟨_, _, nmI_elim h3.2, rvI, fun w' => by simp [eqGuard, binOp, Op.intDiv, h3.1]⟩
        all_goals first
          | exact ⟨_, _, nmI_elim h3, rvI, fun w' => by simp [eqGuard, binOp, Op.intArith, Op.intBits]⟩
          | exact ⟨_, _, h3, rvB, fun w' => by simp [eqGuard, binOp, Op.intCmp]⟩
    · have := rv_str hu; have := rv_str hv; subst u v
      split at h
      · refine ⟨_, _, h.2, rvS, fun w' => ?_⟩
        simp only [eqGuard, binOp, Op.stringOp]
        simp
        have := h.1
        omega
      · exact h.elim
    · exact h.elim

theorem RV.cells {x : AV} {v : Value} (h : RV G ρ x v) : RVs G ρ x.cells v.cells.toList := by
  cases x
  case agg xs => simp only [RV] at h; obtain ⟨vs, rfl, h⟩ := h; simpa [AV.cells, Value.cells] using h
  case sl l e b n =>
    have h0 := h
    simp only [RV] at h; obtain ⟨t, _, _, h⟩ := h
    rcases h with ⟨_, _, rfl⟩ | ⟨_, _, _, rfl⟩ <;> exact ⟨_, _, rfl, h0, rfl⟩
  all_goals
    have h0 := h
    simp only [RV] at h <;> first
      | exact h.elim
      | (subst h; exact ⟨_, _, rfl, h0, rfl⟩)
      | (obtain ⟨_, _, _, _, rfl⟩ := h; exact ⟨_, _, rfl, h0, rfl⟩)
      | (obtain ⟨_, _, rfl, _⟩ := h; exact ⟨_, _, rfl, h0, rfl⟩)
      | (obtain ⟨_, rfl, _⟩ := h; exact ⟨_, _, rfl, h0, rfl⟩)

theorem RVs.set {x : AV} {v : Value} (hx : RV G ρ x v) : ∀ {xs : List AV} {vs : List Value} (_ : RVs G ρ xs vs) (i : Nat), RVs G ρ (xs.set i x) (vs.set i v)
  | [], vs, h, i => by simp only [RVs] at h; subst h; simp [RVs]
  | y :: ys, vs, h, 0 => by
    simp only [RVs] at h
    obtain ⟨u, us, rfl, _, h3⟩ := h
    exact ⟨v, us, rfl, hx, h3⟩
  | y :: ys, vs, h, i + 1 => by
    simp only [RVs] at h
    obtain ⟨u, us, rfl, h2, h3⟩ := h
    exact ⟨u, _, rfl, h2, RVs.set hx h3 i⟩

theorem RVs.setCells : ∀ {us : List AV} {ws : List Value} (_ : RVs G ρ us ws) {xs : List AV} {vs : List Value} (_ : RVs G ρ xs vs) (o : Nat), RVs G ρ (setCells xs o us) (setCells vs o ws)
  | [], ws, hu, xs, vs, h, o => by simp only [RVs] at hu; subst hu; exact h
  | u :: us, ws, hu, xs, vs, h, o => by
    simp only [RVs] at hu
    obtain ⟨w, ws, rfl, h2, h3⟩ := hu
    exact RVs.setCells h3 (h.set h2 o) (o + 1)

theorem foldl_zip {α : Type} : ∀ (us : List α) (cells : Array α) (o j : Nat), ((us.zipIdx j).foldl (fun (cs : Array α) (x : α × Nat) => cs.setIfInBounds (o + x.2) x.1) cells).toList = setCells cells.toList (o + j) us
  | [], _, _, _ => rfl
  | u :: us, cells, o, j => by
    simp only [List.zipIdx_cons, List.foldl_cons, Go.Ax.setCells]
    rw [foldl_zip us _ o (j + 1)]
    simp [Nat.add_assoc]

theorem setCells_length {α : Type} : ∀ (us xs : List α) (o : Nat), (setCells xs o us).length = xs.length
  | [], _, _ => rfl
  | u :: us, xs, o => by simp only [setCells]; rw [setCells_length us]; simp

/-- Parts by their numbers. -/
def PR (G : Gam) (ρ : List Root) : List (Nat × AV) → List (Nat × Value) → Prop
  | [], vs => vs = []
  | (i, x) :: r, vs => ∃ v ws, vs = (i, v) :: ws ∧ RV G ρ x v ∧ PR G ρ r ws

theorem parts_rv {st : AS} {a : Act} (h : TR G ρ st.tmps a.tmps) : ∀ {os : List (Nat × Operand)} {xs : List (Nat × AV)}, evalParts st os = some xs → PR G ρ xs (os.map fun p => (p.1, a.eval p.2))
  | [], xs, he => by simp [evalParts] at he; subst he; simp [PR]
  | (i, o) :: os, xs, he => by
    simp only [evalParts] at he
    split at he
    · rename_i x ys hx hys
      simp at he; subst he
      exact ⟨_, _, rfl, eval_rv h hx, parts_rv h hys⟩
    · simp at he

theorem fill_rv {place : Nat → Option (Nat × Nat)} : ∀ {ps : List (Nat × AV)} {qs : List (Nat × Value)} {cs out : List AV} {cells : Array Value}, PR G ρ ps qs → RVs G ρ cs cells.toList → fillA place cs ps = some out →
    ∃ cells', Instr.fill place cells qs = some cells' ∧ RVs G ρ out cells'.toList
  | [], qs, cs, out, cells, hp, hc, h => by
    simp only [PR] at hp; subst hp
    simp only [fillA] at h
    simp at h; subst h
    exact ⟨cells, rfl, hc⟩
  | (i, x) :: ps, qs, cs, out, cells, hp, hc, h => by
    obtain ⟨v, ws, rfl, hx, hr⟩ := hp
    simp only [fillA] at h
    split at h
    · simp at h
    · rename_i off size hpl
      cases hb : (Nat.beq x.cells.length size && Nat.ble (off + x.cells.length) cs.length) with
      | false => simp [hb] at h
      | true =>
        simp only [hb, cond_true] at h
        have hxc := hx.cells
        have hl1 := hxc.len
        have hl2 := hc.len
        simp only [Bool.and_eq_true] at hb
        have hb1 := Nat.eq_of_beq_eq_true hb.1
        have hb2 := Nat.le_of_ble_eq_true hb.2
        simp at hl1 hl2
        have hcells : RVs G ρ (setCells cs off x.cells) (v.cells.zipIdx.foldl (fun cs (x : Value × Nat) => cs.setIfInBounds (off + x.2) x.1) cells).toList := by
          have := RVs.setCells hxc hc off
          have e := foldl_zip v.cells.toList cells off 0
          simp only [Nat.add_zero] at e
          rw [← Array.foldl_toList, Array.toList_zipIdx]
          rw [e]
          exact this
        obtain ⟨cells', h1, h2⟩ := fill_rv hr hcells h
        refine ⟨cells', ?_, h2⟩
        unfold Instr.fill
        rw [hpl]
        simp only []
        rw [if_neg (by simp; omega)]
        exact h1

theorem placesOf_eq : ∀ (fs : List Field), placesOf P fs = fs.mapM (fun f => (P.info? f.type).map fun i => (f.offset, i.size))
  | [] => by simp [placesOf]
  | f :: fs => by
    simp only [placesOf, List.mapM_cons]
    rw [placesOf_eq fs]
    cases P.info? f.type with
    | none => simp
    | some i => cases fs.mapM (fun f => (P.info? f.type).map fun i => (f.offset, i.size)) <;> simp

theorem zero_rv {t : TypeId} {cs : List AV} (h : zeroCells P t = some cs) : ∃ i z, P.info? t = some i ∧ i.zero = some z ∧ RVs G ρ cs z.cells.toList := by
  unfold zeroCells at h
  split at h
  · rename_i i hi
    split at h
    · rename_i z hz
      split at h
      · rename_i x hx
        simp at h; subst h
        exact ⟨i, z, hi, hz, (cval_rv hx).cells⟩
      · simp at h
    · simp at h
  · simp at h

end Go.Ax
