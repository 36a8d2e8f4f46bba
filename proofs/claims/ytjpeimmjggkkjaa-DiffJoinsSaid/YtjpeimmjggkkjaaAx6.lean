/-
  The executor is right, part four: an object is laid open; reading cells.
-/
import Derived.Test.YtjpeimmjggkkjaaAx5
set_option linter.all false
namespace Go.Ax
variable {P : Program} {G : Gam} {w : World}

theorem exposeF_sat {ρ0 : List Root} : ∀ (fs : List Fld) {c : Array Value} {o : Nat} {F : List Nat} (_ : SatF G ρ0 w fs c o F) (ρ : List Root),
    ∃ (e : List Root) (Fl : Nat → List Nat), e.length = (exposeF fs ρ.length).2.length ∧
      (∀ j x, (exposeF fs ρ.length).1[j]? = some x → ∃ u, c[o + j]? = some u ∧ RV G (ρ ++ e) x u) ∧
      (∀ i ob, (exposeF fs ρ.length).2[i]? = some (some ob) → ∃ r, e[i]? = some r ∧ Sat G ρ0 w ob r (Fl i) ∧ ∀ b, b ∈ Fl i → b ∈ F) ∧
      (∀ i ob j ob' b, (exposeF fs ρ.length).2[i]? = some (some ob) → (exposeF fs ρ.length).2[j]? = some (some ob') → b ∈ Fl i → b ∈ Fl j → i = j)
  | [], c, o, F, h, ρ => ⟨[], fun _ => [], by simp [exposeF], by simp [exposeF], by simp [exposeF], by simp [exposeF]⟩
  | f :: fs, c, o, F, h, ρ => by
    cases h with
    | av hu hr h =>
      obtain ⟨e, Fl, h1, h2, h3, h4⟩ := exposeF_sat fs h ρ
      refine ⟨e, Fl, by simpa [exposeF] using h1, ?_, by simpa [exposeF] using h3, by simpa [exposeF] using h4⟩
      intro j x hj
      simp only [exposeF] at hj
      cases j with
      | zero =>
        simp at hj; subst hj
        refine ⟨_, hu, ?_⟩
        rcases hr with hr | ⟨rfl, rfl⟩
        · exact hr.rv
        · simp [RV]
      | succ j =>
        simp at hj
        obtain ⟨u, hu', hr'⟩ := h2 j x hj
        exact ⟨u, by rw [← hu']; congr 1; omega, hr'⟩
    | @own k d _ _ _ b' o' F1 F2 hu hs h hd =>
      obtain ⟨e, Fl, h1, h2, h3, h4⟩ := exposeF_sat fs h (ρ ++ [⟨some b', o', 1⟩])
      simp only [List.length_append, List.length_singleton] at h1 h2 h3 h4
      refine ⟨⟨some b', o', 1⟩ :: e, fun i => match i with | 0 => F1 | i + 1 => Fl i, by simp [exposeF, h1], ?_, ?_, ?_⟩
      · intro j x hj
        simp only [exposeF] at hj
        cases j with
        | zero =>
          simp at hj; subst hj
          refine ⟨_, hu, ?_⟩
          simp only [RV]
          exact ⟨⟨some b', o', 1⟩, b', by simp, rfl, by simp⟩
        | succ j =>
          simp at hj
          obtain ⟨u, hu', hr'⟩ := h2 j x hj
          exact ⟨u, by rw [← hu']; congr 1; omega, by simpa using hr'⟩
      · intro i ob hi
        simp only [exposeF] at hi
        cases i with
        | zero =>
          simp at hi; subst hi
          exact ⟨_, rfl, hs, fun b hb => by simp at hb ⊢; exact .inl hb⟩
        | succ i =>
          simp at hi
          obtain ⟨r, a1, a2, a3⟩ := h3 i ob hi
          exact ⟨r, by simpa using a1, a2, fun b hb => by simp at hb ⊢; exact .inr (a3 b hb)⟩
      · intro i ob j ob' b hi hj hbi hbj
        simp only [exposeF] at hi hj
        cases i with
        | zero =>
          cases j with
          | zero => rfl
          | succ j =>
            simp at hj
            obtain ⟨r, a1, a2, a3⟩ := h3 j ob' hj
            exact absurd (a3 b hbj) (hd b hbi)
        | succ i =>
          simp at hi
          cases j with
          | zero =>
            obtain ⟨r, a1, a2, a3⟩ := h3 i ob hi
            exact absurd (a3 b hbi) (hd b hbj)
          | succ j =>
            simp at hj
            exact congrArg (· + 1) (h4 i ob j ob' b hi hj hbi hbj)
    | @ownr k xs _ _ _ v r F1 F2 hu hv hs h hd =>
      obtain ⟨e, Fl, h1, h2, h3, h4⟩ := exposeF_sat fs h (ρ ++ [r])
      simp only [List.length_append, List.length_singleton] at h1 h2 h3 h4
      refine ⟨r :: e, fun i => match i with | 0 => F1 | i + 1 => Fl i, by simp [exposeF, h1], ?_, ?_, ?_⟩
      · intro j x hj
        simp only [exposeF] at hj
        cases j with
        | zero =>
          simp at hj; subst hj
          refine ⟨_, hu, ?_⟩
          simp only [RV]
          refine ⟨r, by simp, by simpa using hv.1, ?_⟩
          simpa using hv.2
        | succ j =>
          simp at hj
          obtain ⟨u, hu', hr'⟩ := h2 j x hj
          exact ⟨u, by rw [← hu']; congr 1; omega, by simpa using hr'⟩
      · intro i ob hi
        simp only [exposeF] at hi
        cases i with
        | zero =>
          simp at hi; subst hi
          exact ⟨_, rfl, hs, fun b hb => by simp at hb ⊢; exact .inl hb⟩
        | succ i =>
          simp at hi
          obtain ⟨r, a1, a2, a3⟩ := h3 i ob hi
          exact ⟨r, by simpa using a1, a2, fun b hb => by simp at hb ⊢; exact .inr (a3 b hb)⟩
      · intro i ob j ob' b hi hj hbi hbj
        simp only [exposeF] at hi hj
        cases i with
        | zero =>
          cases j with
          | zero => rfl
          | succ j =>
            simp at hj
            obtain ⟨r, a1, a2, a3⟩ := h3 j ob' hj
            exact absurd (a3 b hbj) (hd b hbi)
        | succ i =>
          simp at hi
          cases j with
          | zero =>
            obtain ⟨r, a1, a2, a3⟩ := h3 i ob hi
            exact absurd (a3 b hbi) (hd b hbj)
          | succ j =>
            simp at hj
            exact congrArg (· + 1) (h4 i ob j ob' b hi hj hbi hbj)

theorem expose_sat {ρ : List Root} {H : AHeap} {Fs : Nat → List Nat} (h : SatHF G ρ w H Fs) (l : Nat) :
    ∃ e Fs', SatHF G (ρ ++ e) w (expose l H) Fs' ∧ (∀ x, x ≠ l → ∀ o, H[x]? = some (some o) → (expose l H)[x]? = some (some o) ∧ Fs' x = Fs x) ∧ (∀ o, H[l]? = some (some o) → ∀ b, b ∈ Fs' l → b ∈ Fs l) := by
  unfold expose
  split
  · rename_i k d hl
    obtain ⟨r, hr, hs⟩ := h.sat l _ hl
    have hlt := h.lab hl
    have hlen := h.len
    generalize hF : Fs l = F at hs
    cases hs with
    | @obj _ _ _ b c ty F hb hw hf hn =>
      obtain ⟨e, Fl, h1, h2, h3, h4⟩ := exposeF_sat _ hf ρ
      rw [← hlen] at h1 h2 h3 h4
      refine ⟨e, fun x => if x = l then [b] else if x < H.length then Fs x else Fl (x - H.length), ?_, ?_, ?_⟩
      · have hget : ∀ x o, x ≠ l → x < H.length → (H.set l (some (AObj.raw (exposeF (k.unf d) H.length).1)) ++ (exposeF (k.unf d) H.length).2)[x]? = some (some o) → H[x]? = some (some o) := by
          intro x o hx hxl hg
          rw [List.getElem?_append_left (by simpa using hxl), List.getElem?_set_ne (Ne.symm hx)] at hg
          exact hg
        have hget2 : ∀ x o, ¬ x < H.length → (H.set l (some (AObj.raw (exposeF (k.unf d) H.length).1)) ++ (exposeF (k.unf d) H.length).2)[x]? = some (some o) → (exposeF (k.unf d) H.length).2[x - H.length]? = some (some o) := by
          intro x o hxl hg
          rw [List.getElem?_append_right (by simp; omega)] at hg
          simpa using hg
        have hbF : ∀ x, x ∈ F → x ∈ Fs l := fun x hx => by rw [hF]; simp [hx]
        refine h.step (Fs l) (fun x => x = l ∨ ¬ x < H.length) (fun x hx => ⟨l, _, .inl rfl, hl, hx⟩) (Nat.le_refl _) (fun _ _ _ => rfl) .rfl rfl rfl (by simp [h1, hlen]) ?_ ?_ ?_
        · intro x o hT hg
          have hx : x ≠ l := fun h => hT (.inl h)
          have hxl : x < H.length := Decidable.byContradiction fun h => hT (.inr h)
          exact ⟨hget x o hx hxl hg, by simp [hx, hxl]⟩
        · intro x o hT hg
          by_cases hx : x = l
          · subst hx
            rw [List.getElem?_append_left (by simpa using hlt), List.getElem?_set_self hlt] at hg
            simp at hg; subst hg
            refine ⟨⟨r, getElem?_ext hr, by simpa using Sat.raw hb hw h2⟩, fun y hy => ?_⟩
            simp at hy; subst hy
            have : y ∈ Fs x := by rw [hF]; simp
            exact ⟨.inl this, (h.free x _ y hl this).2⟩
          · have hxl : ¬ x < H.length := hT.resolve_left hx
            obtain ⟨r', a1, a2, a3⟩ := h3 _ _ (hget2 x o hxl hg)
            refine ⟨⟨r', ?_, ?_⟩, fun y hy => ?_⟩
            · rw [List.getElem?_append_right (by omega), ← hlen]; exact a1
            · have := a2.mono (e := e) (w' := w) (fun _ _ => rfl)
              simpa [hx, hxl] using this
            · simp [hx, hxl] at hy
              have := hbF y (a3 y hy)
              exact ⟨.inl this, (h.free l _ y hl this).2⟩
        · intro x o x' o' y hT hT' hg hg' hy hy'
          by_cases hx : x = l <;> by_cases hx' : x' = l
          · exact hx.trans hx'.symm
          · exfalso
            have hxl : ¬ x' < H.length := hT'.resolve_left hx'
            obtain ⟨r', a1, a2, a3⟩ := h3 _ _ (hget2 x' o' hxl hg')
            simp [hx] at hy
            simp [hx', hxl] at hy'
            have := a3 y hy'
            rw [hy] at this
            exact hn this
          · exfalso
            have hxl : ¬ x < H.length := hT.resolve_left hx
            obtain ⟨r', a1, a2, a3⟩ := h3 _ _ (hget2 x o hxl hg)
            simp [hx'] at hy'
            simp [hx, hxl] at hy
            have := a3 y hy
            rw [hy'] at this
            exact hn this
          · have hxl : ¬ x < H.length := hT.resolve_left hx
            have hxl' : ¬ x' < H.length := hT'.resolve_left hx'
            simp [hx, hxl] at hy
            simp [hx', hxl'] at hy'
            have := h4 _ _ _ _ y (hget2 x o hxl hg) (hget2 x' o' hxl' hg') hy hy'
            omega
      · intro x hx o ho
        have hxl := h.lab ho
        exact ⟨by rw [List.getElem?_append_left (by simpa using hxl), List.getElem?_set_ne (Ne.symm hx)]; exact ho, by simp [hx, hxl]⟩
      · intro o ho y hy
        simp at hy
        simp [hy]
  · exact ⟨[], Fs, by simpa using h, fun x _ o ho => ⟨ho, rfl⟩, fun _ _ _ hb => hb⟩

/-- What is laid open has no object's form. -/
theorem expose_not_obj (l : Nat) (H : AHeap) (k : OK) (d : k.T) : (expose l H)[l]? ≠ some (some (.obj k d)) := by
  unfold expose
  split
  · rename_i k' d' hl
    have hlt := (List.getElem?_eq_some_iff.1 hl).1
    rw [List.getElem?_append_left (by simpa using hlt), List.getElem?_set_self hlt]
    simp
  · rename_i h
    intro hc
    exact h k d hc

/-- A load's cells: of an object that is laid open, or a row. -/
theorem readCells_run {ρ : List Root} {H : AHeap} {Fs : Nat → List Nat} (h : SatHF G ρ w H Fs) {r : Ref} {n : Nat} {k : List AV → Prop} (hr : readCells H r n k) {v : Value} (hv : RV G ρ (.ptr r) v) :
    ∃ cs b o vs, k cs ∧ v = .pointer (some ⟨b, o, none⟩) ∧ b ∈ Fs r.lab ∧ (∃ ob, H[r.lab]? = some (some ob) ∧ ∀ y, y ∈ Fs r.lab → y = b) ∧ cs.length = n ∧ RVs G ρ cs vs ∧ vs.length = n ∧
      ∀ w' : World, w'.heap[b]? = w.heap[b]? → ∀ j, j < n → w'.cell? ⟨b, o + j, none⟩ = some (vs.getD j undef) := by
  unfold readCells at hr
  simp only [RV] at hv
  obtain ⟨t, b, ht, htb, rfl⟩ := hv
  split at hr
  · rename_i cs hl
    obtain ⟨hb, hk⟩ := br_elim hr
    simp only [Bool.and_eq_true] at hb
    have hi := Nat.eq_of_beq_eq_true hb.1
    have hle := Nat.le_of_ble_eq_true hb.2
    obtain ⟨t', ht', hs⟩ := h.sat _ _ hl
    rw [ht] at ht'; cases ht'
    generalize hF : Fs r.lab = F at hs
    cases hs with
    | @raw _ _ b' c ty hb' hw hc =>
      rw [htb] at hb'; cases hb'
      have hlen : ((cs.drop r.off).take n).length = n := by simp; omega
      let f : Nat → Value := fun j => (c[t.off + (r.off + j)]?).getD undef
      refine ⟨_, b, t.off + r.idx * r.esz + r.off, (List.range n).map f, hk, rfl, by simp, ⟨_, hl, by simp⟩, hlen, RVs.of_get (by rw [hlen]; simp) ?_, by simp, ?_⟩
      · intro j x hj
        have hjn : j < n := by
          have := (List.getElem?_eq_some_iff.1 hj).1
          omega
        have hj2 : cs[r.off + j]? = some x := by
          rw [List.getElem?_take_of_lt hjn, List.getElem?_drop] at hj
          exact hj
        obtain ⟨u, hu, hru⟩ := hc _ x hj2
        refine ⟨f j, by simp [hjn], ?_⟩
        simp only [f, hu]; exact hru
      · intro w' hw' j hj
        have hx : ∃ x, cs[r.off + j]? = some x := ⟨_, List.getElem?_eq_getElem (by omega)⟩
        obtain ⟨x, hx⟩ := hx
        obtain ⟨u, hu, _⟩ := hc _ x hx
        simp only [World.cell?]
        rw [hw', hw]
        simp only [Option.isSome_none, Bool.false_eq_true, if_false]
        rw [hi]
        simp only [Nat.zero_mul, Nat.add_zero]
        rw [Nat.add_assoc, hu]
        simp [hj, f, hu]
  · rename_i ek xs hl
    obtain ⟨hb, hlt, hk⟩ := br_elim hr
    simp only [Bool.and_eq_true] at hb
    have he := Nat.eq_of_beq_eq_true hb.1
    have hle := Nat.le_of_ble_eq_true hb.2
    obtain ⟨t', ht', hs⟩ := h.sat _ _ hl
    rw [ht] at ht'; cases ht'
    generalize hF : Fs r.lab = F at hs
    cases hs with
    | @row _ _ sp _ b' c ty hb' hw h2 h3 hc =>
      rw [htb] at hb'; cases hb'
      have hget : xs[r.idx]? = some (xs.getD r.idx ek.def) := by
        rw [List.getD_eq_getElem?_getD, List.getElem?_eq_getElem hlt]; rfl
      replace hk := hk _ hget
      have hlen0 := ek.enc_len (xs.getD r.idx ek.def)
      have hlen : (((ek.enc (xs.getD r.idx ek.def)).drop r.off).take n).length = n := by rw [List.length_take, List.length_drop, hlen0]; omega
      let f : Nat → Value := fun j => (c[t.off + r.idx * ek.esz + (r.off + j)]?).getD undef
      refine ⟨_, b, t.off + r.idx * r.esz + r.off, (List.range n).map f, hk, rfl, by simp, ⟨_, hl, by simp⟩, hlen, RVs.of_get (by rw [hlen]; simp) ?_, by simp, ?_⟩
      · intro j x hj
        have hjn : j < n := by
          have := (List.getElem?_eq_some_iff.1 hj).1
          omega
        have hj2 : (ek.enc (xs.getD r.idx ek.def))[r.off + j]? = some x := by
          rw [List.getElem?_take_of_lt hjn, List.getElem?_drop] at hj
          exact hj
        obtain ⟨u, hu, hru⟩ := hc _ _ (getElem?_ext hget) _ x hj2
        refine ⟨f j, by simp [hjn], ?_⟩
        simp only [f, hu]; exact hru.rv
      · intro w' hw' j hj
        have hx : ∃ x, (ek.enc (xs.getD r.idx ek.def))[r.off + j]? = some x := ⟨_, List.getElem?_eq_getElem (by omega)⟩
        obtain ⟨x, hx⟩ := hx
        obtain ⟨u, hu, _⟩ := hc _ _ (getElem?_ext hget) _ x hx
        simp only [World.cell?]
        rw [hw', hw]
        simp only [Option.isSome_none, Bool.false_eq_true, if_false]
        rw [he]
        rw [Nat.add_assoc, hu]
        simp [hj, f, hu]
    | rownil hb' ht' => rw [htb] at hb'; cases hb'
  · exact hr.elim

/-- A value of its cells. -/
def valOf (g : Bool) (vs : List Value) : Value := match g with | true => .agg vs.toArray | false => vs.getD 0 undef

/-- The model's load of a variable, given its cells. -/
theorem run_loadVar_cells {t : TypeId} {g : Bool} (hg : isAggT P t = some g) {i : TypeInfo} (hi : P.info? t = some i) {b o : Nat} {vs : List Value} (hl : vs.length = P.cellsOf t)
    {w' : World} (hc : ∀ j, j < vs.length → w'.cell? ⟨b, o + j, none⟩ = some (vs.getD j undef)) (h1 : g = false → vs.length = 1) :
    (loadVar t ⟨b, o, none⟩).run P w' = .ok (valOf g vs) w' := by
  unfold loadVar valOf
  cases g with
  | true =>
    have := run_loadCells (P := P) w' ⟨b, o, none⟩ vs.length (fun j => vs.getD j undef) (fun j hj => by
      have := hc j hj
      unfold Addr.add
      split
      · rename_i h0; subst h0; simpa using this
      · exact this)
    have e : ((List.range vs.length).map fun j => vs.getD j undef) = vs := by
      apply List.ext_getElem
      · simp
      · intro n h1 h2
        simp [h2]
    rw [e] at this
    simp only [Sem.run_bind, run_agg hg, Result.andThen_ok, if_true, run_size hi, ← hl, this, Sem.run_pure]
  | false =>
    have := hc 0 (by have := h1 rfl; omega)
    simp [run_agg hg] 
    simp at this
    simp [this]

theorem ofCells_rv {ρ : List Root} {g : Bool} {cs : List AV} {k : AV → Prop} (h : ofCells g cs k) {vs : List Value} (hr : RVs G ρ cs vs) :
    ∃ x, k x ∧ RV G ρ x (valOf g vs) ∧ (g = false → vs.length = 1) := by
  cases g with
  | true =>
    simp only [ofCells, forceL_eq] at h
    exact ⟨_, h, by simp only [RV, valOf]; exact ⟨_, rfl, by simpa using hr⟩, by simp⟩
  | false =>
    simp only [ofCells] at h
    split at h
    · rename_i x
      simp only [RVs] at hr
      obtain ⟨v, ws, rfl, hx, rfl⟩ := hr
      exact ⟨x, h, by simpa [valOf] using hx, by simp⟩
    · exact h.elim

end Go.Ax
