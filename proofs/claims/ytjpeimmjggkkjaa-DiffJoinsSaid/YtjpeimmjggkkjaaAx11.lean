/-
  The executor is right, part nine: stores, and new objects.
-/
import Derived.Test.YtjpeimmjggkkjaaAx10
set_option linter.all false
namespace Go.Ax
variable {G : Gam} {ρ : List Root} {w : World}

theorem setCells_get {α : Type} : ∀ (us xs : List α) (o j : Nat), (setCells xs o us)[j]? = if o ≤ j ∧ j < o + us.length ∧ j < xs.length then us[j - o]? else xs[j]?
  | [], xs, o, j => by
    rw [if_neg (by simp; omega)]; rfl
  | u :: us, xs, o, j => by
    simp only [setCells]
    rw [setCells_get us]
    simp only [List.length_set, List.length_cons]
    by_cases h1 : o + 1 ≤ j ∧ j < o + 1 + us.length ∧ j < xs.length
    · rw [if_pos h1, if_pos (by omega)]
      rw [show j - o = (j - (o + 1)) + 1 from by omega]
      simp
    · rw [if_neg h1]
      by_cases h2 : j = o
      · subst h2
        by_cases h3 : j < xs.length
        · rw [List.getElem?_set_self h3, if_pos (by omega)]; simp
        · rw [List.getElem?_eq_none (by simp; omega), if_neg (by omega), List.getElem?_eq_none (by omega)]
      · rw [List.getElem?_set_ne (Ne.symm h2), if_neg (by omega)]

theorem setCell_heap_same {b o : Nat} {v : Value} {c : Array Value} {ty : TypeId} {fr : Nat × Nat} (hw : w.heap[b]? = some (.cells c ty fr)) :
    (w.setCell ⟨b, o, none⟩ v).heap[b]? = some (.cells (c.setIfInBounds o v) ty fr) := by
  simp only [World.setCell]
  rw [Array.getElem?_modify, if_pos rfl, hw]
  simp

theorem setCell_heap_ne {b o x : Nat} {v : Value} (h : x ≠ b) : (w.setCell ⟨b, o, none⟩ v).heap[x]? = w.heap[x]? := by
  simp only [World.setCell]
  rw [Array.getElem?_modify, if_neg (Ne.symm h)]

theorem setCells_heap {b : Nat} {ty : TypeId} : ∀ (vs : List Value) (o : Nat) (w : World) (c : Array Value), w.heap[b]? = some (.cells c ty (0, 0)) →
    (∃ c', (w.setCells b o vs).heap[b]? = some (.cells c' ty (0, 0)) ∧ c'.toList = setCells c.toList o vs) ∧ (∀ x, x ≠ b → (w.setCells b o vs).heap[x]? = w.heap[x]?) ∧
      (w.setCells b o vs).heap.size = w.heap.size ∧ SameOs w (w.setCells b o vs) ∧ (w.setCells b o vs).tape = w.tape ∧ (w.setCells b o vs).output = w.output
  | [], o, w, c, hw => ⟨⟨c, hw, rfl⟩, fun _ _ => rfl, rfl, .rfl, rfl, rfl⟩
  | v :: vs, o, w, c, hw => by
    obtain ⟨⟨c', h1, h2⟩, h3, h4, h5, h6, h7⟩ := setCells_heap vs (o + 1) (w.setCell ⟨b, o, none⟩ v) _ (setCell_heap_same hw)
    refine ⟨⟨c', h1, ?_⟩, fun x hx => (h3 x hx).trans (setCell_heap_ne hx), ?_, SameOs.trans (b := w.setCell ⟨b, o, none⟩ v) ⟨rfl, Nat.le_refl _⟩ h5, h6, h7⟩
    · rw [h2]; simp [setCells]
    · rw [show w.setCells b o (v :: vs) = (w.setCell ⟨b, o, none⟩ v).setCells b (o + 1) vs from rfl, h4]
      simp [World.setCell]

theorem one_of {x : AV} {v : Value} (h : RV G ρ x v) (h1 : x.one = true) : v.oneCell' = true := by
  cases x <;> simp [AV.one] at h1 <;> simp only [RV] at h
  case sl => obtain ⟨_, _, _, h⟩ := h; rcases h with ⟨_, _, rfl⟩ | ⟨_, _, _, rfl⟩ <;> rfl
  all_goals first
    | (subst h; rfl)
    | (obtain ⟨_, _, rfl, _⟩ := h; rfl)
    | (obtain ⟨_, _, _, _, rfl⟩ := h; rfl)
    | (obtain ⟨_, rfl, _⟩ := h; rfl)

theorem ones_of : ∀ {xs : List AV} {vs : List Value} (_ : RVs G ρ xs vs) (_ : xs.all AV.one = true), ∀ v ∈ vs, v.oneCell' = true
  | [], vs, h, _, v, hv => by simp only [RVs] at h; subst h; simp at hv
  | x :: xs, vs, h, h1, v, hv => by
    simp only [RVs] at h
    obtain ⟨u, us, rfl, hu, hus⟩ := h
    simp only [List.all_cons, Bool.and_eq_true] at h1
    rcases List.mem_cons.1 hv with rfl | hv
    · exact one_of hu h1.1
    · exact ones_of hus h1.2 v hv

/-- What was not touched. -/
def Unt (w w' : World) (H H' : AHeap) (Fs Fs' : Nat → List Nat) (T : List Nat) : Prop :=
  ∀ l o, H[l]? = some (some o) → l ∉ T → H'[l]? = some (some o) ∧ Fs' l = Fs l ∧ ∀ b, b ∈ Fs l → w'.heap[b]? = w.heap[b]?

theorem flat_rv1 {y : AV} {u : Value} (hf : y.flat = true) (h : RV G ρ y u) : RV1 G y u := by
  cases y <;> simp [AV.flat] at hf <;> simp only [RV] at h <;> try (simp only [RV1, RV0]; exact h)
  rename_i k xs
  have hk : k = .u8 := EK.num_inj (by simpa [EK.num] using hf)
  subst hk
  simp only [RV1]
  obtain ⟨a, cap, h1, h2, h4⟩ := h
  refine ⟨a, cap, h1, h2, fun hn => ?_⟩
  obtain ⟨b, o, h5, h6⟩ := h4 hn
  refine ⟨b, o, h5, fun i x hi j z hj => ?_⟩
  obtain ⟨u, hu, hr⟩ := h6 i x hi j z hj
  refine ⟨u, hu, ?_⟩
  cases j with
  | zero => simp [EK.enc] at hj; subst hj; simp only [RV1, RV0] at hr ⊢; exact hr
  | succ j => simp [EK.enc] at hj

/-- A store into an object that is laid open, or into a row. -/
theorem writeCells_run {E : Env} {H : AHeap} {Fs : Nat → List Nat} (h : SatHF G ρ w H Fs) {r : Ref} {xs : List AV} {k : AHeap → Prop} (hr : writeCells H r xs k) {v : Value} (hv : RV G ρ (.ptr r) v)
    {vs : List Value} (hvs : RVs G ρ xs vs) (h1 : xs.all AV.one = true) :
    ∃ b o H' w', v = .pointer (some ⟨b, o, none⟩) ∧ k H' ∧ (storeCells ⟨b, o, none⟩ vs).run E.P w = .ok () w' ∧ SatHF G ρ w' H' Fs ∧ Unt w w' H H' Fs Fs [r.lab] := by
  unfold writeCells at hr
  simp only [RV] at hv
  obtain ⟨t, b, ht, htb, rfl⟩ := hv
  have hvl := hvs.len
  have hones := ones_of hvs h1
  -- the general part
  have main : ∀ (ob ob' : AObj) (c : Array Value) (ty : TypeId) (o : Nat), H[r.lab]? = some (some ob) → Fs r.lab = [b] → w.heap[b]? = some (.cells c ty (0, 0)) → (∀ j, j < vs.length → ∃ u, c[o + j]? = some u) →
      k (H.set r.lab (some ob')) → (∀ c' w', w'.heap[b]? = some (.cells c' ty (0, 0)) → c'.toList = setCells c.toList o vs → Sat G ρ w' ob' t [b]) →
      ∃ H' w', k H' ∧ (storeCells ⟨b, o, none⟩ vs).run E.P w = .ok () w' ∧ SatHF G ρ w' H' Fs ∧ Unt w w' H H' Fs Fs [r.lab] := by
    intro ob ob' c ty o hl hF hw hin hk hsat
    obtain ⟨⟨c', g1, g2⟩, g3, g4, g5, g6, g7⟩ := setCells_heap vs o w c hw
    have hrun := run_storeCells_cells (P := E.P) b o vs 0 w (fun j hj => by
        obtain ⟨u, hu⟩ := hin j hj
        simp [World.cell?, hw, hu]) (fun j hj => by simp [World.frozen?, hw]) hones
    simp only [Nat.add_zero] at hrun
    have hset := SatH.set h hl ob' [b] (w' := w.setCells b o vs) (by rw [g4]; exact Nat.le_refl _) (fun x _ hx => g3 x (fun he => hx (by rw [hF, he]; simp))) g5 g6 g7
      (fun r' hr' => by rw [ht] at hr'; cases hr'; exact hsat c' _ g1 g2) (fun y hy => by
        simp at hy; subst hy
        have : y ∈ Fs r.lab := by rw [hF]; simp
        exact ⟨.inl this, by rw [g4]; exact (h.free _ _ y hl this).2⟩)
    have hFs : (fun x => if x = r.lab then [b] else Fs x) = Fs := by
      funext x
      by_cases hx : x = r.lab
      · subst hx; simp [hF]
      · simp [hx]
    rw [hFs] at hset
    refine ⟨_, _, hk, hrun, hset, fun l o' hl' hT => ⟨?_, rfl, fun y hy => g3 y (fun he => ?_)⟩⟩
    · have hne : l ≠ r.lab := fun he => hT (by simp [he])
      rw [List.getElem?_set_ne (Ne.symm hne)]; exact hl'
    · subst he
      have := h.apart l o' r.lab ob y hl' hl hy (by rw [hF]; simp)
      exact hT (by simp [this])
  split at hr
  · rename_i cs hl
    obtain ⟨hb, hk⟩ := br_elim hr
    rw [forceL_eq, forceL_eq] at hk
    simp only [Bool.and_eq_true] at hb
    have hi := Nat.eq_of_beq_eq_true hb.1
    have hle := Nat.le_of_ble_eq_true hb.2
    obtain ⟨t', ht', hs⟩ := h.sat _ _ hl
    rw [ht] at ht'; cases ht'
    generalize hF : Fs r.lab = F at hs
    cases hs with
    | @raw _ _ b' c ty hb' hw hc =>
      rw [htb] at hb'; cases hb'
      have hget : ∀ j, j < cs.length → ∃ x u, cs[j]? = some x ∧ c[t.off + j]? = some u ∧ RV G ρ x u := fun j hj => by
        obtain ⟨u, hu, hr⟩ := hc j _ (List.getElem?_eq_getElem hj)
        exact ⟨_, u, List.getElem?_eq_getElem hj, hu, hr⟩
      obtain ⟨H', w', hk', hrun, hsat, hun⟩ := main _ (.raw (setCells cs r.off xs)) c ty (t.off + r.off) hl hF hw (fun j hj => by
          obtain ⟨x, u, _, hu, _⟩ := hget (r.off + j) (by omega)
          exact ⟨u, by rw [Nat.add_assoc]; exact hu⟩) hk (fun c' w' hw' hc' => by
          refine .raw htb hw' fun j x hj => ?_
          rw [setCells_get] at hj
          have hc2 : c'[t.off + j]? = (setCells c.toList (t.off + r.off) vs)[t.off + j]? := by rw [← hc']; simp
          rw [hc2, setCells_get]
          split at hj
          · rename_i hcond
            obtain ⟨u, hu, hru⟩ := hvs.get hj
            obtain ⟨x0, u0, _, hu0, _⟩ := hget j hcond.2.2
            have hin : t.off + j < c.toList.length := by
              have := (Array.getElem?_eq_some_iff.1 hu0).1
              simpa using this
            rw [if_pos ⟨by omega, by omega, hin⟩]
            exact ⟨u, by rw [show t.off + j - (t.off + r.off) = j - r.off from by omega]; exact hu, hru⟩
          · rename_i hcond
            obtain ⟨u, hu, hru⟩ := hc j x hj
            refine ⟨u, ?_, hru⟩
            rw [if_neg ?_]
            · simpa using hu
            · rintro ⟨a1, a2, a3⟩
              have := (List.getElem?_eq_some_iff.1 hj).1
              exact hcond ⟨by omega, by omega, this⟩)
      exact ⟨b, t.off + r.off, H', w', by simp [hi], hk', hrun, hsat, hun⟩
  · rename_i ek ys hl
    obtain ⟨hb, hlt, hk⟩ := br_elim hr
    replace hk := hk (ys.getD r.idx ek.def) (by rw [List.getD_eq_getElem?_getD, List.getElem?_eq_getElem hlt]; rfl)
    simp only [Bool.and_eq_true] at hb
    have he := Nat.eq_of_beq_eq_true hb.1
    have hle := Nat.le_of_ble_eq_true hb.2
    split at hk
    · rename_i z hz
      rw [forceL_eq] at hk
      have henc := enc_dec ek _ _ hz
      obtain ⟨t', ht', hs⟩ := h.sat _ _ hl
      rw [ht] at ht'; cases ht'
      generalize hF : Fs r.lab = F at hs
      cases hs with
      | rownil hb' _ => rw [htb] at hb'; cases hb'
      | @row _ _ sp _ b' c ty hb' hw h2 h3 hc =>
        rw [htb] at hb'; cases hb'
        have hgetd : (ys ++ sp)[r.idx]? = some (ys.getD r.idx ek.def) := by
          rw [List.getElem?_append_left hlt, List.getD_eq_getElem?_getD, List.getElem?_eq_getElem hlt]; rfl
        have hlt' : r.idx < (ys ++ sp).length := by simp; omega
        have hlen0 := ek.enc_len (ys.getD r.idx ek.def)
        have hlenz := ek.enc_len z
        obtain ⟨H', w', hk', hrun, hsat, hun⟩ := main _ (.row ek (ys.set r.idx z)) c ty (t.off + r.idx * ek.esz + r.off) hl hF hw (fun j hj => by
            obtain ⟨u, hu, _⟩ := hc _ _ hgetd (r.off + j) _ (List.getElem?_eq_getElem (by omega))
            exact ⟨u, by rw [Nat.add_assoc]; exact hu⟩) hk (fun c' w' hw' hc' => by
            have hsz : c'.size = c.size := by
              have := congrArg List.length hc'
              rw [setCells_length] at this
              simpa using this
            refine .row (sp := sp) htb hw' (by simpa using h2) (by rw [hsz]; exact h3) fun i x hi j y hj => ?_
            rw [← List.set_append_left _ _ hlt] at hi
            have hc2 : c'[t.off + i * ek.esz + j]? = (setCells c.toList (t.off + r.idx * ek.esz + r.off) vs)[t.off + i * ek.esz + j]? := by rw [← hc']; simp
            rw [hc2, setCells_get]
            have hjl : j < ek.esz := by
              have := (List.getElem?_eq_some_iff.1 hj).1
              rw [ek.enc_len] at this; exact this
            by_cases hir : i = r.idx
            · subst hir
              rw [List.getElem?_set_self hlt'] at hi
              simp at hi; subst hi
              rw [henc, setCells_get] at hj
              split at hj
              · rename_i hcond
                obtain ⟨u, hu, hru⟩ := hvs.get hj
                obtain ⟨u0, hu0, _⟩ := hc _ _ hgetd j _ (List.getElem?_eq_getElem hcond.2.2)
                have hin : t.off + r.idx * ek.esz + j < c.toList.length := by
                  have := (Array.getElem?_eq_some_iff.1 hu0).1
                  simpa using this
                rw [if_pos ⟨by omega, by omega, hin⟩]
                refine ⟨u, by rw [show t.off + r.idx * ek.esz + j - (t.off + r.idx * ek.esz + r.off) = j - r.off from by omega]; exact hu, ?_⟩
                refine flat_rv1 ?_ hru
                have hmem : y ∈ ek.enc z := by
                  rw [henc]
                  refine List.mem_iff_getElem?.2 ⟨j, ?_⟩
                  rw [setCells_get, if_pos hcond]; exact hj
                exact List.all_eq_true.1 (enc_flat ek z) y hmem
              · rename_i hcond
                obtain ⟨u, hu, hru⟩ := hc _ _ hgetd j y hj
                refine ⟨u, ?_, hru⟩
                rw [if_neg ?_]
                · simpa using hu
                · rintro ⟨a1, a2, a3⟩
                  have := (List.getElem?_eq_some_iff.1 hj).1
                  exact hcond ⟨by omega, by omega, this⟩
            · rw [List.getElem?_set_ne (Ne.symm hir)] at hi
              obtain ⟨u, hu, hru⟩ := hc i x hi j y hj
              refine ⟨u, ?_, hru⟩
              rw [if_neg ?_]
              · simpa using hu
              · rintro ⟨a1, a2, a3⟩
                rcases Nat.lt_or_gt_of_ne hir with hlt' | hgt'
                · have : (i + 1) * ek.esz ≤ r.idx * ek.esz := Nat.mul_le_mul_right _ hlt'
                  rw [Nat.add_mul] at this
                  omega
                · have : (r.idx + 1) * ek.esz ≤ i * ek.esz := Nat.mul_le_mul_right _ hgt'
                  rw [Nat.add_mul] at this
                  omega)
        exact ⟨b, t.off + r.idx * ek.esz + r.off, H', w', by simp [he], hk', hrun, hsat, hun⟩
    · exact hk.elim
  · exact hr.elim

end Go.Ax
