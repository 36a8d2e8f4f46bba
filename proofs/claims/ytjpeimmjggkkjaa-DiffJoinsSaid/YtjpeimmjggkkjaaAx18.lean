/-
  The executor is right, part sixteen: code and bodies.
-/
import Derived.Test.YtjpeimmjggkkjaaAx17s
import Derived.Deep.LoopGhost
import Derived.Scope
set_option linter.all false
namespace Go.Ax
variable {G : Gam} {ρ : List Root} {w : World}

/-! ### Values that are the same, values that ask for no later label -/
mutual
theorem AV.same_eq : ∀ {x y : AV}, x.same y → x = y
  | .bool _, y, h => by cases y <;> simp only [AV.same] at h <;> first | exact h.elim | rw [h]
  | .int _ _, y, h => by
    cases y <;> simp only [AV.same] at h <;> first | exact h.elim | skip
    obtain ⟨h1, h2⟩ := br_elim h
    rw [kindEq_eq h1, h2]
  | .str _, y, h => by cases y <;> simp only [AV.same] at h <;> first | exact h.elim | rw [h]
  | .imm _ _, y, h => by
    cases y <;> simp only [AV.same] at h <;> first | exact h.elim | skip
    split at h
    · rename_i he; subst he; simp at h; rw [h]
    · exact h.elim
  | .ptr r, y, h => by
    cases y <;> simp only [AV.same] at h <;> first | exact h.elim | skip
    obtain ⟨h1, h2⟩ := br_elim h
    rename_i q
    obtain ⟨a, b, c, d⟩ := r
    obtain ⟨a', b', c', d'⟩ := q
    simp only [Bool.and_eq_true] at h1
    have e1 := Nat.eq_of_beq_eq_true h1.1.1
    have e2 := Nat.eq_of_beq_eq_true h1.1.2
    have e3 := Nat.eq_of_beq_eq_true h1.2
    simp only [] at e1 e2 e3 h2
    rw [e1, e2, e3, h2]
  | .mp _, y, h => by
    cases y <;> simp only [AV.same] at h <;> first | exact h.elim | skip
    obtain ⟨h1, h2⟩ := br_elim h
    rw [Nat.eq_of_beq_eq_true h1]
  | .nilp, y, h => by cases y <;> simp only [AV.same] at h <;> first | exact h.elim | rfl
  | .sl _ _ _ _, y, h => by
    cases y <;> simp only [AV.same] at h <;> first | exact h.elim | skip
    obtain ⟨h1, h2, h3⟩ := br_elim h
    simp only [Bool.and_eq_true] at h1
    have e1 := Nat.eq_of_beq_eq_true h1.1
    have e2 := Nat.eq_of_beq_eq_true h1.2
    rw [e1, e2, h2, h3]
  | .nils, y, h => by cases y <;> simp only [AV.same] at h <;> first | exact h.elim | rfl
  | .fn _ _, y, h => by
    cases y <;> simp only [AV.same] at h <;> first | exact h.elim | skip
    obtain ⟨h1, h2⟩ := br_elim h
    have e1 := Nat.eq_of_beq_eq_true h1
    rw [e1, sameAll_eq h2]
  | .nilf, y, h => by cases y <;> simp only [AV.same] at h <;> first | exact h.elim | rfl
  | .nilm, y, h => by cases y <;> simp only [AV.same] at h <;> first | exact h.elim | rfl
  | .ifc _ _, y, h => by
    cases y <;> simp only [AV.same] at h <;> first | exact h.elim | skip
    obtain ⟨h1, h2⟩ := br_elim h
    have e1 := Nat.eq_of_beq_eq_true h1
    rw [e1, AV.same_eq h2]
  | .nili, y, h => by cases y <;> simp only [AV.same] at h <;> first | exact h.elim | rfl
  | .agg _, y, h => by
    cases y <;> simp only [AV.same] at h <;> first | exact h.elim | skip
    rw [sameAll_eq h]
  | .tup _, y, h => by
    cases y <;> simp only [AV.same] at h <;> first | exact h.elim | skip
    rw [sameAll_eq h]
  | .cptr _ _, y, h => by
    cases y <;> simp only [AV.same] at h <;> first | exact h.elim | skip
    obtain ⟨h1, h2⟩ := br_elim h
    have e1 := Nat.eq_of_beq_eq_true h1
    rw [e1, sameAll_eq h2]
theorem sameAll_eq : ∀ {xs ys : List AV}, sameAll xs ys → xs = ys
  | [], ys, h => by cases ys <;> simp only [sameAll] at h <;> rfl
  | _ :: _, ys, h => by
    cases ys <;> simp only [sameAll] at h
    rw [AV.same_eq h.1, sameAll_eq h.2]
end

theorem AObj.same_eq {x y : AObj} (h : x.same y) : x = y := by
  cases x <;> cases y <;> simp only [AObj.same] at h <;> first
    | (exact h.elim)
    | (rw [sameAll_eq h])
    | (split at h
       · rename_i he; subst he; simp at h; rw [h]
       · exact h.elim)

theorem take_get {α : Type} {l : List α} {n i : Nat} {x : α} (h : l[i]? = some x) (hn : i < n) : (l.take n)[i]? = some x := by
  rw [List.getElem?_take_of_lt hn]; exact h

mutual
theorem RV.cut {n : Nat} : ∀ {x : AV} {v : Value}, x.labs n = true → RV G ρ x v → RV G (ρ.take n) x v
  | .bool _, _, _, h | .int _ _, _, _, h | .str _, _, _, h | .imm _ _, _, _, h | .nilp, _, _, h | .nils, _, _, h | .nilf, _, _, h | .nilm, _, _, h | .nili, _, _, h | .cptr _ _, _, _, h => by
    first | exact h | (simp only [RV] at h ⊢ <;> exact h)
  | .mp _, _, hl, h => by
    simp only [RV] at h ⊢
    obtain ⟨t, b, h1, h2⟩ := h
    simp only [AV.labs] at hl
    exact ⟨t, b, take_get h1 (by simpa [Nat.blt_eq] using hl), h2⟩
  | .ptr _, _, hl, h => by
    simp only [RV] at h ⊢
    obtain ⟨t, b, h1, h2⟩ := h
    simp only [AV.labs] at hl
    exact ⟨t, b, take_get h1 (by simpa [Nat.blt_eq] using hl), h2⟩
  | .sl _ _ _ _, _, hl, h => by
    simp only [RV] at h ⊢
    obtain ⟨t, h1, h2⟩ := h
    simp only [AV.labs] at hl
    exact ⟨t, take_get h1 (by simpa [Nat.blt_eq] using hl), h2⟩
  | .fn _ _, _, hl, h => by
    simp only [RV] at h ⊢
    obtain ⟨vs, h1, h2⟩ := h
    simp only [AV.labs] at hl
    exact ⟨vs, h1, RVs.cut hl h2⟩
  | .agg _, _, hl, h => by
    simp only [RV] at h ⊢
    obtain ⟨vs, h1, h2⟩ := h
    simp only [AV.labs] at hl
    exact ⟨vs, h1, RVs.cut hl h2⟩
  | .tup _, _, hl, h => by
    simp only [RV] at h ⊢
    obtain ⟨vs, h1, h2⟩ := h
    simp only [AV.labs] at hl
    exact ⟨vs, h1, RVs.cut hl h2⟩
  | .ifc _ _, _, hl, h => by
    simp only [RV] at h ⊢
    obtain ⟨vs, h1, h2⟩ := h
    simp only [AV.labs] at hl
    exact ⟨vs, h1, RV.cut hl h2⟩
theorem RVs.cut {n : Nat} : ∀ {xs : List AV} {vs : List Value}, labsAll n xs = true → RVs G ρ xs vs → RVs G (ρ.take n) xs vs
  | [], _, _, h => by simp only [RVs] at h ⊢; exact h
  | _ :: _, _, hl, h => by
    simp only [RVs] at h ⊢
    simp only [labsAll, Bool.and_eq_true] at hl
    obtain ⟨v, ws, h1, h2, h3⟩ := h
    exact ⟨v, ws, h1, RV.cut hl.1 h2, RVs.cut hl.2 h3⟩
end

theorem labsAll_mem {n : Nat} : ∀ {xs : List AV}, labsAll n xs = true → ∀ x, x ∈ xs → x.labs n = true
  | [], _, _, hx => by simp at hx
  | y :: ys, h, x, hx => by
    simp only [labsAll, Bool.and_eq_true] at h
    rcases List.mem_cons.1 hx with rfl | hx
    · exact h.1
    · exact labsAll_mem h.2 x hx

/-- An object under other roots: only open cells ask for them. -/
theorem Sat.swap {ρ' : List Root} {o : AObj} {r : Root} {F : List Nat} (h : Sat G ρ w o r F) (hc : ∀ cs, o = .raw cs → ∀ x, x ∈ cs → ∀ v, RV G ρ x v → RV G ρ' x v) : Sat G ρ' w o r F := by
  revert hc
  refine Sat.rec (motive_1 := fun o r F _ => (∀ cs, o = .raw cs → ∀ x, x ∈ cs → ∀ v, RV G ρ x v → RV G ρ' x v) → Sat G ρ' w o r F)
    (motive_2 := fun fs c o F _ => SatF G ρ' w fs c o F) ?_ ?_ ?_ ?_ ?_ ?_ ?_ ?_ ?_ h
  · intro cs r b c ty hb h1 h2 hc
    refine .raw hb h1 fun j x hj => ?_
    obtain ⟨u, hu, hr⟩ := h2 j x hj
    exact ⟨u, hu, hc cs rfl x (List.mem_of_getElem? hj) u hr⟩
  · intro k xs sp r b c ty hb h1 h2 h3 h5 hc; exact .row hb h1 h2 h3 h5
  · intro k r hb ht hc; exact .rownil hb ht
  · intro k d r b c ty F hb h1 h2 hn ih hc; exact .obj hb h1 ih hn
  · intro k m r b es ck hb h1 h2 hc; exact .map hb h1 h2
  · intro c o; exact .nil
  · intro x fs c o u F hu hr h ih; exact .av hu hr ih
  · intro k d fs c o b' o' F1 F2 hu h1 h hd ih1 ih2; exact .own hu (ih1 fun cs he => by cases he) ih2 hd
  · intro k xs fs c o v r F1 F2 hu hv h1 h hd ih1 ih2; exact .ownr hu hv (ih1 fun cs he => by cases he) ih2 hd

theorem leHeap_get {n : Nat} : ∀ {H A : AHeap}, leHeap n H A → ∀ (l : Nat) (o : AObj), A[l]? = some (some o) → H[l]? = some (some o) ∧ o.labs n = true
  | _, [], _, l, o, h => by simp at h
  | H, none :: r, h, l, o, ho => by
    have h' : leHeap n H.tail r := by cases H <;> simpa only [leHeap] using h
    cases l with
    | zero => simp at ho
    | succ l =>
      simp at ho
      obtain ⟨h1, h2⟩ := leHeap_get h' l o ho
      exact ⟨by cases H <;> simpa using h1, h2⟩
  | [], some _ :: r, h, l, o, ho => by simp only [leHeap] at h
  | none :: _, some _ :: r, h, l, o, ho => by simp only [leHeap] at h
  | some p :: H, some q :: r, h, l, o, ho => by
    simp only [leHeap] at h
    obtain ⟨h1, h2, h3⟩ := br_elim h
    cases l with
    | zero =>
      simp at ho; subst ho
      exact ⟨by simp [AObj.same_eq h2], h1⟩
    | succ l =>
      simp at ho
      obtain ⟨g1, g2⟩ := leHeap_get h3 l o ho
      exact ⟨by simpa using g1, g2⟩

theorem mkTmps_len (n : Nat) : ∀ l : List (Nat × AV), (mkTmps n l).length = n
  | [] => by simp [mkTmps]
  | (s, v) :: r => by simp [mkTmps, mkTmps_len n r]

theorem mkTmps_get {n m : Nat} {ts : List (Option AV)} : ∀ {l : List (Nat × AV)}, leTmps n ts l → ∀ (s : Nat) (x : AV), (mkTmps m l)[s]? = some (some x) → ts[s]? = some (some x) ∧ x.labs n = true
  | [], _, s, x, h => by
    simp only [mkTmps] at h
    have := List.mem_of_getElem? h
    simp at this
  | (t, v) :: r, hl, s, x, h => by
    simp only [leTmps] at hl
    simp only [mkTmps] at h
    by_cases hst : t = s
    · subst hst
      have hlt : t < (mkTmps m r).length := by
        have := (List.getElem?_eq_some_iff.1 h).1
        simpa using this
      rw [List.getElem?_set_self hlt] at h
      simp at h; subst h
      obtain ⟨h1, _⟩ := hl
      split at h1
      · rename_i u hu
        obtain ⟨h2, h3⟩ := br_elim h1
        rw [hu, AV.same_eq h3]
        exact ⟨rfl, h2⟩
      · exact h1.elim
    · rw [List.getElem?_set_ne hst] at h
      exact mkTmps_get hl.2 s x h

/-- At a loop's head: the state is what the annotation tells, under fewer labels. -/
theorem enters_sound {A : LoopAnn} {x : A.X} {st : AS} {a : Act} {ρ0 e : List Root} (h : A.enters ρ0.length st x) (hs : ST G (ρ0 ++ e) w st a) :
    ∃ e', ST G (ρ0 ++ e') w ⟨mkTmps a.tmps.size (A.live x), A.heap x⟩ a := by
  obtain ⟨h1, h2, h3⟩ := br_elim h
  simp only [Bool.and_eq_true] at h1
  have hn := Nat.le_of_ble_eq_true h1.1
  have hm := Nat.le_of_ble_eq_true h1.2
  obtain ⟨Fs, hH⟩ := hs.sat
  have hlen := hH.len
  have hcut : (ρ0 ++ e).take (A.heap x).length = ρ0 ++ e.take ((A.heap x).length - ρ0.length) := by
    rw [List.take_append, List.take_of_length_le hn]
  refine ⟨e.take ((A.heap x).length - ρ0.length), ?_, ⟨Fs, ?_⟩, hs.df⟩
  · rw [← hcut]
    refine ⟨by rw [mkTmps_len], fun s y hy => ?_⟩
    obtain ⟨g1, g2⟩ := mkTmps_get h2 s y hy
    obtain ⟨v, hv, hr⟩ := hs.tr.2 s y g1
    exact ⟨v, hv, hr.cut g2⟩
  · rw [← hcut]
    refine ⟨?_, ?_, ?_, ?_, hH.wok⟩
    · simp [List.length_take]; simp at hlen; omega
    · intro l o hl
      obtain ⟨g1, g2⟩ := leHeap_get h3 l o hl
      obtain ⟨r, hr, hsat⟩ := hH.sat l o g1
      refine ⟨r, take_get hr (List.getElem?_eq_some_iff.1 hl).1, hsat.swap fun cs he y hy v hv => ?_⟩
      subst he
      exact hv.cut (labsAll_mem g2 y hy)
    · intro l o l' o' b hl hl' h1 h2
      exact hH.apart l o l' o' b (leHeap_get h3 l o hl).1 (leHeap_get h3 l' o' hl').1 h1 h2
    · intro l o b hl hb
      exact hH.free l o b (leHeap_get h3 l o hl).1 hb

/-- A nil slice is an empty row. -/
theorem nilRow_st {st : AS} {a : Act} {ρ0 e : List Root} (hs : ST G (ρ0 ++ e) w st a) (s : Nat) (ek : EK) : ∃ e', ST G (ρ0 ++ e') w (nilRow st s ek) a := by
  unfold nilRow
  split
  · rename_i hn
    obtain ⟨Fs, hH⟩ := hs.sat
    obtain ⟨v, hv, hr⟩ := hs.tr.2 s _ hn
    refine ⟨e ++ [⟨none, 0, 0⟩], ?_, ?_, hs.df⟩
    · rw [← List.append_assoc]
      refine ⟨by simpa using hs.tr.1, fun t y hy => ?_⟩
      by_cases ht : s = t
      · subst ht
        have hlt := (List.getElem?_eq_some_iff.1 hn).1
        rw [List.getElem?_set_self hlt] at hy
        simp at hy; subst hy
        refine ⟨v, hv, ?_⟩
        simp only [RV] at hr ⊢
        exact ⟨⟨none, 0, 0⟩, by rw [hH.len]; simp, Nat.le_refl _, .inr (by simp [hr])⟩
      · rw [List.getElem?_set_ne ht] at hy
        obtain ⟨u, hu, hr⟩ := hs.tr.2 t y hy
        exact ⟨u, hu, hr.ext⟩
    · rw [← List.append_assoc]
      exact ⟨_, SatH.push hH (.row ek []) ⟨none, 0, 0⟩ [] (w' := w) (Nat.le_refl _) (fun _ _ => rfl) .rfl rfl rfl (.rownil rfl rfl) (by simp)⟩
  · exact ⟨e, hs⟩

mutual
theorem RV.relab {l : Nat} {t : Root} : ∀ {x : AV} {v : Value}, x.lacks l = true → RV G ρ x v → RV G (ρ.set l t) x v
  | .bool _, _, _, h | .int _ _, _, _, h | .str _, _, _, h | .imm _ _, _, _, h | .nilp, _, _, h | .nils, _, _, h | .nilf, _, _, h | .nilm, _, _, h | .nili, _, _, h | .cptr _ _, _, _, h => by
    first | exact h | (simp only [RV] at h ⊢ <;> exact h)
  | .mp m, _, hl, h => by
    simp only [RV] at h ⊢
    obtain ⟨t, b, h1, h2⟩ := h
    simp only [AV.lacks] at hl
    have hne : l ≠ m := fun he => by subst he; simp at hl
    exact ⟨t, b, by rw [List.getElem?_set_ne hne]; exact h1, h2⟩
  | .ptr r, _, hl, h => by
    simp only [RV] at h ⊢
    obtain ⟨t, b, h1, h2⟩ := h
    simp only [AV.lacks] at hl
    have hne : l ≠ r.lab := fun he => by subst he; simp at hl
    exact ⟨t, b, by rw [List.getElem?_set_ne hne]; exact h1, h2⟩
  | .sl m _ _ _, _, hl, h => by
    simp only [RV] at h ⊢
    obtain ⟨t, h1, h2⟩ := h
    simp only [AV.lacks] at hl
    have hne : l ≠ m := fun he => by subst he; simp at hl
    exact ⟨t, by rw [List.getElem?_set_ne hne]; exact h1, h2⟩
  | .fn _ _, _, hl, h => by
    simp only [RV] at h ⊢
    simp only [AV.lacks] at hl
    obtain ⟨vs, h1, h2⟩ := h
    exact ⟨vs, h1, RVs.relab hl h2⟩
  | .agg _, _, hl, h => by
    simp only [RV] at h ⊢
    simp only [AV.lacks] at hl
    obtain ⟨vs, h1, h2⟩ := h
    exact ⟨vs, h1, RVs.relab hl h2⟩
  | .tup _, _, hl, h => by
    simp only [RV] at h ⊢
    simp only [AV.lacks] at hl
    obtain ⟨vs, h1, h2⟩ := h
    exact ⟨vs, h1, RVs.relab hl h2⟩
  | .ifc _ _, _, hl, h => by
    simp only [RV] at h ⊢
    simp only [AV.lacks] at hl
    obtain ⟨vs, h1, h2⟩ := h
    exact ⟨vs, h1, RV.relab hl h2⟩
theorem RVs.relab {l : Nat} {t : Root} : ∀ {xs : List AV} {vs : List Value}, lacksAll l xs = true → RVs G ρ xs vs → RVs G (ρ.set l t) xs vs
  | [], _, _, h => by simp only [RVs] at h ⊢; exact h
  | _ :: _, _, hl, h => by
    simp only [RVs] at h ⊢
    simp only [lacksAll, Bool.and_eq_true] at hl
    obtain ⟨v, ws, h1, h2, h3⟩ := h
    exact ⟨v, ws, h1, RV.relab hl.1 h2, RVs.relab hl.2 h3⟩
end

theorem lacksAll_mem {l : Nat} : ∀ {xs : List AV}, lacksAll l xs = true → ∀ x, x ∈ xs → x.lacks l = true
  | [], _, _, hx => by simp at hx
  | y :: ys, h, x, hx => by
    simp only [lacksAll, Bool.and_eq_true] at h
    rcases List.mem_cons.1 hx with rfl | hx
    · exact h.1
    · exact lacksAll_mem h.2 x hx

/-- A row goes back to a label that is free. -/
theorem home_st {st : AS} {a : Act} {ρ0 e : List Root} (hs : ST G (ρ0 ++ e) w st a) (s l : Nat) : ∃ e', ST G (ρ0 ++ e') w (homeOf ρ0.length st s l) a := by
  unfold homeOf
  split
  · rename_i L es b n hn
    split
    · rename_i k xs hne hfree hrow
      cases hc : (Nat.ble ρ0.length l && st.heap.all (objLacks l)) with
      | false => exact ⟨e, hs⟩
      | true =>
        simp only [Bool.and_eq_true] at hc
        obtain ⟨hle, hall⟩ := hc
        have hle := Nat.le_of_ble_eq_true hle
        have hLl : L ≠ l := Nat.ne_of_beq_eq_false hne
        obtain ⟨Fs, hH⟩ := hs.sat
        obtain ⟨t, ht, hsat⟩ := hH.sat L _ hrow
        have hlt : l < st.heap.length := (List.getElem?_eq_some_iff.1 hfree).1
        have hltr : l < (ρ0 ++ e).length := by rw [← hH.len]; exact hlt
        have hset : (ρ0 ++ e).set l t = ρ0 ++ e.set (l - ρ0.length) t := by rw [List.set_append, if_neg (by omega)]
        simp only [cond_true]
        refine ⟨e.set (l - ρ0.length) t, ?_, ⟨fun q => if q = l then Fs L else Fs q, ?_⟩, hs.df⟩
        · rw [← hset]
          refine ⟨by simpa using hs.tr.1, fun q y hy => ?_⟩
          simp only [] at hy
          by_cases hq : s = q
          · subst hq
            have hlt := (List.getElem?_eq_some_iff.1 hn).1
            rw [List.getElem?_set_self (by simpa using hlt)] at hy
            simp at hy; subst hy
            obtain ⟨v, hv, hr⟩ := hs.tr.2 s _ hn
            refine ⟨v, hv, ?_⟩
            simp only [RV] at hr ⊢
            obtain ⟨t', h1, h2⟩ := hr
            rw [ht] at h1; cases h1
            exact ⟨t, by rw [List.getElem?_set_self hltr], h2⟩
          · rw [List.getElem?_set_ne hq, List.getElem?_map] at hy
            cases hx : st.tmps[q]? with
            | none => simp [hx] at hy
            | some ox =>
              simp only [hx, Option.map_some, Option.some.injEq] at hy
              cases ox with
              | none => simp [killL] at hy
              | some x =>
                simp only [killL] at hy
                cases hlk : x.lacks l with
                | false => simp [hlk] at hy
                | true =>
                  simp [hlk] at hy; subst hy
                  obtain ⟨v, hv, hr⟩ := hs.tr.2 q x hx
                  exact ⟨v, hv, hr.relab hlk⟩
        · rw [← hset]
          have hget : ∀ (q : Nat) (o : AObj), ((st.heap.set l (some (.row k xs))).set L none)[q]? = some (some o) → (q = l ∧ o = .row k xs) ∨ (q ≠ l ∧ q ≠ L ∧ st.heap[q]? = some (some o)) := by
            intro q o hq
            by_cases hqL : L = q
            · subst hqL
              have hlt := (List.getElem?_eq_some_iff.1 hrow).1
              rw [List.getElem?_set_self (by simpa using hlt)] at hq
              cases hq
            · rw [List.getElem?_set_ne hqL] at hq
              by_cases hql : l = q
              · subst hql
                rw [List.getElem?_set_self hlt] at hq
                cases hq
                exact .inl ⟨rfl, rfl⟩
              · rw [List.getElem?_set_ne hql] at hq
                exact .inr ⟨fun h => hql h.symm, fun h => hqL h.symm, hq⟩
          refine ⟨by simp [← hH.len], ?_, ?_, ?_, hH.wok⟩
          · intro q o hq
            rcases hget q o hq with ⟨rfl, rfl⟩ | ⟨h1, h2, h3⟩
            · refine ⟨t, by rw [List.getElem?_set_self hltr], ?_⟩
              simp only [if_true]
              exact hsat.swap fun cs he => by cases he
            · obtain ⟨r, hr, hs2⟩ := hH.sat q o h3
              refine ⟨r, by rw [List.getElem?_set_ne (Ne.symm h1)]; exact hr, ?_⟩
              simp only [if_neg h1]
              refine hs2.swap fun cs he y hy v hv => ?_
              subst he
              have := List.all_eq_true.1 hall _ (List.mem_of_getElem? h3)
              exact hv.relab (lacksAll_mem this y hy)
          · intro q o q' o' c hq hq' hc hc'
            rcases hget q o hq with ⟨rfl, rfl⟩ | ⟨h1, h2, h3⟩ <;> rcases hget q' o' hq' with ⟨rfl, rfl⟩ | ⟨g1, g2, g3⟩
            · rfl
            · simp only [if_true, if_neg g1] at hc hc'
              exact absurd (hH.apart _ _ _ _ c hrow g3 hc hc') (Ne.symm g2)
            · simp only [if_true, if_neg h1] at hc hc'
              exact absurd (hH.apart _ _ _ _ c h3 hrow hc hc') h2
            · simp only [if_neg g1, if_neg h1] at hc hc'
              exact hH.apart _ _ _ _ c h3 g3 hc hc'
          · intro q o c hq hc
            rcases hget q o hq with ⟨rfl, rfl⟩ | ⟨h1, h2, h3⟩
            · simp only [if_true] at hc
              exact hH.free _ _ c hrow hc
            · simp only [if_neg h1] at hc
              exact hH.free _ _ c h3 hc
    · exact ⟨e, hs⟩
  · exact ⟨e, hs⟩

/-- An object is put together again. -/
theorem fold_st {st : AS} {a : Act} {ρ : List Root} (hs : ST G ρ w st a) {l : Nat} {ok : OK} {K : ok.T → AHeap → Prop} (h : takeO 9 ok l st.heap K) :
    ∃ d H, K d H ∧ ST G ρ w ⟨st.tmps, H.set l (some (.obj ok d))⟩ a := by
  obtain ⟨Fs, hH⟩ := hs.sat
  obtain ⟨d, H', F, r, h1, h2, h3, h4, h5, o, h6⟩ := takeO_lab 9 ok l st.heap Fs K hH h
  refine ⟨d, H', h1, hs.tr, ⟨fun q => if q = l then F else Fs q, ?_⟩, hs.df⟩
  have hf := hH.fewer h4
  have hlt : l < H'.length := (List.getElem?_eq_some_iff.1 h5).1
  have hget : ∀ (q : Nat) (o : AObj), (H'.set l (some (.obj ok d)))[q]? = some (some o) → (q = l ∧ o = .obj ok d) ∨ (q ≠ l ∧ H'[q]? = some (some o)) := by
    intro q o hq
    by_cases hql : l = q
    · subst hql
      rw [List.getElem?_set_self hlt] at hq
      cases hq
      exact .inl ⟨rfl, rfl⟩
    · rw [List.getElem?_set_ne hql] at hq
      exact .inr ⟨fun h => hql h.symm, hq⟩
  have hsep : ∀ (q : Nat) (o : AObj) (b : Nat), H'[q]? = some (some o) → b ∈ Fs q → b ∉ F := by
    intro q o b hq hb hF
    obtain ⟨l', o', g1, g2, g3⟩ := h4.out b hF
    have := hH.apart q o l' o' b (h4.sub _ _ hq) g1 hb g2
    subst this
    rw [g3] at hq; cases hq
  refine ⟨by simpa using hf.len, ?_, ?_, ?_, hH.wok⟩
  · intro q o hq
    rcases hget q o hq with ⟨rfl, rfl⟩ | ⟨g1, g2⟩
    · exact ⟨r, h2, by simpa using h3⟩
    · obtain ⟨r', hr', hs'⟩ := hf.sat q o g2
      exact ⟨r', hr', by simpa [g1] using hs'⟩
  · intro q o q' o' c hq hq' hc hc'
    rcases hget q o hq with ⟨rfl, rfl⟩ | ⟨g1, g2⟩ <;> rcases hget q' o' hq' with ⟨rfl, rfl⟩ | ⟨k1, k2⟩
    · rfl
    · simp only [if_true, if_neg k1] at hc hc'
      exact absurd hc (hsep _ _ _ k2 hc')
    · simp only [if_true, if_neg g1] at hc hc'
      exact absurd hc' (hsep _ _ _ g2 hc)
    · simp only [if_neg g1, if_neg k1] at hc hc'
      exact hf.apart q o q' o' c g2 k2 hc hc'
  · intro q o c hq hc
    rcases hget q o hq with ⟨rfl, rfl⟩ | ⟨g1, g2⟩
    · simp only [if_true] at hc
      obtain ⟨l', o', g1, g2, g3⟩ := h4.out c hc
      exact hH.free l' o' c g1 g2
    · simp only [if_neg g1] at hc
      exact hf.free q o c g2 hc

theorem norms_st {a : Act} {ρ0 : List Root} {k : AS → Prop} : ∀ {r : List Norm} {st : AS} {e : List Root}, norms ρ0.length r st k → ST G (ρ0 ++ e) w st a → ∃ st' e', k st' ∧ ST G (ρ0 ++ e') w st' a
  | [], st, e, h, hs => ⟨st, e, h, hs⟩
  | .row s ek :: r, st, e, h, hs => by
    simp only [norms, forceL_eq] at h
    obtain ⟨e', h'⟩ := nilRow_st hs s ek
    exact norms_st h h'
  | .home s l :: r, st, e, h, hs => by
    simp only [norms, forceL_eq] at h
    obtain ⟨e', h'⟩ := home_st hs s l
    exact norms_st h h'
  | .fold l ok :: r, st, e, h, hs => by
    simp only [norms] at h
    obtain ⟨d, H, h1, h2⟩ := fold_st hs h
    rw [forceL_eq] at h1
    exact norms_st h1 h2

def AEx.ex : AEx → Exit
  | .normal => .normal
  | .exit id => .exit id
  | .ret => .ret

theorem aexec_sound {E : LEnv} (hE : E.toEnv.OK) {ρ0 : List Root} (hn0 : E.n0 = ρ0.length) : ∀ (c : Code) (e : List Root) (st : AS) (a : Act) (w : World) (K : AEx → AS → Prop) (Q : Exit → Act → World → Prop),
    aexec E c st K → ST G (ρ0 ++ e) w st a → (∀ x st' e' a' w', K x st' → ST G (ρ0 ++ e') w' st' a' → Q x.ex a' w') → c.wp E.P Q a w
  | .skip, e, st, a, w, K, Q, h, hs, hQ => wp_skip (hQ .normal st e a w h hs)
  | .region id ops draw, e, st, a, w, K, Q, h, hs, hQ => aregion_sound hE h hs fun st' e' a' w' hk hs' => hQ .normal st' e' a' w' hk hs'
  | .exit id, e, st, a, w, K, Q, h, hs, hQ => wp_exit (hQ (.exit id) st e a w h hs)
  | .ret, e, st, a, w, K, Q, h, hs, hQ => wp_ret (hQ .ret st e a w h hs)
  | .seq c d, e, st, a, w, K, Q, h, hs, hQ => by
    simp only [aexec] at h
    refine wp_seq (aexec_sound hE hn0 c e st a w _ _ h hs fun x st' e' a' w' hk hs' => ?_)
    cases x with
    | normal => exact aexec_sound hE hn0 d e' st' a' w' K Q hk hs' hQ
    | exit id => exact hQ (.exit id) st' e' a' w' hk hs'
    | ret => exact hQ .ret st' e' a' w' hk hs'
  | .cond o c d, e, st, a, w, K, Q, h, hs, hQ => by
    simp only [aexec] at h
    split at h
    · rename_i t ht
      have hv := rv_bool (eval_rv hs.tr ht)
      cases t with
      | true => exact wp_cond_true hv (aexec_sound hE hn0 c e st a w K Q h hs hQ)
      | false => exact wp_cond_false hv (aexec_sound hE hn0 d e st a w K Q h hs hQ)
    · exact h.elim
  | .block id c, e, st, a, w, K, Q, h, hs, hQ => by
    simp only [aexec] at h
    refine wp_block (aexec_sound hE hn0 c e st a w _ _ h hs fun x st' e' a' w' hk hs' => ?_)
    cases x with
    | normal => exact hQ .normal st' e' a' w' hk hs'
    | exit i =>
      simp only [AEx.ex, Exit.inBlock]
      cases hb : Nat.beq i id with
      | true =>
        simp only [hb, br] at hk
        rw [if_pos (Nat.eq_of_beq_eq_true hb)]
        exact hQ .normal st' e' a' w' hk hs'
      | false =>
        simp only [hb, br] at hk
        rw [if_neg (Nat.ne_of_beq_eq_false hb)]
        exact hQ (.exit i) st' e' a' w' hk hs'
    | ret => exact hQ .ret st' e' a' w' hk hs'
  | .loop c, e, st, a, w, K, Q, h, hs, hQ => by
    simp only [aexec] at h
    split at h
    · rename_i A hA
      obtain ⟨I, m, x0, hp0, hen0, hround⟩ := h
      have hsz : a.tmps.size = st.tmps.length := hs.tr.1
      let R : A.X → Act → World → Prop := fun x a w => I x ∧ ∃ e', ST G (ρ0 ++ e') w ⟨mkTmps st.tmps.length (A.live x), A.heap x⟩ a
      have h0 : R x0 a w := by
        rw [hn0] at hen0
        obtain ⟨st1, e1, hen1, hs1⟩ := norms_st hen0 hs
        obtain ⟨e', h'⟩ := enters_sound hen1 hs1
        exact ⟨hp0, e', by rw [← hsz]; exact h'⟩
      have hround' : ∀ x a w, R x a w → c.wp E.P (Exit.then (fun a' w' => ∃ n', n' < m x ∧ ∃ y, R y a' w' ∧ m y = n') Q) a w := by
        intro x a w ⟨hp, e', hst⟩
        have hr := hround x hp
        rw [forceL_eq, forceL_eq] at hr
        refine aexec_sound hE hn0 c e' _ a w _ _ hr hst fun ex st' e2 a' w' hk hs' => ?_
        cases ex with
        | normal =>
          obtain ⟨hb, y, hpy, heny, hlt⟩ := br_elim hk
          rw [hn0] at heny
          obtain ⟨st1, e1, hen1, hs1⟩ := norms_st heny hs'
          obtain ⟨e3, h3⟩ := enters_sound hen1 hs1
          refine ⟨m y, hlt, y, ⟨hpy, e3, ?_⟩, rfl⟩
          rw [← Nat.eq_of_beq_eq_true hb, ← hs'.tr.1]
          exact h3
        | exit id => exact hQ (.exit id) st' e2 a' w' hk hs'
        | ret => exact hQ .ret st' e2 a' w' hk hs'
      exact wp_loop_ghost (fun n a w => ∃ y, R y a w ∧ m y = n) (m x0) ⟨x0, h0, rfl⟩ fun n a w ⟨x, hx, he⟩ => by
        subst he
        exact hround' x a w hx
    · exact h.elim
  | .scope c, e, st, a, w, K, Q, h, hs, hQ => by
    simp only [aexec] at h
    refine wp_scope_straight (aexec_sound hE hn0 c e st a w K _ h hs fun x st' e' a' w' hk hs' => ?_)
    cases x with
    | normal => exact hQ .normal st' e' a' w' hk hs'
    | exit id => exact hQ (.exit id) st' e' a' w' hk hs'
    | ret => exact hQ .ret st' e' a' w' hk hs'
  | .label _, e, st, a, w, K, Q, h, hs, hQ => by
    simp only [aexec] at h
    exact wp_label (hQ .normal st e a w h hs)
  | .goto _, _, _, _, _, _, _, h, _, _ => by simp only [aexec] at h
  | .rangeFunc .., _, _, _, _, _, _, h, _, _ => by simp only [aexec] at h
  | .refuse _, _, _, _, _, _, _, h, _, _ => by simp only [aexec] at h
end Go.Ax
