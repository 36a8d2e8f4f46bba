/-
  The executor is right, part twelve: append.
-/
import Derived.Test.YtjpeimmjggkkjaaAx13
set_option linter.all false
namespace Go.Ax
variable {G : Gam} {ρ : List Root} {w : World}

/-- The cells of a row's elements. -/
def rowCells (f : Nat → Value) (o n : Nat) : List Value := (List.range n).map fun j => f (o + j)

/-- What an append's second argument brings. -/
theorem rowOf_src {P : Program} {ek : EK} {H : AHeap} {Fs : Nat → List Nat} (hH : SatHF G ρ w H Fs) {x : AV} {K : List ek.T → Prop} (h : rowOf ek H x K) {v : Value} (hv : RV G ρ x v) {tx e' : TypeId} (htx : P.underlying tx = some (.slice e')) :
    ∃ ys news, K ys ∧ Src P ek.esz tx v ys.length news w ∧ ∀ (i : Nat) (y : ek.T), ys[i]? = some y → ∀ (j : Nat) (z : AV), (ek.enc y)[j]? = some z → ∃ u, news[i * ek.esz + j]? = some u ∧ RV1 G z u := by
  -- from cells
  have cells : ∀ (ys : List ek.T) (b o : Nat) (n c : Nat), n = ys.length → (∀ (i : Nat) (y : ek.T), ys[i]? = some y → ∀ (j : Nat) (z : AV), (ek.enc y)[j]? = some z → ∃ u, w.cell? ⟨b, o + (i * ek.esz + j), none⟩ = some u ∧ RV1 G z u) →
      ∃ news, Src P ek.esz tx (.slice (some ⟨b, o, none⟩) n c) ys.length news w ∧ ∀ (i : Nat) (y : ek.T), ys[i]? = some y → ∀ (j : Nat) (z : AV), (ek.enc y)[j]? = some z → ∃ u, news[i * ek.esz + j]? = some u ∧ RV1 G z u := by
    intro ys b o n c hn hc
    subst hn
    have hin : ∀ m, m < ys.length * ek.esz → ∃ u z, w.cell? ⟨b, o + m, none⟩ = some u ∧ RV1 G z u ∧ z.flat = true := by
      intro m hm
      have hpos := ek.esz_pos
      have hi : m / ek.esz < ys.length := (Nat.div_lt_iff_lt_mul hpos).2 hm
      have hj : m % ek.esz < ek.esz := Nat.mod_lt _ hpos
      have hlen := ek.enc_len ys[m / ek.esz]
      obtain ⟨u, hu, hr⟩ := hc (m / ek.esz) _ (List.getElem?_eq_getElem hi) (m % ek.esz) _ (List.getElem?_eq_getElem (by omega))
      have hdm : m / ek.esz * ek.esz + m % ek.esz = m := by
        rw [Nat.mul_comm]; exact Nat.div_add_mod m ek.esz
      rw [hdm] at hu
      exact ⟨u, _, hu, hr, List.all_eq_true.1 (enc_flat ek _) _ (List.getElem_mem _)⟩
    let f : Nat → Value := fun m => (w.cell? ⟨b, o + m, none⟩).getD undef
    refine ⟨(List.range (ys.length * ek.esz)).map f, Src.ofSlice w htx ⟨b, o, none⟩ _ c _ (by simp) (fun j u hj => ?_) (fun u hu => ?_), fun i y hi j z hj => ?_⟩
    · have hjl : j < ys.length * ek.esz := by
        have := (List.getElem?_eq_some_iff.1 hj).1
        simpa using this
      obtain ⟨u', z, hu', _⟩ := hin j hjl
      simp [hjl, f] at hj
      rw [addr_add, ← hj, hu']
      rfl
    · obtain ⟨m, hm, rfl⟩ := List.mem_map.1 hu
      obtain ⟨u', z, hu', hr, hfl⟩ := hin m (by simpa using hm)
      simp only [f, hu']
      refine one_of (G := G) (ρ := ρ) hr.rv ?_
      cases z <;> simp [AV.flat] at hfl <;> rfl
    · obtain ⟨u, hu, hr⟩ := hc i y hi j z hj
      have hil := (List.getElem?_eq_some_iff.1 hi).1
      have hjl : j < ek.esz := by
        have := (List.getElem?_eq_some_iff.1 hj).1
        rw [ek.enc_len] at this; exact this
      have hlt : i * ek.esz + j < ys.length * ek.esz := by
        have : (i + 1) * ek.esz ≤ ys.length * ek.esz := Nat.mul_le_mul_right _ hil
        rw [Nat.add_mul] at this; omega
      exact ⟨u, by simp [hlt, f, hu], hr⟩
  have empty : ∀ (a : Option Addr) (c : Nat), Src P ek.esz tx (.slice a 0 c) 0 [] w := by
    intro a c
    cases a with
    | none => exact Src.ofNil w htx c
    | some a => exact Src.ofSlice w htx a 0 c [] (by simp) (by simp) (by simp)
  unfold rowOf at h
  cases x
  case nils =>
    simp only [RV] at hv; subst hv
    exact ⟨[], [], h, empty none 0, by simp⟩
  case imm e2 ys =>
    simp only [] at h
    split at h
    · rename_i he
      subst he
      simp only [RV] at hv
      obtain ⟨ad, c, rfl, _, hc⟩ := hv
      by_cases hn : ys.length = 0
      · have : ys = [] := List.eq_nil_of_length_eq_zero hn
        subst this
        exact ⟨[], [], h, empty ad c, by simp⟩
      · obtain ⟨b, o, rfl, hcc⟩ := hc (by omega)
        obtain ⟨news, h1, h2⟩ := cells ys b o ys.length c rfl (fun i y hi j z hj => by
          obtain ⟨u, hu, hr⟩ := hcc i y hi j z hj
          refine ⟨u, ?_, ?_⟩
          · rw [← Nat.add_assoc]; exact imm_cell hH.wok hu
          · exact hr)
        exact ⟨ys, news, h, h1, h2⟩
    · exact h.elim
  case sl lab es base n =>
    simp only [] at h
    split at h
    · rename_i e2 ys hl
      split at h
      · rename_i he
        subst he
        obtain ⟨hes, hle, h⟩ := br_elim h
        have hes := Nat.eq_of_beq_eq_true hes
        simp only [RV] at hv
        obtain ⟨t, ht, htot, hv⟩ := hv
        rcases hv with ⟨b, hb, rfl⟩ | ⟨hn0, htb, aa, rfl⟩
        · obtain ⟨t', ht', hs⟩ := hH.sat _ _ hl
          rw [ht] at ht'; cases ht'
          generalize hF : Fs lab = F at hs
          cases hs with
          | rownil hb' _ => rw [hb] at hb'; cases hb'
          | @row _ _ sp _ b' c ty hb' hw h2 h3 hc =>
            rw [hb] at hb'; cases hb'
            obtain ⟨news, g1, g2⟩ := cells ((ys.drop base).take n) b (t.off + base * es) n (t.tot - base) (by simp; omega) (fun i y hi j z hj => by
              have hin : i < n := by
                have := (List.getElem?_eq_some_iff.1 hi).1
                simp at this; omega
              rw [List.getElem?_take_of_lt hin, List.getElem?_drop] at hi
              obtain ⟨u, hu, hr⟩ := hc _ y (getElem?_ext hi) j z hj
              refine ⟨u, ?_, hr⟩
              simp only [World.cell?, hw, Option.isSome_none, Bool.false_eq_true, if_false]
              rw [← hu]; congr 1
              rw [hes, Nat.add_mul]; omega)
            have hlen : ((ys.drop base).take n).length = n := by simp; omega
            exact ⟨_, news, h, g1, g2⟩
        · subst hn0
          have : (ys.drop base).take 0 = [] := by simp
          rw [this] at h
          exact ⟨[], [], h, empty aa 0, by simp⟩
      · exact h.elim
    · exact h.elim
  all_goals exact h.elim

end Go.Ax
