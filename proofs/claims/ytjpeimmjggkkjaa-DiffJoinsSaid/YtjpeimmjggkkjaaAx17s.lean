/-
  What a function asks and gives, by kinds: values and objects are taken out of a heap, and put into one.
-/
import Derived.Test.YtjpeimmjggkkjaaAx17
set_option linter.all false
namespace Go.Ax

/-- What is known of what was taken. -/
structure Took (H H' : AHeap) (Fs : Nat → List Nat) (F : List Nat) : Prop where
  len : H'.length = H.length
  sub : ∀ (l : Nat) (o : AObj), H'[l]? = some (some o) → H[l]? = some (some o)
  out : ∀ b, b ∈ F → ∃ (l : Nat) (o : AObj), H[l]? = some (some o) ∧ b ∈ Fs l ∧ H'[l]? = some none

theorem Took.refl (H : AHeap) (Fs : Nat → List Nat) : Took H H Fs [] := ⟨rfl, fun _ _ h => h, fun b hb => by cases hb⟩

theorem Took.none_mono {H H' : AHeap} {Fs : Nat → List Nat} {F : List Nat} (h : Took H H' Fs F) {l : Nat} (hl : H[l]? = some none) : H'[l]? = some none := by
  have hlt := (List.getElem?_eq_some_iff.1 hl).1
  have hlt' : l < H'.length := by rw [h.len]; exact hlt
  cases hh : H'[l] with
  | none => rw [List.getElem?_eq_getElem hlt', hh]
  | some o =>
    have := h.sub l o (by rw [List.getElem?_eq_getElem hlt', hh])
    rw [hl] at this; cases this

theorem Took.trans {H1 H2 H3 : AHeap} {Fs : Nat → List Nat} {F1 F2 : List Nat} (h1 : Took H1 H2 Fs F1) (h2 : Took H2 H3 Fs F2) : Took H1 H3 Fs (F1 ++ F2) := by
  refine ⟨h2.len.trans h1.len, fun l o h => h1.sub l o (h2.sub l o h), fun b hb => ?_⟩
  rcases List.mem_append.1 hb with hb | hb
  · obtain ⟨l, o, g1, g2, g3⟩ := h1.out b hb
    exact ⟨l, o, g1, g2, h2.none_mono g3⟩
  · obtain ⟨l, o, g1, g2, g3⟩ := h2.out b hb
    exact ⟨l, o, h1.sub l o g1, g2, g3⟩

/-- What was taken first lies apart from what was taken then. -/
theorem Took.apart {G : Gam} {ρ : List Root} {w : World} {H1 H2 H3 : AHeap} {Fs : Nat → List Nat} {F1 F2 : List Nat} (hs : SatHF G ρ w H1 Fs) (h1 : Took H1 H2 Fs F1) (h2 : Took H2 H3 Fs F2) : ∀ b, b ∈ F1 → b ∉ F2 := by
  intro b hb1 hb2
  obtain ⟨l, o, g1, g2, g3⟩ := h1.out b hb1
  obtain ⟨l', o', k1, k2, k3⟩ := h2.out b hb2
  have := hs.apart l o l' o' b g1 (h1.sub _ _ k1) g2 k2
  subst this
  rw [g3] at k1; cases k1

theorem SatHF.fewer {G : Gam} {ρ : List Root} {w : World} {H H' : AHeap} {Fs : Nat → List Nat} {F : List Nat} (hs : SatHF G ρ w H Fs) (h : Took H H' Fs F) : SatHF G ρ w H' Fs :=
  ⟨h.len.trans hs.len, fun l o hl => hs.sat l o (h.sub l o hl), fun l o l' o' b h1 h2 => hs.apart l o l' o' b (h.sub l o h1) (h.sub l' o' h2), fun l o b hl => hs.free l o b (h.sub l o hl), hs.wok⟩

theorem Took.one {H : AHeap} {Fs : Nat → List Nat} {l : Nat} {o : AObj} (h : H[l]? = some (some o)) : Took H (H.set l none) Fs (Fs l) := by
  have hlt := (List.getElem?_eq_some_iff.1 h).1
  refine ⟨by simp, fun l' o' hl' => ?_, fun b hb => ⟨l, o, h, hb, by rw [List.getElem?_set_self hlt]⟩⟩
  by_cases hne : l = l'
  · subst hne
    rw [List.getElem?_set_self hlt] at hl'; cases hl'
  · rwa [List.getElem?_set_ne hne] at hl'

section
variable {G : Gam} {ρ : List Root} {w : World}

def TakeOK (G : Gam) (ρ : List Root) (w : World) (rec : (k : OK) → Nat → AHeap → (k.T → AHeap → Prop) → Prop) : Prop :=
  ∀ (k : OK) (l : Nat) (H : AHeap) (Fs : Nat → List Nat) (K : k.T → AHeap → Prop), SatHF G ρ w H Fs → rec k l H K →
    ∃ d H' F r, K d H' ∧ ρ[l]? = some r ∧ Sat G ρ w (.obj k d) r F ∧ Took H H' Fs F

theorem sat_root {k : OK} {d : k.T} {r r' : Root} {F : List Nat} (h : Sat G ρ w (.obj k d) r F) (hb : r'.blk = r.blk) (ho : r'.off = r.off) : Sat G ρ w (.obj k d) r' F := by
  cases h with
  | @obj _ _ _ b c ty F hb' hw hf hn => exact .obj (hb.trans hb') hw (by rw [ho]; exact hf) hn

theorem ptr0 {r : Ref} {t : Root} {u : Value} (h : RV G ρ (.ptr r) u) (hb : (Nat.beq r.idx 0 && Nat.beq r.off 0) = true) (ht : ρ[r.lab]? = some t) : ∃ b, t.blk = some b ∧ u = .pointer (some ⟨b, t.off, none⟩) := by
  simp only [Bool.and_eq_true] at hb
  simp only [RV] at h
  obtain ⟨t', b, h1, h2, rfl⟩ := h
  rw [ht] at h1; cases h1
  refine ⟨b, h2, ?_⟩
  rw [Nat.eq_of_beq_eq_true hb.1, Nat.eq_of_beq_eq_true hb.2]
  simp

/-- A part of a row, as a row of its own. -/
theorem sat_part {k : EK} {xs : List k.T} {r : Root} {F : List Nat} (h : Sat G ρ w (.row k xs) r F) (base n : Nat) (hle : base + n ≤ xs.length) :
    Sat G ρ w (.row k ((xs.drop base).take n)) ⟨r.blk, r.off + base * k.esz, r.tot - base⟩ F := by
  cases h with
  | @row _ _ sp _ b c ty hb hw ht hc hx =>
    have heq : (xs.drop base).take n ++ (xs ++ sp).drop (base + n) = (xs ++ sp).drop base := by
      rw [← List.drop_drop, List.drop_append_of_le_length (by omega : base ≤ xs.length)]
      rw [← List.take_append_of_le_length (l₂ := sp) (by simp; omega : n ≤ (xs.drop base).length)]
      exact List.take_append_drop n _
    refine .row (sp := (xs ++ sp).drop (base + n)) hb hw (by simp; omega) ?_ ?_
    · show r.off + base * k.esz + (r.tot - base) * k.esz ≤ c.size
      have : base * k.esz + (r.tot - base) * k.esz = r.tot * k.esz := by rw [← Nat.add_mul]; congr 1; omega
      omega
    · intro i x hi j y hj
      rw [heq, List.getElem?_drop] at hi
      obtain ⟨u, hu, hr⟩ := hx _ x hi j y hj
      refine ⟨u, ?_, hr⟩
      show c[r.off + base * k.esz + i * k.esz + j]? = some u
      rw [← hu]; congr 1
      rw [Nat.add_mul]; omega
  | rownil hb ht =>
    simp at hle
    obtain ⟨rfl, rfl⟩ := hle
    exact .rownil hb (by simp [ht])

theorem slAt_of {lab esz base n : Nat} {u : Value} {r : Root} (h : RV G ρ (.sl lab esz base n) u) (hr : ρ[lab]? = some r) : slAt ⟨r.blk, r.off + base * esz, r.tot - base⟩ n u := by
  simp only [RV] at h
  obtain ⟨t, h1, h2, h3⟩ := h
  rw [hr] at h1; cases h1
  refine ⟨by show n ≤ r.tot - base; omega, ?_⟩
  rcases h3 with ⟨b, h4, h5⟩ | ⟨h4, h5, h6⟩
  · exact .inl ⟨b, h4, h5⟩
  · exact .inr ⟨h4, by show r.tot - base = 0; omega, h6⟩

theorem takeF_sound {rec : (k : OK) → Nat → AHeap → (k.T → AHeap → Prop) → Prop} (hrec : TakeOK G ρ w rec) {c : Array Value} :
    ∀ (ss : List Shp) (cs : List AV) (o : Nat) (H : AHeap) (Fs : Nat → List Nat) (K : List Fld → AHeap → Prop), SatHF G ρ w H Fs → (∀ (j : Nat) (x : AV), cs[j]? = some x → ∃ u, c[o + j]? = some u ∧ RV G ρ x u) → takeF rec ss cs H K →
      ∃ fs H' F, K fs H' ∧ SatF G ρ w fs c o F ∧ Took H H' Fs F
  | [], [], o, H, Fs, K, hs, hc, h => ⟨[], H, [], h, .nil, .refl H Fs⟩
  | [], _ :: _, o, H, Fs, K, hs, hc, h => by simp [takeF] at h
  | s :: _, [], o, H, Fs, K, hs, hc, h => by cases s <;> simp [takeF] at h
  | s :: ss, x :: cs, o, H, Fs, K, hs, hc, h => by
    obtain ⟨u, hu, hr⟩ := hc 0 x (by simp)
    have hc' : ∀ (j : Nat) (x : AV), cs[j]? = some x → ∃ u, c[o + 1 + j]? = some u ∧ RV G ρ x u := fun j y hj => by
      have := hc (j + 1) y (by simpa using hj)
      rwa [show o + (j + 1) = o + 1 + j by omega] at this
    have hu' : c[o]? = some u := by simpa using hu
    cases s with
    | av =>
      simp only [takeF] at h
      obtain ⟨hf, h⟩ := br_elim h
      obtain ⟨fs, H', F, h1, h2, h3⟩ := takeF_sound hrec ss cs (o + 1) H Fs _ hs hc' h
      refine ⟨_, H', F, h1, .av hu' ?_ h2, h3⟩
      cases hfl : x.flat with
      | true => exact .inl (flat_rv1 hfl hr)
      | false =>
        rw [hfl] at hf
        cases x <;> simp [isNil] at hf
        simp only [RV] at hr
        exact .inr ⟨rfl, hr⟩
    | own k =>
      simp only [takeF] at h
      split at h
      · rename_i r
        obtain ⟨hf, h⟩ := br_elim h
        obtain ⟨d, H1, F1, t, h1, h2, h3, h4⟩ := hrec k r.lab H Fs _ hs h
        obtain ⟨fs, H', F, g1, g2, g3⟩ := takeF_sound hrec ss cs (o + 1) H1 Fs _ (hs.fewer h4) hc' h1
        obtain ⟨b, hb, rfl⟩ := ptr0 hr hf h2
        exact ⟨_, H', _, g1, .own hu' (sat_root h3 hb.symm rfl) g2 (Took.apart hs h4 g3), h4.trans g3⟩
      · exact h.elim
    | opt k =>
      simp only [takeF] at h
      split at h
      · rename_i r
        obtain ⟨hf, h⟩ := br_elim h
        obtain ⟨d, H1, F1, t, h1, h2, h3, h4⟩ := hrec k r.lab H Fs _ hs h
        obtain ⟨fs, H', F, g1, g2, g3⟩ := takeF_sound hrec ss cs (o + 1) H1 Fs _ (hs.fewer h4) hc' h1
        obtain ⟨b, hb, rfl⟩ := ptr0 hr hf h2
        exact ⟨_, H', _, g1, .own hu' (sat_root h3 hb.symm rfl) g2 (Took.apart hs h4 g3), h4.trans g3⟩
      · obtain ⟨fs, H', F, h1, h2, h3⟩ := takeF_sound hrec ss cs (o + 1) H Fs _ hs hc' h
        simp only [RV] at hr
        exact ⟨_, H', F, h1, .av hu' (.inr ⟨rfl, hr⟩) h2, h3⟩
      · exact h.elim
    | ownr k =>
      simp only [takeF] at h
      split at h
      · rename_i lab esz base n
        split at h
        · rename_i k' xs hl
          obtain ⟨hf, h⟩ := br_elim h
          split at h
          · rename_i hk
            subst hk
            obtain ⟨hle, h⟩ := h
            rw [forceL_eq] at h
            have h4 := Took.one (Fs := Fs) hl
            obtain ⟨fs, H', F, g1, g2, g3⟩ := takeF_sound hrec ss cs (o + 1) _ Fs _ (hs.fewer h4) hc' h
            obtain ⟨t, ht, hsat⟩ := hs.sat _ _ hl
            have he := Nat.eq_of_beq_eq_true hf
            subst he
            refine ⟨_, H', _, g1, .ownr hu' ?_ (sat_part hsat base n hle) g2 (Took.apart hs h4 g3), h4.trans g3⟩
            have := slAt_of hr ht
            simpa [castR, show min n (xs.length - base) = n by omega] using this
          · exact h.elim
        · exact h.elim
      · obtain ⟨fs, H', F, h1, h2, h3⟩ := takeF_sound hrec ss cs (o + 1) H Fs _ hs hc' h
        simp only [RV] at hr
        subst hr
        refine ⟨_, H', [] ++ F, h1, .ownr (r := ⟨none, 0, 0⟩) hu' ⟨Nat.le_refl _, .inr ⟨rfl, rfl, _, rfl⟩⟩ (.rownil rfl rfl) h2 (fun b hb => by cases hb), by simpa using h3⟩
      · exact h.elim

theorem takeO_sound : ∀ n, TakeOK G ρ w (takeO n)
  | 0 => fun k l H Fs K hs h => by simp only [takeO] at h
  | n + 1 => fun k l H Fs K hs h => by
    simp only [takeO] at h
    split at h
    · rename_i k' d hl
      split at h
      · rename_i hk
        subst hk
        rw [forceL_eq] at h
        obtain ⟨r, hr, hsat⟩ := hs.sat _ _ hl
        exact ⟨d, _, _, r, h, hr, hsat, .one hl⟩
      · exact h.elim
    · rename_i cs hl
      rw [forceL_eq] at h
      obtain ⟨r, hr, hsat⟩ := hs.sat _ _ hl
      have h4 := Took.one (Fs := Fs) hl
      generalize hF : Fs l = F0 at hsat h4
      cases hsat with
      | @raw _ _ b c ty hb hw hx =>
        obtain ⟨fs, H', F, h1, h2, h3⟩ := takeF_sound (takeO_sound n) k.shape cs r.off _ Fs _ (hs.fewer h4) hx h
        split at h1
        · rename_i d hd
          refine ⟨d, H', b :: F, r, h1, hr, .obj hb hw (by rw [fold_unf hd]; exact h2) (Took.apart hs h4 h3 b (by simp)), h4.trans h3⟩
        · exact h1.elim
    · exact h.elim
theorem takeO_lab : ∀ (n : Nat) (k : OK) (l : Nat) (H : AHeap) (Fs : Nat → List Nat) (K : k.T → AHeap → Prop), SatHF G ρ w H Fs → takeO n k l H K →
    ∃ d H' F r, K d H' ∧ ρ[l]? = some r ∧ Sat G ρ w (.obj k d) r F ∧ Took H H' Fs F ∧ H'[l]? = some none ∧ ∃ o, H[l]? = some (some o)
  | 0, k, l, H, Fs, K, hs, h => by simp only [takeO] at h
  | n + 1, k, l, H, Fs, K, hs, h => by
    simp only [takeO] at h
    split at h
    · rename_i k' d hl
      split at h
      · rename_i hk
        subst hk
        rw [forceL_eq] at h
        obtain ⟨r, hr, hsat⟩ := hs.sat _ _ hl
        exact ⟨d, _, _, r, h, hr, hsat, .one hl, by rw [List.getElem?_set_self (List.getElem?_eq_some_iff.1 hl).1], _, hl⟩
      · exact h.elim
    · rename_i cs hl
      rw [forceL_eq] at h
      obtain ⟨r, hr, hsat⟩ := hs.sat _ _ hl
      have h4 := Took.one (Fs := Fs) hl
      have hnone : (H.set l none)[l]? = some none := by rw [List.getElem?_set_self (List.getElem?_eq_some_iff.1 hl).1]
      generalize hF : Fs l = F0 at hsat h4
      cases hsat with
      | @raw _ _ b c ty hb hw hx =>
        obtain ⟨fs, H', F, h1, h2, h3⟩ := takeF_sound (takeO_sound n) k.shape cs r.off _ Fs _ (hs.fewer h4) hx h
        split at h1
        · rename_i d hd
          exact ⟨d, H', b :: F, r, h1, hr, .obj hb hw (by rw [fold_unf hd]; exact h2) (Took.apart hs h4 h3 b (by simp)), h4.trans h3, h3.none_mono hnone, _, hl⟩
        · exact h1.elim
    · exact h.elim

end
end Go.Ax
