/-
  A function's contract, shown of a heap with its arguments alone, holds in any heap.
-/
import Derived.Test.YtjpeimmjggkkjaaAx22
set_option linter.all false
namespace Go.Ax
variable {G G' : Gam} {ρ ρ' : List Root} {w w' : World}

theorem LabOK.mono {H0 H1 H2 H3 : AHeap} {Fs Fs' : Nat → List Nat} {F F' : List Nat} {l : Option Nat} {ss : List Slot} (h : LabOK ρ H1 H2 l ss) (h0 : Took H0 H1 Fs F) (h3 : Took H2 H3 Fs' F') : LabOK ρ H0 H3 l ss := by
  intro lab hl
  obtain ⟨s, h4, h5, h6, o, h7⟩ := h lab hl
  exact ⟨s, h4, h5, h3.none_mono h6, o, h0.sub _ _ h7⟩

def LabsOK (ρ : List Root) (H H' : AHeap) : (ks : List VK) → prodT ks → List (Option Nat) → List Slot → Prop
  | [], _, ls, ss => ls = [] ∧ ss = []
  | k :: ks, x, ls, ss => ∃ l ls' s1 s2, ls = l :: ls' ∧ ss = s1 ++ s2 ∧ s1.length = (k.objs x.1).length ∧ LabOK ρ H H' l s1 ∧ (∀ lab, l = some lab → some lab ∉ ls') ∧ LabsOK ρ H H' ks x.2 ls' s2

theorem LabsOK.mono {H0 H1 H2 H3 : AHeap} {Fs Fs' : Nat → List Nat} {F F' : List Nat} (h0 : Took H0 H1 Fs F) (h3 : Took H2 H3 Fs' F') : ∀ {ks : List VK} {x : prodT ks} {ls : List (Option Nat)} {ss : List Slot}, LabsOK ρ H1 H2 ks x ls ss → LabsOK ρ H0 H3 ks x ls ss
  | [], _, _, _, h => h
  | k :: ks, x, _, _, ⟨l, ls', s1, s2, h1, h2, h4, h5, h6, h7⟩ => ⟨l, ls', s1, s2, h1, h2, h4, h5.mono h0 h3, h6, h7.mono h0 h3⟩

theorem LabsOK.live {H H' : AHeap} : ∀ {ks : List VK} {x : prodT ks} {ls : List (Option Nat)} {ss : List Slot}, LabsOK ρ H H' ks x ls ss → ∀ lab, some lab ∈ ls → (∃ o, H[lab]? = some (some o)) ∧ H'[lab]? = some none
  | [], _, _, _, h, lab, hl => by rw [h.1] at hl; cases hl
  | k :: ks, x, _, _, ⟨l, ls', s1, s2, h1, h2, h4, h5, h6, h7⟩, lab, hl => by
    subst h1
    rcases List.mem_cons.1 hl with hl | hl
    · obtain ⟨s, _, _, h8, h9⟩ := h5 lab hl.symm
      exact ⟨h9, h8⟩
    · exact h7.live lab hl

/-- What is shown of values that are taken. -/
def TVs (G : Gam) (ρ : List Root) (w : World) (ks : List VK) (us : List Value) (H : AHeap) (Fs : Nat → List Nat) (K : prodT ks → AHeap → List (Option Nat) → Prop) : Prop :=
  ∃ x H' ls ss Rb, K x H' ls ∧ Took H H' Fs (blk ss) ∧ SlotsOK G ρ w (objsAll ks x) ss ∧ LabsOK ρ H H' ks x ls ss ∧ ((ks.all fun k => !k.isImm) = true → Rb = []) ∧
    (∀ b ∈ Rb, ∃ l o, H'[l]? = some (some o) ∧ b ∈ Fs l) ∧
    ∀ (G' : Gam) (ρ' : List Root) (n : Nat), (ks.all VK.clean = false → CellMap G G') → (∀ b ∈ Rb, ∀ o v, w.cell? ⟨b, o, none⟩ = some v → G'.cell b o v) →
      (∀ (i : Nat) (s : Slot), ss[i]? = some s → ρ'[n + i]? = some s.1) → RVs G' ρ' (avs ks x n) us

theorem blk_append (a b : List Slot) : blk (a ++ b) = blk a ++ blk b := by simp [blk]

theorem slots_tail {s1 s2 : List Slot} {n m : Nat} (hm : s1.length = m) (h : ∀ (i : Nat) (s : Slot), (s1 ++ s2)[i]? = some s → ρ'[n + i]? = some s.1) :
    (∀ (i : Nat) (s : Slot), s1[i]? = some s → ρ'[n + i]? = some s.1) ∧ ∀ (i : Nat) (s : Slot), s2[i]? = some s → ρ'[n + m + i]? = some s.1 := by
  refine ⟨fun i s hs => h i s (getElem?_ext hs), fun i s hs => ?_⟩
  have := h (m + i) s (by rw [List.getElem?_append_right (by omega), hm]; simpa using hs)
  rwa [← Nat.add_assoc] at this

theorem takeVs_sound : ∀ (ks : List VK) {as : List AV} {us : List Value} {H : AHeap} {Fs : Nat → List Nat} {K : prodT ks → AHeap → List (Option Nat) → Prop}, SatHF G ρ w H Fs → RVs G ρ as us → takeVs ks as H K → TVs G ρ w ks us H Fs K
  | [], [], us, H, Fs, K, hs, hr, h => by
    simp only [takeVs] at h
    simp only [RVs] at hr
    subst hr
    exact ⟨(), H, [], [], [], h, .refl _ _, .nil, ⟨rfl, rfl⟩, fun _ => rfl, (fun _ h => by cases h), fun G' ρ' n _ _ _ => by simp [avs, RVs]⟩
  | [], _ :: _, us, H, Fs, K, hs, hr, h => by simp [takeVs] at h
  | _ :: _, [], us, H, Fs, K, hs, hr, h => by simp [takeVs] at h
  | k :: ks, a :: as, us, H, Fs, K, hs, hr, h => by
    simp only [RVs] at hr
    obtain ⟨u, us', rfl, hru, hrs⟩ := hr
    simp only [takeVs] at h
    cases hi : k.isImm with
    | true =>
      simp only [hi] at h
      obtain ⟨x, H', ls, ss, Rb, h1, h2, h3, h4, h5, h6, h7⟩ := takeVs_sound ks hs hrs h
      obtain ⟨d, H2, l, s1, Rb1, g1, g2, g3, g4, g5, g6, g7, g8⟩ := takeV_sound k (hs.fewer h2) hru h1
      obtain ⟨rfl, rfl⟩ := g5 hi
      have hobj : k.objs d = [] := List.eq_nil_of_length_eq_zero (by rw [← g3.len]; rfl)
      refine ⟨(d, x), H2, l :: ls, ss, Rb1 ++ Rb, g1, h2, by simpa [objsAll, hobj] using h3, ⟨l, ls, [], ss, rfl, rfl, by simp [hobj], ?_, ?_, h4⟩, ?_, ?_, ?_⟩
      · intro lab hl
        obtain ⟨s, e, _⟩ := g4 lab hl
        cases e
      · intro lab hl
        obtain ⟨s, e, _⟩ := g4 lab hl
        cases e
      · intro hall
        simp [hi] at hall
      · intro b hb
        rcases List.mem_append.1 hb with hb | hb
        · exact g7 b hb
        · exact h6 b hb
      · intro G' ρ' n hc hR hro
        simp only [avs, RVs]
        refine ⟨u, us', rfl, g8 G' ρ' n (fun hk => hc (by simp [hk])) (fun b hb => hR b (by simp [hb])) (by simp), h7 G' ρ' _ (fun hk => hc (by simp [hk])) (fun b hb => hR b (by simp [hb])) (by simpa [hobj] using hro)⟩
    | false =>
      simp only [hi] at h
      obtain ⟨d, H1, l, s1, Rb1, g1, g2, g3, g4, g5, g6, g7, g8⟩ := takeV_sound k hs hru h
      have hR1 := g6 hi
      subst hR1
      obtain ⟨x, H', ls, ss, Rb, h1, h2, h3, h4, h5, h6, h7⟩ := takeVs_sound ks (hs.fewer g2) hrs g1
      refine ⟨(d, x), H', l :: ls, s1 ++ ss, Rb, h1, by rw [blk_append]; exact g2.trans h2, ?_, ⟨l, ls, s1, ss, rfl, rfl, g3.len, ?_, ?_, ?_⟩, ?_, h6, ?_⟩
      · exact g3.append h3 (by
          intro b hb hb2
          exact Took.apart hs g2 h2 b hb hb2)
      · exact g4.mono (Took.refl H Fs) h2
      · intro lab hl hm
        obtain ⟨s, _, _, e, _⟩ := g4 lab hl
        obtain ⟨⟨o, e2⟩, _⟩ := h4.live lab hm
        rw [e] at e2; cases e2
      · exact h4.mono g2 (Took.refl H' Fs)
      · intro hall
        simp only [List.all_cons, Bool.and_eq_true] at hall
        exact h5 hall.2
      · intro G' ρ' n hc hR hro
        simp only [avs, RVs]
        obtain ⟨q1, q2⟩ := slots_tail g3.len hro
        exact ⟨u, us', rfl, g8 G' ρ' n (fun hk => hc (by simp [hk])) (fun b hb => by cases hb) q1, h7 G' ρ' _ (fun hk => hc (by simp [hk])) hR q2⟩

/-! ### What is kept -/

def Kept (ρ : List Root) : (A : AKs) → prodT (A.map (·.1)) → Nat → keepT A → List Slot → Prop
  | [], _, _, _, ss => ss = []
  | (k, true) :: A, x, n, y, ss => ∃ s1 s2, ss = s1 ++ s2 ∧ s1.length = (k.objs y.1).length ∧ (k.objs x.1).length = (k.objs y.1).length ∧ (∀ s, s1 = [s] → ρ[n]? = some s.1) ∧ Kept ρ A x.2 (n + (k.objs x.1).length) y.2 s2
  | (k, false) :: A, x, n, y, ss => Kept ρ A x.2 (n + (k.objs x.1).length) y ss

def keptObjs : (A : AKs) → keepT A → List AObj
  | [], _ => []
  | (k, true) :: A, y => k.objs y.1 ++ keptObjs A y.2
  | (_, false) :: A, y => keptObjs A y

theorem keepOK_spec {l : Option Nat} {n : Nat} {o1 o2 : List AObj} (h : keepOK l n o1 o2 = true) : o1.length = o2.length ∧ (o2.length = 1 → l = some n) := by
  unfold keepOK at h
  split at h
  · exact ⟨rfl, fun h => by cases h⟩
  · exact ⟨rfl, fun _ => by rw [Nat.eq_of_beq_eq_true h]⟩
  · cases h

theorem keepTake_sound : ∀ (A : AKs) {x : prodT (A.map (·.1))} {n : Nat} {us : List Value} {H : AHeap} {Fs : Nat → List Nat} {K : keepT A → AHeap → Prop}, SatHF G ρ w H Fs → RVs G ρ (avs _ x n) us → keepTake A x n H K →
    ∃ y H' ss, K y H' ∧ Took H H' Fs (blk ss) ∧ SlotsOK G ρ w (keptObjs A y) ss ∧ Kept ρ A x n y ss
  | [], x, n, us, H, Fs, K, hs, hr, h => ⟨(), H, [], h, .refl _ _, .nil, rfl⟩
  | (k, true) :: A, x, n, us, H, Fs, K, hs, hr, h => by
    simp only [List.map, avs, RVs] at hr
    obtain ⟨u, us', rfl, hru, hrs⟩ := hr
    simp only [keepTake] at h
    obtain ⟨d, H1, l, s1, Rb1, g1, g2, g3, g4, _, _, _, _⟩ := takeV_sound k hs hru h
    obtain ⟨hk, g1⟩ := br_elim g1
    obtain ⟨y, H', ss, h1, h2, h3, h4⟩ := keepTake_sound A (hs.fewer g2) hrs g1
    refine ⟨(d, y), H', s1 ++ ss, h1, by rw [blk_append]; exact g2.trans h2, g3.append h3 (by
      intro b hb hb2
      exact Took.apart hs g2 h2 b hb hb2), s1, ss, rfl, g3.len, ?_, ?_, h4⟩
    · exact (keepOK_spec hk).1
    · intro s hs1
      subst hs1
      have hl1 : (k.objs d).length = 1 := by rw [← g3.len]; rfl
      obtain ⟨s', e, e2, _⟩ := g4 n ((keepOK_spec hk).2 hl1)
      cases e
      exact e2
  | (k, false) :: A, x, n, us, H, Fs, K, hs, hr, h => by
    simp only [List.map, avs, RVs] at hr
    obtain ⟨u, us', rfl, hru, hrs⟩ := hr
    simp only [keepTake] at h
    obtain ⟨y, H', ss, h1, h2, h3, h4⟩ := keepTake_sound A hs hrs h
    exact ⟨y, H', ss, h1, h2, h3, h4⟩

/-- What no live label has, and may be had. -/
def Pool (G : Gam) (w : World) (H : AHeap) (Fs : Nat → List Nat) (P : List Nat) : Prop :=
  ∀ b, b ∈ P → (¬ G.prot b ∧ b < w.heap.size) ∧ ∀ (l : Nat) (o : AObj), H[l]? = some (some o) → b ∉ Fs l

theorem SatHF.add {H : AHeap} {Fs : Nat → List Nat} (h : SatHF G ρ w H Fs) {l : Nat} (hl : H[l]? = some none) {o : AObj} {r : Root} {F : List Nat} (hr : ρ[l]? = some r) (hs : Sat G ρ w o r F) (hp : Pool G w H Fs F) :
    SatHF G ρ w (H.set l (some o)) (fun x => if x = l then F else Fs x) := by
  have hlt := (List.getElem?_eq_some_iff.1 hl).1
  have key : ∀ l' o', (H.set l (some o))[l']? = some (some o') → (l' = l ∧ o' = o) ∨ (l' ≠ l ∧ H[l']? = some (some o')) := by
    intro l' o' h'
    by_cases hne : l' = l
    · subst hne
      rw [List.getElem?_set_self hlt] at h'
      simp at h'
      exact .inl ⟨rfl, h'.symm⟩
    · rw [List.getElem?_set_ne (Ne.symm hne)] at h'
      exact .inr ⟨hne, h'⟩
  refine ⟨by simp [h.len], fun l' o' h' => ?_, fun l1 o1 l2 o2 b h1 h2 b1 b2 => ?_, fun l' o' b h' hb => ?_, h.wok⟩
  · rcases key l' o' h' with ⟨rfl, rfl⟩ | ⟨hne, h'⟩
    · exact ⟨r, hr, by simpa using hs⟩
    · obtain ⟨r', g1, g2⟩ := h.sat l' o' h'
      exact ⟨r', g1, by simpa [hne] using g2⟩
  · replace h1 := key l1 o1 h1
    replace h2 := key l2 o2 h2
    rcases h1 with ⟨e1, _⟩ | ⟨hne1, h1⟩ <;> rcases h2 with ⟨e2, _⟩ | ⟨hne2, h2⟩
    · rw [e1, e2]
    · subst e1; simp at b1; simp [hne2] at b2
      exact absurd b2 ((hp b b1).2 l2 o2 h2)
    · subst e2; simp at b2; simp [hne1] at b1
      exact absurd b1 ((hp b b2).2 l1 o1 h1)
    · simp [hne1] at b1; simp [hne2] at b2
      exact h.apart l1 o1 l2 o2 b h1 h2 b1 b2
  · rcases key l' o' h' with ⟨rfl, rfl⟩ | ⟨hne, h'⟩
    · simp at hb; exact (hp b hb).1
    · simp [hne] at hb
      exact h.free l' o' b h' hb

theorem SatHF.add_new {H : AHeap} {Fs : Nat → List Nat} (h : SatHF G ρ w H Fs) {o : AObj} {r : Root} {F : List Nat} (hs : Sat G (ρ ++ [r]) w o r F) (hp : Pool G w H Fs F) :
    SatHF G (ρ ++ [r]) w (H ++ [some o]) (fun x => if x = H.length then F else Fs x) := by
  have key : ∀ l' o', (H ++ [some o])[l']? = some (some o') → (l' = H.length ∧ o' = o) ∨ (l' ≠ H.length ∧ H[l']? = some (some o')) := by
    intro l' o' h'
    by_cases hlt : l' < H.length
    · rw [List.getElem?_append_left hlt] at h'
      exact .inr ⟨by omega, h'⟩
    · rw [List.getElem?_append_right (by omega)] at h'
      have : l' - H.length = 0 := by
        have := (List.getElem?_eq_some_iff.1 h').1
        simp at this; omega
      rw [this] at h'
      simp at h'
      exact .inl ⟨by omega, h'.symm⟩
  refine ⟨by simp [h.len], fun l' o' h' => ?_, fun l1 o1 l2 o2 b h1 h2 b1 b2 => ?_, fun l' o' b h' hb => ?_, h.wok⟩
  · rcases key l' o' h' with ⟨rfl, rfl⟩ | ⟨hne, h'⟩
    · exact ⟨r, by simp [h.len], by simpa using hs⟩
    · obtain ⟨r', g1, g2⟩ := h.sat l' o' h'
      refine ⟨r', getElem?_ext g1, ?_⟩
      simp only [hne, if_false]
      exact g2.mono fun _ _ => rfl
  · replace h1 := key l1 o1 h1
    replace h2 := key l2 o2 h2
    rcases h1 with ⟨e1, _⟩ | ⟨hne1, h1⟩ <;> rcases h2 with ⟨e2, _⟩ | ⟨hne2, h2⟩
    · rw [e1, e2]
    · subst e1; simp at b1; simp [hne2] at b2
      exact absurd b2 ((hp b b1).2 l2 o2 h2)
    · subst e2; simp at b2; simp [hne1] at b1
      exact absurd b1 ((hp b b2).2 l1 o1 h1)
    · simp [hne1] at b1; simp [hne2] at b2
      exact h.apart l1 o1 l2 o2 b h1 h2 b1 b2
  · rcases key l' o' h' with ⟨rfl, rfl⟩ | ⟨hne, h'⟩
    · simp at hb; exact (hp b hb).1
    · simp [hne] at hb
      exact h.free l' o' b h' hb
end Go.Ax
