/-
  Plain lemmas on profiles: steps that are split, changed and joined still rise.
-/
import Derived.Test.YtnoinchifbckcaaGreatDoorAxS7
set_option linter.all false
namespace Go.Ax.Law

theorem now_le_get {l : List Step} (h : Rising l) {i : Nat} {s : Step} (hs : l[i]? = some s) : nowL l ≤ s.At := by
  cases l with
  | nil => simp at hs
  | cons a r =>
    cases i with
    | zero => simp at hs; subst hs; exact Int.le_refl _
    | succ i => exact Int.le_of_lt (h.get (i := 0) (j := i + 1) (a := a) (by simp) hs (by omega))
theorem upto_pos {l : List Step} (h : Rising l) (h0 : l ≠ []) {t : Int} (ht : nowL l ≤ t) : 0 < uptoL l t := by
  cases l with
  | nil => exact absurd rfl h0
  | cons a r => exact (upto_iff h (i := 0) (s := a) (by simp)).1 ht
theorem idx_at {l : List Step} (h : Rising l) (h0 : l ≠ []) {t : Int} (ht : nowL l ≤ t) : ∃ s, l[idxL l t]? = some s ∧ s.At ≤ t ∧ ∀ (j : Nat) (s' : Step), idxL l t < j → l[j]? = some s' → t < s'.At := by
  have hp := upto_pos h h0 ht
  have hlt := idx_lt h0 t
  have e : idxL l t = uptoL l t - 1 := rfl
  refine ⟨_, List.getElem?_eq_getElem hlt, ?_, fun j s' hj hs' => ?_⟩
  · exact (upto_iff h (List.getElem?_eq_getElem hlt)).2 (by omega)
  · have := upto_iff h (t := t) hs'
    have h2 : ¬ j < uptoL l t := by omega
    have : ¬ s'.At ≤ t := fun hh => h2 (this.1 hh)
    omega
theorem idx_mono {l : List Step} {t u : Int} (h : t ≤ u) : idxL l t ≤ idxL l u := by
  have : uptoL l t ≤ uptoL l u := List.countP_mono_left fun s _ hs => by simp at hs ⊢; omega
  show uptoL l t - 1 ≤ uptoL l u - 1
  omega

theorem split_cases {l : List Step} (h : Rising l) (h0 : l ≠ []) {t : Int} (ht : nowL l ≤ t) :
    (∃ s, l[idxL l t]? = some s ∧ s.At = t ∧ splitL l t = l ∧ splitAt l t = idxL l t) ∨
    (∃ s, l[idxL l t]? = some s ∧ s.At < t ∧ splitL l t = l.take (idxL l t + 1) ++ ⟨t, s.Free⟩ :: l.drop (idxL l t + 1) ∧ splitAt l t = idxL l t + 1) := by
  obtain ⟨s, hs, hle, _⟩ := idx_at h h0 ht
  by_cases he : s.At = t
  · exact .inl ⟨s, hs, he, by simp [splitL, hs, he], by simp [splitAt, hs, he]⟩
  · exact .inr ⟨s, hs, by omega, by simp [splitL, hs, he], by simp [splitAt, hs, he]⟩
theorem split_rising {l : List Step} (h : Rising l) (h0 : l ≠ []) {t : Int} (ht : nowL l ≤ t) : Rising (splitL l t) := by
  rcases split_cases h h0 ht with ⟨s, hs, _, e, _⟩ | ⟨s, hs, hlt, e, _⟩
  · rw [e]; exact h
  · rw [e]
    obtain ⟨_, _, _, hup⟩ := idx_at h h0 ht
    refine List.pairwise_append.2 ⟨List.Pairwise.sublist (List.take_sublist _ _) h, List.pairwise_cons.2 ⟨fun b hb => ?_, List.Pairwise.sublist (List.drop_sublist _ _) h⟩, fun a ha b hb => ?_⟩
    · obtain ⟨q, hq⟩ := List.getElem?_of_mem hb
      rw [List.getElem?_drop] at hq
      exact hup _ b (by omega) hq
    · obtain ⟨p, hp⟩ := List.getElem?_of_mem ha
      have hpl : p < idxL l t + 1 := by
        have := (List.getElem?_eq_some_iff.1 hp).1
        simp at this; omega
      rw [List.getElem?_take_of_lt hpl] at hp
      have ha1 : a.At ≤ s.At := by
        by_cases hpe : p = idxL l t
        · subst hpe; rw [hp] at hs; cases hs; exact Int.le_refl _
        · exact Int.le_of_lt (h.get hp hs (by omega))
      rcases List.mem_cons.1 hb with rfl | hb
      · show a.At < t; omega
      · obtain ⟨q, hq⟩ := List.getElem?_of_mem hb
        rw [List.getElem?_drop] at hq
        have := hup _ b (by omega) hq
        omega
theorem split_len {l : List Step} (h : Rising l) (h0 : l ≠ []) {t : Int} (ht : nowL l ≤ t) : l.length ≤ (splitL l t).length ∧ (splitL l t).length ≤ l.length + 1 := by
  have hlt := idx_lt h0 t
  rcases split_cases h h0 ht with ⟨s, hs, _, e, _⟩ | ⟨s, hs, _, e, _⟩
  · rw [e]; omega
  · rw [e]; simp; omega
theorem split_ne {l : List Step} (h : Rising l) (h0 : l ≠ []) {t : Int} (ht : nowL l ≤ t) : splitL l t ≠ [] := by
  have h1 := split_len h h0 ht
  have h2 := List.length_pos_iff.2 h0
  intro he
  rw [he] at h1
  simp only [List.length_nil] at h1
  omega
theorem split_now {l : List Step} (h : Rising l) (h0 : l ≠ []) {t : Int} (ht : nowL l ≤ t) : nowL (splitL l t) = nowL l := by
  rcases split_cases h h0 ht with ⟨s, hs, _, e, _⟩ | ⟨s, hs, _, e, _⟩
  · rw [e]
  · rw [e]
    cases l with
    | nil => exact absurd rfl h0
    | cons a r => rfl
theorem split_at {l : List Step} (h : Rising l) (h0 : l ≠ []) {t : Int} (ht : nowL l ≤ t) : ∃ s, (splitL l t)[splitAt l t]? = some s ∧ s.At = t := by
  have hlt := idx_lt h0 t
  rcases split_cases h h0 ht with ⟨s, hs, h1, e, e2⟩ | ⟨s, hs, h1, e, e2⟩
  · rw [e, e2]; exact ⟨s, hs, h1⟩
  · rw [e, e2]
    refine ⟨⟨t, s.Free⟩, ?_, rfl⟩
    rw [List.getElem?_append_right (by simp; omega)]
    simp [show min (idxL l t + 1) l.length = idxL l t + 1 by omega]

theorem bump_get {l : List Step} {i k : Nat} {n : Int} (hik : i ≤ k) (hk : k ≤ l.length) (p : Nat) :
    (bumpL l i k n)[p]? = if i ≤ p ∧ p < k then (l[p]?).map (fun s => ⟨s.At, wr (s.Free + n)⟩) else l[p]? := by
  unfold bumpL
  have hl1 : (l.take i).length = i := by simp; omega
  have hl2 : (((l.drop i).take (k - i)).map fun s => (⟨s.At, wr (s.Free + n)⟩ : Step)).length = k - i := by simp; omega
  by_cases h1 : p < i
  · rw [if_neg (by omega), List.getElem?_append_left (by simp; omega), List.getElem?_append_left (by omega), List.getElem?_take_of_lt h1]
  · by_cases h2 : p < k
    · rw [if_pos ⟨by omega, h2⟩, List.getElem?_append_left (by rw [List.length_append]; omega), List.getElem?_append_right (by omega), hl1, List.getElem?_map, List.getElem?_take_of_lt (by omega), List.getElem?_drop]
      congr 2; omega
    · rw [if_neg (by omega), List.getElem?_append_right (by rw [List.length_append]; omega), List.length_append, hl1, hl2, List.getElem?_drop]
      congr 1; omega
theorem bump_len {l : List Step} {i k : Nat} {n : Int} (hik : i ≤ k) (hk : k ≤ l.length) : (bumpL l i k n).length = l.length := by
  unfold bumpL; simp; omega
theorem bump_same {l : List Step} {i : Nat} {n : Int} : bumpL l i i n = l := by
  unfold bumpL; simp
theorem bump_step {l : List Step} {i j : Nat} {n : Int} {e : Step} (hij : i ≤ j) (hj : j < l.length) (he : (bumpL l i j n)[j]? = some e) :
    bumpL l i (j + 1) n = (bumpL l i j n).set j ⟨e.At, wr (e.Free + n)⟩ := by
  have hb := bump_get (n := n) hij (Nat.le_of_lt hj) j
  rw [if_neg (by omega), he] at hb
  apply List.ext_getElem?
  intro p
  rw [bump_get (by omega) (by omega), List.getElem?_set, bump_get hij (by omega), bump_len hij (by omega)]
  by_cases hp : j = p
  · subst hp
    rw [if_pos ⟨hij, by omega⟩, if_pos rfl, if_pos hj, ← hb]
    rfl
  · rw [if_neg hp]
    by_cases h1 : i ≤ p ∧ p < j
    · rw [if_pos ⟨h1.1, by omega⟩, if_pos h1]
    · rw [if_neg (by omega), if_neg h1]
theorem bump_at {l : List Step} {i k : Nat} {n : Int} (hik : i ≤ k) (hk : k ≤ l.length) : (bumpL l i k n).map Step.At = l.map Step.At := by
  apply List.ext_getElem?
  intro p
  rw [List.getElem?_map, bump_get hik hk, List.getElem?_map]
  split
  · cases l[p]? <;> rfl
  · rfl
theorem rising_map {l l' : List Step} (h : l'.map Step.At = l.map Step.At) (hr : Rising l) : Rising l' := by
  have h1 : (l.map Step.At).Pairwise (· < ·) := List.pairwise_map.2 hr
  rw [← h] at h1
  exact List.pairwise_map.1 h1

theorem join_sub : ∀ (l : List Step), (joinL l).Sublist l
  | [] => by simp [joinL]
  | [s] => by simp [joinL_one]
  | s :: t :: r => by
    rw [joinL_two]
    split
    · exact (join_sub (s :: r)).trans (List.Sublist.cons_cons _ (List.sublist_cons_self _ _))
    · exact (join_sub (t :: r)).cons_cons _
termination_by l => l.length
theorem join_ne : ∀ (l : List Step), l ≠ [] → joinL l ≠ []
  | [], h => absurd rfl h
  | [s], _ => by simp [joinL_one]
  | s :: t :: r, _ => by
    rw [joinL_two]
    split
    · exact join_ne (s :: r) (by simp)
    · simp
termination_by l => l.length
theorem join_now : ∀ (l : List Step), nowL (joinL l) = nowL l
  | [] => by simp [joinL]
  | [s] => by simp [joinL_one]
  | s :: t :: r => by
    rw [joinL_two]
    split
    · exact join_now (s :: r)
    · rfl
termination_by l => l.length

/-- What adding does to a row of steps. -/
theorem add_ok {l : List Step} {f t n : Int} (h : Rising l) (h0 : l ≠ []) (hf : nowL l ≤ f) (hft : f < t) :
    Rising (addL l f t n) ∧ addL l f t n ≠ [] ∧ (addL l f t n).length ≤ l.length + 2 ∧ nowL (addL l f t n) = nowL l := by
  have r1 := split_rising h h0 hf
  have n1 := split_ne h h0 hf
  have l1 := split_len h h0 hf
  have w1 := split_now h h0 hf
  obtain ⟨s1, hs1, ha1⟩ := split_at h h0 hf
  have hi1 := (List.getElem?_eq_some_iff.1 hs1).1
  have fin : ∀ (L : List Step) (i k : Nat), i ≤ k → k ≤ L.length → Rising L → L ≠ [] → nowL L = nowL l → L.length ≤ l.length + 2 →
      Rising (joinL (bumpL L i k n)) ∧ joinL (bumpL L i k n) ≠ [] ∧ (joinL (bumpL L i k n)).length ≤ l.length + 2 ∧ nowL (joinL (bumpL L i k n)) = nowL l := by
    intro L i k hik hk hr hne hnow hlen
    have hb := bump_at (n := n) hik hk
    have hr2 := rising_map hb hr
    have hl2 := bump_len (n := n) hik hk
    have hne2 : bumpL L i k n ≠ [] := by
      intro he; rw [he] at hl2; exact hne (List.eq_nil_of_length_eq_zero hl2.symm)
    have hnow2 : nowL (bumpL L i k n) = nowL L := by
      cases hx : bumpL L i k n with
      | nil => exact absurd hx hne2
      | cons a r =>
        rw [hx] at hb
        cases hL : L with
        | nil => exact absurd hL hne
        | cons b q => rw [hL] at hb; simp at hb; exact hb.1
    refine ⟨List.Pairwise.sublist (join_sub _) hr2, join_ne _ hne2, ?_, by rw [join_now, hnow2, hnow]⟩
    have := (join_sub (bumpL L i k n)).length_le
    omega
  unfold addL
  simp only []
  split
  · have ht : nowL (splitL l f) ≤ t := by rw [w1]; omega
    have r2 := split_rising r1 n1 ht
    have n2 := split_ne r1 n1 ht
    have l2 := split_len r1 n1 ht
    have w2 := split_now r1 n1 ht
    obtain ⟨s2, hs2, ha2⟩ := split_at r1 n1 ht
    have hi2 := (List.getElem?_eq_some_iff.1 hs2).1
    have hle : splitAt l f ≤ splitAt (splitL l f) t := by
      obtain ⟨s3, hs3, hs3t, _⟩ := idx_at r1 n1 ht
      have h3 : splitAt l f ≤ idxL (splitL l f) t := by
        have := upto_iff r1 (t := t) hs1
        have h4 : splitAt l f < uptoL (splitL l f) t := this.1 (by omega)
        show _ ≤ uptoL (splitL l f) t - 1
        omega
      rcases split_cases r1 n1 ht with ⟨_, _, _, _, e⟩ | ⟨_, _, _, _, e⟩ <;> omega
    exact fin _ _ _ hle (by omega) r2 n2 (by rw [w2, w1]) (by omega)
  · exact fin _ _ _ (by omega) (Nat.le_refl _) r1 n1 w1 (by omega)
/-- Where a part that is changed begins and ends. -/
theorem add_places {l : List Step} {f t : Int} (h : Rising l) (h0 : l ≠ []) (hf : nowL l ≤ f) (hft : f < t) :
    splitAt l f ≤ splitAt (splitL l f) t ∧ splitAt (splitL l f) t ≤ (splitL (splitL l f) t).length ∧ splitAt l f ≤ (splitL l f).length := by
  have r1 := split_rising h h0 hf
  have n1 := split_ne h h0 hf
  have w1 := split_now h h0 hf
  obtain ⟨s1, hs1, ha1⟩ := split_at h h0 hf
  have hi1 := (List.getElem?_eq_some_iff.1 hs1).1
  have ht : nowL (splitL l f) ≤ t := by rw [w1]; omega
  obtain ⟨s2, hs2, ha2⟩ := split_at r1 n1 ht
  have hi2 := (List.getElem?_eq_some_iff.1 hs2).1
  have h3 : splitAt l f ≤ idxL (splitL l f) t := by
    have := upto_iff r1 (t := t) hs1
    have h4 : splitAt l f < uptoL (splitL l f) t := this.1 (by omega)
    show _ ≤ uptoL (splitL l f) t - 1
    omega
  refine ⟨?_, by omega, by omega⟩
  rcases split_cases r1 n1 ht with ⟨_, _, _, _, e⟩ | ⟨_, _, _, _, e⟩ <;> omega

theorem addP_ok {p : Prof} {f t n : Int} (h : PW p) (hl : p.steps.length ≤ 4294967294) : PW (addP p f t n).2 ∧ (addP p f t n).2.steps.length ≤ p.steps.length + 2 ∧ nowL (addP p f t n).2.steps = nowL p.steps := by
  unfold addP
  split
  · exact ⟨h, by simp only []; omega, rfl⟩
  · split
    · exact ⟨h, by simp only []; omega, rfl⟩
    · split
      · exact ⟨h, by simp only []; omega, rfl⟩
      · rename_i h1 h2 h3
        obtain ⟨a1, a2, a3, a4⟩ := add_ok (n := n) h.2.1 h.1 (show nowL p.steps ≤ max f (nowL p.steps) by omega) (t := t) (by omega)
        exact ⟨⟨a2, a1, by simp only []; omega⟩, a3, a4⟩
theorem adv_rising {l : List Step} (h : Rising l) (h0 : l ≠ []) {t : Int} (ht : nowL l ≤ t) {s : Step} {r : List Step} (hd : l.drop (idxL l t) = s :: r) : Rising (⟨t, s.Free⟩ :: r) := by
  obtain ⟨_, _, _, hup⟩ := idx_at h h0 ht
  have hr := List.Pairwise.sublist (List.drop_sublist (idxL l t) l) h
  rw [hd] at hr
  refine List.pairwise_cons.2 ⟨fun b hb => ?_, (List.pairwise_cons.1 hr).2⟩
  obtain ⟨q, hq⟩ := List.getElem?_of_mem hb
  have : l[idxL l t + (q + 1)]? = some b := by
    rw [← List.getElem?_drop, hd]; simpa using hq
  exact hup _ b (by omega) this
theorem advP_ok {p : Prof} {t : Int} (h : PW p) : PW (advP p t).2 ∧ (advP p t).2.steps.length ≤ p.steps.length ∧ ((advP p t).1 = 0 → nowL (advP p t).2.steps = t) := by
  unfold advP
  split
  · exact ⟨h, Nat.le_refl _, fun h => by cases h⟩
  · split
    · rename_i h1 h2; exact ⟨h, Nat.le_refl _, fun _ => h2.symm⟩
    · rename_i h1 h2
      have hlt := idx_lt h.1 t
      cases hd : p.steps.drop (idxL p.steps t) with
      | nil => simp at hd; omega
      | cons s r =>
        simp only []
        have hr := adv_rising h.2.1 h.1 (show nowL p.steps ≤ t by omega) hd
        have hl : (s :: r).length ≤ p.steps.length := by rw [← hd]; simp
        have := h.2.2
        exact ⟨⟨by simp, hr, by simp only [List.length_cons] at hl ⊢; omega⟩, by simp only [List.length_cons] at hl ⊢; omega, fun _ => rfl⟩
end Go.Ax.Law
