/-
  Plain law: changes behind changes.
-/
import Derived.Test.YtjpeimmjggkkjaaAxP4
import Derived.Test.YtjpeimmjggkkjaaAxS3
set_option linter.all false
namespace Go.Ax.Law

theorem joinC_snoc {a b : List Change} {i : Nat} {e : Change} (h : b[i]? = some e) : joinC a (b.take (i + 1)) = join1 (joinC a (b.take i)) e := by
  have : b.take (i + 1) = b.take i ++ [e] := by rw [List.take_add_one, h]; rfl
  simp only [joinC, this, List.foldl_append, List.foldl_cons, List.foldl_nil]
theorem join1_len (l : List Change) (c : Change) : (join1 l c).length ≤ l.length + 1 := by
  unfold join1
  split
  · simp
  · split <;> simp
theorem joinC_len (a b : List Change) : (joinC a b).length ≤ a.length + b.length := by
  unfold joinC
  induction b generalizing a with
  | nil => simp
  | cons x r ih =>
    rw [List.foldl_cons]
    have := ih (join1 a x)
    have := join1_len a x
    simp only [List.length_cons]
    omega
theorem join1_none {l : List Change} {c : Change} (h : ∀ (p : Nat) (z : Change), l[p]? = some z → z.Id ≠ c.Id) : join1 l c = l ++ [c] := by
  have : (l.findIdx? fun x => decide (x.Id = c.Id)) = none := by
    rw [List.findIdx?_eq_none_iff]
    intro x hx
    obtain ⟨p, hp⟩ := List.mem_iff_getElem?.1 hx
    simpa using h p x hp
  unfold join1
  rw [this]
theorem join1_some {l : List Change} {c : Change} {i : Nat} {x : Change} (h1 : l[i]? = some x) (h2 : x.Id = c.Id) (h : ∀ (p : Nat) (z : Change), p < i → l[p]? = some z → z.Id ≠ c.Id) : join1 l c = l.set i ⟨x.Id, x.From, c.To, x.Plan || c.Plan⟩ := by
  have hlt := (List.getElem?_eq_some_iff.1 h1)
  obtain ⟨hlt, hx⟩ := hlt
  have : (l.findIdx? fun x => decide (x.Id = c.Id)) = some i := by
    rw [List.findIdx?_eq_some_iff_getElem]
    refine ⟨hlt, by rw [hx]; simpa using h2, fun j hj => ?_⟩
    have := h j l[j] hj (List.getElem?_eq_getElem (by omega))
    simpa using this
  unfold join1
  rw [this]
  simp only []
  rw [h1]

theorem filter_at {p : Change → Bool} : ∀ {xs : List Change} {i : Nat} {c : Change}, xs[i]? = some c → p c = true → (xs.filter p)[(xs.take i).countP p]? = some c
  | [], i, c, h, _ => by simp at h
  | a :: r, 0, c, h, hp => by
    simp at h
    subst h
    simp [hp]
  | a :: r, i + 1, c, h, hp => by
    simp only [List.getElem?_cons_succ] at h
    have ih := filter_at h hp
    simp only [List.take_succ_cons, List.countP_cons, List.filter_cons]
    by_cases ha : p a = true
    · rw [if_pos ha, if_pos ha]; simpa using ih
    · rw [if_neg ha, if_neg ha]; simpa using ih

theorem sorted_block {κ : Int} : ∀ {ys : List Change}, ys.Pairwise (fun a b => a.Id ≤ b.Id) → ∀ {j : Nat} {z : Change}, (ys.filter (keyIs Change.Id κ))[j]? = some z → ys[ys.countP (fun y => decide (y.Id < κ)) + j]? = some z
  | [], _, j, z, h => by simp at h
  | a :: r, hp, j, z, h => by
    rw [List.pairwise_cons] at hp
    obtain ⟨h1, h2⟩ := hp
    have ih : ∀ {j : Nat} {z : Change}, (r.filter (keyIs Change.Id κ))[j]? = some z → r[r.countP (fun y => decide (y.Id < κ)) + j]? = some z := sorted_block h2
    by_cases hlt : a.Id < κ
    · have hk : keyIs Change.Id κ a = false := by simp [keyIs]; omega
      rw [List.filter_cons_of_neg (by rw [hk]; simp)] at h
      rw [List.countP_cons_of_pos (by simpa using hlt), show r.countP (fun y => decide (y.Id < κ)) + 1 + j = (r.countP (fun y => decide (y.Id < κ)) + j) + 1 by omega, List.getElem?_cons_succ]
      exact ih h
    · have h0 : r.countP (fun y => decide (y.Id < κ)) = 0 := by
        rw [List.countP_eq_zero]
        intro y hy
        have := h1 y hy
        simp; omega
      rw [List.countP_cons_of_neg (by simpa using hlt), h0]
      by_cases he : a.Id = κ
      · have hk : keyIs Change.Id κ a = true := by simp [keyIs]; omega
        rw [List.filter_cons_of_pos hk] at h
        cases j with
        | zero => simpa using h
        | succ j =>
          simp only [List.getElem?_cons_succ] at h
          have := ih h
          rw [h0] at this
          simpa using this
      · exfalso
        have : (a :: r).filter (keyIs Change.Id κ) = [] := by
          rw [List.filter_eq_nil_iff]
          intro y hy
          rcases List.mem_cons.1 hy with rfl | hy
          · simp [keyIs]; omega
          · have := h1 y hy
            simp [keyIs]; omega
        rw [this] at h
        simp at h

theorem keys_perm {xs ys : List Change} (h : ∀ c, ys.filter (keyIs Change.Id c) = xs.filter (keyIs Change.Id c)) : ys.Perm xs := by
  classical
  rw [List.perm_iff_count]
  intro a
  have e : ∀ l : List Change, l.count a = (l.filter (keyIs Change.Id a.Id)).count a := by
    intro l
    rw [List.count_eq_countP, List.count_eq_countP, List.countP_filter]
    apply List.countP_congr
    intro x _
    simp only [beq_iff_eq, Bool.and_eq_true]
    constructor
    · rintro rfl; exact ⟨rfl, by simp [keyIs]⟩
    · exact fun h => h.1
  rw [e ys, e xs, h]

theorem stable_at {xs ys : List Change} {i : Nat} {c : Change} (h : SortedSeg Change.Id xs ys 0 xs.length) (hc : xs[i]? = some c) : ys[xs.countP (fun y => decide (y.Id < c.Id)) + (xs.take i).countP (keyIs Change.Id c.Id)]? = some c := by
  have hp := keys_perm h.2.2.2
  have hs : ys.Pairwise (fun a b => a.Id ≤ b.Id) := by
    rw [List.pairwise_iff_getElem]
    intro i j hi hj hij
    have hl := h.1
    exact h.2.2.1 i j _ _ (by omega) hij (by omega) (List.getElem?_eq_getElem hi) (List.getElem?_eq_getElem hj)
  rw [← hp.countP_eq]
  refine sorted_block hs ?_
  rw [h.2.2.2]
  exact filter_at hc (by simp [keyIs])

theorem take_take_succ {l : List Change} {i j : Nat} {e : Change} (h : l[j]? = some e) : (l.take (j + 1)).take i = if j < i then (l.take j).take i ++ [e] else (l.take j).take i := by
  have hs : l.take (j + 1) = l.take j ++ [e] := by rw [List.take_add_one, h]; rfl
  have hl := (List.getElem?_eq_some_iff.1 h).1
  split
  · rename_i hji
    rw [List.take_of_length_le (by simp; omega), List.take_of_length_le (l := l.take j) (by simp; omega), hs]
  · rename_i hji
    rw [List.take_take, List.take_take]
    congr 1
    omega

theorem keptC_snoc {l : List Change} {i : Nat} {e : Change} (h : l[i]? = some e) : keptC (l.take (i + 1)) = keptC (l.take i) ++ (if idle e then [] else [e]) := by
  have hs : l.take (i + 1) = l.take i ++ [e] := by rw [List.take_add_one, h]; rfl
  simp only [keptC, hs, List.filter_append, List.filter_cons, List.filter_nil]
  cases idle e <;> simp
theorem keptC_len (l : List Change) : (keptC l).length ≤ l.length := List.length_filter_le _ _
end Go.Ax.Law
