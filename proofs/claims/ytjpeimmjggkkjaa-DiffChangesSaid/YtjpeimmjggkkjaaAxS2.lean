/-
  Plain law: the ids whose plans moved.
-/
import Derived.Test.YtjpeimmjggkkjaaAxP2
set_option linter.all false
namespace Go.Ax.Law

theorem mem_compact : ∀ (l : List Int) (x : Int), x ∈ compact l ↔ x ∈ l
  | [], x => by simp [compact]
  | [a], x => by simp [compact]
  | a :: b :: r, x => by
    simp only [compact]
    split
    · rename_i h
      subst h
      rw [mem_compact (a :: r) x]
      simp
    · rw [List.mem_cons, mem_compact (b :: r) x]; simp

theorem compact_lt : ∀ (l : List Int), l.Pairwise (· ≤ ·) → (compact l).Pairwise (· < ·)
  | [], _ => by simp [compact]
  | [a], _ => by simp [compact]
  | a :: b :: r, h => by
    have h' := h
    rw [List.pairwise_cons] at h
    simp only [compact]
    split
    · rename_i hab
      exact compact_lt (b :: r) h.2
    · rename_i hab
      rw [List.pairwise_cons]
      refine ⟨fun x hx => ?_, compact_lt (b :: r) h.2⟩
      rw [mem_compact] at hx
      have h1 := h.1 x hx
      have h2 := h.1 b (by simp)
      rcases List.mem_cons.1 hx with rfl | hx
      · omega
      · have := (List.pairwise_cons.1 h.2).1 x hx
        omega

theorem sortI_sorted (l : List Int) : (sortI l).Pairwise (· ≤ ·) := by
  have := List.pairwise_mergeSort (le := fun (x y : Int) => decide (x ≤ y)) (fun a b c h1 h2 => by simp at *; omega) (fun a b => by simp; omega) l
  exact this.imp (by simp)
theorem mem_sortI (l : List Int) (x : Int) : x ∈ sortI l ↔ x ∈ l := (List.mergeSort_perm l _).mem_iff
theorem sortI_len (l : List Int) : (sortI l).length = l.length := List.length_mergeSort _
theorem compact_len : ∀ (l : List Int), (compact l).length ≤ l.length
  | [] => by simp [compact]
  | [a] => by simp [compact]
  | a :: b :: r => by
    have := compact_len (b :: r)
    simp only [compact]
    split <;> simp at * <;> omega

theorem mem_moved (was now : List Job) (low : Bool) (x : Int) : x ∈ movedIds was now low ↔ movedB was now x low = true := by
  unfold movedIds movedRaw movedB
  rw [mem_compact, mem_sortI]
  simp only [List.mem_map, List.mem_filter, List.any_eq_true, Bool.and_eq_true, decide_eq_true_eq]
  constructor
  · rintro ⟨a, ⟨h1, b, h2, h3, h4⟩, rfl⟩
    exact ⟨a, h1, b, h2, ⟨rfl, h3.symm⟩, h4⟩
  · rintro ⟨a, h1, b, h2, ⟨h3, h4⟩, h5⟩
    exact ⟨a, ⟨h1, b, h2, by omega, h5⟩, h3⟩

theorem right_moved (was now : List Job) (low : Bool) : RightOK (movedIds was now low) was now low := by
  refine ⟨fun i x hx => ⟨(mem_moved was now low x).1 (List.mem_of_getElem? hx), fun y hi hy => ?_⟩, fun a ha => ?_⟩
  · have hp := compact_lt _ (sortI_sorted (movedRaw was now low))
    have h1 := (List.getElem?_eq_some_iff.1 hx)
    have h2 := (List.getElem?_eq_some_iff.1 hy)
    obtain ⟨l1, e1⟩ := h1
    obtain ⟨l2, e2⟩ := h2
    rw [← e1, ← e2]
    exact List.pairwise_iff_getElem.1 hp (i - 1) i l2 l1 (by omega)
  · rw [Bool.eq_iff_iff, ← mem_moved]
    simp only [List.any_eq_true, decide_eq_true_eq]
    constructor
    · exact fun h => ⟨_, h, rfl⟩
    · rintro ⟨x, h, rfl⟩; exact h

theorem moved_len (was now : List Job) (low : Bool) : (movedIds was now low).length ≤ was.length := by
  refine Nat.le_trans (compact_len _) ?_
  rw [sortI_len]
  simp only [movedRaw, List.length_map]
  exact List.length_filter_le _ _
theorem few_len (l : List Job) : (few l).length ≤ 30 := by simp [few]; omega
end Go.Ax.Law
