/-
  Plain lemmas on which the contracts stand: rows that are sorted, wrapped numbers, branches.
-/
import Derived.Test.YtnoinchifbckcaaGreatDoorAxG
import Derived.IntWalk
set_option linter.all false
namespace Go.Ax
theorem br_dec {p : Prop} [Decidable p] {A B : Prop} (h1 : p → A) (h2 : ¬ p → B) : br (decide p) A B := by
  by_cases h : p
  · simp only [h, decide_true, br]; exact h1 h
  · simp only [h, decide_false, br]; exact h2 h
theorem br_bool {b : Bool} {A B : Prop} (h1 : b = true → A) (h2 : b = false → B) : br b A B := by
  cases b with
  | true => exact h1 rfl
  | false => exact h2 rfl
theorem br_not {b : Bool} {A B : Prop} (h1 : b = false → A) (h2 : b = true → B) : br (!b) A B := by
  cases b with
  | true => exact h2 rfl
  | false => exact h1 rfl
theorem w64 {n : Int} (h : -9223372036854775808 ≤ n ∧ n ≤ 9223372036854775807) : IntKind.i64.wrap n = n := IntWalk.i64_in n h

namespace Law

def keyIs {α : Type} (key : α → Int) (c : Int) (x : α) : Bool := decide (key x = c)

/-- The rows are the same but between two places; there the second one is sorted, and what is alike has kept its order. -/
def SortedSeg {α : Type} (key : α → Int) (xs ys : List α) (a b : Int) : Prop :=
  ys.length = xs.length ∧ (∀ i : Nat, ((i : Int) < a ∨ b ≤ i) → ys[i]? = xs[i]?) ∧
  (∀ (i j : Nat) (x y : α), a ≤ i → i < j → (j : Int) < b → ys[i]? = some x → ys[j]? = some y → key x ≤ key y) ∧
  ∀ c, ys.filter (keyIs key c) = xs.filter (keyIs key c)

theorem swap_split {α : Type} {ys : List α} {j : Nat} {u v : α} (h1 : ys[j]? = some u) (h2 : ys[j + 1]? = some v) :
    ∃ p s, ys = p ++ u :: v :: s ∧ p.length = j ∧ (ys.set (j + 1) u).set j v = p ++ v :: u :: s := by
  have hlt := (List.getElem?_eq_some_iff.1 h2).1
  refine ⟨ys.take j, ys.drop (j + 2), ?_, by simp; omega, ?_⟩
  · have e1 : ys.drop j = u :: ys.drop (j + 1) := by
      rw [List.drop_eq_getElem_cons (by omega)]
      rw [(List.getElem?_eq_some_iff.1 h1).2]
    have e2 : ys.drop (j + 1) = v :: ys.drop (j + 2) := by
      rw [List.drop_eq_getElem_cons hlt]
      rw [(List.getElem?_eq_some_iff.1 h2).2]
    rw [← e2, ← e1, List.take_append_drop]
  · apply List.ext_getElem?
    intro i
    simp only [List.getElem?_set, List.getElem?_append, List.length_take, List.length_set]
    have hm : min j ys.length = j := by omega
    rw [hm]
    by_cases hi : i < j
    · rw [if_neg (by omega), if_neg (by omega), if_pos hi, List.getElem?_take_of_lt hi]
    · by_cases hj : i = j
      · subst hj; simp; omega
      · by_cases hk : i = j + 1
        · subst hk
          rw [if_neg (by omega), if_pos rfl, if_pos hlt, if_neg (by omega)]
          simp
        · rw [if_neg (by omega), if_neg (by omega), if_neg hi]
          obtain ⟨d, rfl⟩ := Nat.exists_eq_add_of_lt (show j + 1 < i by omega)
          rw [show j + 1 + d + 1 - j = d + 2 by omega]
          simp [show j + 1 + d + 1 = j + 2 + d by omega]

theorem filter_swap {α : Type} {key : α → Int} {u v : α} (hne : key u ≠ key v) (p s : List α) (c : Int) :
    (p ++ v :: u :: s).filter (keyIs key c) = (p ++ u :: v :: s).filter (keyIs key c) := by
  simp only [List.filter_append, List.filter_cons, keyIs]
  congr 1
  by_cases h1 : key u = c <;> by_cases h2 : key v = c
  · omega
  · simp [h1, h2]
  · simp [h1, h2]
  · simp [h1, h2]

/-- How a row looks while an element sinks: from 'a' to 'i' all are sorted but what lies at 'j', and this is below all behind it. -/
def Sinks {α : Type} (key : α → Int) (xs ys : List α) (a i j : Nat) : Prop :=
  a ≤ j ∧ j ≤ i ∧ i < ys.length ∧ ys.length = xs.length ∧ (∀ p : Nat, (p < a ∨ i < p) → ys[p]? = xs[p]?) ∧
  (∀ (p q : Nat) (x y : α), a ≤ p → p < q → q ≤ i → q ≠ j → ys[p]? = some x → ys[q]? = some y → key x ≤ key y) ∧
  ∀ c, ys.filter (keyIs key c) = xs.filter (keyIs key c)

theorem Sinks.start {α : Type} {key : α → Int} {xs ys : List α} {a i : Nat} (h : SortedSeg key xs ys a i) (hai : a < i) (hi : i < ys.length) : Sinks key xs ys a i i := by
  obtain ⟨h1, h2, h3, h4⟩ := h
  exact ⟨by omega, Nat.le_refl _, hi, h1, fun p hp => h2 p (by omega), fun p q x y hp hq hqi hne hx hy => h3 p q x y (by omega) hq (by omega) hx hy, h4⟩

theorem Sinks.stop {α : Type} {key : α → Int} {xs ys : List α} {a i j : Nat} (h : Sinks key xs ys a i j) (hj : j = a ∨ ∀ u v, 1 ≤ j → ys[j - 1]? = some u → ys[j]? = some v → key u ≤ key v) : SortedSeg key xs ys a ((i : Int) + 1) := by
  obtain ⟨h1, h2, h3, h4, h5, h6, h7⟩ := h
  refine ⟨h4, fun p hp => h5 p (by omega), fun p q x y hp hpq hq hx hy => ?_, h7⟩
  by_cases hqj : q = j
  · subst hqj
    rcases hj with hj | hj
    · omega
    · have hlt : q - 1 < ys.length := by omega
      have e : ys[q - 1]? = some ys[q - 1] := List.getElem?_eq_getElem hlt
      have l1 := hj _ _ (by omega) e hy
      by_cases hpe : p = q - 1
      · subst hpe; rw [hx] at e; cases e; exact l1
      · have := h6 p (q - 1) x _ (by omega) (by omega) (by omega) (by omega) hx e
        omega
  · exact h6 p q x y (by omega) hpq (by omega) hqj hx hy

theorem Sinks.step {α : Type} {key : α → Int} {xs ys : List α} {a i j : Nat} {u v : α} (h : Sinks key xs ys a i (j + 1)) (ha : a ≤ j) (hu : ys[j]? = some u) (hv : ys[j + 1]? = some v) (hlt : key v < key u) :
    Sinks key xs ((ys.set (j + 1) u).set j v) a i j := by
  obtain ⟨h1, h2, h3, h4, h5, h6, h7⟩ := h
  obtain ⟨p, s, e1, e2, e3⟩ := swap_split hu hv
  have hget : ∀ q : Nat, ((ys.set (j + 1) u).set j v)[q]? = if q = j then some v else if q = j + 1 then some u else ys[q]? := by
    intro q
    have l1 : j + 1 < ys.length := by omega
    simp only [List.getElem?_set, List.length_set]
    by_cases hq : q = j
    · rw [if_pos hq.symm, if_pos (by omega), if_pos hq]
    · rw [if_neg (fun h => hq h.symm), if_neg hq]
      by_cases hq2 : q = j + 1
      · rw [if_pos hq2.symm, if_pos l1, if_pos hq2]
      · rw [if_neg (fun h => hq2 h.symm), if_neg hq2]
  refine ⟨ha, by omega, by simpa using h3, by simpa using h4, fun q hq => ?_, fun p q x y hp hpq hqi hne hx hy => ?_, fun c => ?_⟩
  · rw [hget, if_neg (by omega), if_neg (by omega)]
    exact h5 q hq
  · rw [hget] at hx hy
    rw [if_neg hne] at hy
    by_cases hq1 : q = j + 1
    · rw [if_pos hq1] at hy
      cases hy
      by_cases hpj : p = j
      · rw [if_pos hpj] at hx; cases hx; omega
      · rw [if_neg hpj, if_neg (by omega)] at hx
        exact h6 p j x u hp (by omega) (by omega) (by omega) hx hu
    · rw [if_neg hq1] at hy
      by_cases hpj : p = j
      · rw [if_pos hpj] at hx; cases hx
        exact h6 (j + 1) q v y (by omega) (by omega) hqi (by omega) hv hy
      · rw [if_neg hpj] at hx
        by_cases hp1 : p = j + 1
        · rw [if_pos hp1] at hx; cases hx
          exact h6 j q u y (by omega) (by omega) hqi (by omega) hu hy
        · rw [if_neg hp1] at hx
          exact h6 p q x y hp hpq hqi (by omega) hx hy
  · rw [e3, filter_swap (by omega), ← e1]
    exact h7 c

theorem SortedSeg.refl {α : Type} {key : α → Int} {xs : List α} {a b : Int} (h : b ≤ a + 1) : SortedSeg key xs xs a b :=
  ⟨rfl, fun _ _ => rfl, fun i j x y h1 h2 h3 _ _ => by omega, fun _ => rfl⟩
end Law
end Go.Ax
