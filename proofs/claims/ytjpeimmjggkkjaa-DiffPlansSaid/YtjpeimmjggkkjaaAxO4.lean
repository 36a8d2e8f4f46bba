/-
  What is to be shown of the functions is shown: neighbours that are alike, and whose plans moved.
-/
import Derived.Test.YtjpeimmjggkkjaaAxO3
set_option linter.all false
namespace Go.Ax.Law
theorem compact_snoc (a b : Int) : ∀ l : List Int, compact (l ++ [b] ++ [a]) = if b = a then compact (l ++ [b]) else compact (l ++ [b]) ++ [a]
  | [] => by
    simp only [List.nil_append, List.cons_append, compact]
    by_cases h : b = a <;> simp [h]
  | [x] => by
    simp only [List.cons_append, List.nil_append, compact]
    by_cases h1 : x = b
    · subst h1
      by_cases h2 : x = a <;> simp [h2]
    · by_cases h2 : b = a <;> simp [h1, h2]
  | x :: y :: r => by
    have ih := compact_snoc a b (y :: r)
    simp only [List.cons_append, compact] at ih ⊢
    by_cases h1 : x = y
    · simp only [h1, if_true]; exact ih
    · simp only [h1, if_false]
      rw [ih]
      by_cases h2 : b = a <;> simp [h2]

theorem compact_take {l : List Int} {k : Nat} {a b : Int} (hb : l[k]? = some b) (ha : l[k + 1]? = some a) : compact (l.take (k + 2)) = if b = a then compact (l.take (k + 1)) else compact (l.take (k + 1)) ++ [a] := by
  rw [List.take_add_one, ha, List.take_add_one, hb]
  exact compact_snoc a b _
end Go.Ax.Law
namespace Go.Ax.O
open Go.Ax.Sp Go.Ax.Law

theorem vCompI {l : List Int} {k : Unit → List Int × Unit → Prop} (h : oCompI (l, ()) k) : V.vCompI l k := by
  obtain ⟨hl, h⟩ := h
  simp only [] at hl h
  refine br_dec (fun h2 => ⟨by omega, ?_⟩) (fun h2 => ?_)
  · have : compact l = l := by
      match l, h2 with
      | [], _ => rfl
      | [a], _ => rfl
      | a :: b :: r, h2 => simp at h2; omega
    rw [this] at h
    simpa using h
  refine ⟨fun x => x.1 = l ∧ 1 ≤ x.2 ∧ x.2 ≤ l.length ∧ compact (l.take x.2.toNat) = l.take x.2.toNat, fun x => (l.length - x.2).toNat, (l, 1), ⟨rfl, Int.le_refl _, by simp only []; omega, ?_⟩, ⟨⟨⟨rfl, rfl⟩, rfl, trivial⟩, rfl, trivial⟩, ?_⟩
  · match l, h2 with
    | [], h2 => simp at h2
    | a :: r, _ => simp [compact]
  rintro ⟨l', i⟩ ⟨h1, h3, h4, h5⟩
  simp only [] at h1 h3 h4 h5
  subst h1
  obtain ⟨i, rfl⟩ := Int.eq_ofNat_of_zero_le (show 0 ≤ i by omega)
  obtain ⟨i, rfl⟩ : ∃ q, i = q + 1 := ⟨i - 1, by omega⟩
  simp only [Int.toNat_natCast] at h5
  refine br_dec (fun hi => ⟨⟨by simp only []; omega, hi⟩, by simp only [] at hi ⊢; omega, fun e he n hn => ?_⟩) (fun hi => ⟨by simp only []; omega, ?_⟩)
  · simp only [Int.toNat_natCast, Nat.zero_add] at hi he hn
    rw [w64 (by omega)] at hn
    have hn2 : n = (i : Int) := by omega
    subst hn2
    simp only [Int.toNat_natCast, Nat.zero_add]
    refine ⟨⟨by omega, by omega⟩, by omega, fun e1 he1 => br_bool (fun hee => ?_) (fun hee => ?_)⟩
    · simp only [beq_iff_eq] at hee
      subst hee
      have hc0 := compact_take he1 he
      rw [if_pos rfl] at hc0
      refine ⟨⟨by omega, by omega, by omega⟩, fun x => x.1.length = l'.length ∧ (i : Int) + 1 ≤ x.2.1 ∧ x.2.2.1 = i + 1 ∧ x.2.2.2.1 = l'.length - (i + 1) ∧ 1 ≤ x.2.2.2.2 ∧ x.2.2.2.2 ≤ l'.length - (i + 1) ∧ x.2.1 ≤ (i : Int) + x.2.2.2.2 ∧
          x.1.take x.2.1.toNat = compact (l'.take (i + 1 + x.2.2.2.2.toNat)) ∧ ∀ q : Nat, (i : Int) + x.2.2.2.2 ≤ q → x.1[q]? = l'[q]?,
        fun x => (l'.length - x.2.2.2.2).toNat, (l', (i : Int) + 1, i + 1, l'.length - (i + 1), 1), ⟨rfl, Int.le_refl _, rfl, rfl, Int.le_refl _, by simp only []; omega, Int.le_refl _, ?_, fun _ _ => rfl⟩, ⟨⟨⟨trivial, rfl⟩, rfl, ⟨rfl, by simp⟩, rfl, trivial⟩, rfl, trivial⟩, ?_⟩
      · simp only []
        rw [show ((i : Int) + 1).toNat = i + 1 by omega, show i + 1 + (1 : Int).toNat = i + 2 by simp, hc0]
        exact h5.symm
      rintro ⟨ys, j, b0, n, q⟩ ⟨g1, g2, g3, g4, g5, g6, g7, g8, g9⟩
      simp only [] at g1 g2 g3 g4 g5 g6 g7 g8 g9
      subst g3 g4
      obtain ⟨j, rfl⟩ := Int.eq_ofNat_of_zero_le (show 0 ≤ j by omega)
      obtain ⟨q, rfl⟩ := Int.eq_ofNat_of_zero_le (show 0 ≤ q by omega)
      obtain ⟨q, rfl⟩ : ∃ p, q = p + 1 := ⟨q - 1, by omega⟩
      simp only [Int.toNat_natCast] at g8
      refine br_dec (fun hq => ⟨⟨by simp only []; omega, hq⟩, by simp only [] at hq ⊢; omega, fun e he n hn => ?_⟩) (fun hq => ?_)
      · simp only [Int.toNat_natCast] at hq he hn
        rw [w64 (by omega)] at hn
        have hn2 : n = (q : Int) := by omega
        subst hn2
        simp only [Int.toNat_natCast]
        refine ⟨⟨by omega, by omega⟩, by omega, fun e2 he2 => ?_⟩
        rw [g9 _ (by omega)] at he he2
        have hct := compact_take (k := i + 1 + q) he2 (by rw [← he]; congr 1)
        refine br_not (fun hne => ?_) (fun heq => ?_)
        · simp only [beq_eq_false_iff_ne, ne_eq] at hne
          refine ⟨⟨by omega, by omega⟩, by omega, fun e3 he3 => ⟨⟨by omega, by omega⟩, by omega, fun e4 he4 n hn n1 hn1 => ?_⟩⟩
          rw [g9 _ (by omega), he] at he3
          cases he3
          rw [w64 (by omega)] at hn hn1
          subst hn hn1
          refine ⟨(ys.set j e, (j : Int) + 1, i + 1, l'.length - (i + 1), (q : Int) + 1 + 1), ⟨by simpa using g1, by simp only []; omega, rfl, rfl, by simp only []; omega, by simp only []; omega, by simp only []; omega, ?_, fun p hp => ?_⟩, ⟨⟨⟨trivial, by simp⟩, rfl, ⟨rfl, rfl⟩, rfl, trivial⟩, rfl, trivial⟩, by simp only []; omega⟩
          · simp only []
            have hjl : j < ys.length := by omega
            rw [show ((j : Int) + 1).toNat = j + 1 by omega, show ((q : Int) + 1 + 1).toNat = q + 2 by omega, show i + 1 + (q + 2) = i + 1 + q + 2 by omega, hct, if_neg (fun h => hne h.symm), List.take_add_one, List.getElem?_set_self hjl, List.take_set_of_le (Nat.le_refl j)]
            rw [show i + 1 + q + 1 = i + 1 + (q + 1) by omega, ← g8]
            rfl
          · simp only [] at hp ⊢
            rw [List.getElem?_set_ne (by omega)]
            exact g9 p (by omega)
        · simp only [beq_iff_eq] at heq
          intro n hn
          rw [w64 (by omega)] at hn
          subst hn
          refine ⟨(ys, (j : Int), i + 1, l'.length - (i + 1), (q : Int) + 1 + 1), ⟨g1, by simp only []; omega, rfl, rfl, by simp only []; omega, by simp only []; omega, by simp only []; omega, ?_, fun p hp => g9 p (by simp only [] at hp; omega)⟩, ⟨⟨⟨trivial, rfl⟩, rfl, ⟨rfl, rfl⟩, rfl, trivial⟩, rfl, trivial⟩, by simp only []; omega⟩
          simp only [Int.toNat_natCast]
          rw [show ((q : Int) + 1 + 1).toNat = q + 2 by omega, show i + 1 + (q + 2) = i + 1 + q + 2 by omega, hct, if_pos heq.symm, g8]
          rfl
      · simp only [Int.toNat_natCast, Nat.zero_add] at hq ⊢
        have hqe : i + 1 + (q + 1) = l'.length := by omega
        rw [hqe, List.take_length] at g8
        have hjl : j ≤ ys.length := by omega
        have hmin : min j ys.length = j := by omega
        refine ⟨⟨by omega, by omega, by omega⟩, by omega, ⟨by omega, by omega, by simp; omega⟩, by simp; omega, ?_⟩
        have : List.take (j - Int.toNat 0) (List.drop (Int.toNat 0) (List.take j ys ++ (List.replicate (ys.length - j) 0 ++ List.drop (j + (ys.length - j)) ys))) = compact l' := by
          simp only [Int.toNat_zero, Nat.sub_zero, List.drop_zero]
          rw [List.take_append_of_le_length (by simp; omega), List.take_take, Nat.min_self, g8]
        have h0 : ys.length - j = (ys.length : Int).toNat - j := by omega
        rw [← this] at h
        simpa using h
    · simp only [beq_eq_false_iff_ne, ne_eq] at hee
      intro n hn
      rw [w64 (by omega)] at hn
      subst hn
      have hc0 := compact_take he1 he
      rw [if_neg (fun h => hee h.symm), h5] at hc0
      refine ⟨(l', (i : Int) + 1 + 1), ⟨rfl, by simp only []; omega, by simp only []; omega, ?_⟩, ⟨⟨⟨trivial, rfl⟩, rfl, trivial⟩, rfl, trivial⟩, by simp only []; omega⟩
      simp only []
      rw [show ((i : Int) + 1 + 1).toNat = i + 2 by omega, hc0, List.take_add_one (i := i + 1), he]
      rfl
  · simp only [] at hi ⊢
    rw [show i + 1 = l'.length by omega, List.take_length] at h5
    rw [h5] at h
    simpa using h
end Go.Ax.O
