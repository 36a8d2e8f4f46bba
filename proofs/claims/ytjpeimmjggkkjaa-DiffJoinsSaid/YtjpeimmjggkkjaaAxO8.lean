/-
  What is to be shown of the functions is shown: a stable sort.
-/
import Derived.Test.YtjpeimmjggkkjaaAxV4
import Derived.Test.YtjpeimmjggkkjaaAxO6
set_option linter.all false
namespace Go.Ax.O
open Go.Ax.Sp Go.Ax.Law

theorem vSwapR {l : List Change} {a b m : Int} {k : List Change × Unit → Unit → Prop} (h : oSwapR 0 (l, a, b, m, (), ()) k) : V.vSwapR l a b m k := by
  obtain ⟨⟨h1, h2, h3, h4, h5, h6, h7⟩, hk⟩ := h
  simp only [] at h1 h2 h3 h4 h5 h6 h7 hk
  refine ⟨fun x => Swapped l x.1 a b x.2.2.2.2 ∧ x.2.1 = a ∧ x.2.2.1 = b ∧ x.2.2.2.1 = m ∧ 0 ≤ x.2.2.2.2 ∧ x.2.2.2.2 ≤ m, fun x => (m - x.2.2.2.2).toNat, (l, a, b, m, 0), ⟨Swapped.refl _ _ _, rfl, rfl, rfl, Int.le_refl _, h3⟩, ⟨⟨⟨rfl, rfl⟩, rfl, rfl, rfl, rfl, trivial⟩, rfl, trivial⟩, ?_⟩
  rintro ⟨c, a', b', m', i⟩ ⟨g1, g2, g3, g4, g5, g6⟩
  simp only [] at g1 g2 g3 g4 g5 g6
  subst g2 g3 g4
  have hlc := g1.1
  dsimp only
  refine br_dec (fun hi n hn n1 hn1 n2 hn2 => ?_) (fun hi => ?_)
  · rw [w64 (by omega)] at hn hn1 hn2
    subst hn hn1 hn2
    refine ⟨⟨by omega, by omega⟩, by omega, fun e he n3 hn3 => ?_⟩
    rw [w64 (by omega)] at hn3
    subst hn3
    refine ⟨⟨by omega, by omega⟩, by omega, fun e1 he1 => ⟨⟨by omega, by omega⟩, ⟨by omega, fun e2 he2 => ⟨⟨by omega, by omega⟩, ⟨by rw [List.length_set]; omega, fun e3 he3 n4 hn4 => ?_⟩, trivial⟩⟩, trivial⟩⟩
    rw [w64 (by omega)] at hn4
    subst hn4
    refine ⟨((c.set (0 + (a' + i).toNat) e).set (0 + (b' + i).toNat) e1, a', b', m', i + 1), ⟨?_, rfl, rfl, rfl, by simp only []; omega, by simp only []; omega⟩, ⟨⟨⟨rfl, by simp⟩, rfl, rfl, rfl, rfl, trivial⟩, rfl, trivial⟩, by simp only []; omega⟩
    rw [Nat.zero_add] at he he1
    simp only [Nat.zero_add]
    exact g1.step h1 h2 g5 (by omega) he1 he
  · have : i = m' := by omega
    subst this
    exact ⟨hlc.symm, hk c g1⟩

theorem vRot {l : List Change} {a b m : Int} {k : List Change × Unit → Unit → Prop} (h : oRot 0 (l, a, b, m, (), ()) k) : V.vRot l a b m k := by
  obtain ⟨⟨h1, h2, h3, h4, h5⟩, hk⟩ := h
  simp only [] at h1 h2 h3 h4 h5 hk
  intro n hn n1 hn1
  rw [w64 (by omega)] at hn hn1
  subst hn hn1
  refine ⟨fun x => x.2.1 = b ∧ 1 ≤ x.2.2.1 ∧ x.2.2.1 ≤ b - a ∧ 1 ≤ x.2.2.2 ∧ x.2.2.2 ≤ m - b ∧ x.1.length = l.length ∧ ∀ ys, Rotated x.1 ys (b - x.2.2.1) b (b + x.2.2.2) → Rotated l ys a b m, fun x => (x.2.2.1 + x.2.2.2).toNat, (l, b, b - a, m - b), ⟨rfl, by simp only []; omega, Int.le_refl _, by simp only []; omega, Int.le_refl _, rfl, fun ys hy => ?_⟩, ⟨⟨⟨rfl, rfl⟩, rfl, trivial, rfl, rfl, trivial⟩, rfl, trivial⟩, ?_⟩
  · simp only [] at hy
    rw [show b - (b - a) = a by omega, show b + (m - b) = m by omega] at hy
    exact hy
  rintro ⟨c, b', i, j⟩ ⟨g1, g2, g3, g4, g5, g6, g7⟩
  simp only [] at g1 g2 g3 g4 g5 g6 g7
  subst g1
  dsimp only
  refine br_not (fun hne => ?_) (fun heq => ?_)
  · have hne : i ≠ j := by simpa using hne
    refine br_dec (fun hgt n hn => ?_) (fun hgt n hn n2 hn2 n3 hn3 => ?_)
    · rw [w64 (by omega)] at hn
      subst hn
      refine ⟨rfl, ⟨by omega, by omega, by omega, by omega, by omega, by omega, by omega⟩, fun ys hys n hn => ?_⟩
      rw [w64 (by omega)] at hn
      subst hn
      refine ⟨(ys, b', i - j, j), ⟨rfl, by simp only []; omega, by simp only []; omega, g4, g5, by simp only []; rw [hys.1, g6], fun zs hz => g7 zs ?_⟩, ⟨⟨⟨rfl, hys.1.symm⟩, rfl, trivial, rfl, rfl, trivial⟩, rfl, trivial⟩, by simp only []; omega⟩
      exact Rotated.left (by omega) (by omega) (by omega) hys hz
    · rw [w64 (by omega)] at hn hn2
      subst hn hn2
      rw [w64 (by omega)] at hn3
      subst hn3
      refine ⟨rfl, ⟨by omega, by omega, by omega, by omega, by omega, by omega, by omega⟩, fun ys hys n hn => ?_⟩
      rw [w64 (by omega)] at hn
      subst hn
      refine ⟨(ys, b', i, j - i), ⟨rfl, g2, g3, by simp only []; omega, by simp only []; omega, by simp only []; rw [hys.1, g6], fun zs hz => g7 zs ?_⟩, ⟨⟨⟨rfl, hys.1.symm⟩, rfl, trivial, rfl, rfl, trivial⟩, rfl, trivial⟩, by simp only []; omega⟩
      exact Rotated.right (by omega) (by omega) (by omega) hys hz
  · have heq : i = j := by simpa using heq
    subst heq
    intro n hn
    rw [w64 (by omega)] at hn
    subst hn
    refine ⟨rfl, ⟨by omega, by omega, by omega, by omega, by omega, by omega, by omega⟩, fun ys hys => ⟨by rw [hys.1, g6], hk ys (g7 ys (Rotated.one (by omega) (by omega) hys))⟩⟩
end Go.Ax.O
