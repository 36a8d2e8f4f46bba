/-
  What is to be shown of the functions is shown: whose plans moved.
-/
import Derived.Test.YtjpeimmjggkkjaaAxV2
import Derived.Test.YtjpeimmjggkkjaaAxO2
import Derived.Test.YtjpeimmjggkkjaaAxS2
set_option linter.all false
namespace Go.Ax.O
open Go.Ax.Sp Go.Ax.Law

theorem vFew {l : List Job} {k : Unit → List Job × Unit → Prop} (h : oFew (l, ()) k) : V.vFew l k := by
  have h : k () (few l, ()) := h
  let f : Job → Job := fun j => { j with Id := j.Id.tmod 1099511627776 }
  refine ⟨fun x => x.1 = l ∧ 0 ≤ x.2.2 ∧ x.2.2 ≤ 30 ∧ x.2.2 ≤ l.length ∧ x.2.1 = (l.take x.2.2.toNat).map f, fun x => (30 - x.2.2).toNat, (l, [], 0), ⟨rfl, Int.le_refl _, by simp, by simp, by simp⟩, ⟨⟨rfl, ⟨rfl, rfl⟩, rfl, trivial⟩, rfl, trivial⟩, ?_⟩
  rintro ⟨l', out, i⟩ ⟨h1, h2, h3, h4, h5⟩
  simp only [] at h1 h2 h3 h4 h5
  subst h1
  obtain ⟨i, rfl⟩ := Int.eq_ofNat_of_zero_le h2
  simp only [Int.toNat_natCast] at h5
  have hlen : out.length = i := by rw [h5]; simp; omega
  refine br_dec (fun hi => br_dec (fun hi2 => ⟨⟨by simp only []; omega, hi⟩, fun e he => ⟨by decide, fun n hn => ⟨Nat.le_refl _, by simp only []; omega, by simp only []; omega, fun n1 hn1 => ?_⟩⟩⟩) (fun hi2 => ⟨rfl, ?_⟩)) (fun hi => ⟨rfl, ?_⟩)
  · simp only [Int.toNat_natCast] at hi hi2 he hn1
    rw [w64 (by omega)] at hn1
    subst hn1
    refine ⟨(l', out ++ [f e], (i : Int) + 1), ⟨rfl, by simp only []; omega, by simp only []; omega, by simp only []; omega, ?_⟩, ⟨⟨rfl, ⟨rfl, by simp⟩, rfl, trivial⟩, ?_, trivial⟩, by simp only []; omega⟩
    · simp only []
      rw [show ((i : Int) + 1).toNat = i + 1 by omega, take_step he, List.map_append, h5]; rfl
    · simp only [List.drop_zero, List.take_length]
      rw [hn]
  · simp only [] at hi hi2 ⊢
    have : out = few l' := by
      rw [h5, show i = 30 by omega]; rfl
    rw [this]; exact h
  · simp only [] at hi ⊢
    have : out = few l' := by
      rw [h5]
      have hii : i = l'.length := by omega
      subst hii
      simp only [few]
      rw [List.take_length, List.take_of_length_le (by omega)]
    rw [this]; exact h

theorem vMvd {was now : List Job} {id : Int} {low : Bool} {k : Unit → Bool × Unit → Prop} (h : oMvd (was, now, id, low, ()) k) : V.vMvd was now id low k := by
  obtain ⟨⟨hw, hn⟩, h⟩ := h
  simp only [] at hw hn h
  let C : Job → Job → Bool := fun a b => decide (a.Id = id) && decide (b.Id = id) && mv a b low
  refine ⟨fun x => x.1 = was ∧ x.2.1 = now ∧ x.2.2.1 = id ∧ x.2.2.2.1 = low ∧ 0 ≤ x.2.2.2.2 ∧ x.2.2.2.2 ≤ was.length ∧ ∀ a ∈ was.take x.2.2.2.2.toNat, ∀ b ∈ now, C a b = false, fun x => (was.length - x.2.2.2.2).toNat,
    (was, now, id, low, 0), ⟨rfl, rfl, rfl, rfl, Int.le_refl _, by simp, by simp⟩, ⟨⟨rfl, rfl, rfl, rfl, rfl, trivial⟩, trivial⟩, ?_⟩
  rintro ⟨was', now', id', low', i⟩ ⟨h1, h2, h3, h4, h5, h6, h7⟩
  simp only [] at h1 h2 h3 h4 h5 h6 h7
  subst h1 h2 h3 h4
  obtain ⟨i, rfl⟩ := Int.eq_ofNat_of_zero_le h5
  simp only [Int.toNat_natCast] at h7
  refine br_dec (fun hi => ?_) (fun hi => ?_)
  · simp only [] at hi
    refine ⟨fun x => x.1 = was' ∧ x.2.1 = now' ∧ x.2.2.1 = id' ∧ x.2.2.2.1 = low' ∧ x.2.2.2.2.1 = i ∧ 0 ≤ x.2.2.2.2.2 ∧ x.2.2.2.2.2 ≤ now'.length ∧ ∀ a, was'[i]? = some a → ∀ b ∈ now'.take x.2.2.2.2.2.toNat, C a b = false, fun x => (now'.length - x.2.2.2.2.2).toNat,
      (was', now', id', low', i, 0), ⟨rfl, rfl, rfl, rfl, rfl, Int.le_refl _, by simp, by simp⟩, ⟨⟨rfl, rfl, rfl, rfl, rfl, rfl, trivial⟩, trivial⟩, ?_⟩
    rintro ⟨was, now, id, low, i', j⟩ ⟨g1, g2, g3, g4, g5, g6, g7, g8⟩
    simp only [] at g1 g2 g3 g4 g5 g6 g7 g8
    subst g1 g2 g3 g4 g5
    obtain ⟨j, rfl⟩ := Int.eq_ofNat_of_zero_le g6
    simp only [Int.toNat_natCast] at g8
    refine br_dec (fun hj => ⟨⟨by simp only []; omega, by simp only []; omega⟩, fun e he => ⟨⟨by simp only []; omega, hj⟩, fun e1 he1 => ?_⟩⟩) (fun hj => ?_)
    · simp only [Int.toNat_natCast] at he he1 hj
      have found : C e e1 = true → k () (true, ()) := by
        intro hc
        have : movedB was now id low = true := by
          simp only [movedB, List.any_eq_true]
          exact ⟨e, List.mem_of_getElem? he, e1, List.mem_of_getElem? he1, hc⟩
        rw [this] at h; exact h
      have next : C e e1 = false → ∀ n : Int, n = IntKind.i64.wrap ((j : Int) + 1) → ∃ y : List Job × List Job × Int × Bool × Int × Int, (y.1 = was ∧ y.2.1 = now ∧ y.2.2.1 = id ∧ y.2.2.2.1 = low ∧ y.2.2.2.2.1 = (i : Int) ∧ 0 ≤ y.2.2.2.2.2 ∧ y.2.2.2.2.2 ≤ now.length ∧ ∀ a, was[i]? = some a → ∀ b ∈ now.take y.2.2.2.2.2.toNat, C a b = false) ∧
          ((was = y.1 ∧ now = y.2.1 ∧ id = y.2.2.1 ∧ low = y.2.2.2.1 ∧ (i : Int) = y.2.2.2.2.1 ∧ n = y.2.2.2.2.2 ∧ True) ∧ True) ∧ (now.length - y.2.2.2.2.2).toNat < (now.length - (j : Int)).toNat := by
        intro hc n hnn
        rw [w64 (by omega)] at hnn
        subst hnn
        refine ⟨(was, now, id, low, (i : Int), (j : Int) + 1), ⟨rfl, rfl, rfl, rfl, rfl, by simp only []; omega, by simp only []; omega, fun a ha b hb => ?_⟩, ⟨⟨rfl, rfl, rfl, rfl, rfl, rfl, trivial⟩, trivial⟩, by simp only []; omega⟩
        simp only [] at hb
        rw [show ((j : Int) + 1).toNat = j + 1 by omega, take_step he1, List.mem_append] at hb
        rw [he] at ha; cases ha
        rcases hb with hb | hb
        · exact g8 e he b hb
        · simp at hb; subst hb; exact hc
      refine ⟨⟨⟨⟨?_, trivial⟩, trivial⟩, trivial⟩, ⟨⟨⟨?_, trivial⟩, trivial⟩, trivial⟩, trivial⟩
      all_goals
        repeat' (first | (refine br_not (fun _ => ?_) (fun _ => ?_)) | (refine br_dec (fun _ => ?_) (fun _ => ?_)) | (refine br_bool (fun _ => ?_) (fun _ => ?_)))
        all_goals
          simp only [beq_iff_eq, beq_eq_false_iff_ne, ne_eq, ge_iff_le, gt_iff_lt] at *
          first
            | (refine found ?_; simp only [C, mv]; grind)
            | (refine next ?_; simp only [C, mv]; grind)
    · simp only [] at hj
      intro n hnn
      simp only [] at hnn
      rw [w64 (by omega)] at hnn
      subst hnn
      refine ⟨(was, now, id, low, (i : Int) + 1), ⟨rfl, rfl, rfl, rfl, by simp only []; omega, by simp only []; omega, fun a ha b hb => ?_⟩, ⟨⟨rfl, rfl, rfl, rfl, rfl, trivial⟩, trivial⟩, by simp only []; omega⟩
      simp only [] at ha
      have hil : i < was.length := by omega
      have he : was[i]? = some was[i] := List.getElem?_eq_getElem hil
      rw [show ((i : Int) + 1).toNat = i + 1 by omega, take_step he, List.mem_append] at ha
      rcases ha with ha | ha
      · exact h7 a ha b hb
      · simp at ha; subst ha
        rw [show j = now.length by omega, List.take_length] at g8
        exact g8 _ he b hb
  · simp only [] at hi
    have hf : movedB was' now' id' low' = false := by
      rw [Bool.eq_false_iff]
      intro ht
      simp only [movedB, List.any_eq_true] at ht
      obtain ⟨a, ha, b, hb, hc⟩ := ht
      rw [show i = was'.length by omega, List.take_length] at h7
      have := h7 a ha b hb
      simp only [C] at this
      rw [this] at hc; cases hc
    rw [hf] at h; exact h
end Go.Ax.O
