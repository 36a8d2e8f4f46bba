/-
  What is to be shown of the functions is shown: whose plans moved, as ids; and the law.
-/
import Derived.Test.YtjpeimmjggkkjaaAxO4
set_option linter.all false
namespace Go.Ax.O
open Go.Ax.Sp Go.Ax.Law

theorem filter_snoc {α : Type} (p : α → Bool) {l : List α} {i : Nat} {e : α} (h : l[i]? = some e) : (l.take (i + 1)).filter p = (l.take i).filter p ++ if p e then [e] else [] := by
  rw [take_step h, List.filter_append]
  congr 1
  cases hp : p e <;> simp [hp]

theorem vDmoved {was now : List Job} {low : Bool} {k : Unit → List Int × Unit → Prop} (h : oDmoved (was, now, low, ()) k) : V.vDmoved was now low k := by
  obtain ⟨⟨hw, hn⟩, h⟩ := h
  simp only [] at hw hn h
  let p : Job → Bool := fun a => now.any fun b => decide (a.Id = b.Id) && mv a b low
  refine ⟨fun x => x.1 = was ∧ x.2.1 = now ∧ x.2.2.1 = low ∧ 0 ≤ x.2.2.2.2 ∧ x.2.2.2.2 ≤ was.length ∧ x.2.2.2.1 = ((was.take x.2.2.2.2.toNat).filter p).map fun a => a.Id, fun x => (was.length - x.2.2.2.2).toNat,
    (was, now, low, [], 0), ⟨rfl, rfl, rfl, Int.le_refl _, by simp, by simp⟩, ⟨⟨rfl, rfl, ⟨rfl, rfl⟩, rfl, rfl, rfl, trivial⟩, rfl, trivial⟩, ?_⟩
  rintro ⟨was', now', low', out, i⟩ ⟨h1, h2, h3, h4, h5, h6⟩
  simp only [] at h1 h2 h3 h4 h5 h6
  subst h1 h2 h3
  obtain ⟨i, rfl⟩ := Int.eq_ofNat_of_zero_le h4
  simp only [Int.toNat_natCast] at h6
  have hol : out.length ≤ was'.length := by
    rw [h6, List.length_map]
    refine Nat.le_trans (List.length_filter_le _ _) ?_
    simp; omega
  refine br_dec (fun hi => ⟨⟨by simp only []; omega, hi⟩, fun a ha => ?_⟩) (fun hi => ?_)
  · simp only [Int.toNat_natCast] at hi ha
    refine ⟨fun x => x.1 = was' ∧ x.2.1 = now' ∧ x.2.2.1 = low' ∧ x.2.2.2.1 = out ∧ x.2.2.2.2.1 = i ∧ x.2.2.2.2.2.1 = a ∧ 0 ≤ x.2.2.2.2.2.2 ∧ x.2.2.2.2.2.2 ≤ now'.length ∧ ∀ b ∈ now'.take x.2.2.2.2.2.2.toNat, (decide (a.Id = b.Id) && mv a b low') = false, fun x => (now'.length - x.2.2.2.2.2.2).toNat,
      (was', now', low', out, i, a, 0), ⟨rfl, rfl, rfl, rfl, rfl, rfl, Int.le_refl _, by simp, by simp⟩, ⟨⟨rfl, rfl, ⟨rfl, rfl⟩, rfl, rfl, rfl, rfl, rfl, rfl, rfl, trivial⟩, rfl, ⟨rfl, rfl, rfl, rfl, rfl, rfl, rfl, rfl, rfl, rfl, trivial⟩, trivial⟩, ?_⟩
    rintro ⟨was, now, low, out', i', a', j⟩ ⟨g1, g2, g3, g4, g5, g6, g7, g8, g9⟩
    simp only [] at g1 g2 g3 g4 g5 g6 g7 g8 g9
    subst g1 g2 g3 g4 g5 g6
    obtain ⟨j, rfl⟩ := Int.eq_ofNat_of_zero_le g7
    simp only [Int.toNat_natCast] at g9
    refine br_dec (fun hj => ⟨⟨by simp only []; omega, hj⟩, fun e he => ?_⟩) (fun hj => ?_)
    · simp only [Int.toNat_natCast] at he hj
      have found : (decide (a'.Id = e.Id) && mv a' e low) = true → (1 ≤ 1 ∧ 0 + out'.length ≤ out'.length ∧ out'.length + 1 ≤ 68719476736 ∧ ∀ n : Int, n = IntKind.i64.wrap ((i : Int) + 1) →
          ∃ y : List Job × List Job × Bool × List Int × Int, (y.1 = was ∧ y.2.1 = now ∧ y.2.2.1 = low ∧ 0 ≤ y.2.2.2.2 ∧ y.2.2.2.2 ≤ was.length ∧ y.2.2.2.1 = ((was.take y.2.2.2.2.toNat).filter p).map fun a => a.Id) ∧
            ((now = y.2.1 ∧ low = y.2.2.1 ∧ (0 = 0 ∧ out'.length + 1 = y.2.2.2.1.length) ∧ was = y.1 ∧ (was.length : Int) = (y.1.length : Int) ∧ n = y.2.2.2.2 ∧ True) ∧ (out'.drop 0).take out'.length ++ [a'.Id] = y.2.2.2.1 ∧ True) ∧ (was.length - y.2.2.2.2).toNat < (was.length - (i : Int)).toNat) := by
        intro hc
        refine ⟨Nat.le_refl _, by omega, by omega, fun n hnn => ?_⟩
        rw [w64 (by omega)] at hnn
        subst hnn
        refine ⟨(was, now, low, out' ++ [a'.Id], (i : Int) + 1), ⟨rfl, rfl, rfl, by simp only []; omega, by simp only []; omega, ?_⟩, ⟨⟨rfl, rfl, ⟨rfl, by simp⟩, rfl, rfl, rfl, trivial⟩, by simp, trivial⟩, by simp only []; omega⟩
        simp only []
        have hp : p a' = true := by
          simp only [p, List.any_eq_true]
          exact ⟨e, List.mem_of_getElem? he, hc⟩
        rw [show ((i : Int) + 1).toNat = i + 1 by omega, filter_snoc p ha, if_pos hp, List.map_append, h6]; rfl
      have next : (decide (a'.Id = e.Id) && mv a' e low) = false → ∀ n : Int, n = IntKind.i64.wrap ((j : Int) + 1) →
          ∃ y : List Job × List Job × Bool × List Int × Int × Job × Int, (y.1 = was ∧ y.2.1 = now ∧ y.2.2.1 = low ∧ y.2.2.2.1 = out' ∧ y.2.2.2.2.1 = (i : Int) ∧ y.2.2.2.2.2.1 = a' ∧ 0 ≤ y.2.2.2.2.2.2 ∧ y.2.2.2.2.2.2 ≤ now.length ∧ ∀ b ∈ now.take y.2.2.2.2.2.2.toNat, (decide (a'.Id = b.Id) && mv a' b low) = false) ∧
            ((now = y.2.1 ∧ low = y.2.2.1 ∧ (0 = 0 ∧ out'.length = y.2.2.2.1.length) ∧ was = y.1 ∧ (was.length : Int) = (y.1.length : Int) ∧ (i : Int) = y.2.2.2.2.1 ∧ 0 = 0 ∧ now = y.2.1 ∧ (now.length : Int) = (y.2.1.length : Int) ∧ n = y.2.2.2.2.2.2 ∧ True) ∧ out' = y.2.2.2.1 ∧
              (a'.Id = y.2.2.2.2.2.1.Id ∧ a'.User = y.2.2.2.2.2.1.User ∧ a'.Width = y.2.2.2.2.2.1.Width ∧ a'.Limit = y.2.2.2.2.2.1.Limit ∧ a'.Prio = y.2.2.2.2.2.1.Prio ∧ a'.State = y.2.2.2.2.2.1.State ∧ a'.Start = y.2.2.2.2.2.1.Start ∧ a'.End = y.2.2.2.2.2.1.End ∧ a'.Plan = y.2.2.2.2.2.1.Plan ∧ a'.Nodes = y.2.2.2.2.2.1.Nodes ∧ True) ∧ True) ∧
            (now.length - y.2.2.2.2.2.2).toNat < (now.length - (j : Int)).toNat := by
        intro hc n hnn
        rw [w64 (by omega)] at hnn
        subst hnn
        refine ⟨(was, now, low, out', (i : Int), a', (j : Int) + 1), ⟨rfl, rfl, rfl, rfl, rfl, rfl, by simp only []; omega, by simp only []; omega, fun b hb => ?_⟩, ⟨⟨rfl, rfl, ⟨rfl, rfl⟩, rfl, rfl, rfl, rfl, rfl, rfl, rfl, trivial⟩, rfl, ⟨rfl, rfl, rfl, rfl, rfl, rfl, rfl, rfl, rfl, rfl, trivial⟩, trivial⟩, by simp only []; omega⟩
        simp only [] at hb
        rw [show ((j : Int) + 1).toNat = j + 1 by omega, take_step he, List.mem_append] at hb
        rcases hb with hb | hb
        · exact g9 b hb
        · simp at hb; subst hb; exact hc
      repeat' (first | (refine br_not (fun _ => ?_) (fun _ => ?_)) | (refine br_dec (fun _ => ?_) (fun _ => ?_)) | (refine br_bool (fun _ => ?_) (fun _ => ?_)))
      all_goals
        simp only [beq_iff_eq, beq_eq_false_iff_ne, ne_eq] at *
        first
          | (refine found ?_; simp only [mv]; grind)
          | (refine next ?_; simp only [mv]; grind)
    · simp only [] at hj
      intro n hnn
      simp only [] at hnn
      rw [w64 (by omega)] at hnn
      subst hnn
      refine ⟨(was, now, low, out', (i : Int) + 1), ⟨rfl, rfl, rfl, by simp only []; omega, by simp only []; omega, ?_⟩, ⟨⟨rfl, rfl, ⟨rfl, rfl⟩, rfl, rfl, rfl, trivial⟩, rfl, trivial⟩, by simp only []; omega⟩
      simp only []
      have hp : ¬ p a' = true := by
        simp only [p, List.any_eq_true]
        rintro ⟨b, hb, hc⟩
        rw [show j = now.length by omega, List.take_length] at g9
        rw [g9 b hb] at hc; cases hc
      rw [show ((i : Int) + 1).toNat = i + 1 by omega, filter_snoc p ha, if_neg hp, List.append_nil, h6]
  · simp only [] at hi
    rw [show i = was'.length by omega, List.take_length] at h6
    have hraw : out = movedRaw was' now' low' := h6
    have hsl := sortI_len out
    have hcl := compact_len (sortI out)
    refine ⟨rfl, by simp only []; omega, hsl.symm, by simp only []; omega, by omega, ?_⟩
    simp only [List.drop_zero, List.take_length]
    rw [hraw]
    exact h

theorem vRight {got : List Int} {was now : List Job} {low : Bool} {k : Unit → Bool × Unit → Prop} (h : oRight (got, was, now, low, ()) k) : V.vRight got was now low k := by
  obtain ⟨⟨⟨hr1, hr2⟩, hg, hw, hn⟩, h⟩ := h
  simp only [] at hr1 hr2 hg hw hn h
  refine ⟨fun x => x.1 = got ∧ x.2.1 = was ∧ x.2.2.1 = now ∧ x.2.2.2.1 = low ∧ 0 ≤ x.2.2.2.2, fun x => (got.length - x.2.2.2.2).toNat, (got, was, now, low, 0), ⟨rfl, rfl, rfl, rfl, Int.le_refl _⟩, ⟨⟨rfl, rfl, rfl, rfl, rfl, trivial⟩, trivial⟩, ?_⟩
  rintro ⟨got', was', now', low', i⟩ ⟨h1, h2, h3, h4, h5⟩
  simp only [] at h1 h2 h3 h4 h5
  subst h1 h2 h3 h4
  obtain ⟨i, rfl⟩ := Int.eq_ofNat_of_zero_le h5
  refine br_dec (fun hi => ⟨⟨by simp only []; omega, hi⟩, fun e he => ?_⟩) (fun hi => ?_)
  · simp only [Int.toNat_natCast] at hi he
    obtain ⟨hm, hlt⟩ := hr1 i e he
    have next : ∀ n : Int, n = IntKind.i64.wrap ((i : Int) + 1) → ∃ y : List Int × List Job × List Job × Bool × Int, (y.1 = got' ∧ y.2.1 = was' ∧ y.2.2.1 = now' ∧ y.2.2.2.1 = low' ∧ 0 ≤ y.2.2.2.2) ∧
        ((got' = y.1 ∧ was' = y.2.1 ∧ now' = y.2.2.1 ∧ low' = y.2.2.2.1 ∧ n = y.2.2.2.2 ∧ True) ∧ True) ∧ (got'.length - y.2.2.2.2).toNat < (got'.length - (i : Int)).toNat := by
      intro n hnn
      rw [w64 (by omega)] at hnn
      subst hnn
      exact ⟨(got', was', now', low', (i : Int) + 1), ⟨rfl, rfl, rfl, rfl, by simp only []; omega⟩, ⟨⟨rfl, rfl, rfl, rfl, rfl, trivial⟩, trivial⟩, by simp only []; omega⟩
    refine ⟨⟨⟨by simp only []; omega, by simp only []; omega⟩, br_not (fun hf => ?_) (fun _ => br_dec (fun hpos => ?_) (fun _ => next))⟩, trivial⟩
    · simp only [] at hf
      rw [hm] at hf; cases hf
    · intro n hnn
      simp only [] at hpos hnn
      rw [w64 (by omega)] at hnn
      subst hnn
      refine ⟨⟨by omega, by simp only []; omega⟩, fun y hy => ⟨⟨by simp only []; omega, hi⟩, fun e2 he2 => ?_⟩⟩
      simp only [Int.toNat_natCast] at hy he2
      rw [he] at he2; cases he2
      rw [show ((i : Int) - 1).toNat = i - 1 by omega] at hy
      have := hlt y (by omega) hy
      exact br_dec (fun hge => by omega) (fun _ => next)
  · refine ⟨fun x => x.1 = got' ∧ x.2.1 = was' ∧ x.2.2.1 = now' ∧ x.2.2.2.1 = low' ∧ 0 ≤ x.2.2.2.2, fun x => (was'.length - x.2.2.2.2).toNat, (got', was', now', low', 0), ⟨rfl, rfl, rfl, rfl, Int.le_refl _⟩, ⟨⟨rfl, rfl, rfl, rfl, rfl, trivial⟩, trivial⟩, ?_⟩
    clear hi h5
    rintro ⟨got, was, now, low, i⟩ ⟨h1, h2, h3, h4, h5⟩
    simp only [] at h1 h2 h3 h4 h5
    subst h1 h2 h3 h4
    obtain ⟨i, rfl⟩ := Int.eq_ofNat_of_zero_le h5
    refine br_dec (fun hi => ?_) (fun hi => h)
    simp only [] at hi
    have hil : i < was.length := by omega
    have hai : was[i]? = some was[i] := List.getElem?_eq_getElem hil
    refine ⟨fun x => x.1 = got ∧ x.2.1 = was ∧ x.2.2.1 = now ∧ x.2.2.2.1 = low ∧ x.2.2.2.2.1 = i ∧ 0 ≤ x.2.2.2.2.2.2 ∧ x.2.2.2.2.2.2 ≤ got.length ∧ x.2.2.2.2.2.1 = (got.take x.2.2.2.2.2.2.toNat).any fun z => decide (z = was[i].Id), fun x => (got.length - x.2.2.2.2.2.2).toNat,
      (got, was, now, low, (i : Int), false, 0), ⟨rfl, rfl, rfl, rfl, rfl, Int.le_refl _, by simp, by simp⟩, ⟨⟨rfl, rfl, rfl, rfl, rfl, rfl, rfl, trivial⟩, trivial⟩, ?_⟩
    rintro ⟨g, ws, ns, lw, i', b, j⟩ ⟨g1, g2, g3, g4, g5, g6, g7, g8⟩
    simp only [] at g1 g2 g3 g4 g5 g6 g7 g8
    subst g1 g2 g3 g4 g5
    obtain ⟨j, rfl⟩ := Int.eq_ofNat_of_zero_le g6
    simp only [Int.toNat_natCast] at g8
    have next : ∀ b' : Bool, j < g.length → (b' = (g.take (j + 1)).any fun z => decide (z = ws[i].Id)) → ∀ n : Int, n = IntKind.i64.wrap ((j : Int) + 1) → ∃ y : List Int × List Job × List Job × Bool × Int × Bool × Int,
        (y.1 = g ∧ y.2.1 = ws ∧ y.2.2.1 = ns ∧ y.2.2.2.1 = lw ∧ y.2.2.2.2.1 = (i : Int) ∧ 0 ≤ y.2.2.2.2.2.2 ∧ y.2.2.2.2.2.2 ≤ g.length ∧ y.2.2.2.2.2.1 = (g.take y.2.2.2.2.2.2.toNat).any fun z => decide (z = ws[i].Id)) ∧
        ((g = y.1 ∧ ws = y.2.1 ∧ ns = y.2.2.1 ∧ lw = y.2.2.2.1 ∧ (i : Int) = y.2.2.2.2.1 ∧ b' = y.2.2.2.2.2.1 ∧ n = y.2.2.2.2.2.2 ∧ True) ∧ True) ∧ (g.length - y.2.2.2.2.2.2).toNat < (g.length - (j : Int)).toNat := by
      intro b' hj hb' n hnn
      rw [w64 (by omega)] at hnn
      subst hnn
      refine ⟨(g, ws, ns, lw, (i : Int), b', (j : Int) + 1), ⟨rfl, rfl, rfl, rfl, rfl, by simp only []; omega, by simp only []; omega, ?_⟩, ⟨⟨rfl, rfl, rfl, rfl, rfl, rfl, rfl, trivial⟩, trivial⟩, by simp only []; omega⟩
      simp only []
      rw [show ((j : Int) + 1).toNat = j + 1 by omega]; exact hb'
    refine br_dec (fun hj => br_bool (fun hb => ?_) (fun hb => ⟨⟨by simp only []; omega, hj⟩, fun e he => ⟨⟨by simp only []; omega, by simp only []; omega⟩, fun e1 he1 => ?_⟩⟩)) (fun hj => ⟨⟨by simp only []; omega, by simp only []; omega⟩, fun e he => ⟨⟨by simp only []; omega, by simp only []; omega⟩, ?_⟩⟩)
    · simp only [] at hj hb
      have hjl : j < g.length := by omega
      refine next true hjl ?_
      rw [take_step (List.getElem?_eq_getElem hjl), List.any_append, ← g8, hb]; rfl
    · simp only [Int.toNat_natCast] at hj hb he he1
      rw [hai] at he1; cases he1
      refine next _ (by omega) ?_
      rw [take_step he, List.any_append, ← g8, hb]
      simp only [List.any_cons, List.any_nil, Bool.or_false, Bool.false_or]
      rw [Bool.eq_iff_iff]; simp
    · simp only [Int.toNat_natCast] at hj he
      rw [hai] at he; cases he
      have hj2 : j = g.length := by omega
      rw [hj2, List.take_length] at g8
      have hmb := hr2 ws[i] (List.getElem_mem _)
      refine br_not (fun hne => ?_) (fun _ => ?_)
      · simp only [] at hne
        rw [hmb, g8] at hne
        simp at hne
      · intro n hnn
        simp only [] at hnn
        rw [w64 (by omega)] at hnn
        subst hnn
        exact ⟨(g, ws, ns, lw, (i : Int) + 1), ⟨rfl, rfl, rfl, rfl, by simp only []; omega⟩, ⟨⟨rfl, rfl, rfl, rfl, rfl, trivial⟩, trivial⟩, by simp only []; omega⟩

theorem vRaised {was now : List Job} {k : Unit → List Int × Unit → Prop} (h : oRaised false (was, now, ()) k) : V.vRaised was now k := by
  obtain ⟨hp, h⟩ := h
  unfold V.vRaised
  simpa using ⟨hp, h⟩
theorem vLowered {was now : List Job} {k : Unit → List Int × Unit → Prop} (h : oRaised true (was, now, ()) k) : V.vLowered was now k := by
  obtain ⟨hp, h⟩ := h
  unfold V.vLowered
  simpa using ⟨hp, h⟩

theorem vPlans {was now : List Job} {k : Unit → Bool × Unit → Prop} (h : oPlans (was, now, ()) k) : V.vPlans was now k := by
  have h : k () (true, ()) := h
  unfold V.vPlans
  have l1 := few_len was
  have l2 := few_len now
  have r1 := right_moved (few was) (few now) true
  have r2 := right_moved (few was) (few now) false
  have m1 := moved_len (few was) (few now) true
  have m2 := moved_len (few was) (few now) false
  simp only [List.drop_zero, List.take_length, Nat.zero_add, Nat.le_refl, true_and]
  refine ⟨⟨by omega, by omega⟩, ⟨r1, by omega, by omega, by omega⟩, ?_⟩
  repeat' (first | exact h | omega | exact r2 | constructor)
end Go.Ax.O
