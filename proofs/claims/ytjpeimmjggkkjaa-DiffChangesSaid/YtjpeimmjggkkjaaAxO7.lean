/-
  What is to be shown of the law on changes between jobs is shown.
-/
import Derived.Test.YtjpeimmjggkkjaaAxO6
import Derived.Test.YtjpeimmjggkkjaaAxS2
set_option linter.all false
namespace Go.Ax.O
open Go.Ax.Sp Go.Ax.Law

theorem diffsTo_sub {was now : List Job} {n : Nat} {c : Change} (h : c ∈ diffsTo was now n) : ∀ d, c ∈ diffsTo was now (n + d)
  | 0 => h
  | d + 1 => by
    have := diffsTo_sub h d
    rw [← Nat.add_assoc]
    simp only [diffsTo, List.mem_append]
    exact .inl this

theorem vChanges {was now : List Job} {k : Unit → Bool × Unit → Prop} (h : oChanges (was, now, ()) k) : V.vChanges was now k := by
  have h : k () (true, ()) := h
  have l1 := few_len was
  have l2 := few_len now
  have s1 := few_small was
  have s2 := few_small now
  unfold V.vChanges
  generalize few was = fw at l1 s1 ⊢
  generalize few now = fn at l2 s2 ⊢
  have tk : ∀ {α : Type} (l : List α), List.take l.length (List.drop 0 l) = l := fun l => by simp
  rw [tk fw, tk fn]
  refine ⟨by omega, by omega, ⟨s1, s2, by omega, by omega⟩, fun ys hys => ?_⟩
  have hlen : ys.length = (diffs fw fn).length := hys.1.length_eq
  have hdl := diffsTo_len fw fn fn.length
  have hyl : ys.length ≤ 30 := by rw [hlen]; unfold diffs; omega
  refine ⟨fun x => (x.1 = fw ∧ x.2.1 = fn ∧ x.2.2.1 = ys ∧ 0 ≤ x.2.2.2.2.2.2 ∧ x.2.2.2.2.2.2 ≤ fn.length ∧ x.2.2.2.1 = (diffsTo fw fn x.2.2.2.2.2.2.toNat).length ∧ x.2.2.2.2.1 = (!(diffsTo fw fn x.2.2.2.2.2.2.toNat).any bad) ∧ x.2.2.2.2.2.1 = count (diffsTo fw fn x.2.2.2.2.2.2.toNat)), fun x => (fn.length - x.2.2.2.2.2.2).toNat, (fw, fn, ys, 0, true, count [], 0), ⟨rfl, rfl, rfl, Int.le_refl _, by simp, rfl, rfl, rfl⟩, ⟨⟨⟨rfl, rfl⟩, ⟨rfl, rfl⟩, ⟨rfl, rfl⟩, rfl, rfl, rfl, rfl, trivial⟩, rfl, rfl, rfl, ⟨rfl, rfl, rfl, rfl, rfl, rfl, rfl, trivial⟩, trivial⟩, ?_⟩
  rintro ⟨fw', fn', ys', n, snd, r, i⟩ ⟨h1, h2, h3, h4, h5, h6, h7, h8⟩
  simp only [] at h1 h2 h3 h4 h5 h6 h7 h8
  subst h1 h2 h3
  obtain ⟨i, rfl⟩ := Int.eq_ofNat_of_zero_le h4
  simp only [Int.toNat_natCast] at h6 h7 h8
  dsimp only
  rw [tk fw', tk fn', tk ys', Int.toNat_natCast]
  refine br_dec (fun hi => ⟨by omega, by omega, ⟨by omega, by omega, by omega, by omega⟩, ?_⟩) (fun hi => ?_)
  · have next : ∀ (n' : Int) (b' : Bool) (a0 a1 a2 a3 a4 a5 a6 : Int), n' = (diffsTo fw' fn' (i + 1)).length → b' = (!(diffsTo fw' fn' (i + 1)).any bad) → (⟨a0, a1, a2, a3, a4, a5, a6⟩ : Arr7) = count (diffsTo fw' fn' (i + 1)) → ∀ n1, n1 = IntKind.i64.wrap ((i : Int) + 1) →
        ∃ y : List Job × List Job × List Change × Int × Bool × Arr7 × Int, (y.1 = fw' ∧ y.2.1 = fn' ∧ y.2.2.1 = ys' ∧ 0 ≤ y.2.2.2.2.2.2 ∧ y.2.2.2.2.2.2 ≤ fn'.length ∧ y.2.2.2.1 = (diffsTo fw' fn' y.2.2.2.2.2.2.toNat).length ∧ y.2.2.2.2.1 = (!(diffsTo fw' fn' y.2.2.2.2.2.2.toNat).any bad) ∧ y.2.2.2.2.2.1 = count (diffsTo fw' fn' y.2.2.2.2.2.2.toNat)) ∧ (((0 = 0 ∧ fw'.length = y.1.length) ∧ (0 = 0 ∧ fn'.length = y.2.1.length) ∧ (0 = 0 ∧ ys'.length = y.2.2.1.length) ∧ n' = y.2.2.2.1 ∧ b' = y.2.2.2.2.1 ∧ 0 = 0 ∧ n1 = y.2.2.2.2.2.2 ∧ True) ∧ fw' = y.1 ∧ fn' = y.2.1 ∧ ys' = y.2.2.1 ∧ (a0 = y.2.2.2.2.2.1.a0 ∧ a1 = y.2.2.2.2.2.1.a1 ∧ a2 = y.2.2.2.2.2.1.a2 ∧ a3 = y.2.2.2.2.2.1.a3 ∧ a4 = y.2.2.2.2.2.1.a4 ∧ a5 = y.2.2.2.2.2.1.a5 ∧ a6 = y.2.2.2.2.2.1.a6 ∧ True) ∧ True) ∧ (fn'.length - y.2.2.2.2.2.2).toNat < (fn'.length - (i : Int)).toNat := by
      intro n' b' a0 a1 a2 a3 a4 a5 a6 hn hb hr n1 hn1
      rw [w64 (by omega)] at hn1
      subst hn1
      have hi1 : ((i : Int) + 1).toNat = i + 1 := by omega
      refine ⟨(fw', fn', ys', n', b', ⟨a0, a1, a2, a3, a4, a5, a6⟩, (i : Int) + 1), ⟨rfl, rfl, rfl, by simp only []; omega, by simp only []; omega, by simp only []; rw [hi1]; exact hn, by simp only []; rw [hi1]; exact hb, by simp only []; rw [hi1]; exact hr⟩, ⟨⟨⟨rfl, rfl⟩, ⟨rfl, rfl⟩, ⟨rfl, rfl⟩, rfl, rfl, rfl, rfl, trivial⟩, rfl, rfl, rfl, ⟨rfl, rfl, rfl, rfl, rfl, rfl, rfl, trivial⟩, trivial⟩, by simp only []; omega⟩
    obtain ⟨j0, hj0⟩ : ∃ j, fn'[i]? = some j := ⟨_, List.getElem?_eq_getElem (by omega)⟩
    obtain ⟨st1, st2⟩ := ofC_step (was := fw') hj0
    refine br_not (fun hn => ?_) (fun hn => ?_)
    · rw [hn] at st1
      simp only [Bool.false_eq_true, if_false, List.append_nil] at st1
      exact next _ _ _ _ _ _ _ _ _ (by rw [st1]; exact h6) (by rw [st1]; exact h7) (by rw [st1]; exact h8)
    · rw [hn] at st1
      simp only [if_true] at st1
      have hcin : (ofC fw' fn' i).1 ∈ diffs fw' fn' := by
        have := diffsTo_sub (was := fw') (now := fn') (n := i + 1) (c := (ofC fw' fn' i).1) (by rw [st1]; simp) (fn'.length - (i + 1))
        rw [show i + 1 + (fn'.length - (i + 1)) = fn'.length by omega] at this
        exact this
      have hat := sorted_at hys hcin
      generalize (ofC fw' fn' i).1 = c at st1 st2 hcin hat ⊢
      refine ⟨fun x => (x.1 = fw' ∧ x.2.1 = fn' ∧ x.2.2.1 = ys' ∧ x.2.2.2.1 = n ∧ x.2.2.2.2.1 = snd ∧ x.2.2.2.2.2.1 = r ∧ x.2.2.2.2.2.2.1 = (i : Int) ∧ x.2.2.2.2.2.2.2.1 = c ∧ 0 ≤ x.2.2.2.2.2.2.2.2.2 ∧ x.2.2.2.2.2.2.2.2.2 ≤ fn'.length ∧ x.2.2.2.2.2.2.2.2.1 = ((diffsTo fw' fn' x.2.2.2.2.2.2.2.2.2.toNat).countP fun z => decide (z.Id < c.Id) : Nat)), fun x => (fn'.length - x.2.2.2.2.2.2.2.2.2).toNat, (fw', fn', ys', n, snd, r, (i : Int), c, 0, 0), ⟨rfl, rfl, rfl, rfl, rfl, rfl, rfl, rfl, Int.le_refl _, by simp, rfl⟩, ⟨⟨⟨rfl, rfl⟩, ⟨rfl, rfl⟩, ⟨rfl, rfl⟩, rfl, rfl, rfl, rfl, rfl, rfl, rfl, trivial⟩, rfl, rfl, rfl, ⟨rfl, rfl, rfl, rfl, rfl, rfl, rfl, trivial⟩, ⟨rfl, rfl, rfl, rfl, trivial⟩, trivial⟩, ?_⟩
      rintro ⟨fw, fn, ys, n', snd', r', i', c', at', j⟩ ⟨g1, g2, g3, g4, g5, g6, g7, g8, g9, g10, g11⟩
      simp only [] at g1 g2 g3 g4 g5 g6 g7 g8 g9 g10 g11
      subst g1 g2 g3 g4 g5 g6 g7 g8
      obtain ⟨j, rfl⟩ := Int.eq_ofNat_of_zero_le g9
      simp only [Int.toNat_natCast] at g11
      dsimp only
      rw [tk fw, tk fn, Int.toNat_natCast]
      have next2 : ∀ at2 : Int, at2 = ((diffsTo fw fn (j + 1)).countP fun z => decide (z.Id < c'.Id) : Nat) → (j : Int) < fn.length → ∀ n2, n2 = IntKind.i64.wrap ((j : Int) + 1) →
          ∃ y : List Job × List Job × List Change × Int × Bool × Arr7 × Int × Change × Int × Int, (y.1 = fw ∧ y.2.1 = fn ∧ y.2.2.1 = ys ∧ y.2.2.2.1 = n' ∧ y.2.2.2.2.1 = snd' ∧ y.2.2.2.2.2.1 = r' ∧ y.2.2.2.2.2.2.1 = (i : Int) ∧ y.2.2.2.2.2.2.2.1 = c' ∧ 0 ≤ y.2.2.2.2.2.2.2.2.2 ∧ y.2.2.2.2.2.2.2.2.2 ≤ fn.length ∧ y.2.2.2.2.2.2.2.2.1 = ((diffsTo fw fn y.2.2.2.2.2.2.2.2.2.toNat).countP fun z => decide (z.Id < c'.Id) : Nat)) ∧ (((0 = 0 ∧ fw.length = y.1.length) ∧ (0 = 0 ∧ fn.length = y.2.1.length) ∧ (0 = 0 ∧ ys.length = y.2.2.1.length) ∧ n' = y.2.2.2.1 ∧ snd' = y.2.2.2.2.1 ∧ 0 = 0 ∧ (i : Int) = y.2.2.2.2.2.2.1 ∧ 0 = 0 ∧ at2 = y.2.2.2.2.2.2.2.2.1 ∧ n2 = y.2.2.2.2.2.2.2.2.2 ∧ True) ∧ fw = y.1 ∧ fn = y.2.1 ∧ ys = y.2.2.1 ∧ (r'.a0 = y.2.2.2.2.2.1.a0 ∧ r'.a1 = y.2.2.2.2.2.1.a1 ∧ r'.a2 = y.2.2.2.2.2.1.a2 ∧ r'.a3 = y.2.2.2.2.2.1.a3 ∧ r'.a4 = y.2.2.2.2.2.1.a4 ∧ r'.a5 = y.2.2.2.2.2.1.a5 ∧ r'.a6 = y.2.2.2.2.2.1.a6 ∧ True) ∧ (c'.Id = y.2.2.2.2.2.2.2.1.Id ∧ c'.From = y.2.2.2.2.2.2.2.1.From ∧ c'.To = y.2.2.2.2.2.2.2.1.To ∧ c'.Plan = y.2.2.2.2.2.2.2.1.Plan ∧ True) ∧ True) ∧ (fn.length - y.2.2.2.2.2.2.2.2.2).toNat < (fn.length - (j : Int)).toNat := by
        intro at2 h1 hjl n2 hn2
        rw [w64 (by omega)] at hn2
        subst hn2
        have hj1 : ((j : Int) + 1).toNat = j + 1 := by omega
        refine ⟨(fw, fn, ys, n', snd', r', (i : Int), c', at2, (j : Int) + 1), ⟨rfl, rfl, rfl, rfl, rfl, rfl, rfl, rfl, by simp only []; omega, by simp only []; omega, by simp only []; rw [hj1]; exact h1⟩, ⟨⟨⟨rfl, rfl⟩, ⟨rfl, rfl⟩, ⟨rfl, rfl⟩, rfl, rfl, rfl, rfl, rfl, rfl, rfl, trivial⟩, rfl, rfl, rfl, ⟨rfl, rfl, rfl, rfl, rfl, rfl, rfl, trivial⟩, ⟨rfl, rfl, rfl, rfl, trivial⟩, trivial⟩, by simp only []; omega⟩
      have hcl : ∀ q, (diffsTo fw fn q).countP (fun z => decide (z.Id < c'.Id)) ≤ q := fun q => Nat.le_trans List.countP_le_length (diffsTo_len fw fn q)
      refine br_dec (fun hjl => ⟨by omega, by omega, ⟨by omega, by omega, by omega, by omega⟩, ?_⟩) (fun hjl => ?_)
      · obtain ⟨j1, hj1⟩ : ∃ q, fn[j]? = some q := ⟨_, List.getElem?_eq_getElem (by omega)⟩
        obtain ⟨t1, t2⟩ := ofC_step (was := fw) hj1
        have hcj := hcl j
        refine br_bool (fun ht => ⟨⟨by omega, by omega⟩, by omega, fun e he => ?_⟩) (fun hf => ?_)
        · rw [ht] at t1
          simp only [if_true] at t1
          have t2 := t2 ht
          rw [Nat.zero_add, hj1] at he
          cases he
          rw [← t2]
          refine br_dec (fun hlt n2 hn2 => ?_) (fun hlt => ?_)
          · rw [w64 (by omega)] at hn2
            refine next2 _ ?_ hjl
            rw [t1, hn2, g11, List.countP_append]
            simp [hlt]
          · refine next2 _ ?_ hjl
            rw [t1, g11, List.countP_append]
            simp [hlt]
        · rw [hf] at t1
          simp only [Bool.false_eq_true, if_false, List.append_nil] at t1
          refine next2 _ ?_ hjl
          rw [t1]
          exact g11
      · have hjj : j = fn.length := by omega
        subst hjj
        have g11 : at' = ((diffs fw fn).countP fun z => decide (z.Id < c'.Id) : Nat) := g11
        subst g11
        rw [Int.toNat_natCast, Nat.zero_add]
        have hal := (List.getElem?_eq_some_iff.1 hat).1
        refine br_dec (fun hge => absurd hge (by omega)) (fun _ => ⟨⟨by omega, by omega⟩, hal, fun e he => ?_⟩)
        rw [hat] at he
        cases he
        refine br_not (fun hx => by simp at hx) (fun _ n2 hn2 => ?_)
        have hdi := diffsTo_len fw fn i
        rw [w64 (by omega)] at hn2
        have hn3 : n2 = ((diffsTo fw fn (i + 1)).length : Int) := by rw [hn2, h6, st1]; simp
        have hb1 : snd' = true → may c'.From c'.To = !(diffsTo fw fn (i + 1)).any bad := by
          intro hs
          rw [hs] at h7
          rw [st1, List.any_append, Bool.not_or, ← h7]
          simp [bad]
        have hb2 : snd' = false → false = !(diffsTo fw fn (i + 1)).any bad := by
          intro hs
          rw [hs] at h7
          rw [st1, List.any_append, Bool.not_or, ← h7]
          simp
        subst h8
        have hno : (0 ≤ c'.To → c'.To ≤ 6 → c'.To = c'.From) → count (diffsTo fw fn i) = count (diffsTo fw fn (i + 1)) := fun hh => by rw [st1, count_no hh]
        have hcb : ∀ m, 0 ≤ cnt (diffsTo fw fn i) m ∧ cnt (diffsTo fw fn i) m ≤ 1099511627776 := by
          intro m
          have := cnt_le (diffsTo fw fn i) m
          omega
        refine br_bool (fun hs => ?_) (fun hs => ?_)
        all_goals (
          have hbb : (if snd' = true then may c'.From c'.To else false) = !(diffsTo fw fn (i + 1)).any bad := by
            rw [hs]
            first | exact hb1 hs | exact hb2 hs
          rw [hs] at hbb
          simp only [if_true, Bool.false_eq_true, if_false] at hbb
          refine br_dec (fun h0 => br_dec (fun h6 => br_not (fun hne => ?_) (fun hne => ?_)) (fun h6 => ?_)) (fun h0 => ?_)
          · have hne : c'.To ≠ c'.From := by simpa using hne
            have hbump : ∀ r', r' = bump (count (diffsTo fw fn i)) c'.To → r' = count (diffsTo fw fn (i + 1)) := by
              intro r' hr
              rw [hr, st1, count_hit hne]
            have h7 : c'.To < 7 := by omega
            refine ⟨⟨h0, h7⟩, ?_, ?_, ?_, ?_, ?_, ?_, ?_, trivial⟩ <;> intro ht n hn <;> refine ⟨⟨h0, h7⟩, ?_, ?_, ?_, ?_, ?_, ?_, ?_, trivial⟩ <;> intro ht2 <;> first
              | (exfalso; rw [ht] at ht2; simp at ht2; done)
              | (simp only [count] at hn; rw [w64 (by have := hcb c'.To; rw [ht] at this; omega)] at hn
                 refine ⟨next _ _ _ _ _ _ _ _ _ hn3 hbb (hbump _ ?_), trivial⟩
                 simp [bump, ht, hn, count])
          · first | exact next _ _ _ _ _ _ _ _ _ hn3 hbb (hno fun _ _ => by simpa using hne) | exact ⟨next _ _ _ _ _ _ _ _ _ hn3 hbb (hno fun _ _ => by simpa using hne), trivial⟩
          · first | exact next _ _ _ _ _ _ _ _ _ hn3 hbb (hno fun _ hh => absurd hh h6) | exact ⟨next _ _ _ _ _ _ _ _ _ hn3 hbb (hno fun _ hh => absurd hh h6), trivial⟩
          · exact next _ _ _ _ _ _ _ _ _ hn3 hbb (hno fun hh _ => absurd hh h0))
  · have hii : i = fn'.length := by omega
    subst hii
    have h6 : n = ((diffs fw' fn').length : Int) := h6
    have h7 : snd = !(diffs fw' fn').any bad := h7
    have h8 : r = count (diffs fw' fn') := h8
    rw [← hlen] at h6
    rw [← any_perm hys.1] at h7
    rw [← count_perm hys.1] at h8
    subst h6 h7 h8
    refine br_bool (fun _ => ⟨⟨by omega, by omega, br_bool (fun _ => ⟨⟨by omega, by omega, br_bool (fun _ => h) (fun hx => ?_), trivial⟩, trivial⟩) (fun hx => ?_)⟩, trivial⟩) (fun hx => ?_)
    · simp [count] at hx
    · rw [findBad_iff] at hx
      simp at hx
    · simp at hx
end Go.Ax.O
