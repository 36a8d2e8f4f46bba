/-
  What is to be shown of the functions is shown: changes between jobs.
-/
import Derived.Test.YtjpeimmjggkkjaaAxO1
set_option linter.all false
namespace Go.Ax.Law
theorem mget_mput {α : Type} : ∀ (m : List (Int × α)) (i : Int) (x : α) (j : Int), mget (mput m i x) j = if i = j then some x else mget m j
  | [], i, x, j => by simp [mput, mget]
  | p :: m, i, x, j => by
    simp only [mput]
    by_cases h : p.1 = i
    · rw [if_pos h]
      simp only [mget]
      by_cases hj : i = j
      · simp [hj]
      · rw [if_neg hj, if_neg hj, if_neg (by omega)]
    · rw [if_neg h]
      simp only [mget]
      by_cases hj : i = j
      · rw [if_pos hj, if_neg (by omega), mget_mput m i x j, if_pos hj]
      · rw [if_neg hj, mget_mput m i x j, if_neg hj]

theorem chg_len (was : List Job) (j : Job) : (chg was j).toList.length ≤ 1 := by
  cases chg was j <;> simp
theorem chg_id {was : List Job} {j : Job} {c : Change} (h : c ∈ (chg was j).toList) : c.Id = j.Id := by
  simp only [Option.mem_toList] at h
  unfold chg at h
  split at h
  · cases h; rfl
  · split at h
    · cases h; rfl
    · cases h

theorem diffsTo_len (was now : List Job) : ∀ n, (diffsTo was now n).length ≤ n
  | 0 => by simp [diffsTo]
  | n + 1 => by
    have ih := diffsTo_len was now n
    simp only [diffsTo, List.length_append]
    refine Nat.add_le_add ih ?_
    split
    · split
      · simp
      · exact chg_len _ _
    · simp

theorem diffsTo_id {was now : List Job} : ∀ {n : Nat} {c : Change}, c ∈ diffsTo was now n → ∃ j ∈ now, c.Id = j.Id
  | 0, c, h => by simp [diffsTo] at h
  | n + 1, c, h => by
    simp only [diffsTo, List.mem_append] at h
    rcases h with h | h
    · exact diffsTo_id h
    · split at h
      · rename_i j hj
        split at h
        · simp at h
        · exact ⟨j, List.mem_of_getElem? hj, chg_id h⟩
      · simp at h
end Go.Ax.Law
namespace Go.Ax.O
open Go.Ax.Sp Go.Ax.Law

theorem take_step {α : Type} {l : List α} {i : Nat} {e : α} (h : l[i]? = some e) : l.take (i + 1) = l.take i ++ [e] := by
  rw [List.take_add_one, h]; rfl

theorem vOf {was now : List Job} {k : Unit → List Change × Unit → Prop} (h : oOf (was, now, ()) k) : V.vOf was now k := by
  obtain ⟨⟨hsw, hsn, hlw, hln⟩, hk⟩ := h
  simp only [] at hsw hsn hlw hln hk
  refine ⟨fun x => x.1 = was ∧ x.2.1 = now ∧ 0 ≤ x.2.2.2 ∧ x.2.2.2 ≤ was.length ∧ ∀ q, mget x.2.2.1 q = (was.take x.2.2.2.toNat).find? fun y => decide (y.Id = q), fun x => (was.length - x.2.2.2).toNat, (was, now, [], 0), ⟨rfl, rfl, Int.le_refl _, by simp only []; omega, fun q => by simp [mget]⟩, ⟨⟨rfl, trivial, rfl, rfl, rfl, trivial⟩, rfl, trivial⟩, ?_⟩
  rintro ⟨was', now', m, i⟩ ⟨h1, h2, h3, h4, h5⟩
  simp only [] at h1 h2 h3 h4 h5
  subst h1 h2
  obtain ⟨i, rfl⟩ := Int.eq_ofNat_of_zero_le h3
  simp only [Int.toNat_natCast] at h5
  refine br_dec (fun hi => ⟨⟨by simp only []; omega, hi⟩, fun e he e1 b _ hb => ?_⟩) (fun hi => ?_)
  · simp only [Int.toNat_natCast] at he hi hb
    have hfe : ∀ q, ((was'.take (i + 1)).find? fun y => decide (y.Id = q)) = ((mget m q).or (if e.Id = q then some e else none)) := by
      intro q
      rw [take_step he, List.find?_append, h5 q]
      congr 1
      by_cases hq : e.Id = q <;> simp [hq]
    refine br_not (fun hn => ?_) (fun hn => ?_)
    · intro n hnn
      simp only [] at hnn
      rw [w64 (by omega)] at hnn
      subst hnn
      refine ⟨(was', now', mput m e.Id e, (i : Int) + 1), ⟨rfl, rfl, by simp only []; omega, by simp only []; omega, fun q => ?_⟩, ⟨⟨rfl, trivial, rfl, rfl, rfl, trivial⟩, rfl, trivial⟩, by simp only []; omega⟩
      simp only []
      rw [show ((i : Int) + 1).toNat = i + 1 by omega, hfe q, mget_mput]
      by_cases hq : e.Id = q
      · rw [if_pos hq, if_pos hq]
        rw [hn] at hb
        rw [← hq]
        cases hm : mget m e.Id with
        | none => rfl
        | some z => rw [hm] at hb; cases hb
      · rw [if_neg hq, if_neg hq]; simp
    · intro n hnn
      simp only [] at hnn
      rw [w64 (by omega)] at hnn
      subst hnn
      refine ⟨(was', now', m, (i : Int) + 1), ⟨rfl, rfl, by simp only []; omega, by simp only []; omega, fun q => ?_⟩, ⟨⟨rfl, trivial, rfl, rfl, rfl, trivial⟩, rfl, trivial⟩, by simp only []; omega⟩
      simp only []
      rw [show ((i : Int) + 1).toNat = i + 1 by omega, hfe q]
      by_cases hq : e.Id = q
      · rw [if_pos hq]
        rw [hn] at hb
        rw [← hq]
        cases hm : mget m e.Id with
        | none => rw [hm] at hb; cases hb
        | some z => rfl
      · rw [if_neg hq]; simp
  · simp only [] at hi
    have hii : i = was'.length := by omega
    subst hii
    rw [List.take_length] at h5
    refine ⟨fun x => x.1 = now' ∧ (∀ q, mget x.2.1 q = was'.find? fun y => decide (y.Id = q)) ∧ 0 ≤ x.2.2.2.2 ∧ x.2.2.2.2 ≤ now'.length ∧ (∀ q, mget x.2.2.1 q = if (now'.take x.2.2.2.2.toNat).any (fun y => decide (y.Id = q)) then some true else none) ∧ x.2.2.2.1 = diffsTo was' now' x.2.2.2.2.toNat,
      fun x => (now'.length - x.2.2.2.2).toNat, (now', m, [], [], 0), ⟨rfl, h5, Int.le_refl _, by simp only []; omega, fun q => by simp [mget], rfl⟩, ⟨⟨trivial, trivial, ⟨rfl, rfl⟩, rfl, rfl, rfl, trivial⟩, rfl, rfl, rfl, trivial⟩, ?_⟩
    rintro ⟨now, m, s, out, i⟩ ⟨g1, g2, g3, g4, g5, g6⟩
    simp only [] at g1 g2 g3 g4 g5 g6
    subst g1
    obtain ⟨i, rfl⟩ := Int.eq_ofNat_of_zero_le g3
    simp only [Int.toNat_natCast] at g5 g6
    refine br_dec (fun hi => ⟨⟨by simp only []; omega, hi⟩, fun e he e1 b he1 _ => ?_⟩) (fun hi => ?_)
    · simp only [Int.toNat_natCast] at he hi he1
      have hln2 : out.length ≤ 12 := by
        rw [g6]
        have := diffsTo_len was' now i
        omega
      have hany : e1 = (now.take i).any fun y => decide (y.Id = e.Id) := by
        rw [he1, g5]
        split <;> simp_all
      have hseen : ∀ (s' : List (Int × Bool)), (∀ q, mget s' q = if e.Id = q then some true else mget s q) → ∀ q, mget s' q = if (now.take ((i : Int) + 1).toNat).any (fun y => decide (y.Id = q)) then some true else none := by
        intro s' hs' q
        rw [show ((i : Int) + 1).toNat = i + 1 by omega, take_step he, List.any_append, hs' q, g5 q]
        by_cases hq : e.Id = q <;> simp [hq]
      have hstep : diffsTo was' now (i + 1) = diffsTo was' now i ++ (if e1 then [] else (chg was' e).toList) := by
        simp only [diffsTo, he, hany]
      have next : ∀ (s' : List (Int × Bool)) (out' : List Change), (∀ q, mget s' q = if e.Id = q then some true else mget s q) → out' = diffsTo was' now (i + 1) → ∀ n, n = IntKind.i64.wrap ((i : Int) + 1) →
          ∃ y : List Job × List (Int × Job) × List (Int × Bool) × List Change × Int, (y.1 = now ∧ (∀ q, mget y.2.1 q = was'.find? fun z => decide (z.Id = q)) ∧ 0 ≤ y.2.2.2.2 ∧ y.2.2.2.2 ≤ now.length ∧ (∀ q, mget y.2.2.1 q = if (now.take y.2.2.2.2.toNat).any (fun z => decide (z.Id = q)) then some true else none) ∧ y.2.2.2.1 = diffsTo was' now y.2.2.2.2.toNat) ∧
            ((True ∧ True ∧ (0 = 0 ∧ out'.length = y.2.2.2.1.length) ∧ now = y.1 ∧ (now.length : Int) = (y.1.length : Int) ∧ n = y.2.2.2.2 ∧ True) ∧ m = y.2.1 ∧ s' = y.2.2.1 ∧ out' = y.2.2.2.1 ∧ True) ∧ (now.length - y.2.2.2.2).toNat < (now.length - (i : Int)).toNat := by
        intro s' out' hs' ho n hn
        rw [w64 (by omega)] at hn
        subst hn
        refine ⟨(now, m, s', out', (i : Int) + 1), ⟨rfl, g2, by simp only []; omega, by simp only []; omega, hseen s' hs', ?_⟩, ⟨⟨trivial, trivial, ⟨rfl, rfl⟩, rfl, rfl, rfl, trivial⟩, rfl, rfl, rfl, trivial⟩, by simp only []; omega⟩
        simp only []
        rw [ho, show ((i : Int) + 1).toNat = i + 1 by omega]
      refine br_bool (fun ht => ?_) (fun hf => ?_)
      · refine next s out (fun q => ?_) (by rw [hstep, if_pos ht]; simpa using g6)
        by_cases hq : e.Id = q
        · have g := g5 e.Id
          rw [if_pos (hany.symm.trans ht)] at g
          rw [if_pos hq, ← hq]; exact g
        · rw [if_neg hq]
      · intro e2 b2 he2 hb2
        simp only [g2] at he2 hb2
        rw [hf] at hstep
        simp only [Bool.false_eq_true, if_false] at hstep
        have app : ∀ c : Change, chg was' e = some c → (1 ≤ 1 ∧ 0 + out.length ≤ out.length ∧ out.length + 1 ≤ 68719476736 ∧ ∀ n, n = IntKind.i64.wrap ((i : Int) + 1) →
          ∃ y : List Job × List (Int × Job) × List (Int × Bool) × List Change × Int, (y.1 = now ∧ (∀ q, mget y.2.1 q = was'.find? fun z => decide (z.Id = q)) ∧ 0 ≤ y.2.2.2.2 ∧ y.2.2.2.2 ≤ now.length ∧ (∀ q, mget y.2.2.1 q = if (now.take y.2.2.2.2.toNat).any (fun z => decide (z.Id = q)) then some true else none) ∧ y.2.2.2.1 = diffsTo was' now y.2.2.2.2.toNat) ∧
            ((True ∧ True ∧ (0 = 0 ∧ out.length + 1 = y.2.2.2.1.length) ∧ now = y.1 ∧ (now.length : Int) = (y.1.length : Int) ∧ n = y.2.2.2.2 ∧ True) ∧ m = y.2.1 ∧ mput s e.Id true = y.2.2.1 ∧ (out.drop 0).take out.length ++ [c] = y.2.2.2.1 ∧ True) ∧ (now.length - y.2.2.2.2).toNat < (now.length - (i : Int)).toNat) := by
          intro c hc
          refine ⟨Nat.le_refl _, by omega, by omega, fun n hn => ?_⟩
          have hout : (out.drop 0).take out.length ++ [c] = diffsTo was' now (i + 1) := by
            rw [hstep, hc, g6]; simp
          obtain ⟨y, y1, y2, y3⟩ := next (mput s e.Id true) _ (fun q => by rw [mget_mput]) hout n hn
          refine ⟨y, y1, ?_, y3⟩
          obtain ⟨⟨z1, z2, ⟨z3, z4⟩, z5⟩, z6⟩ := y2
          exact ⟨⟨z1, z2, ⟨z3, by rw [← z4]; simp⟩, z5⟩, z6⟩
        refine br_not (fun hb => ?_) (fun hb => ?_)
        · refine app _ ?_
          rw [hb] at hb2
          unfold chg
          cases hw : was'.find? fun x => decide (x.Id = e.Id) with
          | none => rfl
          | some z => rw [hw] at hb2; cases hb2
        · rw [hb] at hb2
          cases hw : was'.find? fun x => decide (x.Id = e.Id) with
          | none => rw [hw] at hb2; cases hb2
          | some z =>
            rw [hw] at he2
            simp only [Option.getD_some] at he2
            subst he2
            have hch : ∀ p, (!(e2.Plan == e.Plan)) = p → (e2.State ≠ e.State ∨ e2.Plan ≠ e.Plan) → chg was' e = some ⟨e.Id, e2.State, e.State, p⟩ := by
              intro p hp hor
              unfold chg
              rw [hw]
              simp only []
              rw [if_pos hor, ← hp]
              congr 2
              simp [Int.instDecidableEq]
              grind
            refine br_not (fun hs => ?_) (fun hs => br_not (fun hp => ?_) (fun hp => ?_))
            · exact app _ (hch _ rfl (.inl (by simpa using hs)))
            · exact app _ (hch _ rfl (.inr (by simpa using hp)))
            · refine next (mput s e.Id true) out (fun q => by rw [mget_mput]) ?_
              rw [hstep]
              unfold chg
              rw [hw]
              simp only [beq_iff_eq] at hs hp
              simp [hs, hp, g6]
    · simp only [] at hi
      have hii : i = now.length := by omega
      subst hii
      refine ⟨rfl, ⟨⟨fun c hc => ?_, Int.le_refl _, by omega, Int.le_refl _, ?_⟩, ?_⟩, fun ys hys => ⟨hys.1.symm, hk ys ?_⟩⟩
      · rw [g6] at hc
        obtain ⟨j, hj, he⟩ := diffsTo_id hc
        rw [he]
        exact hsn j hj
      · have := diffsTo_len was' now now.length
        rw [← g6] at this
        simp only []
        omega
      · have := diffsTo_len was' now now.length
        rw [← g6] at this
        simp only []
        omega
      · simp only [] at hys
        rw [g6] at hys
        exact hys

theorem vAwake {u : Unit} {k : Unit → Bool × Unit → Prop} (h : oTrue u k) : V.vAwake u k := by
  have hd : diffs [⟨4, 0, 0, 0, 0, 1, 0, 0, -1, 0⟩] [⟨4, 0, 0, 0, 0, 3, 0, 0, -1, 0⟩] = [⟨4, 1, 3, false⟩] := by rfl
  refine ⟨Nat.le_refl _, Nat.le_refl _, ⟨?_, ?_, by simp, by simp⟩, fun ys hys => ?_⟩
  · intro c hc; simp at hc; subst hc; simp
  · intro c hc; simp at hc; subst hc; simp
  · rw [hd] at hys
    obtain ⟨h1, _, _, h4⟩ := hys
    have h5 := h4 4
    have hm : (⟨4, 1, 3, false⟩ : Change) ∈ ys.filter (keyIs (fun (self : Change) => self.1) 4) := by
      rw [h5]; simp [keyIs]
    have hm2 := (List.mem_filter.1 hm).1
    match ys, h1, hm2 with
    | [y], _, hm2 =>
      simp at hm2
      subst hm2
      refine br_bool (fun _ => ⟨by simp, by simp, fun e he => ?_⟩) (fun hn => by simp at hn)
      simp at he
      subst he
      exact h
end Go.Ax.O
