/-
  What is to be shown of the functions is shown: changes between jobs, as they are told.
-/
import Derived.Test.YtjpeimmjggkkjaaAxV3
import Derived.Test.YtjpeimmjggkkjaaAxS3
set_option linter.all false
namespace Go.Ax.Law
def bump (r : Arr7) (t : Int) : Arr7 := ⟨if t = 0 then r.a0 + 1 else r.a0, if t = 1 then r.a1 + 1 else r.a1, if t = 2 then r.a2 + 1 else r.a2, if t = 3 then r.a3 + 1 else r.a3, if t = 4 then r.a4 + 1 else r.a4, if t = 5 then r.a5 + 1 else r.a5, if t = 6 then r.a6 + 1 else r.a6⟩
theorem cnt_hit {l : List Change} {e : Change} (h : e.To ≠ e.From) (m : Int) : cnt (l ++ [e]) m = if e.To = m then cnt l m + 1 else cnt l m := by
  rw [cnt_snoc]
  simp only [hit, h, ne_eq, not_false_eq_true, decide_true, Bool.and_true, decide_eq_true_eq]
  split <;> simp
theorem cnt_no {l : List Change} {e : Change} {m : Int} (h : e.To = m → e.To = e.From) : cnt (l ++ [e]) m = cnt l m := by
  rw [cnt_snoc]
  simp only [hit]
  by_cases h1 : e.To = m
  · simp [h h1]
  · simp [h1]
theorem count_hit {l : List Change} {e : Change} (h : e.To ≠ e.From) : count (l ++ [e]) = bump (count l) e.To := by
  simp only [count, bump, cnt_hit h]
theorem count_no {l : List Change} {e : Change} (h : 0 ≤ e.To → e.To ≤ 6 → e.To = e.From) : count (l ++ [e]) = count l := by
  simp only [count]
  rw [cnt_no, cnt_no, cnt_no, cnt_no, cnt_no, cnt_no, cnt_no] <;> intro hh <;> exact h (by omega) (by omega)
theorem few_small (l : List Job) : SmallJobs (few l) := by
  intro c hc
  simp only [few, List.mem_map] at hc
  obtain ⟨j, _, rfl⟩ := hc
  simp only []
  have := Int.tmod_lt_of_pos j.Id (b := 1099511627776) (by decide)
  have := Int.lt_tmod_of_pos j.Id (b := 1099511627776) (by decide)
  omega
end Go.Ax.Law
namespace Go.Ax.O
open Go.Ax.Sp Go.Ax.Law

theorem vOf2 {was now : List Job} {k : Unit → List Change × Unit → Prop} (h : oOf2 (was, now, ()) k) : V.vOf2 was now k := by
  obtain ⟨⟨hsw, hsn, hlw, hln⟩, hk⟩ := h
  simp only [] at hsw hsn hlw hln hk
  refine ⟨fun x => x.1 = was ∧ x.2.1 = now ∧ 0 ≤ x.2.2.2 ∧ x.2.2.2 ≤ was.length ∧ ∀ q, mget x.2.2.1 q = (was.take x.2.2.2.toNat).find? fun y => decide (y.Id = q), fun x => (was.length - x.2.2.2).toNat, (was, now, [], 0), ⟨rfl, rfl, Int.le_refl _, by simp only []; omega, fun q => by simp [mget]⟩, ⟨⟨rfl, trivial, rfl, rfl, rfl, trivial⟩, rfl, trivial⟩, ?_⟩
  rintro ⟨was', now', m, i⟩ ⟨h1, h2, h3, h4, h5⟩
  simp only [] at h1 h2 h3 h4 h5
  subst h1 h2
  obtain ⟨i, rfl⟩ := Int.eq_ofNat_of_zero_le h3
  simp only [Int.toNat_natCast] at h5
  refine br_dec (fun hi => ⟨⟨by simp only []; omega, hi⟩, fun e he e1 b _ hb => ?_⟩) (fun hi => ?_)
  · simp only [Int.toNat_natCast] at he hi hb
    have hfe : ∀ q, ((was'.take (i + 1)).find? fun y => decide (y.Id = q)) = ((mget m q).or (if e.Id = q then some e else none)) := by
      intro q
      rw [take_step he, List.find?_append, h5 q]
      congr 1
      by_cases hq : e.Id = q <;> simp [hq]
    refine br_not (fun hn => ?_) (fun hn => ?_)
    · intro n hnn
      simp only [] at hnn
      rw [w64 (by omega)] at hnn
      subst hnn
      refine ⟨(was', now', mput m e.Id e, (i : Int) + 1), ⟨rfl, rfl, by simp only []; omega, by simp only []; omega, fun q => ?_⟩, ⟨⟨rfl, trivial, rfl, rfl, rfl, trivial⟩, rfl, trivial⟩, by simp only []; omega⟩
      simp only []
      rw [show ((i : Int) + 1).toNat = i + 1 by omega, hfe q, mget_mput]
      by_cases hq : e.Id = q
      · rw [if_pos hq, if_pos hq]
        rw [hn] at hb
        rw [← hq]
        cases hm : mget m e.Id with
        | none => rfl
        | some z => rw [hm] at hb; cases hb
      · rw [if_neg hq, if_neg hq]; simp
    · intro n hnn
      simp only [] at hnn
      rw [w64 (by omega)] at hnn
      subst hnn
      refine ⟨(was', now', m, (i : Int) + 1), ⟨rfl, rfl, by simp only []; omega, by simp only []; omega, fun q => ?_⟩, ⟨⟨rfl, trivial, rfl, rfl, rfl, trivial⟩, rfl, trivial⟩, by simp only []; omega⟩
      simp only []
      rw [show ((i : Int) + 1).toNat = i + 1 by omega, hfe q]
      by_cases hq : e.Id = q
      · rw [if_pos hq]
        rw [hn] at hb
        rw [← hq]
        cases hm : mget m e.Id with
        | none => rw [hm] at hb; cases hb
        | some z => rfl
      · rw [if_neg hq]; simp
  · simp only [] at hi
    have hii : i = was'.length := by omega
    subst hii
    rw [List.take_length] at h5
    refine ⟨fun x => x.1 = now' ∧ (∀ q, mget x.2.1 q = was'.find? fun y => decide (y.Id = q)) ∧ 0 ≤ x.2.2.2.2 ∧ x.2.2.2.2 ≤ now'.length ∧ (∀ q, mget x.2.2.1 q = if (now'.take x.2.2.2.2.toNat).any (fun y => decide (y.Id = q)) then some true else none) ∧ x.2.2.2.1 = diffsTo was' now' x.2.2.2.2.toNat,
      fun x => (now'.length - x.2.2.2.2).toNat, (now', m, [], [], 0), ⟨rfl, h5, Int.le_refl _, by simp only []; omega, fun q => by simp [mget], rfl⟩, ⟨⟨trivial, trivial, ⟨rfl, rfl⟩, rfl, rfl, rfl, trivial⟩, rfl, rfl, rfl, trivial⟩, ?_⟩
    rintro ⟨now, m, s, out, i⟩ ⟨g1, g2, g3, g4, g5, g6⟩
    simp only [] at g1 g2 g3 g4 g5 g6
    subst g1
    obtain ⟨i, rfl⟩ := Int.eq_ofNat_of_zero_le g3
    simp only [Int.toNat_natCast] at g5 g6
    refine br_dec (fun hi => ⟨⟨by simp only []; omega, hi⟩, fun e he e1 b he1 _ => ?_⟩) (fun hi => ?_)
    · simp only [Int.toNat_natCast] at he hi he1
      have hln2 : out.length ≤ 1099511627 := by
        rw [g6]
        have := diffsTo_len was' now i
        omega
      have hany : e1 = (now.take i).any fun y => decide (y.Id = e.Id) := by
        rw [he1, g5]
        split <;> simp_all
      have hseen : ∀ (s' : List (Int × Bool)), (∀ q, mget s' q = if e.Id = q then some true else mget s q) → ∀ q, mget s' q = if (now.take ((i : Int) + 1).toNat).any (fun y => decide (y.Id = q)) then some true else none := by
        intro s' hs' q
        rw [show ((i : Int) + 1).toNat = i + 1 by omega, take_step he, List.any_append, hs' q, g5 q]
        by_cases hq : e.Id = q <;> simp [hq]
      have hstep : diffsTo was' now (i + 1) = diffsTo was' now i ++ (if e1 then [] else (chg was' e).toList) := by
        simp only [diffsTo, he, hany]
      have next : ∀ (s' : List (Int × Bool)) (out' : List Change), (∀ q, mget s' q = if e.Id = q then some true else mget s q) → out' = diffsTo was' now (i + 1) → ∀ n, n = IntKind.i64.wrap ((i : Int) + 1) →
          ∃ y : List Job × List (Int × Job) × List (Int × Bool) × List Change × Int, (y.1 = now ∧ (∀ q, mget y.2.1 q = was'.find? fun z => decide (z.Id = q)) ∧ 0 ≤ y.2.2.2.2 ∧ y.2.2.2.2 ≤ now.length ∧ (∀ q, mget y.2.2.1 q = if (now.take y.2.2.2.2.toNat).any (fun z => decide (z.Id = q)) then some true else none) ∧ y.2.2.2.1 = diffsTo was' now y.2.2.2.2.toNat) ∧
            ((True ∧ True ∧ (0 = 0 ∧ out'.length = y.2.2.2.1.length) ∧ now = y.1 ∧ (now.length : Int) = (y.1.length : Int) ∧ n = y.2.2.2.2 ∧ True) ∧ m = y.2.1 ∧ s' = y.2.2.1 ∧ out' = y.2.2.2.1 ∧ True) ∧ (now.length - y.2.2.2.2).toNat < (now.length - (i : Int)).toNat := by
        intro s' out' hs' ho n hn
        rw [w64 (by omega)] at hn
        subst hn
        refine ⟨(now, m, s', out', (i : Int) + 1), ⟨rfl, g2, by simp only []; omega, by simp only []; omega, hseen s' hs', ?_⟩, ⟨⟨trivial, trivial, ⟨rfl, rfl⟩, rfl, rfl, rfl, trivial⟩, rfl, rfl, rfl, trivial⟩, by simp only []; omega⟩
        simp only []
        rw [ho, show ((i : Int) + 1).toNat = i + 1 by omega]
      refine br_bool (fun ht => ?_) (fun hf => ?_)
      · refine next s out (fun q => ?_) (by rw [hstep, if_pos ht]; simpa using g6)
        by_cases hq : e.Id = q
        · have g := g5 e.Id
          rw [if_pos (hany.symm.trans ht)] at g
          rw [if_pos hq, ← hq]; exact g
        · rw [if_neg hq]
      · intro e2 b2 he2 hb2
        simp only [g2] at he2 hb2
        rw [hf] at hstep
        simp only [Bool.false_eq_true, if_false] at hstep
        have app : ∀ c : Change, chg was' e = some c → (1 ≤ 1 ∧ 0 + out.length ≤ out.length ∧ out.length + 1 ≤ 68719476736 ∧ ∀ n, n = IntKind.i64.wrap ((i : Int) + 1) →
          ∃ y : List Job × List (Int × Job) × List (Int × Bool) × List Change × Int, (y.1 = now ∧ (∀ q, mget y.2.1 q = was'.find? fun z => decide (z.Id = q)) ∧ 0 ≤ y.2.2.2.2 ∧ y.2.2.2.2 ≤ now.length ∧ (∀ q, mget y.2.2.1 q = if (now.take y.2.2.2.2.toNat).any (fun z => decide (z.Id = q)) then some true else none) ∧ y.2.2.2.1 = diffsTo was' now y.2.2.2.2.toNat) ∧
            ((True ∧ True ∧ (0 = 0 ∧ out.length + 1 = y.2.2.2.1.length) ∧ now = y.1 ∧ (now.length : Int) = (y.1.length : Int) ∧ n = y.2.2.2.2 ∧ True) ∧ m = y.2.1 ∧ mput s e.Id true = y.2.2.1 ∧ (out.drop 0).take out.length ++ [c] = y.2.2.2.1 ∧ True) ∧ (now.length - y.2.2.2.2).toNat < (now.length - (i : Int)).toNat) := by
          intro c hc
          refine ⟨Nat.le_refl _, by omega, by omega, fun n hn => ?_⟩
          have hout : (out.drop 0).take out.length ++ [c] = diffsTo was' now (i + 1) := by
            rw [hstep, hc, g6]; simp
          obtain ⟨y, y1, y2, y3⟩ := next (mput s e.Id true) _ (fun q => by rw [mget_mput]) hout n hn
          refine ⟨y, y1, ?_, y3⟩
          obtain ⟨⟨z1, z2, ⟨z3, z4⟩, z5⟩, z6⟩ := y2
          exact ⟨⟨z1, z2, ⟨z3, by rw [← z4]; simp⟩, z5⟩, z6⟩
        refine br_not (fun hb => ?_) (fun hb => ?_)
        · refine app _ ?_
          rw [hb] at hb2
          unfold chg
          cases hw : was'.find? fun x => decide (x.Id = e.Id) with
          | none => rfl
          | some z => rw [hw] at hb2; cases hb2
        · rw [hb] at hb2
          cases hw : was'.find? fun x => decide (x.Id = e.Id) with
          | none => rw [hw] at hb2; cases hb2
          | some z =>
            rw [hw] at he2
            simp only [Option.getD_some] at he2
            subst he2
            have hch : ∀ p, (!(e2.Plan == e.Plan)) = p → (e2.State ≠ e.State ∨ e2.Plan ≠ e.Plan) → chg was' e = some ⟨e.Id, e2.State, e.State, p⟩ := by
              intro p hp hor
              unfold chg
              rw [hw]
              simp only []
              rw [if_pos hor, ← hp]
              congr 2
              simp [Int.instDecidableEq]
              grind
            refine br_not (fun hs => ?_) (fun hs => br_not (fun hp => ?_) (fun hp => ?_))
            · exact app _ (hch _ rfl (.inl (by simpa using hs)))
            · exact app _ (hch _ rfl (.inr (by simpa using hp)))
            · refine next (mput s e.Id true) out (fun q => by rw [mget_mput]) ?_
              rw [hstep]
              unfold chg
              rw [hw]
              simp only [beq_iff_eq] at hs hp
              simp [hs, hp, g6]
    · simp only [] at hi
      have hii : i = now.length := by omega
      subst hii
      refine ⟨rfl, ⟨fun c hc => ?_, ?_, ?_⟩, fun ys hys => ⟨hys.1.length_eq.symm, hk ys ?_⟩⟩
      · rw [g6] at hc
        obtain ⟨j, hj, he⟩ := diffsTo_id hc
        rw [he]
        exact hsn j hj
      · simp only []
        rw [g6]
        exact diffsTo_nodup _ _ _
      · have := diffsTo_len was' now now.length
        rw [← g6] at this
        simp only []
        omega
      · simp only [] at hys
        rw [g6] at hys
        exact hys


theorem vAwake2 {u : Unit} {k : Unit → Bool × Unit → Prop} (h : oTrue u k) : V.vAwake2 u k := by
  have hd : diffs [⟨4, 0, 0, 0, 0, 1, 0, 0, -1, 0⟩] [⟨4, 0, 0, 0, 0, 3, 0, 0, -1, 0⟩] = [⟨4, 1, 3, false⟩] := by rfl
  refine ⟨Nat.le_refl _, Nat.le_refl _, ⟨?_, ?_, by simp, by simp⟩, fun ys hys => ?_⟩
  · intro c hc; simp at hc; subst hc; simp
  · intro c hc; simp at hc; subst hc; simp
  · rw [hd] at hys
    have : ys = [⟨4, 1, 3, false⟩] := List.perm_singleton.1 hys.1
    subst this
    refine br_bool (fun _ => ⟨⟨Int.le_refl _, by simp⟩, by simp, fun e he => ?_⟩) (fun hf => by simp at hf)
    simp at he
    subst he
    exact h

theorem findI_some {l : List Job} {id : Int} {i : Nat} {e : Job} (h1 : ∀ x ∈ l.take i, x.Id ≠ id) (h2 : l[i]? = some e) (h3 : e.Id = id) : findI l id = (i : Int) := by
  subst h3
  rw [findI_iff h2, List.any_eq_false]
  intro x hx
  simpa using h1 x hx
theorem findI_none {l : List Job} {id : Int} (h : ∀ x ∈ l, x.Id ≠ id) : findI l id = -1 := by
  unfold findI
  have : (l.findIdx? fun x => decide (x.Id = id)) = none := by
    rw [List.findIdx?_eq_none_iff]
    intro x hx
    simpa using h x hx
  rw [this]

theorem vFind {l : List Job} {id : Int} {k : Unit → Int × Unit → Prop} (h : oFind (l, id, ()) k) : V.vFind l id k := by
  obtain ⟨hl, h⟩ := h
  simp only [] at hl h
  refine ⟨fun x => x.1 = l ∧ x.2.1 = id ∧ 0 ≤ x.2.2 ∧ x.2.2 ≤ l.length ∧ ∀ y ∈ l.take x.2.2.toNat, y.Id ≠ id, fun x => (l.length - x.2.2).toNat, (l, id, 0), ⟨rfl, rfl, Int.le_refl _, by simp, by simp⟩, ⟨⟨rfl, rfl, rfl, trivial⟩, trivial⟩, ?_⟩
  rintro ⟨l', id', i⟩ ⟨h1, h2, h3, h4, h5⟩
  simp only [] at h1 h2 h3 h4 h5
  subst h1 h2
  obtain ⟨i, rfl⟩ := Int.eq_ofNat_of_zero_le h3
  simp only [Int.toNat_natCast] at h5
  refine br_dec (fun hi => ⟨⟨by simp only []; omega, hi⟩, fun e he => ?_⟩) (fun hi => ?_)
  · simp only [Int.toNat_natCast] at he hi
    refine br_bool (fun ht => ?_) (fun hf => ?_)
    · have ht : e.Id = id' := by simpa using ht
      rw [findI_some h5 he ht] at h
      exact h
    · have hf : e.Id ≠ id' := by simpa using hf
      intro n hn
      simp only [] at hn
      rw [w64 (by omega)] at hn
      subst hn
      refine ⟨(l', id', (i : Int) + 1), ⟨rfl, rfl, by simp only []; omega, by simp only []; omega, fun y hy => ?_⟩, ⟨⟨rfl, rfl, rfl, trivial⟩, trivial⟩, by simp only []; omega⟩
      simp only [] at hy
      rw [show ((i : Int) + 1).toNat = i + 1 by omega, take_step he, List.mem_append] at hy
      rcases hy with hy | hy
      · exact h5 y hy
      · simp at hy; subst hy; exact hf
  · simp only [] at hi
    have hii : i = l'.length := by omega
    subst hii
    rw [List.take_length] at h5
    rw [findI_none h5] at h
    exact h

theorem findI_lt (l : List Job) (id : Int) : -1 ≤ findI l id ∧ findI l id < l.length ∧ (findI l id < 0 → (l.find? fun x => decide (x.Id = id)) = none) ∧ ∀ e, 0 ≤ findI l id → l[(findI l id).toNat]? = some e → (l.find? fun x => decide (x.Id = id)) = some e := by
  unfold findI
  cases hf : l.findIdx? fun x => decide (x.Id = id) with
  | none =>
    refine ⟨by simp, by simp only []; omega, fun _ => ?_, fun e h => by simp at h⟩
    rw [List.findIdx?_eq_none_iff] at hf
    rw [List.find?_eq_none]
    intro x hx
    simpa using hf x hx
  | some i =>
    simp only []
    have hf2 := hf
    rw [List.findIdx?_eq_some_iff_getElem] at hf2
    obtain ⟨hi, g1, g2⟩ := hf2
    refine ⟨by omega, by omega, fun h => by omega, fun e _ he => ?_⟩
    simp only [Int.toNat_natCast] at he
    rw [List.find?_eq_some_iff_getElem]
    have hei := (List.getElem?_eq_some_iff.1 he).2
    rw [hei] at g1
    refine ⟨g1, i, hi, hei, fun j hj => ?_⟩
    have := g2 j hj
    simpa using this

theorem vOfC {was now : List Job} {i : Int} {k : Unit → Change × Bool × Unit → Prop} (h : oOfC (was, now, i, ()) k) : V.vOfC was now i k := by
  obtain ⟨⟨hw, hn, h0, hl⟩, h⟩ := h
  simp only [] at hw hn h0 hl h
  refine ⟨⟨h0, hl⟩, fun e he => ⟨hn, ?_⟩⟩
  have hof : ofC was now i.toNat = ofC was now i.toNat := rfl
  conv at hof => rhs; unfold ofC
  rw [he] at hof
  simp only [] at hof
  rw [Int.toNat_of_nonneg h0] at hof
  obtain ⟨f1, f2, f3, f4⟩ := findI_lt was e.Id
  refine br_not (fun hb => ?_) (fun hb => ⟨hw, ?_⟩)
  · have hb : findI now e.Id ≠ i := by simpa using hb
    rw [if_pos hb] at hof
    rw [hof] at h
    exact h
  · have hb : findI now e.Id = i := by simpa using hb
    rw [if_neg (by simpa using hb)] at hof
    refine br_dec (fun hx => ?_) (fun hx => ⟨⟨by omega, f2⟩, fun e1 he1 => ?_⟩)
    · rw [f3 hx] at hof
      rw [hof] at h
      exact h
    · rw [f4 e1 (by omega) he1] at hof
      simp only [] at hof
      have e0 : decide (e1.Plan ≠ e.Plan) = !(e1.Plan == e.Plan) := by
        by_cases hp : e1.Plan = e.Plan <;> simp [hp]
      rw [hof, e0] at h
      refine br_not (fun hs => ⟨?_, trivial⟩) (fun hs => ⟨?_, trivial⟩)
      · have hs : e1.State ≠ e.State := by simpa using hs
        simp only [hs, ne_eq, not_false_eq_true, decide_true, Bool.true_or] at h
        exact h
      · have hs : e1.State = e.State := by simpa using hs
        simp only [hs, ne_eq, not_true_eq_false, decide_false, Bool.false_or] at h
        rw [hs]
        exact h

theorem vBad {c : Change} {k : Unit → Bool × Unit → Prop} (h : oBad (c, ()) k) : V.vBad c k := h

theorem vIdxF {l : List Change} {k : Unit → Int × Unit → Prop} (h : oIdxF 0 (l, (), ()) k) : V.vIdxF l k := by
  obtain ⟨hl, h⟩ := h
  simp only [] at hl h
  refine ⟨fun x => x.1 = l ∧ 0 ≤ x.2 ∧ x.2 ≤ l.length ∧ ∀ y ∈ l.take x.2.toNat, bad y = false, fun x => (l.length - x.2).toNat, (l, 0), ⟨rfl, Int.le_refl _, by simp, by simp⟩, ⟨⟨rfl, trivial, rfl, rfl, trivial⟩, trivial⟩, ?_⟩
  rintro ⟨l', i⟩ ⟨h1, h3, h4, h5⟩
  simp only [] at h1 h3 h4 h5
  subst h1
  obtain ⟨i, rfl⟩ := Int.eq_ofNat_of_zero_le h3
  simp only [Int.toNat_natCast] at h5
  refine br_dec (fun hi => ⟨⟨by simp only []; omega, hi⟩, fun e he => ?_⟩) (fun hi => ?_)
  · simp only [Int.toNat_natCast] at he hi
    refine br_bool (fun ht => ?_) (fun hf => ?_)
    · have hlt := (List.getElem?_eq_some_iff.1 he)
      obtain ⟨hlt, heq⟩ := hlt
      have : findBad l' = (i : Int) := by
        unfold findBad
        have : l'.findIdx? bad = some i := by
          rw [List.findIdx?_eq_some_iff_getElem]
          refine ⟨hlt, by rw [heq]; exact ht, fun j hj => ?_⟩
          have := h5 l'[j] (List.mem_iff_getElem?.2 ⟨j, by rw [List.getElem?_take_of_lt hj, List.getElem?_eq_getElem]⟩)
          simpa using this
        rw [this]
      rw [this] at h
      exact h
    · intro n hn
      simp only [] at hn
      rw [w64 (by omega)] at hn
      subst hn
      refine ⟨(l', (i : Int) + 1), ⟨rfl, by simp only []; omega, by simp only []; omega, fun y hy => ?_⟩, ⟨⟨rfl, trivial, rfl, rfl, trivial⟩, trivial⟩, by simp only []; omega⟩
      simp only [] at hy
      rw [show ((i : Int) + 1).toNat = i + 1 by omega, take_step he, List.mem_append] at hy
      rcases hy with hy | hy
      · exact h5 y hy
      · simp at hy; subst hy; exact hf
  · simp only [] at hi
    have hii : i = l'.length := by omega
    subst hii
    rw [List.take_length] at h5
    have : findBad l' = -1 := by
      unfold findBad
      have : l'.findIdx? bad = none := by
        rw [List.findIdx?_eq_none_iff]; exact h5
      rw [this]
    rw [this] at h
    exact h

theorem vConF {l : List Change} {k : Unit → Bool × Unit → Prop} (h : oConF 0 (l, (), ()) k) : V.vConF l k := h
theorem vSound {l : List Change} {k : Unit → Bool × Unit → Prop} (h : oSound (l, ()) k) : V.vSound l k := h

theorem vCount {l : List Change} {k : Unit → Arr7 × Unit → Prop} (h : oCount (l, ()) k) : V.vCount l k := by
  obtain ⟨hl, hk⟩ := h
  simp only [] at hl hk
  refine ⟨fun x => x.1 = l ∧ 0 ≤ x.2.2 ∧ x.2.2 ≤ l.length ∧ x.2.1 = count (l.take x.2.2.toNat), fun x => (l.length - x.2.2).toNat, (l, count [], 0), ⟨rfl, Int.le_refl _, by simp, by simp⟩, ⟨⟨rfl, rfl, rfl, rfl, rfl, trivial⟩, ⟨rfl, rfl, rfl, rfl, rfl, rfl, rfl, trivial⟩, ⟨rfl, rfl, rfl, rfl, rfl, rfl, rfl, trivial⟩, trivial⟩, ?_⟩
  rintro ⟨l', r, i⟩ ⟨h1, h3, h4, h5⟩
  simp only [] at h1 h3 h4 h5
  subst h1
  obtain ⟨i, rfl⟩ := Int.eq_ofNat_of_zero_le h3
  simp only [Int.toNat_natCast] at h5
  refine br_dec (fun hi => ⟨⟨by simp only []; omega, hi⟩, fun e he => ?_⟩) (fun hi => ?_)
  · simp only [Int.toNat_natCast] at he hi
    have next : ∀ a0 a1 a2 a3 a4 a5 a6 : Int, (⟨a0, a1, a2, a3, a4, a5, a6⟩ : Arr7) = count (l'.take (i + 1)) → ∀ n, n = IntKind.i64.wrap ((i : Int) + 1) → ∃ y : List Change × Arr7 × Int, (y.1 = l' ∧ 0 ≤ y.2.2 ∧ y.2.2 ≤ l'.length ∧ y.2.1 = count (l'.take y.2.2.toNat)) ∧
        ((0 = 0 ∧ 0 = 0 ∧ l' = y.1 ∧ (l'.length : Int) = (y.1.length : Int) ∧ n = y.2.2 ∧ True) ∧ ((0 : Int) = 0 ∧ (0 : Int) = 0 ∧ (0 : Int) = 0 ∧ (0 : Int) = 0 ∧ (0 : Int) = 0 ∧ (0 : Int) = 0 ∧ (0 : Int) = 0 ∧ True) ∧ (a0 = y.2.1.a0 ∧ a1 = y.2.1.a1 ∧ a2 = y.2.1.a2 ∧ a3 = y.2.1.a3 ∧ a4 = y.2.1.a4 ∧ a5 = y.2.1.a5 ∧ a6 = y.2.1.a6 ∧ True) ∧ True) ∧ (l'.length - y.2.2).toNat < (l'.length - (i : Int)).toNat := by
      intro a0 a1 a2 a3 a4 a5 a6 hr n hn
      rw [w64 (by omega)] at hn
      subst hn
      refine ⟨(l', ⟨a0, a1, a2, a3, a4, a5, a6⟩, (i : Int) + 1), ⟨rfl, by simp only []; omega, by simp only []; omega, ?_⟩, ⟨⟨rfl, rfl, rfl, rfl, rfl, trivial⟩, ⟨rfl, rfl, rfl, rfl, rfl, rfl, rfl, trivial⟩, ⟨rfl, rfl, rfl, rfl, rfl, rfl, rfl, trivial⟩, trivial⟩, by simp only []; omega⟩
      simp only []
      rw [hr, show ((i : Int) + 1).toNat = i + 1 by omega]
    have hno : (0 ≤ e.To → e.To ≤ 6 → e.To = e.From) → r = count (l'.take (i + 1)) := by
      intro hh
      rw [take_step he, count_no hh, h5]
    have hb : ∀ m, 0 ≤ cnt (l'.take i) m ∧ cnt (l'.take i) m ≤ 1099511627776 := by
      intro m
      have := cnt_le (l'.take i) m
      have := List.length_take_le i l'
      omega
    refine br_dec (fun h0 => br_dec (fun h6 => br_not (fun hne => ?_) (fun hne => ?_)) (fun h6 => ?_)) (fun h0 => ?_)
    · have hne : e.To ≠ e.From := by simpa using hne
      have hbump : ∀ r', r' = bump r e.To → r' = count (l'.take (i + 1)) := by
        intro r' hr
        rw [hr, take_step he, count_hit hne, h5]
      subst h5
      have h7 : e.To < 7 := by omega
      refine ⟨⟨h0, h7⟩, ?_, ?_, ?_, ?_, ?_, ?_, ?_, trivial⟩ <;> intro ht n hn <;> refine ⟨⟨h0, h7⟩, ?_, ?_, ?_, ?_, ?_, ?_, ?_, trivial⟩ <;> intro ht2 <;> first
        | (exfalso; rw [ht] at ht2; simp at ht2; done)
        | (simp only [count] at hn; rw [w64 (by have := hb e.To; rw [ht] at this; omega)] at hn
           refine next _ _ _ _ _ _ _ (hbump _ ?_)
           simp [bump, ht, hn, count])
    · exact next _ _ _ _ _ _ _ (hno fun _ _ => by simpa using hne)
    · exact next _ _ _ _ _ _ _ (hno fun _ hh => absurd hh h6)
    · exact next _ _ _ _ _ _ _ (hno fun hh _ => absurd hh h0)
  · simp only [] at hi
    have hii : i = l'.length := by omega
    subst hii
    rw [List.take_length] at h5
    subst h5
    exact hk
end Go.Ax.O
