/-
  What is to be shown of the functions is shown: changes behind changes.
-/
import Derived.Test.YtjpeimmjggkkjaaAxO10
import Derived.Test.YtjpeimmjggkkjaaAxS6
set_option linter.all false
namespace Go.Ax.O
open Go.Ax.Sp Go.Ax.Law

theorem take_all {α : Type} (l : List α) : List.take l.length (List.drop 0 l) = l := by simp

theorem findIdle_some {l : List Change} {i : Nat} (h : l.findIdx? idle = some i) : keptC (l.take (i + 1)) = l.take i := by
  rw [List.findIdx?_eq_some_iff_getElem] at h
  obtain ⟨hi, h1, h2⟩ := h
  have he : l[i]? = some l[i] := List.getElem?_eq_getElem hi
  rw [keptC_snoc he, if_pos h1, List.append_nil]
  unfold keptC
  rw [List.filter_eq_self]
  intro x hx
  obtain ⟨p, hp⟩ := List.mem_iff_getElem?.1 hx
  have hpl := (List.getElem?_eq_some_iff.1 hp).1
  rw [List.length_take] at hpl
  rw [List.getElem?_take_of_lt (by omega)] at hp
  have := h2 p (by omega)
  have hx2 := (List.getElem?_eq_some_iff.1 hp).2
  rw [hx2] at this
  simpa using this

theorem vDelF {l : List Change} {k : Unit → List Change × Unit → Prop} (h : oDelF 0 (l, (), ()) k) : V.vDelF l k := by
  obtain ⟨hl, hk⟩ := h
  simp only [] at hl hk
  unfold V.vDelF
  rw [take_all l]
  refine ⟨by omega, hl, ?_⟩
  cases hf : l.findIdx? idle with
  | none =>
    have e : findIdle l = -1 := by unfold findIdle; rw [hf]
    rw [e]
    refine br_bool (fun _ => ⟨by omega, ?_⟩) (fun hx => by simp at hx)
    have : keptC l = l := by
      unfold keptC
      rw [List.filter_eq_self]
      intro x hx
      rw [List.findIdx?_eq_none_iff] at hf
      simpa using hf x hx
    rw [this] at hk
    exact hk
  | some i0 =>
    have e : findIdle l = (i0 : Int) := by unfold findIdle; rw [hf]
    have hkt := findIdle_some hf
    rw [List.findIdx?_eq_some_iff_getElem] at hf
    obtain ⟨hi0, _, _⟩ := hf
    rw [e]
    refine br_bool (fun hx => by simp at hx) (fun _ => ?_)
    intro n hn
    rw [w64 (by omega)] at hn
    subst hn
    refine ⟨fun x => 0 ≤ x.2.1 ∧ x.2.1 ≤ x.2.2 ∧ x.2.2 ≤ l.length ∧ x.1.length = l.length ∧ x.1.take x.2.1.toNat = keptC (l.take x.2.2.toNat) ∧ ∀ p : Nat, x.2.2 ≤ p → x.1[p]? = l[p]?,
      fun x => (l.length - x.2.2).toNat, (l, i0, i0 + 1), ⟨by simp only []; omega, by simp only []; omega, by simp only []; omega, rfl, ?_, fun _ _ => rfl⟩, ⟨⟨⟨rfl, rfl⟩, trivial, rfl, rfl, trivial⟩, rfl, trivial⟩, ?_⟩
    · simp only []
      rw [Int.toNat_natCast, show ((i0 : Int) + 1).toNat = i0 + 1 by omega]
      exact hkt.symm
    rintro ⟨cur, i, j⟩ ⟨g1, g2, g3, g4, g5, g6⟩
    simp only [] at g1 g2 g3 g4 g5 g6
    obtain ⟨i, rfl⟩ := Int.eq_ofNat_of_zero_le g1
    obtain ⟨j, rfl⟩ := Int.eq_ofNat_of_zero_le (show 0 ≤ j by omega)
    simp only [Int.toNat_natCast] at g5
    dsimp only
    rw [Int.toNat_natCast, Int.toNat_natCast, Nat.zero_add, Nat.zero_add]
    refine br_dec (fun hj => ⟨⟨by omega, hj⟩, by omega, fun e he => ?_⟩) (fun hj => ?_)
    · rw [g6 j (by omega)] at he
      have hs := keptC_snoc he
      refine br_not (fun hid => ⟨⟨by omega, by omega⟩, by omega, fun e1 he1 n hn n1 hn1 => ?_⟩) (fun hid n hn => ?_)
      · rw [w64 (by omega)] at hn hn1
        subst hn hn1
        refine ⟨(cur.set i e, (i : Int) + 1, (j : Int) + 1), ⟨by simp only []; omega, by simp only []; omega, by simp only []; omega, by simpa using g4, ?_, fun p hp => ?_⟩, ⟨⟨⟨rfl, by simp⟩, trivial, rfl, rfl, trivial⟩, rfl, trivial⟩, by simp only []; omega⟩
        · simp only []
          rw [show ((i : Int) + 1).toNat = i + 1 by omega, show ((j : Int) + 1).toNat = j + 1 by omega, hs, hid, ← g5]
          have hset : (cur.set i e)[i]? = some e := by rw [List.getElem?_set_self (by omega)]
          rw [take_step hset, List.take_set_of_le (Nat.le_refl _)]
          rfl
        · simp only [] at hp ⊢
          rw [List.getElem?_set_ne (by omega)]
          exact g6 p (by omega)
      · rw [w64 (by omega)] at hn
        subst hn
        refine ⟨(cur, (i : Int), (j : Int) + 1), ⟨by simp only []; omega, by simp only []; omega, by simp only []; omega, g4, ?_, fun p hp => ?_⟩, ⟨⟨⟨rfl, rfl⟩, trivial, rfl, rfl, trivial⟩, rfl, trivial⟩, by simp only []; omega⟩
        · simp only []
          rw [Int.toNat_natCast, show ((j : Int) + 1).toNat = j + 1 by omega, hs, hid, ← g5]
          simp
        · simp only [] at hp ⊢
          exact g6 p (by omega)
    · have hjl : j = l.length := by omega
      subst hjl
      rw [List.take_length] at g5
      have hil : i ≤ cur.length := by omega
      have e1 : (cur.length : Int).toNat = cur.length := by omega
      have hlen : (List.take i cur ++ (List.replicate ((cur.length : Int).toNat - i) (⟨0, 0, 0, false⟩ : Change) ++ List.drop (i + ((cur.length : Int).toNat - i)) cur)).length = cur.length := by
        simp only [List.length_append, List.length_take, List.length_replicate, List.length_drop]
        omega
      refine ⟨⟨by omega, by omega, by omega⟩, by omega, ⟨Int.le_refl _, by omega, by rw [hlen]; omega⟩, by rw [hlen]; simp; omega, ?_⟩
      have : List.take (i - Int.toNat 0) (List.drop (0 + Int.toNat 0) (List.take i cur ++ (List.replicate ((cur.length : Int).toNat - i) (⟨0, 0, 0, false⟩ : Change) ++ List.drop (i + ((cur.length : Int).toNat - i)) cur))) = keptC l := by
        rw [← g5]
        simp only [Int.toNat_zero, Nat.add_zero, Nat.sub_zero, List.drop_zero]
        rw [List.take_append_of_le_length (by simp; omega), List.take_take, Nat.min_self]
      rw [this]
      exact hk

theorem vJoin {a b : List Change} {k : Unit → List Change × Unit → Prop} (h : oJoin (a, b, ()) k) : V.vJoin a b k := by
  obtain ⟨⟨hsm, hal, hbl⟩, hk⟩ := h
  simp only [] at hsm hal hbl hk
  refine ⟨hal, fun x => x.2.1 = b ∧ 0 ≤ x.2.2 ∧ x.2.2 ≤ b.length ∧ x.1 = joinC a (b.take x.2.2.toNat), fun x => (b.length - x.2.2).toNat, (a, b, 0), ⟨rfl, Int.le_refl _, by simp, rfl⟩, ⟨⟨⟨rfl, rfl⟩, rfl, rfl, rfl, trivial⟩, rfl, trivial⟩, ?_⟩
  rintro ⟨cur, b', i⟩ ⟨g1, g2, g3, g4⟩
  simp only [] at g1 g2 g3 g4
  subst g1
  obtain ⟨i, rfl⟩ := Int.eq_ofNat_of_zero_le g2
  simp only [Int.toNat_natCast] at g4
  have hcl : cur.length ≤ a.length + i := by
    have := joinC_len a (b'.take i)
    rw [← g4] at this
    have := List.length_take_le i b'
    omega
  dsimp only
  rw [Int.toNat_natCast]
  refine br_dec (fun hi => ⟨⟨by omega, hi⟩, fun e he => ?_⟩) (fun hi => ?_)
  · have hsn := joinC_snoc (a := a) he
    rw [← g4] at hsn
    have next : ∀ c2 : List Change, c2 = join1 cur e → ∀ n, n = IntKind.i64.wrap ((i : Int) + 1) → ∃ y : List Change × List Change × Int, (y.2.1 = b' ∧ 0 ≤ y.2.2 ∧ y.2.2 ≤ b'.length ∧ y.1 = joinC a (b'.take y.2.2.toNat)) ∧ (b' = y.2.1 ∧ (b'.length : Int) = (y.2.1.length : Int) ∧ n = y.2.2) ∧ c2 = y.1 ∧ (b'.length - y.2.2).toNat < (b'.length - (i : Int)).toNat := by
      intro c2 h2 n hn
      rw [w64 (by omega)] at hn
      subst hn
      refine ⟨(c2, b', (i : Int) + 1), ⟨rfl, by simp only []; omega, by simp only []; omega, ?_⟩, ⟨rfl, rfl, rfl⟩, rfl, by simp only []; omega⟩
      simp only []
      rw [show ((i : Int) + 1).toNat = i + 1 by omega, hsn, h2]
    refine ⟨fun x => x.1 = cur ∧ x.2.1 = e ∧ 0 ≤ x.2.2 ∧ x.2.2 ≤ cur.length ∧ ∀ (p : Nat) (z : Change), (p : Int) < x.2.2 → cur[p]? = some z → z.Id ≠ e.Id, fun x => (cur.length - x.2.2).toNat, (cur, e, 0), ⟨rfl, rfl, Int.le_refl _, by simp only []; omega, fun p z hp => by simp only [] at hp; omega⟩, ⟨⟨⟨rfl, rfl⟩, ⟨rfl, trivial⟩, rfl, rfl, trivial⟩, rfl, ⟨rfl, rfl, rfl, rfl, trivial⟩, trivial⟩, ?_⟩
    rintro ⟨c1, e', j⟩ ⟨f1, f2, f3, f4, f5⟩
    simp only [] at f1 f2 f3 f4 f5
    subst f1 f2
    obtain ⟨j, rfl⟩ := Int.eq_ofNat_of_zero_le f3
    dsimp only
    rw [Int.toNat_natCast, Nat.zero_add, take_all c1]
    refine br_dec (fun hj => ⟨⟨by omega, hj⟩, by omega, fun e1 he1 => ?_⟩) (fun hj => ?_)
    · refine br_bool (fun hid => ?_) (fun hid => ?_)
      · have hid : e1.Id = e'.Id := by simpa using hid
        have hj1 := join1_some he1 hid (fun p z hp hz => f5 p z (by omega) hz)
        refine br_dec (fun hx => by omega) (fun _ => ⟨⟨by omega, by omega⟩, by omega, fun e2 he2 => ?_⟩)
        rw [he1] at he2
        cases he2
        have hlt : j < c1.length := by omega
        refine br_bool (fun hp => ⟨⟨by omega, by omega⟩, ⟨by omega, fun e2 he2 => ⟨⟨by omega, by omega⟩, ⟨by rw [List.length_set]; omega, fun e3 he3 n hn => ?_⟩, trivial⟩⟩, trivial⟩) (fun hp => ⟨⟨by omega, by omega⟩, ⟨by omega, fun e2 he2 => ⟨⟨by omega, by omega⟩, ⟨by rw [List.length_set]; omega, fun e3 he3 n hn => ?_⟩, trivial⟩⟩, trivial⟩)
        all_goals
          rw [he1] at he2
          cases he2
          rw [List.getElem?_set_self hlt] at he3
          cases he3
          obtain ⟨y, y1, y2, y3, y4⟩ := next (c1.set j ⟨e1.Id, e1.From, e'.To, e1.Plan || e'.Plan⟩) hj1.symm n hn
          refine ⟨y, y1, ⟨⟨⟨rfl, by rw [← y3]; simp⟩, y2.1, y2.2.1, y2.2.2, trivial⟩, ?_, trivial⟩, y4⟩
          rw [← y3, List.set_set, hp]
          simp
      · have hid : e1.Id ≠ e'.Id := by simpa using hid
        intro n hn
        rw [w64 (by omega)] at hn
        subst hn
        refine ⟨(c1, e', (j : Int) + 1), ⟨rfl, rfl, by simp only []; omega, by simp only []; omega, fun p z hp hz => ?_⟩, ⟨⟨⟨rfl, rfl⟩, ⟨rfl, trivial⟩, rfl, rfl, trivial⟩, rfl, ⟨rfl, rfl, rfl, rfl, trivial⟩, trivial⟩, by simp only []; omega⟩
        simp only [] at hp
        by_cases hpj : p = j
        · subst hpj; rw [he1] at hz; cases hz; exact hid
        · exact f5 p z (by omega) hz
    · refine ⟨Nat.le_refl _, by omega, by omega, fun n hn => ?_⟩
      obtain ⟨y, y1, y2, y3, y4⟩ := next (c1 ++ [e']) (join1_none fun p z hz => f5 p z (by have := (List.getElem?_eq_some_iff.1 hz).1; omega) hz).symm n hn
      exact ⟨y, y1, ⟨⟨⟨rfl, by rw [← y3]; simp⟩, y2.1, y2.2.1, y2.2.2, trivial⟩, y3, trivial⟩, y4⟩
  · have hii : i = b'.length := by omega
    subst hii
    rw [List.take_length] at g4
    subst g4
    have hkl := keptC_len (joinC a b')
    refine ⟨rfl, by omega, rfl, ⟨fun c hc => hsm c (List.mem_filter.1 hc).1, by omega⟩, fun ys hys => ⟨hys.1.symm, hk ys hys⟩⟩
end Go.Ax.O
