/-
  What is to be shown of the law on changes behind changes is shown.
-/
import Derived.Test.YtjpeimmjggkkjaaAxO11
set_option linter.all false
namespace Go.Ax.O
open Go.Ax.Sp Go.Ax.Law

theorem vJoins {a b : List Change} {k : Unit → Bool × Unit → Prop} (h : oJoins (a, b, ()) k) : V.vJoins a b k := by
  have h : k () (true, ()) := h
  refine br_dec (fun _ => h) (fun ha => br_dec (fun _ => h) (fun hb => ⟨Nat.le_refl _, by omega, ?_⟩))
  refine ⟨fun x => x.1 = a ∧ x.2.1 = b ∧ 0 ≤ x.2.2.2 ∧ x.2.2.2 ≤ b.length ∧ x.2.2.1 = joinC a (b.take x.2.2.2.toNat), fun x => (b.length - x.2.2.2).toNat, (a, b, a, 0), ⟨rfl, rfl, Int.le_refl _, by simp, rfl⟩, ⟨⟨rfl, rfl, ⟨rfl, by simp⟩, rfl, trivial⟩, rfl, trivial⟩, ?_⟩
  rintro ⟨a', b', cur, i⟩ ⟨g1, g2, g3, g4, g5⟩
  simp only [] at g1 g2 g3 g4 g5
  subst g1 g2
  obtain ⟨i, rfl⟩ := Int.eq_ofNat_of_zero_le g3
  simp only [Int.toNat_natCast] at g5
  have hcl : cur.length ≤ a'.length + i := by
    have := joinC_len a' (b'.take i)
    rw [← g5] at this
    have := List.length_take_le i b'
    omega
  dsimp only
  refine br_dec (fun hi n hn => ?_) (fun hi => ?_)
  · rw [w64 (by omega)] at hn
    subst hn
    obtain ⟨e, he⟩ : ∃ e, b'[i]? = some e := ⟨_, List.getElem?_eq_getElem (by omega)⟩
    have hsn := joinC_snoc (a := a') he
    rw [← g5] at hsn
    have next : ∀ c2 : List Change, c2 = join1 cur e → ∀ n, n = IntKind.i64.wrap ((i : Int) + 1) → ∃ y : List Change × List Change × List Change × Int, (y.1 = a' ∧ y.2.1 = b' ∧ 0 ≤ y.2.2.2 ∧ y.2.2.2 ≤ b'.length ∧ y.2.2.1 = joinC a' (b'.take y.2.2.2.toNat)) ∧ (a' = y.1 ∧ b' = y.2.1 ∧ n = y.2.2.2) ∧ c2 = y.2.2.1 ∧ (b'.length - y.2.2.2).toNat < (b'.length - (i : Int)).toNat := by
      intro c2 h2 n hn
      rw [w64 (by omega)] at hn
      subst hn
      refine ⟨(a', b', c2, (i : Int) + 1), ⟨rfl, rfl, by simp only []; omega, by simp only []; omega, ?_⟩, ⟨rfl, rfl, rfl⟩, rfl, by simp only []; omega⟩
      simp only []
      rw [show ((i : Int) + 1).toNat = i + 1 by omega, hsn, h2]
    refine ⟨fun x => x.1 = a' ∧ x.2.1 = b' ∧ x.2.2.1 = cur ∧ x.2.2.2.1 = (i : Int) ∧ -1 ≤ x.2.2.2.2.2 ∧ x.2.2.2.2.2 < cur.length ∧ ((x.2.2.2.2.1 = -1 ∧ ∀ (p : Nat) (z : Change), x.2.2.2.2.2 < (p : Int) → cur[p]? = some z → z.Id ≠ e.Id) ∨ (∃ q : Nat, x.2.2.2.2.1 = (q : Int) ∧ (∃ z, cur[q]? = some z ∧ z.Id = e.Id) ∧ ∀ (p : Nat) (z : Change), x.2.2.2.2.2 < (p : Int) → p < q → cur[p]? = some z → z.Id ≠ e.Id)),
      fun x => (x.2.2.2.2.2 + 1).toNat, (a', b', cur, (i : Int), -1, (cur.length : Int) - 1), ⟨rfl, rfl, rfl, rfl, by simp only []; omega, by simp only []; omega, .inl ⟨rfl, fun p z hp hz => ?_⟩⟩, ⟨⟨rfl, rfl, ⟨rfl, rfl⟩, rfl, rfl, rfl, trivial⟩, rfl, trivial⟩, ?_⟩
    · simp only [] at hp
      have := (List.getElem?_eq_some_iff.1 hz).1
      omega
    rintro ⟨a, b, c1, i', at', j⟩ ⟨f1, f2, f3, f4, f5, f6, f7⟩
    simp only [] at f1 f2 f3 f4 f5 f6 f7
    subst f1 f2 f3 f4
    dsimp only
    refine br_dec (fun hj => ⟨⟨by omega, by omega⟩, by omega, fun e1 he1 => ⟨⟨by omega, by omega⟩, fun e2 he2 => ?_⟩⟩) (fun hj => ?_)
    · rw [Int.toNat_natCast, he] at he2
      cases he2
      obtain ⟨j, rfl⟩ := Int.eq_ofNat_of_zero_le (show 0 ≤ j by omega)
      rw [Int.toNat_natCast, Nat.zero_add] at he1
      refine br_bool (fun hid n hn => ?_) (fun hid n hn => ?_)
      · have hid : e1.Id = e.Id := by simpa using hid
        rw [w64 (by omega)] at hn
        subst hn
        refine ⟨(a, b, c1, (i : Int), (j : Int), (j : Int) - 1), ⟨rfl, rfl, rfl, rfl, by simp only []; omega, by simp only []; omega, .inr ⟨j, rfl, ⟨e1, he1, hid⟩, fun p z hp hpj hz => ?_⟩⟩, ⟨⟨rfl, rfl, ⟨rfl, rfl⟩, rfl, rfl, rfl, trivial⟩, rfl, trivial⟩, by simp only []; omega⟩
        simp only [] at hp
        omega
      · have hid : e1.Id ≠ e.Id := by simpa using hid
        rw [w64 (by omega)] at hn
        subst hn
        refine ⟨(a, b, c1, (i : Int), at', (j : Int) - 1), ⟨rfl, rfl, rfl, rfl, by simp only []; omega, by simp only []; omega, ?_⟩, ⟨⟨rfl, rfl, ⟨rfl, rfl⟩, rfl, rfl, rfl, trivial⟩, rfl, trivial⟩, by simp only []; omega⟩
        simp only []
        have ext : ∀ (p : Nat) (z : Change), (j : Int) - 1 < (p : Int) → c1[p]? = some z → ((j : Int) < p → z.Id ≠ e.Id) → z.Id ≠ e.Id := by
          intro p z hp hz hh
          by_cases hpj : p = j
          · subst hpj; rw [he1] at hz; cases hz; exact hid
          · exact hh (by omega)
        rcases f7 with ⟨e1, f7⟩ | ⟨q, e1, e2, f7⟩
        · exact .inl ⟨e1, fun p z hp hz => ext p z hp hz fun hh => f7 p z hh hz⟩
        · exact .inr ⟨q, e1, e2, fun p z hp hpq hz => ext p z hp hz fun hh => f7 p z hh hpq hz⟩
    · have hj1 : j = -1 := by omega
      subst hj1
      rw [Int.toNat_natCast]
      rcases f7 with ⟨e1, f7⟩ | ⟨q, e1, ⟨z, hz, hzi⟩, f7⟩
      · subst e1
        refine br_dec (fun _ => ⟨⟨by omega, by omega⟩, fun e2 he2 => ⟨Nat.le_refl _, by omega, by omega, fun n hn => ?_⟩⟩) (fun hx => by omega)
        rw [he] at he2
        cases he2
        rw [take_all c1]
        obtain ⟨y, y1, y2, y3, y4⟩ := next (c1 ++ [e]) (join1_none fun p z hz => f7 p z (by omega) hz).symm n hn
        exact ⟨y, y1, ⟨⟨y2.1, y2.2.1, ⟨rfl, by rw [← y3]; simp⟩, y2.2.2, trivial⟩, y3, trivial⟩, y4⟩
      · subst e1
        have hql := (List.getElem?_eq_some_iff.1 hz).1
        rw [Int.toNat_natCast, Nat.zero_add q]
        have hj1 := join1_some hz hzi (fun p z hp hz => f7 p z (by omega) hp hz)
        refine br_dec (fun hx => by omega) (fun _ => ⟨⟨by omega, by omega⟩, by omega, fun e1 he1 => ⟨⟨by omega, by omega⟩, fun e2 he2 => ?_⟩⟩)
        rw [he] at he2
        cases he2
        rw [hz] at he1
        cases he1
        refine br_bool (fun hp => ⟨⟨by omega, by omega⟩, by omega, fun e3 he3 n hn => ?_⟩) (fun hp => ⟨⟨by omega, by omega⟩, fun e3 he3 => ⟨⟨by omega, by omega⟩, by omega, fun e4 he4 n hn => ?_⟩⟩)
        · obtain ⟨y, y1, y2, y3, y4⟩ := next (c1.set q ⟨z.Id, z.From, e.To, z.Plan || e.Plan⟩) hj1.symm n hn
          refine ⟨y, y1, ⟨⟨y2.1, y2.2.1, ⟨rfl, by rw [← y3]; simp⟩, y2.2.2, trivial⟩, ?_, trivial⟩, y4⟩
          rw [← y3, hp]; simp
        · rw [he] at he3
          cases he3
          obtain ⟨y, y1, y2, y3, y4⟩ := next (c1.set q ⟨z.Id, z.From, e.To, z.Plan || e.Plan⟩) hj1.symm n hn
          refine ⟨y, y1, ⟨⟨y2.1, y2.2.1, ⟨rfl, by rw [← y3]; simp⟩, y2.2.2, trivial⟩, ?_, trivial⟩, y4⟩
          rw [← y3, hp]; simp
  · have hii : i = b'.length := by omega
    subst hii
    rw [List.take_length] at g5
    refine ⟨fun x => x.1 = a' ∧ x.2.1 = b' ∧ x.2.2.1 = cur ∧ 0 ≤ x.2.2.2.2 ∧ x.2.2.2.2 ≤ cur.length ∧ x.2.2.2.1 = keptC (cur.take x.2.2.2.2.toNat) ∧ SmallIds (cur.take x.2.2.2.2.toNat), fun x => (cur.length - x.2.2.2.2).toNat, (a', b', cur, [], 0), ⟨rfl, rfl, rfl, Int.le_refl _, by simp, rfl, fun c hc => by simp at hc⟩, ⟨⟨rfl, rfl, ⟨rfl, rfl⟩, ⟨rfl, rfl⟩, rfl, trivial⟩, rfl, rfl, trivial⟩, ?_⟩
    rintro ⟨a, b, all, kept, j⟩ ⟨f1, f2, f3, f4, f5, f6, f7⟩
    simp only [] at f1 f2 f3 f4 f5 f6 f7
    subst f1 f2 f3
    obtain ⟨j, rfl⟩ := Int.eq_ofNat_of_zero_le f4
    simp only [Int.toNat_natCast] at f6 f7
    have hkl : kept.length ≤ 60 := by
      rw [f6]
      have := keptC_len (all.take j)
      have := List.length_take_le' j all
      omega
    dsimp only
    rw [Int.toNat_natCast, Nat.zero_add, take_all kept]
    refine br_dec (fun hj => ⟨⟨by omega, hj⟩, by omega, fun e he => ?_⟩) (fun hj => ?_)
    · have hs := keptC_snoc he
      have hst := take_step he
      refine br_dec (fun _ => h) (fun hlo => ⟨⟨by omega, hj⟩, by omega, fun e1 he1 => ?_⟩)
      rw [he] at he1; cases he1
      refine br_dec (fun _ => h) (fun hhi => ⟨⟨by omega, hj⟩, by omega, fun e1 he1 => ⟨⟨by omega, hj⟩, by omega, fun e2 he2 => ?_⟩⟩)
      rw [he] at he1; cases he1
      rw [he] at he2; cases he2
      have next : ∀ k2 : List Change, k2 = keptC (all.take (j + 1)) → ∀ n, n = IntKind.i64.wrap ((j : Int) + 1) → ∃ y : List Change × List Change × List Change × List Change × Int, (y.1 = a ∧ y.2.1 = b ∧ y.2.2.1 = all ∧ 0 ≤ y.2.2.2.2 ∧ y.2.2.2.2 ≤ all.length ∧ y.2.2.2.1 = keptC (all.take y.2.2.2.2.toNat) ∧ SmallIds (all.take y.2.2.2.2.toNat)) ∧ (a = y.1 ∧ b = y.2.1 ∧ all = y.2.2.1 ∧ n = y.2.2.2.2) ∧ k2 = y.2.2.2.1 ∧ (all.length - y.2.2.2.2).toNat < (all.length - (j : Int)).toNat := by
        intro k2 hk2 n hn
        rw [w64 (by omega)] at hn
        subst hn
        have hj1 : ((j : Int) + 1).toNat = j + 1 := by omega
        refine ⟨(a, b, all, k2, (j : Int) + 1), ⟨rfl, rfl, rfl, by simp only []; omega, by simp only []; omega, by simp only []; rw [hj1]; exact hk2, ?_⟩, ⟨rfl, rfl, rfl, rfl⟩, rfl, by simp only []; omega⟩
        simp only []
        rw [hj1, hst]
        intro c hc
        rcases List.mem_append.1 hc with hc | hc
        · exact f7 c hc
        · simp at hc; subst hc; omega
      have push : idle e = false → ∀ n, n = IntKind.i64.wrap ((j : Int) + 1) → ∃ y : List Change × List Change × List Change × List Change × Int, (y.1 = a ∧ y.2.1 = b ∧ y.2.2.1 = all ∧ 0 ≤ y.2.2.2.2 ∧ y.2.2.2.2 ≤ all.length ∧ y.2.2.2.1 = keptC (all.take y.2.2.2.2.toNat) ∧ SmallIds (all.take y.2.2.2.2.toNat)) ∧ ((a = y.1 ∧ b = y.2.1 ∧ (0 = 0 ∧ all.length = y.2.2.1.length) ∧ (0 = 0 ∧ kept.length + 1 = y.2.2.2.1.length) ∧ n = y.2.2.2.2 ∧ True) ∧ all = y.2.2.1 ∧ kept ++ [e] = y.2.2.2.1 ∧ True) ∧ (all.length - y.2.2.2.2).toNat < (all.length - (j : Int)).toNat := by
        intro hid n hn
        obtain ⟨y, y1, y2, y3, y4⟩ := next (kept ++ [e]) (by rw [hs, hid, f6]; simp) n hn
        exact ⟨y, y1, ⟨⟨y2.1, y2.2.1, ⟨rfl, by rw [← y2.2.2.1]⟩, ⟨rfl, by rw [← y3]; simp⟩, y2.2.2.2, trivial⟩, y2.2.2.1, y3, trivial⟩, y4⟩
      refine br_not (fun hne => ⟨⟨by omega, hj⟩, by omega, fun e1 he1 => ⟨Nat.le_refl _, by omega, by omega, ?_⟩⟩) (fun heq => ⟨⟨by omega, hj⟩, by omega, fun e1 he1 => ?_⟩)
      · rw [he] at he1; cases he1
        have hne : e.From ≠ e.To := by simpa using hne
        exact push (by simp [idle, hne])
      · rw [he] at he1; cases he1
        have heq : e.From = e.To := by simpa using heq
        refine br_bool (fun hp => ⟨⟨by omega, hj⟩, by omega, fun e1 he1 => ⟨Nat.le_refl _, by omega, by omega, ?_⟩⟩) (fun hp n hn => ?_)
        · rw [he] at he1; cases he1
          exact push (by simp [idle, hp])
        · obtain ⟨y, y1, y2, y3, y4⟩ := next kept (by rw [hs, f6]; simp [idle, heq, hp]) n hn
          exact ⟨y, y1, ⟨⟨y2.1, y2.2.1, ⟨rfl, by rw [← y2.2.2.1]⟩, ⟨rfl, by rw [← y3]⟩, y2.2.2.2, trivial⟩, y2.2.2.1, y3, trivial⟩, y4⟩
    · have hjj : j = all.length := by omega
      subst hjj
      rw [List.take_length] at f6 f7
      subst g5
      rw [← f6]
      refine ⟨⟨f7, by omega, by omega⟩, fun ys hys => ?_⟩
      have hyl := hys.1
      refine br_not (fun hne => by simp at hne; omega) (fun _ => ?_)
      refine ⟨fun x => x.2.1 = kept ∧ x.2.2.1 = ys ∧ 0 ≤ x.2.2.2 ∧ x.2.2.2 ≤ kept.length, fun x => (kept.length - x.2.2.2).toNat, (joinC a b, kept, ys, 0), ⟨rfl, rfl, Int.le_refl _, by simp⟩, ⟨⟨⟨rfl, rfl⟩, ⟨rfl, rfl⟩, rfl, trivial⟩, rfl, rfl, rfl, trivial⟩, ?_⟩
      rintro ⟨al, kp, yy, i⟩ ⟨q1, q2, q3, q4⟩
      simp only [] at q1 q2 q3 q4
      subst q1 q2
      obtain ⟨i, rfl⟩ := Int.eq_ofNat_of_zero_le q3
      dsimp only
      refine br_dec (fun hi => ?_) (fun _ => h)
      obtain ⟨c, hc⟩ : ∃ c, kp[i]? = some c := ⟨_, List.getElem?_eq_getElem (by omega)⟩
      have hst := stable_at hys hc
      refine ⟨fun x => x.2.1 = kp ∧ x.2.2.1 = yy ∧ x.2.2.2.1 = (i : Int) ∧ 0 ≤ x.2.2.2.2.2 ∧ x.2.2.2.2.2 ≤ kp.length ∧ x.2.2.2.2.1 = (((kp.take x.2.2.2.2.2.toNat).countP (fun y => decide (y.Id < c.Id)) + ((kp.take x.2.2.2.2.2.toNat).take i).countP (keyIs Change.Id c.Id) : Nat) : Int), fun x => (kp.length - x.2.2.2.2.2).toNat, (al, kp, yy, (i : Int), 0, 0), ⟨rfl, rfl, rfl, Int.le_refl _, by simp, by simp⟩, ⟨⟨⟨rfl, rfl⟩, ⟨rfl, rfl⟩, rfl, rfl, rfl, trivial⟩, rfl, rfl, rfl, trivial⟩, ?_⟩
      rintro ⟨al', kp', yy', i', at', j⟩ ⟨p1, p2, p3, p4, p5, p6⟩
      simp only [] at p1 p2 p3 p4 p5 p6
      subst p1 p2 p3
      obtain ⟨j, rfl⟩ := Int.eq_ofNat_of_zero_le p4
      simp only [Int.toNat_natCast] at p6
      dsimp only
      rw [Int.toNat_natCast, Int.toNat_natCast, Nat.zero_add, Nat.zero_add]
      refine br_dec (fun hj => ⟨⟨by omega, hj⟩, by omega, fun e he => ⟨⟨by omega, hi⟩, by omega, fun e1 he1 => ?_⟩⟩) (fun hj => ?_)
      · rw [hc] at he1; cases he1
        have hts := take_step he
        have htt := take_take_succ (i := i) he
        have hcb : ((kp'.take j).countP (fun y => decide (y.Id < c.Id)) + ((kp'.take j).take i).countP (keyIs Change.Id c.Id)) ≤ 120 := by
          have := List.countP_le_length (p := fun y : Change => decide (y.Id < c.Id)) (l := kp'.take j)
          have := List.countP_le_length (p := keyIs Change.Id c.Id) (l := (kp'.take j).take i)
          simp only [List.length_take] at *
          omega
        have next : ∀ at2 : Int, at2 = (((kp'.take (j + 1)).countP (fun y => decide (y.Id < c.Id)) + ((kp'.take (j + 1)).take i).countP (keyIs Change.Id c.Id) : Nat) : Int) → ∀ n, n = IntKind.i64.wrap ((j : Int) + 1) → ∃ y : List Change × List Change × List Change × Int × Int × Int, (y.2.1 = kp' ∧ y.2.2.1 = yy' ∧ y.2.2.2.1 = (i : Int) ∧ 0 ≤ y.2.2.2.2.2 ∧ y.2.2.2.2.2 ≤ kp'.length ∧ y.2.2.2.2.1 = (((kp'.take y.2.2.2.2.2.toNat).countP (fun y => decide (y.Id < c.Id)) + ((kp'.take y.2.2.2.2.2.toNat).take i).countP (keyIs Change.Id c.Id) : Nat) : Int)) ∧
            (((0 = 0 ∧ kp'.length = y.2.1.length) ∧ (0 = 0 ∧ yy'.length = y.2.2.1.length) ∧ (i : Int) = y.2.2.2.1 ∧ at2 = y.2.2.2.2.1 ∧ n = y.2.2.2.2.2 ∧ True) ∧ al' = y.1 ∧ kp' = y.2.1 ∧ yy' = y.2.2.1 ∧ True) ∧ (kp'.length - y.2.2.2.2.2).toNat < (kp'.length - (j : Int)).toNat := by
          intro at2 h2 n hn
          rw [w64 (by omega)] at hn
          subst hn
          have hj1 : ((j : Int) + 1).toNat = j + 1 := by omega
          refine ⟨(al', kp', yy', (i : Int), at2, (j : Int) + 1), ⟨rfl, rfl, rfl, by simp only []; omega, by simp only []; omega, by simp only []; rw [hj1]; exact h2⟩, ⟨⟨⟨rfl, rfl⟩, ⟨rfl, rfl⟩, rfl, rfl, rfl, trivial⟩, rfl, rfl, rfl, trivial⟩, by simp only []; omega⟩
        rw [hts, List.countP_append] at next
        rw [← hts, htt] at next
        refine br_dec (fun hlt n hn => ?_) (fun hlt => ⟨⟨by omega, hj⟩, by omega, fun e1 he1 => ⟨⟨by omega, hi⟩, by omega, fun e2 he2 => ?_⟩⟩)
        · rw [w64 (by omega)] at hn
          refine next _ ?_
          rw [hn, p6]
          have hk : keyIs Change.Id c.Id e = false := by simp [keyIs]; omega
          split <;> simp [List.countP_append, hlt, hk] <;> omega
        · rw [he] at he1; cases he1
          rw [hc] at he2; cases he2
          refine br_bool (fun heq => br_dec (fun hji n hn => ?_) (fun hji => ?_)) (fun hne => ?_)
          · have heq : e.Id = c.Id := by simpa using heq
            rw [w64 (by omega)] at hn
            refine next _ ?_
            rw [hn, p6, if_pos (by omega)]
            have hk : keyIs Change.Id c.Id e = true := by simp [keyIs]; omega
            simp [List.countP_append, hlt, hk]; omega
          · refine next _ ?_
            rw [p6, if_neg (by omega)]
            simp [hlt]
          · have hne : e.Id ≠ c.Id := by simpa using hne
            refine next _ ?_
            rw [p6]
            have hk : keyIs Change.Id c.Id e = false := by simp [keyIs]; omega
            split <;> simp [List.countP_append, hlt, hk]
      · have hjj : j = kp'.length := by omega
        subst hjj
        rw [List.take_length] at p6
        subst p6
        have hal := (List.getElem?_eq_some_iff.1 hst).1
        rw [Int.toNat_natCast, Nat.zero_add]
        refine ⟨⟨by omega, by omega⟩, hal, fun e he => ⟨⟨by omega, hi⟩, by omega, fun e1 he1 => ?_⟩⟩
        rw [hst] at he; cases he
        rw [hc] at he1; cases he1
        refine br_not (fun hx => by simp at hx) (fun _ n hn => ?_)
        rw [w64 (by omega)] at hn
        subst hn
        exact ⟨(al', kp', yy', (i : Int) + 1), ⟨rfl, rfl, by simp only []; omega, by simp only []; omega⟩, ⟨⟨⟨rfl, rfl⟩, ⟨rfl, rfl⟩, rfl, trivial⟩, rfl, rfl, rfl, trivial⟩, by simp only []; omega⟩
end Go.Ax.O
