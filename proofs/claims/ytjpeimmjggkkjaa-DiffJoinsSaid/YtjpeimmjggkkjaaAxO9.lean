/-
  What is to be shown of the functions is shown: a merge in place.
-/
import Derived.Test.YtjpeimmjggkkjaaAxO8
import Derived.Test.YtjpeimmjggkkjaaAxS5
set_option linter.all false
namespace Go.Ax.O
open Go.Ax.Sp Go.Ax.Law

theorem atI_of {xs : List Change} {p : Int} {e : Change} (h : xs[0 + p.toNat]? = some e) : atI xs p = some e := by rw [Nat.zero_add] at h; exact h
theorem small_at {xs : List Change} (h : SmallIds xs) {p : Int} {e : Change} (he : atI xs p = some e) : -1099511627776 ≤ e.Id ∧ e.Id ≤ 1099511627776 := h e (List.mem_of_getElem? he)

theorem symTR {n : Nat} {l ys zs : List Change} {a st mid en m : Int} {k : List Change × Unit → Unit → Prop} (hH : Halves Change.Id l ys a st mid en m) (hsm : SmallIds l) (h0 : 0 ≤ a) (h1 : a < mid) (h2 : mid ≤ en) (h3 : en ≤ m) (hml : m ≤ l.length) (hll : l.length ≤ 1099511627776) (hN : (m - a).toNat < n + 1)
    (hk : ∀ ws, SortedSeg Change.Id l ws a m → k (ws, ()) ()) (hz : SortedSeg Change.Id ys zs a mid) :
    br (decide (mid < en)) (br (decide (en < m)) (l.length = zs.length ∧ SymPre n zs mid en m ∧ ∀ ws, SortedSeg Change.Id zs ws mid m → l.length = ws.length ∧ k (ws, ()) ()) (l.length = zs.length ∧ k (zs, ()) ())) (l.length = zs.length ∧ k (zs, ()) ()) := by
  have hzl : zs.length = l.length := by rw [hz.1, hH.len]
  have r3 : Rises Change.Id zs mid en := hH.r3.congr fun i h0 h1 h2 => hz.out h0 (by omega)
  have r4 : Rises Change.Id zs en m := hH.r4.congr fun i h0 h1 h2 => hz.out h0 (by omega)
  refine br_dec (fun c1 => br_dec (fun c2 => ?_) (fun c2 => ?_)) (fun c1 => ?_)
  · refine ⟨hzl.symm, ⟨⟨by omega, c1, c2, by omega, by omega⟩, ?_, by omega, r3, r4⟩, fun ws hw => ⟨by rw [hw.1, hzl], hk ws (hH.merge h0 (by omega) (by omega) hz hw)⟩⟩
    exact small_seg (small_seg hsm hH.fil) hz.2.2.2
  · have : en = m := by omega
    subst this
    exact ⟨hzl.symm, hk zs (hH.merge h0 (by omega) (by omega) hz (.same r3))⟩
  · have : en = mid := by omega
    subst this
    exact ⟨hzl.symm, hk zs (hH.merge h0 (by omega) (by omega) hz (.same r4))⟩

theorem symTL {n : Nat} {l ys : List Change} {a st mid en m : Int} {k : List Change × Unit → Unit → Prop} (hH : Halves Change.Id l ys a st mid en m) (hsm : SmallIds l) (h0 : 0 ≤ a) (h1 : a < mid) (h2 : mid ≤ en) (h3 : en ≤ m) (hmm : mid < m) (hs1 : a ≤ st) (hs2 : st ≤ mid) (hml : m ≤ l.length) (hll : l.length ≤ 1099511627776) (hN : (m - a).toNat < n + 1)
    (hk : ∀ ws, SortedSeg Change.Id l ws a m → k (ws, ()) ()) {A : List Change → Prop} (hA : ∀ zs, SortedSeg Change.Id ys zs a mid → A zs) :
    br (decide (a < st)) (br (decide (st < mid)) (l.length = ys.length ∧ SymPre n ys a st mid ∧ ∀ zs, SortedSeg Change.Id ys zs a mid → A zs) (A ys)) (A ys) := by
  refine br_dec (fun c1 => br_dec (fun c2 => ?_) (fun c2 => ?_)) (fun c1 => ?_)
  · exact ⟨hH.len.symm, ⟨⟨by omega, c1, c2, by rw [hH.len]; omega, by rw [hH.len]; exact hll⟩, small_seg hsm hH.fil, by omega, hH.r1, hH.r2⟩, hA⟩
  · have : st = mid := by omega
    subst this
    exact hA ys (.same hH.r1)
  · have : st = a := by omega
    subst this
    exact hA ys (.same hH.r2)

theorem vSym {n : Nat} {l : List Change} {a b m : Int} {k : List Change × Unit → Unit → Prop} (h : oSym 0 (n + 1) (l, a, b, m, (), ()) k) : V.vSym n l a b m k := by
  obtain ⟨⟨⟨h1, h2, h3, h4, h5⟩, hsm, hN, s1, s2⟩, hk⟩ := h
  simp only [] at h1 h2 h3 h4 h5 hsm hN s1 s2 hk
  intro n1 hn1
  rw [w64 (by omega)] at hn1
  subst hn1
  refine br_bool (fun hc => ?_) (fun hc n2 hn2 => ?_)
  · have hb : b = a + 1 := by simp at hc; omega
    subst hb
    obtain ⟨u, hu⟩ := atI_some (xs := l) (p := a) h1 (by omega)
    have hus := small_at hsm hu
    refine ⟨fun x => x.1 = l ∧ x.2.1 = a ∧ a + 1 ≤ x.2.2.1 ∧ x.2.2.1 ≤ x.2.2.2 ∧ x.2.2.2 ≤ m ∧ (∀ (p : Int) (x' : Change), a + 1 ≤ p → p < x.2.2.1 → atI l p = some x' → x'.Id < u.Id) ∧ (∀ (p : Int) (x' : Change), x.2.2.2 ≤ p → p < m → atI l p = some x' → u.Id ≤ x'.Id),
      fun x => (x.2.2.2 - x.2.2.1).toNat, (l, a, a + 1, m), ⟨rfl, rfl, Int.le_refl _, by simp only []; omega, Int.le_refl _, fun p x' p1 p2 => by simp only [] at p2; omega, fun p x' p1 p2 => by simp only [] at p1; omega⟩, ⟨⟨⟨rfl, rfl⟩, rfl, trivial, rfl, rfl, trivial⟩, rfl, trivial⟩, ?_⟩
    rintro ⟨c, a', i, j⟩ ⟨g1, g2, g3, g4, g5, g6, g7⟩
    simp only [] at g1 g2 g3 g4 g5 g6 g7
    subst g1 g2
    dsimp only
    refine br_dec (fun hij n1 e1 n2 e2 => ⟨by decide, fun n3 e3 n4 e4 => ?_⟩) (fun hij => ?_)
    · have hh := half (by omega) (by omega) e1 e2 e3 e4
      clear e1 e2 e3 e4
      have hh1 : i ≤ n4 ∧ n4 < j := by omega
      refine ⟨⟨by omega, by omega⟩, by omega, fun e he => ⟨⟨by omega, by omega⟩, by omega, fun e1 he1 => ⟨?_, trivial⟩⟩⟩
      have he := atI_of he
      have he1 := atI_of he1
      rw [hu] at he1
      cases he1
      have hes := small_at hsm he
      refine br_dec (fun hlt n5 hn5 => ?_) (fun hlt => ?_)
      · rw [idCmp_lt hes hus] at hlt
        rw [w64 (by omega)] at hn5
        subst hn5
        refine ⟨(c, a', n4 + 1, j), ⟨rfl, rfl, by simp only []; omega, by simp only []; omega, g5, fun p x' p1 p2 hx => ?_, g7⟩, ⟨⟨⟨rfl, rfl⟩, rfl, trivial, rfl, rfl, trivial⟩, rfl, trivial⟩, by simp only []; omega⟩
        simp only [] at p2
        have := s2.le (by omega) p1 (by omega : p ≤ n4) (by omega) hx he
        omega
      · rw [idCmp_lt hes hus] at hlt
        refine ⟨(c, a', i, n4), ⟨rfl, rfl, g3, by simp only []; omega, by simp only []; omega, g6, fun p x' p1 p2 hx => ?_⟩, ⟨⟨⟨rfl, rfl⟩, rfl, trivial, rfl, rfl, trivial⟩, rfl, trivial⟩, by simp only []; omega⟩
        simp only [] at p1
        have := s2.le (by omega) (by omega) p1 p2 he hx
        omega
    · have hij : j = i := by omega
      subst hij
      refine ⟨fun x => x.2.1 = j ∧ a' ≤ x.2.2 ∧ (x.2.2 ≤ j - 1) ∧ Rotated c x.1 a' (a' + 1) (x.2.2 + 1), fun x => (j - x.2.2).toNat, (c, j, a'), ⟨rfl, Int.le_refl _, by simp only []; omega, Rotated.triv (.inr rfl) (by omega) (Int.le_refl _)⟩, ⟨⟨⟨rfl, rfl⟩, rfl, rfl, trivial⟩, rfl, trivial⟩, ?_⟩
      rintro ⟨d, j', q⟩ ⟨f1, f2, f3, f4⟩
      simp only [] at f1 f2 f3 f4
      subst f1
      have hdl := f4.1
      dsimp only
      intro n1 hn1
      rw [w64 (by omega)] at hn1
      subst hn1
      refine br_dec (fun hlt n2 hn2 n3 hn3 => ?_) (fun hlt => ?_)
      · rw [w64 (by omega)] at hn2 hn3
        subst hn2 hn3
        refine ⟨⟨by omega, by omega⟩, by omega, fun e he => ⟨⟨by omega, by omega⟩, by omega, fun e1 he1 => ⟨⟨by omega, by omega⟩, ⟨by omega, fun e2 _ => ⟨⟨by omega, by omega⟩, ⟨by rw [List.length_set]; omega, fun e3 _ n4 hn4 => ?_⟩, trivial⟩⟩, trivial⟩⟩⟩
        rw [w64 (by omega)] at hn4
        subst hn4
        refine ⟨((d.set (0 + q.toNat) e).set (0 + (q + 1).toNat) e1, j', q + 1), ⟨rfl, by simp only []; omega, by simp only []; omega, ?_⟩, ⟨⟨⟨rfl, by simp⟩, rfl, rfl, trivial⟩, rfl, trivial⟩, by simp only []; omega⟩
        simp only [Nat.zero_add]
        have := f4.stepL h1 f2 (by omega) (atI_of he1) (atI_of he)
        rw [show q + 1 + 1 = q + 2 by omega]
        exact this
      · have hq : q + 1 = j' := by omega
        rw [hq] at f4
        exact ⟨hdl.symm, hk d (insL h1 (by omega) (by omega) h4 hu s2 g6 g7 f4)⟩
  · rw [w64 (by omega)] at hn2
    subst hn2
    have hc : b - a ≠ 1 := by simpa using hc
    refine br_bool (fun hc2 => ?_) (fun hc2 => ?_)
    · have hb : m = b + 1 := by simp at hc2; omega
      subst hb
      obtain ⟨v, hv⟩ := atI_some (xs := l) (p := b) (by omega) (by omega)
      have hvs := small_at hsm hv
      refine ⟨fun x => x.1 = l ∧ x.2.1 = b ∧ a ≤ x.2.2.1 ∧ x.2.2.1 ≤ x.2.2.2 ∧ x.2.2.2 ≤ b ∧ (∀ (p : Int) (x' : Change), a ≤ p → p < x.2.2.1 → atI l p = some x' → x'.Id ≤ v.Id) ∧ (∀ (p : Int) (x' : Change), x.2.2.2 ≤ p → p < b → atI l p = some x' → v.Id < x'.Id),
        fun x => (x.2.2.2 - x.2.2.1).toNat, (l, b, a, b), ⟨rfl, rfl, Int.le_refl _, by simp only []; omega, Int.le_refl _, fun p x' p1 p2 => by simp only [] at p2; omega, fun p x' p1 p2 => by simp only [] at p1; omega⟩, ⟨⟨⟨rfl, rfl⟩, rfl, trivial, rfl, rfl, trivial⟩, rfl, trivial⟩, ?_⟩
      rintro ⟨c, b', i, j⟩ ⟨g1, g2, g3, g4, g5, g6, g7⟩
      simp only [] at g1 g2 g3 g4 g5 g6 g7
      subst g1 g2
      dsimp only
      refine br_dec (fun hij n1 e1 n2 e2 => ⟨by decide, fun n3 e3 n4 e4 => ?_⟩) (fun hij => ?_)
      · have hh := half (by omega) (by omega) e1 e2 e3 e4
        clear e1 e2 e3 e4
        have hh1 : i ≤ n4 ∧ n4 < j := by omega
        refine ⟨⟨by omega, by omega⟩, by omega, fun e he => ⟨⟨by omega, by omega⟩, by omega, fun e1 he1 => ⟨?_, trivial⟩⟩⟩
        have he := atI_of he
        have he1 := atI_of he1
        rw [hv] at he
        cases he
        have hes := small_at hsm he1
        refine br_not (fun hlt => ?_) (fun hlt => ?_)
        · intro n5 hn5
          have hlt : ¬ idCmp v e1 < 0 := of_decide_eq_false hlt
          rw [idCmp_lt hvs hes] at hlt
          rw [w64 (by omega)] at hn5
          subst hn5
          refine ⟨(c, b', n4 + 1, j), ⟨rfl, rfl, by simp only []; omega, by simp only []; omega, g5, fun p x' p1 p2 hx => ?_, g7⟩, ⟨⟨⟨rfl, rfl⟩, rfl, trivial, rfl, rfl, trivial⟩, rfl, trivial⟩, by simp only []; omega⟩
          simp only [] at p2
          have := s1.le (by omega) p1 (by omega : p ≤ n4) (by omega) hx he1
          omega
        · have hlt : idCmp v e1 < 0 := of_decide_eq_true hlt
          rw [idCmp_lt hvs hes] at hlt
          refine ⟨(c, b', i, n4), ⟨rfl, rfl, g3, by simp only []; omega, by simp only []; omega, g6, fun p x' p1 p2 hx => ?_⟩, ⟨⟨⟨rfl, rfl⟩, rfl, trivial, rfl, rfl, trivial⟩, rfl, trivial⟩, by simp only []; omega⟩
          simp only [] at p1
          have := s1.le (by omega) (by omega) p1 p2 he1 hx
          omega
      · have hij : j = i := by omega
        subst hij
        refine ⟨fun x => x.2.1 = j ∧ j ≤ x.2.2 ∧ x.2.2 ≤ b' ∧ Rotated c x.1 x.2.2 b' (b' + 1), fun x => (x.2.2 - j).toNat, (c, j, b'), ⟨rfl, by simp only []; omega, Int.le_refl _, Rotated.triv (.inl rfl) (Int.le_refl _) (by omega)⟩, ⟨⟨⟨rfl, rfl⟩, rfl, rfl, trivial⟩, rfl, trivial⟩, ?_⟩
        rintro ⟨d, j', q⟩ ⟨f1, f2, f3, f4⟩
        simp only [] at f1 f2 f3 f4
        subst f1
        have hdl := f4.1
        dsimp only
        refine br_dec (fun hlt n2 hn2 n3 hn3 => ?_) (fun hlt => ?_)
        · rw [w64 (by omega)] at hn2 hn3
          subst hn2 hn3
          refine ⟨⟨by omega, by omega⟩, by omega, fun e he => ⟨⟨by omega, by omega⟩, by omega, fun e1 he1 => ⟨⟨by omega, by omega⟩, ⟨by omega, fun e2 _ => ⟨⟨by omega, by omega⟩, ⟨by rw [List.length_set]; omega, fun e3 _ n4 hn4 => ?_⟩, trivial⟩⟩, trivial⟩⟩⟩
          rw [w64 (by omega)] at hn4
          subst hn4
          refine ⟨((d.set (0 + q.toNat) e).set (0 + (q - 1).toNat) e1, j', q - 1), ⟨rfl, by simp only []; omega, by simp only []; omega, ?_⟩, ⟨⟨⟨rfl, by simp⟩, rfl, rfl, trivial⟩, rfl, trivial⟩, by simp only []; omega⟩
          simp only [Nat.zero_add]
          exact f4.stepR (by omega) f3 (by omega) (atI_of he) (atI_of he1)
        · have hq : q = j' := by omega
          subst hq
          exact ⟨hdl.symm, hk d (insR h1 g3 (by omega) (by omega) hv s1 g6 g7 f4)⟩
    · have hc2 : m - b ≠ 1 := by simpa using hc2
      intro n3 e3 n4 e4
      refine ⟨by decide, fun n5 e5 mid e6 => ?_⟩
      have hmid := half (by omega) (by omega) e3 e4 e5 e6
      clear e3 e4 e5 e6
      have hm1 : a < mid ∧ mid < m ∧ mid ≤ (a + m) / 2 ∧ (a + m) / 2 ≤ mid := by omega
      intro n7 hn7
      rw [w64 (by omega)] at hn7
      subst hn7
      refine br_dec (fun hg n8 hn8 n9 hn9 => ?_) (fun hg n8 hn8 => ?_)
      · rw [w64 (by omega)] at hn8 hn9
        subst hn8 hn9
        obtain ⟨lo, hi, hlh⟩ : ∃ lo hi : Int, (mid < b ∧ lo = mid + b - m ∧ hi = mid) ∨ (b ≤ mid ∧ lo = a ∧ hi = b) := ⟨_, _, .inl ⟨by omega, rfl, rfl⟩⟩
        refine ⟨fun x => x.1 = l ∧ x.2.1 = a ∧ x.2.2.1 = b ∧ x.2.2.2.1 = m ∧ x.2.2.2.2.1 = mid ∧ x.2.2.2.2.2.1 = mid + b ∧ lo ≤ x.2.2.2.2.2.2.1 ∧ x.2.2.2.2.2.2.1 ≤ x.2.2.2.2.2.2.2.1 ∧ x.2.2.2.2.2.2.2.1 ≤ hi ∧ x.2.2.2.2.2.2.2.2 = mid + b - 1 ∧ (∀ (c : Int) (u v : Change), lo ≤ c → c < x.2.2.2.2.2.2.1 → atI l c = some u → atI l (mid + b - 1 - c) = some v → u.Id ≤ v.Id) ∧ (∀ (c : Int) (u v : Change), x.2.2.2.2.2.2.2.1 ≤ c → c < hi → atI l c = some u → atI l (mid + b - 1 - c) = some v → v.Id < u.Id),
          fun x => (x.2.2.2.2.2.2.2.1 - x.2.2.2.2.2.2.1).toNat, (l, a, b, m, mid, mid + b, mid + b - m, mid, mid + b - 1), ⟨rfl, rfl, rfl, rfl, rfl, rfl, by simp only []; omega, by simp only []; omega, by simp only []; omega, rfl, fun c u v q1 q2 => by simp only [] at q2; omega, fun c u v q1 q2 => by simp only [] at q1; omega⟩, ⟨⟨⟨rfl, rfl⟩, rfl, rfl, rfl, trivial, rfl, rfl, rfl, rfl, rfl, trivial⟩, rfl, trivial⟩, ?_⟩
        rintro ⟨c, a', b', m', mid', n', st, r, p⟩ ⟨g1, g2, g3, g4, g5, g6, g7, g8, g9, g10, g11, g12⟩
        simp only [] at g1 g2 g3 g4 g5 g6 g7 g8 g9 g10 g11 g12
        subst g1 g2 g3 g4 g5 g6 g10
        have hal : a' ≤ lo := by omega
        have hib : hi ≤ b' ∧ hi ≤ mid' := by omega
        dsimp only
        refine br_dec (fun hlt n1 e1 n2 e2 => ⟨by decide, fun n3 e3 n4 e4 n5 hn5 => ?_⟩) (fun hlt n1 hn1 => ?_)
        · have hh := half (by omega) (by omega) e1 e2 e3 e4
          clear e1 e2 e3 e4
          have hh1 : st ≤ n4 ∧ n4 < r := by omega
          rw [w64 (by omega)] at hn5
          subst hn5
          refine ⟨⟨by omega, by omega⟩, by omega, fun e he => ⟨⟨by omega, by omega⟩, by omega, fun e1 he1 => ⟨?_, trivial⟩⟩⟩
          have he := atI_of he
          have he1 := atI_of he1
          have hes := small_at hsm he
          have hes1 := small_at hsm he1
          refine br_not (fun hq n6 hn6 => ?_) (fun hq => ?_)
          · have hq : ¬ idCmp e e1 < 0 := of_decide_eq_false hq
            rw [idCmp_lt hes hes1] at hq
            rw [w64 (by omega)] at hn6
            subst hn6
            refine ⟨(c, a', b', m', mid', mid' + b', n4 + 1, r, mid' + b' - 1), ⟨rfl, rfl, rfl, rfl, rfl, rfl, by simp only []; omega, by simp only []; omega, g9, rfl, fun c u v q1 q2 hu hv => ?_, g12⟩, ⟨⟨⟨rfl, rfl⟩, rfl, rfl, rfl, trivial, rfl, rfl, rfl, rfl, rfl, trivial⟩, rfl, trivial⟩, by simp only []; omega⟩
            simp only [] at q2
            have l1 := s1.le (by omega) (by omega : a' ≤ c) (by omega : c ≤ n4) (by omega) hu he1
            have l2 := s2.le (by omega) (by omega) (by omega : mid' + b' - 1 - n4 ≤ mid' + b' - 1 - c) (by omega) he hv
            omega
          · have hq : idCmp e e1 < 0 := of_decide_eq_true hq
            rw [idCmp_lt hes hes1] at hq
            refine ⟨(c, a', b', m', mid', mid' + b', st, n4, mid' + b' - 1), ⟨rfl, rfl, rfl, rfl, rfl, rfl, g7, by simp only []; omega, by simp only []; omega, rfl, g11, fun c u v q1 q2 hu hv => ?_⟩, ⟨⟨⟨rfl, rfl⟩, rfl, rfl, rfl, trivial, rfl, rfl, rfl, rfl, rfl, trivial⟩, rfl, trivial⟩, by simp only []; omega⟩
            simp only [] at q1
            have l1 := s1.le (by omega) (by omega : a' ≤ n4) q1 (by omega) he1 hu
            have l2 := s2.le (by omega) (by omega) (by omega : mid' + b' - 1 - c ≤ mid' + b' - 1 - n4) (by omega) hv he
            omega
        · have hr : r = st := by omega
          subst hr
          rw [w64 (by omega)] at hn1
          subst hn1
          obtain ⟨en, hen⟩ : ∃ en, en = mid' + b' - r := ⟨_, rfl⟩
          rw [← hen]
          have hH : ∀ ys, Rotated c ys r b' en → Halves Change.Id c ys a' r mid' en m' := fun ys hys => halves h1 h2 h3 h4 (by omega) (by omega) hlh hal g7 g9 hen (by omega) s1 s2 g11 g12 hys
          refine br_dec (fun c1 => br_dec (fun c2 => ?_) (fun c2 => ?_)) (fun c1 => ?_)
          · refine ⟨rfl, ⟨by omega, c1, c2, by omega, h5⟩, fun ys hys => ?_⟩
            have hh := hH ys hys
            exact symTL hh hsm h1 (by omega) (by omega) (by omega) (by omega) (by omega) (by omega) h4 h5 hN hk fun zs hz => symTR hh hsm h1 (by omega) (by omega) (by omega) h4 h5 hN hk hz
          all_goals
            have hh := hH c (Rotated.triv (by omega) (by omega) (by omega))
            exact symTL hh hsm h1 (by omega) (by omega) (by omega) (by omega) (by omega) (by omega) h4 h5 hN hk fun zs hz => symTR hh hsm h1 (by omega) (by omega) (by omega) h4 h5 hN hk hz
      · rw [w64 (by omega)] at hn8
        subst hn8
        obtain ⟨lo, hi, hlh⟩ : ∃ lo hi : Int, (mid < b ∧ lo = mid + b - m ∧ hi = mid) ∨ (b ≤ mid ∧ lo = a ∧ hi = b) := ⟨_, _, .inr ⟨by omega, rfl, rfl⟩⟩
        refine ⟨fun x => x.1 = l ∧ x.2.1 = a ∧ x.2.2.1 = b ∧ x.2.2.2.1 = m ∧ x.2.2.2.2.1 = mid ∧ x.2.2.2.2.2.1 = mid + b ∧ lo ≤ x.2.2.2.2.2.2.1 ∧ x.2.2.2.2.2.2.1 ≤ x.2.2.2.2.2.2.2.1 ∧ x.2.2.2.2.2.2.2.1 ≤ hi ∧ x.2.2.2.2.2.2.2.2 = mid + b - 1 ∧ (∀ (c : Int) (u v : Change), lo ≤ c → c < x.2.2.2.2.2.2.1 → atI l c = some u → atI l (mid + b - 1 - c) = some v → u.Id ≤ v.Id) ∧ (∀ (c : Int) (u v : Change), x.2.2.2.2.2.2.2.1 ≤ c → c < hi → atI l c = some u → atI l (mid + b - 1 - c) = some v → v.Id < u.Id),
          fun x => (x.2.2.2.2.2.2.2.1 - x.2.2.2.2.2.2.1).toNat, (l, a, b, m, mid, mid + b, a, b, mid + b - 1), ⟨rfl, rfl, rfl, rfl, rfl, rfl, by simp only []; omega, by simp only []; omega, by simp only []; omega, rfl, fun c u v q1 q2 => by simp only [] at q2; omega, fun c u v q1 q2 => by simp only [] at q1; omega⟩, ⟨⟨⟨rfl, rfl⟩, rfl, rfl, rfl, trivial, rfl, rfl, rfl, rfl, rfl, trivial⟩, rfl, trivial⟩, ?_⟩
        rintro ⟨c, a', b', m', mid', n', st, r, p⟩ ⟨g1, g2, g3, g4, g5, g6, g7, g8, g9, g10, g11, g12⟩
        simp only [] at g1 g2 g3 g4 g5 g6 g7 g8 g9 g10 g11 g12
        subst g1 g2 g3 g4 g5 g6 g10
        have hal : a' ≤ lo := by omega
        have hib : hi ≤ b' ∧ hi ≤ mid' := by omega
        dsimp only
        refine br_dec (fun hlt n1 e1 n2 e2 => ⟨by decide, fun n3 e3 n4 e4 n5 hn5 => ?_⟩) (fun hlt n1 hn1 => ?_)
        · have hh := half (by omega) (by omega) e1 e2 e3 e4
          clear e1 e2 e3 e4
          have hh1 : st ≤ n4 ∧ n4 < r := by omega
          rw [w64 (by omega)] at hn5
          subst hn5
          refine ⟨⟨by omega, by omega⟩, by omega, fun e he => ⟨⟨by omega, by omega⟩, by omega, fun e1 he1 => ⟨?_, trivial⟩⟩⟩
          have he := atI_of he
          have he1 := atI_of he1
          have hes := small_at hsm he
          have hes1 := small_at hsm he1
          refine br_not (fun hq n6 hn6 => ?_) (fun hq => ?_)
          · have hq : ¬ idCmp e e1 < 0 := of_decide_eq_false hq
            rw [idCmp_lt hes hes1] at hq
            rw [w64 (by omega)] at hn6
            subst hn6
            refine ⟨(c, a', b', m', mid', mid' + b', n4 + 1, r, mid' + b' - 1), ⟨rfl, rfl, rfl, rfl, rfl, rfl, by simp only []; omega, by simp only []; omega, g9, rfl, fun c u v q1 q2 hu hv => ?_, g12⟩, ⟨⟨⟨rfl, rfl⟩, rfl, rfl, rfl, trivial, rfl, rfl, rfl, rfl, rfl, trivial⟩, rfl, trivial⟩, by simp only []; omega⟩
            simp only [] at q2
            have l1 := s1.le (by omega) (by omega : a' ≤ c) (by omega : c ≤ n4) (by omega) hu he1
            have l2 := s2.le (by omega) (by omega) (by omega : mid' + b' - 1 - n4 ≤ mid' + b' - 1 - c) (by omega) he hv
            omega
          · have hq : idCmp e e1 < 0 := of_decide_eq_true hq
            rw [idCmp_lt hes hes1] at hq
            refine ⟨(c, a', b', m', mid', mid' + b', st, n4, mid' + b' - 1), ⟨rfl, rfl, rfl, rfl, rfl, rfl, g7, by simp only []; omega, by simp only []; omega, rfl, g11, fun c u v q1 q2 hu hv => ?_⟩, ⟨⟨⟨rfl, rfl⟩, rfl, rfl, rfl, trivial, rfl, rfl, rfl, rfl, rfl, trivial⟩, rfl, trivial⟩, by simp only []; omega⟩
            simp only [] at q1
            have l1 := s1.le (by omega) (by omega : a' ≤ n4) q1 (by omega) he1 hu
            have l2 := s2.le (by omega) (by omega) (by omega : mid' + b' - 1 - c ≤ mid' + b' - 1 - n4) (by omega) hv he
            omega
        · have hr : r = st := by omega
          subst hr
          rw [w64 (by omega)] at hn1
          subst hn1
          obtain ⟨en, hen⟩ : ∃ en, en = mid' + b' - r := ⟨_, rfl⟩
          rw [← hen]
          have hH : ∀ ys, Rotated c ys r b' en → Halves Change.Id c ys a' r mid' en m' := fun ys hys => halves h1 h2 h3 h4 (by omega) (by omega) hlh hal g7 g9 hen (by omega) s1 s2 g11 g12 hys
          refine br_dec (fun c1 => br_dec (fun c2 => ?_) (fun c2 => ?_)) (fun c1 => ?_)
          · refine ⟨rfl, ⟨by omega, c1, c2, by omega, h5⟩, fun ys hys => ?_⟩
            have hh := hH ys hys
            exact symTL hh hsm h1 (by omega) (by omega) (by omega) (by omega) (by omega) (by omega) h4 h5 hN hk fun zs hz => symTR hh hsm h1 (by omega) (by omega) (by omega) h4 h5 hN hk hz
          all_goals
            have hh := hH c (Rotated.triv (by omega) (by omega) (by omega))
            exact symTL hh hsm h1 (by omega) (by omega) (by omega) (by omega) (by omega) (by omega) h4 h5 hN hk fun zs hz => symTR hh hsm h1 (by omega) (by omega) (by omega) h4 h5 hN hk hz
end Go.Ax.O
