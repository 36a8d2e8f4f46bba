/-
  Plain lemmas: a stable sort by merging in place.
-/
import Derived.Test.YtnoinchifbckcaaGreatDoorAxS1
set_option linter.all false
namespace Go.Ax.Law
variable {α : Type}

def atI (xs : List α) (p : Int) : Option α := xs[p.toNat]?
theorem atI_nat (xs : List α) (i : Nat) : atI xs (i : Int) = xs[i]? := by simp [atI]

/-- Two runs of one length have changed places. -/
def Swapped (xs ys : List α) (a b n : Int) : Prop :=
  ys.length = xs.length ∧ ∀ p : Int, 0 ≤ p → atI ys p = if a ≤ p ∧ p < a + n then atI xs (p - a + b) else if b ≤ p ∧ p < b + n then atI xs (p - b + a) else atI xs p
/-- Two runs that touch have changed places. -/
def Rotated (xs ys : List α) (a m b : Int) : Prop :=
  ys.length = xs.length ∧ ∀ p : Int, 0 ≤ p → atI ys p = if p < a ∨ b ≤ p then atI xs p else if p < a + (b - m) then atI xs (p + (m - a)) else atI xs (p - (b - m))

theorem Swapped.refl (xs : List α) (a b : Int) : Swapped xs xs a b 0 := by
  refine ⟨rfl, fun p _ => ?_⟩
  rw [if_neg (by omega), if_neg (by omega)]

theorem Swapped.step {xs ys : List α} {a b n : Int} {u v : α} (h : Swapped xs ys a b n) (ha : 0 ≤ a) (hb : 0 ≤ b) (hn : 0 ≤ n) (hab : a + n < b ∨ b + n < a) (hu : ys[(a + n).toNat]? = some u) (hv : ys[(b + n).toNat]? = some v) :
    Swapped xs ((ys.set (a + n).toNat v).set (b + n).toNat u) a b (n + 1) := by
  obtain ⟨h1, h2⟩ := h
  have l1 := (List.getElem?_eq_some_iff.1 hu).1
  have l2 := (List.getElem?_eq_some_iff.1 hv).1
  have hu' := h2 (a + n) (by omega)
  have hv' := h2 (b + n) (by omega)
  rw [if_neg (by omega), if_neg (by omega)] at hu' hv'
  have hu2 : atI ys (a + n) = some u := hu
  have hv2 : atI ys (b + n) = some v := hv
  rw [hu2] at hu'
  rw [hv2] at hv'
  refine ⟨by simpa using h1, fun p hp => ?_⟩
  have hg : atI ((ys.set (a + n).toNat v).set (b + n).toNat u) p = if p = b + n then some u else if p = a + n then some v else atI ys p := by
    simp only [atI, List.getElem?_set, List.length_set]
    by_cases e1 : p = b + n
    · rw [if_pos (by omega), if_pos l2, if_pos e1]
    · rw [if_neg (by omega), if_neg e1]
      by_cases e2 : p = a + n
      · rw [if_pos (by omega), if_pos l1, if_pos e2]
      · rw [if_neg (by omega), if_neg e2]
  rw [hg, h2 p hp]
  by_cases e1 : p = b + n
  · subst e1
    rw [if_pos rfl, if_neg (by omega), if_pos (by omega), hu']
    congr 1; omega
  · rw [if_neg e1]
    by_cases e2 : p = a + n
    · subst e2
      rw [if_pos rfl, if_pos (by omega), hv']
      congr 1; omega
    · rw [if_neg e2]
      by_cases c1 : a ≤ p ∧ p < a + n
      · rw [if_pos c1, if_pos (by omega)]
      · rw [if_neg c1]
        by_cases c2 : b ≤ p ∧ p < b + n
        · rw [if_pos c2, if_neg (by omega), if_pos (by omega)]
        · rw [if_neg c2, if_neg (by omega), if_neg (by omega)]

theorem Rotated.one {xs ys : List α} {m i : Int} (hm : i ≤ m) (hi : 0 ≤ i) (h : Swapped xs ys (m - i) m i) : Rotated xs ys (m - i) m (m + i) := by
  obtain ⟨h1, h2⟩ := h
  refine ⟨h1, fun p hp => ?_⟩
  rw [h2 p hp]
  by_cases c1 : p < m - i ∨ m + i ≤ p
  · rw [if_neg (by omega), if_neg (by omega), if_pos c1]
  · rw [if_neg c1]
    by_cases c2 : p < m
    · rw [if_pos (by omega), if_pos (by omega)] <;> (congr 1; omega)
    · rw [if_neg (by omega), if_pos (by omega), if_neg (by omega)] <;> (congr 1; omega)

theorem Rotated.left {xs cs ys : List α} {m i j : Int} (hm : i ≤ m) (hj : 0 ≤ j) (hij : j < i) (h : Swapped xs cs (m - i) m j) (hr : Rotated cs ys (m - (i - j)) m (m + j)) : Rotated xs ys (m - i) m (m + j) := by
  obtain ⟨h1, h2⟩ := h
  obtain ⟨h3, h4⟩ := hr
  refine ⟨by rw [h3, h1], fun p hp => ?_⟩
  rw [h4 p hp]
  by_cases c1 : p < m - i ∨ m + j ≤ p
  · rw [if_pos (by omega), if_pos c1, h2 p hp, if_neg (by omega), if_neg (by omega)]
  · rw [if_neg c1]
    by_cases c2 : p < m - i + j
    · rw [if_pos (by omega), h2 p hp, if_pos (by omega), if_pos (by omega)] <;> (congr 1; omega)
    · rw [if_neg (by omega)]
      by_cases c3 : p < m - (i - j) + j
      · rw [if_pos (by omega), h2 _ (by omega), if_neg (by omega), if_pos (by omega), if_neg (by omega)] <;> (congr 1; omega)
      · rw [if_neg (by omega), h2 _ (by omega), if_neg (by omega), if_neg (by omega), if_neg (by omega)] <;> (congr 1; omega)

theorem Rotated.right {xs cs ys : List α} {m i j : Int} (hm : i ≤ m) (hi : 0 ≤ i) (hij : i < j) (h : Swapped xs cs (m - i) (m + j - i) i) (hr : Rotated cs ys (m - i) m (m + (j - i))) : Rotated xs ys (m - i) m (m + j) := by
  obtain ⟨h1, h2⟩ := h
  obtain ⟨h3, h4⟩ := hr
  refine ⟨by rw [h3, h1], fun p hp => ?_⟩
  rw [h4 p hp]
  by_cases c1 : p < m - i ∨ m + j ≤ p
  · rw [if_pos (by omega), if_pos c1, h2 p hp, if_neg (by omega), if_neg (by omega)]
  · rw [if_neg c1]
    by_cases c2 : m + (j - i) ≤ p
    · rw [if_pos (by omega), h2 p hp, if_neg (by omega), if_pos (by omega), if_neg (by omega)] <;> (congr 1; omega)
    · rw [if_neg (by omega)]
      by_cases c3 : p < m - i + (j - i)
      · rw [if_pos (by omega), h2 _ (by omega), if_neg (by omega), if_neg (by omega), if_pos (by omega)] <;> (congr 1; omega)
      · rw [if_neg (by omega), h2 _ (by omega)]
        rw [if_pos (by omega), if_pos (by omega)] <;> (congr 1; omega)

/-- Rising between two places. -/
def Rises (key : α → Int) (xs : List α) (a b : Int) : Prop := ∀ (p q : Int) (x y : α), 0 ≤ p → a ≤ p → p < q → q < b → atI xs p = some x → atI xs q = some y → key x ≤ key y
/-- .. a place from a place. -/
theorem Rises.le {key : α → Int} {xs : List α} {a b : Int} (h : Rises key xs a b) {p q : Int} {x y : α} (h0 : 0 ≤ p) (h1 : a ≤ p) (h2 : p ≤ q) (h3 : q < b) (hx : atI xs p = some x) (hy : atI xs q = some y) : key x ≤ key y := by
  by_cases e : p = q
  · subst e; rw [hx] at hy; cases hy; exact Int.le_refl _
  · exact h p q x y h0 h1 (by omega) h3 hx hy

theorem SortedSeg.rises {key : α → Int} {xs ys : List α} {a b : Int} (h : SortedSeg key xs ys a b) : Rises key ys a b := by
  intro p q x y h0 h1 h2 h3 hx hy
  obtain ⟨p, rfl⟩ := Int.eq_ofNat_of_zero_le h0
  obtain ⟨q, rfl⟩ := Int.eq_ofNat_of_zero_le (show 0 ≤ q by omega)
  rw [atI_nat] at hx hy
  exact h.2.2.1 p q x y h1 (by omega) h3 hx hy
theorem SortedSeg.out {key : α → Int} {xs ys : List α} {a b : Int} (h : SortedSeg key xs ys a b) {p : Int} (h0 : 0 ≤ p) (hp : p < a ∨ b ≤ p) : atI ys p = atI xs p := by
  obtain ⟨p, rfl⟩ := Int.eq_ofNat_of_zero_le h0
  rw [atI_nat, atI_nat]
  exact h.2.1 p hp
theorem SortedSeg.mk2 {key : α → Int} {xs ys : List α} {a b : Int} (h1 : ys.length = xs.length) (h2 : ∀ p : Int, 0 ≤ p → (p < a ∨ b ≤ p) → atI ys p = atI xs p) (h3 : Rises key ys a b) (h4 : ∀ c, ys.filter (keyIs key c) = xs.filter (keyIs key c)) : SortedSeg key xs ys a b :=
  ⟨h1, fun i hi => by rw [← atI_nat, ← atI_nat]; exact h2 i (by omega) hi, fun i j x y ha hij hj hx hy => h3 i j x y (by omega) ha (by omega) hj (by rw [atI_nat]; exact hx) (by rw [atI_nat]; exact hy), h4⟩
theorem SortedSeg.same {key : α → Int} {xs : List α} {a b : Int} (h : Rises key xs a b) : SortedSeg key xs xs a b := .mk2 rfl (fun _ _ _ => rfl) h fun _ => rfl

theorem split3 (xs : List α) (a b : Nat) (hab : a ≤ b) : xs = xs.take a ++ (xs.drop a).take (b - a) ++ xs.drop b := by
  have h1 : xs.drop b = (xs.drop a).drop (b - a) := by rw [List.drop_drop] <;> (congr 1; omega)
  rw [List.append_assoc, h1, List.take_append_drop, List.take_append_drop]

/-- Between the places lies what lay there. -/
theorem SortedSeg.mem {key : α → Int} {xs ys : List α} {a b : Nat} (h : SortedSeg key xs ys a b) (hab : a ≤ b) {i : Nat} {x : α} (hi : a ≤ i) (hi2 : i < b) (hx : ys[i]? = some x) : ∃ (q : Nat) (y : α), a ≤ q ∧ q < b ∧ xs[q]? = some y ∧ key y = key x := by
  obtain ⟨h1, h2, _, h4⟩ := h
  have ht : ys.take a = xs.take a := by
    apply List.ext_getElem?
    intro p
    by_cases hp : p < a
    · rw [List.getElem?_take_of_lt hp, List.getElem?_take_of_lt hp]
      exact h2 p (by omega)
    · rw [List.getElem?_take_eq_none (by omega), List.getElem?_take_eq_none (by omega)]
  have hd : ys.drop b = xs.drop b := by
    apply List.ext_getElem?
    intro p
    rw [List.getElem?_drop, List.getElem?_drop]
    exact h2 (b + p) (by omega)
  have hc : (ys.countP (keyIs key (key x))) = xs.countP (keyIs key (key x)) := by
    rw [List.countP_eq_length_filter, List.countP_eq_length_filter, h4]
  rw [split3 ys a b hab, split3 xs a b hab, ht, hd] at hc
  simp only [List.countP_append] at hc
  have hpos : 0 < ((ys.drop a).take (b - a)).countP (keyIs key (key x)) := by
    rw [List.countP_pos_iff]
    refine ⟨x, ?_, by simp [keyIs]⟩
    refine List.mem_iff_getElem?.2 ⟨i - a, ?_⟩
    rw [List.getElem?_take_of_lt (by omega), List.getElem?_drop, show a + (i - a) = i by omega]
    exact hx
  have hpos2 : 0 < ((xs.drop a).take (b - a)).countP (keyIs key (key x)) := by omega
  rw [List.countP_pos_iff] at hpos2
  obtain ⟨y, hy, hk⟩ := hpos2
  obtain ⟨q, hq⟩ := List.mem_iff_getElem?.1 hy
  have hql := (List.getElem?_eq_some_iff.1 hq).1
  simp only [List.length_take, List.length_drop] at hql
  rw [List.getElem?_take_of_lt (by omega), List.getElem?_drop] at hq
  exact ⟨a + q, y, by omega, by omega, hq, by simpa [keyIs] using hk⟩

theorem Rotated.filter {key : α → Int} {xs ys : List α} {s m e : Nat} (h : Rotated xs ys s m e) (hs : s ≤ m) (hm : m ≤ e) (he : e ≤ xs.length) (hlt : ∀ (p q : Nat) (x y : α), s ≤ p → p < m → m ≤ q → q < e → xs[p]? = some x → xs[q]? = some y → key y < key x) (c : Int) :
    ys.filter (keyIs key c) = xs.filter (keyIs key c) := by
  obtain ⟨h1, h2⟩ := h
  have hx : xs = xs.take s ++ (((xs.drop s).take (m - s) ++ (xs.drop m).take (e - m)) ++ xs.drop e) := by
    have e1 := split3 xs s e (by omega)
    have e2 : (xs.drop s).take (e - s) = (xs.drop s).take (m - s) ++ (xs.drop m).take (e - m) := by
      have := List.take_add (l := xs.drop s) (i := m - s) (j := e - m)
      rw [show m - s + (e - m) = e - s by omega, List.drop_drop, show s + (m - s) = m by omega] at this
      exact this
    rw [e2, List.append_assoc] at e1
    exact e1
  have hy : ys = xs.take s ++ (((xs.drop m).take (e - m) ++ (xs.drop s).take (m - s)) ++ xs.drop e) := by
    apply List.ext_getElem?
    intro p
    have hp := h2 (p : Int) (by omega)
    rw [atI_nat] at hp
    rw [hp]
    simp only [List.getElem?_append, List.length_append, List.length_take, List.length_drop]
    by_cases c1 : p < s
    · rw [if_pos (by omega), if_pos (by omega), List.getElem?_take_of_lt c1, atI_nat]
    · rw [if_neg (by omega : ¬ p < min s xs.length)]
      by_cases c2 : p < s + (e - m)
      · rw [if_neg (by omega), if_pos (by omega), if_pos (by omega), if_pos (by omega), List.getElem?_take_of_lt (by omega), List.getElem?_drop]
        simp only [atI] <;> (congr 1; omega)
      · by_cases c3 : p < e
        · rw [if_neg (by omega), if_neg (by omega), if_pos (by omega), if_neg (by omega), List.getElem?_take_of_lt (by omega), List.getElem?_drop]
          simp only [atI] <;> (congr 1; omega)
        · rw [if_pos (by omega), if_neg (by omega), List.getElem?_drop]
          simp only [atI] <;> (congr 1; omega)
  rw [hy]
  conv => rhs; rw [hx]
  simp only [List.filter_append]
  congr 1
  congr 1
  have hmem : ∀ {l n : Nat} {z : α}, z ∈ (xs.drop l).take n → ∃ q, l ≤ q ∧ q < l + n ∧ xs[q]? = some z := by
    intro l n z hz
    obtain ⟨q, hq⟩ := List.mem_iff_getElem?.1 hz
    have hql := (List.getElem?_eq_some_iff.1 hq).1
    simp only [List.length_take, List.length_drop] at hql
    rw [List.getElem?_take_of_lt (by omega), List.getElem?_drop] at hq
    exact ⟨l + q, by omega, by omega, hq⟩
  by_cases hA : ((xs.drop s).take (m - s)).filter (keyIs key c) = []
  · rw [hA]; simp
  · have hB : ((xs.drop m).take (e - m)).filter (keyIs key c) = [] := by
      rw [List.filter_eq_nil_iff]
      intro y hy hky
      obtain ⟨x, hx⟩ := List.exists_mem_of_ne_nil _ hA
      obtain ⟨hx1, hx2⟩ := List.mem_filter.1 hx
      obtain ⟨p, p1, p2, p3⟩ := hmem hx1
      obtain ⟨q, q1, q2, q3⟩ := hmem hy
      have := hlt p q x y p1 (by omega) q1 (by omega) p3 q3
      simp only [keyIs, decide_eq_true_eq] at hx2 hky
      omega
    rw [hB]; simp

theorem atI_some {xs : List α} {p : Int} (h0 : 0 ≤ p) (h : p < xs.length) : ∃ x, atI xs p = some x := ⟨_, List.getElem?_eq_getElem (by omega)⟩
theorem Rotated.triv {xs : List α} {s m e : Int} (h : s = m ∨ m = e) (hs : s ≤ m) (he : m ≤ e) : Rotated xs xs s m e := by
  refine ⟨rfl, fun p _ => ?_⟩
  by_cases c1 : p < s ∨ e ≤ p
  · rw [if_pos c1]
  · rw [if_neg c1]
    by_cases c2 : p < s + (e - m)
    · rw [if_pos c2] <;> (congr 1; omega)
    · rw [if_neg c2] <;> (congr 1; omega)

/-- How two runs lie that are to be merged, behind the turn in the middle. -/
structure Halves (key : α → Int) (xs ys : List α) (a st mid en b : Int) : Prop where
  len : ys.length = xs.length
  out : ∀ p : Int, 0 ≤ p → (p < a ∨ b ≤ p) → atI ys p = atI xs p
  r1 : Rises key ys a st
  r2 : Rises key ys st mid
  r3 : Rises key ys mid en
  r4 : Rises key ys en b
  cross : ∀ (p q : Int) (x y : α), a ≤ p → p < mid → mid ≤ q → q < b → atI ys p = some x → atI ys q = some y → key x ≤ key y
  fil : ∀ c, ys.filter (keyIs key c) = xs.filter (keyIs key c)

theorem halves {key : α → Int} {xs ys : List α} {a m b mid st en lo hi : Int} (h0 : 0 ≤ a) (ham : a < m) (hmb : m < b) (hbl : b ≤ xs.length) (hm1 : a < mid) (hm2 : mid < b)
    (hlh : (mid < m ∧ lo = mid + m - b ∧ hi = mid) ∨ (m ≤ mid ∧ lo = a ∧ hi = m)) (hla : a ≤ lo) (hst1 : lo ≤ st) (hst2 : st ≤ hi) (hen : en = mid + m - st) (heb : en ≤ b)
    (s1 : Rises key xs a m) (s2 : Rises key xs m b)
    (c1 : ∀ (c : Int) (x y : α), lo ≤ c → c < st → atI xs c = some x → atI xs (mid + m - 1 - c) = some y → key x ≤ key y)
    (c2 : ∀ (c : Int) (x y : α), st ≤ c → c < hi → atI xs c = some x → atI xs (mid + m - 1 - c) = some y → key y < key x)
    (hr : Rotated xs ys st m en) : Halves key xs ys a st mid en b := by
  obtain ⟨hl, hr2⟩ := hr
  have e1 : ∀ p, 0 ≤ p → p < st → atI ys p = atI xs p := fun p hp h => by rw [hr2 p hp, if_pos (by omega)]
  have e4 : ∀ p, 0 ≤ p → en ≤ p → atI ys p = atI xs p := fun p hp h => by rw [hr2 p hp, if_pos (by omega)]
  have e2 : ∀ p, st ≤ p → p < mid → atI ys p = atI xs (p + (m - st)) := fun p h1 h2 => by rw [hr2 p (by omega), if_neg (by omega), if_pos (by omega)]
  have e3 : ∀ p, mid ≤ p → p < en → atI ys p = atI xs (p - (en - m)) := fun p h1 h2 => by rw [hr2 p (by omega), if_neg (by omega), if_neg (by omega)]
  have strict : ∀ (p q : Int) (x y : α), st ≤ p → p < m → m ≤ q → q < en → atI xs p = some x → atI xs q = some y → key y < key x := by
    intro p q x y p1 p2 q1 q2 hx hy
    obtain ⟨u, hu⟩ := atI_some (xs := xs) (p := st) (by omega) (by omega)
    obtain ⟨v, hv⟩ := atI_some (xs := xs) (p := en - 1) (by omega) (by omega)
    have hs := c2 st u v (Int.le_refl _) (by omega) hu (by rw [← hv] <;> (congr 1; omega))
    have l1 := s1.le (by omega) (by omega) p1 p2 hu hx
    have l2 := s2.le (by omega) q1 (by omega : q ≤ en - 1) (by omega) hy hv
    omega
  refine ⟨hl, fun p hp ho => ?_, ?_, ?_, ?_, ?_, ?_, fun c => ?_⟩
  · rcases ho with ho | ho
    · exact e1 p hp (by omega)
    · exact e4 p hp (by omega)
  · intro p q x y p0 p1 pq q1 hx hy
    rw [e1 p p0 (by omega)] at hx
    rw [e1 q (by omega) q1] at hy
    exact s1 p q x y p0 p1 pq (by omega) hx hy
  · intro p q x y p0 p1 pq q1 hx hy
    rw [e2 p p1 (by omega)] at hx
    rw [e2 q (by omega) q1] at hy
    exact s2 _ _ x y (by omega) (by omega) (by omega) (by omega) hx hy
  · intro p q x y p0 p1 pq q1 hx hy
    rw [e3 p p1 (by omega)] at hx
    rw [e3 q (by omega) q1] at hy
    exact s1 _ _ x y (by omega) (by omega) (by omega) (by omega) hx hy
  · intro p q x y p0 p1 pq q1 hx hy
    rw [e4 p p0 p1] at hx
    rw [e4 q (by omega) (by omega)] at hy
    exact s2 _ _ x y p0 (by omega) pq q1 hx hy
  · intro p q x y p1 p2 q1 q2 hx hy
    by_cases hp : p < st
    · rw [e1 p (by omega) hp] at hx
      by_cases hq : q < en
      · rw [e3 q q1 hq] at hy
        exact s1.le (by omega) p1 (by omega) (by omega) hx hy
      · rw [e4 q (by omega) (by omega)] at hy
        obtain ⟨u, hu⟩ := atI_some (xs := xs) (p := st - 1) (by omega) (by omega)
        obtain ⟨v, hv⟩ := atI_some (xs := xs) (p := en) (by omega) (by omega)
        have hs := c1 (st - 1) u v (by omega) (by omega) hu (by rw [← hv] <;> (congr 1; omega))
        have l1 := s1.le (by omega) p1 (by omega : p ≤ st - 1) (by omega) hx hu
        have l2 := s2.le (by omega) (by omega) (by omega : en ≤ q) q2 hv hy
        omega
    · rw [e2 p (by omega) p2] at hx
      by_cases hq : q < en
      · rw [e3 q q1 hq] at hy
        have := strict _ _ y x (by omega) (by omega) (by omega) (by omega) hy hx
        omega
      · rw [e4 q (by omega) (by omega)] at hy
        exact s2.le (by omega) (by omega) (by omega) q2 hx hy
  · obtain ⟨s', rfl⟩ := Int.eq_ofNat_of_zero_le (show 0 ≤ st by omega)
    obtain ⟨m', rfl⟩ := Int.eq_ofNat_of_zero_le (show 0 ≤ m by omega)
    obtain ⟨e', rfl⟩ := Int.eq_ofNat_of_zero_le (show 0 ≤ en by omega)
    refine Rotated.filter ⟨hl, hr2⟩ (by omega) (by omega) (by omega) (fun p q x y p1 p2 q1 q2 hx hy => ?_) c
    exact strict p q x y (by omega) (by omega) (by omega) (by omega) (by rw [atI_nat]; exact hx) (by rw [atI_nat]; exact hy)

theorem Halves.merge {key : α → Int} {xs ys zs ws : List α} {a st mid en b : Int} (h : Halves key xs ys a st mid en b) (h0 : 0 ≤ a) (ham : a ≤ mid) (hmb : mid ≤ b) (hz : SortedSeg key ys zs a mid) (hw : SortedSeg key zs ws mid b) : SortedSeg key xs ws a b := by
  obtain ⟨a, rfl⟩ := Int.eq_ofNat_of_zero_le h0
  obtain ⟨mid, rfl⟩ := Int.eq_ofNat_of_zero_le (show 0 ≤ mid by omega)
  obtain ⟨b, rfl⟩ := Int.eq_ofNat_of_zero_le (show 0 ≤ b by omega)
  refine .mk2 (by rw [hw.1, hz.1, h.len]) (fun p hp ho => ?_) ?_ fun c => by rw [hw.2.2.2, hz.2.2.2, h.fil]
  · rw [hw.out hp (by omega), hz.out hp (by omega), h.out p hp ho]
  · intro p q x y p0 p1 pq q1 hx hy
    by_cases hq : q < mid
    · rw [hw.out p0 (by omega)] at hx
      rw [hw.out (by omega) (by omega)] at hy
      exact hz.rises p q x y p0 p1 pq hq hx hy
    · by_cases hp : p < mid
      · rw [hw.out p0 (by omega)] at hx
        obtain ⟨p, rfl⟩ := Int.eq_ofNat_of_zero_le p0
        obtain ⟨q, rfl⟩ := Int.eq_ofNat_of_zero_le (show 0 ≤ q by omega)
        rw [atI_nat] at hx hy
        obtain ⟨p', x', u1, u2, u3, u4⟩ := hz.mem (by omega) (by omega) (by omega) hx
        obtain ⟨q', y', v1, v2, v3, v4⟩ := hw.mem (by omega) (by omega) (by omega) hy
        rw [← atI_nat, hz.out (by omega) (by omega)] at v3
        rw [← u4, ← v4]
        exact h.cross p' q' x' y' (by omega) (by omega) (by omega) (by omega) (by rw [atI_nat]; exact u3) v3
      · exact hw.rises p q x y p0 (by omega) pq q1 hx hy
end Go.Ax.Law
