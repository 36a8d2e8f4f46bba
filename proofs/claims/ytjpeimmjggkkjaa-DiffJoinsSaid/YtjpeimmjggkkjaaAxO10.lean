/-
  What is to be shown of the functions is shown: a stable sort, to its end.
-/
import Derived.Test.YtjpeimmjggkkjaaAxO9
set_option linter.all false
namespace Go.Ax.O
open Go.Ax.Sp Go.Ax.Law

theorem dvd_gap {d a c : Int} (ha : d ∣ a) (hc : d ∣ c) (h : a < c) : a + d ≤ c := by
  have := Int.le_of_dvd (by omega) (Int.dvd_sub hc ha)
  omega
theorem Rises.sub {key : Change → Int} {xs : List Change} {a b a' b' : Int} (h : Rises key xs a b) (h1 : a ≤ a') (h2 : b' ≤ b) : Rises key xs a' b' :=
  fun p q x y p0 p1 pq q1 hx hy => h p q x y p0 (by omega) pq (by omega) hx hy
theorem Rises.none {key : Change → Int} {xs : List Change} {a b : Int} (h : b ≤ a) : Rises key xs a b := fun p q x y p0 p1 pq q1 _ _ => by omega

theorem vStab {l : List Change} {a : Int} {k : List Change × Unit → Unit → Prop} (h : oStab 0 (l, a, (), ()) k) : V.vStab l a k := by
  obtain ⟨⟨⟨hsm, hll⟩, ha⟩, hk⟩ := h
  simp only [] at hsm hll ha hk
  subst ha
  refine ⟨fun x => x.2.1 = l.length ∧ x.2.2.1 = 20 ∧ 0 ≤ x.2.2.2.1 ∧ x.2.2.2.1 ≤ l.length ∧ x.2.2.2.2 = x.2.2.2.1 + 20 ∧ (20 : Int) ∣ x.2.2.2.1 ∧ x.1.length = l.length ∧ (∀ c, x.1.filter (keyIs Change.Id c) = l.filter (keyIs Change.Id c)) ∧ ∀ c : Int, 0 ≤ c → 20 ∣ c → c + 20 ≤ x.2.2.2.1 → Rises Change.Id x.1 c (c + 20),
    fun x => (l.length - x.2.2.2.1).toNat, (l, l.length, 20, 0, 20), ⟨rfl, rfl, Int.le_refl _, by simp only []; omega, rfl, ⟨0, rfl⟩, rfl, fun _ => rfl, fun c h1 h2 h3 => by simp only [] at h3; omega⟩, ⟨⟨⟨rfl, rfl⟩, rfl, trivial, rfl, rfl, rfl, trivial⟩, rfl, trivial⟩, ?_⟩
  rintro ⟨cur, n, bs, a, b⟩ ⟨g1, g2, g3, g4, g5, g6, g7, g8, g9⟩
  simp only [] at g1 g2 g3 g4 g5 g6 g7 g8 g9
  subst g1 g2 g5
  dsimp only
  refine br_dec (fun hb => ⟨rfl, ⟨small_seg hsm g8, g3, by omega, by omega, by omega⟩, fun ys hys n hn => ?_⟩) (fun hb => ⟨rfl, ⟨small_seg hsm g8, g3, g4, by omega, by omega⟩, fun ys hys => ?_⟩)
  · rw [w64 (by omega)] at hn
    subst hn
    refine ⟨(ys, l.length, 20, a + 20, a + 20 + 20), ⟨rfl, rfl, by simp only []; omega, hb, rfl, Int.dvd_add g6 ⟨1, rfl⟩, by simp only []; rw [hys.1, g7], fun c => by simp only []; rw [hys.2.2.2, g8], fun c h1 h2 h3 => ?_⟩, ⟨⟨⟨rfl, hys.1.symm⟩, rfl, trivial, rfl, rfl, rfl, trivial⟩, rfl, trivial⟩, by simp only []; omega⟩
    simp only [] at h3 ⊢
    by_cases hca : c = a
    · subst hca; exact hys.rises
    · have : c + 20 ≤ a := dvd_gap h2 g6 (by omega)
      exact (g9 c h1 h2 this).congr fun i i0 i1 i2 => hys.out i0 (by omega)
  · have hblk : ∀ c : Int, 0 ≤ c → (20 : Int) ∣ c → Rises Change.Id ys c (min (c + 20) l.length) := by
      intro c h1 h2
      by_cases hca : c = a
      · subst hca; exact Rises.sub hys.rises (Int.le_refl _) (by omega)
      · by_cases hlt : c < a
        · have : c + 20 ≤ a := dvd_gap h2 g6 hlt
          exact Rises.sub ((g9 c h1 h2 this).congr fun i i0 i1 i2 => hys.out i0 (by omega)) (Int.le_refl _) (by omega)
        · have : a + 20 ≤ c := dvd_gap g6 h2 (by omega)
          exact Rises.none (by omega)
    refine ⟨fun x => x.2.1 = l.length ∧ 0 < x.2.2 ∧ x.2.2 ≤ 2199023255552 ∧ x.1.length = l.length ∧ (∀ c, x.1.filter (keyIs Change.Id c) = l.filter (keyIs Change.Id c)) ∧ ∀ c : Int, 0 ≤ c → x.2.2 ∣ c → Rises Change.Id x.1 c (min (c + x.2.2) l.length),
      fun x => (l.length - x.2.2).toNat, (ys, l.length, 20), ⟨rfl, by simp only []; omega, by simp only []; omega, by simp only []; rw [hys.1, g7], fun c => by simp only []; rw [hys.2.2.2, g8], hblk⟩, ⟨⟨⟨rfl, hys.1.symm⟩, rfl, trivial, rfl, trivial⟩, rfl, trivial⟩, ?_⟩
    clear hys hblk ys
    rintro ⟨cs, n, s⟩ ⟨f1, f2, f3, f4, f5, f6⟩
    simp only [] at f1 f2 f3 f4 f5 f6
    subst f1
    dsimp only
    refine br_dec (fun hsn n hn => ?_) (fun hsn => ?_)
    · rw [w64 (by omega)] at hn
      subst hn
      refine ⟨fun x => x.2.1 = l.length ∧ x.2.2.1 = s ∧ 0 ≤ x.2.2.2.1 ∧ x.2.2.2.1 ≤ l.length ∧ x.2.2.2.2 = x.2.2.2.1 + 2 * s ∧ (2 * s) ∣ x.2.2.2.1 ∧ x.1.length = l.length ∧ (∀ c, x.1.filter (keyIs Change.Id c) = l.filter (keyIs Change.Id c)) ∧ (∀ c : Int, 0 ≤ c → (2 * s) ∣ c → c + 2 * s ≤ x.2.2.2.1 → Rises Change.Id x.1 c (c + 2 * s)) ∧ (∀ c : Int, x.2.2.2.1 ≤ c → s ∣ c → Rises Change.Id x.1 c (min (c + s) l.length)),
        fun x => (l.length - x.2.2.2.1).toNat, (cs, l.length, s, 0, 2 * s), ⟨rfl, rfl, Int.le_refl _, by simp only []; omega, by simp only []; omega, ⟨0, by simp⟩, f4, f5, fun c h1 h2 h3 => by simp only [] at h3; omega, fun c h1 h2 => f6 c h1 h2⟩, ⟨⟨⟨rfl, rfl⟩, rfl, trivial, rfl, rfl, rfl, trivial⟩, rfl, trivial⟩, ?_⟩
      rintro ⟨ds, n, s', a', b'⟩ ⟨q1, q2, q3, q4, q5, q6, q7, q8, q9, q10⟩
      simp only [] at q1 q2 q3 q4 q5 q6 q7 q8 q9 q10
      subst q1 q2 q5
      have hsa : s' ∣ a' := Int.dvd_trans ⟨2, by rw [Int.mul_comm]⟩ q6
      have hsm' := small_seg hsm q8
      dsimp only
      refine br_dec (fun hb n hn => ?_) (fun hb n hn => ?_)
      · rw [w64 (by omega)] at hn
        subst hn
        have ra := q10 a' (Int.le_refl _) hsa
        have rb := q10 (a' + s') (by omega) (Int.dvd_add hsa ⟨1, by simp⟩)
        refine ⟨rfl, ⟨⟨q3, by omega, by omega, by omega, by omega⟩, hsm', by omega, Rises.sub ra (Int.le_refl _) (by omega), Rises.sub rb (Int.le_refl _) (by omega)⟩, fun ys hys n hn n2 hn2 => ?_⟩
        rw [w64 (by omega)] at hn
        subst hn
        rw [w64 (by omega)] at hn2
        subst hn2
        have hdv : (2 * s') ∣ a' + 2 * s' := Int.dvd_add q6 ⟨1, by simp⟩
        refine ⟨(ys, l.length, s', a' + 2 * s', a' + 2 * s' + 2 * s'), ⟨rfl, rfl, by simp only []; omega, hb, rfl, hdv, by simp only []; rw [hys.1, q7], fun c => by simp only []; rw [hys.2.2.2, q8], fun c h1 h2 h3 => ?_, fun c h1 h2 => ?_⟩, ⟨⟨⟨rfl, hys.1.symm⟩, rfl, trivial, rfl, rfl, rfl, trivial⟩, rfl, trivial⟩, by simp only []; omega⟩
        · simp only [] at h3 ⊢
          by_cases hca : c = a'
          · subst hca; exact hys.rises
          · have : c + 2 * s' ≤ a' := dvd_gap h2 q6 (by omega)
            exact (q9 c h1 h2 this).congr fun i i0 i1 i2 => hys.out i0 (by omega)
        · simp only [] at h1 ⊢
          exact (q10 c (by omega) h2).congr fun i i0 i1 i2 => hys.out i0 (by omega)
      · rw [w64 (by omega)] at hn
        subst hn
        have ra := q10 a' (Int.le_refl _) hsa
        have rb := q10 (a' + s') (by omega) (Int.dvd_add hsa ⟨1, by simp⟩)
        have fin : ∀ ys : List Change, ys.length = l.length → (∀ c, ys.filter (keyIs Change.Id c) = l.filter (keyIs Change.Id c)) → (∀ i, 0 ≤ i → i < a' → atI ys i = atI ds i) → Rises Change.Id ys a' l.length → ∀ n, n = IntKind.i64.wrap (s' * 2) →
            ∃ y : List Change × Int × Int, (y.2.1 = l.length ∧ 0 < y.2.2 ∧ y.2.2 ≤ 2199023255552 ∧ y.1.length = l.length ∧ (∀ c, y.1.filter (keyIs Change.Id c) = l.filter (keyIs Change.Id c)) ∧ ∀ c : Int, 0 ≤ c → y.2.2 ∣ c → Rises Change.Id y.1 c (min (c + y.2.2) l.length)) ∧ (((0 = 0 ∧ ds.length = y.1.length) ∧ (l.length : Int) = y.2.1 ∧ True ∧ n = y.2.2 ∧ True) ∧ ys = y.1 ∧ True) ∧ (l.length - y.2.2).toNat < (l.length - s').toNat := by
          intro ys hyl hyf hyo hyr n hn
          rw [w64 (by omega)] at hn
          subst hn
          refine ⟨(ys, l.length, s' * 2), ⟨rfl, by simp only []; omega, by simp only []; omega, hyl, hyf, fun c h1 h2 => ?_⟩, ⟨⟨⟨rfl, by simp only []; omega⟩, rfl, trivial, rfl, trivial⟩, rfl, trivial⟩, by simp only []; omega⟩
          simp only [] at h2 ⊢
          rw [Int.mul_comm] at h2
          by_cases hca : c = a'
          · subst hca; exact Rises.sub hyr (Int.le_refl _) (by omega)
          · by_cases hlt : c < a'
            · have hg : c + 2 * s' ≤ a' := dvd_gap h2 q6 hlt
              exact Rises.sub ((q9 c h1 h2 hg).congr fun i i0 i1 i2 => hyo i i0 (by omega)) (Int.le_refl _) (by omega)
            · have : a' + 2 * s' ≤ c := dvd_gap q6 h2 (by omega)
              exact Rises.none (by omega)
        refine br_dec (fun hm => ?_) (fun hm => ?_)
        · refine ⟨rfl, ⟨⟨q3, by omega, by omega, by omega, by omega⟩, hsm', by omega, Rises.sub ra (Int.le_refl _) (by omega), Rises.sub rb (Int.le_refl _) (by omega)⟩, fun ys hys => ?_⟩
          exact fin ys (by rw [hys.1, q7]) (fun c => by rw [hys.2.2.2, q8]) (fun i i0 i1 => hys.out i0 (by omega)) hys.rises
        · exact fin ds q7 q8 (fun _ _ _ => rfl) (Rises.sub ra (Int.le_refl _) (by omega))
    · refine ⟨f4.symm, hk cs (.mk2 f4 (fun p hp ho => ?_) ?_ f5)⟩
      · have e1 : atI cs p = none := by simp only [atI]; rw [List.getElem?_eq_none]; omega
        have e2 : atI l p = none := by simp only [atI]; rw [List.getElem?_eq_none]; omega
        rw [e1, e2]
      · have := f6 0 (Int.le_refl _) ⟨0, by simp⟩
        exact Rises.sub this (Int.le_refl _) (by omega)

theorem vStabF {l : List Change} {k : List Change × Unit → Unit → Prop} (h : oStabF 0 (l, (), ()) k) : V.vStabF l k := by
  obtain ⟨hp, hk⟩ := h
  exact ⟨rfl, ⟨hp, rfl⟩, fun ys hys => ⟨hys.1.symm, hk ys hys⟩⟩

theorem vIdle {c : Change} {k : Unit → Bool × Unit → Prop} (h : oIdle (c, ()) k) : V.vIdle c k := by
  unfold V.vIdle
  have h : k () (idle c, ()) := h
  unfold idle at h
  refine br_bool (fun hb => ?_) (fun hb => ?_)
  · have hb : c.From = c.To := by simpa using hb
    rw [hb] at h; simpa using h
  · have hb : c.From ≠ c.To := by simpa using hb
    simp [hb] at h; simpa using h

theorem vIdxD {l : List Change} {k : Unit → Int × Unit → Prop} (h : oIdxD 0 (l, (), ()) k) : V.vIdxD l k := by
  obtain ⟨hl, h⟩ := h
  simp only [] at hl h
  refine ⟨fun x => x.1 = l ∧ 0 ≤ x.2 ∧ x.2 ≤ l.length ∧ ∀ y ∈ l.take x.2.toNat, idle y = false, fun x => (l.length - x.2).toNat, (l, 0), ⟨rfl, Int.le_refl _, by simp, by simp⟩, ⟨⟨rfl, trivial, rfl, rfl, trivial⟩, trivial⟩, ?_⟩
  rintro ⟨l', i⟩ ⟨h1, h3, h4, h5⟩
  simp only [] at h1 h3 h4 h5
  subst h1
  obtain ⟨i, rfl⟩ := Int.eq_ofNat_of_zero_le h3
  simp only [Int.toNat_natCast] at h5
  refine br_dec (fun hi => ⟨⟨by simp only []; omega, hi⟩, fun e he => ?_⟩) (fun hi => ?_)
  · simp only [Int.toNat_natCast] at he hi
    refine br_bool (fun ht => ?_) (fun hf => ?_)
    · have hlt := (List.getElem?_eq_some_iff.1 he)
      obtain ⟨hlt, heq⟩ := hlt
      have : findIdle l' = (i : Int) := by
        unfold findIdle
        have : l'.findIdx? idle = some i := by
          rw [List.findIdx?_eq_some_iff_getElem]
          refine ⟨hlt, by rw [heq]; exact ht, fun j hj => ?_⟩
          have := h5 l'[j] (List.mem_iff_getElem?.2 ⟨j, by rw [List.getElem?_take_of_lt hj, List.getElem?_eq_getElem]⟩)
          simpa using this
        rw [this]
      rw [this] at h
      exact h
    · intro n hn
      simp only [] at hn
      rw [w64 (by omega)] at hn
      subst hn
      refine ⟨(l', (i : Int) + 1), ⟨rfl, by simp only []; omega, by simp only []; omega, fun y hy => ?_⟩, ⟨⟨rfl, trivial, rfl, rfl, trivial⟩, trivial⟩, by simp only []; omega⟩
      simp only [] at hy
      rw [show ((i : Int) + 1).toNat = i + 1 by omega, take_step he, List.mem_append] at hy
      rcases hy with hy | hy
      · exact h5 y hy
      · simp at hy; subst hy; exact hf
  · simp only [] at hi
    have hii : i = l'.length := by omega
    subst hii
    rw [List.take_length] at h5
    have : findIdle l' = -1 := by
      unfold findIdle
      have : l'.findIdx? idle = none := by
        rw [List.findIdx?_eq_none_iff]; exact h5
      rw [this]
    rw [this] at h
    exact h

theorem vClone {l : List Change} {k : Unit → List Change × Unit → Prop} (h : oClone (l, ()) k) : V.vClone l k := by
  obtain ⟨hl, h⟩ := h
  simp only [] at hl h
  intro b hb
  refine br_bool (fun ht => ?_) (fun hf => ⟨Nat.le_refl _, by omega, by simp, by simpa using h⟩)
  have : l = [] := by
    cases l with
    | nil => rfl
    | cons x r => have := hb (by simp); rw [ht] at this; cases this
  subst this
  exact h
end Go.Ax.O
