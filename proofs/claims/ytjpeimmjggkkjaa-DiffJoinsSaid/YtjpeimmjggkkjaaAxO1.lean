/-
  What is to be shown of the functions is shown: sorting of changes.
-/
import Derived.Test.YtjpeimmjggkkjaaAxV1
set_option linter.all false
namespace Go.Ax.O
open Go.Ax.Sp Go.Ax.Law

theorem vIdCmp {s t : Change} {k : Unit → Int × Unit → Prop} (h : oIdCmp (s, t, ()) k) : V.vIdCmp s t k := by
  intro n hn
  subst hn
  exact h

theorem small_get {xs : List Change} (h : SmallIds xs) {i : Nat} {x : Change} (hx : xs[i]? = some x) : -1099511627776 ≤ x.Id ∧ x.Id ≤ 1099511627776 := h x (List.mem_of_getElem? hx)

theorem small_seg {xs ys : List Change} (h : SmallIds xs) (hf : ∀ c, ys.filter (keyIs Change.Id c) = xs.filter (keyIs Change.Id c)) : SmallIds ys := by
  intro c hc
  have : c ∈ ys.filter (keyIs Change.Id c.Id) := List.mem_filter.2 ⟨hc, by simp [keyIs]⟩
  rw [hf] at this
  exact h c (List.mem_filter.1 this).1

theorem idCmp_lt {a b : Change} (ha : -1099511627776 ≤ a.Id ∧ a.Id ≤ 1099511627776) (hb : -1099511627776 ≤ b.Id ∧ b.Id ≤ 1099511627776) : idCmp a b < 0 ↔ a.Id < b.Id := by
  unfold idCmp
  rw [w64 (by omega)]
  omega

theorem vIns {l : List Change} {a b : Int} {k : List Change × Unit → Unit → Prop} (h : oIns 0 (l, a, b, (), ()) k) : V.vIns l a b k := by
  obtain ⟨⟨hsm, h0, hab, hbl, hll⟩, hk⟩ := h
  simp only [] at hsm h0 hab hbl hll hk
  intro n hn
  rw [w64 (by omega)] at hn
  subst hn
  obtain ⟨an, rfl⟩ := Int.eq_ofNat_of_zero_le h0
  refine ⟨fun x => x.2.1 = an ∧ x.2.2.1 = b ∧ (an : Int) + 1 ≤ x.2.2.2 ∧ (x.2.2.2 ≤ b ∨ (x.2.2.2 = an + 1 ∧ x.1 = l)) ∧ SortedSeg Change.Id l x.1 an x.2.2.2, fun x => (b - x.2.2.2).toNat, (l, an, b, (an : Int) + 1), ⟨rfl, rfl, Int.le_refl _, .inr ⟨rfl, rfl⟩, .refl (by simp)⟩, ⟨⟨⟨rfl, rfl⟩, rfl, rfl, trivial, rfl, trivial⟩, rfl, trivial⟩, ?_⟩
  rintro ⟨ys, a', b', i⟩ ⟨h1, h2, h3, h4, h5⟩
  simp only [] at h1 h2 h3 h4 h5
  subst h1 h2
  refine br_dec (fun hi => ?_) (fun hi => ?_)
  · simp only [] at hi
    obtain ⟨i, rfl⟩ := Int.eq_ofNat_of_zero_le (show 0 ≤ i by omega)
    have hlen := h5.1
    refine ⟨fun x => x.2.1 = an ∧ x.2.2.1 = b' ∧ x.2.2.2.1 = i ∧ 0 ≤ x.2.2.2.2 ∧ Sinks Change.Id l x.1 an i x.2.2.2.2.toNat, fun x => x.2.2.2.2.toNat, (ys, an, b', i, i), ⟨rfl, rfl, rfl, by simp, .start h5 (by omega) (by simp only []; omega)⟩, ⟨⟨⟨rfl, rfl⟩, rfl, rfl, trivial, rfl, rfl, trivial⟩, rfl, trivial⟩, ?_⟩
    rintro ⟨zs, a', b'', i', j⟩ ⟨g1, g2, g3, g4, g5⟩
    simp only [] at g1 g2 g3 g4 g5
    subst g1 g2 g3
    obtain ⟨j, rfl⟩ := Int.eq_ofNat_of_zero_le g4
    simp only [Int.toNat_natCast] at g5
    have hs := small_seg hsm g5.2.2.2.2.2.2
    have hzl := g5.2.2.2.1
    have hji := g5.2.1
    have haj := g5.1
    have next : SortedSeg Change.Id l zs an ((i : Int) + 1) → ∀ n : Int, n = IntKind.wrap IntKind.i64 ((i : Int) + 1) → ∃ y : List Change × Int × Int × Int, (y.2.1 = (an : Int) ∧ y.2.2.1 = b'' ∧ (an : Int) + 1 ≤ y.2.2.2 ∧ (y.2.2.2 ≤ b'' ∨ (y.2.2.2 = an + 1 ∧ y.1 = l)) ∧ SortedSeg Change.Id l y.1 an y.2.2.2) ∧
        (((0 = 0 ∧ zs.length = y.1.length) ∧ (an : Int) = y.2.1 ∧ b'' = y.2.2.1 ∧ True ∧ n = y.2.2.2 ∧ True) ∧ zs = y.1 ∧ True) ∧ (b'' - y.2.2.2).toNat < (b'' - (i : Int)).toNat := by
      intro hs n hn
      rw [w64 (by omega)] at hn
      subst hn
      exact ⟨(zs, an, b'', (i : Int) + 1), ⟨rfl, rfl, by simp only []; omega, .inl (by simp only []; omega), hs⟩, ⟨⟨⟨rfl, rfl⟩, rfl, rfl, trivial, rfl, trivial⟩, rfl, trivial⟩, by simp only []; omega⟩
    refine br_dec (fun hj => ?_) (fun hj => ⟨next (g5.stop (.inl (by simp only [] at hj; omega))), trivial⟩)
    simp only [gt_iff_lt] at hj
    obtain ⟨j, rfl⟩ : ∃ q, j = q + 1 := ⟨j - 1, by omega⟩
    simp only [Int.toNat_natCast, Nat.zero_add]
    refine ⟨⟨by omega, by omega⟩, by omega, fun e he n hn => ?_⟩
    rw [w64 (by omega)] at hn
    have hn2 : n = (j : Int) := by omega
    subst hn2
    simp only [Int.toNat_natCast]
    refine ⟨⟨by omega, by omega⟩, by omega, fun e1 he1 => ⟨br_dec (fun hlt => ?_) (fun hlt => ?_), trivial⟩⟩
    · rw [idCmp_lt (small_get hs he) (small_get hs he1)] at hlt
      intro n hn n1 hn1
      rw [w64 (by omega)] at hn hn1
      have hn2 : n = (j : Int) := by omega
      have hn3 : n1 = (j : Int) := by omega
      subst hn2 hn3
      simp only [Int.toNat_natCast]
      refine ⟨⟨by omega, by omega⟩, by omega, fun e2 he2 => ⟨⟨by omega, by omega⟩, by omega, fun e3 he3 => ⟨⟨by omega, by omega⟩, ⟨by omega, fun e4 he4 => ⟨⟨by omega, by omega⟩, ⟨by simp; omega, fun e5 he5 n2 hn2 => ?_⟩, trivial⟩⟩, trivial⟩⟩⟩
      rw [he1] at he2; cases he2
      rw [he] at he3; cases he3
      rw [w64 (by omega)] at hn2
      have hn3 : n2 = (j : Int) := by omega
      subst hn3
      refine ⟨((zs.set (j + 1) e1).set j e, an, b'', i, j), ⟨rfl, rfl, rfl, by simp, ?_⟩, ⟨⟨⟨trivial, by simp⟩, rfl, rfl, trivial, rfl, rfl, trivial⟩, rfl, trivial⟩, by simp⟩
      exact g5.step (by omega) he1 he hlt
    · rw [idCmp_lt (small_get hs he) (small_get hs he1)] at hlt
      have nx := next (g5.stop (.inr fun u v _ hu hv => by
        rw [he] at hv; cases hv
        simp only [Nat.add_sub_cancel] at hu
        rw [he1] at hu; cases hu
        omega))
      simp only [Nat.zero_add] at nx ⊢
      exact nx
  · simp only [] at hi
    refine ⟨h5.1.symm, hk ys ?_⟩
    rcases h4 with h4 | ⟨h4, rfl⟩
    · have : i = b' := by omega
      rw [← this]; exact h5
    · exact .refl (by omega)

/-! ### The logarithm's length -/
theorem byte_w (l : List UInt8) (i : Nat) (d : UInt8) : IntKind.i64.wrap ((l.getD i d).toNat : Nat) = ((l.getD i d).toNat : Nat) ∧ (l.getD i d).toNat < 256 := by
  have := (l.getD i d).toNat_lt
  exact ⟨w64 (by omega), this⟩

theorem u8_w (n : Int) : 0 ≤ IntKind.u8.wrap n ∧ IntKind.u8.wrap n < 256 := by
  rw [IntKind.wrap_u8]; omega

theorem vLen {x : Int} {k : Unit → Int × Unit → Prop} (h : oLen (x, ()) k) : V.vLen x k := h

theorem len_end {k : Unit → Int × Unit → Prop} {x : Int} (h : ∀ n, 0 ≤ n → n ≤ 400 → k () (n, ())) (l : List UInt8) (d : UInt8) (a : Int) (ha : 0 ≤ a ∧ a ≤ 80) :
    ∀ n, n = IntKind.u8.wrap x → (0 ≤ n ∧ n < 256) ∧ ∀ n2, n2 = IntKind.i64.wrap ((l.getD n.toNat d).toNat : Nat) → ∀ n3, n3 = IntKind.i64.wrap (a + n2) → k () (n3, ()) := by
  intro n hn
  subst hn
  refine ⟨u8_w x, fun n2 h2 n3 h3 => ?_⟩
  obtain ⟨e1, e2⟩ := byte_w l (IntKind.u8.wrap x).toNat d
  rw [e1] at h2
  subst h2
  rw [w64 (by omega)] at h3
  subst h3
  exact h _ (by omega) (by omega)

theorem vLen64 {x : Int} {k : Unit → Int × Unit → Prop} (h : oLen (x, ()) k) : V.vLen64 x k := by
  obtain ⟨_, h⟩ := h
  unfold V.vLen64
  refine br_dec (fun _ => ⟨by omega, fun n hn => br_dec (fun _ => ⟨by omega, fun n1 h1 n2 h2 => br_dec (fun _ => ⟨by omega, fun n3 h3 n4 h4 => ?_⟩) (fun _ => ?_)⟩) (fun _ => br_dec (fun _ => ⟨by omega, fun n3 h3 n4 h4 => ?_⟩) (fun _ => ?_))⟩)
    (fun _ => br_dec (fun _ => ⟨by omega, fun n1 h1 n2 h2 => br_dec (fun _ => ⟨by omega, fun n3 h3 n4 h4 => ?_⟩) (fun _ => ?_)⟩) (fun _ => br_dec (fun _ => ⟨by omega, fun n3 h3 n4 h4 => ?_⟩) (fun _ => ?_)))
  all_goals first
    | (rw [w64 (by omega)] at h2
       subst h2
       rw [w64 (by omega)] at h4
       subst h4
       exact len_end h _ _ _ (by omega))
    | (rw [w64 (by omega)] at h2
       subst h2
       exact len_end h _ _ _ (by omega))
    | (rw [w64 (by omega)] at h4
       subst h4
       exact len_end h _ _ _ (by omega))
    | exact len_end h _ _ _ (by omega)

/-! ### Sorting -/
theorem vPdq {l : List Change} {a b m : Int} {k : List Change × Unit → Unit → Prop} (h : oPdq 0 (l, a, b, m, (), ()) k) : V.vPdq l a b m k := by
  obtain ⟨⟨hp, h12⟩, hk⟩ := h
  simp only [] at hp h12 hk
  refine ⟨fun x => x.1 = l ∧ x.2.1 = a ∧ x.2.2.1 = b, fun _ => 0, (l, a, b, m, true, true), ⟨rfl, rfl, rfl⟩, ⟨⟨⟨rfl, rfl⟩, rfl, rfl, rfl, trivial, rfl, rfl, trivial⟩, rfl, trivial⟩, ?_⟩
  rintro ⟨l', a', b', m', p, q⟩ ⟨h1, h2, h3⟩ n hn
  simp only [] at h1 h2 h3 hn
  subst h1 h2 h3
  have hp' := hp
  obtain ⟨_, p1, p2, p3, p4⟩ := hp'
  rw [w64 (by omega)] at hn
  subst hn
  refine br_dec (fun _ => ⟨rfl, hp, fun ys hys => ⟨hys.1.symm, hk ys hys⟩⟩) (fun hc => by omega)

theorem vSortF {l : List Change} {k : List Change × Unit → Unit → Prop} (h : oSortF 0 (l, (), ()) k) : V.vSortF l k := by
  obtain ⟨hp, hk⟩ := h
  simp only [] at hp hk
  intro n hn
  refine ⟨?_, fun n _ _ => ⟨rfl, hp, fun ys hys => ⟨hys.1.symm, hk ys hys⟩⟩⟩
  subst hn
  rw [IntKind.wrap_u64]
  omega

/-! ### Which state may follow -/
theorem br_ite {b : Bool} {A B : Prop} (h : if b then A else B) : br b A B := by
  cases b <;> simpa [br] using h
theorem vMay {x y : Int} {k : Unit → Bool × Unit → Prop} (h : oMay (x, y, ()) k) : V.vMay x y k := by
  have h : k () (may x y, ()) := h
  unfold V.vMay
  have key : ∀ b, may x y = b → k () (b, ()) := fun b hb => hb ▸ h
  repeat' (first | (refine br_dec (fun _ => ?_) (fun _ => ?_)) | (refine br_bool (fun _ => ?_) (fun _ => ?_)))
  all_goals
    apply key
    simp only [beq_iff_eq, beq_eq_false_iff_ne, ne_eq] at *
    simp only [may]
    grind
theorem vmay {x y : Int} {k : Unit → Bool × Unit → Prop} (h : oMay (x, y, ()) k) : V.vmay x y k := by
  have h : k () (may x y, ()) := h
  unfold V.vmay
  have key : ∀ b, may x y = b → k () (b, ()) := fun b hb => hb ▸ h
  repeat' (first | (refine br_dec (fun _ => ?_) (fun _ => ?_)) | (refine br_bool (fun _ => ?_) (fun _ => ?_)))
  all_goals
    apply key
    simp only [beq_iff_eq, beq_eq_false_iff_ne, ne_eq] at *
    simp only [may]
    grind
theorem vMays {x y : Int} {k : Unit → Bool × Unit → Prop} (h : oMays (x, y, ()) k) : V.vMays x y k := by
  refine br_bool (fun _ => h) (fun hn => ?_)
  simp at hn
end Go.Ax.O
