/-
  Plain lemmas: sets of nodes as bits, how many bits are set, the lowest one; sorted steps.
-/
import Derived.Test.YtnoinchifbckcaaGreatDoorAxP6
set_option linter.all false
namespace Go.Ax.Law

theorem wu (n : Int) : IntKind.u64.wrap n = n % 18446744073709551616 := by simp [IntKind.wrap, IntKind.bits, IntKind.signed]
theorem wuN {a : Nat} (h : a < 18446744073709551616) : IntKind.u64.wrap (a : Int) = (a : Int) := by rw [wu]; omega
theorem wrdef (n : Int) : wr n = (n + 9223372036854775808) % 18446744073709551616 - 9223372036854775808 := by
  unfold wr; simp [IntKind.wrap, IntKind.bits, IntKind.signed, IntKind.max, IntKind.min]; try omega
theorem wr_in {n : Int} (h : -9223372036854775808 ≤ n ∧ n ≤ 9223372036854775807) : wr n = n := w64 h

theorem U64.nat {a : Nat} (h : a < 18446744073709551616) : U64 (a : Int) := ⟨Int.natCast_nonneg _, by omega⟩
theorem U64.ex {x : Int} (h : U64 x) : ∃ a : Nat, a < 18446744073709551616 ∧ x = (a : Int) := ⟨x.toNat, by have := h.1; have := h.2; omega, by have := h.1; omega⟩
theorem U64.zero : U64 0 := ⟨by decide, by decide⟩

theorem bv64 {a : Nat} (h : a < 18446744073709551616) : (BitVec.ofInt 64 (a : Int)).toNat = a := by
  simp [BitVec.toNat_ofInt]; omega

theorem landU {a b : Nat} (ha : a < 18446744073709551616) (hb : b < 18446744073709551616) : landI .u64 (a : Int) (b : Int) = ((a &&& b : Nat) : Int) := by
  unfold landI
  show IntKind.u64.wrap ((BitVec.ofInt 64 (a : Int) &&& BitVec.ofInt 64 (b : Int)).toNat : Nat) = _
  rw [BitVec.toNat_and, bv64 ha, bv64 hb]
  exact wuN (Nat.lt_of_le_of_lt Nat.and_le_left ha)
theorem lorU {a b : Nat} (ha : a < 18446744073709551616) (hb : b < 18446744073709551616) : lorI .u64 (a : Int) (b : Int) = ((a ||| b : Nat) : Int) := by
  unfold lorI
  show IntKind.u64.wrap ((BitVec.ofInt 64 (a : Int) ||| BitVec.ofInt 64 (b : Int)).toNat : Nat) = _
  rw [BitVec.toNat_or, bv64 ha, bv64 hb]
  exact wuN (Nat.or_lt_two_pow (n := 64) ha hb)
theorem minus_lt {a b : Nat} (ha : a < 18446744073709551616) : a ^^^ (a &&& b) < 18446744073709551616 :=
  Nat.xor_lt_two_pow (n := 64) ha (Nat.lt_of_le_of_lt Nat.and_le_left ha)
theorem landnU {a b : Nat} (ha : a < 18446744073709551616) (hb : b < 18446744073709551616) : landnI .u64 (a : Int) (b : Int) = ((a ^^^ (a &&& b) : Nat) : Int) := by
  unfold landnI
  show IntKind.u64.wrap ((BitVec.ofInt 64 (a : Int) &&& ~~~ BitVec.ofInt 64 (b : Int)).toNat : Nat) = _
  rw [BitVec.toNat_and, BitVec.toNat_not, bv64 ha, bv64 hb]
  have e : (a &&& (2 ^ 64 - 1 - b)) = a ^^^ (a &&& b) := by
    apply Nat.eq_of_testBit_eq
    intro i
    have hx : (2 ^ 64 - 1 - b) = 2 ^ 64 - (b + 1) := by omega
    rw [Nat.testBit_and, Nat.testBit_xor, Nat.testBit_and, hx, Nat.testBit_two_pow_sub_succ (n := 64) hb]
    by_cases hi : i < 64
    · simp [hi]; cases a.testBit i <;> cases b.testBit i <;> rfl
    · have : a.testBit i = false := Nat.testBit_lt_two_pow (Nat.lt_of_lt_of_le (show a < 2 ^ 64 from ha) (Nat.pow_le_pow_right (n := 2) (by omega) (by omega : 64 ≤ i)))
      simp [this]
  rw [e]
  exact wuN (minus_lt ha)

theorem fdiv2 (a k : Nat) : Int.fdiv (a : Int) (2 ^ k) = ((a / 2 ^ k : Nat) : Int) := by
  have h : (0 : Int) ≤ 2 ^ k := Int.pow_nonneg (by omega)
  rw [Int.fdiv_eq_ediv_of_nonneg _ h]
  simp

/-! ### How many bits are set -/
def val : List Nat → Nat
  | [] => 0
  | c :: r => c + 256 * val r

theorem bits_cut (k : Nat) {c m : Nat} (y M : Nat) (hc : c < 256) (hk : k ≤ 8) (hm : m < 2 ^ (8 - k)) : ((c + 256 * y) / 2 ^ k &&& (m + 256 * M)) = (c / 2 ^ k &&& m) + 256 * (y / 2 ^ k &&& M) := by
  have hm8 : m < 2 ^ 8 := Nat.lt_of_lt_of_le hm (Nat.pow_le_pow_right (n := 2) (by omega) (by omega))
  have hr : (c / 2 ^ k &&& m) < 2 ^ 8 := Nat.lt_of_le_of_lt Nat.and_le_right hm8
  apply Nat.eq_of_testBit_eq
  intro j
  rw [show c + 256 * y = 2 ^ 8 * y + c by omega, show m + 256 * M = 2 ^ 8 * M + m by omega, show (c / 2 ^ k &&& m) + 256 * (y / 2 ^ k &&& M) = 2 ^ 8 * (y / 2 ^ k &&& M) + (c / 2 ^ k &&& m) by omega]
  rw [Nat.testBit_and, Nat.testBit_two_pow_mul_add _ hm8, Nat.testBit_two_pow_mul_add _ hr, Nat.testBit_div_two_pow, Nat.testBit_two_pow_mul_add _ (show c < 2 ^ 8 from hc), Nat.testBit_and, Nat.testBit_and, Nat.testBit_div_two_pow, Nat.testBit_div_two_pow]
  by_cases hj : j < 8
  · rw [if_pos hj, if_pos hj]
    by_cases hjk : j + k < 8
    · rw [if_pos (by omega)]
    · have : m.testBit j = false := Nat.testBit_lt_two_pow (Nat.lt_of_lt_of_le hm (Nat.pow_le_pow_right (n := 2) (by omega) (by omega)))
      rw [this]; simp
  · rw [if_neg hj, if_neg hj, if_neg (by omega)]
    congr 2; congr 1; omega

def f1 (m x : Nat) : Nat := (x / 2 ^ 1 &&& m) + (x &&& m)
def f2 (m x : Nat) : Nat := (x / 2 ^ 2 &&& m) + (x &&& m)
def msk (m : Nat) : Nat → Nat
  | 0 => 0
  | n + 1 => m + 256 * msk m n
theorem cut0 {c m : Nat} (y M : Nat) (hc : c < 256) (hm : m < 256) : ((c + 256 * y) &&& (m + 256 * M)) = (c &&& m) + 256 * (y &&& M) := by
  have := bits_cut 0 y M hc (by decide) (m := m) (by simpa using hm)
  simpa using this
theorem f1_val : ∀ (cs : List Nat), (∀ c ∈ cs, c < 256) → f1 (msk 85 cs.length) (val cs) = val (cs.map (f1 85))
  | [], _ => rfl
  | c :: r, h => by
    have ih := f1_val r (fun c hc => h c (by simp [hc]))
    simp only [val, List.map_cons, List.length_cons, msk, ← ih]
    unfold f1
    rw [bits_cut 1 _ _ (h c (by simp)) (by decide) (by decide), cut0 _ _ (h c (by simp)) (by decide)]
    omega
theorem f2_val : ∀ (cs : List Nat), (∀ c ∈ cs, c < 256) → f2 (msk 51 cs.length) (val cs) = val (cs.map (f2 51))
  | [], _ => rfl
  | c :: r, h => by
    have ih := f2_val r (fun c hc => h c (by simp [hc]))
    simp only [val, List.map_cons, List.length_cons, msk, ← ih]
    unfold f2
    rw [bits_cut 2 _ _ (h c (by simp)) (by decide) (by decide), cut0 _ _ (h c (by simp)) (by decide)]
    omega
theorem f3_val : ∀ (cs : List Nat), (∀ c ∈ cs, c / 16 ≤ 4 ∧ c % 16 ≤ 4) → ((val cs / 16 + val cs) &&& msk 15 cs.length) = val (cs.map fun c => c / 16 + c % 16)
  | [], _ => rfl
  | c :: r, h => by
    have ih := f3_val r (fun c hc => h c (by simp [hc]))
    have hc := h c (by simp)
    have hl : val r % 16 ≤ 4 := by
      cases r with
      | nil => decide
      | cons d r => have := (h d (by simp)).2; simp only [val]; omega
    simp only [val, List.map_cons, List.length_cons, msk, ← ih]
    have e : (c + 256 * val r) / 16 + (c + 256 * val r) = ((c / 16 + c % 16) + 16 * (c / 16 + val r % 16)) + 256 * (val r / 16 + val r) := by omega
    rw [e, cut0 _ _ (by omega) (by decide)]
    congr 1
    have : (15 : Nat) = 2 ^ 4 - 1 := by decide
    rw [this, Nat.and_two_pow_sub_one_eq_mod]
    omega
theorem popN_cut (c y : Nat) (hc : c < 256) : ∀ n, popN (c + 256 * y) (8 + n) = popN c 8 + popN y n
  | 0 => by
    have hb : ∀ j, j < 8 → (c + 256 * y).testBit j = c.testBit j := fun j hj => by
      rw [show c + 256 * y = 2 ^ 8 * y + c by omega, Nat.testBit_two_pow_mul_add _ (show c < 2 ^ 8 from hc), if_pos hj]
    show popN _ 8 = popN c 8 + popN y 0
    simp only [popN, hb 0 (by decide), hb 1 (by decide), hb 2 (by decide), hb 3 (by decide), hb 4 (by decide), hb 5 (by decide), hb 6 (by decide), hb 7 (by decide), Nat.add_zero]
  | n + 1 => by
    have ih := popN_cut c y hc n
    have hb : (c + 256 * y).testBit (8 + n) = y.testBit n := by
      rw [show c + 256 * y = 2 ^ 8 * y + c by omega, Nat.testBit_two_pow_mul_add _ (show c < 2 ^ 8 from hc), if_neg (by omega)]
      congr 1; omega
    show popN _ (8 + n) + _ = popN c 8 + (popN y n + _)
    rw [ih, show Nat.add 8 n = 8 + n from rfl, hb]; omega
theorem byte_facts : ∀ c : Fin 256, f1 85 c.val < 256 ∧ f2 51 (f1 85 c.val) / 16 ≤ 4 ∧ f2 51 (f1 85 c.val) % 16 ≤ 4 ∧ f2 51 (f1 85 c.val) / 16 + f2 51 (f1 85 c.val) % 16 = popN c.val 8 ∧ popN c.val 8 ≤ 8 := by decide +kernel
theorem popN_val : ∀ (cs : List Nat), (∀ c ∈ cs, c < 256) → popN (val cs) (8 * cs.length) = (cs.map fun c => popN c 8).sum
  | [], _ => rfl
  | c :: r, h => by
    rw [show 8 * (c :: r).length = 8 + 8 * r.length by simp; omega]
    simp only [val]
    rw [popN_cut _ _ (h c (by simp)), popN_val r (fun c hc => h c (by simp [hc]))]
    simp
def bytes8 (x : Nat) : List Nat := [x % 256, x / 256 % 256, x / 65536 % 256, x / 16777216 % 256, x / 4294967296 % 256, x / 1099511627776 % 256, x / 281474976710656 % 256, x / 72057594037927936 % 256]
theorem val_bytes8 {x : Nat} (h : x < 18446744073709551616) : val (bytes8 x) = x := by
  simp only [bytes8, val]; omega
theorem bytes8_lt (x : Nat) : ∀ c ∈ bytes8 x, c < 256 := by
  intro c hc
  simp only [bytes8, List.mem_cons, List.not_mem_nil, or_false] at hc
  omega
/-- The sum of all bits, as the library reckons it. -/
theorem ones_sum {x : Nat} (h : x < 18446744073709551616) :
    ∃ p0 p1 p2 p3 p4 p5 p6 p7 : Nat, p0 ≤ 8 ∧ p1 ≤ 8 ∧ p2 ≤ 8 ∧ p3 ≤ 8 ∧ p4 ≤ 8 ∧ p5 ≤ 8 ∧ p6 ≤ 8 ∧ p7 ≤ 8 ∧
      f1 6148914691236517205 x < 18446744073709551616 ∧ f2 3689348814741910323 (f1 6148914691236517205 x) < 18446744073709551616 ∧
      f2 3689348814741910323 (f1 6148914691236517205 x) / 16 + f2 3689348814741910323 (f1 6148914691236517205 x) < 18446744073709551616 ∧
      ((f2 3689348814741910323 (f1 6148914691236517205 x) / 16 + f2 3689348814741910323 (f1 6148914691236517205 x)) &&& 1085102592571150095) = p0 + 256 * (p1 + 256 * (p2 + 256 * (p3 + 256 * (p4 + 256 * (p5 + 256 * (p6 + 256 * p7)))))) ∧
      popN x 64 = p0 + p1 + p2 + p3 + p4 + p5 + p6 + p7 := by
  have hv := val_bytes8 h
  have hb := bytes8_lt x
  have e1 := f1_val (bytes8 x) hb
  rw [hv, show msk 85 (bytes8 x).length = 6148914691236517205 by simp [bytes8, msk]] at e1
  have g1 : ∀ c ∈ (bytes8 x).map (f1 85), c < 256 := by
    intro c hc
    obtain ⟨d, hd, rfl⟩ := List.mem_map.1 hc
    exact (byte_facts ⟨d, hb d hd⟩).1
  have e2 := f2_val _ g1
  rw [← e1, show msk 51 ((bytes8 x).map (f1 85)).length = 3689348814741910323 by simp [bytes8, msk], List.map_map] at e2
  have g2 : ∀ c ∈ (bytes8 x).map (f2 51 ∘ f1 85), c / 16 ≤ 4 ∧ c % 16 ≤ 4 := by
    intro c hc
    obtain ⟨d, hd, rfl⟩ := List.mem_map.1 hc
    have := byte_facts ⟨d, hb d hd⟩
    exact ⟨this.2.1, this.2.2.1⟩
  have e3 := f3_val _ g2
  rw [← e2, show msk 15 ((bytes8 x).map (f2 51 ∘ f1 85)).length = 1085102592571150095 by simp [bytes8, msk], List.map_map] at e3
  have e4 := popN_val (bytes8 x) hb
  rw [hv, show 8 * (bytes8 x).length = 64 by rfl] at e4
  have hmap : (bytes8 x).map ((fun c => c / 16 + c % 16) ∘ (f2 51 ∘ f1 85)) = (bytes8 x).map fun c => popN c 8 := by
    apply List.map_congr_left
    intro c hc
    exact (byte_facts ⟨c, hb c hc⟩).2.2.2.1
  rw [hmap] at e3
  have hp : ∀ c ∈ bytes8 x, popN c 8 ≤ 8 := fun c hc => (byte_facts ⟨c, hb c hc⟩).2.2.2.2
  have hle : ∀ (cs : List Nat), (∀ c ∈ cs, c < 256) → val cs < 256 ^ cs.length := by
    intro cs
    induction cs with
    | nil => intro _; decide
    | cons c r ih =>
      intro h
      have := ih fun c hc => h c (by simp [hc])
      have := h c (by simp)
      simp only [val, List.length_cons, Nat.pow_succ]
      omega
  have hl1 := hle _ g1
  have hl2 := hle ((bytes8 x).map (f2 51 ∘ f1 85)) (fun c hc => by have := g2 c hc; omega)
  rw [← e1] at hl1
  rw [← e2] at hl2
  have h44 : f2 3689348814741910323 (f1 6148914691236517205 x) ≤ 4919131752989213764 := by
    rw [e2]
    have hle4 : ∀ (cs : List Nat), (∀ c ∈ cs, c / 16 ≤ 4 ∧ c % 16 ≤ 4) → val cs ≤ msk 68 cs.length := by
      intro cs
      induction cs with
      | nil => intro _; decide
      | cons c r ih =>
        intro h
        have := ih fun c hc => h c (by simp [hc])
        have := h c (by simp)
        simp only [val, List.length_cons, msk]
        omega
    have := hle4 _ g2
    rw [show msk 68 ((bytes8 x).map (f2 51 ∘ f1 85)).length = 4919131752989213764 by simp [bytes8, msk]] at this
    exact this
  simp only [bytes8, List.map_cons, List.map_nil, val, List.sum_cons, List.sum_nil] at e3 e4
  refine ⟨popN (x % 256) 8, popN (x / 256 % 256) 8, popN (x / 65536 % 256) 8, popN (x / 16777216 % 256) 8, popN (x / 4294967296 % 256) 8, popN (x / 1099511627776 % 256) 8, popN (x / 281474976710656 % 256) 8, popN (x / 72057594037927936 % 256) 8, hp _ (by simp [bytes8]), hp _ (by simp [bytes8]), hp _ (by simp [bytes8]), hp _ (by simp [bytes8]), hp _ (by simp [bytes8]), hp _ (by simp [bytes8]), hp _ (by simp [bytes8]), hp _ (by simp [bytes8]), by simpa [bytes8] using hl1, by simpa [bytes8] using hl2, by omega, by rw [e3, Nat.mul_zero, Nat.add_zero], by rw [e4]; omega⟩

/-! ### The lowest bit -/
theorem ctz_spec {x : Nat} (h0 : x ≠ 0) (h : x < 18446744073709551616) : Lib.ctz 64 x < 64 ∧ x.testBit (Lib.ctz 64 x) = true ∧ ∀ j, j < Lib.ctz 64 x → x.testBit j = false := by
  have e : Lib.ctz 64 x = Lib.ctzFrom 64 x := by simp [Lib.ctz, h0]
  obtain ⟨m, hm, hk⟩ := Lib.ctzFrom_spec 64 x (by omega) h
  rw [e]
  generalize Lib.ctzFrom 64 x = k at hm hk
  refine ⟨hk, ?_, fun j hj => ?_⟩
  · rw [hm, Nat.testBit_two_pow_mul]
    simp
  · rw [hm, Nat.testBit_two_pow_mul]
    simp; omega

/-! ### Sorted steps -/
theorem Rising.tail {s : Step} {l : List Step} (h : Rising (s :: l)) : Rising l := (List.pairwise_cons.1 h).2
/-- Where a prefix ends. -/
theorem prefix_count {p : Step → Bool} (hp : ∀ a b : Step, a.At < b.At → p b = true → p a = true) : ∀ {l : List Step}, Rising l → ∀ (i : Nat) (s : Step), l[i]? = some s → (p s = true ↔ i < l.countP p)
  | [], _, i, s, h => by simp at h
  | a :: l, hr, i, s, h => by
    have ih := prefix_count hp hr.tail
    have ha := (List.pairwise_cons.1 hr).1
    cases hpa : p a with
    | true =>
      rw [List.countP_cons_of_pos hpa]
      cases i with
      | zero => simp at h; subst h; simp [hpa]
      | succ i =>
        have := ih i s (by simpa using h)
        rw [this]; omega
    | false =>
      rw [List.countP_cons_of_neg (by simp [hpa])]
      have hall : ∀ b ∈ l, p b = false := fun b hb => by
        cases hpb : p b with
        | false => rfl
        | true => rw [hp a b (ha b hb) hpb] at hpa; cases hpa
      have h0 : l.countP p = 0 := by rw [List.countP_eq_zero]; intro b hb; simp [hall b hb]
      rw [h0]
      have hs : p s = false := by
        cases i with
        | zero => simp at h; subst h; exact hpa
        | succ i => exact hall s (List.mem_of_getElem? (by simpa using h))
      simp [hs]
theorem ahead_iff {l : List Step} (h : Rising l) {t : Int} {i : Nat} {s : Step} (hs : l[i]? = some s) : s.At < t ↔ i < aheadL l t := by
  have := prefix_count (p := fun s => decide (s.At < t)) (fun a b hab hb => by simp at hb ⊢; omega) h i s hs
  simpa [aheadL] using this
def uptoL (l : List Step) (t : Int) : Nat := l.countP fun s => decide (s.At ≤ t)
theorem upto_iff {l : List Step} (h : Rising l) {t : Int} {i : Nat} {s : Step} (hs : l[i]? = some s) : s.At ≤ t ↔ i < uptoL l t := by
  have := prefix_count (p := fun s => decide (s.At ≤ t)) (fun a b hab hb => by simp at hb ⊢; omega) h i s hs
  simpa [uptoL] using this
theorem ahead_le (l : List Step) (t : Int) : aheadL l t ≤ l.length := List.countP_le_length
theorem upto_le (l : List Step) (t : Int) : uptoL l t ≤ l.length := List.countP_le_length
theorem Rising.get {l : List Step} (h : Rising l) {i j : Nat} {a b : Step} (hi : l[i]? = some a) (hj : l[j]? = some b) (hij : i < j) : a.At < b.At := by
  have := List.pairwise_iff_getElem.1 h i j (List.getElem?_eq_some_iff.1 hi).1 (List.getElem?_eq_some_iff.1 hj).1 hij
  rw [(List.getElem?_eq_some_iff.1 hi).2, (List.getElem?_eq_some_iff.1 hj).2] at this
  exact this
/-- The two counts part by at most one. -/
theorem upto_ahead {l : List Step} (h : Rising l) (t : Int) : uptoL l t = aheadL l t + (if l.any (fun s => decide (s.At = t)) then 1 else 0) := by
  induction l with
  | nil => simp [uptoL, aheadL]
  | cons a l ih =>
    have ih := ih h.tail
    have ha := (List.pairwise_cons.1 h).1
    simp only [uptoL, aheadL] at ih ⊢
    rcases Int.lt_trichotomy a.At t with h1 | h1 | h1
    · rw [List.countP_cons_of_pos (by simp; omega), List.countP_cons_of_pos (by simp; omega), ih]
      have : decide (a.At = t) = false := by simp; omega
      simp only [List.any_cons, this, Bool.false_or]; omega
    · rw [List.countP_cons_of_pos (by simp; omega), List.countP_cons_of_neg (by simp; omega)]
      have e1 : l.countP (fun s => decide (s.At ≤ t)) = 0 := by
        rw [List.countP_eq_zero]; intro b hb; have := ha b hb; simp; omega
      have e2 : l.countP (fun s => decide (s.At < t)) = 0 := by
        rw [List.countP_eq_zero]; intro b hb; have := ha b hb; simp; omega
      rw [e1, e2]; simp [h1]
    · have e1 : l.countP (fun s => decide (s.At ≤ t)) = 0 := by
        rw [List.countP_eq_zero]; intro b hb; have := ha b hb; simp; omega
      have e2 : l.countP (fun s => decide (s.At < t)) = 0 := by
        rw [List.countP_eq_zero]; intro b hb; have := ha b hb; simp; omega
      rw [List.countP_cons_of_neg (by simp; omega), List.countP_cons_of_neg (by simp; omega), e1, e2]
      have e3 : ((a :: l).any fun s => decide (s.At = t)) = false := by
        simp only [List.any_cons, Bool.or_eq_false_iff, decide_eq_false_iff_not, List.any_eq_false]
        exact ⟨by omega, fun b hb => by have := ha b hb; simp; omega⟩
      rw [e3]; simp
theorem idx_eq {l : List Step} (h : Rising l) (t : Int) : (idxL l t : Int) = (if l.any (fun s => decide (s.At = t)) then (aheadL l t : Int) else if 0 > (aheadL l t : Int) - 1 then 0 else (aheadL l t : Int) - 1) := by
  have := upto_ahead h t
  unfold idxL
  change ((uptoL l t - 1 : Nat) : Int) = _
  rw [this]
  split
  · simp
  · split <;> simp <;> omega
theorem idx_lt {l : List Step} (h : l ≠ []) (t : Int) : idxL l t < l.length := by
  have := upto_le l t
  have := List.length_pos_iff.2 h
  unfold idxL
  change uptoL l t - 1 < _
  omega
end Go.Ax.Law
