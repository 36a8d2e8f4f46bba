/-
  The executor is right, part two: the operations that leave the world alone.
-/
import Derived.Test.YtjpeimmjggkkjaaAx3
import Derived.Laws.StructEq
set_option linter.all false
namespace Go.Ax
variable {P : Program} {G : Gam} {ρ : List Root} {w : World}

theorem run_und {t : TypeId} {d : TypeDesc} (h : P.underlying t = some d) (w : World) : (underlying t).run P w = .ok d w := by
  simp [underlying, h]
theorem info_of_cells {t : TypeId} (h : P.cellsOf t ≠ 0) : ∃ i, P.info? t = some i ∧ i.size = P.cellsOf t := by
  unfold Program.cellsOf at h ⊢
  cases hi : P.info? t with
  | none => simp [hi] at h
  | some i => exact ⟨i, rfl, by simp⟩
theorem run_size {t : TypeId} {i : TypeInfo} (h : P.info? t = some i) (w : World) : (sizeOf t).run P w = .ok (P.cellsOf t) w := by
  simp [sizeOf, typeInfo, h, Program.cellsOf]
theorem run_agg {t : TypeId} {g : Bool} (h : isAggT P t = some g) (w : World) : (isAgg t).run P w = .ok g w := by
  unfold isAggT at h
  cases hu : P.underlying t with
  | none => simp [hu] at h
  | some d =>
    have := run_und hu w
    cases d <;> simp [hu] at h <;> subst h <;> simp [isAgg, this]
theorem info_of_und {t : TypeId} {d : TypeDesc} (h : P.underlying t = some d) : ∃ i, P.info? t = some i := by
  unfold Program.underlying at h
  cases hi : P.info? t with
  | none => simp [hi] at h
  | some i => exact ⟨i, rfl⟩

theorem rv_bool {c : Bool} {v : Value} (h : RV G ρ (.bool c) v) : v = .bool c := by simpa only [RV] using h
theorem rv_int {k : IntKind} {n : Int} {v : Value} (h : RV G ρ (.int k n) v) : v = .int k n := by simpa only [RV] using h
theorem rv_str {s : ByteArray} {v : Value} (h : RV G ρ (.str s) v) : v = .string s := by simpa only [RV] using h

theorem rvB {c : Bool} : RV G ρ (.bool c) (.bool c) := by simp only [RV]
theorem rvI {k : IntKind} {n : Int} : RV G ρ (.int k n) (.int k n) := by simp only [RV]
theorem rvS {s : ByteArray} : RV G ρ (.str s) (.string s) := by simp only [RV]

theorem kindEq_eq {a b : IntKind} (h : kindEq a b = true) : a = b := by cases a <;> cases b <;> first | rfl | (exact absurd h (by decide))
theorem br_elim {b : Bool} {x : Prop} (h : br b x False) : b = true ∧ x := by
  cases b with
  | true => exact ⟨rfl, h⟩
  | false => exact h.elim

/-- What an operation that leaves the world alone comes to. -/
def Calm (P : Program) (G : Gam) (ρ : List Root) (w : World) (r : Operand → Value) (o : Oper) (k : AV → Prop) : Prop :=
  ∃ x u, k x ∧ RV G ρ x u ∧ ∀ w', WOK G w' → (execOp r o).run P w' = .ok (.value u) w'

theorem un_calm {op : UnOp} {x : AV} {k : AV → Prop} {v : Value} (h : aun op x k) (hv : RV G ρ x v) :
    ∃ y u, k y ∧ RV G ρ y u ∧ ∀ w', (Op.unary op v).run P w' = .ok u w' := by
  unfold aun at h
  split at h
  · have := rv_int hv; subst this
    exact ⟨_, _, nmI_elim h, rvI, fun w' => by simp [Op.unary, Op.intArith]⟩
  · have := rv_bool hv; subst this
    exact ⟨_, _, h, rvB, fun w' => by simp [Op.unary]⟩
  · have := rv_int hv; subst this
    exact ⟨_, _, nmI_elim h, rvI, fun w' => by simp [Op.unary, Op.intBits]⟩
  · exact h.elim

theorem conv_calm {s d : TypeId} {x : AV} {k : AV → Prop} {v : Value} (h : aconv P s d x k) (hv : RV G ρ x v) :
    ∃ y u, k y ∧ RV G ρ y u ∧ ∀ w', (convert s d v).run P w' = .ok u w' := by
  unfold aconv at h
  split at h
  · rename_i ds kd kk n hs hd
    have := rv_int hv; subst this
    refine ⟨_, _, nmI_elim h, rvI, fun w' => ?_⟩
    simp [convert, run_und hs, run_und hd, Conv.intToInt]
  · rename_i ds ss hs hd
    have := rv_str hv; subst this
    refine ⟨_, _, h, rvS, fun w' => ?_⟩
    simp [convert, run_und hs, run_und hd]
  · exact h.elim

/-! The model's '==' at one step. -/
theorem equal_at (t : TypeId) (x y : Value) (n : Nat) (h : n + 1 = 10000) : Op.equal t x y = Op.equalIn (n + 1) t x y := by
  rw [h]; rfl
theorem eqIn_bool {t : TypeId} (n : Nat) (h : P.underlying t = some .bool) (a b : Bool) (w : World) : (Op.equalIn (n + 1) t (.bool a) (.bool b)).run P w = .ok (a == b) w := by
  simp [Op.equalIn, run_und h]
theorem eqIn_ptr {t e : TypeId} (n : Nat) (h : P.underlying t = some (.pointer e)) (a b : Option Addr) (hab : a = none ∨ b = none) (w : World) :
    (Op.equalIn (n + 1) t (.pointer a) (.pointer b)).run P w = .ok (a.isNone && b.isNone) w := by
  rcases hab with rfl | rfl
  · cases b <;> simp [Op.equalIn, run_und h]
  · cases a <;> simp [Op.equalIn, run_und h]
theorem eqIn_slice {t e : TypeId} (n : Nat) (h : P.underlying t = some (.slice e)) (a b : Option Addr) (l c l' c' : Nat) (hab : a = none ∨ b = none) (w : World) :
    (Op.equalIn (n + 1) t (.slice a l c) (.slice b l' c')).run P w = .ok (a.isNone && b.isNone) w := by
  rcases hab with rfl | rfl
  · cases b <;> simp [Op.equalIn, run_und h]
  · cases a <;> simp [Op.equalIn, run_und h]
theorem eqIn_func {t : TypeId} (n : Nat) {ps rs : Array TypeId} {vr : Bool} (h : P.underlying t = some (.func ps rs vr)) (x y : Value) (a b : Bool)
    (hx : (a = true ∧ x = .nilFunc) ∨ (a = false ∧ ∃ f p q, x = .func f p q)) (hy : (b = true ∧ y = .nilFunc) ∨ (b = false ∧ ∃ f p q, y = .func f p q)) (hab : a = true ∨ b = true) (w : World) :
    (Op.equalIn (n + 1) t x y).run P w = .ok (a && b) w := by
  rcases hx with ⟨rfl, rfl⟩ | ⟨rfl, f, p, q, rfl⟩ <;> rcases hy with ⟨rfl, rfl⟩ | ⟨rfl, f', p', q', rfl⟩ <;> simp_all [Op.equalIn, run_und h]

/-- '==' and '!=' of what the model's 'equal' tells. -/
theorem eql_run {t : TypeId} {u v : Value} {b : Bool} {op : BinOp} (hop : op = .eql ∨ op = .neq) {xo yo : Operand} {w : World}
    (h1 : (eqGuard op t xo yo u v).run P w = .ok () w) (h2 : (Op.equal t u v).run P w = .ok b w)
    (h3 : ∀ op, op = .eql ∨ op = .neq → binOp op t u v = (match op with | .eql => (do pure (.bool (← Op.equal t u v)) : Sem Value) | _ => do pure (.bool (!(← Op.equal t u v))))) :
    (do eqGuard op t xo yo u v; binOp op t u v : Sem Value).run P w = .ok (.bool (if op = .eql then b else !b)) w := by
  rw [h3 op hop]
  rcases hop with rfl | rfl <;> simp [h1, h2]

theorem apart_run {t : TypeId} {off : Nat} {xs : List AV} {x : AV} (h : apart P t off xs = some x) {us : Array Value} (hu : RVs G ρ xs us.toList) : ∃ u, (part t us off).run P w = .ok u w ∧ RV G ρ x u := by
  unfold apart at h
  split at h
  · rename_i hg
    cases hb : (Nat.ble (off + P.cellsOf t) xs.length && !Nat.beq (P.cellsOf t) 0) with
    | false => rw [hb] at h; cases h
    | true =>
      rw [hb] at h
      simp only [cond_true, Option.some.injEq] at h
      subst h
      simp only [Bool.and_eq_true] at hb
      have hle := Nat.le_of_ble_eq_true hb.1
      have hc0 : P.cellsOf t ≠ 0 := fun h => by rw [h] at hb; exact absurd hb.2 (by decide)
      obtain ⟨i, hi, his⟩ := info_of_cells hc0
      refine ⟨.agg (us.extract off (off + P.cellsOf t)), by simp [part, run_agg hg, run_size hi], ?_⟩
      simp only [RV]
      refine ⟨_, rfl, ?_⟩
      have hlen := hu.len
      simp at hlen
      refine RVs.of_get (by simp; omega) fun j y hj => ?_
      have hjn : j < P.cellsOf t := by
        have := (List.getElem?_eq_some_iff.1 hj).1
        simp at this; omega
      rw [List.getElem?_take_of_lt hjn, List.getElem?_drop] at hj
      obtain ⟨v, hv, hr⟩ := hu.get hj
      refine ⟨v, ?_, hr⟩
      simp at hv
      have hmin : min (off + P.cellsOf t) us.size = off + P.cellsOf t := by omega
      rw [Array.getElem?_toList, Array.getElem?_extract, hmin, if_pos (by omega)]
      exact hv
  · rename_i hg
    obtain ⟨u, hu', hr⟩ := hu.get h
    simp at hu'
    exact ⟨u, by simp [part, run_agg hg, hu'], hr⟩
  · cases h

/-- Elements are compared one by one. -/
def eqElems (d : Nat) (e : TypeId) (n : Nat) (xs ys : Array Value) : List Nat → Sem Bool
  | [] => pure true
  | i :: r => do
    if !(← Op.equalIn d e (← part e xs (i * n)) (← part e ys (i * n))) then pure false else eqElems d e n xs ys r
theorem run_equalIn_array (d : Nat) {t e : TypeId} {len n : Nat} (xs ys : Array Value) (ht : P.underlying t = some (.array len e)) (hn : ∀ w, (sizeOf e).run P w = .ok n w) :
    (Op.equalIn (d + 1) t (.agg xs) (.agg ys)).run P w = (eqElems d e n xs ys (List.range' 0 len)).run P w := by
  simp only [Op.equalIn, Sem.run_bind, run_und ht, Result.andThen_ok, hn]
  rw [Std.Legacy.Range.forIn_eq_forIn_range']
  simp only [Std.Legacy.Range.size, Nat.sub_zero, Nat.add_sub_cancel, Nat.div_one]
  generalize List.range' 0 len = l
  clear ht hn
  induction l generalizing w with
  | nil => simp [eqElems]
  | cons f fs ih =>
    simp only [List.forIn_cons, eqElems, Sem.run_bind, Sem.run_ite]
    generalize (part e xs (f * n)).run P w = r1
    cases r1 with
    | ok a w1 =>
      simp only [Result.andThen_ok]
      generalize (part e ys (f * n)).run P w1 = r2
      cases r2 with
      | ok b w2 =>
        simp only [Result.andThen_ok]
        generalize (Op.equalIn d e a b).run P w2 = r3
        cases r3 with
        | ok r w3 =>
          cases r
          · simp only [Result.andThen_ok, Bool.not_false, if_true, Sem.run_pure]
          · simp only [Result.andThen_ok, Bool.not_true, Bool.false_eq_true, if_false, Sem.run_pure]
            exact ih (w := w3)
        | halt x w3 => simp [Result.andThen]
      | halt x w2 => simp [Result.andThen]
    | halt x w1 => simp [Result.andThen]

theorem aeqT_run : ∀ (d : Nat) {t : TypeId} {x y : AV} {b : Bool} {u v : Value}, aeqT P d t x y = some b → RV G ρ x u → RV G ρ y v → (Op.equalIn d t u v).run P w = .ok b w
  | 0, t, x, y, b, u, v, h, hu, hv => by simp only [aeqT] at h; cases h
  | d + 1, t, x, y, b, u, v, h, hu, hv => by
    simp only [aeqT] at h
    split at h
    · rename_i ht
      have := rv_bool hu; have := rv_bool hv; subst u v
      cases h
      exact run_equalIn_bool' w d t _ _ ht
    · rename_i ht
      have := rv_int hu; have := rv_int hv; subst u v
      cases hk : kindEq _ _ with
      | false => rw [hk] at h; cases h
      | true =>
        rw [hk] at h
        have hk' := kindEq_eq hk; subst hk'
        cases h
        exact run_equalIn_int w d t _ _ _ _ ht
    · rename_i ht
      have := rv_str hu; have := rv_str hv; subst u v
      cases h
      exact run_equalIn_string w d t _ _ ht
    · rename_i fs xs ys ht
      cases hp : P.stoodInHeld t with
      | true => rw [hp] at h; cases h
      | false =>
        rw [hp] at h
        simp only [cond_false] at h
        obtain ⟨us, rfl, hus⟩ : ∃ us, u = .agg us ∧ RVs G ρ xs us.toList := by simpa only [RV] using hu
        obtain ⟨vs, rfl, hvs⟩ : ∃ vs, v = .agg vs ∧ RVs G ρ ys vs.toList := by simpa only [RV] using hv
        have hf : P.fieldsOf t = fs := by simp [Program.fieldsOf, ht]
        rw [run_equalIn_struct w d t us vs (by rw [hf]; exact ht) hp, hf]
        clear ht hf hu hv
        generalize fs.toList = l at h
        induction l generalizing b with
        | nil => simp only [aeqFs] at h; cases h; simp [Op.eqFields]
        | cons f l ih =>
          simp only [aeqFs] at h
          split at h
          · rename_i hn _
            simp only [Op.eqFields]
            rw [if_neg (by simpa using hn)]
            exact ih _ h
          · rename_i hn _
            split at h
            · rename_i a a' ha ha'
              split at h
              · rename_i r s hr hs
                cases h
                obtain ⟨u1, h1, h2⟩ := apart_run (w := w) ha hus
                obtain ⟨v1, h3, h4⟩ := apart_run (w := w) ha' hvs
                have h5 := aeqT_run d hr h2 h4
                simp only [Op.eqFields]
                rw [if_pos (by simpa using hn)]
                simp only [Sem.run_bind, h1, h3, h5, Result.andThen_ok]
                cases r
                · simp
                · simpa using ih _ hs
              · cases h
            · cases h
    · rename_i n e xs ys ht
      cases hc : Nat.beq (P.cellsOf e) 0 with
      | true => rw [hc] at h; cases h
      | false =>
        rw [hc] at h
        simp only [cond_false] at h
        obtain ⟨i, hi, his⟩ := info_of_cells (P := P) (t := e) (Nat.ne_of_beq_eq_false hc)
        obtain ⟨us, rfl, hus⟩ : ∃ us, u = .agg us ∧ RVs G ρ xs us.toList := by simpa only [RV] using hu
        obtain ⟨vs, rfl, hvs⟩ : ∃ vs, v = .agg vs ∧ RVs G ρ ys vs.toList := by simpa only [RV] using hv
        rw [run_equalIn_array (n := P.cellsOf e) d us vs ht (fun w => run_size hi w)]
        clear ht hu hv
        generalize 0 = p at h
        induction n generalizing p b with
        | zero => simp only [aeqArr] at h; cases h; simp [eqElems]
        | succ n ih =>
          simp only [aeqArr] at h
          split at h
          · rename_i a a' ha ha'
            split at h
            · rename_i r s hr hs
              cases h
              obtain ⟨u1, h1, h2⟩ := apart_run (w := w) ha hus
              obtain ⟨v1, h3, h4⟩ := apart_run (w := w) ha' hvs
              have h5 := aeqT_run d hr h2 h4
              simp only [List.range'_succ, eqElems]
              simp only [Sem.run_bind, h1, h3, h5, Result.andThen_ok]
              cases r
              · simp
              · simpa using ih _ _ hs
            · cases h
          · cases h
    · cases h

theorem eql_calm {t : TypeId} {x y : AV} {k : Bool → Prop} {u v : Value} (h : aeql P t x y k) (hu : RV G ρ x u) (hv : RV G ρ y v) (op : BinOp) (hop : op = .eql ∨ op = .neq) (xo yo : Operand) :
    ∃ b, k b ∧ ∀ w', (do eqGuard op t xo yo u v; binOp op t u v : Sem Value).run P w' = .ok (.bool (if op = .eql then b else !b)) w' := by
  unfold aeql at h
  split at h
  · have := rv_bool hu; have := rv_bool hv; subst u v
    split at h
    · rename_i hb
      refine ⟨_, h, fun w' => eql_run hop ?_ ?_ ?_⟩
      · rcases hop with rfl | rfl <;> rfl
      · rw [equal_at _ _ _ 9999 rfl, eqIn_bool 9999 hb]
      · rintro op (rfl | rfl) <;> rfl
    · exact h.elim
  · have := rv_int hu; have := rv_int hv; subst u v
    obtain ⟨hk, h2⟩ := br_elim h
    have hk := kindEq_eq hk; subst hk
    refine ⟨_, h2, fun w' => ?_⟩
    rcases hop with rfl | rfl <;> simp [eqGuard, binOp, Op.intCmp, bne]
  · have := rv_str hu; have := rv_str hv; subst u v
    refine ⟨_, h, fun w' => ?_⟩
    rcases hop with rfl | rfl <;> simp [eqGuard, binOp, Op.stringOp]
  · simp only [RV] at hu hv; subst u v
    split at h
    · rename_i e hb
      refine ⟨_, h, fun w' => eql_run hop ?_ ?_ ?_⟩
      · rcases hop with rfl | rfl <;> rfl
      · rw [equal_at _ _ _ 9999 rfl, eqIn_ptr 9999 hb _ _ (.inl rfl)]; rfl
      · rintro op (rfl | rfl) <;> rfl
    · exact h.elim
  · simp only [RV] at hu hv; subst v
    obtain ⟨tt, bb, _, _, rfl⟩ := hu
    split at h
    · rename_i e hb
      refine ⟨_, h, fun w' => eql_run hop ?_ ?_ ?_⟩
      · rcases hop with rfl | rfl <;> rfl
      · rw [equal_at _ _ _ 9999 rfl, eqIn_ptr 9999 hb _ _ (.inr rfl)]; rfl
      · rintro op (rfl | rfl) <;> rfl
    · exact h.elim
  · simp only [RV] at hu hv; subst u
    obtain ⟨tt, bb, _, _, rfl⟩ := hv
    split at h
    · rename_i e hb
      refine ⟨_, h, fun w' => eql_run hop ?_ ?_ ?_⟩
      · rcases hop with rfl | rfl <;> rfl
      · rw [equal_at _ _ _ 9999 rfl, eqIn_ptr 9999 hb _ _ (.inl rfl)]; rfl
      · rintro op (rfl | rfl) <;> rfl
    · exact h.elim
  · simp only [RV] at hu hv; subst v
    obtain ⟨bb, oo, rfl, _⟩ := hu
    split at h
    · rename_i e hb
      refine ⟨_, h, fun w' => eql_run hop ?_ ?_ ?_⟩
      · rcases hop with rfl | rfl <;> rfl
      · rw [equal_at _ _ _ 9999 rfl, eqIn_ptr 9999 hb _ _ (.inr rfl)]; rfl
      · rintro op (rfl | rfl) <;> rfl
    · exact h.elim
  · simp only [RV] at hu hv; subst u
    obtain ⟨bb, oo, rfl, _⟩ := hv
    split at h
    · rename_i e hb
      refine ⟨_, h, fun w' => eql_run hop ?_ ?_ ?_⟩
      · rcases hop with rfl | rfl <;> rfl
      · rw [equal_at _ _ _ 9999 rfl, eqIn_ptr 9999 hb _ _ (.inl rfl)]; rfl
      · rintro op (rfl | rfl) <;> rfl
    · exact h.elim
  · simp only [RV] at hu hv; subst u v
    split at h
    · rename_i e hb
      refine ⟨_, h, fun w' => eql_run hop ?_ ?_ ?_⟩
      · rcases hop with rfl | rfl <;> rfl
      · rw [equal_at _ _ _ 9999 rfl, eqIn_slice 9999 hb _ _ _ _ _ _ (.inl rfl)]; rfl
      · rintro op (rfl | rfl) <;> rfl
    · exact h.elim
  · rename_i l es bs n
    simp only [RV] at hu hv; subst v
    obtain ⟨tt, _, _, hs⟩ := hu
    split at h
    · rename_i e hb
      obtain ⟨a, m, c, rfl, ha⟩ : ∃ a m c, u = .slice a m c ∧ (0 < n → a ≠ none) := by
        rcases hs with ⟨b, _, rfl⟩ | ⟨hn, _, a, rfl⟩
        · exact ⟨_, _, _, rfl, fun _ => by simp⟩
        · exact ⟨_, _, _, rfl, fun h => by omega⟩
      refine ⟨a.isNone, h _ (fun hn => by have := ha hn; cases a <;> simp_all), fun w' => eql_run hop ?_ ?_ ?_⟩
      · rcases hop with rfl | rfl <;> rfl
      · rw [equal_at _ _ _ 9999 rfl, eqIn_slice 9999 hb _ _ _ _ _ _ (.inr rfl)]; simp
      · rintro op (rfl | rfl) <;> rfl
    · exact h.elim
  · rename_i l es bs n
    simp only [RV] at hu hv; subst u
    obtain ⟨tt, _, _, hs⟩ := hv
    split at h
    · rename_i e hb
      obtain ⟨a, m, c, rfl, ha⟩ : ∃ a m c, v = .slice a m c ∧ (0 < n → a ≠ none) := by
        rcases hs with ⟨b, _, rfl⟩ | ⟨hn, _, a, rfl⟩
        · exact ⟨_, _, _, rfl, fun _ => by simp⟩
        · exact ⟨_, _, _, rfl, fun h => by omega⟩
      refine ⟨a.isNone, h _ (fun hn => by have := ha hn; cases a <;> simp_all), fun w' => eql_run hop ?_ ?_ ?_⟩
      · rcases hop with rfl | rfl <;> rfl
      · rw [equal_at _ _ _ 9999 rfl, eqIn_slice 9999 hb _ _ _ _ _ _ (.inl rfl)]; simp
      · rintro op (rfl | rfl) <;> rfl
    · exact h.elim
  · rename_i kk xs
    simp only [RV] at hu hv; subst v
    obtain ⟨a, c, rfl, _, ha⟩ := hu
    split at h
    · rename_i e hb
      refine ⟨a.isNone, h _ (fun hn => by obtain ⟨b, o, rfl, _⟩ := ha hn; rfl), fun w' => eql_run hop ?_ ?_ ?_⟩
      · rcases hop with rfl | rfl <;> rfl
      · rw [equal_at _ _ _ 9999 rfl, eqIn_slice 9999 hb _ _ _ _ _ _ (.inr rfl)]; simp
      · rintro op (rfl | rfl) <;> rfl
    · exact h.elim
  · rename_i kk xs
    simp only [RV] at hu hv; subst u
    obtain ⟨a, c, rfl, _, ha⟩ := hv
    split at h
    · rename_i e hb
      refine ⟨a.isNone, h _ (fun hn => by obtain ⟨b, o, rfl, _⟩ := ha hn; rfl), fun w' => eql_run hop ?_ ?_ ?_⟩
      · rcases hop with rfl | rfl <;> rfl
      · rw [equal_at _ _ _ 9999 rfl, eqIn_slice 9999 hb _ _ _ _ _ _ (.inl rfl)]; simp
      · rintro op (rfl | rfl) <;> rfl
    · exact h.elim
  · simp only [RV] at hu hv; subst v
    obtain ⟨vs, rfl, _⟩ := hu
    split at h
    · rename_i hb
      refine ⟨_, h, fun w' => eql_run hop ?_ ?_ ?_⟩
      · rcases hop with rfl | rfl <;> rfl
      · rw [equal_at _ _ _ 9999 rfl, eqIn_func 9999 hb _ _ false true (.inr ⟨rfl, _, _, _, rfl⟩) (.inl ⟨rfl, rfl⟩) (.inr rfl)]; rfl
      · rintro op (rfl | rfl) <;> rfl
    · exact h.elim
  · simp only [RV] at hu hv; subst u
    obtain ⟨vs, rfl, _⟩ := hv
    split at h
    · rename_i hb
      refine ⟨_, h, fun w' => eql_run hop ?_ ?_ ?_⟩
      · rcases hop with rfl | rfl <;> rfl
      · rw [equal_at _ _ _ 9999 rfl, eqIn_func 9999 hb _ _ true false (.inl ⟨rfl, rfl⟩) (.inr ⟨rfl, _, _, _, rfl⟩) (.inl rfl)]; rfl
      · rintro op (rfl | rfl) <;> rfl
    · exact h.elim
  · simp only [RV] at hu hv; subst u v
    split at h
    · rename_i hb
      refine ⟨_, h, fun w' => eql_run hop ?_ ?_ ?_⟩
      · rcases hop with rfl | rfl <;> rfl
      · rw [equal_at _ _ _ 9999 rfl, eqIn_func 9999 hb _ _ true true (.inl ⟨rfl, rfl⟩) (.inl ⟨rfl, rfl⟩) (.inl rfl)]; rfl
      · rintro op (rfl | rfl) <;> rfl
    · exact h.elim
  · rename_i xs ys
    obtain ⟨hg, h⟩ := br_elim h
    rw [forceQ_eq] at h
    split at h
    · rename_i b hb
      replace hb := eqPlan_spec _ _ _ _ _ hb
      obtain ⟨us, rfl, hus⟩ : ∃ us, u = .agg us ∧ RVs G ρ xs us.toList := by simpa only [RV] using hu
      obtain ⟨vs, rfl, hvs⟩ : ∃ vs, v = .agg vs ∧ RVs G ρ ys vs.toList := by simpa only [RV] using hv
      have hg' : P.eqGuardType P.depth t = false := by simpa using hg
      refine ⟨b, h, fun w' => ?_⟩
      have he := aeqT_run (w := w') 10000 hb hu hv
      rw [Sem.run_bind, run_eqGuard_agg w' op t xo yo us vs hg', Result.andThen_ok]
      rcases hop with rfl | rfl
      · rw [run_eql_struct, he]; rfl
      · rw [run_neq_struct, he]; rfl
    · exact h.elim
  · exact h.elim

end Go.Ax
