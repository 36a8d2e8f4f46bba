/-
  The executor is right, part fifteen: regions in any order.
-/
import Derived.Test.YtjpeimmjggkkjaaAx16
set_option linter.all false
namespace Go.Ax

section
variable {P : Program} {ops : Array Oper} {Q : Exit → Act → World → Prop}

/-- What is asked of the world as long as an operation that was taken first is held. -/
abbrev HP := Nat × (World → Prop)

def keepH (ops : Array Oper) (held : List HP) (j : Nat) : List HP := held.filter fun p => !waitsOn ops ops.size p.1 j

/-- Any order; and what is held stays true. -/
def wpM (P : Program) (ops : Array Oper) (Q : Exit → Act → World → Prop) : Nat → List HP → Array Bool → Act → World → Prop
  | 0, _, listed, a, w => Region.ready .any ops listed = [] ∧ Q .normal a w
  | fuel + 1, held, listed, a, w =>
    (Region.ready .any ops listed = [] → Q .normal a w) ∧
    ∀ j ∈ Region.ready .any ops listed, wpOp P ops Q j (fun a' w' => (∀ p ∈ keepH ops held j, p.2 w → p.2 w') ∧ wpM P ops Q fuel (keepH ops held j) (listed.setIfInBounds j true) a' w') a w

theorem wpM.any : ∀ (fuel : Nat) (held : List HP) (listed : Array Bool) (a : Act) (w : World), wpM P ops Q fuel held listed a w → wpAny P .any ops Q fuel listed a w
  | 0, _, _, _, _, h => h
  | fuel + 1, held, _, _, _, h => ⟨h.1, fun j hj => wpOp_mono (fun a' w' h' => wpM.any fuel _ _ a' w' h'.2) (h.2 j hj)⟩

theorem keepH_sub {h1 h2 : List HP} (h : ∀ p, p ∈ h2 → p ∈ h1) (j : Nat) : ∀ p, p ∈ keepH ops h2 j → p ∈ keepH ops h1 j := by
  intro p hp
  simp only [keepH, List.mem_filter] at hp ⊢
  exact ⟨h p hp.1, hp.2⟩

theorem wpM.less : ∀ (fuel : Nat) (h1 h2 : List HP) (_ : ∀ p, p ∈ h2 → p ∈ h1) (listed : Array Bool) (a : Act) (w : World), wpM P ops Q fuel h1 listed a w → wpM P ops Q fuel h2 listed a w
  | 0, _, _, _, _, _, _, h => h
  | fuel + 1, h1, h2, hs, listed, a, w, h => ⟨h.1, fun j hj => wpOp_mono (fun a' w' h' => ⟨fun p hp => h'.1 p (keepH_sub hs j p hp), wpM.less fuel _ _ (keepH_sub hs j) _ a' w' h'.2⟩) (h.2 j hj)⟩

/-- What has come up has those before it that have come up. -/
def Closed (ops : Array Oper) (listed : Array Bool) : Prop :=
  ∀ k o, ops[k]? = some o → listed.getD k false = true → ∀ e ∈ o.after, Region.binds .any e = true → listed.getD e.on false = true

theorem Closed.step {listed : Array Bool} (h : Closed ops listed) {j : Nat} (hj : j ∈ Region.ready .any ops listed) : Closed ops (listed.setIfInBounds j true) := by
  intro k o hk hl e he hb
  by_cases hjk : j = k
  · subst hjk
    obtain ⟨_, oj, hoj, hall⟩ := mem_ready.1 hj
    rw [hoj] at hk; simp at hk; subst hk
    exact getD_set_true (hall e he hb)
  · rw [getD_set_ne false hjk] at hl
    exact getD_set_true (h k o hk hl e he hb)

theorem Closed.waits {listed : Array Bool} (h : Closed ops listed) {i : Nat} (hi : listed.getD i false = false) : ∀ (n : Nat) {j : Nat} {o : Oper}, ops[j]? = some o →
    (∀ e ∈ o.after, Region.binds .any e = true → listed.getD e.on false = true) → waitsOn ops n i j = false
  | 0, _, _, _, _ => rfl
  | n + 1, j, o, ho, hall => by
    simp only [waitsOn, ho]
    rw [Bool.eq_false_iff]
    intro ht
    rw [List.any_eq_true] at ht
    obtain ⟨e, he, ht⟩ := ht
    simp only [Bool.and_eq_true, Bool.or_eq_true] at ht
    have hl := hall e (by simpa using he) ht.1
    rcases ht.2 with h1 | h1
    · have := Nat.eq_of_beq_eq_true h1
      rw [this, hi] at hl
      exact absurd hl (by decide)
    · cases hon : ops[e.on]? with
      | none => cases n <;> simp [waitsOn, hon] at h1
      | some oe => rw [Closed.waits h hi n hon (h _ _ hon hl)] at h1; exact absurd h1 (by decide)

theorem wpM_first {i : Nat} {oi : Oper} {v : Value} {S : World → Prop} (hi : ops[i]? = some oi) (hsel : ∀ (j : Nat) (o : Oper) cs b, ops[j]? = some o → o.op ≠ .select cs b)
    (hQ : ∀ c a w, Q (.panic c) (a.put oi.dst v) w → Q (.panic c) a w) :
    ∀ (fuel : Nat) (held : List HP) (listed : Array Bool) (a : Act) (w : World), Closed ops listed →
      (∀ j oj, ops[j]? = some oj → j ≠ i → listed.getD j true = false → (∀ e ∈ oj.after, Region.binds .any e = true → e.on ≠ i) → oi.apart ops oj = true) →
      i ∈ Region.ready .any ops listed → YieldsIf P ops S oi v a → S w →
      wpM P ops Q fuel ((i, S) :: held) (listed.setIfInBounds i true) (a.put oi.dst v) w → wpM P ops Q (fuel + 1) held listed a w := by
  intro fuel
  induction fuel with
  | zero =>
    intro held listed a w hc _ hr hy hS H
    refine ⟨fun h => (by rw [h] at hr; cases hr), fun j hj => ?_⟩
    by_cases hji : j = i
    · subst hji; exact hy.wpOp hi hS ⟨fun p _ h => h, H⟩
    · have := ready_mono hj hji
      rw [H.1] at this
      cases this
  | succ fuel ih =>
    intro held listed a w hc hfree hr hy hS H
    refine ⟨fun h => (by rw [h] at hr; cases hr), fun j hj => ?_⟩
    by_cases hji : j = i
    · subst hji
      refine hy.wpOp hi hS ⟨fun p _ h => h, wpM.less _ _ _ (fun p hp => ?_) _ _ _ H⟩
      exact List.mem_cons_of_mem _ (List.mem_filter.1 hp).1
    · have h1 := H.2 j (ready_mono hj hji)
      obtain ⟨hjun, oj, hoj, hall⟩ := mem_ready.1 hj
      have hiun : listed.getD i false = false := by
        have h0 := (mem_ready.1 hr).1
        rcases Nat.lt_or_ge i listed.size with h' | h'
        · simp [h'] at h0 ⊢; exact h0
        · simp [Array.getElem?_eq_none h']
      have hnot : ∀ e ∈ oj.after, Region.binds .any e = true → e.on ≠ i := fun e he hb heq => by
        have h1 := hall e he hb
        rw [heq, hiun] at h1
        exact absurd h1 (by decide)
      have hkeep : keepH ops ((i, S) :: held) j = (i, S) :: keepH ops held j := by
        simp only [keepH, List.filter_cons, hc.waits hiun ops.size hoj hall, Bool.not_false, if_true]
      rw [hkeep] at h1
      have h2 := wpOp_putIf hoj (hfree j oj hoj hji hjun hnot) (fun cs b => hsel i oi cs b hi) (fun cs b => hsel j oj cs b hoj) hQ hy h1
      have hfree' : ∀ k ok, ops[k]? = some ok → k ≠ i → (listed.setIfInBounds j true).getD k true = false →
          (∀ e ∈ ok.after, Region.binds .any e = true → e.on ≠ i) → oi.apart ops ok = true := fun k ok hk hki hun hno => by
        refine hfree k ok hk hki ?_ hno
        by_cases hjk : j = k
        · subst hjk; exact hjun
        · rw [getD_set_ne true hjk] at hun; exact hun
      refine wpOp_mono (fun a' w' h3 => ⟨fun p hp => h3.2.1 p (List.mem_cons_of_mem _ hp), ih (keepH ops held j) (listed.setIfInBounds j true) a' w' (hc.step hj) hfree' (ready_mono hr (Ne.symm hji)) h3.1 (h3.2.1 (i, S) List.mem_cons_self hS) ?_⟩) h2
      rw [Array.setIfInBounds_comm _ _ hji]
      exact h3.2.2

end

variable {G : Gam} {ρ : List Root} {w : World}

/-- What is held, by labels and by what it asks of the world. -/
def HOK (G : Gam) (w : World) (H : AHeap) (Fs : Nat → List Nat) (held : List (Nat × Nat)) (hs : List HP) : Prop :=
  ∀ p ∈ hs, p.2 = WOK G ∨ ∃ l b ob c, (p.1, l) ∈ held ∧ H[l]? = some (some ob) ∧ b ∈ Fs l ∧ (∀ y, y ∈ Fs l → y = b) ∧ w.heap[b]? = c ∧ p.2 = fun w' => WOK G w' ∧ w'.heap[b]? = c

theorem HOK.unt {w' : World} {H H' : AHeap} {Fs Fs' : Nat → List Nat} {held : List (Nat × Nat)} {hs : List HP} {T : List Nat} {ops : Array Oper} (h : HOK G w H Fs held hs) (j : Nat) (hun : Unt w w' H H' Fs Fs' T)
    (hok : heldOK (heldOn ops held j) T = true) (hw : WOK G w') : HOK G w' H' Fs' (heldOn ops held j) (keepH ops hs j) ∧ ∀ p ∈ keepH ops hs j, p.2 w → p.2 w' := by
  have key : ∀ p ∈ keepH ops hs j, p.2 = WOK G ∨ ∃ l b ob c, (p.1, l) ∈ heldOn ops held j ∧ H'[l]? = some (some ob) ∧ b ∈ Fs' l ∧ (∀ y, y ∈ Fs' l → y = b) ∧ w'.heap[b]? = c ∧ w.heap[b]? = c ∧ p.2 = fun w' => WOK G w' ∧ w'.heap[b]? = c := by
    intro p hp
    obtain ⟨hp1, hp2⟩ := List.mem_filter.1 hp
    rcases h p hp1 with h1 | ⟨l, b, ob, c, h1, h2, h3, h4, h5, h6⟩
    · exact .inl h1
    · have hmem : (p.1, l) ∈ heldOn ops held j := List.mem_filter.2 ⟨h1, hp2⟩
      have hnT : l ∉ T := by
        have := List.all_eq_true.1 hok _ hmem
        simpa using this
      obtain ⟨u1, u2, u3⟩ := hun l ob h2 hnT
      exact .inr ⟨l, b, ob, c, hmem, u1, by rw [u2]; exact h3, by rw [u2]; exact h4, by rw [u3 b h3]; exact h5, h5, h6⟩
  refine ⟨fun p hp => ?_, fun p hp h0 => ?_⟩
  · rcases key p hp with h1 | ⟨l, b, ob, c, h1, h2, h3, h4, h5, _, h6⟩
    · exact .inl h1
    · exact .inr ⟨l, b, ob, c, h1, h2, h3, h4, h5, h6⟩
  · rcases key p hp with h1 | ⟨l, b, ob, c, h1, h2, h3, h4, h5, _, h6⟩
    · rw [h1]; exact hw
    · rw [h6]; exact ⟨hw, h5⟩

theorem HOK.same {H : AHeap} {Fs : Nat → List Nat} {held : List (Nat × Nat)} {hs : List HP} {ops : Array Oper} (h : HOK G w H Fs held hs) (j : Nat) : HOK G w H Fs (heldOn ops held j) (keepH ops hs j) := by
  intro p hp
  obtain ⟨hp1, hp2⟩ := List.mem_filter.1 hp
  rcases h p hp1 with h1 | ⟨l, b, ob, c, h1, h2⟩
  · exact .inl h1
  · exact .inr ⟨l, b, ob, c, List.mem_filter.2 ⟨h1, hp2⟩, h2⟩

theorem firstQuiet_spec {ops : Array Oper} : ∀ {rs : List Nat} {i : Nat} {o : Oper}, firstQuiet ops rs = some (i, o) → i ∈ rs ∧ ops[i]? = some o ∧ quietOp o.op = true
  | [], _, _, h => by simp [firstQuiet] at h
  | j :: rs, i, o, h => by
    simp only [firstQuiet] at h
    split at h
    · rename_i oj hoj
      cases hq : quietOp oj.op with
      | true =>
        simp only [hq, cond] at h
        simp at h
        obtain ⟨rfl, rfl⟩ := h
        exact ⟨by simp, hoj, hq⟩
      | false =>
        simp only [hq, cond] at h
        obtain ⟨h1, h2⟩ := firstQuiet_spec h
        exact ⟨by simp [h1], h2⟩
    · obtain ⟨h1, h2⟩ := firstQuiet_spec h
      exact ⟨by simp [h1], h2⟩

theorem firstQuiet_none {ops : Array Oper} : ∀ {rs : List Nat}, firstQuiet ops rs = none → ∀ i ∈ rs, ∀ o, ops[i]? = some o → quietOp o.op = false
  | [], _, _, hi, _, _ => by simp at hi
  | j :: rs, h, i, hi, o, ho => by
    simp only [firstQuiet] at h
    split at h
    · rename_i oj hoj
      cases hq : quietOp oj.op with
      | true => simp [hq] at h
      | false =>
        simp only [hq, cond] at h
        rcases List.mem_cons.1 hi with rfl | hi
        · rw [hoj] at ho; simp at ho; subst ho; exact hq
        · exact firstQuiet_none h i hi o ho
    · rename_i hoj
      rcases List.mem_cons.1 hi with rfl | hi
      · rw [hoj] at ho; cases ho
      · exact firstQuiet_none h i hi o ho

theorem foldr_mem {f : Nat → Prop} : ∀ {l : List Nat}, l.foldr (fun j (r : Prop) => f j ∧ r) True → ∀ j ∈ l, f j
  | [], _, _, hj => by simp at hj
  | x :: l, h, j, hj => by
    simp only [List.foldr] at h
    rcases List.mem_cons.1 hj with rfl | hj
    · exact h.1
    · exact foldr_mem h.2 j hj

theorem aany_sound {E : Env} (hE : E.OK) {ops : Array Oper} {K : AS → Prop} {Q : Exit → Act → World → Prop} {ρ0 : List Root}
    (hsel : ∀ (j : Nat) (o : Oper) cs b, ops[j]? = some o → o.op ≠ .select cs b) (hQp : ∀ c a w, ¬ Q (.panic c) a w)
    (hQ : ∀ st' e' a' w', K st' → ST G (ρ0 ++ e') w' st' a' → Q .normal a' w') :
    ∀ (fuel : Nat) (listed : Array Bool) (held : List (Nat × Nat)) (hs : List HP) (e : List Root) (st : AS) (a : Act) (w : World) (Fs : Nat → List Nat), aany E ops fuel listed held st K → Closed ops listed →
      TR G (ρ0 ++ e) st.tmps a.tmps → SatHF G (ρ0 ++ e) w st.heap Fs → a.defers = [] → HOK G w st.heap Fs held hs → wpM E.P ops Q fuel hs listed a w
  | 0, listed, held, hs, e, st, a, w, Fs, h, _, hT, hH, hd, _ => by
    simp only [aany] at h
    split at h
    · rename_i hr; exact ⟨hr, hQ st e a w h ⟨hT, ⟨Fs, hH⟩, hd⟩⟩
    · exact h.elim
  | fuel + 1, listed, held, hs, e, st, a, w, Fs, h, hc, hT, hH, hd, hok => by
    simp only [aany] at h
    cases hrs : Region.ready .any ops listed with
    | nil =>
      simp only [hrs] at h
      exact ⟨fun _ => hQ st e a w h ⟨hT, ⟨Fs, hH⟩, hd⟩, fun j hj => by rw [hrs] at hj; cases hj⟩
    | cons r0 rs0 =>
      simp only [hrs] at h
      rw [← hrs] at h
      cases hfq : firstQuiet ops (Region.ready .any ops listed) with
      | some io =>
        obtain ⟨i, o⟩ := io
        simp only [hfq] at h
        obtain ⟨hir, hio, hq⟩ := firstQuiet_spec hfq
        obtain ⟨hfree, h⟩ := br_elim h
        obtain ⟨st', hk, hheap, hT'⟩ := aguard_sound h hT
        rw [← hheap] at hH hok
        cases hw : Region.wanted o (yielded ops a.tmps) with
        | true =>
          simp only [hw] at hk
          obtain ⟨e', av, H', Fs', u, hk', hr, hs', hun, hrl, hrun⟩ := quiet_sound hT' hH hq hk
          rw [AS.putK_eq] at hk'
          rw [List.append_assoc] at hr hs'
          have hTn := TR.put (G := G) (ρ := ρ0 ++ (e ++ e')) (ts := st'.tmps) (a := a) (by rw [← List.append_assoc]; exact hT'.ext) o.dst av u hr H'
          have hokn : HOK G w H' Fs' held hs := by
            intro p hp
            rcases hok p hp with h1 | ⟨l, b, ob, c, h1, h2, h3, h4, h5, h6⟩
            · exact .inl h1
            · by_cases hl : readLab o.op st' = some l
              · obtain ⟨⟨b', ob', g1, g2, g3⟩, g4⟩ := hrl l hl
                have hbb : b' = b := h4 _ (g4 ob b' h2 g2)
                subst hbb
                exact .inr ⟨l, b', ob', c, h1, g1, g2, g3, h5, h6⟩
              · obtain ⟨g1, g2⟩ := hun l ob hl h2
                exact .inr ⟨l, b, ob, c, h1, g1, by rw [g2]; exact h3, by rw [g2]; exact h4, h5, h6⟩
          cases hl : readLab o.op st' with
          | none =>
            simp only [hl] at hk'
            refine wpM_first (S := WOK G) (v := u) hio hsel (fun c a w h => (hQp _ _ _ h).elim) fuel hs listed a w hc (Region.free_spec hio hfree) hir (.inl ⟨hw, fun w' hw' => hrun w' hw' (fun l b h => by rw [hl] at h; cases h)⟩) hH.wok ?_
            refine aany_sound hE hsel hQp hQ fuel _ held _ (e ++ e') _ _ w Fs' hk' (hc.step hir) hTn (by rw [put_heap]; exact hs') (by rw [put_defers]; exact hd) ?_
            rw [put_heap]
            intro p hp
            rcases List.mem_cons.1 hp with rfl | hp
            · exact .inl rfl
            · exact hokn p hp
          | some l =>
            simp only [hl] at hk'
            obtain ⟨⟨b', ob', g1, g2, g3⟩, g4⟩ := hrl l hl
            refine wpM_first (S := fun w' => WOK G w' ∧ w'.heap[b']? = w.heap[b']?) (v := u) hio hsel (fun c a w h => (hQp _ _ _ h).elim) fuel hs listed a w hc (Region.free_spec hio hfree) hir (.inl ⟨hw, fun w' hw' => hrun w' hw'.1 (fun l' b h hb => by
              rw [hl] at h; simp at h; subst h
              rw [g3 b hb]; exact hw'.2)⟩) ⟨hH.wok, rfl⟩ ?_
            refine aany_sound hE hsel hQp hQ fuel _ ((i, l) :: held) _ (e ++ e') _ _ w Fs' hk' (hc.step hir) hTn (by rw [put_heap]; exact hs') (by rw [put_defers]; exact hd) ?_
            rw [put_heap]
            intro p hp
            rcases List.mem_cons.1 hp with rfl | hp
            · exact .inr ⟨l, b', ob', _, by simp, g1, g2, g3, rfl, rfl⟩
            · rcases hokn p hp with h1 | ⟨l2, b, ob, c, h1, h2⟩
              · exact .inl h1
              · exact .inr ⟨l2, b, ob, c, List.mem_cons_of_mem _ h1, h2⟩
        | false =>
          simp only [hw] at hk
          rw [AS.putK_eq] at hk
          refine wpM_first (S := WOK G) (v := undef) hio hsel (fun c a w h => (hQp _ _ _ h).elim) fuel hs listed a w hc (Region.free_spec hio hfree) hir (.inr ⟨hw, rfl⟩) hH.wok ?_
          refine aany_sound hE hsel hQp hQ fuel _ held _ e _ _ w Fs hk (hc.step hir) (TR.put (ts := st'.tmps) hT' o.dst (some (.tup [])) undef (fun y hy => by cases hy; exact rv_undef) st'.heap) (by rw [put_heap]; exact hH) (by rw [put_defers]; exact hd) ?_
          rw [put_heap]
          intro p hp
          rcases List.mem_cons.1 hp with rfl | hp
          · exact .inl rfl
          · exact hok p hp
      | none =>
        simp only [hfq] at h
        have hall := foldr_mem h
        refine ⟨fun h0 => (by rw [hrs] at h0; cases h0), fun j hj => ?_⟩
        have hj1 := hall j hj
        cases ho : ops[j]? with
        | none => simp only [ho] at hj1
        | some o =>
          simp only [ho] at hj1
          obtain ⟨st', hk, hheap, hT'⟩ := aguard_sound hj1 hT
          rw [← hheap] at hH hok
          unfold wpOp
          simp only [ho]
          cases hw : Region.wanted o (yielded ops a.tmps) with
          | true =>
            simp only [hw] at hk
            simp only [if_true]
            refine .inl (eff_sound hE hT' hH (firstQuiet_none hfq j hj o ho) hk _ Q fun e' av H' T Fs' u w' hk' hr hs' hun => ?_)
            obtain ⟨hho, hk'⟩ := br_elim hk'
            rw [AS.putK_eq] at hk'
            rw [List.append_assoc] at hr hs'
            obtain ⟨ho1, ho2⟩ := hok.unt j hun hho hs'.wok
            refine ⟨ho2, aany_sound hE hsel hQp hQ fuel _ _ _ (e ++ e') _ _ w' Fs' hk' (hc.step hj) ?_ (by rw [put_heap]; exact hs') (by rw [put_defers]; exact hd) (by rw [put_heap]; exact ho1)⟩
            exact TR.put (G := G) (ρ := ρ0 ++ (e ++ e')) (ts := st'.tmps) (a := a) (by rw [← List.append_assoc]; exact hT'.ext) o.dst av u hr H'
          | false =>
            simp only [hw] at hk
            rw [if_neg Bool.false_ne_true]
            rw [AS.putK_eq] at hk
            exact ⟨fun p _ h => h, aany_sound hE hsel hQp hQ fuel _ _ _ e _ _ w Fs hk (hc.step hj) (TR.put (ts := st'.tmps) hT' o.dst (some (.tup [])) undef (fun y hy => by cases hy; exact rv_undef) st'.heap) (by rw [put_heap]; exact hH) (by rw [put_defers]; exact hd) (by rw [put_heap]; exact hok.same j)⟩

theorem aregion_sound {E : Env} (hE : E.OK) {id : Nat} {ops : Array Oper} {draw : Bool} {K : AS → Prop} {Q : Exit → Act → World → Prop} {ρ0 : List Root} {e : List Root} {st : AS} {a : Act} {w : World}
    (h : aregion E ops draw st K) (hs : ST G (ρ0 ++ e) w st a) (hQ : ∀ st' e' a' w', K st' → ST G (ρ0 ++ e') w' st' a' → Q .normal a' w') : (Code.region id ops draw).wp E.P Q a w := by
  cases draw with
  | false =>
    simp only [aregion] at h
    exact wp_region (aseq_sound hE _ e st a w h hs hQ)
  | true =>
    replace h := aregion_any h
    obtain ⟨hb, h⟩ := br_elim h
    simp only [Bool.and_eq_true] at hb
    obtain ⟨Fs, hH⟩ := hs.sat
    let Q' : Exit → Act → World → Prop := fun x a w => match x with | .normal => Q .normal a w | _ => False
    have hQ' : ∀ x a w, Q' x a w → Q x a w := fun x a w h => by
      cases x <;> first | exact h | exact h.elim
    refine Code.wp_mono hQ' (wp_region_any hb.1 (wpM.any _ [] _ _ _ (aany_sound (G := G) (Q := Q') hE (Region.noSelect_spec hb.2) (fun _ _ _ h => h) hQ _ _ [] [] e st a w.drew Fs h ?_ hs.tr hH.drew hs.df (fun p hp => by cases hp))))
    intro k o hk hl
    simp [Array.getElem?_replicate] at hl
    split at hl <;> simp at hl
end Go.Ax
