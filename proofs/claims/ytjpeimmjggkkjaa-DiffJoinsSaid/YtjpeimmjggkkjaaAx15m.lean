/-
  The executor is right, part thirteen and a quarter: maps whose keys are numbers.
-/
import Derived.Test.YtjpeimmjggkkjaaAx15
import Derived.Carry
import Derived.MapKept
set_option linter.all false
namespace Go.Ax
variable {G : Gam} {ρ : List Root} {w : World}

theorem ValR.rv {k : EK} {x : k.T} {v : Value} (h : ValR G k x v) (ρ : List Root) : RV G ρ (k.val x) v := by
  obtain ⟨ρ', h⟩ := h
  cases hp : k.prim with
  | true => cases k <;> simp [EK.prim] at hp <;> (simp only [EK.val, RV] at h ⊢; exact h)
  | false =>
    have e : k.val x = .agg (k.enc x) := by cases k <;> simp [EK.prim] at hp <;> rfl
    rw [e] at h ⊢
    simp only [RV] at h ⊢
    obtain ⟨vs, h1, h2⟩ := h
    refine ⟨vs, h1, RVs.of_get h2.len fun j y hj => ?_⟩
    obtain ⟨u, hu, hr⟩ := h2.get hj
    have hf := List.all_eq_true.1 (enc_flat k x) y (List.mem_of_getElem? hj)
    exact ⟨u, hu, (flat_rv1 hf hr).rv⟩

/-- What is found under a key. -/
theorem findNow_map {k : EK} {q : IntKind} (j : Int) : ∀ {m : List (Int × k.T)} {es : List MapEntry} (n : Nat), MapR G k m es →
    (Law.mget m j = none ∧ Instr.findNow (.int q) (.int .i64 j) es n = some none) ∨
    ∃ (i : Nat) (e : MapEntry) (x : k.T), Law.mget m j = some x ∧ Instr.findNow (.int q) (.int .i64 j) es n = some (some (n + i, e.val)) ∧ es[i]? = some e ∧ e.key = .int .i64 j ∧ ValR G k x e.val
  | [], es, n, h => by
    simp only [MapR] at h; subst h
    exact .inl ⟨rfl, rfl⟩
  | p :: m, es, n, h => by
    obtain ⟨e, r, rfl, hk, hv, hr⟩ := h
    by_cases hp : p.1 = j
    · right
      refine ⟨0, e, p.2, by simp [Law.mget, hp], ?_, rfl, by rw [hk, hp], hv⟩
      simp [Instr.findNow, Instr.sameNow, hk, hp]
    · have hs : Instr.sameNow (.int q) (.int .i64 j) e.key = some false := by
        rw [hk]; simp [Instr.sameNow]; exact fun h => hp h.symm
      rcases findNow_map j (n + 1) hr with ⟨h1, h2⟩ | ⟨i, e', x, h1, h2, h3, h4, h5⟩
      · exact .inl ⟨by simp [Law.mget, hp, h1], by simp only [Instr.findNow, hs]; exact h2⟩
      · refine .inr ⟨i + 1, e', x, by simp [Law.mget, hp, h1], ?_, by simpa using h3, h4, h5⟩
        simp only [Instr.findNow, hs]
        rw [h2]
        congr 3; omega

theorem MapR.len {k : EK} : ∀ {m : List (Int × k.T)} {es : List MapEntry}, MapR G k m es → es.length = m.length
  | [], _, h => by simp only [MapR] at h; subst h; rfl
  | _ :: _, _, ⟨_, _, h1, _, _, h4⟩ => by subst h1; simp [MapR.len h4]

theorem MapR.push {k : EK} {j : Int} {x : k.T} {v : Value} (hv : ValR G k x v) (ck : Nat) : ∀ {m : List (Int × k.T)} {es : List MapEntry}, MapR G k m es → Law.mget m j = none → MapR G k (Law.mput m j x) (es ++ [⟨.int .i64 j, v, ck⟩])
  | [], _, h, _ => by
    simp only [MapR] at h; subst h
    exact ⟨_, [], rfl, rfl, hv, rfl⟩
  | p :: m, _, ⟨e, r, h1, h2, h3, h4⟩, hn => by
    subst h1
    simp only [Law.mget] at hn
    split at hn
    · cases hn
    · rename_i hp
      simp only [Law.mput, if_neg hp]
      exact ⟨e, _, rfl, h2, h3, MapR.push hv ck h4 hn⟩

theorem MapR.upd {k : EK} {j : Int} {x : k.T} {v : Value} {q : IntKind} (hv : ValR G k x v) : ∀ {m : List (Int × k.T)} {es : List MapEntry} {n i : Nat} {v0 : Value}, MapR G k m es → Instr.findNow (.int q) (.int .i64 j) es n = some (some (n + i, v0)) →
    MapR G k (Law.mput m j x) (es.modify i fun e => { e with key := .int .i64 j, val := v })
  | [], _, n, i, v0, h, hf => by
    simp only [MapR] at h; subst h
    simp [Instr.findNow] at hf
  | p :: m, _, n, i, v0, ⟨e, r, h1, h2, h3, h4⟩, hf => by
    subst h1
    by_cases hp : p.1 = j
    · have : i = 0 := by
        simp [Instr.findNow, Instr.sameNow, h2, hp] at hf
        exact hf.1
      subst this
      simp only [Law.mput, if_pos hp]
      exact ⟨_, r, rfl, rfl, hv, h4⟩
    · have hs : Instr.sameNow (.int q) (.int .i64 j) e.key = some false := by
        rw [h2]; simp [Instr.sameNow]; exact fun h => hp h.symm
      simp only [Instr.findNow, hs] at hf
      have hi : i ≠ 0 := by
        intro h0
        subst h0
        rcases findNow_map (G := G) (q := q) j (n + 1) h4 with ⟨_, h6⟩ | ⟨i', e', x', _, h6, _⟩
        · rw [h6] at hf; simp at hf
        · rw [h6] at hf; simp at hf
          omega
      obtain ⟨i', rfl⟩ := Nat.exists_eq_succ_of_ne_zero hi
      simp only [Law.mput, if_neg hp]
      have hf' : Instr.findNow (.int q) (.int .i64 j) r (n + 1) = some (some (n + 1 + i', v0)) := by
        rw [hf]; congr 3; omega
      exact ⟨e, _, rfl, h2, h3, MapR.upd hv h4 hf'⟩

theorem sameOs_map (w : World) {b : Nat} {es es' : Array MapEntry} {ck ck' : Nat} (hw : w.heap[b]? = some (.map es ck)) : SameOs w { w with heap := w.heap.setIfInBounds b (.map es' ck') } := ⟨rfl, Nat.le_refl _⟩

theorem mapKind_elim {P : Program} {eks : List (TypeId × EK)} {t : TypeId} {k : (ek : EK) → ek.T → Prop} (h : mapKind P eks t k) :
    ∃ kt et ek x0 i z v, P.underlying t = some (.map kt et) ∧ P.underlying kt = some (.int .i64) ∧ P.info? et = some i ∧ i.zero = some v ∧ cval v = some z ∧ ek.unval z = some x0 ∧ k ek x0 := by
  unfold mapKind at h
  split at h
  · rename_i kt et hu
    split at h
    · rename_i ek z hk he hz
      split at h
      · rename_i x0 hx
        unfold zeroVal at hz
        split at hz
        · rename_i i hi
          split at hz
          · rename_i v hv
            exact ⟨kt, et, ek, x0, i, z, v, hu, hk, hi, hv, hz, hx, h⟩
          · cases hz
        · cases hz
      · exact h.elim
    · exact h.elim
  · exact h.elim

section
variable {E : Env} {st : AS} {a : Act} {Fs : Nat → List Nat} {k : KT} (dst : Option Tmp) (ty : TypeId) (pos : String) (af : Array Edge) (gd : Option (Nat × Bool))
variable (hT : TR G ρ st.tmps a.tmps) (hH : SatHF G ρ w st.heap Fs)
include hT hH

omit hT in
theorem map_new (ek : EK) (hk : k (some (.mp st.heap.length)) (st.heap ++ [some (.map ek [])]) []) (o : Oper) (hrun : (execOp a.eval o).run E.P w = .ok (.value (.map (some w.heap.size))) (w.alloc (.map #[] 0))) : ERes E G ρ w st a o Fs k := by
  intro next Q hn
  have hsz : (w.alloc (.map #[] 0)).heap.size = w.heap.size + 1 := by show (w.heap.push _).size = _; simp
  have hpush := SatH.push hH (.map ek []) ⟨some w.heap.size, 0, 0⟩ [w.heap.size] (w' := w.alloc (.map #[] 0)) (by omega) (fun b hb => alloc_heap_lt hb) ⟨rfl, Nat.le_refl _⟩ rfl rfl
    (.map (es := #[]) (ck := 0) rfl alloc_heap_self rfl) (fun b hb => by simp at hb; subst hb; omega)
  unfold Oper.wp
  rw [hrun, Oper.upon_value]
  refine hn [⟨some w.heap.size, 0, 0⟩] _ _ [] _ _ _ hk (fun x hx => ?_) hpush (fun l ob hl _ => ⟨?_, ?_, fun y hy => ?_⟩)
  · simp at hx; subst hx
    simp only [RV]
    exact ⟨⟨some w.heap.size, 0, 0⟩, _, by rw [hH.len]; simp, rfl, rfl⟩
  · exact getElem?_ext hl
  · have := hH.lab hl
    simp [Nat.ne_of_lt this]
  · exact alloc_heap_lt (hH.free l ob y hl hy).2

theorem e_makeMap (t : TypeId) (hint : Option Operand) (h : aop E ⟨dst, .makeMap t hint, ty, pos, af, gd⟩ st k) : ERes E G ρ w st a ⟨dst, .makeMap t hint, ty, pos, af, gd⟩ Fs k := by
  simp only [aop] at h
  split at h
  · obtain ⟨kt, et, ek, x0, i, z, v, h1, h2, h3, h4, h5, h6, h⟩ := mapKind_elim h
    rw [forceL_eq] at h
    exact map_new hH ek h _ (by simp [execOp, Instr.makeMap])
  · rename_i x
    split at h
    · rename_i n hn
      obtain ⟨kt, et, ek, x0, i, z, v, h1, h2, h3, h4, h5, h6, h⟩ := mapKind_elim h
      rw [forceL_eq] at h
      obtain ⟨q, hq⟩ := aint_eq hn
      have := rv_int (eval_rv hT hq)
      exact map_new hH ek h _ (by simp [execOp, Instr.makeMap, run_und h1, this, asInt, asIntOf])
    · exact h.elim

theorem e_lookup (t : TypeId) (m x : Operand) (ok : Bool) (h : aop E ⟨dst, .lookup t m x ok, ty, pos, af, gd⟩ st k) : ERes E G ρ w st a ⟨dst, .lookup t m x ok, ty, pos, af, gd⟩ Fs k := by
  intro next Q hn
  simp only [aop] at h
  split at h
  · rename_i l j hm hx
    obtain ⟨kt, et, ek, x0, i, z, v, h1, h2, h3, h4, h5, h6, h⟩ := mapKind_elim h
    split at h
    · rename_i e2 xs hl
      split at h
      · rename_i he
        subst he
        obtain ⟨r, hr, hs⟩ := hH.sat _ _ hl
        have hmv := eval_rv hT hm
        simp only [RV] at hmv
        obtain ⟨r', b, hr', hb, hmv⟩ := hmv
        rw [hr] at hr'; cases hr'
        have hxv := rv_int (eval_rv hT hx)
        generalize hF : Fs l = F at hs
        cases hs with
        | @map _ _ _ b' es ck hb' hw hmr =>
          rw [hb] at hb'; cases hb'
          have hkey : ∀ e n, (Instr.checkKey e (n + 1) kt (.int .i64 j)).run E.P w = .ok () w := fun e n => by
            simp [Instr.checkKey, run_und h2]
          have hz : (zeroValue et).run E.P w = .ok v w := by simp [zeroValue, typeInfo, h3, h4]
          have hzr : RV G ρ (e2.val x0) v := by rw [EK.val_unval h6]; exact cval_rv h5
          have key : ∃ u, (∀ y, y = (Law.mget xs j).getD x0 → RV G ρ (e2.val y) u) ∧ (Instr.lookup t (a.eval m) (a.eval x) ok).run E.P w = .ok (if ok then .tuple #[u, .bool (Law.mget xs j).isSome] else u) w := by
            rcases findNow_map (G := G) (q := .i64) j 0 hmr with ⟨g1, g2⟩ | ⟨q, e, y, g1, g2, g3, g4, g5⟩
            · refine ⟨v, fun y hy => by rw [hy, g1]; exact hzr, ?_⟩
              rw [hmv, hxv]
              simp [Instr.lookup, run_und h1, MapKept.run_getObj_map hw, hkey, Instr.findKey, run_und h2, g2, hz, g1]
            · refine ⟨e.val, fun y' hy => by rw [hy, g1]; exact g5.rv ρ, ?_⟩
              rw [hmv, hxv]
              simp [Instr.lookup, run_und h1, MapKept.run_getObj_map hw, hkey, Instr.findKey, run_und h2, g2, g1]
          obtain ⟨u, hu, hrun⟩ := key
          replace h := h _ _ rfl rfl
          have hex : (execOp a.eval ⟨dst, .lookup t m x ok, ty, pos, af, gd⟩).run E.P w = .ok (.value (if ok then .tuple #[u, .bool (Law.mget xs j).isSome] else u)) w := by
            simp [execOp, hrun]
          unfold Oper.wp
          rw [hex, Oper.upon_value]
          have hself : ∀ (H : AHeap) (T : List Nat), SatHF G ρ w H Fs → Unt w w H H Fs Fs T := fun H T _ l o hl _ => ⟨hl, rfl, fun _ _ => rfl⟩
          cases ok with
          | true =>
            simp only [if_true]
            refine hn [] _ _ [] Fs _ w h (fun q hq => ?_) (by simpa using hH) (hself _ _ hH)
            simp at hq; subst hq
            simp only [RV]
            refine ⟨_, rfl, ?_⟩
            simp only [RVs]
            exact ⟨u, _, rfl, by simpa using hu _ rfl, _, [], rfl, by simp [RV], rfl⟩
          | false =>
            simp only [Bool.false_eq_true, if_false]
            refine hn [] _ _ [] Fs _ w h (fun q hq => ?_) (by simpa using hH) (hself _ _ hH)
            simp at hq; subst hq
            simpa using hu _ rfl
      · exact h.elim
    · exact h.elim
  · exact h.elim

theorem e_mapUpdate (t : TypeId) (m x y : Operand) (h : aop E ⟨dst, .mapUpdate t m x y, ty, pos, af, gd⟩ st k) : ERes E G ρ w st a ⟨dst, .mapUpdate t m x y, ty, pos, af, gd⟩ Fs k := by
  intro next Q hn
  simp only [aop] at h
  split at h
  · rename_i l j yv hm hx hy
    obtain ⟨kt, et, ek, x0, i, z, v, h1, h2, h3, h4, h5, h6, h⟩ := mapKind_elim h
    split at h
    · rename_i e2 xs hl
      split at h
      · rename_i he
        subst he
        split at h
        · rename_i y' hy'
          rw [forceL_eq] at h
          obtain ⟨r, hr, hs⟩ := hH.sat _ _ hl
          have hmv := eval_rv hT hm
          simp only [RV] at hmv
          obtain ⟨r', b, hr', hb, hmv⟩ := hmv
          rw [hr] at hr'; cases hr'
          have hxv := rv_int (eval_rv hT hx)
          have hyv : ValR G e2 y' (a.eval y) := ⟨ρ, by rw [EK.val_unval hy']; exact eval_rv hT hy⟩
          generalize hF : Fs l = F at hs
          cases hs with
          | @map _ _ _ b' es ck hb' hw hmr =>
            rw [hb] at hb'; cases hb'
            have hlt : b < w.heap.size := (Array.getElem?_eq_some_iff.1 hw).1
            have hkey : ∀ e n, (Instr.checkKey e (n + 1) kt (.int .i64 j)).run E.P w = .ok () w := fun e n => by
              simp [Instr.checkKey, run_und h2]
            have key : ∃ es' ck', MapR G e2 (Law.mput xs j y') es'.toList ∧ (Instr.mapUpdate t (a.eval m) (a.eval x) (a.eval y)).run E.P w = .ok () { w with heap := w.heap.setIfInBounds b (.map es' ck') } := by
              rcases findNow_map (G := G) (q := .i64) j 0 hmr with ⟨g1, g2⟩ | ⟨q, e, x', g1, g2, g3, g4, g5⟩
              · refine ⟨es.push ⟨.int .i64 j, a.eval y, ck⟩, ck + 1, by simpa using MapR.push hyv ck hmr g1, ?_⟩
                rw [hmv, hxv]
                simp [Instr.mapUpdate, run_und h1, MapKept.run_getObj_map hw, MapKept.run_setObj_map _ hw, hkey, Instr.findKey, run_und h2, g2]
              · refine ⟨es.modify q fun e => { e with key := .int .i64 j, val := a.eval y }, ck, ?_, ?_⟩
                · have := MapR.upd (n := 0) hyv hmr g2
                  simpa using this
                · rw [hmv, hxv]
                  simp at g2 g3
                  simp [Instr.mapUpdate, run_und h1, MapKept.run_getObj_map hw, MapKept.run_setObj_map _ hw, hkey, Instr.findKey, run_und h2, g2, g3, g4, Instr.keyThatStays, Instr.sameBits]
            obtain ⟨es', ck', hmr', hrun⟩ := key
            have hset := SatH.set hH hl (.map e2 (Law.mput xs j y')) [b] (w' := { w with heap := w.heap.setIfInBounds b (.map es' ck') }) (by simp) (fun c _ hc => by
                have hne : c ≠ b := fun he => hc (by rw [hF, he]; simp)
                simp [Array.getElem?_setIfInBounds_ne (Ne.symm hne)]) (sameOs_map w hw) rfl rfl
              (fun r' hr' => by
                rw [hr] at hr'; cases hr'
                exact .map hb (show (w.heap.setIfInBounds b (.map es' ck'))[b]? = some (.map es' ck') by simp [hlt]) hmr') (fun c hc => by
                  simp at hc; subst hc
                  exact ⟨.inl (by rw [hF]; simp), by simpa using hlt⟩)
            have hFs : (fun x => if x = l then [b] else Fs x) = Fs := by
              funext x
              by_cases hx : x = l
              · subst hx; simp [hF]
              · simp [hx]
            rw [hFs] at hset
            have hex : (execOp a.eval ⟨dst, .mapUpdate t m x y, ty, pos, af, gd⟩).run E.P w = .ok .skip { w with heap := w.heap.setIfInBounds b (.map es' ck') } := by
              simp [execOp, hrun]
            unfold Oper.wp
            rw [hex, Oper.upon_skip]
            refine hn [] _ _ [l] Fs _ _ h (fun q hq => by cases hq) (by simpa using hset) (fun l' ob hl' hT' => ⟨?_, rfl, fun c hc => ?_⟩)
            · have hne : l' ≠ l := fun he => hT' (by simp [he])
              rw [List.getElem?_set_ne (Ne.symm hne)]; exact hl'
            · have hne : c ≠ b := fun he => by
                subst he
                have := hH.apart l' ob l _ c hl' hl hc (by rw [hF]; simp)
                exact hT' (by simp [this])
              simp [Array.getElem?_setIfInBounds_ne (Ne.symm hne)]
        · exact h.elim
      · exact h.elim
    · exact h.elim
  · exact h.elim
end
end Go.Ax
