/-
  The executor is right, part eleven: slices that are built, and appended to.
-/
import Derived.Test.YtjpeimmjggkkjaaAx12
set_option linter.all false
namespace Go.Ax
variable {G : Gam} {ρ : List Root} {w : World}

theorem decRows_spec (ek : EK) : ∀ (n : Nat) (cs : List AV) (xs : List ek.T), decRows ek n cs = some xs →
    xs.length = n ∧ ∀ (i : Nat) (x : ek.T), xs[i]? = some x → ∀ (j : Nat) (y : AV), (ek.enc x)[j]? = some y → cs[i * ek.esz + j]? = some y
  | 0, cs, xs, h => by simp [decRows] at h; subst h; simp
  | n + 1, cs, xs, h => by
    simp only [decRows] at h
    split at h
    · rename_i x ys hx hys
      simp at h; subst h
      obtain ⟨h1, h2⟩ := decRows_spec ek n _ ys hys
      have henc := enc_dec ek _ _ hx
      refine ⟨by simp [h1], fun i z hi j y hj => ?_⟩
      cases i with
      | zero =>
        simp at hi; subst hi
        rw [henc] at hj
        have hjl : j < ek.esz := by
          have := (List.getElem?_eq_some_iff.1 hj).1
          simp at this; omega
        rw [List.getElem?_take_of_lt hjl] at hj
        simpa using hj
      | succ i =>
        simp at hi
        have := h2 i z hi j y hj
        rw [List.getElem?_drop] at this
        rw [← this]
        congr 1
        rw [Nat.add_mul]; omega
    · simp at h

theorem fillA_length {place : Nat → Option (Nat × Nat)} : ∀ {ps : List (Nat × AV)} {cs out : List AV}, fillA place cs ps = some out → out.length = cs.length
  | [], cs, out, h => by simp [fillA] at h; rw [h]
  | (i, x) :: ps, cs, out, h => by
    simp only [fillA] at h
    split at h
    · simp at h
    · rename_i off size hpl
      cases hb : (Nat.beq x.cells.length size && Nat.ble (off + x.cells.length) cs.length) with
      | false => simp [hb] at h
      | true =>
        simp only [hb, cond_true] at h
        rw [fillA_length h, setCells_length]

theorem row_push {H : AHeap} {Fs : Nat → List Nat} (h : SatHF G ρ w H Fs) (ek : EK) (xs : List ek.T) {c : Array Value} (ty : TypeId) (tot : Nat) (sp : List ek.T) (ht : xs.length + sp.length = tot) (hc : tot * ek.esz ≤ c.size)
    (hr : ∀ (i : Nat) (x : ek.T), (xs ++ sp)[i]? = some x → ∀ (j : Nat) (y : AV), (ek.enc x)[j]? = some y → ∃ u, c[i * ek.esz + j]? = some u ∧ RV1 G y u) :
    ∃ Fs', SatHF G (ρ ++ [⟨some w.heap.size, 0, tot⟩]) (w.alloc (.cells c ty)) (H ++ [some (.row ek xs)]) Fs' ∧ Unt w (w.alloc (.cells c ty)) H (H ++ [some (.row ek xs)]) Fs Fs' [] :=
  push_alloc h (.row ek xs) ⟨some w.heap.size, 0, tot⟩ c ty (fun w' hw' => .row rfl hw' ht (by simpa using hc) (by simpa using hr))

theorem rv_row {H : AHeap} (hl : H.length = ρ.length) {b tot esz n : Nat} (hn : n ≤ tot) (hz : n = 0 → tot ≠ 0 ∨ True) : RV G (ρ ++ [⟨some b, 0, tot⟩]) (.sl H.length esz 0 n) (.slice (some ⟨b, 0, none⟩) n tot) := by
  simp only [RV]
  exact ⟨⟨some b, 0, tot⟩, by simp [hl], by simpa using hn, .inl ⟨b, rfl, by simp⟩⟩

section
variable {E : Env} {st : AS} {a : Act} {Fs : Nat → List Nat} {k : KT} (dst : Option Tmp) (ty : TypeId) (pos : String) (af : Array Edge) (gd : Option (Nat × Bool))
variable (hT : TR G ρ st.tmps a.tmps) (hH : SatHF G ρ w st.heap Fs)
include hT hH

theorem e_buildSlice (t : TypeId) (n : Nat) (parts : Array (Nat × Operand)) (h : aop E ⟨dst, .buildSlice t n parts, ty, pos, af, gd⟩ st k) : ERes E G ρ w st a ⟨dst, .buildSlice t n parts, ty, pos, af, gd⟩ Fs k := by
  intro next Q hn
  simp only [aop] at h
  split at h
  · rename_i e ps hu hp
    split at h
    · rename_i ek z hek hz
      split at h
      · obtain ⟨hb, h2⟩ := br_elim h
        rw [forceL_eq] at h2
        have he := Nat.eq_of_beq_eq_true hb
        obtain ⟨i, zv, hi, hzv, hzr⟩ := zero_rv (G := G) (ρ := ρ) hz
        have hpt : parts.toList = [] := by
          cases hpl : parts.toList with
          | nil => rfl
          | cons p r =>
            rw [hpl] at hp
            simp only [evalParts] at hp
            split at hp <;> simp at hp
        obtain ⟨Fs', hs1, hs2⟩ := row_push (c := #[]) hH ek [] e 0 [] (by simp) (by simp) (fun i x hi j y hj => by simp at hi)
        have hrun : (execOp a.eval ⟨dst, .buildSlice t 0 parts, ty, pos, af, gd⟩).run E.P w = .ok (.value (.slice (some ⟨w.heap.size, 0, none⟩) 0 0)) (w.alloc (.cells #[] e)) := by
          have hpa : parts = #[] := by apply Array.ext'; simpa using hpt
          subst hpa
          simp only [execOp, Instr.buildSlice]
          simp [run_und hu, sizeOf, typeInfo, hi, newRow, Instr.fill]
          rw [show Array.range 0 = #[] from by apply Array.ext'; simp, Array.map_empty]
        unfold Oper.wp
        rw [hrun, Oper.upon_value]
        exact hn _ _ _ _ _ _ _ h2 (fun x hx => by simp at hx; subst hx; exact rv_row hH.len (Nat.le_refl _) (fun _ => .inr trivial)) hs1 hs2
      obtain ⟨hb, h2⟩ := br_elim h
      simp only [Bool.and_eq_true] at hb
      have he := Nat.eq_of_beq_eq_true hb.1.1.1
      have hle := Nat.le_of_ble_eq_true hb.1.1.2
      have h1n := Nat.le_of_ble_eq_true hb.1.2
      have hzn := Nat.eq_of_beq_eq_true hb.2
      split at h2
      · rename_i cs hcs
        split at h2
        · rename_i xs hxs
          rw [forceL_eq, forceL_eq] at h2
          obtain ⟨i, zv, hi, hzv, hzr⟩ := zero_rv (G := G) (ρ := ρ) hz
          have hsz : i.size = ek.esz := by rw [← he]; simp [Program.cellsOf, hi]
          have hzl := hzr.len
          simp at hzl
          have hpos := ek.esz_pos
          have hbase : RVs G ρ ((List.range (n * ek.esz)).map fun i => z.getD (i % z.length) .nilp) ((Array.range (n * ek.esz)).map (zv.cells[· % zv.cells.size]!)).toList := by
            · refine RVs.of_get (by simp) fun j x hj => ?_
              have hjl : j < n * ek.esz := by
                have := (List.getElem?_eq_some_iff.1 hj).1
                simpa using this
              simp [hjl] at hj
              have hm : j % z.length < z.length := Nat.mod_lt _ (by omega)
              obtain ⟨u, hu, hru⟩ := hzr.get (List.getElem?_eq_getElem hm)
              refine ⟨u, ?_, ?_⟩
              · simp [hjl, hzl]
                simp at hu
                rw [getElem!_def, hu]
              · rw [List.getElem?_eq_getElem hm] at hj
                simp at hj; subst hj; exact hru
          obtain ⟨cells, hf, hr⟩ := fill_rv (parts_rv hT hp) hbase hcs
          obtain ⟨hlen, hspec⟩ := decRows_spec ek n cs xs hxs
          have hcl := hr.len
          have hcsl : cs.length = n * ek.esz := by
            rw [fillA_length hcs]; simp
          simp at hcl
          obtain ⟨Fs', hs1, hs2⟩ := row_push (c := cells) hH ek xs e n [] (by simp; omega) (by omega) (fun i x hi j y hj => by
            rw [List.append_nil] at hi
            obtain ⟨u, hu, hru⟩ := hr.get (hspec i x hi j y hj)
            exact ⟨u, by simpa using hu, flat_rv1 (List.all_eq_true.1 (enc_flat ek x) y (List.mem_iff_getElem?.2 ⟨j, hj⟩)) hru⟩)
          have hrun : (execOp a.eval ⟨dst, .buildSlice t n parts, ty, pos, af, gd⟩).run E.P w = .ok (.value (.slice (some ⟨w.heap.size, 0, none⟩) n n)) (w.alloc (.cells cells e)) := by
            have hne : ¬ (n * ek.esz = 0) := by
              have : 1 * 1 ≤ n * ek.esz := Nat.mul_le_mul h1n hpos
              omega
            have hsmall : ¬ (n * ek.esz > 16777216) := by omega
            simp only [execOp, Instr.buildSlice]
            simp [run_und hu, sizeOf, typeInfo, zeroValue, hi, hzv, hsz, hne, hsmall, hf, newRow]
          unfold Oper.wp
          rw [hrun, Oper.upon_value]
          exact hn _ _ _ _ _ _ _ h2 (fun x hx => by simp at hx; subst hx; exact rv_row hH.len (Nat.le_refl _) (fun _ => .inr trivial)) hs1 hs2
        · exact h2.elim
      · exact h2.elim
    · exact h.elim
  · exact h.elim

end

end Go.Ax
