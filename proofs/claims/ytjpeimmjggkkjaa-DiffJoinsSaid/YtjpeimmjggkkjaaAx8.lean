/-
  The executor is right, part six: the other operations that leave the world alone.
-/
import Derived.Test.YtjpeimmjggkkjaaAx7
set_option linter.all false
namespace Go.Ax
variable {G : Gam} {ρ : List Root} {w : World}

theorem foldr_pick {f : Nat → Prop → Prop} {P : Nat → Prop} (hf : ∀ m r, f m r → P m ∧ r) : ∀ {l : List Nat}, l.foldr f True → ∀ m, m ∈ l → P m
  | [], _, m, hm => by simp at hm
  | x :: l, h, m, hm => by
    simp only [List.foldr_cons] at h
    obtain ⟨h1, h2⟩ := hf _ _ h
    rcases List.mem_cons.1 hm with rfl | hm
    · exact h1
    · exact foldr_pick hf h2 m hm

theorem run_indexAt_slice {E : Env} {t e : TypeId} (ht : E.P.underlying t = some (.slice e)) {b o n c : Nat} {kk : IntKind} {j : Int} (hj : 0 ≤ j ∧ j < n) {i : TypeInfo} (hi : E.P.info? e = some i) (w' : World) :
    (Instr.indexAt t (.slice (some ⟨b, o, none⟩) n c) (.int kk j)).run E.P w' = .ok (.pointer (some ⟨b, o + j.toNat * E.P.cellsOf e, none⟩)) w' := by
  simp [Instr.indexAt, asIntOf, run_und ht, hj, run_size hi, addr_add]

theorem run_indexAt_array {E : Env} {t e : TypeId} {n : Nat} (ht : E.P.underlying t = some (.array n e)) (hn : 2 ≤ n) {b o : Nat} {kk : IntKind} {j : Int} (hj : 0 ≤ j ∧ j < n) {i : TypeInfo} (hi : E.P.info? e = some i) (w' : World) :
    (Instr.indexAt t (.pointer (some ⟨b, o, none⟩)) (.int kk j)).run E.P w' = .ok (.pointer (some ⟨b, o + j.toNat * E.P.cellsOf e, none⟩)) w' := by
  simp [Instr.indexAt, asIntOf, run_und ht, hj, run_size hi, addr_add, Instr.sureAddr]

section
variable {E : Env} {st : AS} {a : Act} {Fs : Nat → List Nat} {k : KT} (dst : Option Tmp) (ty : TypeId) (pos : String) (af : Array Edge) (gd : Option (Nat × Bool))
variable (hT : TR G ρ st.tmps a.tmps) (hH : SatHF G ρ w st.heap Fs)
include hT hH

theorem q_indexAddr (t : TypeId) (x i : Operand) (h : aop E ⟨dst, .indexAddr t x i, ty, pos, af, gd⟩ st k) : QRes E G ρ w st a ⟨dst, .indexAddr t x i, ty, pos, af, gd⟩ Fs k := by
  simp only [aop] at h
  split at h
  · rename_i e lab esz base n j ht hx hj
    obtain ⟨kk, hj⟩ := aint_eq hj
    obtain ⟨hb, hjn, h2⟩ := br_elim h
    simp only [Bool.and_eq_true] at hb
    have he := Nat.eq_of_beq_eq_true hb.1
    have hz : E.P.cellsOf e ≠ 0 := fun h => by rw [he] at h; rw [h] at hb; exact absurd hb.2 (by decide)
    have h1 := eval_rv hT hx
    have hji := rv_int (eval_rv hT hj)
    simp only [RV] at h1
    obtain ⟨tt, htt, hle, h1⟩ := h1
    rcases h1 with ⟨b, hb, h1⟩ | ⟨hn, _⟩
    · obtain ⟨ie, hie, _⟩ := info_of_cells hz
      refine .plain hH rfl h2 (u := .pointer (some ⟨b, tt.off + base * esz + j.toNat * E.P.cellsOf e, none⟩)) (fun q hq => ?_) (fun w' _ => ?_)
      · simp at hq; subst hq
        simp only [RV]
        exact ⟨tt, b, htt, hb, by rw [he]; simp [Nat.add_mul, Nat.add_assoc]⟩
      · simp [execOp, h1, hji, run_indexAt_slice ht hjn hie]
    · omega
  · rename_i e ek xs j ht hx hj
    obtain ⟨kk, hj⟩ := aint_eq hj
    obtain ⟨hb, hjn, h2⟩ := br_elim h
    replace h2 := h2 (xs.getD j.toNat ek.def) (by rw [List.getD_eq_getElem?_getD, List.getElem?_eq_getElem (by omega)]; rfl)
    have he := Nat.eq_of_beq_eq_true hb
    have h1 := eval_rv hT hx
    have hji := rv_int (eval_rv hT hj)
    simp only [RV] at h1
    obtain ⟨ad, c, h1, _, hc⟩ := h1
    obtain ⟨b, o, rfl, hc2⟩ := hc (by omega)
    obtain ⟨ie, hie, _⟩ := info_of_cells (P := E.P) (t := e) (by rw [he]; exact Nat.pos_iff_ne_zero.1 ek.esz_pos)
    refine .plain hH rfl h2 (u := .pointer (some ⟨b, o + j.toNat * E.P.cellsOf e, none⟩)) (fun q hq => ?_) (fun w' _ => ?_)
    · simp at hq; subst hq
      simp only [RV]
      refine ⟨b, o + j.toNat * E.P.cellsOf e, rfl, fun m y hm => ?_⟩
      have hlt : j.toNat < xs.length := by omega
      have hget : xs[j.toNat]? = some (xs.getD j.toNat ek.def) := by
        rw [List.getD_eq_getElem?_getD, List.getElem?_eq_getElem hlt]; rfl
      obtain ⟨u, hu, hr⟩ := hc2 _ _ hget m y (by simpa using hm)
      exact ⟨u, by rw [he]; exact hu, hr⟩
    · simp [execOp, h1, hji, run_indexAt_slice ht hjn hie]
  · rename_i n e r j ht hx hj
    obtain ⟨kk, hj⟩ := aint_eq hj
    have h1 := eval_rv hT hx
    have hji := rv_int (eval_rv hT hj)
    simp only [RV] at h1
    obtain ⟨tt, b, htt, hb, h1⟩ := h1
    split at h
    · rename_i ek xs hl
      obtain ⟨hc, hjn, h2⟩ := br_elim h
      simp only [Bool.and_eq_true] at hc
      obtain ⟨⟨⟨hc1, hc2⟩, hc3⟩, hc4⟩ := hc
      have hc1 := Nat.eq_of_beq_eq_true hc1
      have hc2 := Nat.eq_of_beq_eq_true hc2
      have hc3 := Nat.eq_of_beq_eq_true hc3
      have hc4 := Nat.le_of_ble_eq_true hc4
      obtain ⟨ie, hie, _⟩ := info_of_cells (P := E.P) (t := e) (by rw [hc1]; exact Nat.pos_iff_ne_zero.1 ek.esz_pos)
      refine .plain hH rfl h2 (u := .pointer (some ⟨b, tt.off + j.toNat * E.P.cellsOf e, none⟩)) (fun q hq => ?_) (fun w' _ => ?_)
      · simp at hq; subst hq
        simp only [RV]
        exact ⟨tt, b, htt, hb, by rw [hc1]; simp⟩
      · simp [execOp, h1, hji, hc2, hc3, run_indexAt_array ht hc4 hjn hie]
    · obtain ⟨hc, hjn, h2⟩ := br_elim h
      simp only [Bool.and_eq_true] at hc
      obtain ⟨⟨⟨hc1, hc2⟩, hc3⟩, hc5⟩ := hc
      have hc1 := Nat.eq_of_beq_eq_true hc1
      have hc2 := Nat.le_of_ble_eq_true hc2
      have hc5 : E.P.cellsOf e ≠ 0 := fun h => by rw [h] at hc5; exact absurd hc5 (by decide)
      obtain ⟨ie, hie, _⟩ := info_of_cells hc5
      have h3 := foldr_pick (P := fun m => j = (m : Int) → k (some (.ptr { r with off := r.off + m * E.P.cellsOf e })) st.heap []) (fun m r h => h) h2 j.toNat (by simp; omega) (by omega)
      refine .plain hH rfl h3 (u := .pointer (some ⟨b, tt.off + r.idx * r.esz + r.off + j.toNat * E.P.cellsOf e, none⟩)) (fun q hq => ?_) (fun w' _ => ?_)
      · simp at hq; subst hq
        simp only [RV]
        exact ⟨tt, b, htt, hb, by rw [Nat.add_assoc]⟩
      · simp [execOp, h1, hji, run_indexAt_array ht hc2 hjn hie]
    · exact h.elim
  · exact h.elim

theorem q_index (t : TypeId) (x i : Operand) (h : aop E ⟨dst, .index t x i, ty, pos, af, gd⟩ st k) : QRes E G ρ w st a ⟨dst, .index t x i, ty, pos, af, gd⟩ Fs k := by
  simp only [aop] at h
  split at h
  · rename_i s j ht hx hj
    obtain ⟨kk, hj⟩ := aint_eq hj
    have h1 := rv_str (eval_rv hT hx)
    have hji := rv_int (eval_rv hT hj)
    obtain ⟨hjn, h2⟩ := h
    have hlt : j.toNat < s.size := by omega
    refine .plain hH rfl h2 (fun q hq => by simp at hq; subst hq; exact rvI) (fun w' _ => ?_)
    have hs : s[j.toNat]? = some (s.data.toList.getD j.toNat 0) := by
      have hlt2 : j.toNat < s.data.size := hlt
      rw [getElem?_pos s j.toNat hlt]
      congr 1
      show s.data[j.toNat]'hlt2 = _
      simp only [List.getD_eq_getElem?_getD, Array.getElem?_toList]
      rw [Array.getElem?_eq_getElem hlt2]; rfl
    simp [execOp, Instr.index, asIntOf, run_und ht, h1, hji, hjn.1, hs]
  · exact h.elim

theorem q_load (t : TypeId) (x : Operand) (h : aop E ⟨dst, .load t x, ty, pos, af, gd⟩ st k) : QRes E G ρ w st a ⟨dst, .load t x, ty, pos, af, gd⟩ Fs k := by
  simp only [aop] at h
  split at h
  · rename_i r g hr hg
    rw [forceL_eq] at h
    obtain ⟨e, Fs', hH', hkeep, hsub⟩ := expose_sat hH r.lab
    have h1 := eval_rv hT hr
    obtain ⟨cs, b, o, vs, hk, hv, hbF, ⟨ob, hob, hall⟩, hcl, hrs, hvl, hrun⟩ := readCells_run hH' h (h1.ext (e := e))
    obtain ⟨x2, hx2, hrx, hlen⟩ := ofCells_rv hk hrs
    have hinfo : ∃ i, E.P.info? t = some i := by
      unfold isAggT at hg
      cases hu : E.P.underlying t with
      | none => simp [hu] at hg
      | some d => exact info_of_und hu
    obtain ⟨it, hit⟩ := hinfo
    have hlab : readLab (Go.Op.load t x) st = some r.lab := by simp [readLab, hr]
    refine ⟨e, some x2, _, Fs', valOf g vs, hx2, fun q hq => by simp at hq; subst hq; exact hrx, hH', ?_, ?_, ?_⟩
    · intro l ob' hl hob'
      exact hkeep l (fun h => hl (by rw [hlab, h])) ob' hob'
    · intro l hl
      rw [hlab] at hl
      cases hl
      exact ⟨⟨b, ob, hob, hbF, hall⟩, fun ob' y hob' hy => hsub ob' hob' y hy⟩
    · intro w' hw hst
      have hb := hst r.lab b hlab hbF
      have := run_loadVar_cells (P := E.P) hg hit (b := b) (o := o) hvl (w' := w') (fun j hj => hrun w' hb j (by omega)) hlen
      simp [execOp, Instr.loadAt, Instr.sureAddr, hv, this]
  · rename_i c n g hr hg
    obtain ⟨hle, h2⟩ := br_elim h
    have hle := Nat.le_of_ble_eq_true hle
    have h1 := eval_rv hT hr
    simp only [RV] at h1
    obtain ⟨b, o, h1, hc⟩ := h1
    have hinfo : ∃ i, E.P.info? t = some i := by
      unfold isAggT at hg
      cases hu : E.P.underlying t with
      | none => simp [hu] at hg
      | some d => exact info_of_und hu
    obtain ⟨it, hit⟩ := hinfo
    have hlab : readLab (Go.Op.load t x) st = none := by simp [readLab, hr]
    let f : Nat → Value := fun j => (G.w0.cell? ⟨b, o + (n + j), none⟩).getD undef
    have hrs : RVs G ρ ((c.drop n).take (E.P.cellsOf t)) ((List.range (E.P.cellsOf t)).map f) := by
      refine RVs.of_get (by simp; omega) fun j y hj => ?_
      have hjn : j < E.P.cellsOf t := by
        have := (List.getElem?_eq_some_iff.1 hj).1
        simp at this; omega
      rw [List.getElem?_take_of_lt hjn, List.getElem?_drop] at hj
      obtain ⟨u, hu, hr⟩ := hc _ _ hj
      refine ⟨f j, by simp [hjn], ?_⟩
      simp only [f, hu.2]; exact hr.rv
    obtain ⟨x2, hx2, hrx, hlen⟩ := ofCells_rv h2 hrs
    refine .plain hH hlab hx2 (fun q hq => by simp at hq; subst hq; exact hrx) (fun w' hw => ?_)
    have := run_loadVar_cells (P := E.P) hg hit (b := b) (o := o + n) (vs := (List.range (E.P.cellsOf t)).map f) (by simp) (w' := w') (fun j hj => by
      simp at hj
      have hx : ∃ y, c[n + j]? = some y := ⟨_, List.getElem?_eq_getElem (by omega)⟩
      obtain ⟨y, hy⟩ := hx
      obtain ⟨u, hu, _⟩ := hc _ _ hy
      rw [Nat.add_assoc, imm_cell hw hu]
      simp [hj, f, hu.2]) hlen
    simp [execOp, Instr.loadAt, Instr.sureAddr, h1, this]
  · exact h.elim

end

end Go.Ax
