/-
  The executor is right, part five: every operation that leaves the world alone.
-/
import Derived.Test.YtjpeimmjggkkjaaAx6
set_option linter.all false
namespace Go.Ax
variable {G : Gam} {ρ : List Root} {w : World}

/-- What is shown of an operation that leaves the world alone. -/
def QRes (E : Env) (G : Gam) (ρ : List Root) (w : World) (st : AS) (a : Act) (o : Oper) (Fs : Nat → List Nat) (k : KT) : Prop :=
  ∃ e av H' Fs' u, k av H' [] ∧ (∀ x, av = some x → RV G (ρ ++ e) x u) ∧ SatHF G (ρ ++ e) w H' Fs' ∧
    (∀ l ob, readLab o.op st ≠ some l → st.heap[l]? = some (some ob) → H'[l]? = some (some ob) ∧ Fs' l = Fs l) ∧
    (∀ l, readLab o.op st = some l → (∃ b ob, H'[l]? = some (some ob) ∧ b ∈ Fs' l ∧ ∀ y, y ∈ Fs' l → y = b) ∧ ∀ ob y, st.heap[l]? = some (some ob) → y ∈ Fs' l → y ∈ Fs l) ∧
    ∀ w', WOK G w' → (∀ l b, readLab o.op st = some l → b ∈ Fs' l → w'.heap[b]? = w.heap[b]?) → (execOp a.eval o).run E.P w' = .ok (.value u) w'

theorem QRes.plain {E : Env} {st : AS} {a : Act} {o : Oper} {Fs : Nat → List Nat} {k : KT} (hH : SatHF G ρ w st.heap Fs) (hl : readLab o.op st = none) {av : Option AV} {u : Value}
    (hk : k av st.heap []) (hr : ∀ x, av = some x → RV G ρ x u) (hrun : ∀ w', WOK G w' → (execOp a.eval o).run E.P w' = .ok (.value u) w') : QRes E G ρ w st a o Fs k :=
  ⟨[], av, st.heap, Fs, u, hk, by simpa using hr, by simpa using hH, fun _ _ _ h => ⟨h, rfl⟩, fun l h => (by rw [hl] at h; cases h), fun w' hw _ => hrun w' hw⟩

theorem aint_eq {x : Option AV} {n : Int} (h : aint x = some n) : ∃ k, x = some (.int k n) := by
  unfold aint at h
  split at h
  · rename_i k m; simp at h; subst h; exact ⟨k, rfl⟩
  · simp at h

theorem imm_cell {b o : Nat} {v : Value} (hw : WOK G w) (h : G.cell b o v) : w.cell? ⟨b, o, none⟩ = some v := by
  obtain ⟨hp, hc⟩ := h
  have := (hw.prot b (G.sub b hp)).2
  simp only [World.cell?] at hc ⊢
  rw [this]; exact hc

theorem addr_add (b o n : Nat) : (⟨b, o, none⟩ : Addr).add n = ⟨b, o + n, none⟩ := by
  unfold Addr.add
  split
  · rename_i h; subst h; rfl
  · rfl

theorem run_fieldAt {E : Env} {s : TypeId} {fs : Array Field} {f : Nat} {fd : Field} (hs : E.P.underlying s = some (.struct fs)) (hf : fs[f]? = some fd) (hz : Nat.beq (E.P.cellsOf fd.type) 0 = false) (b o : Nat) (w' : World) :
    (Instr.fieldAt s (.pointer (some ⟨b, o, none⟩)) f).run E.P w' = .ok (.pointer (some ⟨b, o + fd.offset, none⟩)) w' := by
  have hz' : E.P.cellsOf fd.type ≠ 0 := fun h => by rw [h] at hz; exact absurd hz (by decide)
  obtain ⟨i, hi, his⟩ := info_of_cells hz'
  simp [Instr.fieldAt, Instr.sureAddr, fieldPlace, run_und hs, hf, run_size hi, hz', addr_add]

theorem RVs.take_drop : ∀ {xs : List AV} {vs : List Value} (_ : RVs G ρ xs vs) (o n : Nat), RVs G ρ ((xs.drop o).take n) ((vs.drop o).take n) := by
  intro xs vs h o n
  have hl := h.len
  refine RVs.of_get (by simp [hl]) fun j x hj => ?_
  have hjn : j < n := by
    have := (List.getElem?_eq_some_iff.1 hj).1
    simp at this; omega
  rw [List.getElem?_take_of_lt hjn, List.getElem?_drop] at hj
  obtain ⟨v, hv, r⟩ := h.get hj
  exact ⟨v, by rw [List.getElem?_take_of_lt hjn, List.getElem?_drop]; exact hv, r⟩

/-- A part of a struct's or an array's cells. -/
theorem part_rv {E : Env} {t : TypeId} {g : Bool} (hg : isAggT E.P t = some g) {cs : List AV} {vs : Array Value} (hr : RVs G ρ cs vs.toList) {o : Nat} (hle : o + E.P.cellsOf t ≤ cs.length) {kk : AV → Prop}
    (h : ofCells g ((cs.drop o).take (E.P.cellsOf t)) kk) : ∃ x u, kk x ∧ RV G ρ x u ∧ ∀ w' : World, (part t vs o).run E.P w' = .ok u w' := by
  have hsub := RVs.take_drop hr o (E.P.cellsOf t)
  obtain ⟨x, hx, hrx, h1⟩ := ofCells_rv h hsub
  have hlen := hr.len
  simp at hlen
  cases g with
  | true =>
    refine ⟨x, _, hx, hrx, fun w' => ?_⟩
    cases hu : E.P.underlying t with
    | none => unfold isAggT at hg; simp [hu] at hg
    | some d =>
      obtain ⟨i, hi⟩ := info_of_und hu
      simp only [part, Sem.run_bind, run_agg hg, Result.andThen_ok, if_true, run_size hi, Sem.run_pure, valOf]
      congr 2
      apply Array.ext'
      simp [List.take_drop]
  | false =>
    have h1 := h1 rfl
    refine ⟨x, _, hx, hrx, fun w' => ?_⟩
    simp at h1
    have ho : vs[o]? = some (((vs.toList.drop o).take (E.P.cellsOf t)).getD 0 undef) := by
      have hlt : o < vs.size := by omega
      have hn : 0 < E.P.cellsOf t := by omega
      rw [List.getD_eq_getElem?_getD, List.getElem?_take_of_lt hn, List.getElem?_drop]
      simp [hlt]
    simp [part, run_agg hg, ho, valOf]

section
variable {E : Env} {st : AS} {a : Act} {Fs : Nat → List Nat} {k : KT} (dst : Option Tmp) (ty : TypeId) (pos : String) (af : Array Edge) (gd : Option (Nat × Bool))
variable (hT : TR G ρ st.tmps a.tmps) (hH : SatHF G ρ w st.heap Fs)
include hT hH

theorem q_move (x : Operand) (h : aop E ⟨dst, .move x, ty, pos, af, gd⟩ st k) : QRes E G ρ w st a ⟨dst, .move x, ty, pos, af, gd⟩ Fs k :=
  .plain hH rfl h (fun _ he => eval_rv hT he) (fun w' _ => by simp [execOp])
theorem q_assign (x : Operand) (h : aop E ⟨dst, .assign x, ty, pos, af, gd⟩ st k) : QRes E G ρ w st a ⟨dst, .assign x, ty, pos, af, gd⟩ Fs k :=
  .plain hH rfl h (fun _ he => eval_rv hT he) (fun w' _ => by simp [execOp])

theorem q_pick (c x y : Operand) (h : aop E ⟨dst, .pick c x y, ty, pos, af, gd⟩ st k) : QRes E G ρ w st a ⟨dst, .pick c x y, ty, pos, af, gd⟩ Fs k := by
  simp only [aop] at h
  split at h
  · rename_i cb xb yb hc hx hy
    have h1 := rv_bool (eval_rv hT hc)
    have h2 := rv_bool (eval_rv hT hx)
    have h3 := rv_bool (eval_rv hT hy)
    refine .plain hH rfl h (u := .bool (cond cb xb yb)) (fun z hz => by simp at hz; subst hz; exact rvB) (fun w' _ => ?_)
    cases cb <;> simp [execOp, h1, h2, h3, asBool]
  · rename_i cb hc _
    have h1 := rv_bool (eval_rv hT hc)
    cases cb with
    | true => exact .plain hH rfl h (fun _ he => eval_rv hT he) (fun w' _ => by simp [execOp, h1, asBool])
    | false => exact .plain hH rfl h (fun _ he => eval_rv hT he) (fun w' _ => by simp [execOp, h1, asBool])
  · exact h.elim

theorem q_bin (op : BinOp) (t : TypeId) (x y : Operand) (t2 : TypeId) (h : aop E ⟨dst, .binOp op t x y t2, ty, pos, af, gd⟩ st k) : QRes E G ρ w st a ⟨dst, .binOp op t x y t2, ty, pos, af, gd⟩ Fs k := by
  simp only [aop] at h
  split at h
  · rename_i u v hu hv
    obtain ⟨z, r, hz, hr, hrun⟩ := bin_calm h (eval_rv hT hu) (eval_rv hT hv) x y
    refine .plain hH rfl hz (fun q hq => by simp at hq; subst hq; exact hr) (fun w' _ => ?_)
    have := hrun w'
    simp only [execOp]
    rw [Sem.run_bind, this]
    rfl
  · exact h.elim

theorem q_un (op : UnOp) (t : TypeId) (x : Operand) (h : aop E ⟨dst, .unOp op t x, ty, pos, af, gd⟩ st k) : QRes E G ρ w st a ⟨dst, .unOp op t x, ty, pos, af, gd⟩ Fs k := by
  simp only [aop] at h
  split at h
  · rename_i u hu
    obtain ⟨z, r, hz, hr, hrun⟩ := un_calm (P := E.P) h (eval_rv hT hu)
    exact .plain hH rfl hz (fun q hq => by simp at hq; subst hq; exact hr) (fun w' _ => by simp [execOp, hrun w'])
  · exact h.elim

theorem q_conv (s d : TypeId) (x : Operand) (h : aop E ⟨dst, .convert s d x, ty, pos, af, gd⟩ st k) : QRes E G ρ w st a ⟨dst, .convert s d x, ty, pos, af, gd⟩ Fs k := by
  simp only [aop] at h
  split at h
  · rename_i u hu
    obtain ⟨z, r, hz, hr, hrun⟩ := conv_calm h (eval_rv hT hu)
    exact .plain hH rfl hz (fun q hq => by simp at hq; subst hq; exact hr) (fun w' _ => by simp [execOp, hrun w'])
  · exact h.elim

theorem q_nil (x : Operand) (h : aop E ⟨dst, .nilCheck x, ty, pos, af, gd⟩ st k) : QRes E G ρ w st a ⟨dst, .nilCheck x, ty, pos, af, gd⟩ Fs k := by
  simp only [aop] at h
  split at h
  · rename_i r hr
    have h1 := eval_rv hT hr
    refine .plain hH rfl h (fun q hq => by simp at hq; subst hq; exact h1) (fun w' _ => ?_)
    simp only [RV] at h1
    obtain ⟨t, b, _, _, h1⟩ := h1
    simp [execOp, h1]
  · rename_i c n hr
    have h1 := eval_rv hT hr
    refine .plain hH rfl h (fun q hq => by simp at hq; subst hq; exact h1) (fun w' _ => ?_)
    simp only [RV] at h1
    obtain ⟨b, o, h1, _⟩ := h1
    simp [execOp, h1]
  · rename_i f c hr
    have h1 := eval_rv hT hr
    refine .plain hH rfl h (fun q hq => by simp at hq; subst hq; exact h1) (fun w' _ => ?_)
    simp only [RV] at h1
    obtain ⟨vs, h1, _⟩ := h1
    simp [execOp, h1]
  · exact h.elim

theorem q_fieldAddr (s : TypeId) (x : Operand) (f : Nat) (h : aop E ⟨dst, .fieldAddr s x f, ty, pos, af, gd⟩ st k) : QRes E G ρ w st a ⟨dst, .fieldAddr s x f, ty, pos, af, gd⟩ Fs k := by
  simp only [aop] at h
  split at h
  · rename_i fs hs
    split at h
    · rename_i fd hf
      split at h
      · rename_i r hz hr
        have h1 := eval_rv hT hr
        simp only [RV] at h1
        obtain ⟨t, b, ht, hb, h1⟩ := h1
        refine .plain hH rfl h (u := .pointer (some ⟨b, t.off + r.idx * r.esz + r.off + fd.offset, none⟩)) (fun q hq => ?_) (fun w' _ => ?_)
        · simp at hq; subst hq
          simp only [RV]
          exact ⟨t, b, ht, hb, by rw [Nat.add_assoc]⟩
        · simp [execOp, h1, run_fieldAt hs hf hz]
      · rename_i c n hz hr
        have h1 := eval_rv hT hr
        simp only [RV] at h1
        obtain ⟨b, o, h1, hc⟩ := h1
        refine .plain hH rfl h (u := .pointer (some ⟨b, o + n + fd.offset, none⟩)) (fun q hq => ?_) (fun w' _ => ?_)
        · simp at hq; subst hq
          simp only [RV]
          exact ⟨b, o, by rw [Nat.add_assoc], hc⟩
        · simp [execOp, h1, run_fieldAt hs hf hz]
      · exact h.elim
    · exact h.elim
  · exact h.elim

theorem q_field (s : TypeId) (x : Operand) (f : Nat) (h : aop E ⟨dst, .field s x f, ty, pos, af, gd⟩ st k) : QRes E G ρ w st a ⟨dst, .field s x f, ty, pos, af, gd⟩ Fs k := by
  simp only [aop] at h
  split at h
  · rename_i fs hs
    split at h
    · rename_i fd hf
      split at h
      · rename_i cs g hr hg
        obtain ⟨hle, h2⟩ := br_elim h
        have h1 := eval_rv hT hr
        simp only [RV] at h1
        obtain ⟨vs, h1, hrs⟩ := h1
        obtain ⟨z, u, hz, hu, hrun⟩ := part_rv hg hrs (Nat.le_of_ble_eq_true hle) h2
        refine .plain hH rfl hz (fun q hq => by simp at hq; subst hq; exact hu) (fun w' _ => ?_)
        simp [execOp, Instr.field, run_und hs, hf, h1, asAgg, hrun w']
      · exact h.elim
    · exact h.elim
  · exact h.elim

theorem q_extract (x : Operand) (i : Nat) (h : aop E ⟨dst, .extract x i, ty, pos, af, gd⟩ st k) : QRes E G ρ w st a ⟨dst, .extract x i, ty, pos, af, gd⟩ Fs k := by
  simp only [aop] at h
  split at h
  · rename_i xs hr
    split at h
    · rename_i v hv
      have h1 := eval_rv hT hr
      simp only [RV] at h1
      obtain ⟨vs, h1, hrs⟩ := h1
      obtain ⟨u, hu, hru⟩ := hrs.get hv
      refine .plain hH rfl h (fun q hq => by simp at hq; subst hq; exact hru) (fun w' _ => ?_)
      simp at hu
      simp [execOp, Instr.extract, h1, hu]
    · exact h.elim
  · exact h.elim
end

end Go.Ax
