/-
  The executor is right, part ten: stores, new variables, new slices, appends, calls.
-/
import Derived.Test.YtjpeimmjggkkjaaAx11
import Derived.RowKit3
set_option linter.all false
namespace Go.Ax
variable {G : Gam} {ρ : List Root} {w : World}

/-- What a call of a Go function comes to, by labels. -/
def ACalls (P : Program) (f : FuncId) (args : List AV) (H : AHeap) (K : AV → AHeap → List Nat → Prop) : Prop :=
  ∀ (G : Gam) (w : World) (ρ : List Root) (Fs : Nat → List Nat) (vs : List Value), SatHF G ρ w H Fs → RVs G ρ args vs →
    Calls P f vs.toArray w fun e w' => ∃ v av H' T e' Fs', e = .returned v ∧ K av H' T ∧ RV G (ρ ++ e') av v ∧ SatHF G (ρ ++ e') w' H' Fs' ∧ Unt w w' H H' Fs Fs' T

def SpecOK (P : Program) (f : FuncId) (S : SpecT) : Prop := ∀ args H K, S args H K → ACalls P f args H K

def Env.OK (E : Env) : Prop := ∀ f S, lookN f E.spec = some S → (∃ fn, E.P.funcs[f]? = some fn ∧ fn.body.isSome = true ∧ (fn.name == "runtime.NumGoroutine") = false) ∧ SpecOK E.P f S

/-- What is shown of an operation that may touch the world. -/
def ERes (E : Env) (G : Gam) (ρ : List Root) (w : World) (st : AS) (a : Act) (o : Oper) (Fs : Nat → List Nat) (k : KT) : Prop :=
  ∀ (next : Act → World → Prop) (Q : Exit → Act → World → Prop),
    (∀ e av H' T Fs' u w', k av H' T → (∀ x, av = some x → RV G (ρ ++ e) x u) → SatHF G (ρ ++ e) w' H' Fs' → Unt w w' st.heap H' Fs Fs' T → next (a.put o.dst u) w') → o.wp E.P a w next Q

theorem SatHF.drew {H : AHeap} {Fs : Nat → List Nat} (h : SatHF G ρ w H Fs) : SatHF G ρ w.drew H Fs := by
  have := h.step (e := []) (w' := w.drew) (H' := H) (Fs' := Fs) [] (fun _ => False) (by simp) (Nat.le_refl _) (fun _ _ _ => rfl) ⟨rfl, Nat.le_succ _⟩ rfl rfl (by simpa using h.len)
    (fun l o _ hl => ⟨hl, rfl⟩) (fun l o hT => hT.elim) (fun l o l' o' b hT => hT.elim)
  simpa using this

theorem alloc_heap_lt {o : Obj} {b : Nat} (h : b < w.heap.size) : (w.alloc o).heap[b]? = w.heap[b]? := by
  simp only [World.alloc]
  rw [Array.getElem?_push, if_neg (by omega)]

theorem alloc_heap_self {o : Obj} : (w.alloc o).heap[w.heap.size]? = some o := by
  show (w.heap.push o)[w.heap.size]? = some o
  simp

/-- A new object in a new block. -/
theorem push_alloc {H : AHeap} {Fs : Nat → List Nat} (h : SatHF G ρ w H Fs) (ob : AObj) (r : Root) (c : Array Value) (ty : TypeId) (hs : ∀ w' : World, w'.heap[w.heap.size]? = some (.cells c ty) → Sat G (ρ ++ [r]) w' ob r [w.heap.size]) :
    ∃ Fs', SatHF G (ρ ++ [r]) (w.alloc (.cells c ty)) (H ++ [some ob]) Fs' ∧ Unt w (w.alloc (.cells c ty)) H (H ++ [some ob]) Fs Fs' [] := by
  have hsz : (w.alloc (.cells c ty)).heap.size = w.heap.size + 1 := by show (w.heap.push _).size = _; simp
  refine ⟨_, SatH.push h ob r [w.heap.size] (w' := w.alloc (.cells c ty)) (by omega) (fun b hb => alloc_heap_lt hb) ⟨rfl, Nat.le_refl _⟩ rfl rfl (hs _ alloc_heap_self) (fun b hb => by simp at hb; omega), fun l o' hl _ => ⟨?_, ?_, fun b hb => ?_⟩⟩
  · exact getElem?_ext hl
  · have := h.lab hl
    simp; omega
  · exact alloc_heap_lt (h.free l o' b hl hb).2

theorem raw_push {H : AHeap} {Fs : Nat → List Nat} (h : SatHF G ρ w H Fs) {cs : List AV} {c : Array Value} (ty : TypeId) (hr : RVs G ρ cs c.toList) :
    ∃ Fs' r, SatHF G (ρ ++ [r]) (w.alloc (.cells c ty)) (H ++ [some (.raw cs)]) Fs' ∧ Unt w (w.alloc (.cells c ty)) H (H ++ [some (.raw cs)]) Fs Fs' [] ∧ r = ⟨some w.heap.size, 0, 1⟩ := by
  obtain ⟨Fs', h1, h2⟩ := push_alloc h (.raw cs) ⟨some w.heap.size, 0, 1⟩ c ty (fun w' hw' => .raw rfl hw' fun j x hj => by
    obtain ⟨u, hu, hru⟩ := hr.get hj
    exact ⟨u, by simpa using hu, hru.ext⟩)
  exact ⟨Fs', _, h1, h2, rfl⟩

theorem rv_new {H : AHeap} (hl : H.length = ρ.length) {b n : Nat} : RV G (ρ ++ [⟨some b, 0, n⟩]) (.ptr ⟨H.length, 0, 0, 0⟩) (.pointer (some ⟨b, 0, none⟩)) := by
  simp only [RV]
  exact ⟨⟨some b, 0, n⟩, b, by simp [hl], rfl, by simp⟩

section
variable {E : Env} {st : AS} {a : Act} {Fs : Nat → List Nat} {k : KT} (dst : Option Tmp) (ty : TypeId) (pos : String) (af : Array Edge) (gd : Option (Nat × Bool))
variable (hT : TR G ρ st.tmps a.tmps) (hH : SatHF G ρ w st.heap Fs)
include hT hH

theorem e_alloc (e : TypeId) (h : aop E ⟨dst, .alloc e, ty, pos, af, gd⟩ st k) : ERes E G ρ w st a ⟨dst, .alloc e, ty, pos, af, gd⟩ Fs k := by
  intro next Q hn
  simp only [aop] at h
  split at h
  · rename_i cs hz
    rw [forceL_eq] at h
    obtain ⟨i, zv, hi, hzv, hzr⟩ := zero_rv (G := G) (ρ := ρ) hz
    obtain ⟨Fs', r, h1, h2, rfl⟩ := raw_push hH e hzr
    have hrun : (execOp a.eval ⟨dst, .alloc e, ty, pos, af, gd⟩).run E.P w = .ok (.value (.pointer (some ⟨w.heap.size, 0, none⟩))) (w.alloc (.cells zv.cells e)) := by
      simp [execOp, Instr.alloc, zeroValue, typeInfo, hi, hzv, newVar, newRow]
    unfold Oper.wp
    rw [hrun, Oper.upon_value]
    exact hn _ _ _ _ _ _ _ h (fun x hx => by simp at hx; subst hx; exact rv_new hH.len) h1 h2
  · exact h.elim

theorem e_box (e : TypeId) (x : Operand) (h : aop E ⟨dst, .box e x, ty, pos, af, gd⟩ st k) : ERes E G ρ w st a ⟨dst, .box e x, ty, pos, af, gd⟩ Fs k := by
  intro next Q hn
  simp only [aop] at h
  split at h
  · rename_i v hv
    rw [forceL_eq, forceL_eq] at h
    have hr := (eval_rv hT hv).cells
    obtain ⟨Fs', r, h1, h2, rfl⟩ := raw_push hH e hr
    have hrun : (execOp a.eval ⟨dst, .box e x, ty, pos, af, gd⟩).run E.P w = .ok (.value (.pointer (some ⟨w.heap.size, 0, none⟩))) (w.alloc (.cells (a.eval x).cells e)) := by
      simp [execOp, Instr.box, newVar, newRow]
    unfold Oper.wp
    rw [hrun, Oper.upon_value]
    exact hn _ _ _ _ _ _ _ h (fun x hx => by simp at hx; subst hx; exact rv_new hH.len) h1 h2
  · exact h.elim

theorem e_store (t : TypeId) (x y : Operand) (h : aop E ⟨dst, .store t x y, ty, pos, af, gd⟩ st k) : ERes E G ρ w st a ⟨dst, .store t x y, ty, pos, af, gd⟩ Fs k := by
  intro next Q hn
  simp only [aop] at h
  split at h
  · rename_i r v hr hv
    obtain ⟨hb, h2⟩ := br_elim h
    rw [forceL_eq] at h2
    simp only [Bool.and_eq_true] at hb
    have hc := Nat.eq_of_beq_eq_true hb.1.1
    have hc0 : E.P.cellsOf t ≠ 0 := fun h => by rw [h] at hb; exact absurd hb.1.2 (by decide)
    obtain ⟨i, hi, his⟩ := info_of_cells hc0
    obtain ⟨e, Fs1, hH1, hkeep, hsub⟩ := expose_sat hH r.lab
    have hrv := (eval_rv hT hr).ext (e := e)
    have hvv := ((eval_rv hT hv).ext (e := e)).cells
    obtain ⟨b, o, H', w', hp, hk, hrun, hsat, hun⟩ := writeCells_run (E := E) hH1 h2 hrv hvv hb.2
    have hlen := hvv.len
    have hrun2 : (execOp a.eval ⟨dst, .store t x y, ty, pos, af, gd⟩).run E.P w = .ok .skip w' := by
      have hsz : (a.eval y).cells.size = i.size := by rw [his, ← hc, ← hlen]; simp
      simp [execOp, Instr.storeAt, Instr.sureAddr, hp, storeVar, sizeOf, typeInfo, hi, hsz, hrun]
    unfold Oper.wp
    rw [hrun2, Oper.upon_skip]
    refine hn e _ _ _ Fs1 _ _ hk (fun x hx => by simp at hx) hsat (fun l ob hl hTl => ?_)
    have hne : l ≠ r.lab := fun he => hTl (by simp [he])
    obtain ⟨h3, h4⟩ := hkeep l hne ob hl
    obtain ⟨h5, h6, h7⟩ := hun l ob h3 (by simpa using hne)
    exact ⟨h5, h4, fun b hb => h7 b (by rw [h4]; exact hb)⟩
  · exact h.elim

theorem e_call (hE : E.OK) (f : Operand) (xs : Array Operand) (ts : Array TypeId) (h : aop E ⟨dst, .call ⟨.value f, xs, ts⟩, ty, pos, af, gd⟩ st k) : ERes E G ρ w st a ⟨dst, .call ⟨.value f, xs, ts⟩, ty, pos, af, gd⟩ Fs k := by
  intro next Q hn
  simp only [aop] at h
  cases hv : evals st xs.toList with
  | none => simp [hv] at h
  | some vs =>
    simp only [hv] at h
    split at h
    · rename_i g cap hf
      split at h
      · rename_i S hS
        obtain ⟨⟨fn, hfn, hbody, hname⟩, hok⟩ := hE g S hS
        have hfr := eval_rv hT hf
        simp only [RV] at hfr
        obtain ⟨cs, hfe, hcs⟩ := hfr
        have hargs := evals_rv hT hv
        have hrun : (execOp a.eval ⟨dst, .call ⟨.value f, xs, ts⟩, ty, pos, af, gd⟩).run E.P w = .ok (.enter g (xs.map a.eval ++ cs)) w := by
          have hb3 : ¬ fn.body = none := fun h => by rw [h] at hbody; exact absurd hbody (by decide)
          have hn1 : ¬ fn.name = "runtime.NumGoroutine" := by simpa using hname
          simp only [execOp, resolve, Sem.run_bind, Sem.run_pure, Result.andThen_ok, Deferred.ofValue, hfe]
          simp [invoke, callFunc, hfn, hb3, hn1]
        unfold Oper.wp
        rw [hrun, Oper.upon_enter]
        have happ : ∀ {x : List AV} {u : List Value} {y : List AV} {z : List Value}, RVs G ρ x u → RVs G ρ y z → RVs G ρ (x ++ y) (u ++ z) := by
          intro x
          induction x with
          | nil => intro u y z h1 h2; simp only [RVs] at h1; subst h1; simpa using h2
          | cons c x ih =>
            intro u y z h1 h2
            simp only [RVs] at h1
            obtain ⟨v, ws, rfl, h3, h4⟩ := h1
            exact ⟨v, ws ++ z, rfl, h3, ih h4 h2⟩
        have hc := hok _ _ _ h G w ρ Fs (xs.toList.map a.eval ++ cs.toList) hH (happ hargs hcs)
        have harr : (xs.toList.map a.eval ++ cs.toList).toArray = xs.map a.eval ++ cs := by
          apply Array.ext'; simp
        rw [harr] at hc
        refine hc.mono fun e w' he => ?_
        obtain ⟨v, av, H', T, e', Fs', rfl, hK, hrv, hsat, hun⟩ := he
        exact hn e' _ _ _ _ _ _ hK (fun x hx => by simp at hx; subst hx; exact hrv) hsat hun
      · exact h.elim
    · exact h.elim

end

end Go.Ax
