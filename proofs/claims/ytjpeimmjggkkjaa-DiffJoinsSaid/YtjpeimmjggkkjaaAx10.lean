/-
  The executor is right, part eight: slices; all operations that leave the world alone, together.
-/
import Derived.Test.YtjpeimmjggkkjaaAx9
set_option linter.all false
namespace Go.Ax
variable {G : Gam} {ρ : List Root} {w : World}

theorem run_bounds {E : Env} {isS : Bool} {n c : Nat} {lo hi : Option Value} {l h : Int} (hl : (lo = none ∧ l = 0) ∨ ∃ k, lo = some (.int k l)) (hh : (hi = none ∧ h = n) ∨ ∃ k, hi = some (.int k h)) (h1 : 0 ≤ l) (h2 : l ≤ h) (h3 : h ≤ c) (w' : World) :
    (Instr.sliceBounds isS n c lo hi none).run E.P w' = .ok (l.toNat, h.toNat, c) w' := by
  have h4 : 0 ≤ h := by omega
  have h5 : l ≤ h.toNat := by omega
  rcases hl with ⟨rfl, rfl⟩ | ⟨k, rfl⟩ <;> rcases hh with ⟨rfl, rfl⟩ | ⟨k', rfl⟩ <;>
    simp [Instr.sliceBounds, Instr.sliceBound, asIntOf, h1, h2, h3, h4]
  all_goals (intros; omega)

/-- A slice expression's bound: what the executor reads of it. -/
theorem bound_of {st : AS} {a : Act} (hT : TR G ρ st.tmps a.tmps) {lo : Option Operand} {d l : Int} (h : (match lo.map st.eval with | none => some d | some v => aint v) = some l) :
    (lo.map a.eval = none ∧ l = d) ∨ ∃ k, lo.map a.eval = some (.int k l) := by
  cases lo with
  | none => simp at h; exact .inl ⟨rfl, h.symm⟩
  | some x =>
    simp at h
    obtain ⟨k, hk⟩ := aint_eq h
    have := rv_int (eval_rv hT hk)
    exact .inr ⟨k, by simp [this]⟩

section
variable {E : Env} {st : AS} {a : Act} {Fs : Nat → List Nat} {k : KT} (dst : Option Tmp) (ty : TypeId) (pos : String) (af : Array Edge) (gd : Option (Nat × Bool))
variable (hT : TR G ρ st.tmps a.tmps) (hH : SatHF G ρ w st.heap Fs)
include hT hH

theorem q_slice (t : TypeId) (x : Operand) (lo hi : Option Operand) (h : aop E ⟨dst, .slice t x lo hi none, ty, pos, af, gd⟩ st k) : QRes E G ρ w st a ⟨dst, .slice t x lo hi none, ty, pos, af, gd⟩ Fs k := by
  simp only [aop] at h
  cases hx : st.eval x with
  | none => simp [hx] at h
  | some v =>
    simp only [hx] at h
    have hr := eval_rv hT hx
    unfold aslice at h
    cases v
    case str s =>
      simp only [] at h
      have hv := rv_str hr
      split at h
      · rename_i l hh hl hhh hu
        obtain ⟨⟨h1, h2, h3⟩, hk⟩ := h
        have b1 := bound_of hT hl
        have b2 := bound_of hT hhh
        refine .plain hH rfl hk (fun q hq => by simp at hq; subst hq; exact rvS) (fun w' _ => ?_)
        have := run_bounds (E := E) (isS := false) (n := s.size) (c := s.size) b1 b2 h1 h2 h3 w'
        simp [execOp, Instr.sliceAt, Instr.slice, run_und hu, hv, this]
      · exact h.elim
    case imm ek xs =>
      simp only [] at h
      simp only [RV] at hr
      obtain ⟨ad, c, hv, hc1, hc⟩ := hr
      split at h
      · rename_i l hh e hl hhh hu
        obtain ⟨hb, ⟨h1, h2, h3⟩, hk⟩ := br_elim h
        have he := Nat.eq_of_beq_eq_true hb
        have b1 := bound_of hT hl
        have b2 := bound_of hT hhh
        have hbd := run_bounds (E := E) (isS := true) (n := xs.length) (c := c) b1 b2 h1 h2 (by omega)
        obtain ⟨ie, hie, _⟩ := info_of_cells (P := E.P) (t := e) (by rw [he]; exact Nat.pos_iff_ne_zero.1 ek.esz_pos)
        refine .plain hH rfl hk (u := .slice (if c = l.toNat then ad else ad.map (·.add (l.toNat * E.P.cellsOf e))) (hh.toNat - l.toNat) (c - l.toNat)) (fun q hq => ?_) (fun w' _ => ?_)
        · simp at hq; subst hq
          simp only [RV]
          have hlen : ((xs.take hh.toNat).drop l.toNat).length = hh.toNat - l.toNat := by simp; omega
          refine ⟨_, c - l.toNat, by rw [hlen], by rw [hlen]; omega, fun hn => ?_⟩
          rw [hlen] at hn
          obtain ⟨b, o, rfl, hcc⟩ := hc (by omega)
          rw [if_neg (by omega)]
          refine ⟨b, o + l.toNat * E.P.cellsOf e, by simp [addr_add], fun i y hi j z hj => ?_⟩
          have hi2 : xs[l.toNat + i]? = some y := by
            rw [List.getElem?_drop] at hi
            have : l.toNat + i < hh.toNat := by
              have := (List.getElem?_eq_some_iff.1 hi).1
              simp at this; omega
            rw [List.getElem?_take_of_lt this] at hi
            exact hi
          obtain ⟨u, hu2, hru⟩ := hcc _ _ hi2 j z hj
          refine ⟨u, ?_, hru⟩
          rw [he]
          have : o + l.toNat * ek.esz + i * ek.esz + j = o + (l.toNat + i) * ek.esz + j := by rw [Nat.add_mul]; omega
          rw [this]; exact hu2
        · simp [execOp, Instr.sliceAt, Instr.slice, run_und hu, hv, hbd w', run_size hie]
      · exact h.elim
    case sl lab esz base n =>
      simp only [] at h
      have hr0 := hr
      simp only [RV] at hr
      obtain ⟨tt, htt, hle, hv⟩ := hr
      split at h
      · rename_i l hh e ek xs hl hhh hu hlab
        obtain ⟨hb, ⟨h1, h2, h3⟩, hk⟩ := br_elim h
        simp only [Bool.and_eq_true] at hb
        have he := Nat.eq_of_beq_eq_true hb.1
        have he2 := Nat.eq_of_beq_eq_true hb.2
        have b1 := bound_of hT hl
        have b2 := bound_of hT hhh
        obtain ⟨ie, hie, _⟩ := info_of_cells (P := E.P) (t := e) (by rw [he, ← he2]; exact Nat.pos_iff_ne_zero.1 ek.esz_pos)
        obtain ⟨t', ht', hs⟩ := hH.sat _ _ hlab
        rw [htt] at ht'; cases ht'
        have htot : xs.length ≤ tt.tot := by
          generalize Fs lab = F at hs
          cases hs with
          | row _ _ h _ _ => omega
          | rownil _ h => simp
        rcases hv with ⟨b, hb, hv⟩ | ⟨hn, htb, aa, hv⟩
        · have hbd := run_bounds (E := E) (isS := true) (n := n) (c := tt.tot - base) b1 b2 h1 h2 (by omega)
          refine .plain hH rfl hk (u := .slice (if tt.tot - base = l.toNat then some ⟨b, tt.off + base * esz, none⟩ else some ⟨b, tt.off + base * esz + l.toNat * E.P.cellsOf e, none⟩) (hh.toNat - l.toNat) (tt.tot - base - l.toNat)) (fun q hq => ?_) (fun w' _ => ?_)
          · simp at hq; subst hq
            simp only [RV]
            refine ⟨tt, htt, by omega, ?_⟩
            by_cases hz : tt.tot - base = l.toNat
            · right
              rw [if_pos hz]
              refine ⟨by omega, by omega, some ⟨b, tt.off + base * esz, none⟩, ?_⟩
              rw [show hh.toNat - l.toNat = 0 from by omega, show tt.tot - base - l.toNat = 0 from by omega]
            · left
              rw [if_neg hz]
              refine ⟨b, hb, ?_⟩
              rw [he, Nat.add_mul, Nat.add_assoc, Nat.sub_add_eq]
          · have := hbd w'
            simp [execOp, Instr.sliceAt, Instr.slice, run_und hu, hv, this, run_size hie, addr_add]
        · have hh0 : hh = 0 := by omega
          have hl0 : l = 0 := by omega
          subst hh0 hl0
          have hbd := run_bounds (E := E) (isS := true) (n := n) (c := 0) b1 b2 (by omega) (by omega) (by omega)
          refine .plain hH rfl hk (u := .slice aa 0 0) (fun q hq => ?_) (fun w' _ => ?_)
          · simp at hq; subst hq
            simp only [RV]
            exact ⟨tt, htt, by simp; omega, .inr ⟨by simp, by simpa using htb, aa, rfl⟩⟩
          · have := hbd w'
            subst hn
            simp [execOp, Instr.sliceAt, Instr.slice, run_und hu, hv, this, run_size hie]
      · exact h.elim
    case nils =>
      simp only [] at h
      simp only [RV] at hr
      split at h
      · rename_i l hh e hl hhh hu
        obtain ⟨⟨h1, h2⟩, hk⟩ := h
        subst h1 h2
        have b1 := bound_of hT hl
        have b2 := bound_of hT hhh
        have hbd := run_bounds (E := E) (isS := true) (n := 0) (c := 0) b1 b2 (by omega) (by omega) (by omega)
        split at hk
        · rename_i ie hie
          refine .plain hH rfl hk (u := .slice none 0 0) (fun q hq => ?_) (fun w' _ => ?_)
          · simp at hq; subst hq
            simp only [RV]
          · have := hbd w'
            simp [execOp, Instr.sliceAt, Instr.slice, run_und hu, hr, this, run_size hie]
        · exact hk.elim
      · exact h.elim
    all_goals exact h.elim

theorem quiet_sound {o : Oper} (hq : quietOp o.op = true) (h : aop E o st k) : QRes E G ρ w st a o Fs k := by
  obtain ⟨dst, op, ty, pos, af, gd⟩ := o
  cases op with
  | move x => exact q_move dst ty pos af gd hT hH x h
  | assign x => exact q_assign dst ty pos af gd hT hH x h
  | pick c x y => exact q_pick dst ty pos af gd hT hH c x y h
  | binOp op t x y t2 => exact q_bin dst ty pos af gd hT hH op t x y t2 h
  | unOp op t x => exact q_un dst ty pos af gd hT hH op t x h
  | convert s d x => exact q_conv dst ty pos af gd hT hH s d x h
  | nilCheck x => exact q_nil dst ty pos af gd hT hH x h
  | fieldAddr s x f => exact q_fieldAddr dst ty pos af gd hT hH s x f h
  | field s x f => exact q_field dst ty pos af gd hT hH s x f h
  | extract x i => exact q_extract dst ty pos af gd hT hH x i h
  | indexAddr t x i => exact q_indexAddr dst ty pos af gd hT hH t x i h
  | index t x i => exact q_index dst ty pos af gd hT hH t x i h
  | load t x => exact q_load dst ty pos af gd hT hH t x h
  | build t p => exact q_build dst ty pos af gd hT hH t p h
  | slice t x lo hi mx => cases mx with
    | none => exact q_slice dst ty pos af gd hT hH t x lo hi h
    | some _ => simp only [aop] at h
  | makeFunc f p q => exact q_makeFunc dst ty pos af gd hT hH f p q h
  | makeInterface t x => exact q_makeInterface dst ty pos af gd hT hH t x h
  | call c =>
    obtain ⟨cal, xs, ts⟩ := c
    cases cal with
    | builtin b =>
      refine q_builtin dst ty pos af gd hT hH b ?_ xs ts h
      cases b <;> simp [quietOp] at hq ⊢
    | value f => simp [quietOp] at hq
    | invoke r m => simp [quietOp] at hq
  | _ => simp [quietOp] at hq

end

end Go.Ax
