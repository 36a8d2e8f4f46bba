/-
  The executor is right, part thirteen and a half: more builtins; all that may touch the world.
-/
import Derived.Test.YtjpeimmjggkkjaaAx15m
set_option linter.all false
namespace Go.Ax
variable {G : Gam} {ρ : List Root} {w : World}

section
variable {E : Env} {st : AS} {a : Act} {Fs : Nat → List Nat} {k : KT} (dst : Option Tmp) (ty : TypeId) (pos : String) (af : Array Edge) (gd : Option (Nat × Bool))
variable (hT : TR G ρ st.tmps a.tmps) (hH : SatHF G ρ w st.heap Fs)
include hT hH

theorem Unt.self (H : AHeap) (T : List Nat) (hH : SatHF G ρ w H Fs) : Unt w w H H Fs Fs T := fun l o hl _ => ⟨hl, rfl, fun _ _ => rfl⟩

omit hT hH in
/-- What a copy's or an append's source holds, cell by cell. -/
theorem rowOf_cells {ek : EK} {H : AHeap} {Fs : Nat → List Nat} (hH : SatHF G ρ w H Fs) {x : AV} {K : List ek.T → Prop} (h : rowOf ek H x K) {v : Value} (hv : RV G ρ x v) :
    ∃ ys, K ys ∧ ((ys = [] ∧ ∃ a c, v = .slice a 0 c) ∨ ∃ b o c, v = .slice (some ⟨b, o, none⟩) ys.length c ∧
      ∀ (i : Nat) (y : ek.T), ys[i]? = some y → ∀ (j : Nat) (z : AV), (ek.enc y)[j]? = some z → ∃ u, w.cell? ⟨b, o + (i * ek.esz + j), none⟩ = some u ∧ RV1 G z u) := by
  unfold rowOf at h
  cases x
  case nils =>
    simp only [RV] at hv; subst hv
    exact ⟨[], h, .inl ⟨rfl, _, _, rfl⟩⟩
  case imm e2 ys =>
    simp only [] at h
    split at h
    · rename_i he
      subst he
      simp only [RV] at hv
      obtain ⟨ad, c, rfl, _, hc⟩ := hv
      by_cases hn : ys.length = 0
      · have : ys = [] := List.eq_nil_of_length_eq_zero hn
        subst this
        exact ⟨[], h, .inl ⟨rfl, _, _, rfl⟩⟩
      · obtain ⟨b, o, rfl, hcc⟩ := hc (by omega)
        refine ⟨ys, h, .inr ⟨b, o, c, rfl, fun i y hi j z hj => ?_⟩⟩
        obtain ⟨u, hu, hr⟩ := hcc i y hi j z hj
        exact ⟨u, by rw [← Nat.add_assoc]; exact imm_cell hH.wok hu, hr⟩
    · exact h.elim
  case sl lab es base n =>
    simp only [] at h
    split at h
    · rename_i e2 ys hl
      split at h
      · rename_i he
        subst he
        obtain ⟨hes, hle, h⟩ := br_elim h
        have hes := Nat.eq_of_beq_eq_true hes
        simp only [RV] at hv
        obtain ⟨t, ht, htot, hv⟩ := hv
        rcases hv with ⟨b, hb, rfl⟩ | ⟨hn0, htb, aa, rfl⟩
        · obtain ⟨t', ht', hs⟩ := hH.sat _ _ hl
          rw [ht] at ht'; cases ht'
          generalize hF : Fs lab = F at hs
          have hlen : ((ys.drop base).take n).length = n := by simp; omega
          cases hs with
          | rownil hb' _ => rw [hb] at hb'; cases hb'
          | @row _ _ sp _ b' c ty hb' hw h2 h3 hc =>
            rw [hb] at hb'; cases hb'
            refine ⟨(ys.drop base).take n, h, .inr ⟨b, t.off + base * es, t.tot - base, by rw [hlen], fun i y hi j z hj => ?_⟩⟩
            have hin : i < n := by
              have := (List.getElem?_eq_some_iff.1 hi).1
              omega
            rw [List.getElem?_take_of_lt hin, List.getElem?_drop] at hi
            obtain ⟨u, hu, hr⟩ := hc _ y (getElem?_ext hi) j z hj
            refine ⟨u, ?_, hr⟩
            simp only [World.cell?, hw, Option.isSome_none, Bool.false_eq_true, if_false]
            rw [← hu]; congr 1
            rw [hes, Nat.add_mul]; omega
        · subst hn0
          have : (ys.drop base).take 0 = [] := by simp
          rw [this] at h
          exact ⟨[], h, .inl ⟨rfl, _, _, rfl⟩⟩
      · exact h.elim
    · exact h.elim
  all_goals exact h.elim

omit hT hH in
/-- Whole elements are laid over a row's. -/
theorem row_over {P : Program} {ek : EK} {H : AHeap} {Fs : Nat → List Nat} (hH : SatHF G ρ w H Fs) {lab : Nat} {xs zs : List ek.T} (hl : H[lab]? = some (some (.row ek xs))) {t : Root} (ht : ρ[lab]? = some t) {b : Nat} (hb : t.blk = some b)
    (p : Nat) (hp : p + zs.length ≤ xs.length) (news : List Value) (hn : news.length = zs.length * ek.esz) (h1 : ∀ v ∈ news, v.oneCell' = true)
    (hz : ∀ (i : Nat) (y : ek.T), zs[i]? = some y → ∀ (j : Nat) (z : AV), (ek.enc y)[j]? = some z → ∃ u, news[i * ek.esz + j]? = some u ∧ RV1 G z u) :
    ∃ w', (storeCells ⟨b, t.off + p * ek.esz, none⟩ news).run P w = .ok () w' ∧ SatHF G ρ w' (H.set lab (some (.row ek (xs.take p ++ (zs ++ xs.drop (p + zs.length)))))) Fs ∧
      Unt w w' H (H.set lab (some (.row ek (xs.take p ++ (zs ++ xs.drop (p + zs.length)))))) Fs Fs [lab] := by
  obtain ⟨t', ht', hs⟩ := hH.sat _ _ hl
  rw [ht] at ht'; cases ht'
  generalize hF : Fs lab = F at hs
  cases hs with
  | rownil hb' _ => rw [hb] at hb'; cases hb'
  | @row _ _ sp _ b' c ty hb' hw h2 h3 hc =>
    rw [hb] at hb'; cases hb'
    have hm1 : (p + zs.length) * ek.esz ≤ t.tot * ek.esz := Nat.mul_le_mul_right _ (by omega)
    rw [Nat.add_mul] at hm1
    obtain ⟨⟨c', g1, g2⟩, g3, g4, g5, g6, g7⟩ := setCells_heap (b := b) (ty := ty) news (t.off + p * ek.esz) w c hw
    have hrun := run_storeCells_cells (P := P) b (t.off + p * ek.esz) news 0 w (fun j hj => by
        have : t.off + p * ek.esz + 0 + j < c.size := by omega
        simp only [World.cell?, hw, Option.isSome_none, Bool.false_eq_true, if_false]
        rw [Array.getElem?_eq_getElem this]; rfl) (fun j hj => by simp [World.frozen?, hw]) h1
    simp only [Nat.add_zero] at hrun
    have hsz : c'.size = c.size := by
      have := congrArg List.length g2
      rw [setCells_length] at this
      simpa using this
    have hlen : (xs.take p ++ (zs ++ xs.drop (p + zs.length))).length = xs.length := by simp; omega
    have hset := SatH.set hH hl (.row ek (xs.take p ++ (zs ++ xs.drop (p + zs.length)))) [b] (w' := w.setCells b (t.off + p * ek.esz) news) (by omega) (fun x _ hx => g3 x (fun he => hx (by rw [hF, he]; simp))) g5 g6 g7
      (fun r' hr' => by
        rw [ht] at hr'; cases hr'
        refine .row (sp := sp) hb g1 (by omega) (by omega) fun i y hi j z hj => ?_
        have hjl : j < ek.esz := by
          have := (List.getElem?_eq_some_iff.1 hj).1
          rw [ek.enc_len] at this; exact this
        have hc2 : c'[t.off + i * ek.esz + j]? = (setCells c.toList (t.off + p * ek.esz) news)[t.off + i * ek.esz + j]? := by rw [← g2, Array.getElem?_toList]
        rw [hc2, setCells_get]
        by_cases hin : p ≤ i ∧ i < p + zs.length
        · have hmin : (xs.take p).length = p := by simp; omega
          rw [List.getElem?_append_left (by omega), List.getElem?_append_right (by omega), List.getElem?_append_left (by omega)] at hi
          obtain ⟨u, hu, hr⟩ := hz _ y hi j z hj
          rw [hmin] at hu
          have hlt := (List.getElem?_eq_some_iff.1 hu).1
          have hadd : i * ek.esz = p * ek.esz + (i - p) * ek.esz := by rw [← Nat.add_mul]; congr 1; omega
          refine ⟨u, ?_, hr⟩
          rw [if_pos ⟨by omega, by omega, by simp; omega⟩, ← hu]
          congr 1; omega
        · have hmin : (xs.take p).length = p := by simp; omega
          have hold : (xs ++ sp)[i]? = some y := by
            rw [← hi]
            by_cases h7 : i < xs.length
            · have e1 : (xs ++ sp)[i]? = xs[i]? := List.getElem?_append_left h7
              have e2 : ((xs.take p ++ (zs ++ xs.drop (p + zs.length))) ++ sp)[i]? = (xs.take p ++ (zs ++ xs.drop (p + zs.length)))[i]? := List.getElem?_append_left (by omega)
              rw [e1, e2]
              by_cases h6 : i < p
              · rw [List.getElem?_append_left (by rw [hmin]; exact h6), List.getElem?_take_of_lt h6]
              · rw [List.getElem?_append_right (by rw [hmin]; omega), List.getElem?_append_right (by rw [hmin]; omega), List.getElem?_drop, hmin]
                congr 1; omega
            · have e1 : (xs ++ sp)[i]? = sp[i - xs.length]? := List.getElem?_append_right (by omega)
              have e2 : ((xs.take p ++ (zs ++ xs.drop (p + zs.length))) ++ sp)[i]? = sp[i - (xs.take p ++ (zs ++ xs.drop (p + zs.length))).length]? := List.getElem?_append_right (by omega)
              rw [e1, e2, hlen]
          obtain ⟨u, hu, hr⟩ := hc i y hold j z hj
          refine ⟨u, ?_, hr⟩
          rw [if_neg ?_]
          · simpa using hu
          · rintro ⟨a1, a2, a3⟩
            by_cases h6 : i < p
            · have : (i + 1) * ek.esz ≤ p * ek.esz := Nat.mul_le_mul_right _ h6
              rw [Nat.add_mul] at this
              omega
            · have : (p + zs.length) * ek.esz ≤ i * ek.esz := Nat.mul_le_mul_right _ (by omega)
              rw [Nat.add_mul] at this
              omega)
      (fun y hy => by
        simp at hy; subst hy
        have : y ∈ Fs lab := by rw [hF]; simp
        exact ⟨.inl this, by rw [g4]; exact (hH.free _ _ y hl this).2⟩)
    have hFs : (fun x => if x = lab then [b] else Fs x) = Fs := by
      funext x
      by_cases hx : x = lab
      · subst hx; simp [hF]
      · simp [hx]
    rw [hFs] at hset
    refine ⟨_, hrun, hset, fun l o' hl' hT => ⟨?_, rfl, fun y hy => g3 y (fun he => ?_)⟩⟩
    · have hne : l ≠ lab := fun he => hT (by simp [he])
      rw [List.getElem?_set_ne (Ne.symm hne)]; exact hl'
    · subst he
      have := hH.apart l o' lab _ y hl' hl hy (by rw [hF]; simp)
      exact hT (by simp [this])

omit hT hH in
theorem run_copy {P : Program} {t e : TypeId} {ts : Array TypeId} (ty : TypeId) {ie : TypeInfo} (ht : ts[0]? = some t) (hu : P.underlying t = some (.slice e)) (hie : P.info? e = some ie) (base : Option Addr) (n cc : Nat) (a : Option Addr) (l c m : Nat) (hm : m = min l n)
    (news : List Value) (hf : (Builtin.firstCells ie.size m (.slice a l c)).run P w = .ok news.toArray w) {w' : World} (hst : ∀ ad, base = some ad → (storeCells ad news).run P w = .ok () w') (hno : base = none → w' = w) :
    (Builtin.copy_ ts ty #[.slice base n cc, .slice a l c]).run P w = .ok (.int .i64 (m : Int)) w' := by
  have hm' : Nat.min l n = m := hm.symm
  cases base with
  | none =>
    have := hno rfl
    subst this
    simp [Builtin.copy_, ht, run_und hu, Builtin.lenOf, sizeOf, typeInfo, hie, hm', hf, goInt]
  | some ad => simp [Builtin.copy_, ht, run_und hu, Builtin.lenOf, sizeOf, typeInfo, hie, hm', hf, goInt, hst ad rfl]

theorem e_copy (xs : Array Operand) (ts : Array TypeId) (h : aop E ⟨dst, .call ⟨.builtin .copy, xs, ts⟩, ty, pos, af, gd⟩ st k) : ERes E G ρ w st a ⟨dst, .call ⟨.builtin .copy, xs, ts⟩, ty, pos, af, gd⟩ Fs k := by
  intro next Q hn
  simp only [aop] at h
  cases hv : evals st xs.toList with
  | none => simp [hv] at h
  | some vs =>
    simp only [hv] at h
    have hr := evals_rv hT hv
    obtain ⟨d, x, rfl⟩ : ∃ d x, vs = [d, x] := by
      unfold abuiltin at h
      rcases vs with _ | ⟨s, _ | ⟨x, _ | ⟨y, r⟩⟩⟩ <;> first | exact ⟨_, _, rfl⟩ | exact h.elim
    simp only [abuiltin] at h
    simp only [RVs] at hr
    obtain ⟨dv, ws, hxs, hd, xv, ws2, rfl, hx, rfl⟩ := hr
    have hxs' : xs.map a.eval = #[dv, xv] := by
      apply Array.ext'; simpa using hxs
    split at h
    · rename_i t tx hts
      have hts0 : ts[0]? = some t := by rw [← Array.getElem?_toList, hts]; rfl
      split at h
      · rename_i e hu
        split at h
        · rename_i ek ie hek hie
          obtain ⟨hb, h2⟩ := br_elim h
          have he := Nat.eq_of_beq_eq_true hb
          have hsz : ie.size = ek.esz := by rw [← he]; simp [Program.cellsOf, hie]
          obtain ⟨ys, hk, hsrc⟩ := rowOf_cells (G := G) (ρ := ρ) hH h2 hx
          have hexec : ∀ v w', (Builtin.copy_ ts ty #[dv, xv]).run E.P w = .ok v w' → (execOp a.eval ⟨dst, .call ⟨.builtin .copy, xs, ts⟩, ty, pos, af, gd⟩).run E.P w = .ok (.value v) w' := by
            intro v w' hr
            rw [run_resolve_builtin, hxs']
            simp [builtin, hr]
          -- the first cells of the source
          have hfirst : ∀ m, m ≤ ys.length → ∃ (aa : Option Addr) (c : Nat) (news : List Value), xv = .slice aa ys.length c ∧ (Builtin.firstCells ie.size m xv).run E.P w = .ok news.toArray w ∧ news.length = m * ek.esz ∧ (∀ v ∈ news, v.oneCell' = true) ∧
              ∀ (i : Nat) (y : ek.T), (ys.take m)[i]? = some y → ∀ (j : Nat) (z : AV), (ek.enc y)[j]? = some z → ∃ u, news[i * ek.esz + j]? = some u ∧ RV1 G z u := by
            intro m hm
            rcases hsrc with ⟨rfl, aa, c, rfl⟩ | ⟨b, o, c, rfl, hc⟩
            · have hm0 : m = 0 := by simpa using hm
              subst hm0
              refine ⟨aa, c, [], rfl, ?_, by simp, by simp, by simp⟩
              cases aa with
              | none => exact run_firstCells_none w ie.size 0 0 c
              | some ad => exact run_firstCells_some w ie.size 0 ad 0 c [] (by simp) (by simp)
            · have hin : ∀ q, q < m * ek.esz → ∃ u z, w.cell? ⟨b, o + q, none⟩ = some u ∧ RV1 G z u ∧ z.flat = true := by
                intro q hq
                have hpos := ek.esz_pos
                have hi : q / ek.esz < m := (Nat.div_lt_iff_lt_mul hpos).2 hq
                have hj : q % ek.esz < ek.esz := Nat.mod_lt _ hpos
                have hlen := ek.enc_len (ys[q / ek.esz]'(by omega))
                obtain ⟨u, hu, hr⟩ := hc (q / ek.esz) _ (List.getElem?_eq_getElem (by omega)) (q % ek.esz) _ (List.getElem?_eq_getElem (by omega))
                have hdm : q / ek.esz * ek.esz + q % ek.esz = q := by
                  rw [Nat.mul_comm]; exact Nat.div_add_mod q ek.esz
                rw [hdm] at hu
                exact ⟨u, _, hu, hr, List.all_eq_true.1 (enc_flat ek _) _ (List.getElem_mem _)⟩
              let f : Nat → Value := fun q => (w.cell? ⟨b, o + q, none⟩).getD undef
              refine ⟨_, c, (List.range (m * ek.esz)).map f, rfl, ?_, by simp, fun u hu => ?_, fun i y hi j z hj => ?_⟩
              · refine run_firstCells_some w ie.size m ⟨b, o, none⟩ ys.length c _ (by simp [hsz]) (fun j u hj => ?_)
                have hjl : j < m * ek.esz := by
                  have := (List.getElem?_eq_some_iff.1 hj).1
                  simpa using this
                obtain ⟨u', z, hu', _⟩ := hin j hjl
                simp [hjl, f] at hj
                rw [addr_add, ← hj, hu']
                rfl
              · obtain ⟨q, hq, rfl⟩ := List.mem_map.1 hu
                obtain ⟨u', z, hu', hr, hfl⟩ := hin q (by simpa using hq)
                simp only [f, hu']
                refine one_of (G := G) (ρ := ρ) hr.rv ?_
                cases z <;> simp [AV.flat] at hfl <;> rfl
              · have him : i < m := by
                  have := (List.getElem?_eq_some_iff.1 hi).1
                  simp at this; omega
                rw [List.getElem?_take_of_lt him] at hi
                obtain ⟨u, hu, hr⟩ := hc i y hi j z hj
                have hjl : j < ek.esz := by
                  have := (List.getElem?_eq_some_iff.1 hj).1
                  rw [ek.enc_len] at this; exact this
                have hlt : i * ek.esz + j < m * ek.esz := by
                  have : (i + 1) * ek.esz ≤ m * ek.esz := Nat.mul_le_mul_right _ him
                  rw [Nat.add_mul] at this; omega
                exact ⟨u, by simp [hlt, f, hu], hr⟩
          split at hk
          · rename_i lab esz base n
            split at hk
            · rename_i e2 rs hl
              split at hk
              · rename_i he2
                subst he2
                replace hk := br_elim hk
                obtain ⟨hes, hle, hk⟩ := hk
                have hes := Nat.eq_of_beq_eq_true hes
                subst hes
                replace hk := hk _ rfl
                rw [forceL_eq] at hk
                obtain ⟨aa, c, news, rfl, hf, hnl, hone, hnews⟩ := hfirst (min ys.length n) (Nat.min_le_left _ _)
                simp only [RV] at hd
                obtain ⟨tt, htt, htot, hd⟩ := hd
                rcases hd with ⟨b, hbk, rfl⟩ | ⟨hn0, htb, ad, rfl⟩
                · have htl : (ys.take (min ys.length n)).length = min ys.length n := by simp
                  obtain ⟨w', hst, hsat, hun⟩ := row_over (P := E.P) (zs := ys.take (min ys.length n)) hH hl htt hbk base (by rw [htl]; omega) news (by rw [htl]; exact hnl) hone hnews
                  rw [htl] at hsat hun
                  have hrun := hexec _ _ (run_copy (P := E.P) (w := w) ty hts0 hu hie _ n _ aa ys.length c _ rfl news hf (w' := w') (fun ad had => by cases had; exact hst) (fun h => by cases h))
                  unfold Oper.wp
                  rw [hrun, Oper.upon_value]
                  exact hn [] _ _ _ Fs _ w' hk (fun q hq => by simp at hq; subst hq; exact rvI) (by simpa using hsat) hun
                · subst hn0
                  have hm0 : min ys.length 0 = 0 := by omega
                  rw [hm0] at hk hf hnl
                  have hnn : news = [] := List.eq_nil_of_length_eq_zero (by simpa using hnl)
                  subst hnn
                  have hself : rs.take base ++ (ys.take 0 ++ rs.drop (base + 0)) = rs := by simp
                  simp only [] at hk
                  rw [hself] at hk
                  have hrun := hexec _ _ (run_copy (P := E.P) (w := w) ty hts0 hu hie ad 0 0 aa ys.length c 0 (by omega) [] hf (w' := w) (fun ad had => by simp [storeCells]) (fun _ => rfl))
                  have hset : st.heap.set lab (some (.row e2 rs)) = st.heap := by
                    apply List.ext_getElem?
                    intro q
                    by_cases hq : lab = q
                    · subst hq
                      rw [List.getElem?_set_self (hH.lab hl), hl]
                    · rw [List.getElem?_set_ne hq]
                  rw [hset] at hk
                  unfold Oper.wp
                  rw [hrun, Oper.upon_value]
                  exact hn [] _ _ _ Fs _ w hk (fun q hq => by simp at hq; subst hq; exact rvI) (by simpa using hH) (fun l ob hl' _ => ⟨hl', rfl, fun _ _ => rfl⟩)
              · exact hk.elim
            · exact hk.elim
          · obtain ⟨aa, c, news, rfl, hf, hnl, hone, hnews⟩ := hfirst 0 (Nat.zero_le _)
            simp only [RV] at hd
            subst hd
            have hrun := hexec _ _ (run_copy (P := E.P) (w := w) ty hts0 hu hie none 0 0 aa ys.length c 0 (by omega) news hf (w' := w) (fun ad had => by cases had) (fun _ => rfl))
            unfold Oper.wp
            rw [hrun, Oper.upon_value]
            exact hn [] _ _ _ Fs _ w hk (fun q hq => by simp at hq; subst hq; exact rvI) (by simpa using hH) (fun l ob hl' _ => ⟨hl', rfl, fun _ _ => rfl⟩)
          · exact hk.elim
        · exact h.elim
      · exact h.elim
    · exact h.elim

theorem e_clear (xs : Array Operand) (ts : Array TypeId) (h : aop E ⟨dst, .call ⟨.builtin .clear, xs, ts⟩, ty, pos, af, gd⟩ st k) : ERes E G ρ w st a ⟨dst, .call ⟨.builtin .clear, xs, ts⟩, ty, pos, af, gd⟩ Fs k := by
  intro next Q hn
  simp only [aop] at h
  cases hv : evals st xs.toList with
  | none => simp [hv] at h
  | some vs =>
    simp only [hv] at h
    have hr := evals_rv hT hv
    obtain ⟨x, rfl⟩ : ∃ x, vs = [x] := by
      unfold abuiltin at h
      rcases vs with _ | ⟨s, _ | ⟨x, r⟩⟩ <;> first | exact ⟨_, rfl⟩ | exact h.elim
    simp only [abuiltin] at h
    simp only [RVs] at hr
    obtain ⟨xv, ws, hxs, hx, rfl⟩ := hr
    have hxs' : xs.map a.eval = #[xv] := by
      apply Array.ext'; simpa using hxs
    split at h
    · rename_i t ht
      split at h
      · rename_i e hu
        split at h
        · rename_i ek z hek hz
          split at h
          · rename_i x0 hx0
            replace h := br_elim h
            obtain ⟨hzl, h⟩ := h
            have hzl := Nat.eq_of_beq_eq_true hzl
            obtain ⟨iz, zv, hiz, hzv, hzr⟩ := zero_rv (G := G) (ρ := ρ) hz
            have hzs : zv.cells.size = ek.esz := by
              have := hzr.len
              simp at this; omega
            have hrv0 : RV G ρ (.tup []) (.tuple #[]) := by simp only [RV]; exact ⟨#[], rfl, by simp [RVs]⟩
            split at h
            · rename_i lab esz base n
              split at h
              · rename_i e2 rs hl
                split at h
                · rename_i he2
                  subst he2
                  replace h := br_elim h
                  obtain ⟨hes, hle, h⟩ := h
                  have hes := Nat.eq_of_beq_eq_true hes
                  subst hes
                  rw [forceL_eq] at h
                  simp only [RV] at hx
                  obtain ⟨tt, htt, htot, hx⟩ := hx
                  have hnl : (Builtin.zeroCells zv.cells n).toList.length = n * e2.esz := by simp [Builtin.zeroCells, hzs]
                  have hsp := fun i hi j y hj => spare_zero (G := G) (ρ := ρ) hx0 hzr hzl 0 n (pre := #[]) (by simp) i hi j y hj
                  have hnews : ∀ (i : Nat) (y : e2.T), (List.replicate n x0)[i]? = some y → ∀ (j : Nat) (z : AV), (e2.enc y)[j]? = some z → ∃ u, (Builtin.zeroCells zv.cells n).toList[i * e2.esz + j]? = some u ∧ RV1 G z u := by
                    intro i y hi j z hj
                    rw [List.getElem?_replicate] at hi
                    split at hi
                    · rename_i hlt
                      simp at hi; subst hi
                      obtain ⟨u, hu, hr⟩ := hsp i hlt j z hj
                      exact ⟨u, by simpa using hu, hr⟩
                    · cases hi
                  have hone : ∀ v ∈ (Builtin.zeroCells zv.cells n).toList, v.oneCell' = true := by
                    intro v hv
                    obtain ⟨q, hq, rfl⟩ := List.getElem_of_mem hv
                    rw [hnl] at hq
                    have hpos := e2.esz_pos
                    have hi : q / e2.esz < n := (Nat.div_lt_iff_lt_mul hpos).2 hq
                    have hj : q % e2.esz < e2.esz := Nat.mod_lt _ hpos
                    have hlen := e2.enc_len x0
                    obtain ⟨u, hu, hr⟩ := hnews (q / e2.esz) x0 (by simp [hi]) (q % e2.esz) _ (List.getElem?_eq_getElem (by omega))
                    have hdm : q / e2.esz * e2.esz + q % e2.esz = q := by
                      rw [Nat.mul_comm]; exact Nat.div_add_mod q e2.esz
                    rw [hdm] at hu
                    rw [List.getElem?_eq_getElem (by rw [hnl]; exact hq)] at hu
                    simp at hu
                    have hfl := List.all_eq_true.1 (enc_flat e2 x0) _ (List.getElem_mem (h := (by omega : q % e2.esz < (e2.enc x0).length)))
                    have : u.oneCell' = true := by
                      refine one_of (G := G) (ρ := ρ) hr.rv ?_
                      revert hfl
                      generalize (e2.enc x0)[q % e2.esz] = q'
                      intro hfl
                      cases q' <;> simp [AV.flat] at hfl <;> rfl
                    simpa [hu] using this
                  rcases hx with ⟨b, hbk, rfl⟩ | ⟨hn0, htb, ad, rfl⟩
                  · obtain ⟨w', hst, hsat, hun⟩ := row_over (P := E.P) (zs := List.replicate n x0) hH hl htt hbk base (by simp; omega) _ (by rw [hnl]; simp) hone hnews
                    simp only [List.length_replicate] at hsat hun
                    have hrun : (execOp a.eval ⟨dst, .call ⟨.builtin .clear, xs, ts⟩, ty, pos, af, gd⟩).run E.P w = .ok (.value (.tuple #[])) w' := by
                      rw [run_resolve_builtin, hxs']
                      by_cases hn0 : n = 0
                      · subst hn0
                        have : w' = w := by
                          have hnil : (Builtin.zeroCells zv.cells 0).toList = [] := by simp [Builtin.zeroCells]
                          rw [hnil] at hst
                          simpa [storeCells] using hst.symm
                        subst this
                        simp [builtin, Builtin.clear_, ht, run_und hu]
                      · simp [builtin, Builtin.clear_, ht, run_und hu, hn0, zeroValue, typeInfo, hiz, hzv, hst]
                    unfold Oper.wp
                    rw [hrun, Oper.upon_value]
                    exact hn [] _ _ _ Fs _ w' h (fun q hq => by simp at hq; subst hq; simp only [RV]; exact ⟨#[], rfl, by simp [RVs]⟩) (by simpa using hsat) hun
                  · subst hn0
                    have hself : rs.take base ++ (List.replicate 0 x0 ++ rs.drop (base + 0)) = rs := by simp
                    simp only [] at h
                    rw [hself] at h
                    have hset : st.heap.set lab (some (.row e2 rs)) = st.heap := by
                      apply List.ext_getElem?
                      intro q
                      by_cases hq : lab = q
                      · subst hq
                        rw [List.getElem?_set_self (hH.lab hl), hl]
                      · rw [List.getElem?_set_ne hq]
                    rw [hset] at h
                    have hrun : (execOp a.eval ⟨dst, .call ⟨.builtin .clear, xs, ts⟩, ty, pos, af, gd⟩).run E.P w = .ok (.value (.tuple #[])) w := by
                      rw [run_resolve_builtin, hxs']
                      cases ad <;> simp [builtin, Builtin.clear_, ht, run_und hu]
                    unfold Oper.wp
                    rw [hrun, Oper.upon_value]
                    exact hn [] _ _ _ Fs _ w h (fun q hq => by simp at hq; subst hq; simp only [RV]; exact ⟨#[], rfl, by simp [RVs]⟩) (by simpa using hH) (fun l ob hl' _ => ⟨hl', rfl, fun _ _ => rfl⟩)
                · exact h.elim
              · exact h.elim
            · simp only [RV] at hx
              subst hx
              have hrun : (execOp a.eval ⟨dst, .call ⟨.builtin .clear, xs, ts⟩, ty, pos, af, gd⟩).run E.P w = .ok (.value (.tuple #[])) w := by
                rw [run_resolve_builtin, hxs']
                simp [builtin, Builtin.clear_, ht, run_und hu]
              unfold Oper.wp
              rw [hrun, Oper.upon_value]
              exact hn [] _ _ _ Fs _ w h (fun q hq => by simp at hq; subst hq; simp only [RV]; exact ⟨#[], rfl, by simp [RVs]⟩) (by simpa using hH) (fun l ob hl' _ => ⟨hl', rfl, fun _ _ => rfl⟩)
            · exact h.elim
          · exact h.elim
        · exact h.elim
      · exact h.elim
    · exact h.elim

theorem e_cap (xs : Array Operand) (ts : Array TypeId) (h : aop E ⟨dst, .call ⟨.builtin .cap, xs, ts⟩, ty, pos, af, gd⟩ st k) : ERes E G ρ w st a ⟨dst, .call ⟨.builtin .cap, xs, ts⟩, ty, pos, af, gd⟩ Fs k := by
  intro next Q hn
  simp only [aop] at h
  cases hv : evals st xs.toList with
  | none => simp [hv] at h
  | some vs =>
    simp only [hv] at h
    have hr := evals_rv hT hv
    unfold abuiltin at h
    split at h
    · rename_i hb; cases hb
    · rename_i x hb
      simp only [RVs] at hr
      obtain ⟨v, ws, hxs, hx, rfl⟩ := hr
      have hxs' : xs.map a.eval = #[v] := by
        apply Array.ext'; simpa using hxs
      split at h
      · rename_i t ht
        split at h
        · rename_i e lab es base n hu
          split at h
          · rename_i ek rs hl
            simp only [RV] at hx
            obtain ⟨tt, htt, hle, hx⟩ := hx
            obtain ⟨t', ht', hsat⟩ := hH.sat _ _ hl
            rw [htt] at ht'; cases ht'
            have key : ∃ sp : List ek.T, rs.length + sp.length = tt.tot ∧ Sat G ρ w (.row ek (rs ++ sp)) tt (Fs lab) := by
              generalize Fs lab = F at hsat
              cases hsat with
              | @row _ _ sp _ b c ty hb hw h2 h3 hc => exact ⟨sp, h2, .row (sp := []) hb hw (by simp; omega) h3 (by simpa using hc)⟩
              | rownil hb ht => exact ⟨[], by simp [ht], .rownil hb ht⟩
            obtain ⟨sp, hsp, hsat'⟩ := key
            have hk := h sp
            rw [forceL_eq] at hk
            have hc : ∃ aa m, v = .slice aa m (rs.length + sp.length - base) := by
              rcases hx with ⟨b, _, rfl⟩ | ⟨rfl, h2, aa, rfl⟩
              · exact ⟨_, _, by rw [hsp]⟩
              · refine ⟨aa, 0, ?_⟩
                rw [hsp, h2, Nat.sub_self]
            obtain ⟨aa, m, rfl⟩ := hc
            have hrun : (execOp a.eval ⟨dst, .call ⟨.builtin .cap, xs, ts⟩, ty, pos, af, gd⟩).run E.P w = .ok (.value (.int .i64 ((rs.length + sp.length - base : Nat) : Int))) w := by
              rw [run_resolve_builtin]; simp [builtin, hxs', Builtin.cap_, ht, run_und hu, goInt]
            have hlt := hH.lab hl
            have hset := SatH.set hH hl (.row ek (rs ++ sp)) (Fs lab) (w' := w) (Nat.le_refl _) (fun _ _ _ => rfl) .rfl rfl rfl (fun r' hr' => by rw [htt] at hr'; cases hr'; exact hsat') (fun b hb => ⟨.inl hb, (hH.free _ _ b hl hb).2⟩)
            have hFs : (fun x => if x = lab then Fs lab else Fs x) = Fs := by
              funext x
              by_cases hx : x = lab
              · subst hx; simp
              · simp [hx]
            rw [hFs] at hset
            unfold Oper.wp
            rw [hrun, Oper.upon_value]
            refine hn [] _ _ _ Fs _ w hk (fun q hq => by simp at hq; subst hq; exact rvI) (by simpa using hset) (fun l ob hl' hTl => ⟨?_, rfl, fun _ _ => rfl⟩)
            have hne : l ≠ lab := fun he => hTl (by simp [he])
            rw [List.getElem?_set_ne (Ne.symm hne)]; exact hl'
          · exact h.elim
        · rename_i e hu
          simp only [RV] at hx; subst hx
          have hrun : (execOp a.eval ⟨dst, .call ⟨.builtin .cap, xs, ts⟩, ty, pos, af, gd⟩).run E.P w = .ok (.value (.int .i64 0)) w := by
            rw [run_resolve_builtin]; simp [builtin, hxs', Builtin.cap_, ht, run_und hu, goInt]
          unfold Oper.wp
          rw [hrun, Oper.upon_value]
          exact hn [] _ _ _ Fs _ w h (fun q hq => by simp at hq; subst hq; exact rvI) (by simpa using hH) (fun l ob hl' _ => ⟨hl', rfl, fun _ _ => rfl⟩)
        · exact h.elim
      · exact h.elim
    all_goals first | (rename_i hb; cases hb; done) | (rename_i hb _; cases hb; done) | (rename_i hb _ _; cases hb; done) | exact h.elim

end

/-- An operation that may touch the world. -/
theorem eff_sound {E : Env} (hE : E.OK) {st : AS} {a : Act} {Fs : Nat → List Nat} {k : KT} {o : Oper} (hT : TR G ρ st.tmps a.tmps) (hH : SatHF G ρ w st.heap Fs) (hq : quietOp o.op = false) (h : aop E o st k) :
    ERes E G ρ w st a o Fs k := by
  intro next Q hn'
  obtain ⟨dst, op, ty, pos, af, gd⟩ := o
  cases op with
  | alloc e => exact e_alloc dst ty pos af gd hT hH e h next Q hn'
  | box e x => exact e_box dst ty pos af gd hT hH e x h next Q hn'
  | store t x y => exact e_store dst ty pos af gd hT hH t x y h next Q hn'
  | buildSlice t n p => exact e_buildSlice dst ty pos af gd hT hH t n p h next Q hn'
  | makeMap t x => exact e_makeMap dst ty pos af gd hT hH t x h next Q hn'
  | lookup t m x c => exact e_lookup dst ty pos af gd hT hH t m x c h next Q hn'
  | mapUpdate t m x y => exact e_mapUpdate dst ty pos af gd hT hH t m x y h next Q hn'
  | call c =>
    obtain ⟨cal, xs, ts⟩ := c
    cases cal with
    | value f => exact e_call dst ty pos af gd hT hH hE f xs ts h next Q hn'
    | builtin b =>
      by_cases hb : b = .append
      · subst hb
        exact e_append dst ty pos af gd hT hH xs ts h next Q hn'
      · by_cases hb2 : b = .cap
        · subst hb2
          exact e_cap dst ty pos af gd hT hH xs ts h next Q hn'
        by_cases hb3 : b = .copy
        · subst hb3
          exact e_copy dst ty pos af gd hT hH xs ts h next Q hn'
        by_cases hb4 : b = .clear
        · subst hb4
          exact e_clear dst ty pos af gd hT hH xs ts h next Q hn'
        exfalso
        simp only [aop] at h
        cases hv : evals st xs.toList with
        | none => simp [hv] at h
        | some vs =>
          simp only [hv] at h
          cases b <;> simp [quietOp] at hq hb hb2 hb3 hb4 <;> simp [abuiltin] at h
    | invoke r m => simp [aop] at h
  | _ => simp [quietOp] at hq <;> simp [aop] at h


end Go.Ax
