/-
  The executor is right, part thirteen: append, the operation.
-/
import Derived.Test.YtjpeimmjggkkjaaAx14
import Derived.Deep.Upon
set_option linter.all false
namespace Go.Ax
variable {G : Gam} {ρ : List Root} {w : World}

theorem news_len {P : Program} {size : Nat} {tx : TypeId} {v : Value} {n : Nat} {news : List Value} (h : Src P size tx v n news w) : news.length = n * size := h.newsLen

section
variable {E : Env} {st : AS} {a : Act} {Fs : Nat → List Nat} {k : KT} (dst : Option Tmp) (ty : TypeId) (pos : String) (af : Array Edge) (gd : Option (Nat × Bool))
variable (hT : TR G ρ st.tmps a.tmps) (hH : SatHF G ρ w st.heap Fs)
include hT hH

omit hT hH in
theorem spare_zero {ek : EK} {z : List AV} {x0 : ek.T} (hz : ek.dec z = some x0) {zv : Array Value} (hr : RVs G ρ z zv.toList) (hzl : z.length = ek.esz) (m cnt : Nat) {pre : Array Value} (hp : pre.size = m * ek.esz) :
    ∀ i, i < cnt → ∀ (j : Nat) (y : AV), (ek.enc x0)[j]? = some y → ∃ u, (pre ++ Builtin.zeroCells zv cnt)[(m + i) * ek.esz + j]? = some u ∧ RV1 G y u := by
  intro i hi j y hj
  have hfl := List.all_eq_true.1 (enc_flat ek x0) y (List.mem_of_getElem? hj)
  rw [enc_dec ek z x0 hz] at hj
  obtain ⟨v, hv, hrv⟩ := hr.get hj
  have hjl : j < ek.esz := by
    have := (List.getElem?_eq_some_iff.1 hj).1
    omega
  have hzs : zv.size = ek.esz := by
    have := hr.len
    simp at this; omega
  refine ⟨v, ?_, flat_rv1 hfl hrv⟩
  have h1 : (i + 1) * ek.esz ≤ cnt * ek.esz := Nat.mul_le_mul_right _ hi
  rw [Nat.add_mul] at h1
  rw [Array.getElem?_append_right (by rw [hp, Nat.add_mul]; omega), hp, Nat.add_mul]
  rw [show m * ek.esz + i * ek.esz + j - m * ek.esz = i * ek.esz + j by omega]
  unfold Builtin.zeroCells
  rw [hzs]
  have hlt : i * ek.esz + j < cnt * ek.esz := by omega
  have hmod : (i * ek.esz + j) % ek.esz = j := by
    rw [Nat.add_comm, Nat.add_mul_mod_self_right, Nat.mod_eq_of_lt hjl]
  simp [hlt, hmod]
  simp at hv
  rw [getElem!_def, hv]

theorem e_append (xs : Array Operand) (ts : Array TypeId) (h : aop E ⟨dst, .call ⟨.builtin .append, xs, ts⟩, ty, pos, af, gd⟩ st k) : ERes E G ρ w st a ⟨dst, .call ⟨.builtin .append, xs, ts⟩, ty, pos, af, gd⟩ Fs k := by
  intro next Q hn
  simp only [aop] at h
  cases hv : evals st xs.toList with
  | none => simp [hv] at h
  | some vs =>
    simp only [hv] at h
    have hr := evals_rv hT hv
    obtain ⟨s, x, rfl⟩ : ∃ s x, vs = [s, x] := by
      unfold abuiltin at h
      rcases vs with _ | ⟨s, _ | ⟨x, _ | ⟨y, r⟩⟩⟩ <;> first | exact ⟨_, _, rfl⟩ | exact h.elim
    simp only [abuiltin] at h
    · 
      simp only [RVs] at hr
      obtain ⟨sv, ws, hxs, hs, xv, ws2, rfl, hx, rfl⟩ := hr
      have hxs' : xs.map a.eval = #[sv, xv] := by
        apply Array.ext'; simpa using hxs
      split at h
      · rename_i t tx hts
        have hts' : ts = #[t, tx] := by apply Array.ext'; simpa using hts
        split at h
        · rename_i e e' hu hux
          split at h
          · rename_i ek z ie hek hz hie
            obtain ⟨hb, h2⟩ := br_elim h
            simp only [Bool.and_eq_true] at hb
            have he := Nat.eq_of_beq_eq_true hb.1.1.1
            have hzl := Nat.eq_of_beq_eq_true hb.1.1.2
            have hby := Nat.le_of_ble_eq_true hb.1.2
            obtain ⟨x0, hx0⟩ := Option.isSome_iff_exists.1 hb.2
            have hsz : ie.size = ek.esz := by rw [← he]; simp [Program.cellsOf, hie]
            obtain ⟨iz, zv, hiz, hzv, hzr⟩ := zero_rv (G := G) (ρ := ρ) hz
            rw [hie] at hiz; cases hiz
            have hzc := hzr.len
            simp at hzc
            obtain ⟨ys, news, hk, hsrc, hnews⟩ := rowOf_src (P := E.P) hH h2 hx hux
            have hnl := hsrc.newsLen
            -- the run of the builtin
            have hexec : ∀ r, (Builtin.append_ #[t, tx] ty #[sv, xv]).run E.P w = r → (execOp a.eval ⟨dst, .call ⟨.builtin .append, xs, ts⟩, ty, pos, af, gd⟩).run E.P w = r.andThen fun v w' => .ok (.value v) w' := by
              intro r hr
              rw [run_resolve_builtin, hxs', hts', ← hr]
              simp [builtin]
            -- a new row
            have grow : ∀ (base : Option Addr) (n c : Nat) (olds : List Value) (ls : List ek.T), sv = .slice base n c → c < n + ys.length → n + ys.length ≤ 68719476736 → ls.length = n → olds.length = n * ek.esz →
                (Builtin.firstCells ie.size n (.slice base n c)).run E.P w.drew = .ok olds.toArray w.drew →
                (∀ (i : Nat) (y : ek.T), ls[i]? = some y → ∀ (j : Nat) (z : AV), (ek.enc y)[j]? = some z → ∃ u, olds[i * ek.esz + j]? = some u ∧ RV1 G z u) →
                ∀ (H0 : AHeap) (T : List Nat), (∃ F0, SatHF G ρ w H0 F0 ∧ Unt w w st.heap H0 Fs F0 T) → H0.length = st.heap.length → k (some (.sl st.heap.length ek.esz 0 (n + ys.length))) (H0 ++ [some (.row ek (ls ++ ys))]) T →
                Oper.wp E.P ⟨dst, .call ⟨.builtin .append, xs, ts⟩, ty, pos, af, gd⟩ a w next Q := by
              intro base n c olds ls hsv hlt hsm hls hol hfirst holds H0 T hH0 hl0 hk0
              obtain ⟨F0, hH0, hu0⟩ := hH0
              have hsrc' : Src E.P ie.size tx xv ys.length news w := by rw [hsz]; exact hsrc
              have hrun := run_append_grow_src (P := E.P) w t tx ty e ie zv hu hie hzv base n c olds hfirst xv ys.length news hsrc' hlt (by omega)
                (growslice_fits hlt (by
                  have : (n + ys.length) * ie.bytes ≤ 68719476736 * 1024 := Nat.mul_le_mul hsm hby
                  omega))
              rw [← hsv] at hrun
              have hx := hexec _ hrun
              simp only [Result.andThen_ok] at hx
              unfold Oper.wp
              rw [hx, Oper.upon_value]
              have hcap : n + ys.length ≤ grownCap w (n + ys.length) c e := by
                unfold grownCap Question.cut
                exact Nat.le_add_right _ _
              have hpush := row_push (H := H0) (Fs := F0) (w := w.drew) hH0.drew ek (ls ++ ys) (c := (olds ++ news).toArray ++ Builtin.zeroCells zv.cells (grownCap w (n + ys.length) c e - (n + ys.length))) e (grownCap w (n + ys.length) c e) (List.replicate (grownCap w (n + ys.length) c e - (n + ys.length)) x0)
                (by simp [hls]; omega) (by
                  simp [Builtin.zeroCells, hol, hnl, hzc, hzl]
                  have : grownCap w (n + ys.length) c e * ek.esz = (n + ys.length) * ek.esz + (grownCap w (n + ys.length) c e - (n + ys.length)) * ek.esz := by
                    rw [← Nat.add_mul]; congr 1; omega
                  rw [this, Nat.add_mul]; omega) (fun i y hi j q hj => by
                  have hjl : j < ek.esz := by
                    have := (List.getElem?_eq_some_iff.1 hj).1
                    rw [ek.enc_len] at this; exact this
                  by_cases hsp : i < (ls ++ ys).length
                  case neg =>
                    rw [List.getElem?_append_right (by omega), List.getElem?_replicate] at hi
                    have hls2 : (ls ++ ys).length = n + ys.length := by simp [hls]
                    split at hi
                    · rename_i hlt3
                      simp at hi; subst hi
                      obtain ⟨u, hu', hru⟩ := spare_zero (pre := (olds ++ news).toArray) hx0 hzr hzl (n + ys.length) (grownCap w (n + ys.length) c e - (n + ys.length)) (by simp [hol, hnl]; rw [Nat.add_mul]) (i - (n + ys.length)) (by omega) j q hj
                      refine ⟨u, ?_, hru⟩
                      rw [← hu']; congr 2; congr 1; omega
                    · cases hi
                  rw [List.getElem?_append_left hsp] at hi
                  by_cases hin : i < n
                  · rw [List.getElem?_append_left (by omega)] at hi
                    obtain ⟨u, hu', hru⟩ := holds i y hi j q hj
                    refine ⟨u, ?_, hru⟩
                    have hlt2 : i * ek.esz + j < olds.length := (List.getElem?_eq_some_iff.1 hu').1
                    rw [Array.getElem?_append_left (by simp; omega)]
                    simp
                    rw [List.getElem?_append_left hlt2]; exact hu'
                  · rw [List.getElem?_append_right (by omega), hls] at hi
                    obtain ⟨u, hu', hru⟩ := hnews (i - n) y hi j q hj
                    refine ⟨u, ?_, hru⟩
                    have hlt2 : (i - n) * ek.esz + j < news.length := (List.getElem?_eq_some_iff.1 hu').1
                    have hadd : i * ek.esz + j = olds.length + ((i - n) * ek.esz + j) := by
                      rw [hol, ← Nat.add_assoc, ← Nat.add_mul]; congr 2; omega
                    rw [Array.getElem?_append_left (by simp; omega)]
                    simp
                    rw [hadd, List.getElem?_append_right (by omega)]
                    simpa using hu')
              obtain ⟨Fs', g1, g2⟩ := hpush
              have hsd : w.drew.heap.size = w.heap.size := rfl
              refine hn [⟨some w.heap.size, 0, grownCap w (n + ys.length) c e⟩] _ _ T Fs' _ _ hk0 (fun q hq => ?_) (by simpa [hsd] using g1) (fun l ob hl hTl => ?_)
              · simp at hq; subst hq
                have := rv_row (G := G) (ρ := ρ) (H := st.heap) hH.len (b := w.heap.size) (tot := grownCap w (n + ys.length) c e) (esz := ek.esz) (n := n + ys.length) hcap (fun _ => .inr trivial)
                exact this
              · obtain ⟨a1, a2, a3⟩ := hu0 l ob hl hTl
                obtain ⟨b1, b2, b3⟩ := g2 l ob a1 (by simp)
                exact ⟨b1, b2.trans a2, fun b hb => (b3 b (by rw [a2]; exact hb))⟩
            -- nothing is appended to what has no room
            have nothing : ∀ (base : Option Addr) (ls : List ek.T), sv = .slice base 0 0 → ys.length = 0 → ls = [] → ∀ (H0 : AHeap) (T : List Nat), (∃ F0, SatHF G ρ w H0 F0 ∧ Unt w w st.heap H0 Fs F0 T) → H0.length = st.heap.length →
                k (some (.sl st.heap.length ek.esz 0 (0 + ys.length))) (H0 ++ [some (.row ek (ls ++ ys))]) T → Oper.wp E.P ⟨dst, .call ⟨.builtin .append, xs, ts⟩, ty, pos, af, gd⟩ a w next Q := by
              intro base ls hsv hy hls H0 T hH0 hl0 hk0
              obtain ⟨F0, hH0, hu0⟩ := hH0
              have hy0 : ys = [] := List.eq_nil_of_length_eq_zero hy
              subst hls hy0
              have hn0 : news = [] := List.eq_nil_of_length_eq_zero (by simpa using hnl)
              subst hn0
              have hsrc' : Src E.P ie.size tx xv 0 [] w := by rw [hsz]; exact hsrc
              have hrun := run_append_nothing (P := E.P) w t tx ty e ie hu hie base 0 0 (Nat.le_refl _) xv hsrc'
              rw [← hsv] at hrun
              have hx := hexec _ hrun
              simp only [Result.andThen_ok] at hx
              unfold Oper.wp
              rw [hx, Oper.upon_value]
              have g1 := SatH.push hH0 (.row ek []) ⟨none, 0, 0⟩ [] (w' := w) (Nat.le_refl _) (fun _ _ => rfl) .rfl rfl rfl (.rownil rfl rfl) (by simp)
              refine hn [⟨none, 0, 0⟩] _ _ T _ _ _ hk0 (fun q hq => ?_) g1 (fun l ob hl hTl => ?_)
              · simp at hq; subst hq
                rw [hsv]
                simp only [RV]
                exact ⟨⟨none, 0, 0⟩, by simp [hH.len], by simp, .inr ⟨by simp, rfl, base, rfl⟩⟩
              · obtain ⟨a1, a2, a3⟩ := hu0 l ob hl hTl
                have := hH0.lab a1
                refine ⟨getElem?_ext a1, ?_, fun _ _ => rfl⟩
                show (if l = H0.length then [] else F0 l) = Fs l
                rw [if_neg (by omega)]; exact a2
            have hself : ∃ F0, SatHF G ρ w st.heap F0 ∧ Unt w w st.heap st.heap Fs F0 [] := ⟨Fs, hH, fun l o hl _ => ⟨hl, rfl, fun _ _ => rfl⟩⟩
            cases s
            case nils =>
              simp only [] at hk
              obtain ⟨hsm, hk⟩ := hk
              rw [forceL_eq] at hk
              have hsv := hs
              simp only [RV] at hsv
              by_cases hy : ys.length = 0
              · exact nothing none [] hsv hy rfl _ _ hself rfl (by simpa using hk)
              · exact grow none 0 0 [] [] hsv (by omega) (by omega) rfl (by simp) (run_firstCells_none w.drew ie.size 0 0 0) (by simp) _ _ hself rfl (by simpa using hk)
            case sl lab es base n =>
              simp only [] at hk
              split at hk
              · rename_i e2 rs hl
                split at hk
                · rename_i he2
                  subst he2
                  obtain ⟨hes, hle, hsm, hk⟩ := br_elim hk
                  have hes := Nat.eq_of_beq_eq_true hes
                  rw [forceL_eq] at hk
                  have hlt := hH.lab hl
                  have hdrop : ∃ F0, SatHF G ρ w (st.heap.set lab none) F0 ∧ Unt w w st.heap (st.heap.set lab none) Fs F0 [lab] := by
                    refine ⟨Fs, ?_, fun l o hl' hTl => ⟨?_, rfl, fun _ _ => rfl⟩⟩
                    · have := hH.step (e := []) (w' := w) (H' := st.heap.set lab none) (Fs' := Fs) [] (fun _ => False) (by simp) (Nat.le_refl _) (fun b _ _ => rfl) .rfl rfl rfl (by simpa using hH.len)
                        (fun l' o _ hl => by
                          by_cases hne : l' = lab
                          · subst hne
                            rw [List.getElem?_set_self hlt] at hl; simp at hl
                          · rw [List.getElem?_set_ne (Ne.symm hne)] at hl
                            exact ⟨hl, rfl⟩) (fun l o hT => hT.elim) (fun l o l' o' b hT => hT.elim)
                      simpa using this
                    · have hne : l ≠ lab := fun he => hTl (by simp [he])
                      rw [List.getElem?_set_ne (Ne.symm hne)]; exact hl'
                  have hsv := hs
                  simp only [RV] at hsv
                  obtain ⟨tt, htt, htot, hsv⟩ := hsv
                  have hll : ((rs.drop base).take n).length = n := by simp; omega
                  rcases hsv with ⟨b, hbk, hsv⟩ | ⟨hn0, htb, aa, hsv⟩
                  · obtain ⟨t', ht', hsat⟩ := hH.sat _ _ hl
                    rw [htt] at ht'; cases ht'
                    generalize hF : Fs lab = F at hsat
                    cases hsat with
                    | rownil hb' _ => rw [hbk] at hb'; cases hb'
                    | @row _ _ sp _ b' c ty' hb' hw h2 h3 hc =>
                      rw [hbk] at hb'; cases hb'
                      rw [hes] at hsv
                      -- the elements that there are
                      have hold : ∀ (i : Nat) (y : e2.T), ((rs.drop base).take n)[i]? = some y → ∀ (j : Nat) (z : AV), (e2.enc y)[j]? = some z → ∃ u, c[tt.off + base * e2.esz + (i * e2.esz + j)]? = some u ∧ RV1 G z u := fun i y hi j z hj => by
                        have hin : i < n := by
                          have := (List.getElem?_eq_some_iff.1 hi).1
                          omega
                        rw [List.getElem?_take_of_lt hin, List.getElem?_drop] at hi
                        obtain ⟨u, hu', hru⟩ := hc _ y (getElem?_ext hi) j z hj
                        refine ⟨u, ?_, hru⟩
                        rw [← hu']; congr 1
                        rw [Nat.add_mul]; omega
                      have hroom : tt.off + base * e2.esz + (tt.tot - base) * e2.esz ≤ c.size := by
                        have : tt.off + base * e2.esz + (tt.tot - base) * e2.esz = tt.off + tt.tot * e2.esz := by
                          rw [Nat.add_assoc, ← Nat.add_mul]; congr 2; omega
                        omega
                      by_cases hfit : n + ys.length ≤ tt.tot - base
                      · -- in place
                        have hb1 : (n + ys.length) * e2.esz ≤ (tt.tot - base) * e2.esz := Nat.mul_le_mul_right _ hfit
                        rw [Nat.add_mul] at hb1
                        have hsrc' : Src E.P ie.size tx xv ys.length news w := by rw [hsz]; exact hsrc
                        have hin : ∀ m, m < c.size → ∃ u, w.cell? ⟨b, m, none⟩ = some u := fun m hm => ⟨c[m], by simp only [World.cell?, hw, Option.isSome_none, Bool.false_eq_true, if_false]; exact Array.getElem?_eq_getElem hm⟩
                        have hrun := run_append_room_src (P := E.P) w t tx ty e ie hu hie b (tt.off + base * e2.esz) n (tt.tot - base) xv ys.length news hsrc' hfit (fun j hj => by
                            obtain ⟨u, hu'⟩ := hin (tt.off + base * e2.esz + n * ie.size + j) (by rw [hsz]; omega)
                            rw [hu']; rfl) (fun j hj => by simp [World.frozen?, hw])
                        rw [← hsv, hsz] at hrun
                        have hx := hexec _ hrun
                        simp only [Result.andThen_ok] at hx
                        obtain ⟨⟨c', g1, g2⟩, g3, g4, g5, g6, g7⟩ := setCells_heap (b := b) (ty := ty') news (tt.off + base * e2.esz + n * e2.esz) w c hw
                        have hsz' : c'.size = c.size := by
                          have := congrArg List.length g2
                          rw [setCells_length] at this
                          simpa using this
                        have hmove := SatH.move hH hl (.row e2 (((rs.drop base).take n) ++ ys)) ⟨some b, tt.off + base * e2.esz, tt.tot - base⟩ [b] (w' := w.setCells b (tt.off + base * e2.esz + n * e2.esz) news) (by omega)
                          (fun x _ hx => g3 x (fun he => hx (by rw [hF, he]; simp))) g5 g6 g7
                          (.row (sp := (rs ++ sp).drop (base + n + ys.length)) rfl g1 (by simp; omega) (by rw [hsz']; exact hroom) (fun i y hi j z hj => by
                            have hjl : j < e2.esz := by
                              have := (List.getElem?_eq_some_iff.1 hj).1
                              rw [e2.enc_len] at this; exact this
                            show ∃ u, c'[tt.off + base * e2.esz + i * e2.esz + j]? = some u ∧ RV1 G z u
                            have hc2 : ∀ (m : Nat), c'[m]? = (setCells c.toList (tt.off + base * e2.esz + n * e2.esz) news)[m]? := fun m => by rw [← g2, Array.getElem?_toList]
                            have hl2 : ((rs.drop base).take n ++ ys).length = n + ys.length := by rw [List.length_append, hll]
                            by_cases hsp : i < n + ys.length
                            case neg =>
                              rw [List.getElem?_append_right (by omega), List.getElem?_drop, hl2] at hi
                              obtain ⟨u, hu', hru⟩ := hc _ y hi j z hj
                              refine ⟨u, ?_, hru⟩
                              have h5 : (n + ys.length) * e2.esz ≤ i * e2.esz := Nat.mul_le_mul_right _ (by omega)
                              rw [Nat.add_mul] at h5
                              rw [hc2, setCells_get, if_neg (by omega)]
                              rw [Array.getElem?_toList, ← hu']; congr 1
                              rw [show base + n + ys.length + (i - (n + ys.length)) = base + i by omega, Nat.add_mul]; omega
                            rw [List.getElem?_append_left (by omega)] at hi
                            by_cases hi2 : i < n
                            · rw [List.getElem?_append_left (by omega)] at hi
                              obtain ⟨u, hu', hru⟩ := hold i y hi j z hj
                              refine ⟨u, ?_, hru⟩
                              have : (i + 1) * e2.esz ≤ n * e2.esz := Nat.mul_le_mul_right _ hi2
                              rw [Nat.add_mul] at this
                              rw [hc2, setCells_get, if_neg (by omega)]
                              simpa [Nat.add_assoc] using hu'
                            · rw [List.getElem?_append_right (by omega), hll] at hi
                              obtain ⟨u, hu', hru⟩ := hnews (i - n) y hi j z hj
                              refine ⟨u, ?_, hru⟩
                              have hlt2 := (List.getElem?_eq_some_iff.1 hu').1
                              have hadd : i * e2.esz = n * e2.esz + (i - n) * e2.esz := by rw [← Nat.add_mul]; congr 1; omega
                              have hlt3 : (i - n) * e2.esz + j < ys.length * e2.esz := by omega
                              rw [hc2, setCells_get, if_pos ⟨by omega, by omega, by simp; omega⟩]
                              rw [← hu']; congr 1; omega))
                          (fun y hy => by
                            simp at hy; subst hy
                            have : y ∈ Fs lab := by rw [hF]; simp
                            exact ⟨.inl this, by rw [g4]; exact (hH.free _ _ y hl this).2⟩)
                        unfold Oper.wp
                        rw [hx, Oper.upon_value]
                        refine hn [⟨some b, tt.off + base * e2.esz, tt.tot - base⟩] _ _ [lab] _ _ _ hk (fun q hq => ?_) hmove (fun l ob hl' hTl => ?_)
                        · simp at hq; subst hq
                          simp only [RV]
                          exact ⟨⟨some b, tt.off + base * e2.esz, tt.tot - base⟩, by simp [hH.len], by simpa using hfit, .inl ⟨b, rfl, by simp⟩⟩
                        · have hne : l ≠ lab := fun he => hTl (by simp [he])
                          have hll' := hH.lab hl'
                          refine ⟨?_, by simp; omega, fun y hy => g3 y (fun he => ?_)⟩
                          · rw [List.getElem?_append_left (by simpa using hll'), List.getElem?_set_ne (Ne.symm hne)]; exact hl'
                          · subst he
                            exact hne (hH.apart l ob lab _ y hl' hl hy (by rw [hF]; simp))
                      · -- a new row
                        have hcell : ∀ m, m < n * e2.esz → ∃ u, c[tt.off + base * e2.esz + m]? = some u ∧ u.oneCell' = true := by
                          intro m hm
                          have hpos := e2.esz_pos
                          have hi : m / e2.esz < n := (Nat.div_lt_iff_lt_mul hpos).2 hm
                          have hj : m % e2.esz < e2.esz := Nat.mod_lt _ hpos
                          have hi' : m / e2.esz < ((rs.drop base).take n).length := by omega
                          have hlen := e2.enc_len ((rs.drop base).take n)[m / e2.esz]
                          obtain ⟨u, hu', hru⟩ := hold _ _ (List.getElem?_eq_getElem hi') (m % e2.esz) _ (List.getElem?_eq_getElem (by omega))
                          have hdm : m / e2.esz * e2.esz + m % e2.esz = m := by
                            rw [Nat.mul_comm]; exact Nat.div_add_mod m e2.esz
                          rw [hdm] at hu'
                          have hfl := List.all_eq_true.1 (enc_flat e2 ((rs.drop base).take n)[m / e2.esz]) _ (List.getElem_mem (h := (by omega : m % e2.esz < _)))
                          refine ⟨u, hu', one_of (G := G) (ρ := ρ) hru.rv ?_⟩
                          revert hfl
                          generalize (e2.enc ((rs.drop base).take n)[m / e2.esz])[m % e2.esz] = q
                          intro hfl
                          cases q <;> simp [AV.flat] at hfl <;> rfl
                        let f : Nat → Value := fun m => (c[tt.off + base * e2.esz + m]?).getD undef
                        have hfirst : (Builtin.firstCells ie.size n (.slice (some ⟨b, tt.off + base * e2.esz, none⟩) n (tt.tot - base))).run E.P w.drew = .ok ((List.range (n * e2.esz)).map f).toArray w.drew := by
                          refine run_firstCells_some w.drew ie.size n ⟨b, tt.off + base * e2.esz, none⟩ n (tt.tot - base) _ (by simp [hsz]) (fun j u hj => ?_)
                          have hjl : j < n * e2.esz := by
                            have := (List.getElem?_eq_some_iff.1 hj).1
                            simpa using this
                          obtain ⟨u', hu', _⟩ := hcell j hjl
                          simp [hjl, f] at hj
                          rw [addr_add]
                          have : w.drew.cell? ⟨b, tt.off + base * e2.esz + j, none⟩ = w.cell? ⟨b, tt.off + base * e2.esz + j, none⟩ := rfl
                          rw [this]
                          simp only [World.cell?, hw, Option.isSome_none, Bool.false_eq_true, if_false]
                          rw [← hj, hu']; rfl
                        exact grow _ n _ _ ((rs.drop base).take n) hsv (by omega) hsm hll (by simp) hfirst (fun i y hi j z hj => by
                          obtain ⟨u, hu', hru⟩ := hold i y hi j z hj
                          refine ⟨u, ?_, hru⟩
                          have hil : i < n := by
                            have := (List.getElem?_eq_some_iff.1 hi).1
                            omega
                          have hjl : j < e2.esz := by
                            have := (List.getElem?_eq_some_iff.1 hj).1
                            rw [e2.enc_len] at this; exact this
                          have : (i + 1) * e2.esz ≤ n * e2.esz := Nat.mul_le_mul_right _ hil
                          rw [Nat.add_mul] at this
                          have hlt2 : i * e2.esz + j < n * e2.esz := by omega
                          simp [hlt2, f, hu']) _ _ hdrop (by simp) hk
                  · subst hn0
                    by_cases hy : ys.length = 0
                    · exact nothing aa ((rs.drop base).take 0) hsv hy (by simp) _ _ hdrop (by simp) hk
                    · have hfirst : (Builtin.firstCells ie.size 0 (.slice aa 0 0)).run E.P w.drew = .ok ([] : List Value).toArray w.drew := by
                        cases aa with
                        | none => exact run_firstCells_none w.drew ie.size 0 0 0
                        | some ad => exact run_firstCells_some w.drew ie.size 0 ad 0 0 [] (by simp) (by simp)
                      exact grow aa 0 0 [] ((rs.drop base).take 0) hsv (by omega) (by omega) (by simp) (by simp) hfirst (by simp) _ _ hdrop (by simp) hk
                · exact hk.elim
              · exact hk.elim
            all_goals exact hk.elim
          · exact h.elim
        · exact h.elim
      · exact h.elim

end

end Go.Ax
