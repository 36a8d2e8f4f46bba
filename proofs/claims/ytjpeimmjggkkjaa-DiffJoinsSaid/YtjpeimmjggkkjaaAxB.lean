/-
  The library's sort of numbers, as the kit shows it, as a contract of this make.
-/
import Derived.Test.YtjpeimmjggkkjaaAxP2
import Derived.Sort.Grow
set_option linter.all false
namespace Go.Ax
open Go.RowKit Go.Sort Go.Ax.Sp
variable {G : Gam} {ρ : List Root} {w : World}

theorem mapBlock_get {blk : Nat} {f : Array Value → Array Value} {c : Array Value} {ty : TypeId} {fr : Nat × Nat} (h : w.heap[blk]? = some (.cells c ty fr)) : (mapBlock w blk f).heap[blk]? = some (.cells (f c) ty fr) := by
  simp [mapBlock, Array.getElem?_modify, h, onCells]
theorem mapBlock_ne {blk b : Nat} {f : Array Value → Array Value} (h : b ≠ blk) : (mapBlock w blk f).heap[b]? = w.heap[b]? := by
  simp [mapBlock, Array.getElem?_modify, Ne.symm h]

theorem takeV_row {k : EK} {a : AV} {H : AHeap} {K : List k.T → AHeap → Option Nat → Prop} (h : takeV (.row k) a H K) :
    (∃ (lab n : Nat) (xs : List k.T), a = .sl lab k.esz 0 n ∧ H[lab]? = some (some (.row k xs)) ∧ n = xs.length ∧ K xs (H.set lab none) (some lab)) ∨ (a = .nils ∧ K [] H none) := by
  cases a with
  | sl lab esz base n =>
    left
    have h : (match H[lab]? with
      | some (some (.row k' xs)) => br (Nat.beq esz k.esz && Nat.beq base 0) (if h : k' = k then n = xs.length ∧ forceL (H.set lab none) fun H => K (castR h xs) H (some lab) else False) False
      | _ => False) := h
    cases hl : H[lab]? with
    | none => rw [hl] at h; exact h.elim
    | some o =>
      rw [hl] at h
      cases o with
      | none => exact h.elim
      | some o =>
        cases o with
        | row k' xs =>
          have h : br (Nat.beq esz k.esz && Nat.beq base 0) (if h : k' = k then n = xs.length ∧ forceL (H.set lab none) fun H => K (castR h xs) H (some lab) else False) False := h
          obtain ⟨hb, h2⟩ := br_elim h
          clear h
          simp only [Bool.and_eq_true] at hb
          have he := Nat.eq_of_beq_eq_true hb.1
          have h0 := Nat.eq_of_beq_eq_true hb.2
          subst he h0
          by_cases hk : k' = k
          · subst hk
            rw [dif_pos rfl, forceL_eq] at h2
            exact ⟨lab, n, xs, rfl, hl, h2.1, h2.2⟩
          · rw [dif_neg hk] at h2; exact h2.elim
        | _ => exact h.elim
  | nils => exact .inr ⟨rfl, h⟩
  | _ => exact (h : False).elim

theorem sortI_spec {P : Program} {f : FuncId}
    (h1 : ∀ (blk off cap : Nat) (zs : List Int) (w : World), Holds (Value.int .i64) w blk off zs.toArray → blk < w.heap.size → zs.length < 4611686018427387904 →
      Calls P f #[.slice (some ⟨blk, off, none⟩) zs.length cap] w fun e w' => e = .returned (.tuple #[]) ∧ ∃ n os, w' = grow (putRow (Value.int .i64) (Sort.ahead w n) blk off (zs.mergeSort fun x y => decide (x ≤ y)).toArray) os)
    (h0 : ∀ (p : Option Addr) (cap : Nat) (w : World), Calls P f #[.slice p 0 cap] w fun e w' => e = .returned (.tuple #[]) ∧ w' = w) : SpecOK P f (sSortI.spec oSortI) := by
  intro args H K hk G w ρ Fs vs hH hr
  have hk : takeVs [VK.row .i64] args H fun x H1 ls => oSortI x fun y _ => forceL (putKept [(VK.row .i64, true)] y ls H1 ++ []) fun H2 => forceL (gone H H1 0) fun T => K (.tup []) H2 T := hk
  match args, hr, hk with
  | [], _, hk => exact (hk : False).elim
  | _ :: _ :: _, _, hk =>
    have hk : takeV (.row .i64) _ H fun _ _ _ => False := hk
    rcases takeV_row hk with ⟨_, _, _, _, _, _, hk⟩ | ⟨_, hk⟩ <;> exact hk.elim
  | [a], hr, hk =>
    simp only [RVs] at hr
    obtain ⟨v, us, rfl, hv, rfl⟩ := hr
    have hk0 : takeV (.row .i64) a H fun d H1 l => oSortI (d, ()) fun y _ => forceL (putKept [(VK.row .i64, true)] y [l] H1 ++ []) fun H2 => forceL (gone H H1 0) fun T => K (.tup []) H2 T := hk
    have hk3 := takeV_row hk0
    clear hk hk0
    rcases hk3 with ⟨lab, n, xs, rfl, hl, rfl, hk⟩ | ⟨rfl, hk⟩
    · obtain ⟨hlen, hk⟩ := hk
      simp only [] at hlen
      simp only [forceL_eq, putKept, putOne, VK.objs, List.append_nil, List.set_set] at hk
      have hlt := hH.lab hl
      have hT : lab ∈ gone H (H.set lab none) 0 := by
        apply Classical.byContradiction
        intro hn
        obtain ⟨q, hq⟩ := gone_spec (H' := H.set lab none) (n := 0) hl (by simp) (by simpa using hn)
        rw [List.getElem?_set_self hlt] at hq
        cases hq
      obtain ⟨t, ht, hsat⟩ := hH.sat _ _ hl
      simp only [RV] at hv
      obtain ⟨t', ht', htot, hv⟩ := hv
      rw [ht] at ht'; cases ht'
      have fin : ∀ (w' : World) (Fs' : Nat → List Nat), SatHF G ρ w' (H.set lab (some (.row .i64 (Law.sortI xs)))) Fs' → (∀ (l : Nat) (o : AObj), H[l]? = some (some o) → l ≠ lab → Fs' l = Fs l ∧ ∀ b ∈ Fs l, w'.heap[b]? = w.heap[b]?) →
          ∃ v av H' T e' Fs', Ending.returned (.tuple #[]) = .returned v ∧ K av H' T ∧ RV G (ρ ++ e') av v ∧ SatHF G (ρ ++ e') w' H' Fs' ∧ Unt w w' H H' Fs Fs' T := by
        intro w' Fs' hs hu
        refine ⟨_, _, _, _, [], Fs', rfl, hk, ?_, by simpa using hs, fun l o hl' hT' => ?_⟩
        · simp [retAV, avs, RV, RVs]
        · have hne : l ≠ lab := fun h => hT' (h ▸ hT)
          obtain ⟨u1, u2⟩ := hu l o hl' hne
          exact ⟨by rw [List.getElem?_set_ne (Ne.symm hne)]; exact hl', u1, u2⟩
      generalize hF : Fs lab = F at hsat
      rcases hv with ⟨b, hbk, rfl⟩ | ⟨hn0, htb, aa, rfl⟩
      · cases hsat with
        | rownil hb' _ => rw [hbk] at hb'; cases hb'
        | @row _ _ sp _ b' c ty hb' hw h2 h3 hc =>
          rw [hbk] at hb'; cases hb'
          have hbl : b < w.heap.size := (Array.getElem?_eq_some_iff.1 hw).1
          simp only [EK.esz, Nat.mul_one, Nat.zero_mul, Nat.add_zero] at h3 hc ⊢
          have hcell : ∀ (i : Nat) (x : Int), (xs ++ sp)[i]? = some x → c[t.off + i]? = some (.int .i64 x) := by
            intro i x hi
            obtain ⟨u, hu, hru⟩ := hc i x hi 0 (.int .i64 x) rfl
            simp only [RV1, RV0] at hru
            rw [hru] at hu; simpa using hu
          have hhold : Holds (Value.int .i64) w b t.off xs.toArray := by
            intro j hj
            have hj' : j < xs.length := by simpa using hj
            refine ⟨?_, by simp [World.frozen?, hw]⟩
            have := hcell j xs[j] (by rw [List.getElem?_append_left hj', List.getElem?_eq_getElem hj'])
            simp [World.cell?, hw, this, getElem!_pos, hj']
          have hcall := h1 b t.off (t.tot - 0) xs w hhold hbl (by omega)
          refine hcall.mono fun e w' he => ?_
          obtain ⟨rfl, n, os, rfl⟩ := he
          have hsl : (Law.sortI xs).length = xs.length := List.length_mergeSort _
          refine fin _ (fun x => if x = lab then [b] else Fs x) (SatH.set hH hl (.row .i64 (Law.sortI xs)) [b] (by simp) (fun q hq hqF => ?_) ⟨rfl, by simp [grow, putRow, mapBlock, Sort.ahead]⟩ rfl rfl (fun r hr => ?_) (fun q hq => ?_)) (fun l o hl' hne => ⟨by simp [hne], fun q hq => ?_⟩)
          · have hne : q ≠ b := fun h => hqF (by rw [hF, h]; simp)
            rw [heap_grow_old _ _ (by simpa using hq)]
            exact mapBlock_ne (w := Sort.ahead w n) hne
          · rw [ht] at hr; cases hr
            refine .row (sp := sp) (c := putCells (Value.int .i64) t.off (Law.sortI xs).toArray c) (ty := ty) hbk ?_ (by rw [hsl]; exact h2) (by simpa [putCells, EK.esz] using h3) (fun i x hi j y hj => ?_)
            · rw [heap_grow_old _ _ (by simpa using hbl)]
              exact mapBlock_get (w := Sort.ahead w n) hw
            · have hj0 : j = 0 := by
                have := (List.getElem?_eq_some_iff.1 hj).1
                simp [EK.enc] at this; omega
              subst hj0
              simp [EK.enc] at hj
              subst hj
              refine ⟨.int .i64 x, ?_, by simp [RV1, RV0]⟩
              simp only [EK.esz, Nat.mul_one, Nat.add_zero, putCells, Array.getElem?_mapIdx]
              by_cases hix : i < xs.length
              · rw [List.getElem?_append_left (by omega)] at hi
                have hci : t.off + i < c.size := by omega
                rw [Array.getElem?_eq_getElem hci, Option.map_some, if_pos ⟨by omega, by simp [hsl]; omega⟩]
                have : t.off + i - t.off = i := by omega
                rw [this]
                have hi' := (List.getElem?_eq_some_iff.1 hi)
                obtain ⟨hi1, hi2⟩ := hi'
                simp [getElem!_pos, hi1, hi2]
              · rw [List.getElem?_append_right (by omega), hsl] at hi
                have hi' : (xs ++ sp)[i]? = some x := by rw [List.getElem?_append_right (by omega)]; exact hi
                rw [hcell i x hi', Option.map_some, if_neg (by simp [hsl]; omega)]
          · simp at hq; subst hq
            exact ⟨.inl (by rw [hF]; simp), by simp; omega⟩
          · have hq' := (hH.free l o q hl' hq).2
            have hne2 : q ≠ b := fun h => hne (hH.apart l o lab _ q hl' hl hq (by rw [hF, h]; simp))
            rw [heap_grow_old _ _ (by simpa using hq')]
            exact mapBlock_ne (w := Sort.ahead w n) hne2
      · have hx : xs = [] := List.eq_nil_of_length_eq_zero hn0
        subst hx
        refine (h0 aa 0 w).mono fun e w' he => ?_
        obtain ⟨rfl, rfl⟩ := he
        have hs0 : Law.sortI [] = [] := by simp [Law.sortI]
        refine fin _ Fs ?_ (fun l o _ _ => ⟨rfl, fun _ _ => rfl⟩)
        rw [hs0]
        have : H.set lab (some (.row .i64 [])) = H := by
          apply List.ext_getElem?
          intro q
          by_cases hq : lab = q
          · subst hq; rw [List.getElem?_set_self hlt, hl]
          · rw [List.getElem?_set_ne hq]
        rw [this]; exact hH
    · simp only [RV] at hv
      subst hv
      obtain ⟨_, hk⟩ := hk
      simp only [forceL_eq, putKept, putOne, VK.objs, List.append_nil] at hk
      refine (h0 none 0 w).mono fun e w' he => ?_
      obtain ⟨rfl, rfl⟩ := he
      have hs0 : Law.sortI [] = [] := by simp [Law.sortI]
      refine ⟨_, _, _, _, [], Fs, rfl, hk, ?_, by simpa using hH, fun l o hl' _ => ⟨hl', rfl, fun _ _ => rfl⟩⟩
      simp [RV, RVs]
end Go.Ax
