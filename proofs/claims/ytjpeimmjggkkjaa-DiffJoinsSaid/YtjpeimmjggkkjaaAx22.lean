/-
  What is taken out of a heap holds under other roots, and under another protection.
-/
import Derived.Test.YtjpeimmjggkkjaaAx21
set_option linter.all false
namespace Go.Ax
variable {G G' : Gam} {ρ ρ' : List Root} {w w' : World}

def CellMap (G G' : Gam) : Prop := ∀ b o v, G.cell b o v → G'.cell b o v

theorem RV0.any {y : AV} {u : Value} (h : RV0 y u) : RV0 y u := h

theorem immOK.cells (hm : CellMap G G') {R : AV → Value → Prop} {k : EK} {xs : List k.T} {v : Value} (h : immOK G R k xs v) : immOK G' R k xs v := by
  obtain ⟨a, cap, h1, h2, h4⟩ := h
  refine ⟨a, cap, h1, h2, fun hn => ?_⟩
  obtain ⟨b, o, h5, h6⟩ := h4 hn
  exact ⟨b, o, h5, fun i x hi j y hj => let ⟨u, g, r⟩ := h6 i x hi j y hj; ⟨u, hm _ _ _ g, r⟩⟩

theorem RV1.change {y : AV} {u : Value} (hm : y.clean = false → CellMap G G') (h : RV1 G y u) : RV1 G' y u := by
  cases y <;> simp only [RV1] at h ⊢ <;> first | exact h | exact h.cells (hm rfl)

theorem RVs.enc_change {k : EK} (hm : k.clean = false → CellMap G G') {d : k.T} {vs : List Value} (h : RVs G ρ (k.enc d) vs) : RVs G' ρ' (k.enc d) vs := by
  refine RVs.of_get h.len fun j x hj => ?_
  obtain ⟨v, hv, hr⟩ := h.get hj
  have hm1 := List.mem_of_getElem? hj
  have hf := List.all_eq_true.1 (enc_flat k d) x hm1
  refine ⟨v, hv, ((flat_rv1 hf hr).change fun hc => hm ?_).rv⟩
  cases hk : k.clean with
  | false => rfl
  | true =>
    have := List.all_eq_true.1 (EK.clean_enc hk d) x hm1
    rw [this] at hc; cases hc

/-- An entry's value under another protection. -/
theorem ValR.change {k : EK} {x : k.T} {v : Value} (hm : k.clean = false → CellMap G G') (h : ValR G k x v) : ValR G' k x v := by
  obtain ⟨ρ, h⟩ := h
  refine ⟨ρ, ?_⟩
  cases hp : k.prim with
  | true => cases k <;> simp [EK.prim] at hp <;> (simp only [EK.val, RV] at h ⊢; exact h)
  | false =>
    have e : k.val x = .agg (k.enc x) := by cases k <;> simp [EK.prim] at hp <;> rfl
    rw [e] at h ⊢
    simp only [RV] at h ⊢
    obtain ⟨vs, h1, h2⟩ := h
    exact ⟨vs, h1, RVs.enc_change hm h2⟩
theorem MapR.change {k : EK} (hm : k.clean = false → CellMap G G') : ∀ {m : List (Int × k.T)} {es : List MapEntry}, MapR G k m es → MapR G' k m es
  | [], _, h => h
  | _ :: _, _, ⟨e, r, h1, h2, h3, h4⟩ => ⟨e, r, h1, h2, h3.change hm, MapR.change hm h4⟩

theorem Sat.change {o : AObj} {r : Root} {F : List Nat} (h : Sat G ρ w o r F) (hm : o.clean = false → CellMap G G') (hraw : ∀ cs, o ≠ .raw cs) (hw : ∀ b, b ∈ F → w'.heap[b]? = w.heap[b]?) : Sat G' ρ' w' o r F := by
  revert hm hraw hw
  refine Sat.rec (motive_1 := fun o r F _ => (o.clean = false → CellMap G G') → (∀ cs, o ≠ .raw cs) → (∀ b, b ∈ F → w'.heap[b]? = w.heap[b]?) → Sat G' ρ' w' o r F)
    (motive_2 := fun fs c o F _ => (fs.all Fld.clean = true) → (∀ b, b ∈ F → w'.heap[b]? = w.heap[b]?) → SatF G' ρ' w' fs c o F) ?_ ?_ ?_ ?_ ?_ ?_ ?_ ?_ ?_ h
  · intro cs r b c ty hb h1 h2 hm hraw hw
    exact absurd rfl (hraw cs)
  · intro k xs sp r b c ty hb h1 h2 h3 h5 hm hraw hw
    refine .row hb ((hw _ (by simp)).trans h1) h2 h3 fun i x hi j y hj => ?_
    obtain ⟨u, hu, hr⟩ := h5 i x hi j y hj
    refine ⟨u, hu, hr.change fun hc => hm ?_⟩
    cases hk : k.clean with
    | false => exact hk
    | true =>
      have := List.all_eq_true.1 (EK.clean_enc hk x) y (List.mem_of_getElem? hj)
      rw [this] at hc; cases hc
  · intro k r hb ht hm hraw hw; exact .rownil hb ht
  · intro k d r b c ty F hb h1 h2 hn ih hm hraw hw
    exact .obj hb ((hw _ (by simp)).trans h1) (ih (OK.clean_unf k d) fun b hb => hw b (by simp [hb])) hn
  · intro k m r b es ck hb h1 h2 hm hraw hw
    exact .map hb ((hw _ (by simp)).trans h1) (h2.change hm)
  · intro c o hc hw; exact .nil
  · intro x fs c o u F hu hr h ih hc hw
    simp only [List.all_cons, Bool.and_eq_true] at hc
    refine .av hu ?_ (ih hc.2 hw)
    rcases hr with hr | hr
    · exact .inl (hr.change fun h => by simp [Fld.clean] at hc; rw [hc.1] at h; cases h)
    · exact .inr hr
  · intro k d fs c o b' o' F1 F2 hu h1 h hd ih1 ih2 hc hw
    simp only [List.all_cons, Bool.and_eq_true] at hc
    exact .own hu (ih1 (fun h => by cases h) (fun cs h => by cases h) fun b hb => hw b (by simp [hb])) (ih2 hc.2 fun b hb => hw b (by simp [hb])) hd
  · intro k xs fs c o v r F1 F2 hu hv h1 h hd ih1 ih2 hc hw
    simp only [List.all_cons, Bool.and_eq_true] at hc
    refine .ownr hu hv (ih1 (fun h => ?_) (fun cs h => by cases h) fun b hb => hw b (by simp [hb])) (ih2 hc.2 fun b hb => hw b (by simp [hb])) hd
    have h2 : k.clean = true := hc.1
    have h3 : k.clean = false := h
    rw [h2] at h3; cases h3

/-! ### Slots -/
abbrev Slot := Root × List Nat
def blk (ss : List Slot) : List Nat := ss.flatMap (·.2)

theorem mem_blk {ss : List Slot} {b : Nat} : b ∈ blk ss ↔ ∃ s ∈ ss, b ∈ s.2 := by simp [blk]

structure SlotsOK (G : Gam) (ρ : List Root) (w : World) (os : List AObj) (ss : List Slot) : Prop where
  len : ss.length = os.length
  sat : ∀ (i : Nat) (o : AObj) (s : Slot), os[i]? = some o → ss[i]? = some s → Sat G ρ w o s.1 s.2 ∧ ∀ cs, o ≠ .raw cs
  apart : ∀ (i j : Nat) (s t : Slot) (b : Nat), ss[i]? = some s → ss[j]? = some t → b ∈ s.2 → b ∈ t.2 → i = j

theorem SlotsOK.nil : SlotsOK G ρ w [] [] := ⟨rfl, fun i o s h => by simp at h, fun i j s t b h => by simp at h⟩
theorem SlotsOK.one {o : AObj} {s : Slot} (h : Sat G ρ w o s.1 s.2) (hr : ∀ cs, o ≠ .raw cs) : SlotsOK G ρ w [o] [s] := by
  refine ⟨rfl, fun i p t h1 h2 => ?_, fun i j s t b h1 h2 _ _ => ?_⟩
  · cases i <;> simp at h1 h2
    subst h1; subst h2; exact ⟨h, hr⟩
  · cases i <;> cases j <;> simp at h1 h2 <;> rfl
theorem SlotsOK.append {o1 o2 : List AObj} {s1 s2 : List Slot} (h1 : SlotsOK G ρ w o1 s1) (h2 : SlotsOK G ρ w o2 s2) (hd : ∀ b, b ∈ blk s1 → b ∉ blk s2) : SlotsOK G ρ w (o1 ++ o2) (s1 ++ s2) := by
  refine ⟨by simp [h1.len, h2.len], fun i o s ho hs => ?_, fun i j s t b hs ht hb hb' => ?_⟩
  · by_cases hi : i < o1.length
    · rw [List.getElem?_append_left hi] at ho
      rw [List.getElem?_append_left (by rw [h1.len]; exact hi)] at hs
      exact h1.sat i o s ho hs
    · rw [List.getElem?_append_right (by omega)] at ho
      rw [List.getElem?_append_right (by rw [h1.len]; omega), h1.len] at hs
      exact h2.sat _ o s ho hs
  · by_cases hi : i < s1.length <;> by_cases hj : j < s1.length
    · rw [List.getElem?_append_left hi] at hs
      rw [List.getElem?_append_left hj] at ht
      exact h1.apart i j s t b hs ht hb hb'
    · rw [List.getElem?_append_left hi] at hs
      rw [List.getElem?_append_right (by omega)] at ht
      exact absurd (mem_blk.2 ⟨t, List.mem_of_getElem? ht, hb'⟩) (hd b (mem_blk.2 ⟨s, List.mem_of_getElem? hs, hb⟩))
    · rw [List.getElem?_append_right (by omega)] at hs
      rw [List.getElem?_append_left hj] at ht
      exact absurd (mem_blk.2 ⟨s, List.mem_of_getElem? hs, hb⟩) (hd b (mem_blk.2 ⟨t, List.mem_of_getElem? ht, hb'⟩))
    · rw [List.getElem?_append_right (by omega)] at hs ht
      have := h2.apart _ _ s t b hs ht hb hb'
      omega

/-- A value's kind holds elsewhere: under roots where its objects are, and where the cells that never change are known. -/
def Elsewhere (G : Gam) (w : World) (k : VK) (d : k.T) (u : Value) (ss : List Slot) (Rb : List Nat) : Prop :=
  ∀ (G' : Gam) (ρ' : List Root) (n : Nat), (k.clean = false → CellMap G G') → (∀ b ∈ Rb, ∀ o v, w.cell? ⟨b, o, none⟩ = some v → G'.cell b o v) →
    (∀ (i : Nat) (s : Slot), ss[i]? = some s → ρ'[n + i]? = some s.1) → RV G' ρ' (k.av d n) u

/-- Where a label was left behind. -/
def LabOK (ρ : List Root) (H H' : AHeap) (l : Option Nat) (ss : List Slot) : Prop :=
  ∀ lab, l = some lab → ∃ s, ss = [s] ∧ ρ[lab]? = some s.1 ∧ H'[lab]? = some none ∧ ∃ o, H[lab]? = some (some o)

/-- What is shown of a value that is taken. -/
def TV (G : Gam) (ρ : List Root) (w : World) (k : VK) (u : Value) (H : AHeap) (Fs : Nat → List Nat) (K : k.T → AHeap → Option Nat → Prop) : Prop :=
  ∃ d H' l ss Rb, K d H' l ∧ Took H H' Fs (blk ss) ∧ SlotsOK G ρ w (k.objs d) ss ∧ LabOK ρ H H' l ss ∧ (k.isImm = true → H' = H ∧ ss = []) ∧ (k.isImm = false → Rb = []) ∧
    (∀ b ∈ Rb, ∃ l o, H'[l]? = some (some o) ∧ b ∈ Fs l) ∧ Elsewhere G w k d u ss Rb

theorem TV.plain {k : VK} {u : Value} {H : AHeap} {Fs : Nat → List Nat} {K : k.T → AHeap → Option Nat → Prop} (d : k.T) (h : K d H none) (ho : k.objs d = [])
    (he : ∀ (G' : Gam) (ρ' : List Root) (n : Nat), (k.clean = false → CellMap G G') → RV G' ρ' (k.av d n) u) : TV G ρ w k u H Fs K :=
  ⟨d, H, none, [], [], h, .refl _ _, by rw [ho]; exact .nil, (fun _ h => by cases h), fun _ => ⟨rfl, rfl⟩, fun _ => rfl, (fun _ h => by cases h), fun G' ρ' n hm _ _ => he G' ρ' n hm⟩

theorem immRow {k : EK} {xs : List k.T} {H : AHeap} {Fs : Nat → List Nat} (hs : SatHF G ρ w H Fs) {lab base n : Nat} (hl : H[lab]? = some (some (.row k xs))) {u : Value} (hr : RV G ρ (.sl lab k.esz base n) u) (hle : base + n ≤ xs.length)
    {G' : Gam} {ρ' : List Root} (hm : CellMap G G') (hR : ∀ b ∈ Fs lab, ∀ o v, w.cell? ⟨b, o, none⟩ = some v → G'.cell b o v) : RV G' ρ' (.imm k ((xs.drop base).take n)) u := by
  obtain ⟨t, ht, hsat⟩ := hs.sat _ _ hl
  simp only [RV] at hr ⊢
  obtain ⟨t', h1, h2, h3⟩ := hr
  rw [ht] at h1; cases h1
  have hlen : ((xs.drop base).take n).length = n := by simp; omega
  rcases h3 with ⟨b, hb, rfl⟩ | ⟨rfl, h4, a, rfl⟩
  · refine ⟨_, _, by rw [hlen], by rw [hlen]; omega, fun hn => ?_⟩
    rw [hlen] at hn
    refine ⟨b, _, rfl, ?_⟩
    generalize hF : Fs lab = F at hsat hR
    cases hsat with
    | @row _ _ _ _ b' c ty hb' hw ht' hc hx =>
      rw [hb] at hb'; cases hb'
      intro i x hi j y hj
      have hin : i < n := by
        have := (List.getElem?_eq_some_iff.1 hi).1
        simp at this; omega
      rw [List.getElem?_take_of_lt hin, List.getElem?_drop] at hi
      obtain ⟨v, hv, hrv⟩ := hx _ x (getElem?_ext hi) j y hj
      refine ⟨v, hR b (by simp) _ _ ?_, hrv.change fun _ => hm⟩
      simp only [World.cell?, hw]
      rw [show t.off + base * k.esz + i * k.esz + j = t.off + (base + i) * k.esz + j by rw [Nat.add_mul]; omega, hv]
      rfl
    | rownil hb' ht' => rw [hb] at hb'; cases hb'
  · refine ⟨a, 0, by simp, by simp, fun hn => by simp at hn⟩

theorem takeV_sound (k : VK) {x : AV} {u : Value} {H : AHeap} {Fs : Nat → List Nat} {K : k.T → AHeap → Option Nat → Prop} (hs : SatHF G ρ w H Fs) (hr : RV G ρ x u) (h : takeV k x H K) : TV G ρ w k u H Fs K := by
  cases k with
  | int k =>
    simp only [takeV] at h
    split at h
    · rename_i k' n
      obtain ⟨hk, h⟩ := br_elim h
      have := kindEq_eq hk
      subst this
      have := rv_int hr
      subst this
      exact .plain n h rfl fun G' ρ' n _ => rvI
    · exact h.elim
  | bool =>
    simp only [takeV] at h
    split at h
    · have := rv_bool hr
      subst this
      exact .plain (k := .bool) _ h rfl fun G' ρ' n _ => rvB
    · exact h.elim
  | str =>
    simp only [takeV] at h
    split at h
    · have := rv_str hr
      subst this
      exact .plain (k := .str) _ h rfl fun G' ρ' n _ => rvS
    · exact h.elim
  | elem k =>
    simp only [takeV] at h
    split at h
    · rename_i cs
      split at h
      · rename_i d hd
        have he := enc_dec k cs d hd
        subst he
        refine .plain (k := .elem k) d h rfl fun G' ρ' n hm => ?_
        simp only [RV] at hr
        simp only [VK.av, RV]
        obtain ⟨vs, h1, h2⟩ := hr
        exact ⟨vs, h1, h2.enc_change hm⟩
      · exact h.elim
    · exact h.elim
  | obj k =>
    simp only [takeV] at h
    split at h
    · rename_i r
      obtain ⟨hb, h⟩ := br_elim h
      obtain ⟨d, H', F, t, h1, h2, h3, h4, h5, h6⟩ := takeO_lab 9 k r.lab H Fs _ hs h
      obtain ⟨b, hbk, rfl⟩ := ptr0 hr hb h2
      refine ⟨d, H', _, [(t, F)], [], h1, by simpa [blk] using h4, .one h3 (fun cs h => by cases h), ?_, (fun h => by cases h), fun _ => rfl, (fun _ h => by cases h), fun G' ρ' n _ _ hro => ?_⟩
      · intro lab hl
        cases hl
        exact ⟨_, rfl, h2, h5, h6⟩
      · have := hro 0 (t, F) rfl
        simp only [VK.av, RV]
        exact ⟨t, b, by simpa using this, hbk, by simp⟩
    · exact h.elim
  | opt k =>
    simp only [takeV] at h
    split at h
    · rename_i r
      obtain ⟨hb, h⟩ := br_elim h
      obtain ⟨d, H', F, t, h1, h2, h3, h4, h5, h6⟩ := takeO_lab 9 k r.lab H Fs _ hs h
      obtain ⟨b, hbk, rfl⟩ := ptr0 hr hb h2
      refine ⟨some d, H', _, [(t, F)], [], h1, by simpa [blk] using h4, .one h3 (fun cs h => by cases h), ?_, (fun h => by cases h), fun _ => rfl, (fun _ h => by cases h), fun G' ρ' n _ _ hro => ?_⟩
      · intro lab hl
        cases hl
        exact ⟨_, rfl, h2, h5, h6⟩
      · have := hro 0 (t, F) rfl
        simp only [VK.av, RV]
        exact ⟨t, b, by simpa using this, hbk, by simp⟩
    · refine .plain (k := .opt k) none h rfl fun G' ρ' n _ => ?_
      simp only [RV] at hr
      simp only [VK.av, RV]
      exact hr
    · exact h.elim
  | row k =>
    simp only [takeV] at h
    split at h
    · rename_i lab esz base n
      split at h
      · rename_i k' xs hl
        replace h := br_elim h
        obtain ⟨hb, h⟩ := h
        split at h
        · rename_i hk
          subst hk
          obtain ⟨rfl, h⟩ := h
          rw [forceL_eq] at h
          simp only [Bool.and_eq_true] at hb
          have he := Nat.eq_of_beq_eq_true hb.1
          have hb0 := Nat.eq_of_beq_eq_true hb.2
          subst he; subst hb0
          obtain ⟨t, ht, hsat⟩ := hs.sat _ _ hl
          have h4 := Took.one (Fs := Fs) hl
          refine ⟨xs, _, _, [(t, Fs lab)], [], h, by simpa [blk] using h4, .one hsat (fun cs h => by cases h), ?_, (fun h => by cases h), fun _ => rfl, (fun _ h => by cases h), fun G' ρ' n _ _ hro => ?_⟩
          · intro l2 hl2
            cases hl2
            exact ⟨_, rfl, ht, by rw [List.getElem?_set_self (List.getElem?_eq_some_iff.1 hl).1], _, hl⟩
          · have := hro 0 (t, Fs lab) rfl
            simp only [VK.av, RV] at hr ⊢
            obtain ⟨t', h1, h2⟩ := hr
            rw [ht] at h1; cases h1
            exact ⟨t, by simpa using this, h2⟩
        · exact h.elim
      · exact h.elim
    · simp only [RV] at hr
      subst hr
      refine ⟨[], H, none, [(⟨none, 0, 0⟩, [])], [], h, .refl _ _, .one (.rownil rfl rfl) (fun cs h => by cases h), (fun _ h => by cases h), (fun h => by cases h), fun _ => rfl, (fun _ h => by cases h), fun G' ρ' n _ _ hro => ?_⟩
      have := hro 0 _ rfl
      simp only [VK.av, RV]
      exact ⟨_, by simpa using this, by simp, .inr ⟨rfl, rfl, _, rfl⟩⟩
    · exact h.elim
  | part k =>
    simp only [takeV] at h
    split at h
    · rename_i lab esz base n
      split at h
      · rename_i k' xs hl
        replace h := br_elim h
        obtain ⟨hb, h⟩ := h
        split at h
        · rename_i hk
          subst hk
          obtain ⟨hle, h⟩ := h
          rw [forceL_eq] at h
          have he := Nat.eq_of_beq_eq_true hb
          subst he
          obtain ⟨t, ht, hsat⟩ := hs.sat _ _ hl
          have h4 := Took.one (Fs := Fs) hl
          have hlen : ((xs.drop base).take n).length = n := by simp; omega
          refine ⟨_, _, _, [(_, Fs lab)], [], h, by simpa [blk] using h4, .one (sat_part hsat base n hle) (fun cs h => by cases h), (fun _ h => by cases h), (fun h => by cases h), fun _ => rfl, (fun _ h => by cases h), fun G' ρ' m _ _ hro => ?_⟩
          have := hro 0 _ rfl
          have hsl := slAt_of hr ht
          obtain ⟨g1, g2⟩ := hsl
          simp only [VK.av, RV]
          refine ⟨_, by simpa using this, by simpa [castR, hlen] using g1, ?_⟩
          simp only [castR, hlen]
          rcases g2 with ⟨b, g3, g4⟩ | ⟨g3, g4, g5⟩
          · exact .inl ⟨b, g3, by simpa using g4⟩
          · exact .inr ⟨g3, g4, g5⟩
        · exact h.elim
      · exact h.elim
    · simp only [RV] at hr
      subst hr
      refine ⟨[], H, none, [(⟨none, 0, 0⟩, [])], [], h, .refl _ _, .one (.rownil rfl rfl) (fun cs h => by cases h), (fun _ h => by cases h), (fun h => by cases h), fun _ => rfl, (fun _ h => by cases h), fun G' ρ' n _ _ hro => ?_⟩
      have := hro 0 _ rfl
      simp only [VK.av, RV]
      exact ⟨_, by simpa using this, by simp, .inr ⟨rfl, rfl, _, rfl⟩⟩
    · exact h.elim
  | imm k =>
    simp only [takeV] at h
    split at h
    · rename_i k' xs
      split at h
      · rename_i hk
        subst hk
        refine .plain (k := .imm k') xs h rfl fun G' ρ' n hm => ?_
        simp only [VK.av, RV] at hr ⊢
        exact (hr.cells (hm rfl)).mono fun _ _ h => h.change fun _ => hm rfl
      · exact h.elim
    · rename_i lab esz base n
      split at h
      · rename_i k' xs hl
        replace h := br_elim h
        obtain ⟨hb, h⟩ := h
        split at h
        · rename_i hk
          subst hk
          obtain ⟨hle, h⟩ := h
          have he := Nat.eq_of_beq_eq_true hb
          subst he
          exact ⟨_, H, none, [], Fs lab, h, .refl _ _, .nil, (fun _ h => by cases h), fun _ => ⟨rfl, rfl⟩, (fun h => by cases h), fun b hb => ⟨lab, _, hl, hb⟩,
            fun G' ρ' m hm hR _ => immRow hs hl hr hle (hm rfl) hR⟩
        · exact h.elim
      · exact h.elim
    · simp only [RV] at hr
      subst hr
      refine .plain (k := .imm k) [] h rfl fun G' ρ' n hm => ?_
      simp only [VK.av, RV]
      exact ⟨none, 0, rfl, Nat.le_refl _, fun h => by simp at h⟩
    · exact h.elim
  | fn f =>
    simp only [takeV] at h
    split at h
    · rename_i g cs
      split at h
      · obtain ⟨hb, h⟩ := br_elim h
        have := Nat.eq_of_beq_eq_true hb
        subst this
        refine .plain (k := .fn g) () h rfl fun G' ρ' n _ => ?_
        simp only [VK.av, RV, RVs] at hr ⊢
        exact hr
      · exact h.elim
    · exact h.elim
end Go.Ax
