/-
  The library's sort of structs by a function, as the kit shows it, as a contract of this make.
-/
import Derived.Test.YtjpeimmjggkkjaaAxB
import Derived.Test.YtjpeimmjggkkjaaAxW
import Derived.Test.YtjpeimmjggkkjaaAxP3
import Derived.Shelf.SlSortCmp.WholeK
set_option linter.all false
namespace Go.Ax
open Go.RowKit Go.Sort Go.Ax.Sp Go.Proofs
variable {G : Gam} {ρ : List Root} {w : World}

def toVal : AV → Value
  | .int k n => .int k n
  | .bool b => .bool b
  | _ => undef
def AV.plain : AV → Bool
  | .int _ _ | .bool _ => true
  | _ => false
theorem rv1_toVal {z : AV} {u : Value} (hz : z.plain = true) (h : RV1 G z u) : u = toVal z := by
  cases z <;> simp [AV.plain] at hz <;> simpa only [RV1, RV0, toVal] using h
theorem toVal_rv1 {z : AV} (hz : z.plain = true) : RV1 G z (toVal z) := by
  cases z <;> simp [AV.plain] at hz <;> simp [RV1, RV0, toVal]

/-- A row's cells are laid over. -/
theorem put_row {H : AHeap} {Fs : Nat → List Nat} (hH : SatHF G ρ w H Fs) {lab : Nat} {k : EK} {xs ys : List k.T} (hl : H[lab]? = some (some (.row k xs))) {t : Root} (ht : ρ[lab]? = some t) {b : Nat} (hbk : t.blk = some b) (hlen : ys.length = xs.length)
    (F : Array Value) (hF : F.size = ys.length * k.esz) (hc : ∀ (i : Nat) (y : k.T), ys[i]? = some y → ∀ (j : Nat) (z : AV), (k.enc y)[j]? = some z → ∃ u, F[i * k.esz + j]? = some u ∧ RV1 G z u) (n : Nat) (os : Array Obj) :
    SatHF G ρ (grow (putRow id (Sort.ahead w n) b t.off F) os) (H.set lab (some (.row k ys))) Fs ∧ ∀ (l : Nat) (o : AObj), H[l]? = some (some o) → l ≠ lab → ∀ q ∈ Fs l, (grow (putRow id (Sort.ahead w n) b t.off F) os).heap[q]? = w.heap[q]? := by
  obtain ⟨t', ht', hsat⟩ := hH.sat _ _ hl
  rw [ht] at ht'; cases ht'
  generalize hFF : Fs lab = FF at hsat
  cases hsat with
  | rownil hb' _ => rw [hbk] at hb'; cases hb'
  | @row _ _ sp _ b' c ty hb' hw h2 h3 hcell =>
    rw [hbk] at hb'; cases hb'
    have hbl : b < w.heap.size := (Array.getElem?_eq_some_iff.1 hw).1
    have hmul : ys.length * k.esz ≤ t.tot * k.esz := Nat.mul_le_mul_right _ (by omega)
    have hset := SatH.set hH hl (.row k ys) [b] (w' := grow (putRow id (Sort.ahead w n) b t.off F) os) (by simp) (fun q hq hqF => by
        have hne : q ≠ b := fun h => hqF (by rw [hFF, h]; simp)
        rw [heap_grow_old _ _ (by simpa using hq)]
        exact mapBlock_ne (w := Sort.ahead w n) hne) ⟨rfl, by simp [grow, putRow, mapBlock, Sort.ahead]⟩ rfl rfl
      (fun r hr => by
        rw [ht] at hr; cases hr
        refine .row (sp := sp) (c := putCells id t.off F c) (ty := ty) hbk ?_ (by omega) (by simpa [putCells] using h3) (fun i x hi j y hj => ?_)
        · rw [heap_grow_old _ _ (by simpa using hbl)]
          exact mapBlock_get (w := Sort.ahead w n) hw
        · have hjl : j < k.esz := by
            have := (List.getElem?_eq_some_iff.1 hj).1
            rw [k.enc_len] at this; exact this
          simp only [putCells, Array.getElem?_mapIdx]
          by_cases hin : i < ys.length
          · rw [List.getElem?_append_left hin] at hi
            obtain ⟨u, hu, hr⟩ := hc i x hi j y hj
            have hm : (i + 1) * k.esz ≤ ys.length * k.esz := Nat.mul_le_mul_right _ hin
            rw [Nat.add_mul] at hm
            have hci : t.off + i * k.esz + j < c.size := by omega
            refine ⟨u, ?_, hr⟩
            rw [Array.getElem?_eq_getElem hci, Option.map_some, if_pos ⟨by omega, by omega⟩]
            have e : t.off + i * k.esz + j - t.off = i * k.esz + j := by omega
            have hul := (Array.getElem?_eq_some_iff.1 hu)
            obtain ⟨hu1, hu2⟩ := hul
            rw [e, getElem!_pos F _ hu1, hu2]; rfl
          · rw [List.getElem?_append_right (by omega)] at hi
            have hi' : (xs ++ sp)[i]? = some x := by rw [List.getElem?_append_right (by omega), ← hlen]; exact hi
            obtain ⟨u, hu, hr⟩ := hcell i x hi' j y hj
            refine ⟨u, ?_, hr⟩
            have hm : ys.length * k.esz ≤ i * k.esz := Nat.mul_le_mul_right _ (by omega)
            rw [hu, Option.map_some, if_neg (by omega)])
      (fun q hq => by
        simp at hq; subst hq
        exact ⟨.inl (by rw [hFF]; simp), by simp; omega⟩)
    have hFs : (fun x => if x = lab then [b] else Fs x) = Fs := by
      funext x
      by_cases hx : x = lab
      · subst hx; simp [hFF]
      · simp [hx]
    rw [hFs] at hset
    refine ⟨hset, fun l o hl' hne q hq => ?_⟩
    have hq' := (hH.free l o q hl' hq).2
    have hne2 : q ≠ b := fun h => hne (hH.apart l o lab _ q hl' hl hq (by rw [hFF, h]; simp))
    rw [heap_grow_old _ _ (by simpa using hq')]
    exact mapBlock_ne (w := Sort.ahead w n) hne2

/-- A world that only grew, as the kit says it. -/
theorem Still.grown {W W' : World} (h : Still W W') (hd : W.drawn ≤ W'.drawn) : ∃ q os, W' = grow (W.drewN q) os := by
  refine ⟨W'.drawn - W.drawn, W'.heap.extract W.heap.size W'.heap.size, ?_⟩
  obtain ⟨h1, h2, h3, h4, h5⟩ := h
  have hh : W'.heap = W.heap ++ W'.heap.extract W.heap.size W'.heap.size := by
    apply Array.ext_getElem?
    intro i
    by_cases hi : i < W.heap.size
    · rw [Array.getElem?_append_left hi, h3 i hi]
    · rw [Array.getElem?_append_right (by omega)]
      by_cases hi2 : i < W'.heap.size
      · rw [Array.getElem?_eq_getElem hi2, Array.getElem?_eq_getElem (by simp; omega)]
        simp only [Array.getElem_extract]
        congr 1
        congr 1
        omega
      · rw [Array.getElem?_eq_none (by omega), Array.getElem?_eq_none (by simp; omega)]
  cases W with
  | mk heap tape drawn os output =>
    cases W' with
    | mk heap' tape' drawn' os' output' =>
      simp only [] at h1 h2 h4 hh hd
      subst h1 h2 h4
      simp only [grow, World.drewN]
      congr 1
      omega

/-! ### The sort of changes -/

abbrev SC := {c : Change // -1099511627776 ≤ c.Id ∧ c.Id ≤ 1099511627776}
instance : Inhabited SC := ⟨⟨⟨0, 0, 0, false⟩, by decide⟩⟩
def encC (x : SC) : List Value := (EK.enc .change x.1).map toVal
def cfC (x y : SC) : Int := x.1.Id - y.1.Id
theorem encC_len (x : SC) : (encC x).length = 4 := by simp [encC, EK.enc]
theorem encC_one (x : SC) : ∀ v ∈ encC x, v.oneCell' = true := by
  intro v hv
  simp [encC, EK.enc, toVal] at hv
  rcases hv with rfl | rfl | rfl | rfl <;> rfl
theorem cfC_swo : SWO (ltOf cfC) := by
  constructor
  · intro x; simp [ltOf, cfC]
  · intro x y z h1 h2
    have h1 : x.1.Id - y.1.Id < 0 := of_decide_eq_true h1
    have h2 : y.1.Id - z.1.Id < 0 := of_decide_eq_true h2
    exact decide_eq_true (show x.1.Id - z.1.Id < 0 by omega)
  · intro x y z h1 h2
    have h1 : ¬ x.1.Id - y.1.Id < 0 := of_decide_eq_false h1
    have h2 : ¬ y.1.Id - z.1.Id < 0 := of_decide_eq_false h2
    exact decide_eq_false (show ¬ x.1.Id - z.1.Id < 0 by omega)

theorem rvs_toVal : ∀ {xs : List AV}, (∀ z ∈ xs, z.plain = true) → RVs G ρ xs (xs.map toVal)
  | [], _ => by simp [RVs]
  | x :: xs, h => by
    have h1 := h x (by simp)
    have h2 : RVs G ρ xs (xs.map toVal) := rvs_toVal fun z hz => h z (by simp [hz])
    simp only [RVs, List.map_cons]
    refine ⟨_, _, rfl, ?_, h2⟩
    cases x <;> simp [AV.plain] at h1 <;> simp [RV, toVal]
theorem enc_plain (c : Change) : ∀ z ∈ EK.enc .change c, z.plain = true := by
  intro z hz
  simp [EK.enc] at hz
  rcases hz with rfl | rfl | rfl | rfl <;> rfl

theorem cmpC_lays {P : Program} {g : FuncId} (h : SpecOK P g (sIdCmp.spec oIdCmp)) (blk off size : Nat) (w : World) : CmpLays P g #[] encC 4 cfC blk off size w := by
  intro m os dk _ x y
  generalize sortWorldK encC 4 w blk off m dk os = W
  have hk : sIdCmp.spec oIdCmp [.agg (EK.enc .change x.1), .agg (EK.enc .change y.1)] [] fun v _ _ => v = .int .i64 (cfC x y) := by
    have e : cfC x y = Law.idCmp x.1 y.1 := by
      have h1 := x.2
      have h2 := y.2
      simp only [cfC, Law.idCmp]
      rw [w64] <;> omega
    rw [e]
    exact rfl
  refine (h _ [] _ hk (Gam.whole W) W [] _ [.agg (encC x).toArray, .agg (encC y).toArray] (.empty W) ?_).mono fun e w' he => ?_
  · simp only [RVs, RV]
    exact ⟨_, _, rfl, ⟨_, rfl, rvs_toVal (enc_plain _)⟩, _, _, rfl, ⟨_, rfl, rvs_toVal (enc_plain _)⟩, rfl⟩
  · obtain ⟨v, av, H', T, e', Fs', rfl, hav, hrv, hs, _⟩ := he
    subst hav
    simp only [RV] at hrv
    subst hrv
    exact ⟨rfl, Still.grown hs.wok.still hs.wok.os.2⟩

theorem flatC_get (d : Array SC) (i j : Nat) (hi : i < d.size) (hj : j < 4) : (flatK encC 4 d)[i * 4 + j]? = some (encC d[i])[j]! := by
  have hlt : i * 4 + j < (flatK encC 4 d).size := by rw [size_flatK]; omega
  have := get_flatK encC 4 d (i * 4 + j) (by omega)
  rw [getElem!_pos (flatK encC 4 d) _ hlt, show (i * 4 + j) / 4 = i by omega, show (i * 4 + j) % 4 = j by omega, getElem!_pos d i hi] at this
  rw [Array.getElem?_eq_getElem hlt, this]

theorem takeV_fn {g : FuncId} {b : AV} {H1 : AHeap} {K : Unit → AHeap → Option Nat → Prop} (h : takeV (.fn g) b H1 K) : b = .fn g [] ∧ K () H1 none := by
  cases b <;> try exact (h : False).elim
  rename_i f' cs
  cases cs with
  | nil =>
    have h : br (Nat.beq f' g) (K () H1 none) False := h
    obtain ⟨e, h9⟩ := br_elim h
    clear h
    have := Nat.eq_of_beq_eq_true e
    subst this
    exact ⟨rfl, h9⟩
  | cons _ _ => exact (h : False).elim

def mkD (xs : List Change) (h : Law.SmallIds xs) : Array SC := (xs.attach.map fun c => (⟨c.1, h c.1 c.2⟩ : SC)).toArray
theorem mkD_size (xs : List Change) (h : Law.SmallIds xs) : (mkD xs h).size = xs.length := by simp [mkD]
theorem mkD_get (xs : List Change) (h : Law.SmallIds xs) (i : Nat) (hi : i < (mkD xs h).size) : (mkD xs h)[i].1 = xs[i]'(by rw [mkD_size] at hi; exact hi) := by simp [mkD]
theorem mkD_map (xs : List Change) (h : Law.SmallIds xs) : (mkD xs h).toList.map (·.1) = xs := by
  simp only [mkD, List.map_map]
  exact List.attach_map_subtype_val xs
theorem enc_len4 (c : Change) : (EK.enc .change c).length = 4 := rfl

theorem sortF_spec {P : Program} {f g : FuncId} (hc : SpecOK P g (sIdCmp.spec oIdCmp))
    (h1 : ∀ (blk off cap : Nat) (d : Array SC) (w : World), CmpLays P g #[] encC 4 cfC blk off d.size w → HoldsK encC 4 w blk off d → blk < w.heap.size → d.size < 4611686018427387904 →
      Calls P f #[.slice (some ⟨blk, off, none⟩) d.size cap, .func (.func g) #[] #[]] w fun e w' => e = .returned (.tuple #[]) ∧ ∃ d' n os, PermIn 0 d.size d d' ∧ SortedIn (ltOf cfC) 0 d.size d' ∧ w' = sortWorldK encC 4 w blk off n d' os)
    (h0 : ∀ (p : Option Addr) (cap : Nat) (fv : Value) (w : World), Calls P f #[.slice p 0 cap, fv] w fun e w' => e = .returned (.tuple #[]) ∧ w' = w) : SpecOK P f ((sSortF g).spec (oSortF2 g)) := by
  intro args H K hk G w ρ Fs vs hH hr
  have hk : takeVs [VK.row .change, VK.fn g] args H fun x H1 ls => oSortF2 g x fun y _ => forceL (putKept [(VK.row .change, true), (VK.fn g, false)] y ls H1 ++ []) fun H2 => forceL (gone H H1 0) fun T => K (.tup []) H2 T := hk
  match args, hr, hk with
  | [], _, hk => exact (hk : False).elim
  | [_], _, hk =>
    have hk : takeV (.row .change) _ H fun _ _ _ => False := hk
    rcases takeV_row hk with ⟨_, _, _, _, _, _, hk⟩ | ⟨_, hk⟩ <;> exact hk.elim
  | _ :: a :: _ :: _, _, hk =>
    have hk : takeV (.row .change) _ H fun _ H1 _ => takeV (.fn g) a H1 fun _ _ _ => False := hk
    rcases takeV_row hk with ⟨_, _, _, _, _, _, hk⟩ | ⟨_, hk⟩ <;> exact (takeV_fn hk).2.elim
  | [a, b], hr, hk =>
    simp only [RVs] at hr
    obtain ⟨v, us, rfl, hv, u, us', rfl, hu, rfl⟩ := hr
    have hk0 : takeV (.row .change) a H fun d H1 l => takeV (.fn g) b H1 fun _ H1 l' => oSortF2 g (d, (), ()) fun y _ => forceL (putKept [(VK.row .change, true), (VK.fn g, false)] y [l, l'] H1 ++ []) fun H2 => forceL (gone H H1 0) fun T => K (.tup []) H2 T := hk
    have hk3 := takeV_row hk0
    clear hk hk0
    rcases hk3 with ⟨lab, n, xs, rfl, hl, rfl, hk⟩ | ⟨rfl, hk⟩
    · obtain ⟨rfl, hk9⟩ := takeV_fn hk
      clear hk
      have hk := hk9
      clear hk9
      obtain ⟨⟨hsm, hnd, hlen⟩, hk⟩ := hk
      simp only [] at hsm hnd hlen hk
      simp only [forceL_eq, putKept, putOne, VK.objs, List.append_nil, List.set_set] at hk
      have hu : u = .func (.func g) #[] #[] := by
        simp only [RV, RVs] at hu
        obtain ⟨z, rfl, hz⟩ := hu
        have : z = #[] := by cases z; simpa using hz
        rw [this]
      subst hu
      have hlt := hH.lab hl
      have hT : lab ∈ gone H (H.set lab none) 0 := by
        apply Classical.byContradiction
        intro hn
        obtain ⟨q, hq⟩ := gone_spec (H' := H.set lab none) (n := 0) hl (by simp) (by simpa using hn)
        rw [List.getElem?_set_self hlt] at hq
        cases hq
      obtain ⟨t, ht, hsat⟩ := hH.sat _ _ hl
      simp only [RV] at hv
      obtain ⟨t', ht', htot, hv⟩ := hv
      rw [ht] at ht'; cases ht'
      have fin : ∀ (ys : List Change) (w' : World), Law.Sorted xs ys → SatHF G ρ w' (H.set lab (some (.row .change ys))) Fs → (∀ (l : Nat) (o : AObj), H[l]? = some (some o) → l ≠ lab → ∀ b ∈ Fs l, w'.heap[b]? = w.heap[b]?) →
          ∃ v av H' T e' Fs', Ending.returned (.tuple #[]) = .returned v ∧ K av H' T ∧ RV G (ρ ++ e') av v ∧ SatHF G (ρ ++ e') w' H' Fs' ∧ Unt w w' H H' Fs Fs' T := by
        intro ys w' hsr hs hu
        refine ⟨_, _, _, _, [], Fs, rfl, hk ys hsr, ?_, by simpa using hs, fun l o hl' hT' => ?_⟩
        · simp [RV, RVs]
        · have hne : l ≠ lab := fun h => hT' (h ▸ hT)
          exact ⟨by rw [List.getElem?_set_ne (Ne.symm hne)]; exact hl', rfl, hu l o hl' hne⟩
      generalize hF : Fs lab = F at hsat
      rcases hv with ⟨b, hbk, rfl⟩ | ⟨hn0, htb, aa, rfl⟩
      · cases hsat with
        | rownil hb' _ => rw [hbk] at hb'; cases hb'
        | @row _ _ sp _ b' c ty hb' hw h2 h3 hcc =>
          rw [hbk] at hb'; cases hb'
          have hbl : b < w.heap.size := (Array.getElem?_eq_some_iff.1 hw).1
          obtain ⟨d, hdd⟩ : ∃ d, d = mkD xs hsm := ⟨_, rfl⟩
          have hds : d.size = xs.length := by rw [hdd]; exact mkD_size _ _
          have hdg : ∀ i (h : i < d.size), d[i].1 = xs[i]'(by omega) := by intro i h; subst hdd; exact mkD_get _ _ _ _
          have hez : (EK.change).esz = 4 := rfl
          simp only [hez, Nat.zero_mul, Nat.add_zero] at h3 hcc ⊢
          have hhold : HoldsK encC 4 w b t.off d := by
            intro p hp
            rw [size_flatK, hds] at hp
            refine ⟨?_, by simp [World.frozen?, hw]⟩
            have hq : p / 4 < d.size := by omega
            obtain ⟨z, hz⟩ : ∃ z, (EK.enc .change xs[p / 4])[p % 4]? = some z := ⟨_, List.getElem?_eq_getElem (show p % 4 < (EK.enc .change xs[p / 4]).length from Nat.mod_lt p (by decide))⟩
            obtain ⟨v, hv1, hv2⟩ := hcc (p / 4) xs[p / 4] (by rw [List.getElem?_append_left (by omega), List.getElem?_eq_getElem]) (p % 4) z hz
            have hzp := enc_plain _ z (List.mem_of_getElem? hz)
            have e1 := flatC_get d (p / 4) (p % 4) hq (by omega)
            have e2 : p / 4 * 4 + p % 4 = p := by omega
            have e3 : (encC d[p / 4])[p % 4]! = toVal z := by
              have : (encC d[p / 4])[p % 4]? = some (toVal z) := by
                simp only [encC, List.getElem?_map, hdg, hz, Option.map_some]
              rw [List.getElem!_eq_getElem?_getD, this]; rfl
            rw [rv1_toVal hzp hv2] at hv1
            rw [e2, e3] at e1
            have e4 : t.off + p / 4 * 4 + p % 4 = t.off + p := by omega
            rw [e4] at hv1
            rw [← hds] at hp
            have hp2 : p < (flatK encC 4 d).size := by rw [size_flatK]; exact hp
            have e5 : (flatK encC 4 d)[p]! = toVal z := by
              rw [Array.getElem?_eq_getElem hp2] at e1
              rw [getElem!_pos (flatK encC 4 d) _ hp2]; simpa using e1
            simp [World.cell?, hw, hv1, e5]
          have hcall := h1 b t.off (t.tot - 0) d w (cmpC_lays hc _ _ _ _) hhold hbl (by omega)
          rw [hds] at hcall
          refine hcall.mono fun e w' he => ?_
          obtain ⟨rfl, d', n, os, hpm, hso, rfl⟩ := he
          obtain ⟨hs1, _, hs3⟩ := hpm
          have hps : d'.toList.Perm d.toList := by
            rw [← hds] at hs3
            rw [show d'.extract 0 d.size = d' by rw [← hs1]; simp, show d.extract 0 d.size = d by simp] at hs3
            exact hs3
          have hmap : d.toList.map (·.1) = xs := by rw [hdd]; exact mkD_map _ _
          have hyp : (d'.toList.map (·.1)).Perm xs := by rw [← hmap]; exact hps.map _
          have hsr : Law.Sorted xs (d'.toList.map (·.1)) := by
            refine ⟨hyp, ?_⟩
            rw [List.pairwise_iff_getElem]
            intro i j hi hj hij
            simp only [List.length_map, Array.length_toList] at hi hj
            have h := hso i j (by omega) hij (by omega)
            rw [getElem!_pos d' _ hj, getElem!_pos d' _ hi] at h
            have h : ¬ d'[j].1.Id - d'[i].1.Id < 0 := of_decide_eq_false h
            simp only [List.getElem_map, Array.getElem_toList]
            have hnd' : ((d'.toList.map (·.1)).map Change.Id).Nodup := (hyp.map _).nodup_iff.2 hnd
            have hne := (List.pairwise_iff_getElem.1 hnd') i j (by simpa using hi) (by simpa using hj) hij
            simp only [List.getElem_map, Array.getElem_toList] at hne
            omega
          have hpr := put_row hH (k := .change) (ys := d'.toList.map (·.1)) hl ht hbk (by simp [hs1, hds]) (flatK encC 4 d') (by rw [size_flatK]; simp [hez]) (fun i y hi j z hj => by
            have hil : i < d'.size := by simpa using (List.getElem?_eq_some_iff.1 hi).1
            have hjl : j < 4 := by have := (List.getElem?_eq_some_iff.1 hj).1; rw [enc_len4] at this; exact this
            have hy : d'[i].1 = y := by simpa [hil] using hi
            refine ⟨toVal z, ?_, toVal_rv1 (enc_plain _ z (List.mem_of_getElem? hj))⟩
            rw [hez, flatC_get d' i j hil hjl]
            have : (encC d'[i])[j]? = some (toVal z) := by
              simp only [encC, List.getElem?_map, hy, hj, Option.map_some]
            rw [List.getElem!_eq_getElem?_getD, this]; rfl) n os
          exact fin _ _ hsr hpr.1 hpr.2
      · have hx : xs = [] := List.eq_nil_of_length_eq_zero hn0
        subst hx
        refine (h0 aa 0 _ w).mono fun e w' he => ?_
        obtain ⟨rfl, rfl⟩ := he
        refine fin [] _ ⟨.refl _, .nil⟩ ?_ (fun l o _ _ _ _ => rfl)
        have : H.set lab (some (.row .change [])) = H := by
          apply List.ext_getElem?
          intro q
          by_cases hq : lab = q
          · subst hq; rw [List.getElem?_set_self hlt, hl]
          · rw [List.getElem?_set_ne hq]
        rw [this]; exact hH
    · simp only [RV] at hv
      subst hv
      obtain ⟨rfl, hk9⟩ := takeV_fn hk
      clear hk
      have hk := hk9
      clear hk9
      obtain ⟨_, hk⟩ := hk
      have hk := hk [] ⟨.refl _, .nil⟩
      simp only [forceL_eq, putKept, putOne, VK.objs, List.append_nil] at hk
      refine (h0 none 0 _ w).mono fun e w' he => ?_
      obtain ⟨rfl, rfl⟩ := he
      refine ⟨_, _, _, _, [], Fs, rfl, hk, ?_, by simpa using hH, fun l o hl' _ => ⟨hl', rfl, fun _ _ => rfl⟩⟩
      simp [RV, RVs]
end Go.Ax
