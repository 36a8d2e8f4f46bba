/-
  The contract of a function, from what is shown of its body: the end.
-/
import Derived.Test.YtjpeimmjggkkjaaAx24
set_option linter.all false
namespace Go.Ax
variable {G G' : Gam} {ρ ρ' : List Root} {w w' : World}

theorem Sig.sound {S : Sig} {out : S.Out} {E : LEnv} (hE : E.toEnv.OK) {f : FuncId} {fn : Func} (hf : E.P.funcs[f]? = some fn) (hS : S.ok = true) (h : S.VC out E fn) : SpecOK E.P f (S.spec out) := by
  intro args H K hk G w ρ Fs vs hH hr
  simp only [Sig.spec, forceL_eq] at hk
  obtain ⟨x, H1, ls, ss, Rb, hout, hT, hS1, hL, hRi, hRb, hcan⟩ := takeVs_sound _ hH hr hk
  have hdead : ∀ b, b ∈ blk ss → ¬ G.prot b ∧ b < w.heap.size ∧ ∀ (l : Nat) (o : AObj), H1[l]? = some (some o) → b ∉ Fs l := by
    intro b hb
    obtain ⟨l, o, g1, g2, g3⟩ := hT.out b hb
    obtain ⟨q1, q2⟩ := hH.free l o b g1 g2
    refine ⟨q1, q2, fun l' o' hl' hb' => ?_⟩
    have := hH.apart l o l' o' b g1 (hT.sub _ _ hl') g2 hb'
    subst this
    rw [g3] at hl'; cases hl'
  have hwsz := hH.wok.size
  have hsub : ∀ b, (G.imm b ∨ b ∈ Rb) → b < w.heap.size ∧ b ∉ blk ss := by
    intro b hb
    rcases hb with hb | hb
    · have hp := G.sub b hb
      have := (hH.wok.prot b hp).1
      exact ⟨by omega, fun hm => (hdead b hm).1 hp⟩
    · obtain ⟨l, o, hl, hbl⟩ := hRb b hb
      exact ⟨(hH.free l o b (hT.sub _ _ hl) hbl).2, fun hm => (hdead b hm).2.2 l o hl hbl⟩
  let G' : Gam := ⟨w, fun b => b < w.heap.size ∧ b ∉ blk ss, fun b => G.imm b ∨ b ∈ Rb, hsub⟩
  have hwk : WOK G' w := ⟨fun b hb => ⟨hb.1, rfl⟩, Nat.le_refl _, .rfl, rfl, rfl⟩
  have hcell : ∀ b o, G.imm b → w.cell? ⟨b, o, none⟩ = G.w0.cell? ⟨b, o, none⟩ := fun b o hb => by
    simp only [World.cell?]
    rw [(hH.wok.prot b (G.sub b hb)).2]
  have hCM : CellMap G G' := fun b o v hc => ⟨.inl hc.1, by rw [show G'.w0 = w from rfl, hcell b o hc.1]; exact hc.2⟩
  have hCR : ∀ b ∈ Rb, ∀ o v, w.cell? ⟨b, o, none⟩ = some v → G'.cell b o v := fun b hb o v hv => ⟨.inr hb, hv⟩
  have hCB : (S.args.all fun p => !p.1.isImm) = true → CellMap G' G := by
    intro hall
    have hRe : Rb = [] := hRi (by simpa [List.all_map] using hall)
    intro b o v hc
    have hb : G.imm b := by
      rcases hc.1 with hb | hb
      · exact hb
      · rw [hRe] at hb; cases hb
    exact ⟨hb, by rw [← hcell b o hb]; exact hc.2⟩
  let ρc : List Root := ss.map (·.1)
  let Fc : Nat → List Nat := fun i => ((ss[i]?).map (·.2)).getD []
  have hcs : SatHF G' ρc w ((objsAll _ x).map some) Fc := by
    refine ⟨by simp [ρc, hS1.len], fun l o hl => ?_, fun l o l' o' b hl hl' hb hb' => ?_, fun l o b hl hb => ?_, hwk⟩
    · have ho : (objsAll _ x)[l]? = some o := by
        rw [List.getElem?_map] at hl
        cases hx : (objsAll (S.args.map (·.1)) x)[l]? with
        | none => simp [hx] at hl
        | some q => simp [hx] at hl; rw [hl]
      have hlt : l < ss.length := by rw [hS1.len]; exact (List.getElem?_eq_some_iff.1 ho).1
      have hs : ss[l]? = some ss[l] := List.getElem?_eq_getElem hlt
      obtain ⟨q1, q2⟩ := hS1.sat l o _ ho hs
      refine ⟨ss[l].1, by simp [ρc, hs], ?_⟩
      simp only [Fc, hs]
      exact q1.change (fun _ => hCM) q2 fun _ _ => rfl
    · simp only [Fc] at hb hb'
      cases h1 : ss[l]? with
      | none => simp [h1] at hb
      | some s =>
        cases h2 : ss[l']? with
        | none => simp [h2] at hb'
        | some t =>
          simp [h1] at hb
          simp [h2] at hb'
          exact hS1.apart l l' s t b h1 h2 hb hb'
    · simp only [Fc] at hb
      cases h1 : ss[l]? with
      | none => simp [h1] at hb
      | some s =>
        simp [h1] at hb
        have hm : b ∈ blk ss := mem_blk.2 ⟨s, List.mem_of_getElem? h1, hb⟩
        exact ⟨fun hp => hp.2 hm, (hdead b hm).2.1⟩
  have hroots : ∀ (i : Nat) (s : Slot), ss[i]? = some s → ρc[0 + i]? = some s.1 := fun i s hs => by simp [ρc, hs]
  have hargs : RVs G' ρc (avs _ x 0) vs := hcan G' ρc 0 (fun _ => hCM) hCR hroots
  have hbody := abody_sound (E := { E with n0 := (objsAll (S.args.map (·.1)) x).length }) hE hf (by simp) (h x _ hout) hcs hargs
  refine hbody.mono fun e w' he => ?_
  obtain ⟨v, av, H2, e', Fs2, rfl, hK, hrv, hs2⟩ := he
  obtain ⟨y, H3, kss, hK3, hT3, hS3, hkept⟩ := keepTake_sound S.args hs2 hargs.ext hK
  have hok := hS
  simp only [Sig.ok, Bool.and_eq_true, Bool.or_eq_true] at hok
  obtain ⟨r, H4, rss, hK4, hT4, hS4, hret⟩ := takeRet_sound hok.1 (hs2.fewer hT3) hrv hK3
  have hpoolc : ∀ b, b ∈ blk kss ∨ b ∈ blk rss → (w.heap.size ≤ b ∨ b ∈ blk ss) ∧ b < w'.heap.size := by
    intro b hb
    have : ∃ l o, H2[l]? = some (some o) ∧ b ∈ Fs2 l := by
      rcases hb with hb | hb
      · obtain ⟨l, o, g1, g2, _⟩ := hT3.out b hb
        exact ⟨l, o, g1, g2⟩
      · obtain ⟨l, o, g1, g2, _⟩ := hT4.out b hb
        exact ⟨l, o, hT3.sub _ _ g1, g2⟩
    obtain ⟨l, o, g1, g2⟩ := this
    obtain ⟨q1, q2⟩ := hs2.free l o b g1 g2
    refine ⟨?_, q2⟩
    by_cases hlt : b < w.heap.size
    · right
      apply Classical.byContradiction
      intro hn
      exact q1 ⟨hlt, hn⟩
    · left; omega
  have hkeep : ∀ b, b < w.heap.size → b ∉ blk ss → w'.heap[b]? = w.heap[b]? := fun b h1 h2 => (hs2.wok.prot b ⟨h1, h2⟩).2
  have hlive : ∀ (l : Nat) (o : AObj) (b : Nat), H1[l]? = some (some o) → b ∈ Fs l → b < w.heap.size ∧ b ∉ blk ss := fun l o b hl hb =>
    ⟨(hH.free l o b (hT.sub _ _ hl) hb).2, fun hm => (hdead b hm).2.2 l o hl hb⟩
  have hsz : w.heap.size ≤ w'.heap.size := hs2.wok.size
  have hbase : SatHF G ρ w' H1 Fs := by
    refine ⟨hT.len.trans hH.len, fun l o hl => ?_, fun l o l' o' b h1 h2 => hH.apart l o l' o' b (hT.sub _ _ h1) (hT.sub _ _ h2), fun l o b hl hb => ?_, ?_⟩
    · obtain ⟨t, ht, hsat⟩ := hH.sat l o (hT.sub _ _ hl)
      have := hsat.mono (e := []) (w' := w') fun b hb => by
        obtain ⟨q1, q2⟩ := hlive l o b hl hb
        exact hkeep b q1 q2
      exact ⟨t, ht, by simpa using this⟩
    · obtain ⟨q1, q2⟩ := hH.free l o b (hT.sub _ _ hl) hb
      exact ⟨q1, by omega⟩
    · refine ⟨fun b hb => ?_, by omega, ?_, ?_, ?_⟩
      · obtain ⟨q1, q2⟩ := hH.wok.prot b hb
        exact ⟨q1, (hkeep b (by omega) (fun hm => (hdead b hm).1 hb)).trans q2⟩
      · exact hH.wok.os.trans hs2.wok.os
      · exact hs2.wok.tape.trans hH.wok.tape
      · exact hs2.wok.output.trans hH.wok.output
  have hpool : ∀ P, (∀ b, b ∈ P → b ∈ blk kss ∨ b ∈ blk rss) → Pool G w' H1 Fs P := by
    intro P hP b hb
    obtain ⟨q1, q2⟩ := hpoolc b (hP b hb)
    refine ⟨⟨fun hp => ?_, q2⟩, fun l o hl hbl => ?_⟩
    · rcases q1 with q1 | q1
      · have := (hH.wok.prot b hp).1
        omega
      · exact (hdead b q1).1 hp
    · obtain ⟨a1, a2⟩ := hlive l o b hl hbl
      rcases q1 with q1 | q1
      · omega
      · exact a2 q1
  have hcl : ∀ o : AObj, (o ∈ keptObjs S.args y ∨ o ∈ objsAll S.ret r) → o.clean = false → CellMap G' G := by
    intro o ho hc
    rcases hok.2 with h1 | ⟨h1, h2⟩
    · exact hCB h1
    · rcases ho with ho | ho
      · rw [keptObjs_clean h2 y o ho] at hc; cases hc
      · rw [objsAll_clean h1 r o ho] at hc; cases hc
  have hdisj : ∀ b, b ∈ blk kss → b ∉ blk rss := Took.apart hs2 hT3 hT4
  obtain ⟨Fs5, p1, p2, p3⟩ := put_all (ρ := ρ) (ρc := ρc ++ e') (H0 := H) S.args hbase hL (fun i s hs => getElem?_ext (hroots i s hs)) hkept
    (fun i o s ho hs => (hS3.sat i o s ho hs).1.change (hcl o (.inl (List.mem_of_getElem? ho))) (hS3.sat i o s ho hs).2 fun _ _ => rfl)
    (hpool _ fun b hb => .inl hb) hS3.apart
  have hp5 := p3 (blk rss) (hpool _ fun b hb => .inr hb) fun b hb hb2 => hdisj b hb2 hb
  obtain ⟨Fs6, r1, r2⟩ := push_all (objsAll S.ret r) (ss := rss) p1 hS4.len
    (fun i o s ho hs ρ => (hS4.sat i o s ho hs).1.change (hcl o (.inr (List.mem_of_getElem? ho))) (hS4.sat i o s ho hs).2 fun _ _ => rfl) hp5 hS4.apart
  have hlen5 : (putKept S.args y ls H1).length = H.length := by
    have := p1.len
    have := hH.len
    omega
  refine ⟨v, _, _, _, rss.map (·.1), Fs6, rfl, hK4, ?_, r1, fun l o hl hn => ?_⟩
  · refine hret G _ H.length (fun hc => ?_) (fun i s hs => ?_)
    · rcases hok.2 with h1 | ⟨h1, h2⟩
      · exact hCB h1
      · rw [h1] at hc; cases hc
    · rw [List.getElem?_append_right (by rw [hH.len]; omega), hH.len]
      simp [hs]
  · obtain ⟨q, hq⟩ := gone_spec (n := 0) hl hT.len (by simpa using hn)
    have hq' := hT.sub l q hq
    rw [hl] at hq'; cases hq'
    obtain ⟨a1, a2⟩ := p2 l o hq
    refine ⟨getElem?_ext a1, (r2 l o a1).trans a2, fun b hb => ?_⟩
    obtain ⟨q1, q2⟩ := hlive l o b hq hb
    exact hkeep b q1 q2
end Go.Ax
