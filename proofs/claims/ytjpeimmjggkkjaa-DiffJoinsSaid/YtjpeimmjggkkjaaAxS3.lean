/-
  Plain law: changes between jobs, one by one.
-/
import Derived.Test.YtjpeimmjggkkjaaAxP3
import Derived.Test.YtjpeimmjggkkjaaAxO2
set_option linter.all false
namespace Go.Ax.Law

theorem findI_iff {l : List Job} {n : Nat} {j : Job} (h : l[n]? = some j) : findI l j.Id = (n : Int) ↔ (l.take n).any (fun x => decide (x.Id = j.Id)) = false := by
  have hlt := (List.getElem?_eq_some_iff.1 h).1
  have hj := (List.getElem?_eq_some_iff.1 h).2
  unfold findI
  cases hf : l.findIdx? fun x => decide (x.Id = j.Id) with
  | none =>
    rw [List.findIdx?_eq_none_iff] at hf
    have := hf j (List.mem_of_getElem? h)
    simp at this
  | some i =>
    rw [List.findIdx?_eq_some_iff_getElem] at hf
    obtain ⟨hi, h1, h2⟩ := hf
    constructor
    · intro he
      have : i = n := by
        simp only [] at he
        omega
      subst this
      rw [List.any_eq_false]
      intro x hx
      obtain ⟨k, hk⟩ := List.getElem?_of_mem hx
      have hkl := (List.getElem?_eq_some_iff.1 hk)
      obtain ⟨hk1, hk2⟩ := hkl
      have hki : k < i := by simp at hk1; omega
      rw [List.getElem_take] at hk2
      have := h2 k hki
      rw [hk2] at this
      simpa using this
    · intro ha
      simp only []
      have : i = n := by
        apply Classical.byContradiction
        intro hne
        by_cases hlt2 : i < n
        · rw [List.any_eq_false] at ha
          have := ha l[i] (List.mem_iff_getElem?.2 ⟨i, by rw [List.getElem?_take_of_lt hlt2, List.getElem?_eq_getElem hi]⟩)
          exact this h1
        · have := h2 n (by omega)
          rw [hj] at this
          simp at this
      omega

theorem ofC_step {was now : List Job} {k : Nat} {j : Job} (h : now[k]? = some j) :
    diffsTo was now (k + 1) = diffsTo was now k ++ (if (ofC was now k).2 = true then [(ofC was now k).1] else []) ∧ ((ofC was now k).2 = true → (ofC was now k).1.Id = j.Id) := by
  simp only [diffsTo, ofC, h]
  have hi := findI_iff h
  by_cases hf : findI now j.Id = (k : Int)
  · rw [hi.1 hf]
    simp only [hf, ne_eq, not_true, if_false, Bool.false_eq_true]
    unfold chg
    cases hw : was.find? fun x => decide (x.Id = j.Id) with
    | none => simp
    | some x =>
      simp only []
      by_cases h1 : x.State = j.State <;> by_cases h2 : x.Plan = j.Plan <;> simp [h1, h2]
  · have ha : ((now.take k).any fun x => decide (x.Id = j.Id)) = true := by
      cases hb : ((now.take k).any fun x => decide (x.Id = j.Id)) with
      | true => rfl
      | false => exact absurd (hi.2 hb) hf
    rw [if_pos ha]
    simp [hf]

theorem diffsTo_id_take {was now : List Job} : ∀ {n : Nat} {c : Change}, c ∈ diffsTo was now n → ∃ j ∈ now.take n, c.Id = j.Id
  | 0, c, h => by simp [diffsTo] at h
  | n + 1, c, h => by
    simp only [diffsTo, List.mem_append] at h
    rcases h with h | h
    · obtain ⟨j, hj, he⟩ := diffsTo_id_take h
      exact ⟨j, List.mem_of_mem_take (i := n) (by
        have : (now.take (n + 1)).take n = now.take n := by rw [List.take_take]; congr 1; omega
        rw [this]; exact hj), he⟩
    · split at h
      · rename_i j hj
        split at h
        · simp at h
        · refine ⟨j, ?_, chg_id h⟩
          rw [List.take_add_one, hj]; simp
      · simp at h

theorem diffsTo_nodup (was now : List Job) : ∀ n, ((diffsTo was now n).map Change.Id).Nodup
  | 0 => by simp [diffsTo]
  | n + 1 => by
    have ih := diffsTo_nodup was now n
    simp only [diffsTo]
    split
    · rename_i j hj
      split
      · simpa using ih
      · rename_i ha
        rw [List.map_append, List.nodup_append]
        refine ⟨ih, ?_, ?_⟩
        · cases chg was j <;> simp
        · intro a h1 b h2 he
          subst he
          obtain ⟨c, hc, rfl⟩ := List.mem_map.1 h1
          obtain ⟨d, hd, he⟩ := List.mem_map.1 h2
          obtain ⟨x, hx, hxe⟩ := diffsTo_id_take hc
          have := chg_id hd
          apply ha
          rw [List.any_eq_true]
          exact ⟨x, hx, by simp; omega⟩
    · simpa using ih

theorem sorted_pos : ∀ {x : List Change} {c : Change}, (x.Pairwise fun a b => a.Id < b.Id) → c ∈ x → x[x.countP fun y => decide (y.Id < c.Id)]? = some c
  | [], c, _, h => by simp at h
  | a :: r, c, hp, h => by
    rw [List.pairwise_cons] at hp
    rcases List.mem_cons.1 h with rfl | h
    · have : (c :: r).countP (fun y => decide (y.Id < c.Id)) = 0 := by
        rw [List.countP_eq_zero]
        intro y hy
        rcases List.mem_cons.1 hy with rfl | hy
        · simp
        · have := hp.1 y hy
          simp; omega
      rw [this]; rfl
    · have := hp.1 c h
      rw [List.countP_cons_of_pos (by simpa using this)]
      simpa using sorted_pos hp.2 h

theorem sorted_at {d x : List Change} {c : Change} (h : Sorted d x) (hc : c ∈ d) : x[d.countP fun y => decide (y.Id < c.Id)]? = some c := by
  rw [← h.1.countP_eq]
  exact sorted_pos h.2 (h.1.mem_iff.2 hc)

theorem findBad_iff (l : List Change) : decide (0 ≤ findBad l) = l.any bad := by
  unfold findBad
  cases hf : l.findIdx? bad with
  | none =>
    rw [List.findIdx?_eq_none_iff] at hf
    rw [Bool.eq_iff_iff]
    simp
    exact hf
  | some i =>
    rw [List.findIdx?_eq_some_iff_getElem] at hf
    obtain ⟨hi, h1, _⟩ := hf
    have : l.any bad = true := List.any_eq_true.2 ⟨_, List.getElem_mem hi, h1⟩
    rw [this]; simp

theorem count_perm {x d : List Change} (h : x.Perm d) : count x = count d := by
  simp only [count, cnt, h.countP_eq]
theorem any_perm {x d : List Change} (h : x.Perm d) : x.any bad = d.any bad := by
  rw [Bool.eq_iff_iff, List.any_eq_true, List.any_eq_true]
  constructor
  · rintro ⟨c, h1, h2⟩; exact ⟨c, h.mem_iff.1 h1, h2⟩
  · rintro ⟨c, h1, h2⟩; exact ⟨c, h.mem_iff.2 h1, h2⟩
theorem cnt_snoc (l : List Change) (c : Change) (m : Int) : cnt (l ++ [c]) m = cnt l m + (if hit m c = true then 1 else 0) := by
  simp only [cnt, List.countP_append, List.countP_cons, List.countP_nil]
  split <;> simp
theorem cnt_le (l : List Change) (m : Int) : 0 ≤ cnt l m ∧ cnt l m ≤ l.length := by
  have := List.countP_le_length (p := hit m) (l := l)
  simp only [cnt]; omega
end Go.Ax.Law
