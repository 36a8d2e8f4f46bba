/-
  From a contract to what a row asks: the world has at most new blocks.
-/
import Derived.Test.YtjpeimmjggkkjaaAxG
import Derived.RowKit3
set_option linter.all false
namespace Go.Ax
open Go.RowKit

/-- All that there is stays as it is. -/
def Gam.whole (w : World) : Gam := ⟨w, fun b => b < w.heap.size, fun b => b < w.heap.size, fun _ h => h⟩

theorem WOK.grown {w w' : World} (h : WOK (Gam.whole w) w') : Grown w w' := by
  refine ⟨⟨h.os.1, h.output, fun i hi => ?_⟩, h.os.2, h.size⟩
  have he : w'.heap[i]? = w.heap[i]? := (h.prot i hi).2
  rw [he]
  have hs : w.heap[i]? = some w.heap[i] := Array.getElem?_eq_getElem hi
  rw [hs]
  cases w.heap[i] <;> simp

theorem SatHF.empty (w : World) : SatHF (Gam.whole w) [] w [] (fun _ => []) :=
  ⟨rfl, fun l o h => by simp at h, fun l o l' o' b h => by simp at h, fun l o b h => by simp at h, ⟨fun b hb => ⟨hb, rfl⟩, Nat.le_refl _, .rfl, rfl, rfl⟩⟩

/-- A function that answers true, and leaves all as it is. -/
theorem SpecOK.walk {P : Program} {f : FuncId} {S : SpecT} (h : SpecOK P f S) {args : List AV} {vs : List Value} {w : World} (hr : RVs (Gam.whole w) [] args vs) (hk : S args [] fun v _ _ => v = .bool true) :
    Calls P f vs.toArray w fun e w' => e = .returned (.bool true) ∧ Grown w w' := by
  refine (h args [] _ hk (Gam.whole w) w [] _ vs (.empty w) hr).mono fun e w' he => ?_
  obtain ⟨v, av, H', T, e', Fs', rfl, hav, hrv, hs, _⟩ := he
  subst hav
  simp only [RV] at hrv
  subst hrv
  exact ⟨rfl, hs.wok.grown⟩
end Go.Ax
