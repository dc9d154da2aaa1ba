/- The chapter's examples, as the law's walk calls them. -/
import Derived.Test.YtgfcaneemijmeaaGreatDoorEnZ
namespace Go.Proofs.YtgfcaneemijmeaaGreatDoor.PModuleSame
open Go.RowKit
abbrev TablesIn := Go.Eng.TablesIn
theorem TablesIn.below {w w' : World} (h : TablesIn w) (hb : Below w.heap.size w w') : TablesIn w' := by
  obtain ⟨⟨t, fr, h1⟩, ⟨t', fr', h2⟩, h3⟩ := h
  exact ⟨⟨t, fr, by rw [hb.block 0 (by omega)]; exact h1⟩, ⟨t', fr', by rw [hb.block 2 (by omega)]; exact h2⟩, Nat.le_trans h3 hb.size⟩
def armillarylaw17_works.f : Option Bool := some true
theorem armillarylaw17_works.calls (r : Bool) (w : World) (hTab : TablesIn w) (h : armillarylaw17_works.f = some r) : Calls Tryz.prog 7 #[] w fun e w' => e = .returned (.bool r) ∧ Below w.heap.size w w' := by
  cases h
  exact Go.Eng.works_calls hTab
end Go.Proofs.YtgfcaneemijmeaaGreatDoor.PModuleSame
