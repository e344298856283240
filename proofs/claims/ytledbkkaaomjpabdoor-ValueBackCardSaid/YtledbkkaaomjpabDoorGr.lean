/- What stands in the blocks that were there before the call: the tables of unicode/utf8. -/
import Derived.Below
import Derived.Lib.DecodeN
set_option linter.unusedVariables false
namespace Go.Proofs.YtledbkkaaomjpabDoor.Ab
open Go
/-- The tables of unicode/utf8, first (block 0) and acceptRanges (block 1), in the words of the library's text. -/
def Ground (base : Nat) (w : World) : Prop := ((∀ c, c < 256 → w.cell? ⟨0, c, none⟩ = some (.int .u8 (Lib.firstT c))) ∧ (∀ i, i < 16 → w.cell? ⟨1, 2 * i, none⟩ = some (.int .u8 (Lib.accLo i)) ∧ w.cell? ⟨1, 2 * i + 1, none⟩ = some (.int .u8 (Lib.accHi i)))) ∧ 1 < base
theorem Ground.keep {base : Nat} {w w' : World} (h : Ground base w) (hb : ∀ b, b < base → w'.heap[b]? = w.heap[b]?) : Ground base w' := by
  obtain ⟨⟨h1, h2⟩, h3⟩ := h
  have e : ∀ (g o : Nat), g < base → w'.cell? ⟨g, o, none⟩ = w.cell? ⟨g, o, none⟩ := fun g o hg => World.cell?_of_block (hb g hg)
  exact ⟨⟨fun c hc => (e 0 c (by omega)).trans (h1 c hc), fun i hi => ⟨(e 1 _ h3).trans (h2 i hi).1, (e 1 _ h3).trans (h2 i hi).2⟩⟩, h3⟩
end Go.Proofs.YtledbkkaaomjpabDoor.Ab
