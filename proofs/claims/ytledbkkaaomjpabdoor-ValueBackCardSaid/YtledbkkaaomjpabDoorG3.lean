/- Bytes that came in, opened. -/
import Derived.Test.YtledbkkaaomjpabDoorG2
set_option linter.unusedVariables false
set_option linter.unusedSimpArgs false
namespace Go.Proofs.YtledbkkaaomjpabDoor.Ab
open Go Go.RowKit
theorem open_bytes {P : Program} {n : Nat} {t e : TypeId} {avs : List AV} (ht : P.underlying t = some (.slice e)) (he : P.underlying e = some (.int .u8)) (hc : P.cellsOf e = 1) (h : isAV P (n + 2) t avs) : ∃ l : List UInt8, avs = [.sl none false 1 (bys l)] ∧ l.length ≤ maxLen := by
  simp only [isAV, ht, he, hc] at h
  obtain ⟨els, rfl, hl, h⟩ := h
  obtain ⟨xs, rfl, _⟩ := list_of (g := fun b : UInt8 => [AV.v (.int .u8 b.toNat)]) (Q := fun _ => True) els (fun el hel => by
    obtain ⟨_, m, rfl, hm⟩ := h el hel
    obtain ⟨h0, h1⟩ := wf_u8 hm
    refine ⟨UInt8.ofNat m.toNat, ?_, trivial⟩
    have : (UInt8.ofNat m.toNat).toNat = m.toNat := by simp; omega
    simp only [this, List.cons.injEq, AV.v.injEq, Value.int.injEq, true_and, and_true]
    omega)
  exact ⟨xs, rfl, by simpa using hl⟩
end Go.Proofs.YtledbkkaaomjpabDoor.Ab
