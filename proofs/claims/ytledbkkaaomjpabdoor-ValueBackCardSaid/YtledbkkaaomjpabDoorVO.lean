/- A value that came in, opened. -/
import Derived.Test.YtledbkkaaomjpabDoorG2
import Derived.Test.YtledbkkaaomjpabDoorV1
set_option linter.unusedVariables false
set_option linter.unusedSimpArgs false
namespace Go.Proofs.YtledbkkaaomjpabDoor.Ab
open Go Go.RowKit
theorem len_one {a : List AV} (h : a.length = 1) : ∃ x, a = [x] := by
  match a, h with
  | [x], _ => exact ⟨x, rfl⟩
theorem open_value {n : Nat} {avs : List AV} (h : isAV Tryd.prog (n + 2) 23 avs) : ∃ k m s, avs = [.v (.int .u8 k), .v (.int .i64 m), .v (.string s)] ∧ (0 ≤ k ∧ k < 256) ∧ (-9223372036854775808 ≤ m ∧ m < 9223372036854775808) ∧ s.size ≤ maxLen := by
  obtain ⟨a, r1, rfl, _, ⟨k, rfl, hk⟩, b, r2, rfl, _, ⟨m, rfl, hm⟩, c, r3, rfl, _, ⟨s, rfl, hs⟩, rfl⟩ := h
  exact ⟨k, m, s, rfl, wf_u8 hk, wf_i64 hm, hs⟩
end Go.Proofs.YtledbkkaaomjpabDoor.Ab
