/- Go's own utf8.ValidString, by the shelf's contract. -/
import Derived.Test.YtledbkkaaomjpabDoorV3
import Derived.Test.YtledbkkaaomjpabDoorShelf
set_option linter.unusedVariables false
set_option linter.unusedSimpArgs false
namespace Go.Proofs.YtledbkkaaomjpabDoor.Ab
open Go Go.RowKit
theorem pure_below {P : Program} {f : FuncId} {args : List AV} {x : Value} (hx : x.oneCell' = true) (h : ∀ (k : Cx) (vs : List Value), Ok k → Reps k args vs → Calls P f vs.toArray k.w (fun e w' => e = .returned x ∧ Below k.w.heap.size k.w w')) : Pure P f args (.v x) := fun σ k vs hσ hk hv =>
  (h k vs hk hv).mono fun e w' ⟨h1, h2⟩ => by
    obtain ⟨hok, hst⟩ := hk.world w' h2.os h2.tape h2.output h2.size h2.block
    subst h1
    exact ⟨{ k with w := w' }, .ret (.v x), rfl, hok, hst, .v hx, rfl, hσ ▸ St.le_refl _⟩
theorem reps_one {k : Cx} {x : Value} {vs : List Value} (h : Reps k [.v x] vs) : vs = [x] := by
  obtain ⟨h1, h2⟩ := h
  match vs, h1 with
  | [v], _ =>
    have := h2 0 (.v x) v rfl rfl
    cases this
    rfl
theorem p_valid (s : ByteArray) (hs : s.size ≤ 9223372036854775807) : Pure Tryd.prog 28 [.v (.string s)] (.v (.bool (Lib.validD s.data.toList))) :=
  pure_below rfl fun k vs hk hv => by
    rw [reps_one hv]
    exact Any.utf8_ValidString Tryd.laysValid s k.w hs hk.gr.1
end Go.Proofs.YtledbkkaaomjpabDoor.Ab
