/- From a contract over abstract values to the row's own words. -/
import Derived.Test.YtledbkkaaomjpabDoorAb11
import Derived.Test.YtledbkkaaomjpabDoorRows
import Derived.WalkKit
import Derived.ProofKit
import Derived.OpenShut
import Derived.ChangeOld
import Derived.Below
set_option linter.unusedVariables false
set_option linter.unusedSimpArgs false
namespace Go.Proofs.YtledbkkaaomjpabDoor.Ab
open Go Go.RowKit Go Go.RowKit

def k0 (w : World) : Cx := { ρ := fun _ => none, top := 0, σ := fun _ => none, base := w.heap.size, w := w }
theorem k0_ok {w : World} (hg : Ground w.heap.size w) : Ok (k0 w) := ⟨fun id h => absurd rfl h, fun id id' b h => absurd rfl h, fun id b h => absurd rfl h, Nat.le_refl _, (fun id o h => by cases h), hg⟩
theorem k0_live (w : World) (b : Nat) : ¬ (k0 w).live b := fun ⟨id, h, _⟩ => h rfl
theorem pure_start {P : Program} {f : FuncId} {args : List AV} {x : Value} (h : Pure P f args (.v x)) (w : World) (hg : Ground w.heap.size w) (vs : List Value) (hv : Reps (k0 w) args vs) : Calls P f vs.toArray w (fun e w' => e = .returned x ∧ Below w.heap.size w w') :=
  (h _ (k0 w) vs rfl (k0_ok hg) hv).mono fun e w' ⟨k', e', h1, h2, h3, h4, h5, h6⟩ => by
    subst h5; subst h1
    cases e with
    | returned v =>
      cases h4
      exact ⟨rfl, h3.os, h3.tape, h3.output, h3.size, fun b hb => (h3.frz b hb (k0_live w b)).1⟩
    | panicked ch => exact h4.elim
    | outgrown => exact h4.elim
theorem reps_nil (k : Cx) : Reps k [] [] := ⟨rfl, fun j a u h _ => by simp at h⟩
theorem reps_cons {k : Cx} {a : AV} {v : Value} {l : List AV} {vs : List Value} (h : Rep k a v) (h' : Reps k l vs) : Reps k (a :: l) (v :: vs) := by
  refine ⟨by simp [h'.1], fun j b u hb hu => ?_⟩
  cases j with
  | zero => simp at hb hu; subst hb; subst hu; exact h
  | succ j => exact h'.2 j b u (by simpa using hb) (by simpa using hu)

/-- What is told of a slice of integers that came in. -/
def IsRow (k : IntKind) (w : World) (a : Option Addr) (len cap : Nat) (zs : List Int) : Prop :=
  (a = none ∧ len = 0 ∧ cap = 0 ∧ zs = []) ∨
  ∃ x, a = some x ∧ len ≤ cap ∧ cap ≤ maxLen ∧ zs.length = cap ∧ (∀ i, i < zs.length → w.cell? (x.add i) = some (.int k (zs.getD i 0))) ∧ ∀ n ∈ zs, (Lit.int k n).wf = true
theorem okWide_spot {P : Program} {w : World} {base : Nat} {t e : TypeId} {a : Addr} {len cap : Nat} (ht : P.underlying t = some (.slice e)) (h : Value.okWide P w .any base t (.slice (some a) len cap)) : a.spot = none ∧ a.block < w.heap.size := by
  have h' : Cell.ok P w .any base t (.slice (some a) len cap) := by
    simpa [Value.okWide, Cell.okWide, ht] using h
  have h2 : len ≤ cap ∧ (cap : Int) ≤ IntKind.i64.max ∧ w.has P .any base a e cap := by simpa [Cell.ok, ht] using h'
  obtain ⟨_, _, _, h3, row, cells, h4, _⟩ := h2
  refine ⟨h3, ?_⟩
  unfold World.shape? at h4
  split at h4
  · rename_i h5; exact (Array.getElem?_eq_some_iff.1 h5).1
  · cases h4
theorem isrow_rep {P : Program} {w : World} {base : Nat} {t e : TypeId} {k : IntKind} {a : Option Addr} {len cap : Nat} {zs : List Int} (ht : P.underlying t = some (.slice e)) (hw : Value.okWide P w .any base t (.slice a len cap)) (h : IsRow k w a len cap zs) : Rep (k0 w) (.sl none false 1 ((zs.take len).map fun z => [.v (.int k z)])) (.slice a len cap) := by
  rcases h with ⟨rfl, rfl, rfl, rfl⟩ | ⟨x, rfl, h1, h2, h3, h4, h5⟩
  · exact .slnil (by simp)
  · obtain ⟨hs, hlt⟩ := okWide_spot ht hw
    obtain ⟨b, o, spot⟩ := x
    simp only at hs hlt
    subst hs
    have hl : ((zs.take len).map fun z => [AV.v (.int k z)]).length = len := by simp; omega
    have hgoal : Rep (k0 w) (.sl none false 1 ((zs.take len).map fun z => [AV.v (.int k z)])) (.slice (some ⟨b, o, none⟩) ((zs.take len).map fun z => [AV.v (.int k z)]).length cap) := by
      have hget : ∀ (i j : Nat) e a, ((zs.take len).map fun z => [AV.v (.int k z)])[i]? = some e → e[j]? = some a → j = 0 ∧ i < zs.length ∧ a = .v (.int k (zs.getD i 0)) := fun i j e a he ha => by
        simp only [List.getElem?_map, Option.map_eq_some_iff] at he
        obtain ⟨z, hz, rfl⟩ := he
        rw [List.getElem?_take] at hz
        split at hz
        · cases j with
          | zero =>
            have : zs.getD i 0 = z := by rw [List.getD_eq_getElem?_getD, hz]; rfl
            simp at ha
            exact ⟨rfl, (List.getElem?_eq_some_iff.1 hz).1, by rw [← ha, this]⟩
          | succ j => simp at ha
        · cases hz
      refine .sl (f := fun i j => .int k (zs.getD i 0)) (by simp) (by omega) (by omega) (by simp) (fun i e he => ?_) (fun _ => ⟨hlt, k0_live w b⟩) (fun i j e a he ha => ?_) (fun i j e a he ha => ?_)
      · simp only [List.getElem?_map, Option.map_eq_some_iff] at he
        obtain ⟨_, _, rfl⟩ := he
        rfl
      · obtain ⟨rfl, hi, _⟩ := hget i j e a he ha
        have := h4 i hi
        rw [Go.WideShapes.add_plain] at this
        refine ⟨?_, rfl⟩
        simpa [k0] using this
      · obtain ⟨rfl, hi, rfl⟩ := hget i j e a he ha
        exact .v rfl
    rw [hl] at hgoal
    exact hgoal
theorem isrow_mem {k : IntKind} {w : World} {a : Option Addr} {len cap : Nat} {zs : List Int} (h : IsRow k w a len cap zs) : ∀ n ∈ zs, (Lit.int k n).wf = true := by
  rcases h with ⟨_, _, _, rfl⟩ | ⟨_, _, _, _, _, _, h⟩
  · intro n hn; cases hn
  · exact h
theorem wf_u8 {n : Int} (h : (Lit.int .u8 n).wf = true) : 0 ≤ n ∧ n < 256 := by
  have := bounds_u8 h
  omega
theorem wf_i64 {n : Int} (h : (Lit.int .i64 n).wf = true) : -9223372036854775808 ≤ n ∧ n < 9223372036854775808 := by
  have := bounds_i64 h
  omega
theorem isrow_bytes {w : World} {a : Option Addr} {len cap : Nat} {zs : List Int} (h : IsRow .u8 w a len cap zs) : ((zs.take len).map fun z => [AV.v (.int .u8 z)]) = bys ((zs.take len).map fun z => UInt8.ofNat z.toNat) := by
  unfold bys
  rw [List.map_map]
  refine List.map_congr_left fun z hz => ?_
  obtain ⟨h0, h1⟩ := wf_u8 (isrow_mem h z (List.mem_of_mem_take hz))
  simp only [Function.comp_apply, List.cons.injEq, AV.v.injEq, Value.int.injEq, true_and, and_true]
  have : (UInt8.ofNat z.toNat).toNat = z.toNat := by simp; omega
  omega
end Go.Proofs.YtledbkkaaomjpabDoor.Ab
