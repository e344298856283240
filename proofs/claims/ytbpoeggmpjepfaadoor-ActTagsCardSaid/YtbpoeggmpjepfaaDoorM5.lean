/- The texts V1, one behind the other. -/
import Derived.Test.YtbpoeggmpjepfaaDoorM1
import Derived.Test.YtbpoeggmpjepfaaDoorM2
import Derived.Test.YtbpoeggmpjepfaaDoorM3
import Derived.Test.YtbpoeggmpjepfaaDoorM4
import Derived.Test.YtbpoeggmpjepfaaDoorProg
/- Values: what two of them are asked; how they are made. -/
set_option linter.unusedVariables false
set_option linter.unusedSimpArgs false
set_option maxRecDepth 20000
namespace Go.Proofs.YtbpoeggmpjepfaaDoor.Ab
open Go
attribute [local irreducible] thn inb endR CJ LJ OpJ DJ

theorem St.le_set2' {σ : St} {a b : Nat} {x y : AObj} (ha : σ a = none) (hb : (σ.set a x) b = none) : σ.le ((σ.set a x).set b y) := St.le_trans (St.le_set _ ha) (St.le_set _ hb)
abbrev vv (k n : Int) (s : ByteArray) : AV := .agg [.v (.int .u8 k), .v (.int .i64 n), .v (.string s)]
def sameV (k n : Int) (s : ByteArray) (k' n' : Int) (s' : ByteArray) : Bool := decide (k = k') && (decide (n = n') && (decide (s = s') && true))
def holdsV (p k n : Int) (s : ByteArray) (k' n' : Int) (s' : ByteArray) : Bool :=
  if p = 0 then sameV k n s k' n' s' else if p = 1 then !sameV k n s k' n' s' else if k ≠ 1 ∨ k' ≠ 1 then false else
  if p = 2 then decide (n < n') else if p = 3 then decide (n ≤ n') else if p = 4 then decide (n' < n) else if p = 5 then decide (n' ≤ n) else false
theorem guard_vv : Tryd.prog.eqGuardType Tryd.prog.depth 30 = false := by kernel_rfl
theorem eq_vv (k n : Int) (s : ByteArray) (k' n' : Int) (s' : ByteArray) : eqV Tryd.prog 5 30 (vv k n s) (vv k' n' s') = some (sameV k n s k' n' s') := by rfl
theorem p_holds (p k n : Int) (s : ByteArray) (k' n' : Int) (s' : ByteArray) : Pure Tryd.prog 82 [.v (.int .u8 p), vv k n s, vv k' n' s'] (.v (.bool (holdsV p k n s k' n' s'))) := by
  refine enterW Tryd.func82 rfl rfl rfl rfl (fun σ => ?_)
  repeat' (first|(first|(refine jl ?_;first|refine j7 ?_|refine j1 ?_|refine j4 ?_|refine j9 ?_|refine j12 (fun id hid=>?_)|refine j14 ?_|refine j16 ?_|refine jeq ?_|refine jne ?_)|(refine jc ?_;first|refine c1 ?_|refine c2 ?_|refine c5 ?_|refine c6 ?_|refine c7 ?_)|refine n1 ?_|refine n2 ?_|refine n6 ?_|refine n10 ?_|refine n11 ?_)|(refine c9 (fun h=>?_) (fun h=>?_)<;>(try simp only [Bool.or_eq_true, Bool.and_eq_true, Bool.or_eq_false_iff, Bool.and_eq_false_iff, Bool.not_eq_true', Bool.not_eq_false', decide_eq_true_eq, decide_eq_false_iff_not, Bool.false_eq_true, Bool.true_eq_false, reduceCtorEq] at h)))
  all_goals exact ge (by simp_all [holdsV, sameV, packed])
theorem p_number (n : Int) : Pure Tryd.prog 42 [.v (.int .i64 n)] (vv 1 n ⟨#[]⟩) := by
  refine enterW Tryd.func42 rfl rfl rfl rfl (fun σ => ?_)
  repeat (first|(refine jl ?_;first|refine jb ?_|refine j1 ?_|refine j4 ?_|refine j13 (fun id hid=>?_)|refine j17t ?_)|(refine jc ?_;first|refine c1 ?_|refine c2 ?_|refine c7 ?_)|refine n14 ?_)
  exact gives (by first | exact St.le_set _ (by assumption) | (rw [St.set_set]; exact St.le_set _ (by assumption))) (Fin.refl _ _ _)
def signS (p : Int) : ByteArray := if p = 0 then ⟨#[61]⟩ else if p = 1 then ⟨#[60, 62]⟩ else if p = 2 then ⟨#[60]⟩ else if p = 3 then ⟨#[60, 61]⟩ else if p = 4 then ⟨#[62]⟩ else if p = 5 then ⟨#[62, 61]⟩ else ⟨#[]⟩
end Go.Proofs.YtbpoeggmpjepfaaDoor.Ab
