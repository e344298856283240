/- The texts AbSq, one behind the other. -/
import Derived.Test.YtbpoeggmpjepfaaDoorM1
import Derived.Test.YtbpoeggmpjepfaaDoorM2
import Derived.Test.YtbpoeggmpjepfaaDoorM3
import Derived.Test.YtbpoeggmpjepfaaDoorM4
import Derived.Test.YtbpoeggmpjepfaaDoorM5
import Derived.Test.YtbpoeggmpjepfaaDoorProg
/- Abstract values over the model's memory: a part of a string, under a guard. -/
set_option linter.unusedVariables false
set_option linter.unusedSimpArgs false
set_option maxRecDepth 20000
namespace Go.Proofs.YtbpoeggmpjepfaaDoor.Ab
open Go
section
variable {P : Program} {nt : Nat} {ops : Array Oper} {Q : Post} {l : List Oper} {c : List (List Nat)} {m n0 : Nat} {kp : Bool} {bs : List Nat} {σ σ0 σ1 : St} {K : Fr → Prop} {K2 : Fr → St → Prop} {i : Nat} {fr : Fr} {rest : List Oper} {t : Tmp} {ty : TypeId} {pos : String} {aft : Array Edge}
theorem jsq {st : TypeId} {x : Operand} {lo hi : Option Operand} {s : ByteArray} {b k : Int} {j u : Nat} {w cc : Bool} {a : AV} (hb : cc = true → 0 ≤ b ∧ b ≤ k ∧ k ≤ s.size) (h : LJ P nt ops Q rest ((t, .mb cc (.v (.string (s.extract b.toNat k.toNat)))) :: fr) σ) (hj : (ops[j]?).bind (·.dst) = some u := by exact rfl) (hl : lk fr u = some a := by exact rfl) (hg : gc a w = some cc := by exact rfl) (ht : P.underlying st = some .string := by exact rfl) (hx : ev (strip fr) x = some (.v (.string s)) := by exact rfl) (hlo : bound (ev (strip fr)) 0 lo = some b := by exact rfl) (hhi : bound (ev (strip fr)) s.size hi = some k := by exact rfl) (hn : Needs cc fr (Op.slice st x lo hi none).operands.toList := by repeat' (first | exact True.intro | refine And.intro ?_ ?_ | exact nd0 rfl | exact nd1 rfl | exact nd2 rfl | exact nd3 rfl | exact nd4 rfl)) (hd : fits nt (some t) = true := by exact rfl) : LJ P nt ops Q (⟨some t, .slice st x lo hi none, ty, pos, aft, some (j, w)⟩ :: rest) fr σ :=
  lj_q hd hj hl hg hn (fun hc R hR => opj_slice_str rfl ht hx hlo hhi (hb hc).1 (hb hc).2.1 (hb hc).2.2 hR) h
theorem dsq {st : TypeId} {x : Operand} {lo hi : Option Operand} {s : ByteArray} {b k : Int} {j u : Nat} {w cc : Bool} {a : AV} (hb : cc = true → 0 ≤ b ∧ b ≤ k ∧ k ≤ s.size) (h : DJ P l c m σ0 σ1 K (i + 1) rest ((t, .mb cc (.v (.string (s.extract b.toNat k.toNat)))) :: fr)) (him : Nat.beq i m = false := by exact rfl) (hj : dstOf l j = some u := by exact rfl) (hl : lk fr u = some a := by exact rfl) (hg : gc a w = some cc := by exact rfl) (ht : P.underlying st = some .string := by exact rfl) (hx : ev (strip fr) x = some (.v (.string s)) := by exact rfl) (hlo : bound (ev (strip fr)) 0 lo = some b := by exact rfl) (hhi : bound (ev (strip fr)) s.size hi = some k := by exact rfl) (hn : Needs cc fr (Op.slice st x lo hi none).operands.toList := by repeat' (first | exact True.intro | refine And.intro ?_ ?_ | exact nd0 rfl | exact nd1 rfl | exact nd2 rfl | exact nd3 rfl | exact nd4 rfl)) : DJ P l c m σ0 σ1 K i (⟨some t, .slice st x lo hi none, ty, pos, aft, some (j, w)⟩ :: rest) fr :=
  dj_q him hj hl hg hn (fun hc R hR => opj_slice_str rfl ht hx hlo hhi (hb hc).1 (hb hc).2.1 (hb hc).2.2 hR) (fun hc R hR => opj_slice_str rfl ht hx hlo hhi (hb hc).1 (hb hc).2.1 (hb hc).2.2 hR) h
theorem jff {op : Op} {j u : Nat} {w cc : Bool} {a : AV} (h : LJ P nt ops Q rest ((t, .mb cc (.v (.bool false))) :: fr) σ) (hj : (ops[j]?).bind (·.dst) = some u := by exact rfl) (hl : lk fr u = some a := by exact rfl) (hg : gc a w = some cc := by exact rfl) (hf : cc = false := by exact rfl) (hd : fits nt (some t) = true := by exact rfl) : LJ P nt ops Q (⟨some t, op, ty, pos, aft, some (j, w)⟩ :: rest) fr σ :=
  lj_q0 hd hj hl hg (fun hc => by rw [hf] at hc; cases hc) h
theorem jtb {sb db et : TypeId} {ub : TypeDesc} {x : Operand} {b : ByteArray} {lb : List UInt8} (hm : b.size ≤ maxLen) (hb : b.data.toList = lb) (h : LJ P nt ops Q rest ((t, .sl none false 1 (bys lb)) :: fr) σ) (hs : P.underlying sb = some ub := by exact rfl) (hdd : P.underlying db = some (.slice et) := by exact rfl) (he : P.underlying et = some (.int .u8) := by exact rfl) (hx : ev fr x = some (.v (.string b)) := by exact rfl) (hd : fits nt (some t) = true := by exact rfl) : LJ P nt ops Q (⟨some t, .convert sb db x, ty, pos, aft, none⟩ :: rest) fr σ := by
  subst hb
  exact lj_v hd (fun R hR => OpJ.weak (opj_to_bytes rfl hs hdd he hx hm ⟨rfl, _, rfl, Wk.sl _ _ _ _⟩) hR) h
end
end Go.Proofs.YtbpoeggmpjepfaaDoor.Ab
