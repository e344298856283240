/- Abstract values over the model's memory: calls under a guard. -/
import Derived.Test.YtledbkkaaomjpabDoorAbD
set_option linter.unusedVariables false
set_option linter.unusedSimpArgs false
namespace Go.Proofs.YtledbkkaaomjpabDoor.Ab
open Go
section
variable {P : Program} {nt : Nat} {ops : Array Oper} {Q : Post} {fr : Fr} {σ : St} {rest : List Oper} {t : Tmp} {op : Op} {ty : TypeId} {pos : String} {aft : Array Edge} {av : AV} {dst : Option Tmp}
theorem lj_opw {o : Oper} {R : AV → St → Prop} (hw : ∀ (k : Cx) (a : Act), FrOk k fr a.tmps → Region.wanted o (yielded ops a.tmps) = true) (hd : fits nt o.dst = true) (h : OpW P o (ev fr) σ R) (hK : ∀ r σ', R r σ' → LJ P nt ops Q rest (put fr o.dst (some r)) σ') : LJ P nt ops Q (o :: rest) fr σ := fun k a hσ hk hz hf => by
  unfold wpList
  rw [if_pos (hw k a hf)]
  refine .inl (h k a _ _ hσ hk (reps_of_fr hf _) fun k' v r h1 h2 h3 h4 => ?_)
  exact wpList_mono (fun _ _ _ => conc_step h2 (Act.defers_put ..) (Act.size_put ..)) _ _ _ (hK r _ h3 k' _ rfl h1 ((Act.size_put ..).trans hz) ((hf.step h2).put (by rw [hz]; exact hd) h4))
theorem lj_purey {j u : Nat} {b : Bool} {f : FuncId} {xs : Array Operand} {ts : Array TypeId} {as : List AV} {r : AV} (hd : fits nt (some t) = true) (hj : (ops[j]?).bind (·.dst) = some u) (hl : lk fr u = some (.v (.bool b))) (has : evs fr xs.toList = some as) (hent : entered P f = true) (hp : Pure P f as r) (h : LJ P nt ops Q rest ((t, r) :: fr) σ) :
    LJ P nt ops Q (⟨some t, .call { callee := .value (.func f), args := xs, argTypes := ts }, ty, pos, aft, some (j, b)⟩ :: rest) fr σ :=
  lj_opw (fun k a hf => by simp [Region.wanted, yields hf hj hl]) hd (opw_pure has hent hp) (fun r' σ' ⟨h1, h2⟩ => by rw [h1, h2]; exact h)
theorem lj_to {f : FuncId} {xs : Array Operand} {ts : Array TypeId} {as : List AV} {r : AV} {σ' : St} (hd : fits nt dst = true) (has : evs fr xs.toList = some as) (hent : entered P f = true) (hp : ACalls P f as σ (fun e σ2 => e = .ret r ∧ σ2 = σ')) (h : LJ P nt ops Q rest (put fr dst (some r)) σ') :
    LJ P nt ops Q (⟨dst, .call { callee := .value (.func f), args := xs, argTypes := ts }, ty, pos, aft, none⟩ :: rest) fr σ :=
  lj_opw (fun k a hf => by simp [Region.wanted]) hd (opw_calls has hent hp) (fun r' σ2 ⟨h1, h2⟩ => by rw [h1, h2]; exact h)
theorem lj_toy {j u : Nat} {b : Bool} {f : FuncId} {xs : Array Operand} {ts : Array TypeId} {as : List AV} {r : AV} {σ' : St} (hd : fits nt dst = true) (hj : (ops[j]?).bind (·.dst) = some u) (hl : lk fr u = some (.v (.bool b))) (has : evs fr xs.toList = some as) (hent : entered P f = true) (hp : ACalls P f as σ (fun e σ2 => e = .ret r ∧ σ2 = σ')) (h : LJ P nt ops Q rest (put fr dst (some r)) σ') :
    LJ P nt ops Q (⟨dst, .call { callee := .value (.func f), args := xs, argTypes := ts }, ty, pos, aft, some (j, b)⟩ :: rest) fr σ :=
  lj_opw (fun k a hf => by simp [Region.wanted, yields hf hj hl]) hd (opw_calls has hent hp) (fun r' σ2 ⟨h1, h2⟩ => by rw [h1, h2]; exact h)
end
end Go.Proofs.YtledbkkaaomjpabDoor.Ab
