/- Abstract values over the model's memory: what is kept. -/
import Derived.Test.YtledbkkaaomjpabDoorAbX
set_option linter.unusedVariables false
set_option linter.unusedSimpArgs false
namespace Go.Proofs.YtledbkkaaomjpabDoor.Ab
open Go
theorem St.le_any {σ τ : St} {a : Nat} {x : AObj} (h : σ.le τ) (ha : σ a = none := by first | assumption | exact St.ns1 (by assumption) | exact St.ns2 (by assumption) | exact St.ns3 (by assumption) | exact St.ns4 (by assumption) | exact St.ns5 (by assumption) | exact St.ns6 (by assumption) | exact St.ns7 (by assumption) | exact St.ns8 (by assumption) | exact St.ns9 (by assumption)) : σ.le (τ.set a x) := fun i o e => by
  by_cases hi : i = a
  · subst hi; rw [ha] at e; cases e
  · rw [St.set_ne _ _ _ hi]; exact h i o e
/-- The end of a call that answers r. -/
theorem gvs {σ σ' : St} {r r0 : AV} (hf : Fin σ σ' r0 r) (hle : σ.le σ' := by repeat' (first | exact St.le_refl _ | refine St.le_any ?_)) : Gives σ r (.ret r0) σ' := gives hle hf
theorem gv {σ σ' : St} {r r0 : AV} (hf : Wk r0 r) (hle : σ.le σ' := by repeat' (first | exact St.le_refl _ | refine St.le_any ?_)) : Gives σ r (.ret r0) σ' := gives hle (.wk hf)
theorem ge {σ σ' : St} {r r0 : AV} (hf : r0 = r) (hle : σ.le σ' := by repeat' (first | exact St.le_refl _ | refine St.le_any ?_)) : Gives σ r (.ret r0) σ' := gives hle (.wk (Wk.of_eq hf))
/-- Less may be told of what an operation hands on. -/
theorem OpJ.weak {P : Program} {o : Oper} {E : Operand → Option AV} {σ : St} {R : Option AV → St → Prop} {b : AV} (h : OpJ P o E σ (fun r σ' => σ' = σ ∧ ∃ a, r = some a ∧ Wk a b)) (hR : R (some b) σ) : OpJ P o E σ R := fun k e hσ hk hr => by
  obtain ⟨k', n, r, h1, h2, h3, ⟨h4, a, rfl, hw⟩, v, hv, hrep⟩ := h k e hσ hk hr
  exact ⟨k', n, some b, h1, h2, h3, h4 ▸ hR, v, hv, hw k' v hrep⟩
section
variable {P : Program} {nt : Nat} {ops : Array Oper} {Q : Post} {fr : Fr} {σ : St} {rest : List Oper} {t : Tmp} {ty : TypeId} {pos : String} {aft : Array Edge}
/-- A slice is written out. -/
theorem jlit {lt et : TypeId} {n sz : Nat} {parts : Array (Nat × Operand)} {zs out : List AV} {qs : List (Nat × AV)} (h : LJ P nt ops Q rest ((t, .sl (some false) true sz (chunk sz n out)) :: fr) σ) (ht : P.underlying lt = some (.slice et) := by exact rfl) (hs : sizeIs P et = some sz := by exact rfl) (hz : zeroIs P et = some zs := by exact rfl) (hzl : zs.length = sz := by exact rfl) (hpos : Nat.blt 0 sz = true := by exact rfl) (hn : Nat.ble (n * sz) 16777216 = true := by exact rfl) (hq : evParts (ev fr) parts.toList = some qs := by exact rfl) (hf : afill (fun i => some (i * sz, sz)) ((List.replicate n zs).flatten) qs = some out := by exact rfl) (hol : out.length = n * sz := by exact rfl) (hd : fits nt (some t) = true := by exact rfl) :
    LJ P nt ops Q (⟨some t, .buildSlice lt n parts, ty, pos, aft, none⟩ :: rest) fr σ := lj_v hd (fun R hR => opj_lit rfl ht hs hz hzl (Nat.blt_eq.mp hpos) (Nat.le_of_ble_eq_true hn) hq hf hol hR) h
theorem jlito {lt et : TypeId} {n sz : Nat} {parts : Array (Nat × Operand)} {zs out : List AV} {qs : List (Nat × AV)} (h : ∀ id, σ id = none → LJ P nt ops Q rest ((t, .osl id sz 0 n) :: fr) (σ.set id (.row sz et (chunk sz n out)))) (ht : P.underlying lt = some (.slice et) := by exact rfl) (hs : sizeIs P et = some sz := by exact rfl) (hz : zeroIs P et = some zs := by exact rfl) (hzl : zs.length = sz := by exact rfl) (hpos : Nat.blt 0 sz = true := by exact rfl) (hn : Nat.ble (n * sz) 16777216 = true := by exact rfl) (hq : evParts (ev fr) parts.toList = some qs := by exact rfl) (hf : afill (fun i => some (i * sz, sz)) ((List.replicate n zs).flatten) qs = some out := by exact rfl) (hol : out.length = n * sz := by exact rfl) (hd : fits nt (some t) = true := by exact rfl) :
    LJ P nt ops Q (⟨some t, .buildSlice lt n parts, ty, pos, aft, none⟩ :: rest) fr σ := lj_f hd (fun R hR => opj_lit_own rfl ht hs hz hzl (Nat.blt_eq.mp hpos) (Nat.le_of_ble_eq_true hn) hq hf hol hR) h
theorem elem_of {lt et : TypeId} {sz : Nat} (ht : P.underlying lt = some (.slice et)) (hs : sizeIs P et = some sz) (hz : (zeroIs P et).map (·.length) = some sz) (hpos : Nat.blt 0 sz = true) : Elem P lt et sz := ⟨ht, hs, hz, Nat.blt_eq.mp hpos⟩
/-- append on a slice that has no room behind it, or is nil. -/
theorem japp (by_ : Nat) {lt et : TypeId} {sz : Nat} {x y : Operand} {nl : Option Bool} {full : Bool} {els news : List (List AV)} {ts : Array TypeId} {av : AV} (h : LJ P nt ops Q rest ((t, .sl none false sz (els ++ news)) :: fr) σ) (hts : ts = #[lt, lt] := by exact rfl) (ht : P.underlying lt = some (.slice et) := by exact rfl) (hsz : sizeIs P et = some sz := by exact rfl) (hz : (zeroIs P et).map (·.length) = some sz := by exact rfl) (hpos : Nat.blt 0 sz = true := by exact rfl) (hby : bytesIs P et = some by_ := by exact rfl) (hb1 : Nat.blt 0 by_ = true := by exact rfl) (hx : ev fr x = some (.sl nl full sz els) := by exact rfl) (hfull : full = true ∨ nl = some true := by first | exact .inl rfl | exact .inr rfl) (hy : ev fr y = some av := by exact rfl) (hs : srcOf σ av = some (sz, news) := by exact rfl) (hd : fits nt (some t) = true := by exact rfl) (hb : (els.length + news.length) * by_ ≤ 140737488355328 := by first | omega | (simp only [length_bys, length_chunk, List.length_nil, List.length_cons, List.length_map, Nat.mul_one]; omega)) :
    LJ P nt ops Q (⟨some t, .call { callee := .builtin .append, args := #[x, y], argTypes := ts }, ty, pos, aft, none⟩ :: rest) fr σ :=
  lj_v hd (fun R hR => OpJ.weak (opj_append_sl rfl hts (elem_of ht hsz hz hpos) hby hx hfull hy hs hb (Nat.blt_eq.mp hb1) (fun h0 => ⟨rfl, _, rfl, by rw [h0, List.append_nil]; exact Wk.sl _ _ _ _⟩) (fun _ => ⟨rfl, _, rfl, Wk.sl _ _ _ _⟩)) hR) h
end
end Go.Proofs.YtledbkkaaomjpabDoor.Ab
