/- Abstract values over the model's memory: places in arrays. -/
import Derived.Test.YtledbkkaaomjpabDoorAbF
set_option linter.unusedVariables false
set_option linter.unusedSimpArgs false
namespace Go.Proofs.YtledbkkaaomjpabDoor.Ab
open Go
section
variable {P : Program} {o : Oper} {E : Operand → Option AV} {σ : St} {R : Option AV → St → Prop}
theorem run_indexArr {t e : TypeId} {sz n : Nat} (ht : P.underlying t = some (.array n e)) (hs : sizeIs P e = some sz) (b p : Nat) (kk : IntKind) (i : Int) (h0 : 0 ≤ i) (h1 : i < n) (w : World) :
    (Instr.indexAt t (.pointer (some ⟨b, p, none⟩)) (.int kk i)).run P w = .ok (.pointer (some ⟨b, p + i.toNat * sz, none⟩)) w := by
  simp only [Instr.indexAt, Instr.sureAddr, asIntOf, Sem.run_bind, Sem.run_pure, Result.andThen_ok, run_underlying ht]
  rw [if_pos ⟨h0, h1⟩]
  simp only [Sem.run_bind, run_sizeIs hs, Result.andThen_ok, Sem.run_pure, Addr.add_mid]
theorem opj_indexAddr_arr {t et : TypeId} {x ix : Operand} {id sz sz' n i j : Nat} {kk : IntKind} {m : Int} (ho : o.op = .indexAddr t x ix) (ht : P.underlying t = some (.array n et)) (hs : sizeIs P et = some sz') (hx : E x = some (.ptr id sz i j)) (hi : E ix = some (.v (.int kk m)))
    (h0 : 0 ≤ m) (h1 : m < n) (hR : R (some (.ptr id sz i (j + m.toNat * sz'))) σ) : OpJ P o E σ R :=
  opj_quiet _ (fun k e hσ hk hr => by
    have h := hr x (by rw [ho]; simp [Op.operands]) _ hx
    have h2 := rep_v (hr ix (by rw [ho]; simp [Op.operands]) _ hi)
    generalize hu : e x = u at h
    cases h with
    | @ptr _ _ _ _ b ht' hb =>
      refine ⟨.pointer (some ⟨b, i * sz + (j + m.toNat * sz'), none⟩), ?_, .ptr ht' hb⟩
      unfold execOp
      simp only [ho, hu, h2, Sem.run_bind, run_indexArr ht hs b _ kk m h0 h1, Result.andThen_ok, Sem.run_pure, Nat.add_assoc]) hR
theorem opj_build_arr {t et : TypeId} {n sz : Nat} {parts : Array (Nat × Operand)} {zs out : List AV} {qs : List (Nat × AV)} (ho : o.op = .build t parts) (ht : P.underlying t = some (.array n et)) (hs : sizeIs P et = some sz) (hz : zeroIs P t = some zs) (hq : evParts E parts.toList = some qs) (hf : afill (fun i => some (i * sz, sz)) zs qs = some out) (hR : R (some (.agg out)) σ) : OpJ P o E σ R :=
  opj_quiet _ (fun k e hσ hk hr => by
    obtain ⟨z, h1, h2⟩ := run_zeroIs hz k
    obtain ⟨h3, h4⟩ := evParts_ok hr parts.toList qs (fun p hp => by rw [ho]; simp only [Op.operands, List.mem_toArray, List.mem_map]; exact ⟨p, hp, rfl⟩) hq
    obtain ⟨vs', h5, h6⟩ := fill_rep (k := k) (fun i => some (i * sz, sz)) qs (parts.toList.map fun (i, x) => (i, e x)) zs out z.cells h3 h4 h2 hf
    refine ⟨.agg vs', ?_, .agg (by simpa using h6.1) (fun j u hu => ?_) (fun j a u ha hu => (h6.2 j a u ha (by simpa [← Array.getElem?_toList] using hu)).2)⟩
    · unfold execOp
      simp only [ho, Instr.build, Sem.run_bind, h1, Result.andThen_ok, run_underlying ht, run_sizeIs hs, Array.toList_map]
      rw [h5]
      rfl
    · have hj : j < out.length := by rw [← h6.1]; have := (Array.getElem?_eq_some_iff.1 hu).1; simpa using this
      exact (h6.2 j _ u (List.getElem?_eq_getElem hj) (by simpa [← Array.getElem?_toList] using hu)).1) hR
end
end Go.Proofs.YtledbkkaaomjpabDoor.Ab
