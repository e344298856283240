/- Abstract values over the model's memory: literals and appends that are rows of our own. -/
import Derived.Test.YtledbkkaaomjpabDoorAbE
set_option linter.unusedVariables false
set_option linter.unusedSimpArgs false
namespace Go.Proofs.YtledbkkaaomjpabDoor.Ab
open Go
section
variable {P : Program} {o : Oper} {E : Operand → Option AV} {σ : St} {R : Option AV → St → Prop}
theorem own_new {k : Cx} (hk : Ok k) {et : TypeId} {sz : Nat} {els : List (List AV)} {vs : List Value} (hr : RowRep k sz els vs) (hm : els.length ≤ maxLen) {cap : Nat} (hc : els.length ≤ cap) (hfit : cap * sz ≤ vs.length) :
    Ok (k.add (some k.w.heap.size) (.row sz et els) (k.w.alloc (.cells vs.toArray et))) ∧ Step k (k.add (some k.w.heap.size) (.row sz et els) (k.w.alloc (.cells vs.toArray et))) ∧
    Rep (k.add (some k.w.heap.size) (.row sz et els) (k.w.alloc (.cells vs.toArray et))) (.osl k.top sz 0 els.length) (.slice (some ⟨k.w.heap.size, 0, none⟩) els.length cap) := by
  have hst := hk.add_step (.cells vs.toArray et) (.row sz et els)
  refine ⟨hk.add _ _ (RowRep.obj (b := k.w.heap.size) (cs := vs.toArray) (by simp [Cx.add]) (heap_alloc_new _ _) (by simpa using hr.step hst)), hst, ?_⟩
  exact .osl (by simp [Cx.add]) (by simp [Cx.add]) (fun _ => by simp) hc hm ⟨vs.toArray, et, (0, 0), heap_alloc_new _ _, by simpa using hfit⟩
theorem opj_lit_own {t et : TypeId} {n sz : Nat} {parts : Array (Nat × Operand)} {zs out : List AV} {qs : List (Nat × AV)} (ho : o.op = .buildSlice t n parts) (ht : P.underlying t = some (.slice et)) (hs : sizeIs P et = some sz) (hz : zeroIs P et = some zs) (hzl : zs.length = sz) (hpos : 0 < sz) (hn : n * sz ≤ 16777216)
    (hq : evParts E parts.toList = some qs) (hf : afill (fun i => some (i * sz, sz)) ((List.replicate n zs).flatten) qs = some out) (hol : out.length = n * sz) (hR : ∀ id, σ id = none → R (some (.osl id sz 0 n)) (σ.set id (.row sz et (chunk sz n out)))) : OpJ P o E σ R := fun k e hσ hk hr => by
  subst hσ
  obtain ⟨h3, h4⟩ := evParts_ok hr parts.toList qs (fun p hp => by rw [ho]; simp only [Op.operands, List.mem_toArray, List.mem_map]; exact ⟨p, hp, rfl⟩) hq
  obtain ⟨vs, h5, h6, h7⟩ := run_buildSlice (P := P) (k := k) ht hs hz hzl hn h3 h4 hf hol k.w
  have hnm : (chunk sz n out).length ≤ maxLen := by
    rw [length_chunk]
    have : n * 1 ≤ n * sz := Nat.mul_le_mul_left _ hpos
    simp only [maxLen]; omega
  obtain ⟨hok, hst, hrep⟩ := own_new hk (et := et) h7 hnm (cap := n) (by rw [length_chunk]; exact Nat.le_refl _) (by rw [h6]; exact Nat.le_refl _)
  rw [length_chunk] at hrep
  refine ⟨_, .value _, some _, ?_, hok, hst, hR k.top hk.fresh, _, rfl, hrep⟩
  unfold execOp
  have e1 : (parts.map fun (i, x) => (i, e x)) = (parts.toList.map fun (i, x) => (i, e x)).toArray := by rw [← Array.toList_map, Array.toArray_toList]
  simp only [ho, e1, Sem.run_bind, h5, Result.andThen_ok, Sem.run_pure]
  rfl
/-- append on a slice that has no room behind it, or is nil: what comes is a row of our own. -/
theorem opj_append_new {t et : TypeId} {sz by_ : Nat} {x y : Operand} {nl : Option Bool} {full : Bool} {els news : List (List AV)} {ts : Array TypeId} {av : AV} (ho : o.op = .call { callee := .builtin .append, args := #[x, y], argTypes := ts }) (hts : ts = #[t, t]) (he : Elem P t et sz) (hby : bytesIs P et = some by_)
    (hx : E x = some (.sl nl full sz els)) (hfull : full = true ∨ (nl = some true)) (hy : E y = some av) (hs : srcOf σ av = some (sz, news)) (hne : news ≠ []) (hb : (els.length + news.length) * by_ ≤ 140737488355328) (hb1 : 0 < by_)
    (hR : ∀ id, σ id = none → R (some (.osl id sz 0 (els.length + news.length))) (σ.set id (.row sz et (els ++ news)))) : OpJ P o E σ R := fun k e hσ hk hr => by
  subst hts
  subst hσ
  have hxr := hr x (by rw [ho]; simp [Op.operands, Call.operands]) _ hx
  have hyr := hr y (by rw [ho]; simp [Op.operands, Call.operands]) _ hy
  obtain ⟨new, hnl, hn, hnm, hyv⟩ := src_rep hk hyr hs he.pos
  obtain ⟨old, hol, ho', hom, hxv⟩ := src_rep hk hxr (sz := sz) (news := els) rfl he.pos
  have hrun : ∀ v w', (Builtin.append_ #[t, t] o.type #[e x, e y]).run P k.w = .ok v w' → (execOp e o).run P k.w = .ok (.value v) w' := fun v w' h => by
    unfold execOp
    simp only [ho, resolve, invoke, builtin, Sem.run_bind, Sem.run_pure, Result.andThen_ok, List.map_toArray, List.map_cons, List.map_nil, h]
  have hcapx : ∃ a cap, e x = .slice a els.length cap ∧ els.length ≤ cap ∧ (cap = els.length) ∧ (a = none → els = [] ∧ cap = 0) := by
    generalize e x = u at hxr
    cases hxr with
    | slnil hn => exact ⟨none, 0, rfl, Nat.le_refl _, rfl, fun _ => ⟨rfl, rfl⟩⟩
    | sle hn => exact ⟨_, 0, rfl, Nat.le_refl _, rfl, fun h => by cases h⟩
    | sl hn' hc hm hf =>
      refine ⟨_, _, rfl, hc, ?_, fun h => by cases h⟩
      rcases hfull with h | h
      · exact hf h
      · exact absurd h hn'
  obtain ⟨a, cap, hxe, hle, hcap, ha0⟩ := hcapx
  have hpos : 0 < news.length := List.length_pos_iff.2 hne
  rcases hyv with ⟨hv, h0⟩ | ⟨ad, c, hv, hcells⟩
  · exact absurd h0 hne
  · have hm : els.length + news.length ≤ maxLen := by
      have : (els.length + news.length) * 1 ≤ (els.length + news.length) * by_ := Nat.mul_le_mul_left _ hb1
      simp only [maxLen]; omega
    have hac : ∀ ad, a = some ad → ∀ (j : Nat) v, old[j]? = some v → k.w.cell? (ad.add j) = some v := fun ad' had j v hj => by
      rcases hxv with ⟨h1, _⟩ | ⟨ad2, c2, h1, h2⟩
      · rw [hxe] at h1; injection h1 with h1; rw [h1] at had; cases had
      · rw [hxe] at h1; injection h1 with h1; rw [h1] at had; cases had; exact h2 j v hj
    obtain ⟨cap', rest, h1, h2, h3, h4, h5⟩ := run_append_new hk he hby ho' hol hn hnl hac ha0 (by omega) hcells hb hm o.type
    obtain ⟨hok, hst, hrep⟩ := own_new (hk.drew).1 (et := et) (h5.step (hk.drew).2) (by simpa using hm) (cap := cap') (by simpa using h1) (by rw [h3]; exact Nat.le_refl _)
    refine ⟨_, .value _, some _, hrun _ _ (by rw [hxe, hv]; exact h4), hok, (hk.drew).2.trans hst, hR k.top hk.fresh, _, rfl, by simpa using hrep⟩
end
theorem St.del_set {σ : St} {id : Nat} {o : AObj} (h : σ id = none) : (σ.set id o).del id = σ := by
  funext x
  by_cases hx : x = id
  · subst hx; simp [St.del, h]
  · simp [St.del, St.set, hx]
/-- append on a row of our own that stands on top. -/
theorem opj_append_own {P : Program} {o : Oper} {E : Operand → Option AV} {σ : St} {R : Option AV → St → Prop} {t et : TypeId} {sz by_ : Nat} {x y : Operand} {id n : Nat} {els news : List (List AV)} {ts : Array TypeId} {av : AV} (ho : o.op = .call { callee := .builtin .append, args := #[x, y], argTypes := ts }) (hts : ts = #[t, t]) (he : Elem P t et sz) (hby : bytesIs P et = some by_)
    (hx : E x = some (.osl id sz 0 n)) (hid : σ id = none) (hn : n = els.length) (hy : E y = some av) (hs : srcOf (σ.set id (.row sz et els)) av = some (sz, news)) (hb : (n + news.length) * by_ ≤ 140737488355328) (hb1 : 0 < by_)
    (hR : ∀ id', σ id' = none → R (some (.osl id' sz 0 (n + news.length))) (σ.set id' (.row sz et (els ++ news)))) : OpJ P o E (σ.set id (.row sz et els)) R :=
  opj_append_osl ho hts he hby hx (St.set_same _ _ _) (by omega) hy hs hb hb1 (fun id' h => by
    rw [St.del_set hid, hn, List.take_length]
    have := hR id' (by
      by_cases hx : id' = id
      · rw [hx]; exact hid
      · rwa [St.set_ne _ _ _ hx] at h)
    rwa [hn] at this)
section
variable {P : Program} {nt : Nat} {ops : Array Oper} {Q : Post} {fr : Fr} {σ : St}
/-- What stands in slot t is told anew, by a row that nobody writes any more. -/
theorem lj_freeze (t : Nat) {l : List Oper} {id sz len : Nat} {et : TypeId} {els : List (List AV)} (ht : lk fr t = some (.osl id sz 0 len)) (hσ : σ id = some (.row sz et els)) (hl : len = els.length) (hpos : 0 < sz) (h : LJ P nt ops Q l ((t, .sl none false sz els) :: fr) (σ.del id)) : LJ P nt ops Q l fr σ :=
  lj_ghost (ghost_freeze ht hσ (by omega) hpos (by
    have : (els.drop 0).take len = els := by rw [List.drop_zero, hl, List.take_length]
    rw [this]; exact h))
theorem cj_freeze (t : Nat) {c : Code} {id sz len : Nat} {et : TypeId} {els : List (List AV)} (ht : lk fr t = some (.osl id sz 0 len)) (hσ : σ id = some (.row sz et els)) (hl : len = els.length) (hpos : 0 < sz) (h : CJ P nt c Q ((t, .sl none false sz els) :: fr) (σ.del id)) : CJ P nt c Q fr σ :=
  cj_ghost (ghost_freeze ht hσ (by omega) hpos (by
    have : (els.drop 0).take len = els := by rw [List.drop_zero, hl, List.take_length]
    rw [this]; exact h))
theorem lj_fc {rest : List Oper} {t : Tmp} {op : Op} {ty : TypeId} {pos : String} {aft : Array Edge} {C : Nat → Prop} {mk : Nat → AV} {st : Nat → St} (hd : fits nt (some t) = true) (hJ : ∀ (R : Option AV → St → Prop), (∀ id, C id → R (some (mk id)) (st id)) → OpJ P ⟨some t, op, ty, pos, aft, none⟩ (ev fr) σ R) (h : ∀ id, C id → LJ P nt ops Q rest ((t, mk id) :: fr) (st id)) : LJ P nt ops Q (⟨some t, op, ty, pos, aft, none⟩ :: rest) fr σ :=
  lj_op rfl hd (hJ _ h)
end
end Go.Proofs.YtledbkkaaomjpabDoor.Ab
