/- Abstract values over the model's memory, 8: walks over strings, the lesser and the greater of two, equality of structs; what one may do to a state without the machine; calls that only look. -/
import Derived.Test.YtledbkkaaomjpabDoorAb7
set_option linter.unusedVariables false
set_option linter.unusedSimpArgs false
namespace Go.Proofs.YtledbkkaaomjpabDoor.Ab
open Go

section
variable {P : Program} {o : Oper} {E : Operand → Option AV} {σ : St} {R : Option AV → St → Prop}
/-! ### A string, code point by code point -/
theorem opj_range_str {t : TypeId} {x : Operand} {s : ByteArray} (ho : o.op = .range t x) (ht : P.underlying t = some .string) (hx : E x = some (.v (.string s))) (hR : ∀ id, σ id = none → R (some (.it id)) (σ.set id (.siter s 0))) : OpJ P o E σ R := fun k e hσ hk hr => by
  subst hσ
  have h1 := rep_v (hr x (by rw [ho]; simp [Op.operands]) _ hx)
  have hst := hk.add_step (.stringIter s 0) (.siter s 0)
  have hok := hk.add (.stringIter s 0) (.siter s 0) ⟨k.w.heap.size, by simp [Cx.add], heap_alloc_new _ _⟩
  refine ⟨_, .value (.pointer (some ⟨k.w.heap.size, 0, none⟩)), some _, ?_, hok, hst, hR k.top hk.fresh, _, rfl, .it (by simp [Cx.add]) (by simp [Cx.add])⟩
  unfold execOp
  simp only [ho, h1, Sem.run_bind, run_range_string (P := P) k.w t s ht, Result.andThen_ok, Sem.run_pure]
  rfl
theorem Ok.setObj {k : Cx} (hk : Ok k) {id b : Nat} {ob : Obj} {o' : AObj} (hid : k.σ id ≠ none) (hb : k.ρ id = some b) (hnc : ∀ (cs : Array Value) (t : TypeId) (f : Nat × Nat), k.w.heap[b]? ≠ some (.cells cs t f))
    (ho : ∀ k', Step k k' → k'.ρ id = some b → k'.w.heap[b]? = some ob → ObjOk k' id o') : let k' : Cx := { k with σ := k.σ.set id o', w := { k.w with heap := k.w.heap.setIfInBounds b ob } }
    Ok k' ∧ Step k k' := by
  intro k'
  have hblt := (hk.bas id b hid hb).2
  have hother : ∀ x, x ≠ b → k'.w.heap[x]? = k.w.heap[x]? := fun x hx => Array.getElem?_setIfInBounds_ne (Ne.symm hx)
  have hsame : k'.w.heap[b]? = some ob := by show (k.w.heap.setIfInBounds b ob)[b]? = _; simp [hblt]
  have hne : ∀ x, k.σ.set id o' x ≠ none ↔ k.σ x ≠ none := fun x => by
    by_cases hx : x = id
    · subst hx; simp [St.set, hid]
    · simp [St.set, hx]
  have hsz : k'.w.heap.size = k.w.heap.size := Array.size_setIfInBounds
  have hst : Step k k' := by
    refine ⟨Nat.le_refl _, fun _ _ => rfl, rfl, rfl, rfl, rfl, by rw [hsz]; exact Nat.le_refl _, fun x h1 h2 => ⟨hother x fun e => h2 (e ▸ ⟨id, hid, hb⟩), fun ⟨i, h3, h4⟩ => h2 ⟨i, (hne i).1 h3, h4⟩⟩, fun x c t f hx => ?_⟩
    by_cases hxb : x = b
    · subst hxb; exact absurd hx (hnc c t f)
    · exact ⟨c, f, (hother x hxb).trans hx, rfl⟩
  refine ⟨⟨fun x h => hk.dom x ((hne x).1 h), fun x y c h1 h2 => hk.inj x y c ((hne x).1 h1) ((hne y).1 h2), fun x c h1 h2 => ?_, by rw [hsz]; exact hk.hb, fun x ob' hx => ?_, hk.ground hst⟩, hst⟩
  · rw [hsz]; exact hk.bas x c ((hne x).1 h1) h2
  · by_cases hxi : x = id
    · subst hxi
      have h1 : k'.σ x = some o' := by simp [k', St.set]
      rw [h1] at hx
      cases hx
      exact ho k' hst hb hsame
    · have h1 : k'.σ x = k.σ x := by simp [k', St.set, hxi]
      rw [h1] at hx
      have hd : k.σ x ≠ none := by rw [hx]; simp
      exact (hk.obj x ob' hx).step hst (hk.dom x hd) fun c hc => hother c fun e => hxi (hk.inj x id b hd hid (e ▸ hc) hb)
theorem opj_next_more {x : Operand} {id pos : Nat} {s : ByteArray} (ho : o.op = .next x true) (hx : E x = some (.it id)) (hσ : σ id = some (.siter s pos)) (hp : pos < s.size)
    (hR : R (some (.tup [.v (.bool true), .v (.int .i64 pos), .v (.int .i32 (Utf8.decode s pos).1)])) (σ.set id (.siter s (pos + (Utf8.decode s pos).2)))) : OpJ P o E σ R := fun k e hσ' hk hr => by
  subst hσ'
  have h := hr x (by rw [ho]; simp [Op.operands]) _ hx
  generalize hu : e x = u at h
  cases h with
  | it ht hb =>
    rename_i b
    obtain ⟨b', h1, h2⟩ := hk.obj id _ hσ
    rw [hb] at h1; cases h1
    have hid : k.σ id ≠ none := by rw [hσ]; simp
    obtain ⟨hok, hst⟩ := hk.setObj (ob := .stringIter s (pos + (Utf8.decode s pos).2)) (o' := .siter s (pos + (Utf8.decode s pos).2)) hid hb (fun cs t f h => by rw [h2] at h; cases h) (fun k' _ h3 h4 => ⟨b, h3, h4⟩)
    refine ⟨_, .value (.tuple #[.bool true, .int .i64 pos, .int .i32 (Utf8.decode s pos).1]), some _, ?_, hok, hst, hR, _, rfl, ?_⟩
    · unfold execOp
      simp only [ho, hu, Instr.next, Sem.run_bind]
      simp [getObj, setObj, Sem.run, h2, hp, goInt]
    · refine .tup (by simp) (fun j a u ha hu => ?_)
      match j with
      | 0 => simp at ha hu; subst ha; subst hu; exact .v rfl
      | 1 => simp at ha hu; subst ha; subst hu; exact .v rfl
      | 2 => simp at ha hu; subst ha; subst hu; exact .v rfl
      | j + 3 => simp at ha
theorem opj_next_over {x : Operand} {id pos : Nat} {s : ByteArray} (ho : o.op = .next x true) (hx : E x = some (.it id)) (hσ : σ id = some (.siter s pos)) (hp : s.size ≤ pos) (hR : R (some (.tup [.v (.bool false)])) σ) : OpJ P o E σ R :=
  opj_quiet _ (fun k e hσ' hk hr => by
    subst hσ'
    have h := hr x (by rw [ho]; simp [Op.operands]) _ hx
    generalize hu : e x = u at h
    cases h with
    | it ht hb =>
      rename_i b
      obtain ⟨b', h1, h2⟩ := hk.obj id _ hσ
      rw [hb] at h1; cases h1
      refine ⟨.tuple #[.bool false], ?_, .tup (by simp) (fun j a u ha hu => ?_)⟩
      · unfold execOp
        simp only [ho, hu, Instr.next, Sem.run_bind]
        simp [getObj, Sem.run, h2, Nat.not_lt.2 hp]
      · match j with
        | 0 => simp at ha hu; subst ha; subst hu; exact .v rfl
        | j + 1 => simp at ha) hR

/-! ### The lesser, the greater -/
theorem opj_min {x y : Operand} {k : IntKind} {a b : Int} {ts : Array TypeId} (ho : o.op = .call { callee := .builtin .min, args := #[x, y], argTypes := ts }) (hx : E x = some (.v (.int k a))) (hy : E y = some (.v (.int k b))) (hR : R (some (.v (.int k (if b < a then b else a)))) σ) : OpJ P o E σ R :=
  opj_quiet _ (fun k' e hσ hk hr => ⟨.int k (if b < a then b else a), by
    have h1 := rep_v (hr x (by rw [ho]; simp [Op.operands, Call.operands]) _ hx)
    have h2 := rep_v (hr y (by rw [ho]; simp [Op.operands, Call.operands]) _ hy)
    unfold execOp
    simp [ho, h1, h2, resolve, invoke, builtin, Builtin.min_, Builtin.min2], .v rfl⟩) hR
theorem opj_max {x y : Operand} {k : IntKind} {a b : Int} {ts : Array TypeId} (ho : o.op = .call { callee := .builtin .max, args := #[x, y], argTypes := ts }) (hx : E x = some (.v (.int k a))) (hy : E y = some (.v (.int k b))) (hR : R (some (.v (.int k (if a < b then b else a)))) σ) : OpJ P o E σ R :=
  opj_quiet _ (fun k' e hσ hk hr => ⟨.int k (if a < b then b else a), by
    have h1 := rep_v (hr x (by rw [ho]; simp [Op.operands, Call.operands]) _ hx)
    have h2 := rep_v (hr y (by rw [ho]; simp [Op.operands, Call.operands]) _ hy)
    unfold execOp
    simp [ho, h1, h2, resolve, invoke, builtin, Builtin.max_, Builtin.max2], .v rfl⟩) hR

/-! ### Equality of structs -/
/-- What '==' tells of two values of a type; structs field by field. -/
def eqV (P : Program) : Nat → TypeId → AV → AV → Option Bool
  | 0, _, _, _ => none
  | d + 1, t, x, y =>
    match x, y with
    | .v (.int k a), .v (.int k' b) => match P.underlying t with
      | some (.int _) => if k = k' then some (decide (a = b)) else none
      | _ => none
    | .v (.string a), .v (.string b) => match P.underlying t with
      | some .string => some (decide (a = b))
      | _ => none
    | .v (.bool a), .v (.bool b) => match P.underlying t with
      | some .bool => some (a == b)
      | _ => none
    | .agg xs, .agg ys => match P.underlying t with
      | some (.struct fs) => if P.stoodInHeld t then none else
        fs.toList.foldr (fun f acc => if f.name = "_" then acc else match shapeOf P f.type with
          | some q => match part? xs f.offset q, part? ys f.offset q with
            | some a, some b => match eqV P d f.type a b, acc with
              | some r, some r' => some (r && r')
              | _, _ => none
            | _, _ => none
          | none => none) (some true)
      | _ => none
    | _, _ => none
theorem run_eqV {k : Cx} : ∀ (d : Nat) (t : TypeId) (x y : AV) (u v : Value) (r : Bool), eqV P d t x y = some r → Rep k x u → Rep k y v → ∀ n, (Op.equalIn (d + n) t u v).run P k.w = .ok r k.w
  | 0, _, _, _, _, _, _, h => by simp [eqV] at h
  | d + 1, t, x, y, u, v, r, h => by
    intro hu hv n
    have e0 : d + 1 + n = (d + n) + 1 := by omega
    rw [e0]
    unfold eqV at h
    split at h
    · cases rep_v hu; cases rep_v hv
      split at h
      · rename_i ht
        split at h
        · rename_i hk; subst hk; cases h
          rw [Go.run_equalIn_int (P := P) k.w _ t _ _ _ _ ht]
          rfl
        · cases h
      · cases h
    · cases rep_v hu; cases rep_v hv
      split at h
      · rename_i ht
        cases h
        rw [Go.run_equalIn_string (P := P) k.w _ t _ _ ht, str_beq]
      · cases h
    · cases rep_v hu; cases rep_v hv
      split at h
      · rename_i ht
        cases h
        exact Ab.run_equalIn_bool _ ht _ _ _
      · cases h
    · rename_i xs ys
      split at h
      · rename_i fs ht
        split at h
        · cases h
        · rename_i hst
          cases hu with
          | agg hl1 h11 hc1 =>
            cases hv with
            | agg hl2 h12 hc2 =>
              rename_i us vs
              have hfo : P.fieldsOf t = fs := by simp [Program.fieldsOf, ht]
              have hst' : P.stoodInHeld t = false := by simpa using hst
              rw [run_equalIn_struct (P := P) k.w (d + n) t us vs (by rw [hfo]; exact ht) hst', hfo]
              generalize fs.toList = l at h ⊢
              clear ht hfo
              induction l generalizing r with
              | nil => simp at h; subst h; rfl
              | cons f l ih =>
                simp only [List.foldr_cons] at h
                by_cases hn : f.name = "_"
                · rw [if_pos hn] at h
                  simp only [Op.eqFields]
                  rw [if_neg (by simpa using hn)]
                  exact ih r h
                · rw [if_neg hn] at h
                  split at h
                  · rename_i q hq
                    split at h
                    · rename_i a b ha hb
                      split at h
                      · rename_i r1 r2 hr1 hr2
                        cases h
                        obtain ⟨u1, h1, h2⟩ := run_part (P := P) (k := k) hq hl1 h11 hc1 ha k.w
                        obtain ⟨v1, h3, h4⟩ := run_part (P := P) (k := k) hq hl2 h12 hc2 hb k.w
                        have h5 := run_eqV d f.type a b u1 v1 r1 hr1 h2 h4 n
                        simp only [Op.eqFields]
                        rw [if_pos (by simpa using hn)]
                        simp only [Sem.run_bind, h1, h3, Result.andThen_ok, h5]
                        cases r1 with
                        | true => simp only [Bool.not_true, Bool.false_eq_true, if_false, Bool.true_and]; exact ih r2 hr2
                        | false => simp
                      · cases h
                    · cases h
                  · cases h
      · cases h
    · cases h
theorem opj_eq_agg {t t' : TypeId} {x y : Operand} {xs ys : List AV} {d : Nat} {r : Bool} (ho : o.op = .binOp .eql t x y t') (hx : E x = some (.agg xs)) (hy : E y = some (.agg ys)) (hg : P.eqGuardType P.depth t = false) (hd : d ≤ 10000) (h : eqV P d t (.agg xs) (.agg ys) = some r) (hR : R (some (.v (.bool r))) σ) : OpJ P o E σ R :=
  opj_quiet _ (fun k e hσ hk hr => ⟨.bool r, by
    have h1 := hr x (by rw [ho]; simp [Op.operands]) _ hx
    have h2 := hr y (by rw [ho]; simp [Op.operands]) _ hy
    have h3 := run_eqV d t _ _ _ _ r h h1 h2 (10000 - d)
    have e1 : d + (10000 - d) = 10000 := by omega
    rw [e1] at h3
    generalize hu : e x = u at h1 h3
    generalize hv : e y = v at h2 h3
    cases h1; cases h2
    unfold execOp
    simp only [ho, hu, hv, Sem.run_bind, run_eqGuard_agg (P := P) k.w _ t x y _ _ hg, Result.andThen_ok, run_eql_struct, h3, Sem.run_pure], .v rfl⟩) hR
theorem opj_ne_agg {t t' : TypeId} {x y : Operand} {xs ys : List AV} {d : Nat} {r : Bool} (ho : o.op = .binOp .neq t x y t') (hx : E x = some (.agg xs)) (hy : E y = some (.agg ys)) (hg : P.eqGuardType P.depth t = false) (hd : d ≤ 10000) (h : eqV P d t (.agg xs) (.agg ys) = some r) (hR : R (some (.v (.bool (!r)))) σ) : OpJ P o E σ R :=
  opj_quiet _ (fun k e hσ hk hr => ⟨.bool (!r), by
    have h1 := hr x (by rw [ho]; simp [Op.operands]) _ hx
    have h2 := hr y (by rw [ho]; simp [Op.operands]) _ hy
    have h3 := run_eqV d t _ _ _ _ r h h1 h2 (10000 - d)
    have e1 : d + (10000 - d) = 10000 := by omega
    rw [e1] at h3
    generalize hu : e x = u at h1 h3
    generalize hv : e y = v at h2 h3
    cases h1; cases h2
    unfold execOp
    simp only [ho, hu, hv, Sem.run_bind, run_eqGuard_agg (P := P) k.w _ t x y _ _ hg, Result.andThen_ok, run_neq_struct, h3, Sem.run_pure], .v rfl⟩) hR
end

/-! ### Without the machine: a state read otherwise -/
/-- From (fr, σ) one may go on as from (fr', σ'). -/
def Ghost (fr : Fr) (σ : St) (K : Fr → St → Prop) : Prop := ∀ (k : Cx) (tmps : Array Value), k.σ = σ → Ok k → FrOk k fr tmps → ∃ k' fr', k'.w = k.w ∧ Ok k' ∧ Step k k' ∧ FrOk k' fr' tmps ∧ K fr' k'.σ
section
variable {P : Program} {nt : Nat} {ops : Array Oper} {Q : Post} {fr : Fr} {σ : St}
theorem cj_ghost {c : Code} (h : Ghost fr σ (fun fr' σ' => CJ P nt c Q fr' σ')) : CJ P nt c Q fr σ := fun k a hσ hk hz hf => by
  obtain ⟨k', fr', h1, h2, h3, h4, h5⟩ := h k a.tmps hσ hk hf
  rw [← h1]
  exact Code.wp_mono (fun _ _ _ => conc_step h3 rfl rfl) (h5 k' a rfl h2 hz h4)
theorem lj_ghost {l : List Oper} (h : Ghost fr σ (fun fr' σ' => LJ P nt ops Q l fr' σ')) : LJ P nt ops Q l fr σ := fun k a hσ hk hz hf => by
  obtain ⟨k', fr', h1, h2, h3, h4, h5⟩ := h k a.tmps hσ hk hf
  rw [← h1]
  exact wpList_mono (fun _ _ _ => conc_step h3 rfl rfl) _ _ _ (h5 k' a rfl h2 hz h4)
theorem ghost_forget {fr' : Fr} {σ' : St} {K : Fr → St → Prop} (hf : ∀ t a, lk fr' t = some a → lk fr t = some a) (hle : σ'.le σ) (h : K fr' σ') : Ghost fr σ K := fun k tmps hσ hk hfr => by
  subst hσ
  obtain ⟨hok, hst⟩ := hk.forget hle
  exact ⟨{ k with σ := σ' }, fr', rfl, hok, hst, fun t av ht => by
    obtain ⟨u, hu, hr⟩ := hfr t av (hf t av ht)
    exact ⟨u, hu, hr.step hst⟩, h⟩
/-- A nil slice as a row of our own. -/
theorem ghost_nil {t : Nat} {f : Bool} {s : Nat} {K : Fr → St → Prop} (sz : Nat) (et : TypeId) (ht : lk fr t = some (.sl (some true) f s [])) (h : ∀ id, σ id = none → K ((t, .osl id sz 0 0) :: fr) (σ.set id (.row sz et []))) : Ghost fr σ K := fun k tmps hσ hk hfr => by
  subst hσ
  obtain ⟨hok, hst⟩ := hk.nilRow sz et
  refine ⟨{ k with ρ := fun x => if x = k.top then none else k.ρ x, top := k.top + 1, σ := k.σ.set k.top (.row sz et []) }, _, rfl, hok, hst, fun x a hx => ?_, h k.top hk.fresh⟩
  rw [lk_cons] at hx
  split at hx
  · rename_i hxt
    subst hxt
    cases hx
    obtain ⟨u, hu, hr⟩ := hfr x _ ht
    refine ⟨u, hu, ?_⟩
    have : u = .slice none 0 0 := by
      cases hr with
      | slnil => rfl
      | sle hn => exact absurd rfl hn
      | sl hn => exact absurd rfl hn
    subst this
    exact .oslnil (by simp) (by simp)
  · obtain ⟨u, hu, hr⟩ := hfr x a hx
    exact ⟨u, hu, hr.step hst⟩
/-- A row of our own that nobody writes any more. -/
theorem rep_freeze {k : Cx} (hk : Ok k) {id sz off len : Nat} {et : TypeId} {els : List (List AV)} {u : Value} (h : Rep k (.osl id sz off len) u) (hσ : k.σ id = some (.row sz et els)) (hl : off + len ≤ els.length) (hpos : 0 < sz) :
    Rep { k with σ := k.σ.del id } (.sl none false sz ((els.drop off).take len)) u := by
  obtain ⟨hok, hst⟩ := hk.forget (St.del_le k.σ id)
  have hlen : ((els.drop off).take len).length = len := by simp; omega
  obtain ⟨vals, h1, h2, h3, h4⟩ := src_rep hk h (sz := sz) (news := (els.drop off).take len) (by simp [srcOf, hσ, hl]) hpos
  cases h with
  | oslnil => 
    have : (els.drop 0).take 0 = [] := by simp
    rw [this]
    exact .slnil (by simp)
  | @osl _ _ _ _ b cap p ht hb hp hl' hm hfit =>
    rcases h4 with ⟨hu, _⟩ | ⟨ad, c, hu, hc⟩
    · cases hu
    · injection hu with e1 e2 e3
      injection e1 with e1
      subst e1
      subst e3
      have hid : k.σ id ≠ none := by rw [hσ]; simp
      have hgoal : Rep { k with σ := k.σ.del id } (.sl none false sz ((els.drop off).take len)) (.slice (some ⟨b, p, none⟩) ((els.drop off).take len).length cap) := by
        refine .sl (f := fun i j => (vals[i * sz + j]?).getD undef) (by simp) (by omega) (by omega) (by simp) h2.1 (fun _ => ⟨(hk.bas id b hid hb).2, ?_⟩) (fun i j e a he ha => ?_) (fun i j e a he ha => ?_)
        · rintro ⟨x, h5, h6⟩
          have hx : x ≠ id := fun e => by subst e; simp [St.del] at h5
          have h7 : k.σ x ≠ none := by simpa [St.del, hx] using h5
          exact hx (hk.inj x id b h7 hid h6 hb)
        · obtain ⟨v, h5, h6, h7⟩ := h2.2.2 i j e a he ha
          simp only [h5, Option.getD_some]
          have := hc _ v h5
          rw [Addr.add_mid] at this
          exact ⟨this, h6⟩
        · obtain ⟨v, h5, h6, h7⟩ := h2.2.2 i j e a he ha
          simp only [h5, Option.getD_some]
          exact h7.step hst
      rw [hlen] at hgoal
      exact hgoal
theorem ghost_freeze {t id sz off len : Nat} {et : TypeId} {els : List (List AV)} {K : Fr → St → Prop} (ht : lk fr t = some (.osl id sz off len)) (hσ : σ id = some (.row sz et els)) (hl : off + len ≤ els.length) (hpos : 0 < sz) (h : K ((t, .sl none false sz ((els.drop off).take len)) :: fr) (σ.del id)) : Ghost fr σ K := fun k tmps hσ' hk hfr => by
  subst hσ'
  obtain ⟨hok, hst⟩ := hk.forget (St.del_le k.σ id)
  refine ⟨{ k with σ := k.σ.del id }, _, rfl, hok, hst, fun x a hx => ?_, h⟩
  rw [lk_cons] at hx
  split at hx
  · rename_i hxt
    subst hxt
    cases hx
    obtain ⟨u, hu, hr⟩ := hfr x _ ht
    exact ⟨u, hu, rep_freeze hk hr hσ hl hpos⟩
  · obtain ⟨u, hu, hr⟩ := hfr x a hx
    exact ⟨u, hu, hr.step hst⟩
end
end Go.Proofs.YtledbkkaaomjpabDoor.Ab
