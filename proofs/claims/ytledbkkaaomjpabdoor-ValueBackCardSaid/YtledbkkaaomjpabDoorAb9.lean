/- Abstract values over the model's memory, 9: the walk's own forms. -/
import Derived.Test.YtledbkkaaomjpabDoorAb8
set_option linter.unusedVariables false
set_option linter.unusedSimpArgs false
namespace Go.Proofs.YtledbkkaaomjpabDoor.Ab
open Go

section
variable {P : Program} {nt : Nat} {ops : Array Oper} {Q Q2 : Post} {fr : Fr} {σ : St} {rest : List Oper} {t : Tmp} {op : Op} {ty : TypeId} {pos : String} {aft : Array Edge} {av : AV}
theorem lj_v (hd : fits nt (some t) = true) (hJ : ∀ (R : Option AV → St → Prop), R (some av) σ → OpJ P ⟨some t, op, ty, pos, aft, none⟩ (ev fr) σ R) (h : LJ P nt ops Q rest ((t, av) :: fr) σ) : LJ P nt ops Q (⟨some t, op, ty, pos, aft, none⟩ :: rest) fr σ :=
  lj_op rfl hd (hJ _ h)
theorem lj_v_any {α : Type} {mk : α → AV} {C : α → Prop} (hd : fits nt (some t) = true) (hJ : ∀ (R : Option AV → St → Prop), (∀ b, C b → R (some (mk b)) σ) → OpJ P ⟨some t, op, ty, pos, aft, none⟩ (ev fr) σ R) (h : ∀ b, C b → LJ P nt ops Q rest ((t, mk b) :: fr) σ) : LJ P nt ops Q (⟨some t, op, ty, pos, aft, none⟩ :: rest) fr σ :=
  lj_op rfl hd (hJ _ h)
theorem lj_ite {p : Prop} {x y : AV} (hd : fits nt (some t) = true) (_ : True) (hJ : ∀ (R : Option AV → St → Prop), (p → R (some x) σ) → (¬ p → R (some y) σ) → OpJ P ⟨some t, op, ty, pos, aft, none⟩ (ev fr) σ R) (h : p → LJ P nt ops Q rest ((t, x) :: fr) σ) (h' : ¬ p → LJ P nt ops Q rest ((t, y) :: fr) σ) : LJ P nt ops Q (⟨some t, op, ty, pos, aft, none⟩ :: rest) fr σ :=
  lj_op rfl hd (hJ _ h h')
theorem lj_v0 (hJ : ∀ (R : Option AV → St → Prop), R (some av) σ → OpJ P ⟨none, op, ty, pos, aft, none⟩ (ev fr) σ R) (h : LJ P nt ops Q rest fr σ) : LJ P nt ops Q (⟨none, op, ty, pos, aft, none⟩ :: rest) fr σ :=
  lj_op rfl rfl (hJ _ h)
theorem lj_s {σ' : St} (hJ : ∀ (R : Option AV → St → Prop), R none σ' → OpJ P ⟨none, op, ty, pos, aft, none⟩ (ev fr) σ R) (h : LJ P nt ops Q rest fr σ') : LJ P nt ops Q (⟨none, op, ty, pos, aft, none⟩ :: rest) fr σ :=
  lj_op rfl rfl (hJ _ h)
theorem lj_w {σ' : St} (hd : fits nt (some t) = true) (hJ : ∀ (R : Option AV → St → Prop), R (some av) σ' → OpJ P ⟨some t, op, ty, pos, aft, none⟩ (ev fr) σ R) (h : LJ P nt ops Q rest ((t, av) :: fr) σ') : LJ P nt ops Q (⟨some t, op, ty, pos, aft, none⟩ :: rest) fr σ :=
  lj_op rfl hd (hJ _ h)
theorem lj_f {mk : Nat → AV} {st : Nat → St} (hd : fits nt (some t) = true) (hJ : ∀ (R : Option AV → St → Prop), (∀ id, σ id = none → R (some (mk id)) (st id)) → OpJ P ⟨some t, op, ty, pos, aft, none⟩ (ev fr) σ R) (h : ∀ id, σ id = none → LJ P nt ops Q rest ((t, mk id) :: fr) (st id)) : LJ P nt ops Q (⟨some t, op, ty, pos, aft, none⟩ :: rest) fr σ :=
  lj_op rfl hd (hJ _ h)
theorem lj_vy {j u : Nat} {b : Bool} (hd : fits nt (some t) = true) (hj : (ops[j]?).bind (·.dst) = some u) (hl : lk fr u = some (.v (.bool b))) (hJ : ∀ (R : Option AV → St → Prop), R (some av) σ → OpJ P ⟨some t, op, ty, pos, aft, some (j, b)⟩ (ev fr) σ R) (h : LJ P nt ops Q rest ((t, av) :: fr) σ) : LJ P nt ops Q (⟨some t, op, ty, pos, aft, some (j, b)⟩ :: rest) fr σ :=
  lj_guard_yes rfl hj hl hd (hJ _ h)
theorem lj_vn {j u : Nat} {b c : Bool} (hd : fits nt (some t) = true) (hj : (ops[j]?).bind (·.dst) = some u) (hl : lk fr u = some (.v (.bool b))) (hne : (b == c) = false) (h : LJ P nt ops Q rest ((t, .tup []) :: fr) σ) : LJ P nt ops Q (⟨some t, op, ty, pos, aft, some (j, c)⟩ :: rest) fr σ :=
  lj_guard_no rfl hj hl hne hd h
theorem lj_end {y : Code} (h : CJ P nt y Q2 fr σ) : LJ P nt ops (thn Q (CJ P nt y Q2)) [] fr σ := lj_nil h
theorem lj_pure {f : FuncId} {xs : Array Operand} {ts : Array TypeId} {as : List AV} {r : AV} (hd : fits nt (some t) = true) (has : evs fr xs.toList = some as) (hent : entered P f = true) (hp : Pure P f as r) (h : LJ P nt ops Q rest ((t, r) :: fr) σ) :
    LJ P nt ops Q (⟨some t, .call { callee := .value (.func f), args := xs, argTypes := ts }, ty, pos, aft, none⟩ :: rest) fr σ :=
  lj_call_pure (x := .func f) (f := f) (caps := []) rfl rfl rfl hd rfl has hent (by simpa using hp) h
theorem lj_calls {f : FuncId} {xs : Array Operand} {ts : Array TypeId} {as : List AV} {R : AEnd → St → Prop} (hd : fits nt (some t) = true) (has : evs fr xs.toList = some as) (hent : entered P f = true) (hp : ACalls P f as σ R)
    (h : ∀ r σ', R (.ret r) σ' → LJ P nt ops Q rest ((t, r) :: fr) σ') (hpan : ∀ x σ', R (.panic x) σ' → Q (.panic x) fr σ') :
    LJ P nt ops Q (⟨some t, .call { callee := .value (.func f), args := xs, argTypes := ts }, ty, pos, aft, none⟩ :: rest) fr σ :=
  lj_call (x := .func f) (f := f) (caps := []) rfl rfl rfl hd rfl has hent (by
    rw [List.append_nil]
    refine hp.mono fun e σ' he => ?_
    cases e with
    | ret r => exact h r σ' he
    | panic x => exact hpan x σ' he)
theorem lj_calls0 {f : FuncId} {xs : Array Operand} {ts : Array TypeId} {as : List AV} {R : AEnd → St → Prop} (has : evs fr xs.toList = some as) (hent : entered P f = true) (hp : ACalls P f as σ R)
    (h : ∀ r σ', R (.ret r) σ' → LJ P nt ops Q rest fr σ') (hpan : ∀ x σ', R (.panic x) σ' → Q (.panic x) fr σ') :
    LJ P nt ops Q (⟨none, .call { callee := .value (.func f), args := xs, argTypes := ts }, ty, pos, aft, none⟩ :: rest) fr σ :=
  lj_call (x := .func f) (f := f) (caps := []) rfl rfl rfl rfl rfl has hent (by
    rw [List.append_nil]
    refine hp.mono fun e σ' he => ?_
    cases e with
    | ret r => exact h r σ' he
    | panic x => exact hpan x σ' he)
theorem lj_le {l : List Oper} {σ' : St} (hle : σ'.le σ) (h : LJ P nt ops Q l fr σ') : LJ P nt ops Q l fr σ := lj_ghost (ghost_forget (fun _ _ h => h) hle h)

theorem St.set_keep {σ : St} {id x : Nat} {o o' : AObj} (hid : σ id = none) (h : σ x = some o') : σ.set id o x = some o' := St.le_set o hid x o' h
/-! ### Where one goes -/
theorem nx_thn {K : Fr → St → Prop} (h : K fr σ) : thn Q K .normal fr σ := h
theorem nx_thn_cj {y : Code} (h : CJ P nt y Q2 fr σ) : thn Q (CJ P nt y Q2) .normal fr σ := h
theorem nx_ret_thn {K : Fr → St → Prop} (h : Q .ret fr σ) : thn Q K .ret fr σ := h
theorem nx_ret_inb {id : Nat} (h : Q .ret fr σ) : inb id Q .ret fr σ := h
theorem nx_exit_thn {K : Fr → St → Prop} {id : Nat} (h : Q (.exit id) fr σ) : thn Q K (.exit id) fr σ := h
theorem nx_exit_same {id : Nat} (h : Q .normal fr σ) : inb id Q (.exit id) fr σ := ⟨fun _ => h, fun h => absurd rfl h⟩
theorem nx_exit_other {id i : Nat} (hne : (i == id) = false) (h : Q (.exit i) fr σ) : inb id Q (.exit i) fr σ := ⟨fun he => by subst he; simp at hne, fun _ => h⟩
theorem nx_inb {id : Nat} (h : Q .normal fr σ) : inb id Q .normal fr σ := h
theorem nx_panic_thn {K : Fr → St → Prop} {x : AV} (h : Q (.panic x) fr σ) : thn Q K (.panic x) fr σ := h
theorem nx_panic_inb {id : Nat} {x : AV} (h : Q (.panic x) fr σ) : inb id Q (.panic x) fr σ := h
/-- What a call hands back, out of frame and store. -/
def ResR (P : Program) (σ : St) (fr : Fr) : List ResultVar → List AV → Prop
  | [], as => as = []
  | .tmp t :: l, as => ∃ a as', as = a :: as' ∧ lk fr t = some a ∧ ResR P σ fr l as'
  | .cell t ty :: l, as => ∃ a as' id sz i j elem els el q, as = a :: as' ∧ lk fr t = some (.ptr id sz i j) ∧ σ id = some (.row sz elem els) ∧ els[i]? = some el ∧ shapeOf P ty = some q ∧ load? (el.drop j) q = some a ∧ ResR P σ fr l as'
theorem ResR.of : ∀ {l : List ResultVar} {as : List AV}, results' fr l = some as → ResR P σ fr l as
  | [], as, h => by cases h; rfl
  | .cell _ _ :: _, as, h => by simp [results'] at h
  | .tmp t :: l, as, h => by
    unfold results' at h
    split at h
    · rename_i a as' h1 h2
      cases h
      exact ⟨a, as', rfl, h1, ResR.of h2⟩
    · cases h
theorem run_ResR {k : Cx} (hk : Ok k) (hσ : k.σ = σ) {tmps : Array Value} (hf : FrOk k fr tmps) : ∀ (l : List ResultVar) (as : List AV), ResR P σ fr l as →
    ∃ vs : List Value, (l.mapM (m := Sem) fun
      | .tmp t => pure (tmps.getD t undef)
      | .cell a t => do loadVar t (← asAddr (tmps.getD a undef))).run P k.w = .ok vs k.w ∧ Reps k as vs
  | [], as, h => by
    have : as = [] := h
    subst this
    exact ⟨[], by simp, rfl, fun j a u h _ => by simp at h⟩
  | .tmp t :: l, as, h => by
    obtain ⟨b, bs, rfl, h1, h2⟩ := h
    obtain ⟨vs, h3, h4, h5⟩ := run_ResR hk hσ hf l bs h2
    obtain ⟨u, hu, hr⟩ := hf t b h1
    refine ⟨u :: vs, ?_, by simp [h4], fun j a v hj hv => ?_⟩
    · simp only [List.mapM_cons, Sem.run_bind, Sem.run_pure, Result.andThen_ok, h3]
      simp [hu]
    · cases j with
      | zero => simp at hj hv; subst hj; subst hv; exact hr
      | succ j => exact h5 j a v (by simpa using hj) (by simpa using hv)
  | .cell t ty :: l, as, h => by
    obtain ⟨b, bs, id, sz, i, j, elem, els, el, q, rfl, h1, h6, h7, h8, h9, h2⟩ := h
    obtain ⟨vs, h3, h4, h5⟩ := run_ResR hk hσ hf l bs h2
    obtain ⟨u, hu, hr⟩ := hf t _ h1
    subst hσ
    cases hr with
    | ptr ht hb =>
      rename_i blk
      obtain ⟨v, h10, h11⟩ := run_loadV (P := P) (k := k) (b := blk) (p := i * sz + j) h8 (fun n a ha => by
        rw [List.getElem?_drop] at ha
        have := row_cell hk h6 hb h7 ha
        rwa [← Nat.add_assoc] at this) h9
      refine ⟨v :: vs, ?_, by simp [h4], fun j' a w hj hv => ?_⟩
      · have e1 : tmps.getD t undef = .pointer (some ⟨blk, i * sz + j, none⟩) := by simp [hu]
        have e2 : (asAddr (tmps.getD t undef)).run P k.w = .ok ⟨blk, i * sz + j, none⟩ k.w := by rw [e1]; rfl
        simp only [List.mapM_cons, Sem.run_bind, e2, Sem.run_pure, Result.andThen_ok, h10, h3]
      · cases j' with
        | zero => simp at hj hv; subst hj; subst hv; exact h11
        | succ j' => exact h5 j' a w (by simpa using hj) (by simpa using hv)
def endR (P : Program) (rs : List ResultVar) (R : AEnd → St → Prop) : Post
  | .normal, fr, σ | .ret, fr, σ => ∃ as, ResR P σ fr rs as ∧ R (.ret (packed as)) σ
  | .panic x, _, σ => R (.panic x) σ
  | _, _, _ => False
theorem nx_end {rs : List ResultVar} {R : AEnd → St → Prop} {as : List AV} (h : results' fr rs = some as) (hR : R (.ret (packed as)) σ) : endR P rs R .ret fr σ := ⟨as, .of h, hR⟩
theorem nx_end' {rs : List ResultVar} {R : AEnd → St → Prop} {as : List AV} (h : results' fr rs = some as) (hR : R (.ret (packed as)) σ) : endR P rs R .normal fr σ := ⟨as, .of h, hR⟩
theorem nx_endC {rs : List ResultVar} {R : AEnd → St → Prop} (as : List AV) (h : ResR P σ fr rs as) (hR : R (.ret (packed as)) σ) : endR P rs R .ret fr σ := ⟨as, h, hR⟩
theorem nx_end_panic {rs : List ResultVar} {R : AEnd → St → Prop} {x : AV} (hR : R (.panic x) σ) : endR P rs R (.panic x) fr σ := hR
theorem enter {f : FuncId} {fn : Func} {c : Code} {n : Nat} {rs : List ResultVar} {args : List AV} {R : AEnd → St → Prop} (hf : P.funcs[f]? = some fn) (hb : fn.body = some c) (hn : fn.ntmps = n) (hr : fn.results.toList = rs) (hl : Nat.ble args.length n = true)
    (h : CJ P n c (endR P rs R) (frOf 0 args) σ) : ACalls P f args σ R := fun k vs hσ hk hv => by
  subst hn; subst hr
  have hnn := Nat.le_of_ble_eq_true hl
  refine calls_of_wp hf hb (Code.wp_mono (fun e a w hc => ?_) (h k { tmps := vs.toArray ++ Array.replicate (fn.ntmps - vs.toArray.size) undef, defers := [] } hσ hk ?_ ?_))
  · obtain ⟨h1, h2, k', e', fr', rfl, hok, hst, hfr, he, hq⟩ := hc
    have hend : ∀ as, ResR P k'.σ fr' fn.results.toList as → R (.ret (packed as)) k'.σ → a.defers = [] ∧ ∃ v, (results fn a.tmps).run P k'.w = .ok v k'.w ∧ ∃ k2 e2, k2.w = k'.w ∧ Ok k2 ∧ Step k k2 ∧ EndOk k2 e2 (.returned v) ∧ R e2 k2.σ := by
      intro as has hR
      obtain ⟨us, hrun, hreps⟩ := run_ResR (P := P) hok rfl hfr _ _ has
      refine ⟨h1, _, ?_, k', .ret (packed as), rfl, hok, hst, rep_packed hreps, hR⟩
      unfold results
      have e1 : fn.results = fn.results.toList.toArray := by simp
      rw [e1, List.mapM_toArray]
      simp only [Sem.run_bind, Sem.run_map, Sem.run_pure]
      exact (congrArg (fun r : Result (List Value) => ((r.andThen fun a w' => Result.ok a.toArray w').andThen fun a w' => Result.ok (if h : a.size = 1 then a[0] else Value.tuple a) w')) hrun).trans rfl
    cases e' <;> cases e <;> simp only [ExitOk] at he <;> simp only [endR] at hq
    case normal.normal => obtain ⟨as, has, hR⟩ := hq; exact hend as has hR
    case ret.ret => obtain ⟨as, has, hR⟩ := hq; exact hend as has hR
    case panic.panic => exact ⟨h1, k', .panic _, rfl, hok, hst, he, hq⟩
  · have := hv.1
    simp only [Array.size_append, List.size_toArray, Array.size_replicate]
    omega
  · intro t a ht
    obtain ⟨j, h1, h2⟩ := frOf_get args 0 t a ht
    have hj : j < args.length := (List.getElem?_eq_some_iff.1 h2).1
    have hjv : j < vs.length := by rw [hv.1]; exact hj
    have ht' : t = j := by omega
    subst ht'
    refine ⟨vs[t], ?_, hv.2 t a _ h2 (by simp [hjv])⟩
    rw [Array.getElem?_append_left (by simpa using hjv)]
    simp [hjv]
theorem enterP {f : FuncId} {fn : Func} {c : Code} {n : Nat} {rs : List ResultVar} {args : List AV} {r : AV} (hf : P.funcs[f]? = some fn) (hb : fn.body = some c) (hn : fn.ntmps = n) (hr : fn.results.toList = rs) (hl : Nat.ble args.length n = true)
    (h : ∀ σ, CJ P n c (endR P rs (fun e σ' => e = .ret r ∧ σ.le σ')) (frOf 0 args) σ) : Pure P f args r := fun σ => enter hf hb hn hr hl (h σ)
theorem endP {r r' : AV} {σ σ' : St} (h : r' = r) (hle : σ.le σ') : (fun (e : AEnd) (σ' : St) => e = .ret r ∧ σ.le σ') (.ret r') σ' := ⟨by rw [h], hle⟩
theorem cj_if {c : Operand} {x y : Code} {b : Bool} (hc : ev fr c = some (.v (.bool b))) (ht : b = true → CJ P nt x Q fr σ) (hf : b = false → CJ P nt y Q fr σ) : CJ P nt (.cond c x y) Q fr σ := cj_cond hc ht hf
theorem cj_yes {c : Operand} {x y : Code} (hc : ev fr c = some (.v (.bool true))) (h : CJ P nt x Q fr σ) : CJ P nt (.cond c x y) Q fr σ := cj_cond hc (fun _ => h) (fun h => by cases h)
theorem cj_no {c : Operand} {x y : Code} (hc : ev fr c = some (.v (.bool false))) (h : CJ P nt y Q fr σ) : CJ P nt (.cond c x y) Q fr σ := cj_cond hc (fun h => by cases h) (fun _ => h)
/-- Behind a code comes another: its end is told once (a pair of ends would double at each step). -/
@[irreducible] def sq (P : Program) (nt : Nat) (y : Code) (Q : Post) : Post := thn Q (CJ P nt y Q)
theorem cj_sq {x y : Code} (h : CJ P nt x (sq P nt y Q) fr σ) : CJ P nt (.seq x y) Q fr σ := by
  unfold sq at h; exact cj_seq h
theorem lj_sqe {y : Code} (h : CJ P nt y Q2 fr σ) : LJ P nt ops (sq P nt y Q2) [] fr σ := by
  unfold sq; exact lj_nil h
theorem nx_sq {y : Code} (h : CJ P nt y Q fr σ) : sq P nt y Q .normal fr σ := by
  unfold sq; exact h
theorem nx_ret_sq {y : Code} (h : Q .ret fr σ) : sq P nt y Q .ret fr σ := by
  unfold sq; exact h
theorem nx_exit_sq {y : Code} {id : Nat} (h : Q (.exit id) fr σ) : sq P nt y Q (.exit id) fr σ := by
  unfold sq; exact h
theorem nx_panic_sq {y : Code} {x : AV} (h : Q (.panic x) fr σ) : sq P nt y Q (.panic x) fr σ := by
  unfold sq; exact h
theorem as_lj {l : List Oper} (h : LJ P nt ops Q l fr σ) : LJ P nt ops Q l fr σ := h
theorem as_cj {c : Code} (h : CJ P nt c Q fr σ) : CJ P nt c Q fr σ := h
end
end Go.Proofs.YtledbkkaaomjpabDoor.Ab
