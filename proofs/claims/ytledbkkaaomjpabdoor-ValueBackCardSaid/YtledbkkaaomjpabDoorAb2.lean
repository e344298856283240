/- Abstract values over the model's memory, 2: lists of operations, calls, functions. -/
import Derived.Test.YtledbkkaaomjpabDoorAb1
set_option linter.unusedVariables false
set_option linter.unusedSimpArgs false
namespace Go.Proofs.YtledbkkaaomjpabDoor.Ab
open Go

/-! ### New blocks, draws -/
theorem Ok.live_lt {k : Cx} (hk : Ok k) {b : Nat} (h : k.live b) : b < k.w.heap.size := by
  obtain ⟨id, h1, h2⟩ := h
  exact (hk.bas id b h1 h2).2
/-- The world turns where nothing of ours lies. -/
theorem Ok.world {k : Cx} (hk : Ok k) (w' : World) (os : w'.os = k.w.os) (tape : w'.tape = k.w.tape) (output : w'.output = k.w.output) (size : k.w.heap.size ≤ w'.heap.size) (hb : ∀ b, b < k.w.heap.size → w'.heap[b]? = k.w.heap[b]?) :
    Ok { k with w := w' } ∧ Step k { k with w := w' } := by
  have hs : Step k { k with w := w' } := ⟨Nat.le_refl _, fun _ _ => rfl, rfl, os, tape, output, size, fun b h1 h2 => ⟨hb b h1, h2⟩, fun b cs t f h => ⟨cs, f, (hb b (Array.getElem?_eq_some_iff.1 h).1).trans h, rfl⟩⟩
  refine ⟨⟨hk.dom, hk.inj, fun id b h1 h2 => ⟨(hk.bas id b h1 h2).1, Nat.lt_of_lt_of_le (hk.bas id b h1 h2).2 size⟩, Nat.le_trans hk.hb size, fun id o ho => ?_, hk.ground hs⟩, hs⟩
  have hd : k.σ id ≠ none := by rw [show k.σ id = some o from ho]; simp
  exact (hk.obj id o ho).step hs (hk.dom id hd) fun b hb' => hb b (hk.bas id b hd hb').2
theorem Ok.alloc {k : Cx} (hk : Ok k) (o : Obj) : Ok { k with w := k.w.alloc o } ∧ Step k { k with w := k.w.alloc o } :=
  hk.world _ rfl rfl rfl (by simp) fun b h => heap_alloc_old _ _ _ h
theorem Ok.drew {k : Cx} (hk : Ok k) : Ok { k with w := k.w.drew } ∧ Step k { k with w := k.w.drew } :=
  hk.world _ rfl rfl rfl (Nat.le_refl _) fun b h => rfl
theorem Ok.new_frz {k : Cx} (hk : Ok k) (o : Obj) : k.w.heap.size < (k.w.alloc o).heap.size ∧ ¬ ({ k with w := k.w.alloc o } : Cx).live k.w.heap.size :=
  ⟨by simp, fun h => absurd (hk.live_lt (b := k.w.heap.size) h) (Nat.lt_irrefl _)⟩
/-- A new object of our own, in a new block. -/
def Cx.add (k : Cx) (b : Option Nat) (o : AObj) (w' : World) : Cx := { ρ := fun x => if x = k.top then b else k.ρ x, top := k.top + 1, σ := k.σ.set k.top o, base := k.base, w := w' }
theorem Ok.fresh {k : Cx} (hk : Ok k) : k.σ k.top = none := by
  cases h : k.σ k.top with
  | none => rfl
  | some o => exact absurd (hk.dom k.top (by rw [h]; simp)) (Nat.lt_irrefl _)
theorem Ok.add_step {k : Cx} (hk : Ok k) (ob : Obj) (o : AObj) : Step k (k.add (some k.w.heap.size) o (k.w.alloc ob)) := by
  refine ⟨Nat.le_succ _, fun id h => ?_, rfl, rfl, rfl, rfl, by simp [Cx.add], fun b h1 h2 => ⟨heap_alloc_old _ _ _ h1, ?_⟩, fun b cs t f h => ⟨cs, f, (heap_alloc_old _ _ _ (Array.getElem?_eq_some_iff.1 h).1).trans h, rfl⟩⟩
  · simp [Cx.add, Nat.ne_of_lt h]
  · rintro ⟨id, h3, h4⟩
    by_cases hid : id = k.top
    · subst hid
      simp [Cx.add] at h4
      omega
    · refine h2 ⟨id, ?_, ?_⟩
      · simpa [Cx.add, St.set, hid] using h3
      · simpa [Cx.add, hid] using h4
theorem Ok.add {k : Cx} (hk : Ok k) (ob : Obj) (o : AObj) (ho : ObjOk (k.add (some k.w.heap.size) o (k.w.alloc ob)) k.top o) : Ok (k.add (some k.w.heap.size) o (k.w.alloc ob)) := by
  have hs := hk.add_step ob o
  have key : ∀ id, id ≠ k.top → (k.add (some k.w.heap.size) o (k.w.alloc ob)).σ id = k.σ id := fun id h => by simp [Cx.add, St.set, h]
  have keyρ : ∀ id, id ≠ k.top → (k.add (some k.w.heap.size) o (k.w.alloc ob)).ρ id = k.ρ id := fun id h => by simp [Cx.add, h]
  have keyt : (k.add (some k.w.heap.size) o (k.w.alloc ob)).ρ k.top = some k.w.heap.size := by simp [Cx.add]
  refine ⟨fun id h => ?_, fun id id' b h1 h2 h3 h4 => ?_, fun id b h1 h2 => ?_, ?_, fun id o' h => ?_, hk.ground hs⟩
  · by_cases hid : id = k.top
    · subst hid; exact Nat.lt_succ_self _
    · rw [key id hid] at h
      exact Nat.lt_succ_of_lt (hk.dom id h)
  · by_cases hid : id = k.top <;> by_cases hid' : id' = k.top
    · omega
    · subst hid
      rw [keyt] at h3
      rw [key id' hid'] at h2
      rw [keyρ id' hid'] at h4
      cases h3
      exact absurd (hk.bas id' _ h2 h4).2 (Nat.lt_irrefl _)
    · subst hid'
      rw [keyt] at h4
      rw [key id hid] at h1
      rw [keyρ id hid] at h3
      cases h4
      exact absurd (hk.bas id _ h1 h3).2 (Nat.lt_irrefl _)
    · rw [key id hid] at h1
      rw [keyρ id hid] at h3
      rw [key id' hid'] at h2
      rw [keyρ id' hid'] at h4
      exact hk.inj id id' b h1 h2 h3 h4
  · by_cases hid : id = k.top
    · subst hid
      rw [keyt] at h2
      cases h2
      exact ⟨hk.hb, by simp [Cx.add]⟩
    · rw [key id hid] at h1
      rw [keyρ id hid] at h2
      obtain ⟨h5, h6⟩ := hk.bas id b h1 h2
      exact ⟨h5, by simp [Cx.add]; omega⟩
  · have := hk.hb
    simp [Cx.add]; omega
  · by_cases hid : id = k.top
    · subst hid
      have : o' = o := by
        have := h
        simp [Cx.add, St.set] at this
        exact this.symm
      subst this
      exact ho
    · rw [key id hid] at h
      have hd : k.σ id ≠ none := by rw [h]; simp
      exact (hk.obj id o' h).step hs (hk.dom id hd) fun b hb => heap_alloc_old _ _ _ (hk.bas id b hd hb).2

/-! ### One operation -/
def Gave (k' : Cx) (n : Next) : Option AV → Prop
  | some av => ∃ v, n = .value v ∧ Rep k' av v
  | none => n = .skip
def OpJ (P : Program) (o : Oper) (E : Operand → Option AV) (σ : St) (R : Option AV → St → Prop) : Prop :=
  ∀ (k : Cx) (e : Operand → Value), k.σ = σ → Ok k → RepsOn k E e o.op.operands → ∃ k' n r, (execOp e o).run P k.w = .ok n k'.w ∧ Ok k' ∧ Step k k' ∧ R r k'.σ ∧ Gave k' n r
theorem opj_quiet {P : Program} {o : Oper} {E : Operand → Option AV} {σ : St} {R : Option AV → St → Prop} (av : AV)
    (h : ∀ (k : Cx) (e : Operand → Value), k.σ = σ → Ok k → RepsOn k E e o.op.operands → ∃ v, (execOp e o).run P k.w = .ok (.value v) k.w ∧ Rep k av v) (hR : R (some av) σ) : OpJ P o E σ R :=
  fun k e hσ hk hr => let ⟨v, h1, h2⟩ := h k e hσ hk hr; ⟨k, .value v, some av, h1, hk, .refl k, hσ ▸ hR, v, rfl, h2⟩

section rules
variable {P : Program} {nt : Nat} {ops : Array Oper} {Q : Post} {fr : Fr} {σ : St} {o : Oper} {rest : List Oper}
theorem lj_nil (h : Q .normal fr σ) : LJ P nt ops Q [] fr σ := fun k a hσ hk hz hf => wpList_nil ⟨rfl, rfl, k, .normal, fr, rfl, hk, .refl k, hf, trivial, hσ ▸ h⟩
theorem cj_region {id : Nat} {l : List Oper} (h : LJ P nt l.toArray Q l fr σ) : CJ P nt (.region id l.toArray false) Q fr σ := fun k a hσ hk hz hf => wp_region_lit (h k a hσ hk hz hf)
theorem LJ.mono {l : List Oper} {Q' : Post} (h : LJ P nt ops Q l fr σ) (hq : ∀ e fr σ, Q e fr σ → Q' e fr σ) : LJ P nt ops Q' l fr σ :=
  fun k a hσ hk hz hf => wpList_mono (fun _ _ _ => conc_mono hq) l _ _ (h k a hσ hk hz hf)
theorem reps_of_fr {k : Cx} {a : Act} (h : FrOk k fr a.tmps) (l : Array Operand) : RepsOn k (ev fr) a.eval l := fun x _ av he => ev_ok h x av he
theorem lj_wanted (hw : ∀ (k : Cx) (a : Act), FrOk k fr a.tmps → Region.wanted o (yielded ops a.tmps) = true) (hd : fits nt o.dst = true)
    (h : OpJ P o (ev fr) σ (fun r σ' => LJ P nt ops Q rest (put fr o.dst r) σ')) : LJ P nt ops Q (o :: rest) fr σ := fun k a hσ hk hz hf => by
  obtain ⟨k', n, r, h1, h2, h3, h4, h5⟩ := h k a.eval hσ hk (reps_of_fr hf _)
  unfold wpList
  rw [if_pos (hw k a hf)]
  refine .inl ?_
  unfold Oper.wp
  rw [h1]
  cases r with
  | none =>
    cases h5
    simp only [Oper.upon]
    refine wpList_mono (fun _ _ _ => conc_step h3 (Act.defers_put ..) (Act.size_put ..)) _ _ _ (h4 k' _ rfl h2 ((Act.size_put ..).trans hz) ((hf.step h3).put_undef (by rw [hz]; exact hd)))
  | some av =>
    obtain ⟨v, rfl, hr⟩ := h5
    simp only [Oper.upon]
    refine wpList_mono (fun _ _ _ => conc_step h3 (Act.defers_put ..) (Act.size_put ..)) _ _ _ (h4 k' _ rfl h2 ((Act.size_put ..).trans hz) ((hf.step h3).put (by rw [hz]; exact hd) hr))
theorem lj_op (hg : o.guard = none) (hd : fits nt o.dst = true) (h : OpJ P o (ev fr) σ (fun r σ' => LJ P nt ops Q rest (put fr o.dst r) σ')) : LJ P nt ops Q (o :: rest) fr σ :=
  lj_wanted (fun _ _ _ => by simp [Region.wanted, hg]) hd h
theorem yields {k : Cx} {a : Act} (hf : FrOk k fr a.tmps) {j t : Nat} {b : Bool} (hj : (ops[j]?).bind (·.dst) = some t) (hl : lk fr t = some (.v (.bool b))) : yielded ops a.tmps j = some b := by
  obtain ⟨u, hu, hr⟩ := hf t _ hl
  cases hr
  unfold yielded
  rw [hj]
  simp [hu]
theorem lj_guard_yes {j t : Nat} {b : Bool} (hg : o.guard = some (j, b)) (hj : (ops[j]?).bind (·.dst) = some t) (hl : lk fr t = some (.v (.bool b))) (hd : fits nt o.dst = true)
    (h : OpJ P o (ev fr) σ (fun r σ' => LJ P nt ops Q rest (put fr o.dst r) σ')) : LJ P nt ops Q (o :: rest) fr σ :=
  lj_wanted (fun k a hf => by simp [Region.wanted, hg, yields hf hj hl]) hd h
theorem lj_guard_no {j t : Nat} {b c : Bool} (hg : o.guard = some (j, c)) (hj : (ops[j]?).bind (·.dst) = some t) (hl : lk fr t = some (.v (.bool b))) (hne : (b == c) = false) (hd : fits nt o.dst = true)
    (h : LJ P nt ops Q rest (put fr o.dst none) σ) : LJ P nt ops Q (o :: rest) fr σ := fun k a hσ hk hz hf => by
  have hw : Region.wanted o (yielded ops a.tmps) = false := by
    simp only [Region.wanted, hg, yields hf hj hl]
    cases b <;> cases c <;> first | rfl | (simp at hne)
  unfold wpList
  rw [if_neg (by rw [hw]; simp)]
  exact wpList_mono (fun _ _ _ => conc_step (.refl k) (Act.defers_put ..) (Act.size_put ..)) _ _ _ (h k _ hσ hk ((Act.size_put ..).trans hz) (hf.put_undef (by rw [hz]; exact hd)))

/-! ### Calls -/
inductive AEnd where
  | ret (x : AV)
  | panic (x : AV)
def EndOk (k : Cx) : AEnd → Ending → Prop
  | .ret x, .returned v => Rep k x v
  | .panic x, .panicked ch => ∃ u, ch = [{ v := u, recovered := false }] ∧ Rep k x u
  | _, _ => False
def Reps (k : Cx) (l : List AV) (vs : List Value) : Prop := vs.length = l.length ∧ ∀ (j : Nat) a u, l[j]? = some a → vs[j]? = some u → Rep k a u
/-- A function at abstract arguments: what it answers, and what it leaves. -/
def ACalls (P : Program) (f : FuncId) (args : List AV) (σ : St) (R : AEnd → St → Prop) : Prop :=
  ∀ (k : Cx) (vs : List Value), k.σ = σ → Ok k → Reps k args vs → Calls P f vs.toArray k.w (fun e w' => ∃ k' e', k'.w = w' ∧ Ok k' ∧ Step k k' ∧ EndOk k' e' e ∧ R e' k'.σ)
theorem ACalls.mono {f : FuncId} {args : List AV} {R R' : AEnd → St → Prop} (h : ACalls P f args σ R) (hr : ∀ e σ', R e σ' → R' e σ') : ACalls P f args σ R' := fun k vs hσ hk hv =>
  (h k vs hσ hk hv).mono fun e w' ⟨k', e', h1, h2, h3, h4, h5⟩ => ⟨k', e', h1, h2, h3, h4, hr _ _ h5⟩
/-- It answers r, whatever there is, and turns nothing of ours. -/
def Pure (P : Program) (f : FuncId) (args : List AV) (r : AV) : Prop := ∀ σ, ACalls P f args σ (fun e σ' => e = .ret r ∧ σ.le σ')

def evs (fr : Fr) : List Operand → Option (List AV)
  | [] => some []
  | x :: l => match ev fr x, evs fr l with
    | some a, some as => some (a :: as)
    | _, _ => none
theorem evs_reps {k : Cx} {a : Act} (hf : FrOk k fr a.tmps) : ∀ (l : List Operand) (as : List AV), evs fr l = some as → Reps k as (l.map a.eval)
  | [], as, h => by cases h; exact ⟨rfl, fun j a u h _ => by simp at h⟩
  | x :: l, as, h => by
    unfold evs at h
    cases h1 : ev fr x with
    | none => simp [h1] at h
    | some b =>
      cases h2 : evs fr l with
      | none => simp [h1, h2] at h
      | some bs =>
        simp only [h1, h2, Option.some.injEq] at h
        subst h
        obtain ⟨h3, h4⟩ := evs_reps hf l bs h2
        refine ⟨by simp [h3], fun j c u hj hu => ?_⟩
        cases j with
        | zero =>
          simp at hj hu
          subst hj; subst hu
          exact ev_ok hf x b h1
        | succ j => exact h4 j c u (by simpa using hj) (by simpa using hu)
theorem Reps.append {k : Cx} {l m : List AV} {vs us : List Value} (h : Reps k l vs) (h' : Reps k m us) : Reps k (l ++ m) (vs ++ us) := by
  refine ⟨by simp [h.1, h'.1], fun j a u hj hu => ?_⟩
  rcases Nat.lt_or_ge j l.length with hlt | hge
  · rw [List.getElem?_append_left hlt] at hj
    rw [List.getElem?_append_left (by rw [h.1]; exact hlt)] at hu
    exact h.2 j a u hj hu
  · rw [List.getElem?_append_right hge] at hj
    rw [List.getElem?_append_right (by rw [h.1]; exact hge), h.1] at hu
    exact h'.2 _ a u hj hu
/-- The function has a body, and is entered. -/
def entered (P : Program) (f : FuncId) : Bool := match P.funcs[f]? with
  | some fn => !(fn.name == "runtime.NumGoroutine") && fn.body.isSome
  | none => false
theorem run_callFunc {f : FuncId} (h : entered P f = true) (args : Array Value) (w : World) : (callFunc f args).run P w = .ok (.enter f args) w := by
  unfold entered at h
  unfold callFunc
  simp only [Sem.run_bind, run_program, Result.andThen_ok]
  cases hf : P.funcs[f]? with
  | none => simp [hf] at h
  | some fn =>
    simp only [hf, Bool.and_eq_true, Bool.not_eq_true', beq_eq_false_iff_ne] at h
    cases hb : fn.body with
    | none => simp [hb] at h
    | some c => simp [h.1, hb]
theorem lj_call {c : Call} {x : Operand} {f : FuncId} {caps as : List AV} (ho : o.op = .call c) (hc : c.callee = .value x) (hg : o.guard = none) (hd : fits nt o.dst = true) (hx : ev fr x = some (.fn f caps)) (has : evs fr c.args.toList = some as)
    (hent : entered P f = true)
    (h : ACalls P f (as ++ caps) σ (fun e σ' => match e with
      | .ret r => LJ P nt ops Q rest (put fr o.dst (some r)) σ'
      | .panic r => Q (.panic r) fr σ')) : LJ P nt ops Q (o :: rest) fr σ := fun k a hσ hk hz hf => by
  unfold wpList
  rw [if_pos (by simp [Region.wanted, hg])]
  refine .inl ?_
  have hr := ev_ok hf x _ hx
  have hargs := evs_reps hf _ _ has
  generalize hu : a.eval x = u at hr
  cases hr with
  | fn hl hcap =>
    rename_i vs
    have hcaps : Reps k caps vs.toList := ⟨by simp [hl], fun j b v hj hv => hcap j b v hj (by simpa using hv)⟩
    have hrun : (execOp a.eval o).run P k.w = .ok (.enter f (c.args.map a.eval ++ vs)) k.w := by
      unfold execOp
      simp only [ho, resolve, hc, hu, Deferred.ofValue, invoke, Sem.run_bind, Sem.run_pure, Result.andThen_ok, run_callFunc hent]
      simp
    unfold Oper.wp
    rw [hrun]
    simp only [Oper.upon]
    have hvs : (c.args.map a.eval ++ vs) = (c.args.toList.map a.eval ++ vs.toList).toArray := by simp
    rw [hvs]
    refine (h k _ hσ hk (hargs.append hcaps)).mono fun e w' ⟨k', e', h1, h2, h3, h4, h5⟩ => ?_
    subst h1
    cases e' <;> cases e <;> simp only [EndOk] at h4
    case ret.returned r v =>
      exact wpList_mono (fun _ _ _ => conc_step h3 (Act.defers_put ..) (Act.size_put ..)) _ _ _ (h5 k' _ rfl h2 ((Act.size_put ..).trans hz) ((hf.step h3).put (by rw [hz]; exact hd) h4))
    case panic.panicked =>
      exact ⟨rfl, rfl, k', .panic _, fr, rfl, h2, h3, hf.step h3, h4, h5⟩
theorem lj_call_pure {c : Call} {x : Operand} {f : FuncId} {caps as : List AV} {r : AV} (ho : o.op = .call c) (hc : c.callee = .value x) (hg : o.guard = none) (hd : fits nt o.dst = true) (hx : ev fr x = some (.fn f caps)) (has : evs fr c.args.toList = some as)
    (hent : entered P f = true) (hp : Pure P f (as ++ caps) r) (h : LJ P nt ops Q rest (put fr o.dst (some r)) σ) : LJ P nt ops Q (o :: rest) fr σ := by
  refine lj_call ho hc hg hd hx has hent ((hp σ).mono fun e σ' ⟨he, hle⟩ => ?_)
  subst he
  show LJ P nt ops Q rest _ σ'
  intro k a hσ hk hz hf
  subst hσ
  obtain ⟨hok, hst⟩ := hk.forget hle
  exact wpList_mono (fun _ _ _ => conc_step hst rfl rfl) _ _ _ (h { k with σ := σ } a rfl hok hz (hf.step hst))

/-! ### A function's body -/
def frOf : Nat → List AV → Fr
  | _, [] => []
  | n, a :: l => (n, a) :: frOf (n + 1) l
theorem frOf_get : ∀ (l : List AV) (n t : Nat) (a : AV), lk (frOf n l) t = some a → ∃ j, t = n + j ∧ l[j]? = some a
  | [], n, t, a, h => by cases h
  | b :: l, n, t, a, h => by
    unfold frOf at h
    rw [lk_cons] at h
    split at h
    · rename_i ht
      cases h
      exact ⟨0, by omega, rfl⟩
    · obtain ⟨j, h1, h2⟩ := frOf_get l (n + 1) t a h
      exact ⟨j + 1, by omega, by simpa using h2⟩
def results' (fr : Fr) : List ResultVar → Option (List AV)
  | [] => some []
  | .tmp t :: l => match lk fr t, results' fr l with
    | some a, some as => some (a :: as)
    | _, _ => none
  | .cell _ _ :: _ => none
def packed : List AV → AV
  | [a] => a
  | l => .tup l
theorem run_results' {k : Cx} {tmps : Array Value} (hf : FrOk k fr tmps) : ∀ (l : List ResultVar) (as : List AV), results' fr l = some as →
    ∃ vs : List Value, (l.mapM (m := Sem) fun
      | .tmp t => pure (tmps.getD t undef)
      | .cell a t => do loadVar t (← asAddr (tmps.getD a undef))).run P k.w = .ok vs k.w ∧ Reps k as vs
  | [], as, h => by cases h; exact ⟨[], by simp, rfl, fun j a u h _ => by simp at h⟩
  | .cell _ _ :: _, as, h => by simp [results'] at h
  | .tmp t :: l, as, h => by
    unfold results' at h
    cases h1 : lk fr t with
    | none => simp [h1] at h
    | some b =>
      cases h2 : results' fr l with
      | none => simp [h1, h2] at h
      | some bs =>
        simp only [h1, h2, Option.some.injEq] at h
        subst h
        obtain ⟨vs, h3, h4, h5⟩ := run_results' hf l bs h2
        obtain ⟨u, hu, hr⟩ := hf t b h1
        refine ⟨u :: vs, ?_, by simp [h4], fun j a v hj hv => ?_⟩
        · simp only [List.mapM_cons, Sem.run_bind, Sem.run_pure, Result.andThen_ok, h3]
          simp [hu]
        · cases j with
          | zero =>
            simp at hj hv
            subst hj; subst hv
            exact hr
          | succ j => exact h5 j a v (by simpa using hj) (by simpa using hv)
theorem rep_packed {k : Cx} {as : List AV} {vs : List Value} (h : Reps k as vs) : Rep k (packed as) (if h : vs.toArray.size = 1 then vs.toArray[0] else .tuple vs.toArray) := by
  match as, vs, h with
  | [], [], h => exact .tup (by simp) (fun j a u h _ => by simp at h)
  | [a], [v], h => exact h.2 0 a v rfl rfl
  | a :: b :: l, u :: v :: m, h =>
    simp only [packed]
    rw [dif_neg (by simp)]
    refine .tup (by simpa using h.1) (fun j a u hj hu => h.2 j a u hj (by simpa using hu))
  | [], _ :: _, h => exact absurd h.1 (by simp)
  | _ :: _, [], h => exact absurd h.1 (by simp)
  | [_], _ :: _ :: _, h => exact absurd h.1 (by simp)
  | _ :: _ :: _, [_], h => exact absurd h.1 (by simp)
/-- What a body's end must be. -/
def ends (fn : Func) (R : AEnd → St → Prop) : Post
  | .normal, fr, σ | .ret, fr, σ => ∃ as, results' fr fn.results.toList = some as ∧ R (.ret (packed as)) σ
  | .panic x, _, σ => R (.panic x) σ
  | _, _, _ => False
theorem acalls_body {f : FuncId} {fn : Func} {c : Code} {args : List AV} {R : AEnd → St → Prop} (hf : P.funcs[f]? = some fn) (hb : fn.body = some c) (hn : args.length ≤ fn.ntmps)
    (h : CJ P fn.ntmps c (ends fn R) (frOf 0 args) σ) : ACalls P f args σ R := fun k vs hσ hk hv => by
  refine calls_of_wp hf hb (Code.wp_mono (fun e a w hc => ?_) (h k { tmps := vs.toArray ++ Array.replicate (fn.ntmps - vs.toArray.size) undef, defers := [] } hσ hk ?_ ?_))
  · obtain ⟨h1, h2, k', e', fr', rfl, hok, hst, hfr, he, hq⟩ := hc
    have hend : ∀ as, results' fr' fn.results.toList = some as → R (.ret (packed as)) k'.σ → a.defers = [] ∧ ∃ v, (results fn a.tmps).run P k'.w = .ok v k'.w ∧ ∃ k2 e2, k2.w = k'.w ∧ Ok k2 ∧ Step k k2 ∧ EndOk k2 e2 (.returned v) ∧ R e2 k2.σ := by
      intro as has hR
      obtain ⟨us, hrun, hreps⟩ := run_results' (P := P) hfr _ _ has
      refine ⟨h1, _, ?_, k', .ret (packed as), rfl, hok, hst, rep_packed hreps, hR⟩
      unfold results
      have e1 : fn.results = fn.results.toList.toArray := by simp
      rw [e1, List.mapM_toArray]
      simp only [Sem.run_bind, Sem.run_map, Sem.run_pure]
      exact (congrArg (fun r : Result (List Value) => ((r.andThen fun a w' => Result.ok a.toArray w').andThen fun a w' => Result.ok (if h : a.size = 1 then a[0] else Value.tuple a) w')) hrun).trans rfl
    cases e' <;> cases e <;> simp only [ExitOk] at he <;> simp only [ends] at hq
    case normal.normal => obtain ⟨as, has, hR⟩ := hq; exact hend as has hR
    case ret.ret => obtain ⟨as, has, hR⟩ := hq; exact hend as has hR
    case panic.panic => exact ⟨h1, k', .panic _, rfl, hok, hst, he, hq⟩
  · have := hv.1
    simp only [Array.size_append, List.size_toArray, Array.size_replicate]
    omega
  · intro t a ht
    obtain ⟨j, h1, h2⟩ := frOf_get args 0 t a ht
    have hj : j < args.length := (List.getElem?_eq_some_iff.1 h2).1
    have hjv : j < vs.length := by rw [hv.1]; exact hj
    have ht' : t = j := by omega
    subst ht'
    refine ⟨vs[t], ?_, hv.2 t a _ h2 (by simp [hjv])⟩
    rw [Array.getElem?_append_left (by simpa using hjv)]
    simp [hjv]
theorem pure_body {f : FuncId} {fn : Func} {c : Code} {args : List AV} {r : AV} (hf : P.funcs[f]? = some fn) (hb : fn.body = some c) (hn : args.length ≤ fn.ntmps)
    (h : ∀ σ, CJ P fn.ntmps c (ends fn (fun e σ' => e = .ret r ∧ σ.le σ')) (frOf 0 args) σ) : Pure P f args r := fun σ => acalls_body hf hb hn (h σ)
end rules
end Go.Proofs.YtledbkkaaomjpabDoor.Ab
