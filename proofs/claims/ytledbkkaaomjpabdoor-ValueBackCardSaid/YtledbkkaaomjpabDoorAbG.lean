/- Abstract values over the model's memory: operations under a guard that is not known: what they hand on is there only if the guard holds. -/
import Derived.Test.YtledbkkaaomjpabDoorAb11
set_option linter.unusedVariables false
set_option linter.unusedSimpArgs false
namespace Go.Proofs.YtledbkkaaomjpabDoor.Ab
open Go

def AV.un : AV → AV
  | .mb _ a => a
  | a => a
def AV.cnd : AV → Bool
  | .mb c _ => c
  | _ => true
def strip : Fr → Fr
  | [] => []
  | (t, a) :: r => (t, a.un) :: strip r
def condOf (fr : Fr) : Operand → Bool
  | .tmp t => match lk fr t with
    | some a => a.cnd
    | none => true
  | _ => true
def Needs (c : Bool) (fr : Fr) : List Operand → Prop
  | [] => True
  | x :: l => (c = true → condOf fr x = true) ∧ Needs c fr l
theorem Needs.all {c : Bool} {fr : Fr} : ∀ {l : List Operand}, Needs c fr l → c = true → ∀ x ∈ l, condOf fr x = true
  | [], _, _, x, h => by cases h
  | y :: l, hn, hc, x, h => by
    rcases List.mem_cons.1 h with rfl | h
    · exact hn.1 hc
    · exact hn.2.all hc x h
/-- When the guard says so. -/
def gc : AV → Bool → Option Bool
  | .v (.bool b), true => some b
  | .v (.bool b), false => some (!b)
  | .mb c (.v (.bool b)), true => some (c && b)
  | .mb c (.v (.bool b)), false => some (c && !b)
  | _, _ => none
theorem lk_strip (fr : Fr) (t : Nat) : lk (strip fr) t = (lk fr t).map AV.un := by
  induction fr with
  | nil => rfl
  | cons p r ih =>
    obtain ⟨u, a⟩ := p
    simp only [strip]
    rw [lk_cons, lk_cons, ih]
    split <;> rfl
theorem Rep.un {k : Cx} {a : AV} {u : Value} (h : Rep k a u) (hc : a.cnd = true) : Rep k a.un u := by
  cases a with
  | mb c b => cases h with
    | mb h0 h => exact h hc
  | _ => exact h
theorem strip_reps {k : Cx} {fr : Fr} {e : Operand → Value} {l : Array Operand} (h : RepsOn k (ev fr) e l) (hc : ∀ x ∈ l.toList, condOf fr x = true) : RepsOn k (ev (strip fr)) e l := fun x hx av he => by
  cases x with
  | tmp t =>
    have he' : (lk fr t).map AV.un = some av := by rw [← lk_strip]; exact he
    cases hl : lk fr t with
    | none => rw [hl] at he'; cases he'
    | some a =>
      rw [hl] at he'
      cases he'
      have h1 := h (.tmp t) hx a hl
      have h2 := hc (.tmp t) (by simpa using hx)
      simp only [condOf, hl] at h2
      exact h1.un h2
  | const v => exact h _ hx av (by cases v <;> exact he)
  | global g => cases he
  | func f => exact h _ hx av he
theorem OpJ.strip {P : Program} {o : Oper} {fr : Fr} {σ : St} {R : Option AV → St → Prop} {c : Bool} (hn : Needs c fr o.op.operands.toList) (hc : c = true) (h : OpJ P o (ev (strip fr)) σ R) : OpJ P o (ev fr) σ R :=
  fun k e hσ hk hr => h k e hσ hk (strip_reps hr (hn.all hc))
def asB (v : Value) : Option Bool := match some v with
  | some (.bool b) => some b
  | _ => none
theorem yields_gc1 {ops : Array Oper} {k : Cx} {tmps : Array Value} {j u : Nat} {w c : Bool} {a : AV} {v : Value} (hj : (ops[j]?).bind (·.dst) = some u) (hv : tmps[u]? = some v) (hr : Rep k a v) (hg : gc a w = some c) : (yielded ops tmps j == some w) = c := by
  have hy : yielded ops tmps j = asB v := by
    unfold yielded
    rw [hj]
    simp only [Option.bind_some, hv]
    rfl
  rw [hy]
  cases a with
  | v x =>
    cases x with
    | bool b =>
      cases hr
      cases w <;> cases hg <;> first | (cases b <;> rfl) | (cases c <;> rfl)
    | _ => cases w <;> cases hg
  | mb c0 a =>
    cases a with
    | v x =>
      cases x with
      | bool b =>
        cases hr with
        | mb h0 h =>
          cases c0 with
          | false => rw [h0 rfl]; cases w <;> cases hg <;> first | (cases b <;> rfl) | (cases c <;> rfl)
          | true =>
            have := h rfl
            cases this
            cases w <;> cases hg <;> first | (cases b <;> rfl) | (cases c <;> rfl)
      | _ => cases w <;> cases hg
    | _ => cases w <;> cases hg
  | _ => cases w <;> cases hg
theorem yields_gc {ops : Array Oper} {fr : Fr} {k : Cx} {tmps : Array Value} (hf : FrOk k fr tmps) {j u : Nat} {w c : Bool} {a : AV} (hj : (ops[j]?).bind (·.dst) = some u) (hl : lk fr u = some a) (hg : gc a w = some c) : (yielded ops tmps j == some w) = c := by
  obtain ⟨v, hv, hr⟩ := hf u a hl
  exact yields_gc1 hj hv hr hg
theorem Rep.mb_false {k : Cx} {c : Bool} {a : AV} (hc : c = false) : Rep k (.mb c a) undef := .mb (fun _ => rfl) (fun h => by rw [hc] at h; cases h)
theorem Rep.mb_true {k : Cx} {c : Bool} {a : AV} {u : Value} (hc : c = true) (h : Rep k a u) : Rep k (.mb c a) u := .mb (fun h => by rw [hc] at h; cases h) (fun _ => h)
section
variable {P : Program} {nt : Nat} {ops : Array Oper} {Q : Post} {fr : Fr} {σ : St} {rest : List Oper} {t : Tmp} {op : Op} {ty : TypeId} {pos : String} {aft : Array Edge} {av : AV}
/-- Under a guard that is not known: what is handed on is there if it holds. -/
theorem lj_q0 {j u : Nat} {w c : Bool} {a : AV} (hd : fits nt (some t) = true) (hj : (ops[j]?).bind (·.dst) = some u) (hl : lk fr u = some a) (hg : gc a w = some c)
    (hJ : c = true → ∀ (R : Option AV → St → Prop), R (some av) σ → OpJ P ⟨some t, op, ty, pos, aft, some (j, w)⟩ (ev fr) σ R) (h : LJ P nt ops Q rest ((t, .mb c av) :: fr) σ) : LJ P nt ops Q (⟨some t, op, ty, pos, aft, some (j, w)⟩ :: rest) fr σ := fun k a' hσ hk hz hf => by
  have hy := yields_gc hf hj hl hg
  unfold wpList
  cases c with
  | false =>
    rw [if_neg (by simp only [Region.wanted, hy]; simp)]
    exact wpList_mono (fun _ _ _ => conc_step (.refl k) (Act.defers_put ..) (Act.size_put ..)) _ _ _ (h k _ hσ hk ((Act.size_put ..).trans hz) (hf.put (dst := some t) (by rw [hz]; exact hd) (Rep.mb_false rfl)))
  | true =>
    rw [if_pos (by simp only [Region.wanted, hy])]
    refine .inl ?_
    obtain ⟨k', n, r, h1, h2, h3, h4, h5⟩ := hJ rfl (fun r σ' => r = some av ∧ σ' = σ) ⟨rfl, rfl⟩ k a'.eval hσ hk (reps_of_fr hf _)
    obtain ⟨rfl, h4⟩ := h4
    obtain ⟨v, rfl, hr⟩ := h5
    unfold Oper.wp
    rw [h1]
    simp only [Oper.upon]
    exact wpList_mono (fun _ _ _ => conc_step h3 (Act.defers_put ..) (Act.size_put ..)) _ _ _ (h k' _ h4 h2 ((Act.size_put ..).trans hz) ((hf.step h3).put (dst := some t) (by rw [hz]; exact hd) (Rep.mb_true rfl hr)))
theorem lj_q {j u : Nat} {w c : Bool} {a : AV} (hd : fits nt (some t) = true) (hj : (ops[j]?).bind (·.dst) = some u) (hl : lk fr u = some a) (hg : gc a w = some c) (hn : Needs c fr op.operands.toList)
    (hJ : c = true → ∀ (R : Option AV → St → Prop), R (some av) σ → OpJ P ⟨some t, op, ty, pos, aft, some (j, w)⟩ (ev (strip fr)) σ R) (h : LJ P nt ops Q rest ((t, .mb c av) :: fr) σ) : LJ P nt ops Q (⟨some t, op, ty, pos, aft, some (j, w)⟩ :: rest) fr σ :=
  lj_q0 hd hj hl hg (fun hc R hR => OpJ.strip (o := ⟨some t, op, ty, pos, aft, some (j, w)⟩) hn hc (hJ hc R hR)) h
theorem gc_or {fr : Fr} {x y : Operand} {b vy : Bool} {k : Cx} {e : Operand → Value} {l : Array Operand} {cc : Bool} (hr : RepsOn k (ev fr) e l) (hx : ev fr x = some (.v (.bool true))) (hy : ev fr y = some (.mb cc (.v (.bool vy)))) (mx : x ∈ l) (my : y ∈ l) (h : b = false → cc = true) : Rep k (.v (.bool (b || vy))) (if b then e x else e y) := by
  cases b with
  | true => exact hr x mx _ hx
  | false =>
    have := hr y my _ hy
    cases this with
    | mb h0 h1 => exact h1 (h rfl)
theorem gc_and {fr : Fr} {x y : Operand} {b vx : Bool} {k : Cx} {e : Operand → Value} {l : Array Operand} {cc : Bool} (hr : RepsOn k (ev fr) e l) (hx : ev fr x = some (.mb cc (.v (.bool vx)))) (hy : ev fr y = some (.v (.bool false))) (mx : x ∈ l) (my : y ∈ l) (h : b = true → cc = true) : Rep k (.v (.bool (b && vx))) (if b then e x else e y) := by
  cases b with
  | false => exact hr y my _ hy
  | true =>
    have := hr x mx _ hx
    cases this with
    | mb h0 h1 => exact h1 (h rfl)
theorem run_pick {k : Cx} {o : Oper} {c x y : Operand} {b : Bool} {e : Operand → Value} (ho : o.op = .pick c x y) (hc : e c = .bool b) : (execOp e o).run P k.w = .ok (.value (if b then e x else e y)) k.w := by
  unfold execOp
  simp only [ho, hc]
  cases b <;> rfl
theorem opj_or {o : Oper} {R : Option AV → St → Prop} {c x y : Operand} {b vy : Bool} (ho : o.op = .pick c x y) (hc : ev fr c = some (.v (.bool b))) (hx : ev fr x = some (.v (.bool true))) (hy : ev fr y = some (.mb (!b) (.v (.bool vy)))) (hR : R (some (.v (.bool (b || vy)))) σ) : OpJ P o (ev fr) σ R :=
  opj_quiet _ (fun k e hσ hk hr => by
    have m1 : c ∈ o.op.operands := by rw [ho]; simp [Op.operands]
    have m2 : x ∈ o.op.operands := by rw [ho]; simp [Op.operands]
    have m3 : y ∈ o.op.operands := by rw [ho]; simp [Op.operands]
    exact ⟨_, run_pick ho (rep_v (hr c m1 _ hc)), gc_or hr hx hy m2 m3 (fun h => by rw [h]; rfl)⟩) hR
theorem opj_and {o : Oper} {R : Option AV → St → Prop} {c x y : Operand} {b vx : Bool} (ho : o.op = .pick c x y) (hc : ev fr c = some (.v (.bool b))) (hx : ev fr x = some (.mb b (.v (.bool vx)))) (hy : ev fr y = some (.v (.bool false))) (hR : R (some (.v (.bool (b && vx)))) σ) : OpJ P o (ev fr) σ R :=
  opj_quiet _ (fun k e hσ hk hr => by
    have m1 : c ∈ o.op.operands := by rw [ho]; simp [Op.operands]
    have m2 : x ∈ o.op.operands := by rw [ho]; simp [Op.operands]
    have m3 : y ∈ o.op.operands := by rw [ho]; simp [Op.operands]
    exact ⟨_, run_pick ho (rep_v (hr c m1 _ hc)), gc_and hr hx hy m2 m3 (fun h => h)⟩) hR
theorem opj_orq {o : Oper} {R : Option AV → St → Prop} {c x y : Operand} {cc b vy : Bool} (ho : o.op = .pick c x y) (hc : ev fr c = some (.mb cc (.v (.bool b)))) (hx : ev fr x = some (.v (.bool true))) (hy : ev fr y = some (.mb (cc && !b) (.v (.bool vy)))) (h : cc = true) (hR : R (some (.v (.bool (b || vy)))) σ) : OpJ P o (ev fr) σ R :=
  opj_quiet _ (fun k e hσ hk hr => by
    have m1 : c ∈ o.op.operands := by rw [ho]; simp [Op.operands]
    have m2 : x ∈ o.op.operands := by rw [ho]; simp [Op.operands]
    have m3 : y ∈ o.op.operands := by rw [ho]; simp [Op.operands]
    have h1 := hr c m1 _ hc
    cases h1 with
    | mb h0 h1 => exact ⟨_, run_pick ho (rep_v (h1 h)), gc_or hr hx hy m2 m3 (fun h' => by rw [h, h']; rfl)⟩) hR
theorem opj_andq {o : Oper} {R : Option AV → St → Prop} {c x y : Operand} {cc b vx : Bool} (ho : o.op = .pick c x y) (hc : ev fr c = some (.mb cc (.v (.bool b)))) (hx : ev fr x = some (.mb (cc && b) (.v (.bool vx)))) (hy : ev fr y = some (.v (.bool false))) (h : cc = true) (hR : R (some (.v (.bool (b && vx)))) σ) : OpJ P o (ev fr) σ R :=
  opj_quiet _ (fun k e hσ hk hr => by
    have m1 : c ∈ o.op.operands := by rw [ho]; simp [Op.operands]
    have m2 : x ∈ o.op.operands := by rw [ho]; simp [Op.operands]
    have m3 : y ∈ o.op.operands := by rw [ho]; simp [Op.operands]
    have h1 := hr c m1 _ hc
    cases h1 with
    | mb h0 h1 => exact ⟨_, run_pick ho (rep_v (h1 h)), gc_and hr hx hy m2 m3 (fun h' => by rw [h, h']; rfl)⟩) hR
end
end Go.Proofs.YtledbkkaaomjpabDoor.Ab
