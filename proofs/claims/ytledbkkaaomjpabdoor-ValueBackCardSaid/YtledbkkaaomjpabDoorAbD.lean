/- Abstract values over the model's memory: regions that draw their order. -/
import Derived.Test.YtledbkkaaomjpabDoorAbG
import Derived.Orders
set_option linter.unusedVariables false
set_option linter.unusedSimpArgs false
namespace Go.Proofs.YtledbkkaaomjpabDoor.Ab
open Go

/-- One operation, whatever follows: it hands on a value that is r, in a store, of which R holds. -/
def OpW (P : Program) (o : Oper) (E : Operand → Option AV) (σ : St) (R : AV → St → Prop) : Prop :=
  ∀ (k : Cx) (a : Act) (K : Act → World → Prop) (Q : Exit → Act → World → Prop), k.σ = σ → Ok k → RepsOn k E a.eval o.op.operands →
    (∀ k' v r, Ok k' → Step k k' → R r k'.σ → Rep k' r v → K (a.put o.dst v) k'.w) → o.wp P a k.w K Q
theorem OpW.of_opj {P : Program} {o : Oper} {E : Operand → Option AV} {σ : St} {R : AV → St → Prop} (h : OpJ P o E σ (fun r σ' => R (r.getD (.tup [])) σ')) : OpW P o E σ R := fun k a K Q hσ hk hr hK => by
  obtain ⟨k', n, r, h1, h2, h3, h4, h5⟩ := h k a.eval hσ hk hr
  unfold Oper.wp
  rw [h1]
  cases r with
  | none => cases h5; exact hK k' undef _ h2 h3 h4 (.tup (by simp [undef]) (fun j a u h _ => by simp at h))
  | some av => obtain ⟨v, rfl, h6⟩ := h5; exact hK k' v _ h2 h3 h4 h6
theorem evs_reps_on {k : Cx} {E : Operand → Option AV} {e : Operand → Value} {l : Array Operand} (hr : RepsOn k E e l) : ∀ (xs : List Operand) (as : List AV), (∀ x ∈ xs, x ∈ l) → xs.mapM E = some as → Reps k as (xs.map e)
  | [], as, _, h => by simp at h; subst h; exact ⟨rfl, fun j a u h _ => by simp at h⟩
  | x :: xs, as, hm, h => by
    simp only [List.mapM_cons, Option.bind_eq_bind, Option.bind_eq_some_iff, Option.pure_def, Option.some.injEq] at h
    obtain ⟨a, ha, as', has, rfl⟩ := h
    obtain ⟨h3, h4⟩ := evs_reps_on hr xs as' (fun y hy => hm y (by simp [hy])) has
    refine ⟨by simp [h3], fun j c u hj hu => ?_⟩
    cases j with
    | zero => simp at hj hu; subst hj; subst hu; exact hr x (hm x (by simp)) a ha
    | succ j => exact h4 j c u (by simpa using hj) (by simpa using hu)
theorem evs_mapM (fr : Fr) : ∀ (l : List Operand) (as : List AV), evs fr l = some as → l.mapM (ev fr) = some as
  | [], as, h => by cases h; rfl
  | x :: l, as, h => by
    unfold evs at h
    split at h
    · rename_i a as' h1 h2
      cases h
      simp [h1, evs_mapM fr l as' h2]
    · cases h
theorem OpW.of_calls {P : Program} {dst : Option Tmp} {ty : TypeId} {pos : String} {aft : Array Edge} {gd : Option (Nat × Bool)} {f : FuncId} {xs : Array Operand} {ts : Array TypeId} {fr : Fr} {as : List AV} {σ : St} {R : AV → St → Prop} {C : AEnd → St → Prop} (has : evs fr xs.toList = some as) (hent : entered P f = true) (hp : ACalls P f as σ C)
    (hC : ∀ e σ', C e σ' → ∃ r, e = .ret r ∧ R r σ') : OpW P ⟨dst, .call { callee := .value (.func f), args := xs, argTypes := ts }, ty, pos, aft, gd⟩ (ev fr) σ R := fun k a K Q hσ hk hr hK => by
  have hargs := evs_reps_on hr xs.toList as (fun x hx => by simp [Op.operands, Call.operands]; exact .inr (by simpa using hx)) (evs_mapM fr _ _ has)
  have hrun : (execOp a.eval ⟨dst, .call { callee := .value (.func f), args := xs, argTypes := ts }, ty, pos, aft, gd⟩).run P k.w = .ok (.enter f (xs.toList.map a.eval).toArray) k.w := by
    unfold execOp
    simp only [resolve, Act.eval, Deferred.ofValue, invoke, Sem.run_bind, Sem.run_pure, Result.andThen_ok, run_callFunc hent]
    congr 2
    apply Array.ext'
    simp
  unfold Oper.wp
  rw [hrun]
  simp only [Oper.upon]
  refine (hp k _ hσ hk hargs).mono fun e w' ⟨k', e', h1, h2, h3, h4, h5⟩ => ?_
  subst h1
  obtain ⟨r, rfl, h6⟩ := hC _ _ h5
  cases e with
  | returned v => exact hK k' v r h2 h3 h6 h4
  | panicked ch => exact h4.elim
  | outgrown => exact h4.elim
theorem OpW.forget {P : Program} {o : Oper} {E : Operand → Option AV} {σ : St} {r : AV} (h : OpW P o E σ (fun r' σ' => r' = r ∧ σ.le σ')) : OpW P o E σ (fun r' σ' => r' = r ∧ σ' = σ) := fun k a K Q hσ hk hr hK =>
  h k a K Q hσ hk hr fun k' v r' h1 h2 h3 h4 => by
    obtain ⟨rfl, h5⟩ := h3
    obtain ⟨h6, h7⟩ := h1.forget h5
    exact hK { k' with σ := σ } v r' h6 (h2.trans h7) ⟨rfl, rfl⟩ (h4.step h7)

/-! ### The order -/
def dep (ops : Array Oper) (i j : Nat) : Prop := ∃ o, ops[i]? = some o ∧ ∃ e ∈ o.after, Region.binds .any e = true ∧ e.on = j
def depB (ops : Array Oper) (i j : Nat) : Bool := match ops[i]? with
  | some o => o.after.toList.any fun e => Region.binds .any e && e.on == j
  | none => false
theorem dep_of_B {ops : Array Oper} {i j : Nat} (h : depB ops i j = true) : dep ops i j := by
  unfold depB at h
  split at h
  · rename_i o ho
    rw [List.any_eq_true] at h
    obtain ⟨e, he, h⟩ := h
    simp only [Bool.and_eq_true, beq_iff_eq] at h
    exact ⟨o, ho, e, by simpa using he, h.1, h.2⟩
  · cases h
inductive depT (ops : Array Oper) : Nat → Nat → Prop
  | one {i j : Nat} (h : dep ops i j) : depT ops i j
  | more {i j k : Nat} (h : dep ops i j) (h' : depT ops j k) : depT ops i k
def direct (o : Oper) : List Nat := o.after.toList.filterMap fun e => if Region.binds .any e then some e.on else none
def addAll : List Nat → List Nat → List Nat
  | [], m => m
  | x :: l, m => if m.contains x then addAll l m else addAll l (x :: m)
theorem mem_addAll {y : Nat} : ∀ {l m : List Nat}, y ∈ addAll l m → y ∈ l ∨ y ∈ m
  | [], m, h => .inr h
  | x :: l, m, h => by
    unfold addAll at h
    split at h
    · rcases mem_addAll h with h | h
      · exact .inl (.tail _ h)
      · exact .inr h
    · rcases mem_addAll h with h | h
      · exact .inl (.tail _ h)
      · rcases List.mem_cons.1 h with rfl | h
        · exact .inl (.head _)
        · exact .inr h
def addEach (acc : List (List Nat)) : List Nat → List Nat → List Nat
  | [], m => m
  | j :: l, m => addEach acc l (addAll (acc.getD j []) m)
theorem mem_addEach {acc : List (List Nat)} {y : Nat} : ∀ {l m : List Nat}, y ∈ addEach acc l m → y ∈ m ∨ ∃ j ∈ l, y ∈ acc.getD j []
  | [], m, h => .inl h
  | j :: l, m, h => by
    rcases mem_addEach (l := l) h with h | ⟨j', h1, h2⟩
    · rcases mem_addAll h with h | h
      · exact .inr ⟨j, .head _, h⟩
      · exact .inl h
    · exact .inr ⟨j', .tail _ h1, h2⟩
def clo : List Oper → List (List Nat) → List (List Nat)
  | [], acc => acc
  | o :: l, acc => clo l (acc ++ [addEach acc (direct o) (direct o)])
theorem clo_ok {ops : Array Oper} : ∀ (l : List Oper) (pre : List Oper) (acc : List (List Nat)), ops.toList = pre ++ l → acc.length = pre.length → (∀ i, ∀ j ∈ acc.getD i [], depT ops i j) → ∀ i, ∀ j ∈ (clo l acc).getD i [], depT ops i j
  | [], pre, acc, _, _, h => h
  | o :: l, pre, acc, he, hl, h => by
    refine clo_ok l (pre ++ [o]) _ (by simp [he]) (by simp [hl]) (fun i j hj => ?_)
    rcases Nat.lt_or_ge i acc.length with hlt | hge
    · rw [List.getD_eq_getElem?_getD, List.getElem?_append_left hlt, ← List.getD_eq_getElem?_getD] at hj
      exact h i j hj
    · rcases Nat.lt_or_ge acc.length i with hgt | hle
      · rw [List.getD_eq_getElem?_getD, List.getElem?_eq_none (by simp; omega)] at hj
        cases hj
      · have hi : i = acc.length := by omega
        subst hi
        have ho : ops[acc.length]? = some o := by
          rw [← Array.getElem?_toList, he, hl, List.getElem?_append_right (Nat.le_refl _)]
          simp
        have hd : ∀ x, x ∈ direct o → dep ops acc.length x := fun x hx => by
          simp only [direct, List.mem_filterMap] at hx
          obtain ⟨e, he1, he2⟩ := hx
          split at he2
          · rename_i hb
            cases he2
            exact ⟨o, ho, e, by simpa using he1, hb, rfl⟩
          · cases he2
        have hj' : j ∈ addEach acc (direct o) (direct o) := by simpa [List.getD] using hj
        rcases mem_addEach hj' with hm | ⟨x, hx, hy⟩
        · exact .one (hd j hm)
        · exact .more (hd x hx) (h x j hy)
/-- Where what is in slot t comes from, when operation i asks. -/
def Src (ops : Array Oper) (fr : Fr) (val : Nat → AV) (i t : Nat) (a : AV) : Prop :=
  (∃ j oj, ops[j]? = some oj ∧ oj.dst = some t ∧ depT ops i j ∧ a = val j) ∨ ((∀ j oj, ops[j]? = some oj → oj.dst = some t → depT ops j i ∨ j = i) ∧ lk fr t = some a)
/-- What operation i is in every store it may meet; m turns σ0 into σ1. -/
def Acts (P : Program) (ops : Array Oper) (m : Nat) (σ0 σ1 : St) (i : Nat) (o : Oper) (E : Operand → Option AV) (r : AV) : Prop :=
  (i = m → OpW P o E σ0 (fun r' σ' => r' = r ∧ σ' = σ1)) ∧ (i ≠ m → ¬ depT ops i m → OpW P o E σ0 (fun r' σ' => r' = r ∧ σ' = σ0)) ∧ (i ≠ m → ¬ depT ops m i → OpW P o E σ1 (fun r' σ' => r' = r ∧ σ' = σ1))
/-- Is it wanted? What it leaves. -/
def Fact (P : Program) (ops : Array Oper) (m : Nat) (σ0 σ1 : St) (fr : Fr) (val : Nat → AV) (E : Nat → Fr) (i : Nat) : Prop := ∀ o, ops[i]? = some o →
  (∀ t a, t ∈ o.looksAt ops → lk (E i) t = some a → Src ops fr val i t a) ∧
  ((o.guard = none ∧ Acts P ops m σ0 σ1 i o (ev (E i)) (val i)) ∨
   ∃ g want t b c, o.guard = some (g, want) ∧ (ops[g]?).bind (·.dst) = some t ∧ lk (E i) t = some b ∧ gc b want = some c ∧
     ((c = true → Acts P ops m σ0 σ1 i o (ev (E i)) (val i)) ∧ (c = false → i ≠ m ∧ ∀ k, Rep k (val i) undef)))
def cur (m : Nat) (σ0 σ1 : St) (listed : Array Bool) : St := if listed.getD m false then σ1 else σ0
structure Inv (ops : Array Oper) (nt : Nat) (σ : St) (fr : Fr) (val : Nat → AV) (listed : Array Bool) (k : Cx) (tmps : Array Value) : Prop where
  σ : k.σ = σ
  ok : Ok k
  nt : tmps.size = nt
  closed : ∀ i j, listed.getD i false = true → dep ops i j → listed.getD j false = true
  new : ∀ j oj t, ops[j]? = some oj → oj.dst = some t → listed.getD j false = true → ∃ u, tmps[t]? = some u ∧ Rep k (val j) u
  old : ∀ t a, lk fr t = some a → (∀ j oj, ops[j]? = some oj → oj.dst = some t → listed.getD j false = false) → ∃ u, tmps[t]? = some u ∧ Rep k a u
section
variable {P : Program} {ops : Array Oper} {nt : Nat} {fr : Fr} {val : Nat → AV} {E : Nat → Fr} {σ σ0 σ1 : St} {m : Nat} {listed : Array Bool}
theorem Inv.closedT {k : Cx} {tmps : Array Value} (h : Inv ops nt σ fr val listed k tmps) {i j : Nat} (hd : depT ops i j) : listed.getD i false = true → listed.getD j false = true := by
  induction hd with
  | one hd => exact fun hi => h.closed _ _ hi hd
  | more hd _ ih => exact fun hi => ih (h.closed _ _ hi hd)
theorem unlisted {i : Nat} (hi : i ∈ Region.ready .any ops listed) : listed.getD i false = false := by
  obtain ⟨h0, o, ho, hall⟩ := mem_ready.1 hi
  rcases Nat.lt_or_ge i listed.size with hlt | hge
  · simp [hlt] at h0 ⊢; exact h0
  · simp [Array.getElem?_eq_none hge]
theorem Inv.deps {k : Cx} {tmps : Array Value} (h : Inv ops nt σ fr val listed k tmps) {i j : Nat} (hi : i ∈ Region.ready .any ops listed) (hd : depT ops i j) : listed.getD j false = true := by
  obtain ⟨h0, o, ho, hall⟩ := mem_ready.1 hi
  have h1 : ∀ x, dep ops i x → listed.getD x false = true := fun x ⟨o', ho', e, he, hb, hon⟩ => by
    rw [ho] at ho'; cases ho'
    have := hall e he hb
    rwa [hon] at this
  cases hd with
  | one hd => exact h1 _ hd
  | more hd hd' => exact h.closedT hd' (h1 _ hd)
theorem Inv.sees {k : Cx} {tmps : Array Value} (h : Inv ops nt σ fr val listed k tmps) {i : Nat} (hi : i ∈ Region.ready .any ops listed) {t : Nat} {a : AV} (hs : Src ops fr val i t a) : ∃ u, tmps[t]? = some u ∧ Rep k a u := by
  have hun := unlisted hi
  rcases hs with ⟨j, oj, h1, h2, hdj, rfl⟩ | ⟨h1, h2⟩
  · exact h.new j oj t h1 h2 (h.deps hi hdj)
  · refine h.old t a h2 fun j oj h3 h4 => ?_
    rcases h1 j oj h3 h4 with h5 | rfl
    · cases hl : listed.getD j false with
      | false => rfl
      | true => rw [h.closedT h5 hl] at hun; cases hun
    · exact hun
theorem Inv.reps {k : Cx} {a : Act} (h : Inv ops nt σ fr val listed k a.tmps) {i : Nat} (hi : i ∈ Region.ready .any ops listed) {o : Oper} (ho : ops[i]? = some o) {F : Fr} (hF : ∀ t a, t ∈ o.looksAt ops → lk F t = some a → Src ops fr val i t a) : RepsOn k (ev F) a.eval o.op.operands := fun x hx av hev => by
  cases x with
  | tmp t =>
    obtain ⟨u, hu, hr⟩ := h.sees hi (hF t av (List.mem_append_left _ (List.mem_filterMap.2 ⟨.tmp t, by simpa using hx, rfl⟩)) hev)
    have : a.eval (.tmp t) = u := by simp [Act.eval, hu]
    rw [this]; exact hr
  | const v => exact ev_ok (fr := []) (fun t a h => by cases h) (.const v) av (by cases v <;> exact hev)
  | global g => cases hev
  | func f => exact ev_ok (fr := []) (fun t a h => by cases h) (.func f) av hev
/-- Behind operation i. -/
theorem Inv.next {k k' : Cx} {a : Act} {σ' : St} {val' : Nat → AV} (h : Inv ops nt σ fr val listed k a.tmps) (hs : Step k k') (hok : Ok k') (hσ : k'.σ = σ') {i : Nat} (hi : i ∈ Region.ready .any ops listed) {o : Oper} (ho : ops[i]? = some o) (hd : fits nt o.dst = true) (hdist : ∀ j oj t, ops[j]? = some oj → oj.dst = some t → o.dst = some t → j = i)
    (hval : ∀ j, listed.getD j false = true → val' j = val j) {v : Value} (hv : Rep k' (val' i) v) (hlt : i < listed.size) : Inv ops nt σ' fr val' (listed.setIfInBounds i true) k' (a.put o.dst v).tmps := by
  obtain ⟨h0, o', ho', hall⟩ := mem_ready.1 hi
  rw [ho] at ho'; cases ho'
  have hgi : (listed.setIfInBounds i true).getD i false = true := by simp [hlt]
  have hne : ∀ j, j ≠ i → (listed.setIfInBounds i true).getD j false = listed.getD j false := fun j hj => getD_set_ne false (Ne.symm hj)
  refine ⟨hσ, hok, (Act.size_put ..).trans h.nt, fun x y hx hd' => ?_, fun j oj t h1 h2 h3 => ?_, fun t av h1 h2 => ?_⟩
  · by_cases hxi : x = i
    · subst hxi
      obtain ⟨o', ho', e, he, hb, rfl⟩ := hd'
      rw [ho] at ho'; cases ho'
      exact getD_set_true (hall e he hb)
    · rw [hne x hxi] at hx
      exact getD_set_true (h.closed x y hx hd')
  · by_cases hji : j = i
    · subst hji
      rw [ho] at h1; cases h1
      have hlt' : t < a.tmps.size := by rw [h.nt]; simpa [fits, h2] using hd
      exact ⟨v, by simp [Act.put, h2, hlt'], hv⟩
    · rw [hne j hji] at h3
      obtain ⟨u, hu, hr⟩ := h.new j oj t h1 h2 h3
      refine ⟨u, ?_, by rw [hval j h3]; exact hr.step hs⟩
      cases hod : o.dst with
      | none => simpa [Act.put] using hu
      | some t' =>
        have : t' ≠ t := fun e => hji (hdist j oj t h1 h2 (by rw [hod, e]))
        simp only [Act.put]
        rw [Array.getElem?_setIfInBounds_ne this]
        exact hu
  · have hnot : o.dst ≠ some t := fun e => by
      have := h2 i o ho e
      rw [hgi] at this; cases this
    obtain ⟨u, hu, hr⟩ := h.old t av h1 fun j oj h3 h4 => by
      have := h2 j oj h3 h4
      by_cases hji : j = i
      · subst hji; rw [hgi] at this; cases this
      · rwa [hne j hji] at this
    refine ⟨u, ?_, hr.step hs⟩
    cases hod : o.dst with
    | none => simpa [Act.put] using hu
    | some t' =>
      have : t' ≠ t := fun e => hnot (by rw [hod, e])
      simp only [Act.put]
      rw [Array.getElem?_setIfInBounds_ne this]
      exact hu
/-- The whole. -/
structure Plan (ops : Array Oper) (nt : Nat) : Prop where
  fit : ∀ (i : Nat) (o : Oper), ops[i]? = some o → fits nt o.dst = true
  dist : ∀ (i : Nat) (o : Oper) (j : Nat) (oj : Oper) (t : Nat), ops[i]? = some o → ops[j]? = some oj → oj.dst = some t → o.dst = some t → j = i
  low : ∀ i j, dep ops i j → j < i
theorem ready_least (hp : Plan ops nt) (hsz : listed.size = ops.size) (h : ∃ i, i < ops.size ∧ listed.getD i true = false) : ∃ i, i ∈ Region.ready .any ops listed := by
  obtain ⟨i, hi, hu⟩ := h
  induction i using Nat.strongRecOn with
  | _ i ih =>
    by_cases hall : ∀ j, j < i → listed.getD j true = true
    · refine ⟨i, mem_ready.2 ⟨hu, ops[i], by simp [hi], fun e he hb => ?_⟩⟩
      have hlt := hp.low i e.on ⟨ops[i], by simp [hi], e, he, hb, rfl⟩
      have := hall e.on hlt
      have hlt2 : e.on < listed.size := by omega
      simp [hlt2] at this ⊢
      exact this
    · simp only [Classical.not_forall] at hall
      obtain ⟨j, hj, hn⟩ := hall
      exact ih j hj (by omega) (by cases hh : listed.getD j true with
        | false => rfl
        | true => exact absurd hh hn)
theorem run_plan (hp : Plan ops nt) {k0 : Cx} {a0 : Act} {Q : Post} (hm : m < ops.size ∨ σ1 = σ0) (hfact : ∀ i, Fact P ops m σ0 σ1 fr val E i) (K : ∀ k (a : Act), Step k0 k → a.defers = a0.defers → k.σ = σ1 → Ok k → a.tmps.size = nt → (∀ (j : Nat) (oj : Oper) (t : Nat), ops[j]? = some oj → oj.dst = some t → ∃ u, a.tmps[t]? = some u ∧ Rep k (val j) u) → (∀ t av, lk fr t = some av → (∀ (j : Nat) (oj : Oper), ops[j]? = some oj → oj.dst ≠ some t) → ∃ u, a.tmps[t]? = some u ∧ Rep k av u) → conc k0 a0 Q .normal a k.w) :
    ∀ (fuel : Nat) (listed : Array Bool) (k : Cx) (a : Act), listed.size = ops.size → (listed.toList.filter (! ·)).length = fuel → Inv ops nt (cur m σ0 σ1 listed) fr val listed k a.tmps → Step k0 k → a.defers = a0.defers → wpAny P .any ops (conc k0 a0 Q) fuel listed a k.w := by
  have hend : ∀ (listed : Array Bool) (k : Cx) (a : Act), listed.size = ops.size → Region.ready .any ops listed = [] → Inv ops nt (cur m σ0 σ1 listed) fr val listed k a.tmps → Step k0 k → a.defers = a0.defers → conc k0 a0 Q .normal a k.w := by
    intro listed k a hsz hr hi hst hd
    have hall : ∀ i, i < ops.size → listed.getD i false = true := fun i hlt => by
      cases hh : listed.getD i true with
      | true =>
        have : i < listed.size := by omega
        simp [this] at hh ⊢; exact hh
      | false =>
        obtain ⟨j, hj⟩ := ready_least hp hsz ⟨i, hlt, hh⟩
        rw [hr] at hj; cases hj
    have hcur : cur m σ0 σ1 listed = σ1 := by
      rcases hm with hm | hm
      · rw [cur, if_pos (hall m hm)]
      · rw [cur, hm]; split <;> rfl
    refine K k a hst hd (hi.σ.trans hcur) hi.ok hi.nt (fun j oj t h1 h2 => hi.new j oj t h1 h2 (hall j (Array.getElem?_eq_some_iff.1 h1).1)) (fun t av h1 h2 => hi.old t av h1 fun j oj h3 h4 => absurd h4 (h2 j oj h3))
  intro fuel
  induction fuel with
  | zero =>
    intro listed k a hsz hf hi hst hd
    have hr : Region.ready .any ops listed = [] := by
      cases hrr : Region.ready .any ops listed with
      | nil => rfl
      | cons i l =>
        have hm : i ∈ Region.ready .any ops listed := by rw [hrr]; simp
        obtain ⟨h0, o, ho, _⟩ := mem_ready.1 hm
        have hlt : i < listed.size := by rw [hsz]; exact (Array.getElem?_eq_some_iff.1 ho).1
        have hmem : listed[i] ∈ listed.toList.filter (! ·) := List.mem_filter.2 ⟨by simp, by simp [hlt] at h0; simp [h0]⟩
        rw [List.eq_nil_of_length_eq_zero hf] at hmem
        cases hmem
    exact ⟨hr, hend listed k a hsz hr hi hst hd⟩
  | succ fuel ih =>
    intro listed k a hsz hf hi hst hd
    refine ⟨fun hr => hend listed k a hsz hr hi hst hd, fun i hm' => ?_⟩
    obtain ⟨h0, o, ho, hall⟩ := mem_ready.1 hm'
    have hlt : i < listed.size := by rw [hsz]; exact (Array.getElem?_eq_some_iff.1 ho).1
    have hcount : ((listed.setIfInBounds i true).toList.filter (! ·)).length = fuel := by
      have hli : listed[i] = false := by simpa [hlt] using h0
      have e1 : listed.toList = listed.toList.take i ++ false :: listed.toList.drop (i + 1) := by
        have hlt' : i < listed.toList.length := by simpa using hlt
        rw [← hli, ← Array.getElem_toList hlt, ← List.drop_eq_getElem_cons hlt', List.take_append_drop]
      have e2 : (listed.setIfInBounds i true).toList = listed.toList.take i ++ true :: listed.toList.drop (i + 1) := by
        rw [Array.toList_setIfInBounds, List.set_eq_take_append_cons_drop, if_pos (by simpa using hlt)]
      rw [e2]
      rw [e1] at hf
      simp only [List.filter_append, List.filter_cons, Bool.not_false, Bool.not_true, if_true, List.length_append, List.length_cons] at hf ⊢
      simp only [Bool.false_eq_true, if_false]
      omega
    obtain ⟨hsrc, hact⟩ := hfact i o ho
    have hreps := hi.reps hm' ho hsrc
    have hdist : ∀ j oj t, ops[j]? = some oj → oj.dst = some t → o.dst = some t → j = i := fun j oj t h1 h2 h3 => hp.dist i o j oj t ho h1 h2 h3
    have hun := unlisted hm'
    have hgo : Acts P ops m σ0 σ1 i o (ev (E i)) (val i) → o.wp P a k.w (wpAny P .any ops (conc k0 a0 Q) fuel (listed.setIfInBounds i true)) (conc k0 a0 Q) := fun ⟨ha, hb, hc⟩ => by
      have hw : OpW P o (ev (E i)) (cur m σ0 σ1 listed) (fun r σ' => r = val i ∧ σ' = cur m σ0 σ1 (listed.setIfInBounds i true)) := by
        by_cases him : i = m
        · have e1 : cur m σ0 σ1 listed = σ0 := by rw [cur, ← him, if_neg (by rw [hun]; decide)]
          have e2 : cur m σ0 σ1 (listed.setIfInBounds i true) = σ1 := by rw [cur, ← him, if_pos (by simp [hlt])]
          rw [e1, e2]; exact ha him
        · have e3 : (listed.setIfInBounds i true).getD m false = listed.getD m false := getD_set_ne false him
          cases hlm : listed.getD m false with
          | false =>
            have e1 : cur m σ0 σ1 listed = σ0 := by rw [cur, if_neg (by rw [hlm]; decide)]
            have e2 : cur m σ0 σ1 (listed.setIfInBounds i true) = σ0 := by rw [cur, e3, if_neg (by rw [hlm]; decide)]
            rw [e1, e2]
            exact hb him fun hd' => by rw [hi.deps hm' hd'] at hlm; cases hlm
          | true =>
            have e1 : cur m σ0 σ1 listed = σ1 := by rw [cur, if_pos hlm]
            have e2 : cur m σ0 σ1 (listed.setIfInBounds i true) = σ1 := by rw [cur, e3, if_pos hlm]
            rw [e1, e2]
            exact hc him fun hd' => by rw [hi.closedT hd' hlm] at hun; cases hun
      exact hw k a _ _ hi.σ hi.ok hreps fun k' v r h1 h2 h3 h4 => by
        obtain ⟨rfl, h5⟩ := h3
        exact ih _ k' _ (by simpa using hsz) hcount (hi.next h2 h1 h5 hm' ho (hp.fit i o ho) hdist (fun _ _ => rfl) h4 hlt) (hst.trans h2) ((Act.defers_put ..).trans hd)
    have hskip : i ≠ m → (∀ k, Rep k (val i) undef) → wpAny P .any ops (conc k0 a0 Q) fuel (listed.setIfInBounds i true) (a.put o.dst undef) k.w := fun him hv =>
      ih _ k _ (by simpa using hsz) hcount (hi.next (.refl k) hi.ok (by
        have e3 : (listed.setIfInBounds i true).getD m false = listed.getD m false := getD_set_ne false him
        rw [hi.σ, cur, cur, e3]) hm' ho (hp.fit i o ho) hdist (fun _ _ => rfl) (hv _) hlt) hst ((Act.defers_put ..).trans hd)
    unfold wpOp
    simp only [ho]
    rcases hact with ⟨hg, hw⟩ | ⟨g, want, t, b, c, hg, hgt, hgl, hgc, hcase⟩
    · rw [if_pos (by simp [Region.wanted, hg])]
      exact .inl (hgo hw)
    · obtain ⟨u, hu, hr⟩ := hi.sees hm' (hsrc t _ (List.mem_append_right _ (by rw [hg]; simp [hgt])) hgl)
      have hy := yields_gc1 hgt hu hr hgc
      cases c with
      | true =>
        rw [if_pos (by simp only [Region.wanted, hg, hy])]
        exact .inl (hgo (hcase.1 rfl))
      | false =>
        rw [if_neg (by simp only [Region.wanted, hg, hy]; simp)]
        exact hskip (hcase.2 rfl).1 (hcase.2 rfl).2
end

/-! ### The rule -/
theorem Ok.drawn {k : Cx} (hk : Ok k) (n : Nat) : Ok { k with w := { k.w with drawn := n } } ∧ Step k { k with w := { k.w with drawn := n } } := by
  have hs : Step k { k with w := { k.w with drawn := n } } := ⟨Nat.le_refl _, fun _ _ => rfl, rfl, rfl, rfl, rfl, Nat.le_refl _, fun _ _ h => ⟨rfl, h⟩, fun _ cs _ f h => ⟨cs, f, h, rfl⟩⟩
  refine ⟨⟨hk.dom, hk.inj, hk.bas, hk.hb, fun id o ho => ?_, hk.ground hs⟩, hs⟩
  have h := hk.obj id o ho
  cases o with
  | row sz elem els =>
    rcases h with h | ⟨b, cs, h1, h2, h3, h4, h5⟩
    · exact .inl h
    · refine .inr ⟨b, cs, h1, h2, h3, h4, fun i j e a he ha => ?_⟩
      obtain ⟨u, h6, h7, h8⟩ := h5 i j e a he ha
      exact ⟨u, h6, h7, h8.step hs⟩
  | siter s pos => exact h
  | map es =>
    obtain ⟨b, ms, clock, h1, h2, h3, h4⟩ := h
    refine ⟨b, ms, clock, h1, h2, h3, fun i e mm he hm => ?_⟩
    obtain ⟨h5, h6⟩ := h4 i e mm he hm
    exact ⟨h5, h6.step hs⟩

def memB (c : List (List Nat)) (i j : Nat) : Bool := (c.getD i []).contains j
def dstOf (l : List Oper) (j : Nat) : Option Tmp := match l[j]? with
  | some o => o.dst
  | none => none
def srcB (l : List Oper) (c : List (List Nat)) (i t : Nat) : Bool :=
  (List.range l.length).any (fun j => dstOf l j == some t && memB c i j && Nat.blt j i) || (List.range l.length).all (fun j => !(dstOf l j == some t) || memB c j i || j == i)
def planB (l : List Oper) (nt : Nat) (c : List (List Nat)) : Bool :=
  l.all (fun o => fits nt o.dst) && (List.range l.length).all (fun i => (List.range l.length).all fun j => j == i || (dstOf l i).isNone || !(dstOf l j == dstOf l i)) &&
  (List.range l.length).all (fun i => match l[i]? with
    | some o => (direct o).all (fun j => Nat.blt j i) && (o.looksAt l.toArray).all (fun t => srcB l c i t)
    | none => true)
/-- The frames in the text's order. -/
def frs (l : List Oper) (val : Nat → AV) (fr : Fr) : Nat → Fr
  | 0 => fr
  | n + 1 => put (frs l val fr n) (dstOf l n) (some (val n))
theorem dstOf_some {l : List Oper} {j : Nat} {t : Tmp} (h : dstOf l j = some t) : ∃ o, l[j]? = some o ∧ o.dst = some t := by
  unfold dstOf at h
  split at h
  · rename_i o ho; exact ⟨o, ho, h⟩
  · cases h
theorem dstOf_of {l : List Oper} {j : Nat} {o : Oper} {t : Tmp} (h : l[j]? = some o) (h' : o.dst = some t) : dstOf l j = some t := by
  unfold dstOf; rw [h]; exact h'
theorem lk_frs_none {l : List Oper} {val : Nat → AV} {fr : Fr} {t : Nat} : ∀ n, (∀ j, j < n → dstOf l j ≠ some t) → lk (frs l val fr n) t = lk fr t
  | 0, _ => rfl
  | n + 1, h => by
    have ih := lk_frs_none (val := val) (fr := fr) n fun j hj => h j (by omega)
    unfold frs
    cases hd : dstOf l n with
    | none => exact ih
    | some u =>
      have : t ≠ u := fun e => h n (by omega) (by rw [hd, e])
      simp only [Ab.put]
      rw [lk_cons, if_neg this]; exact ih
theorem lk_frs_some {l : List Oper} {val : Nat → AV} {fr : Fr} {t j : Nat} (hj : dstOf l j = some t) (hd : ∀ i, dstOf l i = some t → i = j) : ∀ n, j < n → lk (frs l val fr n) t = some (val j)
  | 0, h => absurd h (by omega)
  | n + 1, h => by
    unfold frs
    by_cases hn : j = n
    · subst hn
      rw [hj]
      simp only [Ab.put]
      rw [lk_cons, if_pos rfl]
    · have ih := lk_frs_some (val := val) (fr := fr) hj hd n (by omega)
      cases hdn : dstOf l n with
      | none => exact ih
      | some u =>
        have : t ≠ u := fun e => hn (hd n (by rw [hdn, e])).symm
        simp only [Ab.put]
        rw [lk_cons, if_neg this]; exact ih
/-- Operation i does what it must in every store it may meet. -/
def OnB (P : Program) (c : List (List Nat)) (m : Nat) (σ0 σ1 : St) (i : Nat) (o : Oper) (E : Operand → Option AV) (r : AV) : Prop :=
  match Nat.decEq i m with
  | isTrue _ => OpW P o E σ0 (fun r' σ' => r' = r ∧ σ' = σ1)
  | isFalse _ => (memB c i m = false → OpW P o E σ0 (fun r' σ' => r' = r ∧ σ' = σ0)) ∧ (memB c m i = false → OpW P o E σ1 (fun r' σ' => r' = r ∧ σ' = σ1))
def FactB (P : Program) (l : List Oper) (c : List (List Nat)) (m : Nat) (σ0 σ1 : St) (fr : Fr) (i : Nat) (o : Oper) (r : AV) : Prop :=
  match o.guard with
  | none => OnB P c m σ0 σ1 i o (ev fr) r
  | some (g, want) => ∃ b cc, (match dstOf l g with | some t => lk fr t | none => none) = some b ∧ gc b want = some cc ∧ ((cc = true → OnB P c m σ0 σ1 i o (ev fr) r) ∧ (cc = false → i ≠ m ∧ ∀ k, Rep k r undef))
def DJ (P : Program) (l : List Oper) (c : List (List Nat)) (m : Nat) (σ0 σ1 : St) (K : Fr → Prop) (i : Nat) (rest : List Oper) (fr : Fr) : Prop := l.drop i = rest →
  ∃ (rs : List AV) (fr2 : Fr), i + rs.length = l.length ∧ (∀ j o, l[i + j]? = some o → FactB P l c m σ0 σ1 (frs (l.drop i) (fun n => rs.getD n (.tup [])) fr j) (i + j) o (rs.getD j (.tup []))) ∧
    (∀ t a, lk fr2 t = some a → lk (frs (l.drop i) (fun n => rs.getD n (.tup [])) fr rs.length) t = some a) ∧ K fr2
theorem frs_shift {l : List Oper} {val : Nat → AV} {fr : Fr} {i : Nat} : ∀ n, frs (l.drop i) val fr (n + 1) = frs (l.drop (i + 1)) (fun n => val (n + 1)) (put fr (dstOf l i) (some (val 0))) n
  | 0 => by
    show put fr (dstOf (l.drop i) 0) (some (val 0)) = _
    have : dstOf (l.drop i) 0 = dstOf l i := by unfold dstOf; rw [List.getElem?_drop]; rfl
    rw [this]; rfl
  | n + 1 => by
    have ih := frs_shift (l := l) (val := val) (fr := fr) (i := i) n
    show put (frs (l.drop i) val fr (n + 1)) (dstOf (l.drop i) (n + 1)) (some (val (n + 1))) = put (frs (l.drop (i + 1)) _ _ n) (dstOf (l.drop (i + 1)) n) (some (val (n + 1)))
    rw [ih]
    have : dstOf (l.drop i) (n + 1) = dstOf (l.drop (i + 1)) n := by
      unfold dstOf
      rw [List.getElem?_drop, List.getElem?_drop]
      have e : i + (n + 1) = i + 1 + n := by omega
      rw [e]
    rw [this]
section
variable {P : Program} {l : List Oper} {c : List (List Nat)} {m nt : Nat} {σ0 σ1 : St} {K : Fr → Prop} {i : Nat} {fr : Fr}
theorem drop_cons {rest : List Oper} {o : Oper} (h : l.drop i = o :: rest) : l[i]? = some o ∧ l.drop (i + 1) = rest ∧ i < l.length := by
  have h1 : l[i]? = some o := by
    have := List.getElem?_drop (xs := l) (i := i) (j := 0)
    rw [h] at this
    simpa using this.symm
  refine ⟨h1, ?_, (List.getElem?_eq_some_iff.1 h1).1⟩
  rw [← List.tail_drop, h]; rfl
theorem dj_nil (hi : Nat.beq i l.length = true) (h : K fr) : DJ P l c m σ0 σ1 K i [] fr := fun hr => by
  have hi' := Nat.eq_of_beq_eq_true hi
  exact ⟨[], fr, by simp [hi'], (fun j o ho => by rw [List.getElem?_eq_none (by omega)] at ho; cases ho), fun t a h => h, h⟩
theorem dj_cons {o : Oper} {r : AV} {rest : List Oper} (hf : FactB P l c m σ0 σ1 fr i o r) (h : DJ P l c m σ0 σ1 K (i + 1) rest (put fr o.dst (some r))) : DJ P l c m σ0 σ1 K i (o :: rest) fr := fun hr => by
  obtain ⟨hl, hr', _⟩ := drop_cons hr
  obtain ⟨rs, fr2, h1, h2, h3, h4⟩ := h hr'
  have hd : dstOf l i = o.dst := by unfold dstOf; rw [hl]
  refine ⟨r :: rs, fr2, by simp only [List.length_cons]; omega, fun j o' ho' => ?_, fun t a hta => ?_, h4⟩
  · cases j with
    | zero =>
      have : some o' = some o := by rw [← ho', ← hl]; rfl
      cases this
      exact hf
    | succ j =>
      have := h2 j o' (by rw [← ho']; congr 1; omega)
      rw [frs_shift, hd]
      have e : i + 1 + j = i + (j + 1) := by omega
      rw [e] at this
      exact this
  · show lk (frs _ _ _ (rs.length + 1)) t = some a
    rw [frs_shift, hd]
    exact h3 t a hta
theorem OpW.sub {o : Oper} {E E' : Operand → Option AV} {σ : St} {R : AV → St → Prop} (hs : ∀ x a, E' x = some a → E x = some a) (h : OpW P o E' σ R) : OpW P o E σ R := fun k a K Q hσ hk hr hK => h k a K Q hσ hk (fun x hx a ha => hr x hx a (hs x a ha)) hK
theorem ev_sub {fr fr' : Fr} (hs : ∀ t a, lk fr' t = some a → lk fr t = some a) : ∀ x a, ev fr' x = some a → ev fr x = some a := fun x a h => by
  cases x with
  | tmp t => exact hs t a h
  | const v => cases v <;> exact h
  | global g => cases h
  | func f => exact h
theorem FactB.sub {o : Oper} {r : AV} {fr fr' : Fr} (hs : ∀ t a, lk fr' t = some a → lk fr t = some a) (h : FactB P l c m σ0 σ1 fr' i o r) : FactB P l c m σ0 σ1 fr i o r := by
  have hon : OnB P c m σ0 σ1 i o (ev fr') r → OnB P c m σ0 σ1 i o (ev fr) r := fun hO => by
    unfold OnB at hO ⊢
    split at hO
    · exact hO.sub (ev_sub hs)
    · exact ⟨fun e => (hO.1 e).sub (ev_sub hs), fun e => (hO.2 e).sub (ev_sub hs)⟩
  unfold FactB at h ⊢
  cases hg : o.guard with
  | none => rw [hg] at h; exact hon h
  | some p =>
    obtain ⟨g, want⟩ := p
    rw [hg] at h
    obtain ⟨b, cc, hb, hgc, hc⟩ := h
    refine ⟨b, cc, ?_, hgc, fun h1 => hon (hc.1 h1), hc.2⟩
    cases hgt : dstOf l g with
    | none => rw [hgt] at hb; cases hb
    | some t => rw [hgt] at hb; exact hs t _ hb
theorem frs_sub {val : Nat → AV} {fr fr' : Fr} (hs : ∀ t a, lk fr' t = some a → lk fr t = some a) : ∀ n t a, lk (frs l val fr' n) t = some a → lk (frs l val fr n) t = some a
  | 0 => hs
  | n + 1 => fun t a h => by
    unfold frs at h ⊢
    cases hd : dstOf l n with
    | none => rw [hd] at h; exact frs_sub hs n t a h
    | some u =>
      rw [hd] at h
      simp only [Ab.put] at h ⊢
      rw [lk_cons] at h ⊢
      split at h
      · rename_i e; rw [if_pos e]; exact h
      · rename_i e; rw [if_neg e]; exact frs_sub hs n t a h
theorem dj_sub {rest : List Oper} {fr fr' : Fr} (hs : ∀ t a, lk fr' t = some a → lk fr t = some a) (h : DJ P l c m σ0 σ1 K i rest fr') : DJ P l c m σ0 σ1 K i rest fr := fun hr => by
  obtain ⟨rs, fr2, h1, h2, h3, h4⟩ := h hr
  exact ⟨rs, fr2, h1, fun j o ho => (h2 j o ho).sub (frs_sub hs j), fun t a ht => frs_sub hs _ t a (h3 t a ht), h4⟩
theorem cj_drawn {id : Nat} {Q : Post} (hmix : P.follows .mixedOrders = true) (m : Nat) (σ1 : St) (hc : clo l [] = c) (hp : planB l nt c = true) (hm : m < l.length ∨ σ1 = σ0)
    (h : DJ P l c m σ0 σ1 (fun fr' => Q .normal fr' σ1) 0 l fr) : CJ P nt (.region id l.toArray true) Q fr σ0 := fun k a hσ hk hz hf => by
  obtain ⟨rs, fr2, h1, h2, h3, h3'⟩ := h rfl
  have hdep : ∀ i j, memB c i j = true → depT l.toArray i j := fun i j hij => by
    subst hc
    exact clo_ok l [] [] (by simp) rfl (fun i j hj => by simp at hj) i j (by simpa [memB] using hij)
  simp only [planB, Bool.and_eq_true, List.all_eq_true, List.mem_range] at hp
  obtain ⟨⟨hp1, hp2⟩, hp3⟩ := hp
  have hdist : ∀ i j t, dstOf l i = some t → dstOf l j = some t → j = i := fun i j t hi hj => by
    obtain ⟨o, ho, _⟩ := dstOf_some hi
    obtain ⟨oj, hoj, _⟩ := dstOf_some hj
    have := hp2 i (List.getElem?_eq_some_iff.1 ho).1 j (List.getElem?_eq_some_iff.1 hoj).1
    simpa [hi, hj] using this
  have hlow : ∀ i j, dep l.toArray i j → j < i := fun i j ⟨o, ho, e, he, hb, hon⟩ => by
    have ho' : l[i]? = some o := by simpa using ho
    have := hp3 i (List.getElem?_eq_some_iff.1 ho').1
    rw [ho'] at this
    simp only [Bool.and_eq_true, List.all_eq_true] at this
    have := this.1 j (by simp only [direct, List.mem_filterMap]; exact ⟨e, by simpa using he, by rw [if_pos hb, hon]⟩)
    exact Nat.blt_eq.mp this
  have hplan : Plan l.toArray nt := ⟨fun i o ho => hp1 o (List.mem_of_getElem? (by simpa using ho)), fun i o j oj t ho hoj hj hi => hdist i j t (dstOf_of (by simpa using ho) hi) (dstOf_of (by simpa using hoj) hj), hlow⟩
  let val : Nat → AV := fun n => rs.getD n (.tup [])
  have hfact : ∀ i, Fact P l.toArray m σ0 σ1 fr val (fun i => frs l val fr i) i := fun i o ho => by
    have ho' : l[i]? = some o := by simpa using ho
    have hil : i < l.length := (List.getElem?_eq_some_iff.1 ho').1
    refine ⟨fun t a ht hta => ?_, ?_⟩
    · have := hp3 i hil
      rw [ho'] at this
      simp only [Bool.and_eq_true, List.all_eq_true] at this
      have := this.2 t ht
      simp only [srcB, Bool.or_eq_true, List.any_eq_true, List.all_eq_true, List.mem_range, Bool.and_eq_true, beq_iff_eq, Bool.not_eq_true', beq_eq_false_iff_ne] at this
      rcases this with ⟨j, hj, ⟨hjt, hij⟩, hji⟩ | hall
      · obtain ⟨oj, hoj, hojt⟩ := dstOf_some hjt
        have hji' := Nat.blt_eq.mp hji
        have e := lk_frs_some (val := val) (fr := fr) hjt (fun x hx => hdist j x t hjt hx) i hji'
        have hta' : lk (frs l val fr i) t = some a := hta
        rw [e] at hta'
        cases hta'
        exact .inl ⟨j, oj, by simpa using hoj, hojt, hdep i j hij, rfl⟩
      · have hlow' : ∀ x y, depT l.toArray x y → y < x := fun x y hxy => by
          induction hxy with
          | one hd => exact hlow _ _ hd
          | more hd _ ih => exact Nat.lt_trans ih (hlow _ _ hd)
        have hw : ∀ j, dstOf l j = some t → depT l.toArray j i ∨ j = i := fun j hj => by
          obtain ⟨oj, hoj, _⟩ := dstOf_some hj
          rcases hall j (List.getElem?_eq_some_iff.1 hoj).1 with (h' | h') | h'
          · exact absurd hj h'
          · exact .inl (hdep j i h')
          · exact .inr (by simpa using h')
        refine .inr ⟨fun j oj hoj hjt => hw j (dstOf_of (by simpa using hoj) hjt), ?_⟩
        have e := lk_frs_none (l := l) (val := val) (fr := fr) (t := t) i fun j hj hjt => by
          rcases hw j hjt with h' | h'
          · have := hlow' _ _ h'; omega
          · omega
        have hta' : lk (frs l val fr i) t = some a := hta
        rw [← e]; exact hta'
    · have hF := h2 i o (by simpa using ho')
      rw [Nat.zero_add, List.drop_zero] at hF
      have hon : ∀ {E : Operand → Option AV} {r : AV}, OnB P c m σ0 σ1 i o E r → Acts P l.toArray m σ0 σ1 i o E r := fun hO => by
        unfold OnB at hO
        split at hO
        · rename_i him _
          exact ⟨fun _ => hO, fun h => absurd him h, fun h => absurd him h⟩
        · rename_i him _
          refine ⟨fun h => absurd h him, fun _ hn => hO.1 ?_, fun _ hn => hO.2 ?_⟩
          · cases hh : memB c i m with
            | false => rfl
            | true => exact absurd (hdep _ _ hh) hn
          · cases hh : memB c m i with
            | false => rfl
            | true => exact absurd (hdep _ _ hh) hn
      unfold FactB at hF
      cases hg : o.guard with
      | none =>
        rw [hg] at hF
        exact .inl ⟨rfl, hon hF⟩
      | some p =>
        obtain ⟨g, want⟩ := p
        rw [hg] at hF
        obtain ⟨b, cc, hb, hgc, hcase⟩ := hF
        cases hgt : dstOf l g with
        | none => rw [hgt] at hb; cases hb
        | some t =>
          rw [hgt] at hb
          obtain ⟨og, hog, hogt⟩ := dstOf_some hgt
          exact .inr ⟨g, want, t, b, cc, rfl, by simp [hog, hogt], hb, hgc, fun h4 => hon (hcase.1 h4), hcase.2⟩
  obtain ⟨hok', hst'⟩ := hk.drawn (k.w.drawn + 1)
  refine wp_region_any hmix ?_
  have hrepl : ∀ x, (Array.replicate l.toArray.size false).getD x false = false := fun x => by
    rw [Array.getD_eq_getD_getElem?, Array.getElem?_replicate]
    split <;> rfl
  have := run_plan (Q := Q) (k0 := k) (a0 := a) hplan (by simpa using hm) hfact (fun k' a' hs hdf hσ' hok hz' hnew hold => ?_) l.toArray.size (Array.replicate l.toArray.size false) { k with w := { k.w with drawn := k.w.drawn + 1 } } a (by simp) (by simp) ⟨by rw [cur, if_neg (by rw [hrepl]; decide)]; exact hσ, hok', hz, (fun i j hi => by rw [hrepl] at hi; cases hi), fun j oj t _ _ h => (by rw [hrepl] at h; cases h), fun t av h _ => (hf.step hst') t av h⟩ hst' rfl
  · exact this
  · rw [Nat.zero_add] at h1
    rw [List.drop_zero, h1] at h3
    refine ⟨hdf, hz'.trans hz.symm, k', .normal, fr2, rfl, hok, hs, fun t av ht => ?_, trivial, by rw [hσ']; exact h3'⟩
    replace ht := h3 t av ht
    by_cases hex : ∃ j, dstOf l j = some t
    · obtain ⟨j, hj⟩ := hex
      obtain ⟨oj, hoj, hojt⟩ := dstOf_some hj
      rw [lk_frs_some hj (fun x hx => hdist j x t hj hx) l.length (List.getElem?_eq_some_iff.1 hoj).1] at ht
      cases ht
      exact hnew j oj t (by simpa using hoj) hojt
    · rw [lk_frs_none l.length fun j _ hj => hex ⟨j, hj⟩] at ht
      exact hold t av ht fun j oj hoj hojt => hex ⟨j, dstOf_of (by simpa using hoj) hojt⟩
/-! ### Steps -/
theorem onb_ne {o : Oper} {E : Operand → Option AV} {r : AV} (him : Nat.beq i m = false) (h0 : memB c i m = false → OpW P o E σ0 (fun r' σ' => r' = r ∧ σ' = σ0)) (h1 : memB c m i = false → OpW P o E σ1 (fun r' σ' => r' = r ∧ σ' = σ1)) : OnB P c m σ0 σ1 i o E r := by
  unfold OnB
  split
  · rename_i h _; rw [h] at him; simp at him
  · exact ⟨h0, h1⟩
theorem onb_eq {o : Oper} {E : Operand → Option AV} {r : AV} (him : Nat.beq i m = true) (h : OpW P o E σ0 (fun r' σ' => r' = r ∧ σ' = σ1)) : OnB P c m σ0 σ1 i o E r := by
  unfold OnB
  split
  · exact h
  · rename_i h' _; exact absurd (Nat.eq_of_beq_eq_true him) h'
theorem opw_of {o : Oper} {E : Operand → Option AV} {σ σ' : St} {r : Option AV} (hJ : ∀ (R : Option AV → St → Prop), R r σ' → OpJ P o E σ R) : OpW P o E σ (fun r' σ2 => r' = r.getD (.tup []) ∧ σ2 = σ') := .of_opj (hJ _ ⟨rfl, rfl⟩)
theorem opw_pure {dst : Option Tmp} {f : FuncId} {xs : Array Operand} {ts : Array TypeId} {as : List AV} {r : AV} {σ : St} {ty : TypeId} {pos : String} {aft : Array Edge} {gd : Option (Nat × Bool)} (has : evs fr xs.toList = some as) (hent : entered P f = true) (hp : Pure P f as r) :
    OpW P ⟨dst, .call { callee := .value (.func f), args := xs, argTypes := ts }, ty, pos, aft, gd⟩ (ev fr) σ (fun r' σ' => r' = r ∧ σ' = σ) :=
  (OpW.of_calls has hent (hp σ) (fun e σ' ⟨h1, h2⟩ => ⟨r, h1, rfl, h2⟩) : OpW P _ (ev fr) σ (fun r' σ' => r' = r ∧ σ.le σ')).forget
theorem opw_calls {dst : Option Tmp} {f : FuncId} {xs : Array Operand} {ts : Array TypeId} {as : List AV} {r : AV} {σ σ' : St} {ty : TypeId} {pos : String} {aft : Array Edge} {gd : Option (Nat × Bool)} (has : evs fr xs.toList = some as) (hent : entered P f = true) (hp : ACalls P f as σ (fun e σ2 => e = .ret r ∧ σ2 = σ')) :
    OpW P ⟨dst, .call { callee := .value (.func f), args := xs, argTypes := ts }, ty, pos, aft, gd⟩ (ev fr) σ (fun r' σ2 => r' = r ∧ σ2 = σ') :=
  .of_calls has hent hp (fun e σ2 ⟨h1, h2⟩ => ⟨r, h1, rfl, h2⟩)
section
variable {rest : List Oper} {t : Tmp} {op : Op} {ty : TypeId} {pos : String} {aft : Array Edge} {av : AV} {dst : Option Tmp}
theorem factb_none {o : Oper} {r : AV} (hg : o.guard = none) (h : OnB P c m σ0 σ1 i o (ev fr) r) : FactB P l c m σ0 σ1 fr i o r := by
  unfold FactB; rw [hg]; exact h
theorem factb_yes {o : Oper} {r : AV} {g u : Nat} {b : Bool} (hg : o.guard = some (g, b)) (hj : dstOf l g = some u) (hl : lk fr u = some (.v (.bool b))) (h : OnB P c m σ0 σ1 i o (ev fr) r) : FactB P l c m σ0 σ1 fr i o r := by
  unfold FactB; rw [hg]
  cases b with
  | true => exact ⟨_, true, by rw [hj]; exact hl, rfl, fun _ => h, fun e => by cases e⟩
  | false => exact ⟨_, true, by rw [hj]; exact hl, rfl, fun _ => h, fun e => by cases e⟩
/-- One that hangs on no store. -/
theorem dj_auto (him : Nat.beq i m = false) (hv : valOp P fr op = some av) (h : DJ P l c m σ0 σ1 K (i + 1) rest ((t, av) :: fr)) : DJ P l c m σ0 σ1 K i (⟨some t, op, ty, pos, aft, none⟩ :: rest) fr :=
  dj_cons (factb_none rfl (onb_ne him (fun _ => opw_of (r := some av) fun R hR => opj_valOp hv hR) (fun _ => opw_of (r := some av) fun R hR => opj_valOp hv hR))) h
theorem dj_autoy {j u : Nat} {b : Bool} (him : Nat.beq i m = false) (hj : dstOf l j = some u) (hl : lk fr u = some (.v (.bool b))) (hv : valOp P fr op = some av) (h : DJ P l c m σ0 σ1 K (i + 1) rest ((t, av) :: fr)) : DJ P l c m σ0 σ1 K i (⟨some t, op, ty, pos, aft, some (j, b)⟩ :: rest) fr :=
  dj_cons (factb_yes rfl hj hl (onb_ne him (fun _ => opw_of (r := some av) fun R hR => opj_valOp hv hR) (fun _ => opw_of (r := some av) fun R hR => opj_valOp hv hR))) h
theorem dj_n {j u : Nat} {b w : Bool} (him : Nat.beq i m = false) (hj : dstOf l j = some u) (hl : lk fr u = some (.v (.bool b))) (hne : (b == w) = false) (h : DJ P l c m σ0 σ1 K (i + 1) rest (put fr dst (some (.tup [])))) : DJ P l c m σ0 σ1 K i (⟨dst, op, ty, pos, aft, some (j, w)⟩ :: rest) fr :=
  dj_cons (r := .tup []) (by
    unfold FactB
    have hm : i ≠ m := fun e => by rw [e] at him; simp at him
    have hu : ∀ k, Rep k (.tup []) undef := fun k => .tup (by simp [undef]) (fun j a u h _ => by simp at h)
    cases b <;> cases w <;> first | (cases hne; done) | exact ⟨_, false, by rw [hj]; exact hl, rfl, (fun e => by cases e), fun _ => ⟨hm, hu⟩⟩) h
theorem dj_gt {j u : Nat} {w : Bool} (hj : dstOf l j = some u) (hl : lk fr u = some (.v (.bool true))) (h : DJ P l c m σ0 σ1 K i (⟨dst, op, ty, pos, aft, some (j, w)⟩ :: rest) fr) : DJ P l c m σ0 σ1 K i (⟨dst, op, ty, pos, aft, some (j, w)⟩ :: rest) fr := h
theorem dj_gf {j u : Nat} {w : Bool} (hj : dstOf l j = some u) (hl : lk fr u = some (.v (.bool false))) (h : DJ P l c m σ0 σ1 K i (⟨dst, op, ty, pos, aft, some (j, w)⟩ :: rest) fr) : DJ P l c m σ0 σ1 K i (⟨dst, op, ty, pos, aft, some (j, w)⟩ :: rest) fr := h
theorem dj_gcase {j u : Nat} {b w : Bool} (hj : dstOf l j = some u) (hl : lk fr u = some (.v (.bool b))) (ht : b = true → DJ P l c m σ0 σ1 K i (⟨dst, op, ty, pos, aft, some (j, w)⟩ :: rest) ((u, .v (.bool true)) :: fr)) (hf : b = false → DJ P l c m σ0 σ1 K i (⟨dst, op, ty, pos, aft, some (j, w)⟩ :: rest) ((u, .v (.bool false)) :: fr)) : DJ P l c m σ0 σ1 K i (⟨dst, op, ty, pos, aft, some (j, w)⟩ :: rest) fr := by
  cases b with
  | true => exact dj_sub (fun x a h => by
      rw [lk_cons] at h
      split at h
      · rename_i e; subst e; rw [hl]; exact h
      · exact h) (ht rfl)
  | false => exact dj_sub (fun x a h => by
      rw [lk_cons] at h
      split at h
      · rename_i e; subst e; rw [hl]; exact h
      · exact h) (hf rfl)
/-- One that hangs on the store, and is the same in both. -/
theorem dj_v (him : Nat.beq i m = false) (hJ0 : ∀ (R : Option AV → St → Prop), R (some av) σ0 → OpJ P ⟨some t, op, ty, pos, aft, none⟩ (ev fr) σ0 R) (hJ1 : ∀ (R : Option AV → St → Prop), R (some av) σ1 → OpJ P ⟨some t, op, ty, pos, aft, none⟩ (ev fr) σ1 R) (h : DJ P l c m σ0 σ1 K (i + 1) rest ((t, av) :: fr)) : DJ P l c m σ0 σ1 K i (⟨some t, op, ty, pos, aft, none⟩ :: rest) fr :=
  dj_cons (factb_none rfl (onb_ne him (fun _ => opw_of (r := some av) hJ0) (fun _ => opw_of (r := some av) hJ1))) h
theorem dj_vy {j u : Nat} {b : Bool} (him : Nat.beq i m = false) (hj : dstOf l j = some u) (hl : lk fr u = some (.v (.bool b))) (hJ0 : ∀ (R : Option AV → St → Prop), R (some av) σ0 → OpJ P ⟨some t, op, ty, pos, aft, some (j, b)⟩ (ev fr) σ0 R) (hJ1 : ∀ (R : Option AV → St → Prop), R (some av) σ1 → OpJ P ⟨some t, op, ty, pos, aft, some (j, b)⟩ (ev fr) σ1 R) (h : DJ P l c m σ0 σ1 K (i + 1) rest ((t, av) :: fr)) : DJ P l c m σ0 σ1 K i (⟨some t, op, ty, pos, aft, some (j, b)⟩ :: rest) fr :=
  dj_cons (factb_yes rfl hj hl (onb_ne him (fun _ => opw_of (r := some av) hJ0) (fun _ => opw_of (r := some av) hJ1))) h
/-- Only ahead of m. -/
theorem dj_v0 (him : Nat.beq i m = false) (hc : memB c m i = true) (hJ0 : ∀ (R : Option AV → St → Prop), R (some av) σ0 → OpJ P ⟨some t, op, ty, pos, aft, none⟩ (ev fr) σ0 R) (h : DJ P l c m σ0 σ1 K (i + 1) rest ((t, av) :: fr)) : DJ P l c m σ0 σ1 K i (⟨some t, op, ty, pos, aft, none⟩ :: rest) fr :=
  dj_cons (factb_none rfl (onb_ne him (fun _ => opw_of (r := some av) hJ0) (fun e => by rw [hc] at e; cases e))) h
/-- Only behind m. -/
theorem dj_v1 (him : Nat.beq i m = false) (hc : memB c i m = true) (hJ1 : ∀ (R : Option AV → St → Prop), R (some av) σ1 → OpJ P ⟨some t, op, ty, pos, aft, none⟩ (ev fr) σ1 R) (h : DJ P l c m σ0 σ1 K (i + 1) rest ((t, av) :: fr)) : DJ P l c m σ0 σ1 K i (⟨some t, op, ty, pos, aft, none⟩ :: rest) fr :=
  dj_cons (factb_none rfl (onb_ne him (fun e => by rw [hc] at e; cases e) (fun _ => opw_of (r := some av) hJ1))) h
/-- m itself. -/
theorem dj_m (him : Nat.beq i m = true) (hJ : ∀ (R : Option AV → St → Prop), R none σ1 → OpJ P ⟨none, op, ty, pos, aft, none⟩ (ev fr) σ0 R) (h : DJ P l c m σ0 σ1 K (i + 1) rest fr) : DJ P l c m σ0 σ1 K i (⟨none, op, ty, pos, aft, none⟩ :: rest) fr :=
  dj_cons (r := .tup []) (factb_none rfl (onb_eq him (opw_of (r := none) hJ))) h
theorem dj_mw (him : Nat.beq i m = true) (hJ : ∀ (R : Option AV → St → Prop), R (some av) σ1 → OpJ P ⟨some t, op, ty, pos, aft, none⟩ (ev fr) σ0 R) (h : DJ P l c m σ0 σ1 K (i + 1) rest ((t, av) :: fr)) : DJ P l c m σ0 σ1 K i (⟨some t, op, ty, pos, aft, none⟩ :: rest) fr :=
  dj_cons (factb_none rfl (onb_eq him (opw_of (r := some av) hJ))) h
theorem dj_pure {f : FuncId} {xs : Array Operand} {ts : Array TypeId} {as : List AV} {r : AV} (him : Nat.beq i m = false) (has : evs fr xs.toList = some as) (hent : entered P f = true) (hp : Pure P f as r) (h : DJ P l c m σ0 σ1 K (i + 1) rest (put fr dst (some r))) :
    DJ P l c m σ0 σ1 K i (⟨dst, .call { callee := .value (.func f), args := xs, argTypes := ts }, ty, pos, aft, none⟩ :: rest) fr :=
  dj_cons (factb_none rfl (onb_ne him (fun _ => opw_pure has hent hp) (fun _ => opw_pure has hent hp))) h
theorem dj_purey {j u : Nat} {b : Bool} {f : FuncId} {xs : Array Operand} {ts : Array TypeId} {as : List AV} {r : AV} (him : Nat.beq i m = false) (hj : dstOf l j = some u) (hl : lk fr u = some (.v (.bool b))) (has : evs fr xs.toList = some as) (hent : entered P f = true) (hp : Pure P f as r) (h : DJ P l c m σ0 σ1 K (i + 1) rest (put fr dst (some r))) :
    DJ P l c m σ0 σ1 K i (⟨dst, .call { callee := .value (.func f), args := xs, argTypes := ts }, ty, pos, aft, some (j, b)⟩ :: rest) fr :=
  dj_cons (factb_yes rfl hj hl (onb_ne him (fun _ => opw_pure has hent hp) (fun _ => opw_pure has hent hp))) h
theorem dj_calls {f : FuncId} {xs : Array Operand} {ts : Array TypeId} {as : List AV} {r : AV} (him : Nat.beq i m = true) (has : evs fr xs.toList = some as) (hent : entered P f = true) (hp : ACalls P f as σ0 (fun e σ' => e = .ret r ∧ σ' = σ1)) (h : DJ P l c m σ0 σ1 K (i + 1) rest (put fr dst (some r))) :
    DJ P l c m σ0 σ1 K i (⟨dst, .call { callee := .value (.func f), args := xs, argTypes := ts }, ty, pos, aft, none⟩ :: rest) fr :=
  dj_cons (factb_none rfl (onb_eq him (opw_calls has hent hp))) h
/-- A call that leaves the store as it is. -/
theorem dj_keeps {f : FuncId} {xs : Array Operand} {ts : Array TypeId} {as : List AV} {r : AV} (him : Nat.beq i m = false) (has : evs fr xs.toList = some as) (hent : entered P f = true) (hp0 : ACalls P f as σ0 (fun e σ' => e = .ret r ∧ σ' = σ0)) (hp1 : ACalls P f as σ1 (fun e σ' => e = .ret r ∧ σ' = σ1)) (h : DJ P l c m σ0 σ1 K (i + 1) rest (put fr dst (some r))) :
    DJ P l c m σ0 σ1 K i (⟨dst, .call { callee := .value (.func f), args := xs, argTypes := ts }, ty, pos, aft, none⟩ :: rest) fr :=
  dj_cons (factb_none rfl (onb_ne him (fun _ => opw_calls has hent hp0) (fun _ => opw_calls has hent hp1))) h
theorem dj_keepsy {j u : Nat} {b : Bool} {f : FuncId} {xs : Array Operand} {ts : Array TypeId} {as : List AV} {r : AV} (him : Nat.beq i m = false) (hj : dstOf l j = some u) (hl : lk fr u = some (.v (.bool b))) (has : evs fr xs.toList = some as) (hent : entered P f = true) (hp0 : ACalls P f as σ0 (fun e σ' => e = .ret r ∧ σ' = σ0)) (hp1 : ACalls P f as σ1 (fun e σ' => e = .ret r ∧ σ' = σ1)) (h : DJ P l c m σ0 σ1 K (i + 1) rest (put fr dst (some r))) :
    DJ P l c m σ0 σ1 K i (⟨dst, .call { callee := .value (.func f), args := xs, argTypes := ts }, ty, pos, aft, some (j, b)⟩ :: rest) fr :=
  dj_cons (factb_yes rfl hj hl (onb_ne him (fun _ => opw_calls has hent hp0) (fun _ => opw_calls has hent hp1))) h
/-! ### Under a guard that is not known -/
theorem OpW.mb {o : Oper} {E : Operand → Option AV} {r : AV} {cc : Bool} {σ σ' : St} (hc : cc = true) (h : OpW P o E σ (fun r' σ2 => r' = r ∧ σ2 = σ')) : OpW P o E σ (fun r' σ2 => r' = .mb cc r ∧ σ2 = σ') :=
  fun k a K Q hσ hk hr hK => h k a K Q hσ hk hr fun k' v r' h1 h2 ⟨h3, h4⟩ h5 => hK k' v _ h1 h2 ⟨rfl, h4⟩ (by subst h3; exact Rep.mb_true hc h5)
theorem OpW.strip {o : Oper} {R : AV → St → Prop} {cc : Bool} {σ : St} (hn : Needs cc fr o.op.operands.toList) (hc : cc = true) (h : OpW P o (ev (strip fr)) σ R) : OpW P o (ev fr) σ R :=
  fun k a K Q hσ hk hr hK => h k a K Q hσ hk (strip_reps hr (hn.all hc)) hK
theorem factb_q {o : Oper} {r b : AV} {g u : Nat} {w cc : Bool} (hg : o.guard = some (g, w)) (hj : dstOf l g = some u) (hl : lk fr u = some b) (hgc : gc b w = some cc) (him : Nat.beq i m = false) (h : cc = true → OnB P c m σ0 σ1 i o (ev fr) (.mb cc r)) : FactB P l c m σ0 σ1 fr i o (.mb cc r) := by
  unfold FactB; rw [hg]
  exact ⟨b, cc, by rw [hj]; exact hl, hgc, h, fun e => ⟨fun e' => by rw [e'] at him; simp at him, fun k => Rep.mb_false e⟩⟩
theorem dj_q {j u : Nat} {w cc : Bool} {b : AV} (him : Nat.beq i m = false) (hj : dstOf l j = some u) (hl : lk fr u = some b) (hgc : gc b w = some cc) (hn : Needs cc fr op.operands.toList)
    (hJ0 : cc = true → ∀ (R : Option AV → St → Prop), R (some av) σ0 → OpJ P ⟨some t, op, ty, pos, aft, some (j, w)⟩ (ev (strip fr)) σ0 R) (hJ1 : cc = true → ∀ (R : Option AV → St → Prop), R (some av) σ1 → OpJ P ⟨some t, op, ty, pos, aft, some (j, w)⟩ (ev (strip fr)) σ1 R)
    (h : DJ P l c m σ0 σ1 K (i + 1) rest ((t, .mb cc av) :: fr)) : DJ P l c m σ0 σ1 K i (⟨some t, op, ty, pos, aft, some (j, w)⟩ :: rest) fr :=
  dj_cons (factb_q rfl hj hl hgc him fun hc => onb_ne him (fun _ => (OpW.strip (o := ⟨some t, op, ty, pos, aft, some (j, w)⟩) hn hc (opw_of (r := some av) (hJ0 hc))).mb hc) (fun _ => (OpW.strip (o := ⟨some t, op, ty, pos, aft, some (j, w)⟩) hn hc (opw_of (r := some av) (hJ1 hc))).mb hc)) h
theorem dj_q0 {j u : Nat} {w cc : Bool} {b : AV} (him : Nat.beq i m = false) (hj : dstOf l j = some u) (hl : lk fr u = some b) (hgc : gc b w = some cc)
    (hJ : cc = true → ∀ (σ : St) (R : Option AV → St → Prop), R (some av) σ → OpJ P ⟨some t, op, ty, pos, aft, some (j, w)⟩ (ev fr) σ R)
    (h : DJ P l c m σ0 σ1 K (i + 1) rest ((t, .mb cc av) :: fr)) : DJ P l c m σ0 σ1 K i (⟨some t, op, ty, pos, aft, some (j, w)⟩ :: rest) fr :=
  dj_cons (factb_q rfl hj hl hgc him fun hc => onb_ne him (fun _ => (opw_of (r := some av) (hJ hc σ0)).mb hc) (fun _ => (opw_of (r := some av) (hJ hc σ1)).mb hc)) h
theorem dj_pureq {j u : Nat} {w cc : Bool} {b : AV} {f : FuncId} {xs : Array Operand} {ts : Array TypeId} {as : List AV} {r : AV} (him : Nat.beq i m = false) (hj : dstOf l j = some u) (hl : lk fr u = some b) (hgc : gc b w = some cc) (hn : Needs cc fr (Op.call { callee := .value (.func f), args := xs, argTypes := ts }).operands.toList) (has : evs (strip fr) xs.toList = some as) (hent : entered P f = true) (hp : cc = true → Pure P f as r)
    (h : DJ P l c m σ0 σ1 K (i + 1) rest ((t, .mb cc r) :: fr)) : DJ P l c m σ0 σ1 K i (⟨some t, .call { callee := .value (.func f), args := xs, argTypes := ts }, ty, pos, aft, some (j, w)⟩ :: rest) fr :=
  dj_cons (factb_q rfl hj hl hgc him fun hc => onb_ne him (fun _ => (OpW.strip (o := ⟨some t, .call { callee := .value (.func f), args := xs, argTypes := ts }, ty, pos, aft, some (j, w)⟩) hn hc (opw_pure has hent (hp hc))).mb hc) (fun _ => (OpW.strip (o := ⟨some t, .call { callee := .value (.func f), args := xs, argTypes := ts }, ty, pos, aft, some (j, w)⟩) hn hc (opw_pure has hent (hp hc))).mb hc)) h
end
end
end Go.Proofs.YtledbkkaaomjpabDoor.Ab
