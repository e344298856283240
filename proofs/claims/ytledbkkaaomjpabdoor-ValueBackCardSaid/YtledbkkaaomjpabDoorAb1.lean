/- Abstract values over the model's memory: what a value stands for (Rep), what a step may turn (Step), and the rules of control. -/
import Derived.Tactics
import Derived.Below
import Derived.KernelRfl
import Derived.Laws.AppendOwn
import Derived.Laws.OwnMore
import Derived.WideLaws
import Derived.Deep.LoopGhost
import Derived.Test.YtledbkkaaomjpabDoorGr
set_option linter.unusedVariables false
set_option linter.unusedSimpArgs false
namespace Go.Proofs.YtledbkkaaomjpabDoor.Ab
open Go

/-- Abstract values. sl: a slice that nobody writes any more; osl: a slice over a row of our own; ptr: an address in a row of our own; fp: an address in memory that nobody writes; mb: what is there only if c, else nothing. -/
inductive AV where
  | v (x : Value)
  | agg (cs : List AV)
  | tup (cs : List AV)
  | sl (nl : Option Bool) (full : Bool) (sz : Nat) (els : List (List AV))
  | fp (cs : List AV)
  | ptr (id sz i j : Nat)
  | osl (id sz off len : Nat)
  | fn (f : FuncId) (caps : List AV)
  | ifc (t : TypeId) (x : AV)
  | mp (id : Nat)
  | it (id : Nat)
  | mb (c : Bool) (a : AV)

inductive AObj where
  | row (sz : Nat) (elem : TypeId) (els : List (List AV))
  | siter (s : ByteArray) (pos : Nat)
  | map (es : List (Value × AV))

abbrev St := Nat → Option AObj
def St.set (σ : St) (id : Nat) (o : AObj) : St := fun x => if x = id then some o else σ x
def St.del (σ : St) (id : Nat) : St := fun x => if x = id then none else σ x
theorem St.set_same (σ : St) (id : Nat) (o : AObj) : σ.set id o id = some o := by simp [St.set]
theorem St.set_ne (σ : St) (id : Nat) (o : AObj) {x : Nat} (h : x ≠ id) : σ.set id o x = σ x := by simp [St.set, h]
theorem St.set_ne' (σ : St) (id : Nat) (o : AObj) {x : Nat} (h : id ≠ x) : σ.set id o x = σ x := by simp [St.set, Ne.symm h]
theorem St.set_set (σ : St) (id : Nat) (o o' : AObj) : (σ.set id o).set id o' = σ.set id o' := by
  funext x; by_cases h : x = id <;> simp [St.set, h]
/-- What the greater one knows beside is forgotten. -/
def St.le (σ σ' : St) : Prop := ∀ id o, σ id = some o → σ' id = some o
theorem St.le_refl (σ : St) : σ.le σ := fun _ _ h => h
theorem St.le_trans {a b c : St} (h : a.le b) (k : b.le c) : a.le c := fun _ _ e => k _ _ (h _ _ e)
theorem St.le_set {σ : St} {id : Nat} (o : AObj) (h : σ id = none) : σ.le (σ.set id o) := fun x o' e => by
  have : x ≠ id := fun he => by rw [he, h] at e; cases e
  rw [St.set_ne _ _ _ this]; exact e
theorem St.del_le (σ : St) (id : Nat) : (σ.del id).le σ := fun x o e => by
  by_cases h : x = id <;> simp [St.del, h] at e ⊢
  exact e

structure Cx where
  ρ : Nat → Option Nat
  top : Nat
  σ : St
  base : Nat
  w : World

def Cx.live (k : Cx) (b : Nat) : Prop := ∃ id, k.σ id ≠ none ∧ k.ρ id = some b

inductive Rep (k : Cx) : AV → Value → Prop
  | v {x : Value} (h : x.oneCell' = true) : Rep k (.v x) x
  | agg {cs : List AV} {vs : Array Value} (hl : vs.size = cs.length) (h1 : ∀ (j : Nat) u, vs[j]? = some u → u.oneCell' = true) (h : ∀ (j : Nat) a u, cs[j]? = some a → vs[j]? = some u → Rep k a u) : Rep k (.agg cs) (.agg vs)
  | tup {cs : List AV} {vs : Array Value} (hl : vs.size = cs.length) (h : ∀ (j : Nat) a u, cs[j]? = some a → vs[j]? = some u → Rep k a u) : Rep k (.tup cs) (.tuple vs)
  | slnil {nl : Option Bool} {full : Bool} {sz : Nat} (hn : nl ≠ some false) : Rep k (.sl nl full sz []) (.slice none 0 0)
  | sle {nl : Option Bool} {full : Bool} {sz : Nat} {a : Addr} (hn : nl ≠ some true) : Rep k (.sl nl full sz []) (.slice (some a) 0 0)
  | sl {nl : Option Bool} {full : Bool} {sz : Nat} {els : List (List AV)} {b o cap : Nat} {f : Nat → Nat → Value} (hn : nl ≠ some true) (hc : els.length ≤ cap) (hm : els.length ≤ maxLen) (hf : full = true → cap = els.length)
      (hsz : ∀ (i : Nat) e, els[i]? = some e → e.length = sz)
      (hfr : els ≠ [] → b < k.w.heap.size ∧ ¬ k.live b)
      (hw : ∀ (i j : Nat) e a, els[i]? = some e → e[j]? = some a → k.w.cell? ⟨b, o + (i * sz + j), none⟩ = some (f i j) ∧ (f i j).oneCell' = true)
      (h : ∀ (i j : Nat) e a, els[i]? = some e → e[j]? = some a → Rep k a (f i j)) : Rep k (.sl nl full sz els) (.slice (some ⟨b, o, none⟩) els.length cap)
  | fp {cs : List AV} {b o : Nat} {f : Nat → Value}
      (hfr : b < k.w.heap.size ∧ ¬ k.live b)
      (hw : ∀ (j : Nat) a, cs[j]? = some a → k.w.cell? ⟨b, o + j, none⟩ = some (f j) ∧ (f j).oneCell' = true)
      (h : ∀ (j : Nat) a, cs[j]? = some a → Rep k a (f j)) : Rep k (.fp cs) (.pointer (some ⟨b, o, none⟩))
  | ptr {id sz i j b : Nat} (ht : id < k.top) (hb : k.ρ id = some b) : Rep k (.ptr id sz i j) (.pointer (some ⟨b, i * sz + j, none⟩))
  | oslnil {id sz : Nat} (ht : id < k.top) (hb : k.ρ id = none) : Rep k (.osl id sz 0 0) (.slice none 0 0)
  | osl {id sz off len b cap o : Nat} (ht : id < k.top) (hb : k.ρ id = some b) (ho : 0 < cap → o = off * sz) (hl : len ≤ cap) (hm : len ≤ maxLen)
      (hs : ∃ (cs : Array Value) (t : TypeId) (f : Nat × Nat), k.w.heap[b]? = some (.cells cs t f) ∧ (off + cap) * sz ≤ cs.size) : Rep k (.osl id sz off len) (.slice (some ⟨b, o, none⟩) len cap)
  | fn {f : FuncId} {cs : List AV} {vs : Array Value} (hl : vs.size = cs.length) (h : ∀ (j : Nat) a u, cs[j]? = some a → vs[j]? = some u → Rep k a u) : Rep k (.fn f cs) (.func (.func f) #[] vs)
  | ifc {t : TypeId} {x : AV} {u : Value} (h : Rep k x u) : Rep k (.ifc t x) (.iface t u)
  | mp {id b : Nat} (ht : id < k.top) (hb : k.ρ id = some b) : Rep k (.mp id) (.map (some b))
  | it {id b : Nat} (ht : id < k.top) (hb : k.ρ id = some b) : Rep k (.it id) (.pointer (some ⟨b, 0, none⟩))
  | mb {c : Bool} {a : AV} {u : Value} (h0 : c = false → u = undef) (h : c = true → Rep k a u) : Rep k (.mb c a) u

/-- What an object of our own is in memory. -/
def ObjOk (k : Cx) (id : Nat) : AObj → Prop
  | .row sz elem els => (k.ρ id = none ∧ els = []) ∨ ∃ b cs, k.ρ id = some b ∧ k.w.heap[b]? = some (.cells cs elem (0, 0)) ∧ (∀ (i : Nat) e, els[i]? = some e → e.length = sz) ∧ els.length * sz ≤ cs.size ∧
      ∀ (i j : Nat) e a, els[i]? = some e → e[j]? = some a → ∃ u, cs[i * sz + j]? = some u ∧ u.oneCell' = true ∧ Rep k a u
  | .siter s pos => ∃ b, k.ρ id = some b ∧ k.w.heap[b]? = some (.stringIter s pos)
  | .map es => ∃ b ms clock, k.ρ id = some b ∧ k.w.heap[b]? = some (.map ms clock) ∧ ms.size = es.length ∧
      ∀ (i : Nat) e m, es[i]? = some e → ms[i]? = some m → m.key = e.1 ∧ Rep k e.2 m.val

structure Ok (k : Cx) : Prop where
  dom : ∀ id, k.σ id ≠ none → id < k.top
  inj : ∀ id id' b, k.σ id ≠ none → k.σ id' ≠ none → k.ρ id = some b → k.ρ id' = some b → id = id'
  bas : ∀ id b, k.σ id ≠ none → k.ρ id = some b → k.base ≤ b ∧ b < k.w.heap.size
  hb : k.base ≤ k.w.heap.size
  obj : ∀ id o, k.σ id = some o → ObjOk k id o
  gr : Ground k.base k.w

structure Step (k k' : Cx) : Prop where
  top : k.top ≤ k'.top
  rho : ∀ id, id < k.top → k'.ρ id = k.ρ id
  base : k'.base = k.base
  os : k'.w.os = k.w.os
  tape : k'.w.tape = k.w.tape
  output : k'.w.output = k.w.output
  size : k.w.heap.size ≤ k'.w.heap.size
  frz : ∀ b, b < k.w.heap.size → ¬ k.live b → k'.w.heap[b]? = k.w.heap[b]? ∧ ¬ k'.live b
  shp : ∀ (b : Nat) (cs : Array Value) (t : TypeId) (f : Nat × Nat), k.w.heap[b]? = some (.cells cs t f) → ∃ (cs' : Array Value) (f' : Nat × Nat), k'.w.heap[b]? = some (.cells cs' t f') ∧ cs'.size = cs.size

theorem Step.refl (k : Cx) : Step k k := ⟨Nat.le_refl _, fun _ _ => rfl, rfl, rfl, rfl, rfl, Nat.le_refl _, fun _ _ h => ⟨rfl, h⟩, fun _ cs _ f h => ⟨cs, f, h, rfl⟩⟩
theorem Step.trans {a b c : Cx} (h : Step a b) (k : Step b c) : Step a c where
  top := Nat.le_trans h.top k.top
  rho id hi := (k.rho id (Nat.lt_of_lt_of_le hi h.top)).trans (h.rho id hi)
  base := k.base.trans h.base
  os := k.os.trans h.os
  tape := k.tape.trans h.tape
  output := k.output.trans h.output
  size := Nat.le_trans h.size k.size
  frz x hx hl := by
    obtain ⟨h1, h2⟩ := h.frz x hx hl
    obtain ⟨h3, h4⟩ := k.frz x (Nat.lt_of_lt_of_le hx h.size) h2
    exact ⟨h3.trans h1, h4⟩
  shp x cs t f hx := by
    obtain ⟨cs1, f1, h1, e1⟩ := h.shp x cs t f hx
    obtain ⟨cs2, f2, h2, e2⟩ := k.shp x cs1 t f1 h1
    exact ⟨cs2, f2, h2, e2.trans e1⟩

theorem Ok.ground {k k' : Cx} (hk : Ok k) (hs : Step k k') : Ground k'.base k'.w := by
  rw [hs.base]
  refine hk.gr.keep fun b hb => (hs.frz b (Nat.lt_of_lt_of_le hb hk.hb) ?_).1
  rintro ⟨id, h1, h2⟩
  have := (hk.bas id b h1 h2).1
  omega
theorem Cx.cell_frz {k k' : Cx} (h : Step k k') {b o : Nat} (hb : b < k.w.heap.size ∧ ¬ k.live b) : k'.w.cell? ⟨b, o, none⟩ = k.w.cell? ⟨b, o, none⟩ :=
  World.cell?_of_block (h.frz b hb.1 hb.2).1

theorem ne_nil_of_get {α : Type} {l : List α} {i : Nat} {e : α} (h : l[i]? = some e) : l ≠ [] := by
  rintro rfl; simp at h

theorem Rep.step {k k' : Cx} (hs : Step k k') {a : AV} {u : Value} (h : Rep k a u) : Rep k' a u := by
  induction h with
  | v h => exact .v h
  | agg hl h1 h ih => exact .agg hl h1 ih
  | tup hl h ih => exact .tup hl ih
  | slnil hn => exact .slnil hn
  | sle hn => exact .sle hn
  | @sl nl full sz els b o cap f hn hc hm hf hsz hfr hw h ih =>
    refine .sl (f := f) hn hc hm hf hsz (fun hne => ?_) (fun i j e a h1 h2 => ?_) ih
    · obtain ⟨h1, h2⟩ := hfr hne
      exact ⟨Nat.lt_of_lt_of_le h1 hs.size, (hs.frz b h1 h2).2⟩
    · have hb := hfr (ne_nil_of_get h1)
      rw [Cx.cell_frz hs hb]
      exact hw i j e a h1 h2
  | @fp cs b o f hfr hw h ih =>
    refine .fp (f := f) ⟨Nat.lt_of_lt_of_le hfr.1 hs.size, (hs.frz b hfr.1 hfr.2).2⟩ (fun j a h1 => ?_) ih
    rw [Cx.cell_frz hs hfr]
    exact hw j a h1
  | ptr ht hb => exact .ptr (Nat.lt_of_lt_of_le ht hs.top) ((hs.rho _ ht).trans hb)
  | oslnil ht hb => exact .oslnil (Nat.lt_of_lt_of_le ht hs.top) ((hs.rho _ ht).trans hb)
  | osl ht hb ho hl hm hsz =>
    refine .osl (Nat.lt_of_lt_of_le ht hs.top) ((hs.rho _ ht).trans hb) ho hl hm ?_
    obtain ⟨cs, t, f, h1, h2⟩ := hsz
    obtain ⟨cs', f', h3, h4⟩ := hs.shp _ _ _ _ h1
    exact ⟨cs', t, f', h3, by omega⟩
  | fn hl h ih => exact .fn hl ih
  | ifc h ih => exact .ifc ih
  | mp ht hb => exact .mp (Nat.lt_of_lt_of_le ht hs.top) ((hs.rho _ ht).trans hb)
  | it ht hb => exact .it (Nat.lt_of_lt_of_le ht hs.top) ((hs.rho _ ht).trans hb)
  | mb h0 h ih => exact .mb h0 ih

/-! ### Frames -/
abbrev Fr := List (Nat × AV)
def lk : Fr → Nat → Option AV
  | [], _ => none
  | (t, a) :: r, x => match Nat.decEq x t with
    | isTrue _ => some a
    | isFalse _ => lk r x
theorem lk_cons (t : Nat) (a : AV) (r : Fr) (x : Nat) : lk ((t, a) :: r) x = if x = t then some a else lk r x := by
  show (match Nat.decEq x t with
    | isTrue _ => some a
    | isFalse _ => lk r x) = _
  cases h : Nat.decEq x t with
  | isTrue h' => simp [h']
  | isFalse h' => simp [h']
def FrOk (k : Cx) (fr : Fr) (tmps : Array Value) : Prop := ∀ t a, lk fr t = some a → ∃ u, tmps[t]? = some u ∧ Rep k a u
abbrev ofLeaf (x : Value) : AV :=
  match x with
  | .slice none n c => if n == 0 && c == 0 then .sl (some true) true 1 [] else .v x
  | .func (.func f) a b => if a.isEmpty && b.isEmpty then .fn f [] else .v x
  | _ => .v x
def ofV : Value → AV
  | .agg cs => .agg (cs.toList.map ofLeaf)
  | x => ofLeaf x
def ev (fr : Fr) : Operand → Option AV
  | .tmp t => lk fr t
  | .const (.agg cs) => if cs.toList.all (·.oneCell') then some (.agg (cs.toList.map ofLeaf)) else none
  | .const (.tuple _) => none
  | .const x => some (ofLeaf x)
  | .global _ => none
  | .func f => some (.fn f [])
def RepsOn (k : Cx) (E : Operand → Option AV) (e : Operand → Value) (l : Array Operand) : Prop := ∀ x ∈ l, ∀ a, E x = some a → Rep k a (e x)

theorem rep_ofLeaf (k : Cx) (x : Value) (h : x.oneCell' = true) : Rep k (ofLeaf x) x := by
  unfold ofLeaf
  split
  · rename_i n c
    split
    · rename_i hc
      simp only [Bool.and_eq_true, beq_iff_eq] at hc
      obtain ⟨rfl, rfl⟩ := hc
      exact .slnil (by simp)
    · exact .v h
  · rename_i f a b
    split
    · rename_i hc
      simp only [Bool.and_eq_true, Array.isEmpty_iff] at hc
      obtain ⟨rfl, rfl⟩ := hc
      exact .fn (by simp) (fun j a u h _ => by simp at h)
    · exact .v h
  · exact .v h
theorem ev_ok {k : Cx} {fr : Fr} {a : Act} (h : FrOk k fr a.tmps) (x : Operand) (av : AV) (he : ev fr x = some av) : Rep k av (a.eval x) := by
  cases x with
  | tmp t =>
    obtain ⟨u, hu, hr⟩ := h t av he
    have : a.eval (.tmp t) = u := by simp [Act.eval, hu]
    rw [this]; exact hr
  | const v =>
    show Rep k av v
    cases v <;> simp only [ev] at he
    case agg cs =>
      split at he
      · rename_i hall
        cases he
        have hall' : ∀ (j : Nat) u, cs[j]? = some u → u.oneCell' = true := fun j u hu => by
          rw [List.all_eq_true] at hall
          obtain ⟨hj, rfl⟩ := Array.getElem?_eq_some_iff.1 hu
          exact hall _ (by simp)
        refine .agg (by simp) hall' (fun j a u ha hu => ?_)
        have : a = ofLeaf u := by
          simp only [List.getElem?_map, Array.getElem?_toList, hu, Option.map_some, Option.some.injEq] at ha
          exact ha.symm
        rw [this]
        exact rep_ofLeaf k u (hall' j u hu)
      · cases he
    case tuple vs => cases he
    all_goals (cases he; exact rep_ofLeaf k _ rfl)
  | global g => cases he
  | func f => cases he; exact .fn (by simp) (fun j a u h _ => by simp at h)
def put (fr : Fr) (dst : Option Tmp) (r : Option AV) : Fr :=
  match dst, r with
  | some t, some a => (t, a) :: fr
  | some t, none => (t, .tup []) :: fr
  | none, _ => fr
def fits (nt : Nat) (dst : Option Tmp) : Bool := match dst with | some t => decide (t < nt) | none => true
theorem FrOk.put {k : Cx} {fr : Fr} {a : Act} (h : FrOk k fr a.tmps) {dst : Option Tmp} (hd : fits a.tmps.size dst = true) {av : AV} {u : Value} (hr : Rep k av u) : FrOk k (put fr dst (some av)) (a.put dst u).tmps := by
  cases dst with
  | none => exact h
  | some t =>
    simp only [fits, decide_eq_true_eq] at hd
    intro x b hx
    simp only [Ab.put] at hx
    rw [lk_cons] at hx
    show ∃ v, (a.tmps.setIfInBounds t u)[x]? = some v ∧ _
    by_cases hxt : x = t
    · subst hxt
      rw [if_pos rfl] at hx
      cases hx
      exact ⟨u, by simp [hd], hr⟩
    · rw [if_neg hxt] at hx
      rw [Array.getElem?_setIfInBounds_ne (fun e => hxt e.symm)]
      exact h x b hx
theorem FrOk.put_undef {k : Cx} {fr : Fr} {a : Act} (h : FrOk k fr a.tmps) {dst : Option Tmp} (hd : fits a.tmps.size dst = true) : FrOk k (Ab.put fr dst none) (a.put dst undef).tmps := by
  cases dst with
  | none => exact h
  | some t => exact FrOk.put h hd (.tup (by simp [undef]) (fun j a u h _ => by simp at h))
theorem FrOk.step {k k' : Cx} (hs : Step k k') {fr : Fr} {tmps : Array Value} (h : FrOk k fr tmps) : FrOk k' fr tmps := fun t a ht => by
  obtain ⟨u, hu, hr⟩ := h t a ht
  exact ⟨u, hu, hr.step hs⟩
theorem Act.size_put (a : Act) (dst : Option Tmp) (u : Value) : (a.put dst u).tmps.size = a.tmps.size := by
  cases dst <;> simp [Act.put]
theorem Act.defers_put (a : Act) (dst : Option Tmp) (u : Value) : (a.put dst u).defers = a.defers := by
  cases dst <;> rfl

/-! ### Judgements -/
inductive AExit where
  | normal
  | exit (id : Nat)
  | goto (l : Nat)
  | ret
  | panic (x : AV)
def ExitOk (k : Cx) : AExit → Exit → Prop
  | .normal, .normal => True
  | .exit i, .exit j => i = j
  | .goto i, .goto j => i = j
  | .ret, .ret => True
  | .panic x, .panic ch => ∃ u, ch = [{ v := u, recovered := false }] ∧ Rep k x u
  | _, _ => False
abbrev Post := AExit → Fr → St → Prop
/-- The machine's own post, from where (k, a) stands. -/
def conc (k : Cx) (a : Act) (Q : Post) : Exit → Act → World → Prop := fun e a' w' =>
  a'.defers = a.defers ∧ a'.tmps.size = a.tmps.size ∧ ∃ k' e' fr', k'.w = w' ∧ Ok k' ∧ Step k k' ∧ FrOk k' fr' a'.tmps ∧ ExitOk k' e' e ∧ Q e' fr' k'.σ
theorem conc_step {k k1 : Cx} {a a1 : Act} {Q : Post} (hs : Step k k1) (hd : a1.defers = a.defers) (hz : a1.tmps.size = a.tmps.size) {e : Exit} {a' : Act} {w' : World} (h : conc k1 a1 Q e a' w') : conc k a Q e a' w' := by
  obtain ⟨h1, h2, k', e', fr', hw, hok, hst, r⟩ := h
  exact ⟨h1.trans hd, h2.trans hz, k', e', fr', hw, hok, hs.trans hst, r⟩
theorem conc_mono {k : Cx} {a : Act} {Q Q' : Post} (h : ∀ e fr σ, Q e fr σ → Q' e fr σ) {e : Exit} {a' : Act} {w' : World} (hc : conc k a Q e a' w') : conc k a Q' e a' w' := by
  obtain ⟨h1, h2, k', e', fr', hw, hok, hst, hf, he, hq⟩ := hc
  exact ⟨h1, h2, k', e', fr', hw, hok, hst, hf, he, h _ _ _ hq⟩

def CJ (P : Program) (nt : Nat) (c : Code) (Q : Post) (fr : Fr) (σ : St) : Prop :=
  ∀ (k : Cx) (a : Act), k.σ = σ → Ok k → a.tmps.size = nt → FrOk k fr a.tmps → c.wp P (conc k a Q) a k.w
def LJ (P : Program) (nt : Nat) (ops : Array Oper) (Q : Post) (l : List Oper) (fr : Fr) (σ : St) : Prop :=
  ∀ (k : Cx) (a : Act), k.σ = σ → Ok k → a.tmps.size = nt → FrOk k fr a.tmps → wpList P ops (conc k a Q) l a k.w

theorem Oper.wp_mono' {P : Program} {o : Oper} {a : Act} {w : World} {K K' : Act → World → Prop} {Q Q' : Exit → Act → World → Prop} (h : ∀ a w, K a w → K' a w) (hq : ∀ e a w, Q e a w → Q' e a w)
    (hh : o.wp P a w K Q) : o.wp P a w K' Q' := by
  unfold Oper.wp at *
  generalize (execOp a.eval o).run P w = r at *
  cases r with
  | ok n w' =>
    cases n <;> simp only [Oper.upon] at hh ⊢ <;>
      first
        | exact h _ _ hh
        | exact Calls.mono hh (fun e w'' he => by
            cases e with
            | returned v => exact h _ _ he
            | panicked ch => exact hq _ _ _ he
            | outgrown => obtain ⟨a, w, hh⟩ := he; exact ⟨a, w, hq _ _ _ hh⟩)
        | exact Rows.mono hh (fun _ _ he => h _ _ he)
  | halt x w' =>
    cases x <;> simp only [Oper.upon] at hh ⊢
    exact hq _ _ _ hh
theorem wpList_mono {P : Program} {ops : Array Oper} {Q Q' : Exit → Act → World → Prop} (hq : ∀ e a w, Q e a w → Q' e a w) (l : List Oper) : ∀ (a : Act) (w : World), wpList P ops Q l a w → wpList P ops Q' l a w := by
  induction l with
  | nil => intro a w h; exact hq _ _ _ h
  | cons o l ih =>
    intro a w h
    unfold wpList at h ⊢
    split
    · rename_i hw
      rw [if_pos hw] at h
      rcases h with h | ⟨h1, a0, w0, h2⟩
      · exact .inl (Oper.wp_mono' (fun a w => ih a w) hq h)
      · exact .inr ⟨h1, a0, w0, hq _ _ _ h2⟩
    · rename_i hw
      rw [if_neg hw] at h
      exact ih _ _ h

section rules
variable {P : Program} {nt : Nat} {Q : Post} {fr : Fr} {σ : St}
theorem CJ.mono {c : Code} {Q' : Post} (h : CJ P nt c Q fr σ) (hq : ∀ e fr σ, Q e fr σ → Q' e fr σ) : CJ P nt c Q' fr σ :=
  fun k a hσ hk hz hf => Code.wp_mono (fun _ _ _ => conc_mono hq) (h k a hσ hk hz hf)
theorem cj_skip (h : Q .normal fr σ) : CJ P nt .skip Q fr σ := fun k a hσ hk hz hf => wp_skip ⟨rfl, rfl, k, .normal, fr, rfl, hk, .refl k, hf, trivial, hσ ▸ h⟩
theorem cj_ret (h : Q .ret fr σ) : CJ P nt .ret Q fr σ := fun k a hσ hk hz hf => wp_ret ⟨rfl, rfl, k, .ret, fr, rfl, hk, .refl k, hf, trivial, hσ ▸ h⟩
theorem cj_exit {id : Nat} (h : Q (.exit id) fr σ) : CJ P nt (.exit id) Q fr σ := fun k a hσ hk hz hf => wp_exit ⟨rfl, rfl, k, .exit id, fr, rfl, hk, .refl k, hf, rfl, hσ ▸ h⟩
def thn (Q : Post) (K : Fr → St → Prop) : Post
  | .normal, fr, σ => K fr σ
  | e, fr, σ => Q e fr σ
theorem cj_seq {x y : Code} (h : CJ P nt x (thn Q (CJ P nt y Q)) fr σ) : CJ P nt (.seq x y) Q fr σ := fun k a hσ hk hz hf => by
  refine wp_seq (Code.wp_mono (fun e a' w' hc => ?_) (h k a hσ hk hz hf))
  obtain ⟨h1, h2, k', e', fr', rfl, hok, hst, hfr, he, hq⟩ := hc
  have he0 := he
  cases e' <;> cases e <;> simp only [ExitOk] at he <;> simp only [thn] at hq
  case normal.normal => exact Code.wp_mono (fun _ _ _ => conc_step hst h1 h2) (hq k' a' rfl hok (h2.trans hz) hfr)
  all_goals exact ⟨h1, h2, k', _, fr', rfl, hok, hst, hfr, he0, hq⟩
def inb (id : Nat) (Q : Post) : Post
  | .exit i, fr, σ => (i = id → Q .normal fr σ) ∧ (i ≠ id → Q (.exit i) fr σ)
  | e, fr, σ => Q e fr σ
theorem cj_block {id : Nat} {c : Code} (h : CJ P nt c (inb id Q) fr σ) : CJ P nt (.block id c) Q fr σ := fun k a hσ hk hz hf => by
  refine wp_block (Code.wp_mono (fun e a' w' hc => ?_) (h k a hσ hk hz hf))
  obtain ⟨h1, h2, k', e', fr', rfl, hok, hst, hfr, he, hq⟩ := hc
  have he0 := he
  cases e' <;> cases e <;> simp only [ExitOk] at he <;> simp only [inb] at hq
  case exit.exit i j =>
    subst he
    simp only [Exit.inBlock]
    split
    · rename_i hi; exact ⟨h1, h2, k', .normal, fr', rfl, hok, hst, hfr, trivial, hq.1 hi⟩
    · rename_i hi; exact ⟨h1, h2, k', .exit i, fr', rfl, hok, hst, hfr, rfl, hq.2 hi⟩
  all_goals exact ⟨h1, h2, k', _, fr', rfl, hok, hst, hfr, he0, hq⟩
theorem cj_cond {c : Operand} {x y : Code} {b : Bool} (hc : ev fr c = some (.v (.bool b))) (ht : b = true → CJ P nt x Q fr σ) (hf : b = false → CJ P nt y Q fr σ) : CJ P nt (.cond c x y) Q fr σ := fun k a hσ hk hz hfr => by
  have hr := ev_ok hfr c _ hc
  have he : a.eval c = .bool b := by
    generalize a.eval c = u at hr
    cases hr
    rfl
  refine wp_cond_split he (fun h => ?_) (fun h => ?_)
  · exact ht h k a hσ hk hz hfr
  · exact hf h k a hσ hk hz hfr
/-- What is known may be forgotten. -/
theorem ObjOk.del {k : Cx} {σ' : St} (hle : σ'.le k.σ) (hl : ∀ b, ({ k with σ := σ' } : Cx).live b → k.live b) : Step k { k with σ := σ' } :=
  ⟨Nat.le_refl _, fun _ _ => rfl, rfl, rfl, rfl, rfl, Nat.le_refl _, fun b _ h => ⟨rfl, fun h' => h (hl b h')⟩, fun _ cs _ f h => ⟨cs, f, h, rfl⟩⟩
theorem ObjOk.step {k k' : Cx} (hs : Step k k') {id : Nat} (hi : id < k.top) (hw : ∀ b, k.ρ id = some b → k'.w.heap[b]? = k.w.heap[b]?) {o : AObj} (h : ObjOk k id o) : ObjOk k' id o := by
  cases o with
  | row sz elem els =>
    rcases h with ⟨h1, h2⟩ | ⟨b, cs, h1, h2, h3, h4, h5⟩
    · exact .inl ⟨(hs.rho id hi).trans h1, h2⟩
    · refine .inr ⟨b, cs, (hs.rho id hi).trans h1, (hw b h1).trans h2, h3, h4, fun i j e a he ha => ?_⟩
      obtain ⟨u, hu, hu1, hr⟩ := h5 i j e a he ha
      exact ⟨u, hu, hu1, hr.step hs⟩
  | siter s pos =>
    obtain ⟨b, h1, h2⟩ := h
    exact ⟨b, (hs.rho id hi).trans h1, (hw b h1).trans h2⟩
  | map es =>
    obtain ⟨b, ms, clock, h1, h2, h3, h4⟩ := h
    exact ⟨b, ms, clock, (hs.rho id hi).trans h1, (hw b h1).trans h2, h3, fun i e m he hm => ⟨(h4 i e m he hm).1, (h4 i e m he hm).2.step hs⟩⟩
theorem Ok.forget {k : Cx} (hk : Ok k) {σ' : St} (hle : σ'.le k.σ) : Ok { k with σ := σ' } ∧ Step k { k with σ := σ' } := by
  have hne : ∀ id, σ' id ≠ none → k.σ id ≠ none := fun id h => by
    cases ho : σ' id with
    | none => exact absurd ho h
    | some o => rw [hle id o ho]; simp
  have hst : Step k { k with σ := σ' } := ObjOk.del hle fun b ⟨id, h1, h2⟩ => ⟨id, hne id h1, h2⟩
  refine ⟨⟨fun id h => hk.dom id (hne id h), fun id id' b h h' => hk.inj id id' b (hne id h) (hne id' h'), fun id b h => hk.bas id b (hne id h), hk.hb, fun id o ho => ?_, hk.ground hst⟩, hst⟩
  exact (hk.obj id o (hle id o ho)).step hst (hk.dom id (by rw [hle id o ho]; simp)) (fun _ _ => rfl)
theorem cj_forget {c : Code} {fr' : Fr} {σ' : St} (hf : ∀ t a, lk fr' t = some a → lk fr t = some a) (hle : σ'.le σ) (h : CJ P nt c Q fr' σ') : CJ P nt c Q fr σ := fun k a hσ hk hz hfr => by
  subst hσ
  obtain ⟨hok, hst⟩ := hk.forget hle
  refine Code.wp_mono (fun _ _ _ => conc_step hst rfl rfl) (h { k with σ := σ' } a rfl hok hz (fun t av ht => ?_))
  obtain ⟨u, hu, hr⟩ := hfr t av (hf t av ht)
  exact ⟨u, hu, hr.step hst⟩
/-- A LOOP: a state of one's own choice (s), what it says of frame and store, a measure. -/
theorem cj_loop {α : Type} {c : Code} (I : α → Fr → St → Prop) (m : α → Nat) (s0 : α) (h0 : I s0 fr σ)
    (hr : ∀ s fr σ, I s fr σ → CJ P nt c (thn Q (fun fr' σ' => ∃ s', I s' fr' σ' ∧ m s' < m s)) fr σ) : CJ P nt (.loop c) Q fr σ := fun k a hσ hk hz hf => by
  refine wp_loop_ghost (fun n a' w' => a'.defers = a.defers ∧ a'.tmps.size = a.tmps.size ∧ ∃ k' fr' s, k'.w = w' ∧ Ok k' ∧ Step k k' ∧ FrOk k' fr' a'.tmps ∧ I s fr' k'.σ ∧ m s = n) (m s0) ⟨rfl, rfl, k, fr, s0, rfl, hk, .refl k, hf, hσ ▸ h0, rfl⟩ ?_
  rintro n a' w' ⟨h1, h2, k', fr', s, rfl, hok, hst, hfr, hI, rfl⟩
  refine Code.wp_mono (fun e a'' w'' hc => ?_) (hr s fr' k'.σ hI k' a' rfl hok (h2.trans hz) hfr)
  obtain ⟨g1, g2, k'', e', fr'', rfl, hok', hst', hfr', he, hq⟩ := hc
  have he0 := he
  cases e' <;> cases e <;> simp only [ExitOk] at he <;> simp only [thn] at hq
  case normal.normal =>
    obtain ⟨s', hI', hlt⟩ := hq
    exact ⟨m s', hlt, g1.trans h1, g2.trans h2, k'', fr'', s', rfl, hok', hst.trans hst', hfr', hI', rfl⟩
  all_goals exact ⟨g1.trans h1, g2.trans h2, k'', _, fr'', rfl, hok', hst.trans hst', hfr', he0, hq⟩
end rules
end Go.Proofs.YtledbkkaaomjpabDoor.Ab
