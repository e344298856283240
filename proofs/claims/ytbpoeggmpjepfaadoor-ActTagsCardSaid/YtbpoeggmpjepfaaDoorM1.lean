/- The texts Gr, Ab1, Ab2, Ab3, Ab4, Ab5, Ab6, Ab7, Ab8, Ab9, one behind the other. -/
import Derived.Below
import Derived.Lib.DecodeN
import Derived.Tactics
import Derived.KernelRfl
import Derived.Laws.AppendOwn
import Derived.Laws.OwnMore
import Derived.WideLaws
import Derived.Deep.LoopGhost
import Derived.Deep.MidRow
import Derived.Laws.Slices
import Derived.Laws.BytesArg
import Derived.Lib.ConvBytes
import Derived.Laws.MakeOwn
import Derived.Laws.RangeString
import Derived.Laws.StructEq
/- What stands in the blocks that were there before the call: the tables of unicode/utf8. -/
set_option linter.unusedVariables false
set_option maxRecDepth 20000
namespace Go.Proofs.YtbpoeggmpjepfaaDoor.Ab
open Go
/-- The tables of unicode/utf8, first (block 0) and acceptRanges (block 1), in the words of the library's text. -/
def Ground (base : Nat) (w : World) : Prop := ((∀ c, c < 256 → w.cell? ⟨0, c, none⟩ = some (.int .u8 (Lib.firstT c))) ∧ (∀ i, i < 16 → w.cell? ⟨1, 2 * i, none⟩ = some (.int .u8 (Lib.accLo i)) ∧ w.cell? ⟨1, 2 * i + 1, none⟩ = some (.int .u8 (Lib.accHi i)))) ∧ 1 < base
theorem Ground.keep {base : Nat} {w w' : World} (h : Ground base w) (hb : ∀ b, b < base → w'.heap[b]? = w.heap[b]?) : Ground base w' := by
  obtain ⟨⟨h1, h2⟩, h3⟩ := h
  have e : ∀ (g o : Nat), g < base → w'.cell? ⟨g, o, none⟩ = w.cell? ⟨g, o, none⟩ := fun g o hg => World.cell?_of_block (hb g hg)
  exact ⟨⟨fun c hc => (e 0 c (by omega)).trans (h1 c hc), fun i hi => ⟨(e 1 _ h3).trans (h2 i hi).1, (e 1 _ h3).trans (h2 i hi).2⟩⟩, h3⟩
end Go.Proofs.YtbpoeggmpjepfaaDoor.Ab

/- Abstract values over the model's memory: what a value stands for (Rep), what a step may turn (Step), and the rules of control. -/
set_option linter.unusedVariables false
set_option linter.unusedSimpArgs false
set_option maxRecDepth 20000
namespace Go.Proofs.YtbpoeggmpjepfaaDoor.Ab
open Go

/-- Abstract values. sl: a slice that nobody writes any more; osl: a slice over a row of our own; ptr: an address in a row of our own; fp: an address in memory that nobody writes; mb: what is there only if c, else nothing. -/
inductive AV where
  | v (x : Value)
  | agg (cs : List AV)
  | tup (cs : List AV)
  | sl (nl : Option Bool) (full : Bool) (sz : Nat) (els : List (List AV))
  | fp (cs : List AV)
  | ptr (id sz i j : Nat)
  | osl (id sz off len : Nat)
  | fn (f : FuncId) (caps : List AV)
  | bf (f : FuncId) (pre : List AV)
  | ifc (t : TypeId) (x : AV)
  | mp (id : Nat)
  | it (id : Nat)
  | mb (c : Bool) (a : AV)

inductive AObj where
  | row (sz : Nat) (elem : TypeId) (els : List (List AV))
  | siter (s : ByteArray) (pos : Nat)
  | map (es : List (Value × AV))

abbrev St := Nat → Option AObj
def St.set (σ : St) (id : Nat) (o : AObj) : St := fun x => if x = id then some o else σ x
def St.del (σ : St) (id : Nat) : St := fun x => if x = id then none else σ x
theorem St.set_same (σ : St) (id : Nat) (o : AObj) : σ.set id o id = some o := by simp [St.set]
theorem St.set_ne (σ : St) (id : Nat) (o : AObj) {x : Nat} (h : x ≠ id) : σ.set id o x = σ x := by simp [St.set, h]
theorem St.set_ne' (σ : St) (id : Nat) (o : AObj) {x : Nat} (h : id ≠ x) : σ.set id o x = σ x := by simp [St.set, Ne.symm h]
theorem St.set_set (σ : St) (id : Nat) (o o' : AObj) : (σ.set id o).set id o' = σ.set id o' := by
  funext x; by_cases h : x = id <;> simp [St.set, h]
/-- What the greater one knows beside is forgotten. -/
def St.le (σ σ' : St) : Prop := ∀ id o, σ id = some o → σ' id = some o
theorem St.le_refl (σ : St) : σ.le σ := fun _ _ h => h
theorem St.le_trans {a b c : St} (h : a.le b) (k : b.le c) : a.le c := fun _ _ e => k _ _ (h _ _ e)
theorem St.le_set {σ : St} {id : Nat} (o : AObj) (h : σ id = none) : σ.le (σ.set id o) := fun x o' e => by
  have : x ≠ id := fun he => by rw [he, h] at e; cases e
  rw [St.set_ne _ _ _ this]; exact e
theorem St.del_le (σ : St) (id : Nat) : (σ.del id).le σ := fun x o e => by
  by_cases h : x = id <;> simp [St.del, h] at e ⊢
  exact e

structure Cx where
  ρ : Nat → Option Nat
  top : Nat
  σ : St
  base : Nat
  w : World

def Cx.live (k : Cx) (b : Nat) : Prop := ∃ id, k.σ id ≠ none ∧ k.ρ id = some b

inductive Rep (k : Cx) : AV → Value → Prop
  | v {x : Value} (h : x.oneCell' = true) : Rep k (.v x) x
  | agg {cs : List AV} {vs : Array Value} (hl : vs.size = cs.length) (h1 : ∀ (j : Nat) u, vs[j]? = some u → u.oneCell' = true) (h : ∀ (j : Nat) a u, cs[j]? = some a → vs[j]? = some u → Rep k a u) : Rep k (.agg cs) (.agg vs)
  | tup {cs : List AV} {vs : Array Value} (hl : vs.size = cs.length) (h : ∀ (j : Nat) a u, cs[j]? = some a → vs[j]? = some u → Rep k a u) : Rep k (.tup cs) (.tuple vs)
  | slnil {nl : Option Bool} {full : Bool} {sz : Nat} (hn : nl ≠ some false) : Rep k (.sl nl full sz []) (.slice none 0 0)
  | sle {nl : Option Bool} {full : Bool} {sz : Nat} {a : Addr} (hn : nl ≠ some true) : Rep k (.sl nl full sz []) (.slice (some a) 0 0)
  | sl {nl : Option Bool} {full : Bool} {sz : Nat} {els : List (List AV)} {b o cap : Nat} {f : Nat → Nat → Value} (hn : nl ≠ some true) (hc : els.length ≤ cap) (hm : els.length ≤ maxLen) (hf : full = true → cap = els.length)
      (hsz : ∀ (i : Nat) e, els[i]? = some e → e.length = sz)
      (hfr : els ≠ [] → b < k.w.heap.size ∧ ¬ k.live b)
      (hw : ∀ (i j : Nat) e a, els[i]? = some e → e[j]? = some a → k.w.cell? ⟨b, o + (i * sz + j), none⟩ = some (f i j) ∧ (f i j).oneCell' = true)
      (h : ∀ (i j : Nat) e a, els[i]? = some e → e[j]? = some a → Rep k a (f i j)) : Rep k (.sl nl full sz els) (.slice (some ⟨b, o, none⟩) els.length cap)
  | fp {cs : List AV} {b o : Nat} {f : Nat → Value}
      (hfr : b < k.w.heap.size ∧ ¬ k.live b)
      (hw : ∀ (j : Nat) a, cs[j]? = some a → k.w.cell? ⟨b, o + j, none⟩ = some (f j) ∧ (f j).oneCell' = true)
      (h : ∀ (j : Nat) a, cs[j]? = some a → Rep k a (f j)) : Rep k (.fp cs) (.pointer (some ⟨b, o, none⟩))
  | ptr {id sz i j b : Nat} (ht : id < k.top) (hb : k.ρ id = some b) : Rep k (.ptr id sz i j) (.pointer (some ⟨b, i * sz + j, none⟩))
  | oslnil {id sz : Nat} (ht : id < k.top) (hb : k.ρ id = none) : Rep k (.osl id sz 0 0) (.slice none 0 0)
  | osl {id sz off len b cap o : Nat} (ht : id < k.top) (hb : k.ρ id = some b) (ho : 0 < cap → o = off * sz) (hl : len ≤ cap) (hm : len ≤ maxLen)
      (hs : ∃ (cs : Array Value) (t : TypeId) (f : Nat × Nat), k.w.heap[b]? = some (.cells cs t f) ∧ (off + cap) * sz ≤ cs.size) : Rep k (.osl id sz off len) (.slice (some ⟨b, o, none⟩) len cap)
  | fn {f : FuncId} {cs : List AV} {vs : Array Value} (hl : vs.size = cs.length) (h : ∀ (j : Nat) a u, cs[j]? = some a → vs[j]? = some u → Rep k a u) : Rep k (.fn f cs) (.func (.func f) #[] vs)
  | bf {f : FuncId} {cs : List AV} {vs : Array Value} (hl : vs.size = cs.length) (h : ∀ (j : Nat) a u, cs[j]? = some a → vs[j]? = some u → Rep k a u) : Rep k (.bf f cs) (.func (.func f) vs #[])
  | ifc {t : TypeId} {x : AV} {u : Value} (h : Rep k x u) : Rep k (.ifc t x) (.iface t u)
  | mp {id b : Nat} (ht : id < k.top) (hb : k.ρ id = some b) : Rep k (.mp id) (.map (some b))
  | it {id b : Nat} (ht : id < k.top) (hb : k.ρ id = some b) : Rep k (.it id) (.pointer (some ⟨b, 0, none⟩))
  | mb {c : Bool} {a : AV} {u : Value} (h0 : c = false → u = undef) (h : c = true → Rep k a u) : Rep k (.mb c a) u

/-- What an object of our own is in memory. -/
def ObjOk (k : Cx) (id : Nat) : AObj → Prop
  | .row sz elem els => (k.ρ id = none ∧ els = []) ∨ ∃ b cs, k.ρ id = some b ∧ k.w.heap[b]? = some (.cells cs elem (0, 0)) ∧ (∀ (i : Nat) e, els[i]? = some e → e.length = sz) ∧ els.length * sz ≤ cs.size ∧
      ∀ (i j : Nat) e a, els[i]? = some e → e[j]? = some a → ∃ u, cs[i * sz + j]? = some u ∧ u.oneCell' = true ∧ Rep k a u
  | .siter s pos => ∃ b, k.ρ id = some b ∧ k.w.heap[b]? = some (.stringIter s pos)
  | .map es => ∃ b ms clock, k.ρ id = some b ∧ k.w.heap[b]? = some (.map ms clock) ∧ ms.size = es.length ∧
      ∀ (i : Nat) e m, es[i]? = some e → ms[i]? = some m → m.key = e.1 ∧ Rep k e.2 m.val

structure Ok (k : Cx) : Prop where
  dom : ∀ id, k.σ id ≠ none → id < k.top
  inj : ∀ id id' b, k.σ id ≠ none → k.σ id' ≠ none → k.ρ id = some b → k.ρ id' = some b → id = id'
  bas : ∀ id b, k.σ id ≠ none → k.ρ id = some b → k.base ≤ b ∧ b < k.w.heap.size
  hb : k.base ≤ k.w.heap.size
  obj : ∀ id o, k.σ id = some o → ObjOk k id o
  gr : Ground k.base k.w

structure Step (k k' : Cx) : Prop where
  top : k.top ≤ k'.top
  rho : ∀ id, id < k.top → k'.ρ id = k.ρ id
  base : k'.base = k.base
  os : k'.w.os = k.w.os
  tape : k'.w.tape = k.w.tape
  output : k'.w.output = k.w.output
  size : k.w.heap.size ≤ k'.w.heap.size
  frz : ∀ b, b < k.w.heap.size → ¬ k.live b → k'.w.heap[b]? = k.w.heap[b]? ∧ ¬ k'.live b
  shp : ∀ (b : Nat) (cs : Array Value) (t : TypeId) (f : Nat × Nat), k.w.heap[b]? = some (.cells cs t f) → ∃ (cs' : Array Value) (f' : Nat × Nat), k'.w.heap[b]? = some (.cells cs' t f') ∧ cs'.size = cs.size

theorem Step.refl (k : Cx) : Step k k := ⟨Nat.le_refl _, fun _ _ => rfl, rfl, rfl, rfl, rfl, Nat.le_refl _, fun _ _ h => ⟨rfl, h⟩, fun _ cs _ f h => ⟨cs, f, h, rfl⟩⟩
theorem Step.trans {a b c : Cx} (h : Step a b) (k : Step b c) : Step a c where
  top := Nat.le_trans h.top k.top
  rho id hi := (k.rho id (Nat.lt_of_lt_of_le hi h.top)).trans (h.rho id hi)
  base := k.base.trans h.base
  os := k.os.trans h.os
  tape := k.tape.trans h.tape
  output := k.output.trans h.output
  size := Nat.le_trans h.size k.size
  frz x hx hl := by
    obtain ⟨h1, h2⟩ := h.frz x hx hl
    obtain ⟨h3, h4⟩ := k.frz x (Nat.lt_of_lt_of_le hx h.size) h2
    exact ⟨h3.trans h1, h4⟩
  shp x cs t f hx := by
    obtain ⟨cs1, f1, h1, e1⟩ := h.shp x cs t f hx
    obtain ⟨cs2, f2, h2, e2⟩ := k.shp x cs1 t f1 h1
    exact ⟨cs2, f2, h2, e2.trans e1⟩

theorem Ok.ground {k k' : Cx} (hk : Ok k) (hs : Step k k') : Ground k'.base k'.w := by
  rw [hs.base]
  refine hk.gr.keep fun b hb => (hs.frz b (Nat.lt_of_lt_of_le hb hk.hb) ?_).1
  rintro ⟨id, h1, h2⟩
  have := (hk.bas id b h1 h2).1
  omega
theorem Cx.cell_frz {k k' : Cx} (h : Step k k') {b o : Nat} (hb : b < k.w.heap.size ∧ ¬ k.live b) : k'.w.cell? ⟨b, o, none⟩ = k.w.cell? ⟨b, o, none⟩ :=
  World.cell?_of_block (h.frz b hb.1 hb.2).1

theorem ne_nil_of_get {α : Type} {l : List α} {i : Nat} {e : α} (h : l[i]? = some e) : l ≠ [] := by
  rintro rfl; simp at h

theorem Rep.step {k k' : Cx} (hs : Step k k') {a : AV} {u : Value} (h : Rep k a u) : Rep k' a u := by
  induction h with
  | v h => exact .v h
  | agg hl h1 h ih => exact .agg hl h1 ih
  | tup hl h ih => exact .tup hl ih
  | slnil hn => exact .slnil hn
  | sle hn => exact .sle hn
  | @sl nl full sz els b o cap f hn hc hm hf hsz hfr hw h ih =>
    refine .sl (f := f) hn hc hm hf hsz (fun hne => ?_) (fun i j e a h1 h2 => ?_) ih
    · obtain ⟨h1, h2⟩ := hfr hne
      exact ⟨Nat.lt_of_lt_of_le h1 hs.size, (hs.frz b h1 h2).2⟩
    · have hb := hfr (ne_nil_of_get h1)
      rw [Cx.cell_frz hs hb]
      exact hw i j e a h1 h2
  | @fp cs b o f hfr hw h ih =>
    refine .fp (f := f) ⟨Nat.lt_of_lt_of_le hfr.1 hs.size, (hs.frz b hfr.1 hfr.2).2⟩ (fun j a h1 => ?_) ih
    rw [Cx.cell_frz hs hfr]
    exact hw j a h1
  | ptr ht hb => exact .ptr (Nat.lt_of_lt_of_le ht hs.top) ((hs.rho _ ht).trans hb)
  | oslnil ht hb => exact .oslnil (Nat.lt_of_lt_of_le ht hs.top) ((hs.rho _ ht).trans hb)
  | osl ht hb ho hl hm hsz =>
    refine .osl (Nat.lt_of_lt_of_le ht hs.top) ((hs.rho _ ht).trans hb) ho hl hm ?_
    obtain ⟨cs, t, f, h1, h2⟩ := hsz
    obtain ⟨cs', f', h3, h4⟩ := hs.shp _ _ _ _ h1
    exact ⟨cs', t, f', h3, by omega⟩
  | fn hl h ih => exact .fn hl ih
  | bf hl h ih => exact .bf hl ih
  | ifc h ih => exact .ifc ih
  | mp ht hb => exact .mp (Nat.lt_of_lt_of_le ht hs.top) ((hs.rho _ ht).trans hb)
  | it ht hb => exact .it (Nat.lt_of_lt_of_le ht hs.top) ((hs.rho _ ht).trans hb)
  | mb h0 h ih => exact .mb h0 ih

/-! ### Frames -/
abbrev Fr := List (Nat × AV)
def lk : Fr → Nat → Option AV
  | [], _ => none
  | (t, a) :: r, x => match Nat.decEq x t with
    | isTrue _ => some a
    | isFalse _ => lk r x
theorem lk_cons (t : Nat) (a : AV) (r : Fr) (x : Nat) : lk ((t, a) :: r) x = if x = t then some a else lk r x := by
  show (match Nat.decEq x t with
    | isTrue _ => some a
    | isFalse _ => lk r x) = _
  cases h : Nat.decEq x t with
  | isTrue h' => simp [h']
  | isFalse h' => simp [h']
def FrOk (k : Cx) (fr : Fr) (tmps : Array Value) : Prop := ∀ t a, lk fr t = some a → ∃ u, tmps[t]? = some u ∧ Rep k a u
abbrev ofLeaf (x : Value) : AV :=
  match x with
  | .slice none n c => if n == 0 && c == 0 then .sl (some true) true 1 [] else .v x
  | .func (.func f) a b => if a.isEmpty && b.isEmpty then .fn f [] else .v x
  | _ => .v x
def ofV : Value → AV
  | .agg cs => .agg (cs.toList.map ofLeaf)
  | x => ofLeaf x
def ev (fr : Fr) : Operand → Option AV
  | .tmp t => lk fr t
  | .const (.agg cs) => if cs.toList.all (·.oneCell') then some (.agg (cs.toList.map ofLeaf)) else none
  | .const (.tuple _) => none
  | .const x => some (ofLeaf x)
  | .global _ => none
  | .func f => some (.fn f [])
def RepsOn (k : Cx) (E : Operand → Option AV) (e : Operand → Value) (l : Array Operand) : Prop := ∀ x ∈ l, ∀ a, E x = some a → Rep k a (e x)

theorem rep_ofLeaf (k : Cx) (x : Value) (h : x.oneCell' = true) : Rep k (ofLeaf x) x := by
  unfold ofLeaf
  split
  · rename_i n c
    split
    · rename_i hc
      simp only [Bool.and_eq_true, beq_iff_eq] at hc
      obtain ⟨rfl, rfl⟩ := hc
      exact .slnil (by simp)
    · exact .v h
  · rename_i f a b
    split
    · rename_i hc
      simp only [Bool.and_eq_true, Array.isEmpty_iff] at hc
      obtain ⟨rfl, rfl⟩ := hc
      exact .fn (by simp) (fun j a u h _ => by simp at h)
    · exact .v h
  · exact .v h
theorem ev_ok {k : Cx} {fr : Fr} {a : Act} (h : FrOk k fr a.tmps) (x : Operand) (av : AV) (he : ev fr x = some av) : Rep k av (a.eval x) := by
  cases x with
  | tmp t =>
    obtain ⟨u, hu, hr⟩ := h t av he
    have : a.eval (.tmp t) = u := by simp [Act.eval, hu]
    rw [this]; exact hr
  | const v =>
    show Rep k av v
    cases v <;> simp only [ev] at he
    case agg cs =>
      split at he
      · rename_i hall
        cases he
        have hall' : ∀ (j : Nat) u, cs[j]? = some u → u.oneCell' = true := fun j u hu => by
          rw [List.all_eq_true] at hall
          obtain ⟨hj, rfl⟩ := Array.getElem?_eq_some_iff.1 hu
          exact hall _ (by simp)
        refine .agg (by simp) hall' (fun j a u ha hu => ?_)
        have : a = ofLeaf u := by
          simp only [List.getElem?_map, Array.getElem?_toList, hu, Option.map_some, Option.some.injEq] at ha
          exact ha.symm
        rw [this]
        exact rep_ofLeaf k u (hall' j u hu)
      · cases he
    case tuple vs => cases he
    all_goals (cases he; exact rep_ofLeaf k _ rfl)
  | global g => cases he
  | func f => cases he; exact .fn (by simp) (fun j a u h _ => by simp at h)
def put (fr : Fr) (dst : Option Tmp) (r : Option AV) : Fr :=
  match dst, r with
  | some t, some a => (t, a) :: fr
  | some t, none => (t, .tup []) :: fr
  | none, _ => fr
def fits (nt : Nat) (dst : Option Tmp) : Bool := match dst with | some t => decide (t < nt) | none => true
theorem FrOk.put {k : Cx} {fr : Fr} {a : Act} (h : FrOk k fr a.tmps) {dst : Option Tmp} (hd : fits a.tmps.size dst = true) {av : AV} {u : Value} (hr : Rep k av u) : FrOk k (put fr dst (some av)) (a.put dst u).tmps := by
  cases dst with
  | none => exact h
  | some t =>
    simp only [fits, decide_eq_true_eq] at hd
    intro x b hx
    simp only [Ab.put] at hx
    rw [lk_cons] at hx
    show ∃ v, (a.tmps.setIfInBounds t u)[x]? = some v ∧ _
    by_cases hxt : x = t
    · subst hxt
      rw [if_pos rfl] at hx
      cases hx
      exact ⟨u, by simp [hd], hr⟩
    · rw [if_neg hxt] at hx
      rw [Array.getElem?_setIfInBounds_ne (fun e => hxt e.symm)]
      exact h x b hx
theorem FrOk.put_undef {k : Cx} {fr : Fr} {a : Act} (h : FrOk k fr a.tmps) {dst : Option Tmp} (hd : fits a.tmps.size dst = true) : FrOk k (Ab.put fr dst none) (a.put dst undef).tmps := by
  cases dst with
  | none => exact h
  | some t => exact FrOk.put h hd (.tup (by simp [undef]) (fun j a u h _ => by simp at h))
theorem FrOk.step {k k' : Cx} (hs : Step k k') {fr : Fr} {tmps : Array Value} (h : FrOk k fr tmps) : FrOk k' fr tmps := fun t a ht => by
  obtain ⟨u, hu, hr⟩ := h t a ht
  exact ⟨u, hu, hr.step hs⟩
theorem Act.size_put (a : Act) (dst : Option Tmp) (u : Value) : (a.put dst u).tmps.size = a.tmps.size := by
  cases dst <;> simp [Act.put]
theorem Act.defers_put (a : Act) (dst : Option Tmp) (u : Value) : (a.put dst u).defers = a.defers := by
  cases dst <;> rfl

/-! ### Judgements -/
inductive AExit where
  | normal
  | exit (id : Nat)
  | goto (l : Nat)
  | ret
  | panic (x : AV)
def ExitOk (k : Cx) : AExit → Exit → Prop
  | .normal, .normal => True
  | .exit i, .exit j => i = j
  | .goto i, .goto j => i = j
  | .ret, .ret => True
  | .panic x, .panic ch => ∃ u, ch = [{ v := u, recovered := false }] ∧ Rep k x u
  | _, _ => False
abbrev Post := AExit → Fr → St → Prop
/-- The machine's own post, from where (k, a) stands. -/
def conc (k : Cx) (a : Act) (Q : Post) : Exit → Act → World → Prop := fun e a' w' =>
  a'.defers = a.defers ∧ a'.tmps.size = a.tmps.size ∧ ∃ k' e' fr', k'.w = w' ∧ Ok k' ∧ Step k k' ∧ FrOk k' fr' a'.tmps ∧ ExitOk k' e' e ∧ Q e' fr' k'.σ
theorem conc_step {k k1 : Cx} {a a1 : Act} {Q : Post} (hs : Step k k1) (hd : a1.defers = a.defers) (hz : a1.tmps.size = a.tmps.size) {e : Exit} {a' : Act} {w' : World} (h : conc k1 a1 Q e a' w') : conc k a Q e a' w' := by
  obtain ⟨h1, h2, k', e', fr', hw, hok, hst, r⟩ := h
  exact ⟨h1.trans hd, h2.trans hz, k', e', fr', hw, hok, hs.trans hst, r⟩
theorem conc_mono {k : Cx} {a : Act} {Q Q' : Post} (h : ∀ e fr σ, Q e fr σ → Q' e fr σ) {e : Exit} {a' : Act} {w' : World} (hc : conc k a Q e a' w') : conc k a Q' e a' w' := by
  obtain ⟨h1, h2, k', e', fr', hw, hok, hst, hf, he, hq⟩ := hc
  exact ⟨h1, h2, k', e', fr', hw, hok, hst, hf, he, h _ _ _ hq⟩

def CJ (P : Program) (nt : Nat) (c : Code) (Q : Post) (fr : Fr) (σ : St) : Prop :=
  ∀ (k : Cx) (a : Act), k.σ = σ → Ok k → a.tmps.size = nt → FrOk k fr a.tmps → c.wp P (conc k a Q) a k.w
def LJ (P : Program) (nt : Nat) (ops : Array Oper) (Q : Post) (l : List Oper) (fr : Fr) (σ : St) : Prop :=
  ∀ (k : Cx) (a : Act), k.σ = σ → Ok k → a.tmps.size = nt → FrOk k fr a.tmps → wpList P ops (conc k a Q) l a k.w

theorem Oper.wp_mono' {P : Program} {o : Oper} {a : Act} {w : World} {K K' : Act → World → Prop} {Q Q' : Exit → Act → World → Prop} (h : ∀ a w, K a w → K' a w) (hq : ∀ e a w, Q e a w → Q' e a w)
    (hh : o.wp P a w K Q) : o.wp P a w K' Q' := by
  unfold Oper.wp at *
  generalize (execOp a.eval o).run P w = r at *
  cases r with
  | ok n w' =>
    cases n <;> simp only [Oper.upon] at hh ⊢ <;>
      first
        | exact h _ _ hh
        | exact Calls.mono hh (fun e w'' he => by
            cases e with
            | returned v => exact h _ _ he
            | panicked ch => exact hq _ _ _ he
            | outgrown => obtain ⟨a, w, hh⟩ := he; exact ⟨a, w, hq _ _ _ hh⟩)
        | exact Rows.mono hh (fun _ _ he => h _ _ he)
  | halt x w' =>
    cases x <;> simp only [Oper.upon] at hh ⊢
    exact hq _ _ _ hh
theorem wpList_mono {P : Program} {ops : Array Oper} {Q Q' : Exit → Act → World → Prop} (hq : ∀ e a w, Q e a w → Q' e a w) (l : List Oper) : ∀ (a : Act) (w : World), wpList P ops Q l a w → wpList P ops Q' l a w := by
  induction l with
  | nil => intro a w h; exact hq _ _ _ h
  | cons o l ih =>
    intro a w h
    unfold wpList at h ⊢
    split
    · rename_i hw
      rw [if_pos hw] at h
      rcases h with h | ⟨h1, a0, w0, h2⟩
      · exact .inl (Oper.wp_mono' (fun a w => ih a w) hq h)
      · exact .inr ⟨h1, a0, w0, hq _ _ _ h2⟩
    · rename_i hw
      rw [if_neg hw] at h
      exact ih _ _ h

section rules
variable {P : Program} {nt : Nat} {Q : Post} {fr : Fr} {σ : St}
theorem CJ.mono {c : Code} {Q' : Post} (h : CJ P nt c Q fr σ) (hq : ∀ e fr σ, Q e fr σ → Q' e fr σ) : CJ P nt c Q' fr σ :=
  fun k a hσ hk hz hf => Code.wp_mono (fun _ _ _ => conc_mono hq) (h k a hσ hk hz hf)
theorem cj_skip (h : Q .normal fr σ) : CJ P nt .skip Q fr σ := fun k a hσ hk hz hf => wp_skip ⟨rfl, rfl, k, .normal, fr, rfl, hk, .refl k, hf, trivial, hσ ▸ h⟩
theorem cj_ret (h : Q .ret fr σ) : CJ P nt .ret Q fr σ := fun k a hσ hk hz hf => wp_ret ⟨rfl, rfl, k, .ret, fr, rfl, hk, .refl k, hf, trivial, hσ ▸ h⟩
theorem cj_exit {id : Nat} (h : Q (.exit id) fr σ) : CJ P nt (.exit id) Q fr σ := fun k a hσ hk hz hf => wp_exit ⟨rfl, rfl, k, .exit id, fr, rfl, hk, .refl k, hf, rfl, hσ ▸ h⟩
def thn (Q : Post) (K : Fr → St → Prop) : Post
  | .normal, fr, σ => K fr σ
  | e, fr, σ => Q e fr σ
theorem cj_seq {x y : Code} (h : CJ P nt x (thn Q (CJ P nt y Q)) fr σ) : CJ P nt (.seq x y) Q fr σ := fun k a hσ hk hz hf => by
  refine wp_seq (Code.wp_mono (fun e a' w' hc => ?_) (h k a hσ hk hz hf))
  obtain ⟨h1, h2, k', e', fr', rfl, hok, hst, hfr, he, hq⟩ := hc
  have he0 := he
  cases e' <;> cases e <;> simp only [ExitOk] at he <;> simp only [thn] at hq
  case normal.normal => exact Code.wp_mono (fun _ _ _ => conc_step hst h1 h2) (hq k' a' rfl hok (h2.trans hz) hfr)
  all_goals exact ⟨h1, h2, k', _, fr', rfl, hok, hst, hfr, he0, hq⟩
def inb (id : Nat) (Q : Post) : Post
  | .exit i, fr, σ => (i = id → Q .normal fr σ) ∧ (i ≠ id → Q (.exit i) fr σ)
  | e, fr, σ => Q e fr σ
theorem cj_block {id : Nat} {c : Code} (h : CJ P nt c (inb id Q) fr σ) : CJ P nt (.block id c) Q fr σ := fun k a hσ hk hz hf => by
  refine wp_block (Code.wp_mono (fun e a' w' hc => ?_) (h k a hσ hk hz hf))
  obtain ⟨h1, h2, k', e', fr', rfl, hok, hst, hfr, he, hq⟩ := hc
  have he0 := he
  cases e' <;> cases e <;> simp only [ExitOk] at he <;> simp only [inb] at hq
  case exit.exit i j =>
    subst he
    simp only [Exit.inBlock]
    split
    · rename_i hi; exact ⟨h1, h2, k', .normal, fr', rfl, hok, hst, hfr, trivial, hq.1 hi⟩
    · rename_i hi; exact ⟨h1, h2, k', .exit i, fr', rfl, hok, hst, hfr, rfl, hq.2 hi⟩
  all_goals exact ⟨h1, h2, k', _, fr', rfl, hok, hst, hfr, he0, hq⟩
theorem cj_cond {c : Operand} {x y : Code} {b : Bool} (hc : ev fr c = some (.v (.bool b))) (ht : b = true → CJ P nt x Q fr σ) (hf : b = false → CJ P nt y Q fr σ) : CJ P nt (.cond c x y) Q fr σ := fun k a hσ hk hz hfr => by
  have hr := ev_ok hfr c _ hc
  have he : a.eval c = .bool b := by
    generalize a.eval c = u at hr
    cases hr
    rfl
  refine wp_cond_split he (fun h => ?_) (fun h => ?_)
  · exact ht h k a hσ hk hz hfr
  · exact hf h k a hσ hk hz hfr
/-- What is known may be forgotten. -/
theorem ObjOk.del {k : Cx} {σ' : St} (hle : σ'.le k.σ) (hl : ∀ b, ({ k with σ := σ' } : Cx).live b → k.live b) : Step k { k with σ := σ' } :=
  ⟨Nat.le_refl _, fun _ _ => rfl, rfl, rfl, rfl, rfl, Nat.le_refl _, fun b _ h => ⟨rfl, fun h' => h (hl b h')⟩, fun _ cs _ f h => ⟨cs, f, h, rfl⟩⟩
theorem ObjOk.step {k k' : Cx} (hs : Step k k') {id : Nat} (hi : id < k.top) (hw : ∀ b, k.ρ id = some b → k'.w.heap[b]? = k.w.heap[b]?) {o : AObj} (h : ObjOk k id o) : ObjOk k' id o := by
  cases o with
  | row sz elem els =>
    rcases h with ⟨h1, h2⟩ | ⟨b, cs, h1, h2, h3, h4, h5⟩
    · exact .inl ⟨(hs.rho id hi).trans h1, h2⟩
    · refine .inr ⟨b, cs, (hs.rho id hi).trans h1, (hw b h1).trans h2, h3, h4, fun i j e a he ha => ?_⟩
      obtain ⟨u, hu, hu1, hr⟩ := h5 i j e a he ha
      exact ⟨u, hu, hu1, hr.step hs⟩
  | siter s pos =>
    obtain ⟨b, h1, h2⟩ := h
    exact ⟨b, (hs.rho id hi).trans h1, (hw b h1).trans h2⟩
  | map es =>
    obtain ⟨b, ms, clock, h1, h2, h3, h4⟩ := h
    exact ⟨b, ms, clock, (hs.rho id hi).trans h1, (hw b h1).trans h2, h3, fun i e m he hm => ⟨(h4 i e m he hm).1, (h4 i e m he hm).2.step hs⟩⟩
theorem Ok.forget {k : Cx} (hk : Ok k) {σ' : St} (hle : σ'.le k.σ) : Ok { k with σ := σ' } ∧ Step k { k with σ := σ' } := by
  have hne : ∀ id, σ' id ≠ none → k.σ id ≠ none := fun id h => by
    cases ho : σ' id with
    | none => exact absurd ho h
    | some o => rw [hle id o ho]; simp
  have hst : Step k { k with σ := σ' } := ObjOk.del hle fun b ⟨id, h1, h2⟩ => ⟨id, hne id h1, h2⟩
  refine ⟨⟨fun id h => hk.dom id (hne id h), fun id id' b h h' => hk.inj id id' b (hne id h) (hne id' h'), fun id b h => hk.bas id b (hne id h), hk.hb, fun id o ho => ?_, hk.ground hst⟩, hst⟩
  exact (hk.obj id o (hle id o ho)).step hst (hk.dom id (by rw [hle id o ho]; simp)) (fun _ _ => rfl)
theorem cj_forget {c : Code} {fr' : Fr} {σ' : St} (hf : ∀ t a, lk fr' t = some a → lk fr t = some a) (hle : σ'.le σ) (h : CJ P nt c Q fr' σ') : CJ P nt c Q fr σ := fun k a hσ hk hz hfr => by
  subst hσ
  obtain ⟨hok, hst⟩ := hk.forget hle
  refine Code.wp_mono (fun _ _ _ => conc_step hst rfl rfl) (h { k with σ := σ' } a rfl hok hz (fun t av ht => ?_))
  obtain ⟨u, hu, hr⟩ := hfr t av (hf t av ht)
  exact ⟨u, hu, hr.step hst⟩
/-- A LOOP: a state of one's own choice (s), what it says of frame and store, a measure. -/
theorem cj_loop {α : Type} {c : Code} (I : α → Fr → St → Prop) (m : α → Nat) (s0 : α) (h0 : I s0 fr σ)
    (hr : ∀ s fr σ, I s fr σ → CJ P nt c (thn Q (fun fr' σ' => ∃ s', I s' fr' σ' ∧ m s' < m s)) fr σ) : CJ P nt (.loop c) Q fr σ := fun k a hσ hk hz hf => by
  refine wp_loop_ghost (fun n a' w' => a'.defers = a.defers ∧ a'.tmps.size = a.tmps.size ∧ ∃ k' fr' s, k'.w = w' ∧ Ok k' ∧ Step k k' ∧ FrOk k' fr' a'.tmps ∧ I s fr' k'.σ ∧ m s = n) (m s0) ⟨rfl, rfl, k, fr, s0, rfl, hk, .refl k, hf, hσ ▸ h0, rfl⟩ ?_
  rintro n a' w' ⟨h1, h2, k', fr', s, rfl, hok, hst, hfr, hI, rfl⟩
  refine Code.wp_mono (fun e a'' w'' hc => ?_) (hr s fr' k'.σ hI k' a' rfl hok (h2.trans hz) hfr)
  obtain ⟨g1, g2, k'', e', fr'', rfl, hok', hst', hfr', he, hq⟩ := hc
  have he0 := he
  cases e' <;> cases e <;> simp only [ExitOk] at he <;> simp only [thn] at hq
  case normal.normal =>
    obtain ⟨s', hI', hlt⟩ := hq
    exact ⟨m s', hlt, g1.trans h1, g2.trans h2, k'', fr'', s', rfl, hok', hst.trans hst', hfr', hI', rfl⟩
  all_goals exact ⟨g1.trans h1, g2.trans h2, k'', _, fr'', rfl, hok', hst.trans hst', hfr', he0, hq⟩
end rules
end Go.Proofs.YtbpoeggmpjepfaaDoor.Ab

/- Abstract values over the model's memory, 2: lists of operations, calls, functions. -/
set_option linter.unusedVariables false
set_option linter.unusedSimpArgs false
set_option maxRecDepth 20000
namespace Go.Proofs.YtbpoeggmpjepfaaDoor.Ab
open Go

/-! ### New blocks, draws -/
theorem Ok.live_lt {k : Cx} (hk : Ok k) {b : Nat} (h : k.live b) : b < k.w.heap.size := by
  obtain ⟨id, h1, h2⟩ := h
  exact (hk.bas id b h1 h2).2
/-- The world turns where nothing of ours lies. -/
theorem Ok.world {k : Cx} (hk : Ok k) (w' : World) (os : w'.os = k.w.os) (tape : w'.tape = k.w.tape) (output : w'.output = k.w.output) (size : k.w.heap.size ≤ w'.heap.size) (hb : ∀ b, b < k.w.heap.size → w'.heap[b]? = k.w.heap[b]?) :
    Ok { k with w := w' } ∧ Step k { k with w := w' } := by
  have hs : Step k { k with w := w' } := ⟨Nat.le_refl _, fun _ _ => rfl, rfl, os, tape, output, size, fun b h1 h2 => ⟨hb b h1, h2⟩, fun b cs t f h => ⟨cs, f, (hb b (Array.getElem?_eq_some_iff.1 h).1).trans h, rfl⟩⟩
  refine ⟨⟨hk.dom, hk.inj, fun id b h1 h2 => ⟨(hk.bas id b h1 h2).1, Nat.lt_of_lt_of_le (hk.bas id b h1 h2).2 size⟩, Nat.le_trans hk.hb size, fun id o ho => ?_, hk.ground hs⟩, hs⟩
  have hd : k.σ id ≠ none := by rw [show k.σ id = some o from ho]; simp
  exact (hk.obj id o ho).step hs (hk.dom id hd) fun b hb' => hb b (hk.bas id b hd hb').2
theorem Ok.alloc {k : Cx} (hk : Ok k) (o : Obj) : Ok { k with w := k.w.alloc o } ∧ Step k { k with w := k.w.alloc o } :=
  hk.world _ rfl rfl rfl (by simp) fun b h => heap_alloc_old _ _ _ h
theorem Ok.drew {k : Cx} (hk : Ok k) : Ok { k with w := k.w.drew } ∧ Step k { k with w := k.w.drew } :=
  hk.world _ rfl rfl rfl (Nat.le_refl _) fun b h => rfl
theorem Ok.new_frz {k : Cx} (hk : Ok k) (o : Obj) : k.w.heap.size < (k.w.alloc o).heap.size ∧ ¬ ({ k with w := k.w.alloc o } : Cx).live k.w.heap.size :=
  ⟨by simp, fun h => absurd (hk.live_lt (b := k.w.heap.size) h) (Nat.lt_irrefl _)⟩
/-- A new object of our own, in a new block. -/
def Cx.add (k : Cx) (b : Option Nat) (o : AObj) (w' : World) : Cx := { ρ := fun x => if x = k.top then b else k.ρ x, top := k.top + 1, σ := k.σ.set k.top o, base := k.base, w := w' }
theorem Ok.fresh {k : Cx} (hk : Ok k) : k.σ k.top = none := by
  cases h : k.σ k.top with
  | none => rfl
  | some o => exact absurd (hk.dom k.top (by rw [h]; simp)) (Nat.lt_irrefl _)
theorem Ok.add_step {k : Cx} (hk : Ok k) (ob : Obj) (o : AObj) : Step k (k.add (some k.w.heap.size) o (k.w.alloc ob)) := by
  refine ⟨Nat.le_succ _, fun id h => ?_, rfl, rfl, rfl, rfl, by simp [Cx.add], fun b h1 h2 => ⟨heap_alloc_old _ _ _ h1, ?_⟩, fun b cs t f h => ⟨cs, f, (heap_alloc_old _ _ _ (Array.getElem?_eq_some_iff.1 h).1).trans h, rfl⟩⟩
  · simp [Cx.add, Nat.ne_of_lt h]
  · rintro ⟨id, h3, h4⟩
    by_cases hid : id = k.top
    · subst hid
      simp [Cx.add] at h4
      omega
    · refine h2 ⟨id, ?_, ?_⟩
      · simpa [Cx.add, St.set, hid] using h3
      · simpa [Cx.add, hid] using h4
theorem Ok.add {k : Cx} (hk : Ok k) (ob : Obj) (o : AObj) (ho : ObjOk (k.add (some k.w.heap.size) o (k.w.alloc ob)) k.top o) : Ok (k.add (some k.w.heap.size) o (k.w.alloc ob)) := by
  have hs := hk.add_step ob o
  have key : ∀ id, id ≠ k.top → (k.add (some k.w.heap.size) o (k.w.alloc ob)).σ id = k.σ id := fun id h => by simp [Cx.add, St.set, h]
  have keyρ : ∀ id, id ≠ k.top → (k.add (some k.w.heap.size) o (k.w.alloc ob)).ρ id = k.ρ id := fun id h => by simp [Cx.add, h]
  have keyt : (k.add (some k.w.heap.size) o (k.w.alloc ob)).ρ k.top = some k.w.heap.size := by simp [Cx.add]
  refine ⟨fun id h => ?_, fun id id' b h1 h2 h3 h4 => ?_, fun id b h1 h2 => ?_, ?_, fun id o' h => ?_, hk.ground hs⟩
  · by_cases hid : id = k.top
    · subst hid; exact Nat.lt_succ_self _
    · rw [key id hid] at h
      exact Nat.lt_succ_of_lt (hk.dom id h)
  · by_cases hid : id = k.top <;> by_cases hid' : id' = k.top
    · omega
    · subst hid
      rw [keyt] at h3
      rw [key id' hid'] at h2
      rw [keyρ id' hid'] at h4
      cases h3
      exact absurd (hk.bas id' _ h2 h4).2 (Nat.lt_irrefl _)
    · subst hid'
      rw [keyt] at h4
      rw [key id hid] at h1
      rw [keyρ id hid] at h3
      cases h4
      exact absurd (hk.bas id _ h1 h3).2 (Nat.lt_irrefl _)
    · rw [key id hid] at h1
      rw [keyρ id hid] at h3
      rw [key id' hid'] at h2
      rw [keyρ id' hid'] at h4
      exact hk.inj id id' b h1 h2 h3 h4
  · by_cases hid : id = k.top
    · subst hid
      rw [keyt] at h2
      cases h2
      exact ⟨hk.hb, by simp [Cx.add]⟩
    · rw [key id hid] at h1
      rw [keyρ id hid] at h2
      obtain ⟨h5, h6⟩ := hk.bas id b h1 h2
      exact ⟨h5, by simp [Cx.add]; omega⟩
  · have := hk.hb
    simp [Cx.add]; omega
  · by_cases hid : id = k.top
    · subst hid
      have : o' = o := by
        have := h
        simp [Cx.add, St.set] at this
        exact this.symm
      subst this
      exact ho
    · rw [key id hid] at h
      have hd : k.σ id ≠ none := by rw [h]; simp
      exact (hk.obj id o' h).step hs (hk.dom id hd) fun b hb => heap_alloc_old _ _ _ (hk.bas id b hd hb).2

/-! ### One operation -/
def Gave (k' : Cx) (n : Next) : Option AV → Prop
  | some av => ∃ v, n = .value v ∧ Rep k' av v
  | none => n = .skip
def OpJ (P : Program) (o : Oper) (E : Operand → Option AV) (σ : St) (R : Option AV → St → Prop) : Prop :=
  ∀ (k : Cx) (e : Operand → Value), k.σ = σ → Ok k → RepsOn k E e o.op.operands → ∃ k' n r, (execOp e o).run P k.w = .ok n k'.w ∧ Ok k' ∧ Step k k' ∧ R r k'.σ ∧ Gave k' n r
theorem opj_quiet {P : Program} {o : Oper} {E : Operand → Option AV} {σ : St} {R : Option AV → St → Prop} (av : AV)
    (h : ∀ (k : Cx) (e : Operand → Value), k.σ = σ → Ok k → RepsOn k E e o.op.operands → ∃ v, (execOp e o).run P k.w = .ok (.value v) k.w ∧ Rep k av v) (hR : R (some av) σ) : OpJ P o E σ R :=
  fun k e hσ hk hr => let ⟨v, h1, h2⟩ := h k e hσ hk hr; ⟨k, .value v, some av, h1, hk, .refl k, hσ ▸ hR, v, rfl, h2⟩

section rules
variable {P : Program} {nt : Nat} {ops : Array Oper} {Q : Post} {fr : Fr} {σ : St} {o : Oper} {rest : List Oper}
theorem lj_nil (h : Q .normal fr σ) : LJ P nt ops Q [] fr σ := fun k a hσ hk hz hf => wpList_nil ⟨rfl, rfl, k, .normal, fr, rfl, hk, .refl k, hf, trivial, hσ ▸ h⟩
theorem cj_region {id : Nat} {l : List Oper} (h : LJ P nt l.toArray Q l fr σ) : CJ P nt (.region id l.toArray false) Q fr σ := fun k a hσ hk hz hf => wp_region_lit (h k a hσ hk hz hf)
theorem LJ.mono {l : List Oper} {Q' : Post} (h : LJ P nt ops Q l fr σ) (hq : ∀ e fr σ, Q e fr σ → Q' e fr σ) : LJ P nt ops Q' l fr σ :=
  fun k a hσ hk hz hf => wpList_mono (fun _ _ _ => conc_mono hq) l _ _ (h k a hσ hk hz hf)
theorem reps_of_fr {k : Cx} {a : Act} (h : FrOk k fr a.tmps) (l : Array Operand) : RepsOn k (ev fr) a.eval l := fun x _ av he => ev_ok h x av he
theorem lj_wanted (hw : ∀ (k : Cx) (a : Act), FrOk k fr a.tmps → Region.wanted o (yielded ops a.tmps) = true) (hd : fits nt o.dst = true)
    (h : OpJ P o (ev fr) σ (fun r σ' => LJ P nt ops Q rest (put fr o.dst r) σ')) : LJ P nt ops Q (o :: rest) fr σ := fun k a hσ hk hz hf => by
  obtain ⟨k', n, r, h1, h2, h3, h4, h5⟩ := h k a.eval hσ hk (reps_of_fr hf _)
  unfold wpList
  rw [if_pos (hw k a hf)]
  refine .inl ?_
  unfold Oper.wp
  rw [h1]
  cases r with
  | none =>
    cases h5
    simp only [Oper.upon]
    refine wpList_mono (fun _ _ _ => conc_step h3 (Act.defers_put ..) (Act.size_put ..)) _ _ _ (h4 k' _ rfl h2 ((Act.size_put ..).trans hz) ((hf.step h3).put_undef (by rw [hz]; exact hd)))
  | some av =>
    obtain ⟨v, rfl, hr⟩ := h5
    simp only [Oper.upon]
    refine wpList_mono (fun _ _ _ => conc_step h3 (Act.defers_put ..) (Act.size_put ..)) _ _ _ (h4 k' _ rfl h2 ((Act.size_put ..).trans hz) ((hf.step h3).put (by rw [hz]; exact hd) hr))
theorem lj_op (hg : o.guard = none) (hd : fits nt o.dst = true) (h : OpJ P o (ev fr) σ (fun r σ' => LJ P nt ops Q rest (put fr o.dst r) σ')) : LJ P nt ops Q (o :: rest) fr σ :=
  lj_wanted (fun _ _ _ => by simp [Region.wanted, hg]) hd h
theorem yields {k : Cx} {a : Act} (hf : FrOk k fr a.tmps) {j t : Nat} {b : Bool} (hj : (ops[j]?).bind (·.dst) = some t) (hl : lk fr t = some (.v (.bool b))) : yielded ops a.tmps j = some b := by
  obtain ⟨u, hu, hr⟩ := hf t _ hl
  cases hr
  unfold yielded
  rw [hj]
  simp [hu]
theorem lj_guard_yes {j t : Nat} {b : Bool} (hg : o.guard = some (j, b)) (hj : (ops[j]?).bind (·.dst) = some t) (hl : lk fr t = some (.v (.bool b))) (hd : fits nt o.dst = true)
    (h : OpJ P o (ev fr) σ (fun r σ' => LJ P nt ops Q rest (put fr o.dst r) σ')) : LJ P nt ops Q (o :: rest) fr σ :=
  lj_wanted (fun k a hf => by simp [Region.wanted, hg, yields hf hj hl]) hd h
theorem lj_guard_no {j t : Nat} {b c : Bool} (hg : o.guard = some (j, c)) (hj : (ops[j]?).bind (·.dst) = some t) (hl : lk fr t = some (.v (.bool b))) (hne : (b == c) = false) (hd : fits nt o.dst = true)
    (h : LJ P nt ops Q rest (put fr o.dst none) σ) : LJ P nt ops Q (o :: rest) fr σ := fun k a hσ hk hz hf => by
  have hw : Region.wanted o (yielded ops a.tmps) = false := by
    simp only [Region.wanted, hg, yields hf hj hl]
    cases b <;> cases c <;> first | rfl | (simp at hne)
  unfold wpList
  rw [if_neg (by rw [hw]; simp)]
  exact wpList_mono (fun _ _ _ => conc_step (.refl k) (Act.defers_put ..) (Act.size_put ..)) _ _ _ (h k _ hσ hk ((Act.size_put ..).trans hz) (hf.put_undef (by rw [hz]; exact hd)))

/-! ### Calls -/
inductive AEnd where
  | ret (x : AV)
  | panic (x : AV)
def EndOk (k : Cx) : AEnd → Ending → Prop
  | .ret x, .returned v => Rep k x v
  | .panic x, .panicked ch => ∃ u, ch = [{ v := u, recovered := false }] ∧ Rep k x u
  | _, _ => False
def Reps (k : Cx) (l : List AV) (vs : List Value) : Prop := vs.length = l.length ∧ ∀ (j : Nat) a u, l[j]? = some a → vs[j]? = some u → Rep k a u
/-- A function at abstract arguments: what it answers, and what it leaves. -/
def ACalls (P : Program) (f : FuncId) (args : List AV) (σ : St) (R : AEnd → St → Prop) : Prop :=
  ∀ (k : Cx) (vs : List Value), k.σ = σ → Ok k → Reps k args vs → Calls P f vs.toArray k.w (fun e w' => ∃ k' e', k'.w = w' ∧ Ok k' ∧ Step k k' ∧ EndOk k' e' e ∧ R e' k'.σ)
theorem ACalls.mono {f : FuncId} {args : List AV} {R R' : AEnd → St → Prop} (h : ACalls P f args σ R) (hr : ∀ e σ', R e σ' → R' e σ') : ACalls P f args σ R' := fun k vs hσ hk hv =>
  (h k vs hσ hk hv).mono fun e w' ⟨k', e', h1, h2, h3, h4, h5⟩ => ⟨k', e', h1, h2, h3, h4, hr _ _ h5⟩
/-- It answers r, whatever there is, and turns nothing of ours. -/
def Pure (P : Program) (f : FuncId) (args : List AV) (r : AV) : Prop := ∀ σ, ACalls P f args σ (fun e σ' => e = .ret r ∧ σ.le σ')

def evs (fr : Fr) : List Operand → Option (List AV)
  | [] => some []
  | x :: l => match ev fr x, evs fr l with
    | some a, some as => some (a :: as)
    | _, _ => none
theorem evs_reps {k : Cx} {a : Act} (hf : FrOk k fr a.tmps) : ∀ (l : List Operand) (as : List AV), evs fr l = some as → Reps k as (l.map a.eval)
  | [], as, h => by cases h; exact ⟨rfl, fun j a u h _ => by simp at h⟩
  | x :: l, as, h => by
    unfold evs at h
    cases h1 : ev fr x with
    | none => simp [h1] at h
    | some b =>
      cases h2 : evs fr l with
      | none => simp [h1, h2] at h
      | some bs =>
        simp only [h1, h2, Option.some.injEq] at h
        subst h
        obtain ⟨h3, h4⟩ := evs_reps hf l bs h2
        refine ⟨by simp [h3], fun j c u hj hu => ?_⟩
        cases j with
        | zero =>
          simp at hj hu
          subst hj; subst hu
          exact ev_ok hf x b h1
        | succ j => exact h4 j c u (by simpa using hj) (by simpa using hu)
theorem Reps.append {k : Cx} {l m : List AV} {vs us : List Value} (h : Reps k l vs) (h' : Reps k m us) : Reps k (l ++ m) (vs ++ us) := by
  refine ⟨by simp [h.1, h'.1], fun j a u hj hu => ?_⟩
  rcases Nat.lt_or_ge j l.length with hlt | hge
  · rw [List.getElem?_append_left hlt] at hj
    rw [List.getElem?_append_left (by rw [h.1]; exact hlt)] at hu
    exact h.2 j a u hj hu
  · rw [List.getElem?_append_right hge] at hj
    rw [List.getElem?_append_right (by rw [h.1]; exact hge), h.1] at hu
    exact h'.2 _ a u hj hu
/-- The function has a body, and is entered. -/
def entered (P : Program) (f : FuncId) : Bool := match P.funcs[f]? with
  | some fn => !(fn.name == "runtime.NumGoroutine") && fn.body.isSome
  | none => false
theorem run_callFunc {f : FuncId} (h : entered P f = true) (args : Array Value) (w : World) : (callFunc f args).run P w = .ok (.enter f args) w := by
  unfold entered at h
  unfold callFunc
  simp only [Sem.run_bind, run_program, Result.andThen_ok]
  cases hf : P.funcs[f]? with
  | none => simp [hf] at h
  | some fn =>
    simp only [hf, Bool.and_eq_true, Bool.not_eq_true', beq_eq_false_iff_ne] at h
    cases hb : fn.body with
    | none => simp [hb] at h
    | some c => simp [h.1, hb]
theorem lj_call {c : Call} {x : Operand} {f : FuncId} {caps as : List AV} (ho : o.op = .call c) (hc : c.callee = .value x) (hg : o.guard = none) (hd : fits nt o.dst = true) (hx : ev fr x = some (.fn f caps)) (has : evs fr c.args.toList = some as)
    (hent : entered P f = true)
    (h : ACalls P f (as ++ caps) σ (fun e σ' => match e with
      | .ret r => LJ P nt ops Q rest (put fr o.dst (some r)) σ'
      | .panic r => Q (.panic r) fr σ')) : LJ P nt ops Q (o :: rest) fr σ := fun k a hσ hk hz hf => by
  unfold wpList
  rw [if_pos (by simp [Region.wanted, hg])]
  refine .inl ?_
  have hr := ev_ok hf x _ hx
  have hargs := evs_reps hf _ _ has
  generalize hu : a.eval x = u at hr
  cases hr with
  | fn hl hcap =>
    rename_i vs
    have hcaps : Reps k caps vs.toList := ⟨by simp [hl], fun j b v hj hv => hcap j b v hj (by simpa using hv)⟩
    have hrun : (execOp a.eval o).run P k.w = .ok (.enter f (c.args.map a.eval ++ vs)) k.w := by
      unfold execOp
      simp only [ho, resolve, hc, hu, Deferred.ofValue, invoke, Sem.run_bind, Sem.run_pure, Result.andThen_ok, run_callFunc hent]
      simp
    unfold Oper.wp
    rw [hrun]
    simp only [Oper.upon]
    have hvs : (c.args.map a.eval ++ vs) = (c.args.toList.map a.eval ++ vs.toList).toArray := by simp
    rw [hvs]
    refine (h k _ hσ hk (hargs.append hcaps)).mono fun e w' ⟨k', e', h1, h2, h3, h4, h5⟩ => ?_
    subst h1
    cases e' <;> cases e <;> simp only [EndOk] at h4
    case ret.returned r v =>
      exact wpList_mono (fun _ _ _ => conc_step h3 (Act.defers_put ..) (Act.size_put ..)) _ _ _ (h5 k' _ rfl h2 ((Act.size_put ..).trans hz) ((hf.step h3).put (by rw [hz]; exact hd) h4))
    case panic.panicked =>
      exact ⟨rfl, rfl, k', .panic _, fr, rfl, h2, h3, hf.step h3, h4, h5⟩
theorem lj_call_pure {c : Call} {x : Operand} {f : FuncId} {caps as : List AV} {r : AV} (ho : o.op = .call c) (hc : c.callee = .value x) (hg : o.guard = none) (hd : fits nt o.dst = true) (hx : ev fr x = some (.fn f caps)) (has : evs fr c.args.toList = some as)
    (hent : entered P f = true) (hp : Pure P f (as ++ caps) r) (h : LJ P nt ops Q rest (put fr o.dst (some r)) σ) : LJ P nt ops Q (o :: rest) fr σ := by
  refine lj_call ho hc hg hd hx has hent ((hp σ).mono fun e σ' ⟨he, hle⟩ => ?_)
  subst he
  show LJ P nt ops Q rest _ σ'
  intro k a hσ hk hz hf
  subst hσ
  obtain ⟨hok, hst⟩ := hk.forget hle
  exact wpList_mono (fun _ _ _ => conc_step hst rfl rfl) _ _ _ (h { k with σ := σ } a rfl hok hz (hf.step hst))

/-! ### A function's body -/
def frOf : Nat → List AV → Fr
  | _, [] => []
  | n, a :: l => (n, a) :: frOf (n + 1) l
theorem frOf_get : ∀ (l : List AV) (n t : Nat) (a : AV), lk (frOf n l) t = some a → ∃ j, t = n + j ∧ l[j]? = some a
  | [], n, t, a, h => by cases h
  | b :: l, n, t, a, h => by
    unfold frOf at h
    rw [lk_cons] at h
    split at h
    · rename_i ht
      cases h
      exact ⟨0, by omega, rfl⟩
    · obtain ⟨j, h1, h2⟩ := frOf_get l (n + 1) t a h
      exact ⟨j + 1, by omega, by simpa using h2⟩
def results' (fr : Fr) : List ResultVar → Option (List AV)
  | [] => some []
  | .tmp t :: l => match lk fr t, results' fr l with
    | some a, some as => some (a :: as)
    | _, _ => none
  | .cell _ _ :: _ => none
def packed : List AV → AV
  | [a] => a
  | l => .tup l
theorem run_results' {k : Cx} {tmps : Array Value} (hf : FrOk k fr tmps) : ∀ (l : List ResultVar) (as : List AV), results' fr l = some as →
    ∃ vs : List Value, (l.mapM (m := Sem) fun
      | .tmp t => pure (tmps.getD t undef)
      | .cell a t => do loadVar t (← asAddr (tmps.getD a undef))).run P k.w = .ok vs k.w ∧ Reps k as vs
  | [], as, h => by cases h; exact ⟨[], by simp, rfl, fun j a u h _ => by simp at h⟩
  | .cell _ _ :: _, as, h => by simp [results'] at h
  | .tmp t :: l, as, h => by
    unfold results' at h
    cases h1 : lk fr t with
    | none => simp [h1] at h
    | some b =>
      cases h2 : results' fr l with
      | none => simp [h1, h2] at h
      | some bs =>
        simp only [h1, h2, Option.some.injEq] at h
        subst h
        obtain ⟨vs, h3, h4, h5⟩ := run_results' hf l bs h2
        obtain ⟨u, hu, hr⟩ := hf t b h1
        refine ⟨u :: vs, ?_, by simp [h4], fun j a v hj hv => ?_⟩
        · simp only [List.mapM_cons, Sem.run_bind, Sem.run_pure, Result.andThen_ok, h3]
          simp [hu]
        · cases j with
          | zero =>
            simp at hj hv
            subst hj; subst hv
            exact hr
          | succ j => exact h5 j a v (by simpa using hj) (by simpa using hv)
theorem rep_packed {k : Cx} {as : List AV} {vs : List Value} (h : Reps k as vs) : Rep k (packed as) (if h : vs.toArray.size = 1 then vs.toArray[0] else .tuple vs.toArray) := by
  match as, vs, h with
  | [], [], h => exact .tup (by simp) (fun j a u h _ => by simp at h)
  | [a], [v], h => exact h.2 0 a v rfl rfl
  | a :: b :: l, u :: v :: m, h =>
    simp only [packed]
    rw [dif_neg (by simp)]
    refine .tup (by simpa using h.1) (fun j a u hj hu => h.2 j a u hj (by simpa using hu))
  | [], _ :: _, h => exact absurd h.1 (by simp)
  | _ :: _, [], h => exact absurd h.1 (by simp)
  | [_], _ :: _ :: _, h => exact absurd h.1 (by simp)
  | _ :: _ :: _, [_], h => exact absurd h.1 (by simp)
/-- What a body's end must be. -/
def ends (fn : Func) (R : AEnd → St → Prop) : Post
  | .normal, fr, σ | .ret, fr, σ => ∃ as, results' fr fn.results.toList = some as ∧ R (.ret (packed as)) σ
  | .panic x, _, σ => R (.panic x) σ
  | _, _, _ => False
theorem acalls_body {f : FuncId} {fn : Func} {c : Code} {args : List AV} {R : AEnd → St → Prop} (hf : P.funcs[f]? = some fn) (hb : fn.body = some c) (hn : args.length ≤ fn.ntmps)
    (h : CJ P fn.ntmps c (ends fn R) (frOf 0 args) σ) : ACalls P f args σ R := fun k vs hσ hk hv => by
  refine calls_of_wp hf hb (Code.wp_mono (fun e a w hc => ?_) (h k { tmps := vs.toArray ++ Array.replicate (fn.ntmps - vs.toArray.size) undef, defers := [] } hσ hk ?_ ?_))
  · obtain ⟨h1, h2, k', e', fr', rfl, hok, hst, hfr, he, hq⟩ := hc
    have hend : ∀ as, results' fr' fn.results.toList = some as → R (.ret (packed as)) k'.σ → a.defers = [] ∧ ∃ v, (results fn a.tmps).run P k'.w = .ok v k'.w ∧ ∃ k2 e2, k2.w = k'.w ∧ Ok k2 ∧ Step k k2 ∧ EndOk k2 e2 (.returned v) ∧ R e2 k2.σ := by
      intro as has hR
      obtain ⟨us, hrun, hreps⟩ := run_results' (P := P) hfr _ _ has
      refine ⟨h1, _, ?_, k', .ret (packed as), rfl, hok, hst, rep_packed hreps, hR⟩
      unfold results
      have e1 : fn.results = fn.results.toList.toArray := by simp
      rw [e1, List.mapM_toArray]
      simp only [Sem.run_bind, Sem.run_map, Sem.run_pure]
      exact (congrArg (fun r : Result (List Value) => ((r.andThen fun a w' => Result.ok a.toArray w').andThen fun a w' => Result.ok (if h : a.size = 1 then a[0] else Value.tuple a) w')) hrun).trans rfl
    cases e' <;> cases e <;> simp only [ExitOk] at he <;> simp only [ends] at hq
    case normal.normal => obtain ⟨as, has, hR⟩ := hq; exact hend as has hR
    case ret.ret => obtain ⟨as, has, hR⟩ := hq; exact hend as has hR
    case panic.panic => exact ⟨h1, k', .panic _, rfl, hok, hst, he, hq⟩
  · have := hv.1
    simp only [Array.size_append, List.size_toArray, Array.size_replicate]
    omega
  · intro t a ht
    obtain ⟨j, h1, h2⟩ := frOf_get args 0 t a ht
    have hj : j < args.length := (List.getElem?_eq_some_iff.1 h2).1
    have hjv : j < vs.length := by rw [hv.1]; exact hj
    have ht' : t = j := by omega
    subst ht'
    refine ⟨vs[t], ?_, hv.2 t a _ h2 (by simp [hjv])⟩
    rw [Array.getElem?_append_left (by simpa using hjv)]
    simp [hjv]
theorem pure_body {f : FuncId} {fn : Func} {c : Code} {args : List AV} {r : AV} (hf : P.funcs[f]? = some fn) (hb : fn.body = some c) (hn : args.length ≤ fn.ntmps)
    (h : ∀ σ, CJ P fn.ntmps c (ends fn (fun e σ' => e = .ret r ∧ σ.le σ')) (frOf 0 args) σ) : Pure P f args r := fun σ => acalls_body hf hb hn (h σ)
end rules
end Go.Proofs.YtbpoeggmpjepfaaDoor.Ab

/- Abstract values over the model's memory, 3: operations that write nothing. -/
set_option linter.unusedVariables false
set_option linter.unusedSimpArgs false
set_option maxRecDepth 20000
namespace Go.Proofs.YtbpoeggmpjepfaaDoor.Ab
open Go

theorem rep_v {k : Cx} {x u : Value} (h : Rep k (.v x) u) : u = x := by cases h; rfl

section
variable {P : Program} {o : Oper} {E : Operand → Option AV} {σ : St} {R : Option AV → St → Prop}

theorem opj_move {x : Operand} {av : AV} (ho : o.op = .move x) (hx : E x = some av) (hR : R (some av) σ) : OpJ P o E σ R :=
  opj_quiet av (fun k e hσ hk hr => ⟨e x, by unfold execOp; simp only [ho]; rfl, hr x (by rw [ho]; simp [Op.operands]) av hx⟩) hR
theorem opj_assign {x : Operand} {av : AV} (ho : o.op = .assign x) (hx : E x = some av) (hR : R (some av) σ) : OpJ P o E σ R :=
  opj_quiet av (fun k e hσ hk hr => ⟨e x, by unfold execOp; simp only [ho]; rfl, hr x (by rw [ho]; simp [Op.operands]) av hx⟩) hR
theorem opj_pick {c x y : Operand} {b : Bool} {av : AV} (ho : o.op = .pick c x y) (hc : E c = some (.v (.bool b))) (hx : (if b then E x else E y) = some av) (hR : R (some av) σ) : OpJ P o E σ R :=
  opj_quiet av (fun k e hσ hk hr => by
    have h1 := rep_v (hr c (by rw [ho]; simp [Op.operands]) _ hc)
    cases b with
    | true =>
      refine ⟨e x, ?_, hr x (by rw [ho]; simp [Op.operands]) av hx⟩
      unfold execOp; simp [ho, h1, asBool]
    | false =>
      refine ⟨e y, ?_, hr y (by rw [ho]; simp [Op.operands]) av hx⟩
      unfold execOp; simp [ho, h1, asBool]) hR

/-! ### Numbers and strings -/
def bin2 (op : BinOp) (x y : Value) : Option Value :=
  match op, x, y with
  | .shl, .int k a, .int _ b => if b < 0 then none else some (.int k (k.wrap (a * 2 ^ (min b.toNat k.bits))))
  | .shr, .int k a, .int _ b => if b < 0 then none else some (.int k (a.fdiv (2 ^ (min b.toNat k.bits))))
  | .add, .int k a, .int k' b => if k = k' then some (.int k (k.wrap (a + b))) else none
  | .sub, .int k a, .int k' b => if k = k' then some (.int k (k.wrap (a - b))) else none
  | .mul, .int k a, .int k' b => if k = k' then some (.int k (k.wrap (a * b))) else none
  | .quo, .int k a, .int k' b => if k = k' then (if b = 0 then none else some (.int k (k.wrap (a.tdiv b)))) else none
  | .rem, .int k a, .int k' b => if k = k' then (if b = 0 then none else some (.int k (a.tmod b))) else none
  | .and, .int k a, .int k' b => if k = k' then some (.int k (k.wrap (BitVec.ofInt k.bits a &&& BitVec.ofInt k.bits b).toNat)) else none
  | .or, .int k a, .int k' b => if k = k' then some (.int k (k.wrap (BitVec.ofInt k.bits a ||| BitVec.ofInt k.bits b).toNat)) else none
  | .xor, .int k a, .int k' b => if k = k' then some (.int k (k.wrap (BitVec.ofInt k.bits a ^^^ BitVec.ofInt k.bits b).toNat)) else none
  | .eql, .int k a, .int k' b => if k = k' then some (.bool (decide (a = b))) else none
  | .neq, .int k a, .int k' b => if k = k' then some (.bool (!decide (a = b))) else none
  | .lss, .int k a, .int k' b => if k = k' then some (.bool (decide (a < b))) else none
  | .leq, .int k a, .int k' b => if k = k' then some (.bool (decide (a ≤ b))) else none
  | .gtr, .int k a, .int k' b => if k = k' then some (.bool (decide (b < a))) else none
  | .geq, .int k a, .int k' b => if k = k' then some (.bool (decide (b ≤ a))) else none
  | .eql, .string a, .string b => some (.bool (decide (a = b)))
  | .neq, .string a, .string b => some (.bool (!decide (a = b)))
  | .lss, .string a, .string b => some (.bool (Op.bytesLess a.data.toList b.data.toList))
  | _, _, _ => none
theorem ByteArray.toList_eq (s : ByteArray) : s.toList = s.data.toList := by
  have key : ∀ (n i : Nat) (r : List UInt8), s.size - i = n → ByteArray.toList.loop s i r = r.reverse ++ s.data.toList.drop i := by
    intro n
    induction n with
    | zero =>
      intro i r h
      unfold ByteArray.toList.loop
      rw [if_neg (by omega), List.drop_eq_nil_of_le (by rw [Array.length_toList]; show s.size ≤ i; omega)]
      simp
    | succ n ih =>
      intro i r h
      unfold ByteArray.toList.loop
      rw [if_pos (by omega), ih _ _ (by omega)]
      have hi : i < s.data.toList.length := by rw [Array.length_toList]; show i < s.size; omega
      rw [List.drop_eq_getElem_cons hi]
      have hi' : i < s.data.size := by simpa using hi
      simp only [List.reverse_cons, List.append_assoc, List.singleton_append]
      congr 2
      show s.data[i]! = _
      rw [getElem!_pos s.data i hi']
      simp
  show ByteArray.toList.loop s 0 [] = _
  rw [key _ 0 [] rfl]
  simp
theorem str_beq (a b : ByteArray) : (a.toList == b.toList) = decide (a = b) := by
  rw [ByteArray.toList_eq, ByteArray.toList_eq]
  by_cases h : a = b
  · subst h; simp
  · rw [decide_eq_false h, beq_eq_false_iff_ne]
    intro h'
    apply h
    cases a; cases b
    congr 1
    exact Array.toList_inj.1 h'
theorem run_bin2 {op : BinOp} {x y r : Value} (h : bin2 op x y = some r) (t : TypeId) (xo yo : Operand) (w : World) : ((do eqGuard op t xo yo x y; binOp op t x y) : Sem Value).run P w = .ok r w := by
  unfold bin2 at h
  split at h
  case h_1 => split at h <;> cases h; rename_i hb; simp [eqGuard, binOp, Op.shift, hb]
  case h_2 => split at h <;> cases h; rename_i hb; simp [eqGuard, binOp, Op.shift, hb]
  case h_6 =>
    split at h <;> try cases h
    rename_i hk
    split at h <;> cases h
    rename_i hb
    simp [eqGuard, binOp, Op.intDiv, hk, hb]
  case h_7 =>
    split at h <;> try cases h
    rename_i hk
    split at h <;> cases h
    rename_i hb
    simp [eqGuard, binOp, Op.intDiv, hk, hb]
  case h_17 => cases h; simp [eqGuard, binOp, Op.stringOp, str_beq]
  case h_18 => cases h; simp [eqGuard, binOp, Op.stringOp, str_beq]
  case h_19 => cases h; simp [eqGuard, binOp, Op.stringOp, ByteArray.toList_eq]
  case h_20 => cases h
  all_goals
    split at h <;> cases h
    rename_i hk
    subst hk
    simp [eqGuard, binOp, Op.intArith, Op.intBits, Op.intCmp] <;> first | rfl | (congr; done) | skip
theorem opj_bin {op : BinOp} {t t' : TypeId} {x y : Operand} {a b r : Value} (ho : o.op = .binOp op t x y t') (hx : E x = some (.v a)) (hy : E y = some (.v b)) (hb : bin2 op a b = some r) (h1 : r.oneCell' = true) (hR : R (some (.v r)) σ) : OpJ P o E σ R :=
  opj_quiet _ (fun k e hσ hk hr => ⟨r, by
    have ha := rep_v (hr x (by rw [ho]; simp [Op.operands]) _ hx)
    have hb' := rep_v (hr y (by rw [ho]; simp [Op.operands]) _ hy)
    unfold execOp
    simp only [ho, ha, hb', Sem.run_bind]
    rw [← Sem.run_bind, run_bin2 hb]
    rfl, .v h1⟩) hR

/-- A shift, a division whose right side is a variable; two strings made one. -/
theorem opj_shl {t t' : TypeId} {x y : Operand} {k k' : IntKind} {a b : Int} (ho : o.op = .binOp .shl t x y t') (hx : E x = some (.v (.int k a))) (hy : E y = some (.v (.int k' b))) (hb : 0 ≤ b) (hR : R (some (.v (.int k (k.wrap (a * 2 ^ (min b.toNat k.bits)))))) σ) : OpJ P o E σ R :=
  opj_bin ho hx hy (by simp only [bin2]; rw [if_neg (by omega)]) rfl hR
theorem opj_shr {t t' : TypeId} {x y : Operand} {k k' : IntKind} {a b : Int} (ho : o.op = .binOp .shr t x y t') (hx : E x = some (.v (.int k a))) (hy : E y = some (.v (.int k' b))) (hb : 0 ≤ b) (hR : R (some (.v (.int k (a.fdiv (2 ^ (min b.toNat k.bits)))))) σ) : OpJ P o E σ R :=
  opj_bin ho hx hy (by simp only [bin2]; rw [if_neg (by omega)]) rfl hR
theorem opj_quo {t t' : TypeId} {x y : Operand} {k : IntKind} {a b : Int} (ho : o.op = .binOp .quo t x y t') (hx : E x = some (.v (.int k a))) (hy : E y = some (.v (.int k b))) (hb : b ≠ 0) (hR : R (some (.v (.int k (k.wrap (a.tdiv b))))) σ) : OpJ P o E σ R :=
  opj_bin ho hx hy (by simp [bin2, hb]) rfl hR
theorem opj_concat {t t' : TypeId} {x y : Operand} {a b : ByteArray} (ho : o.op = .binOp .add t x y t') (hx : E x = some (.v (.string a))) (hy : E y = some (.v (.string b))) (hb : a.size + b.size ≤ 9223372036854775807) (hR : R (some (.v (.string (a ++ b)))) σ) : OpJ P o E σ R :=
  opj_quiet _ (fun k e hσ hk hr => ⟨.string (a ++ b), by
    have ha := rep_v (hr x (by rw [ho]; simp [Op.operands]) _ hx)
    have hb' := rep_v (hr y (by rw [ho]; simp [Op.operands]) _ hy)
    have hm : ¬ (IntKind.i64.max < ((a.size : Int) + (b.size : Int))) := by
      have : IntKind.i64.max = 9223372036854775807 := rfl
      omega
    unfold execOp
    simp [ho, ha, hb', eqGuard, binOp, Op.stringOp, hm]
    omega, .v rfl⟩) hR
theorem run_equalIn_bool (d : Nat) {t : TypeId} (ht : P.underlying t = some .bool) (a b : Bool) (w : World) : (Op.equalIn (d + 1) t (.bool a) (.bool b)).run P w = .ok (a == b) w := by
  simp [Op.equalIn, run_underlying ht]
theorem run_equalIn_ptr (d : Nat) {t e : TypeId} (ht : P.underlying t = some (.pointer e)) (a : Option Addr) (w : World) : (Op.equalIn (d + 1) t (.pointer a) (.pointer none)).run P w = .ok a.isNone w := by
  cases a <;> simp [Op.equalIn, run_underlying ht]
theorem run_equalIn_slice (d : Nat) {t e : TypeId} (ht : P.underlying t = some (.slice e)) (a : Option Addr) (n c : Nat) (w : World) : (Op.equalIn (d + 1) t (.slice a n c) (.slice none 0 0)).run P w = .ok a.isNone w := by
  cases a <;> simp [Op.equalIn, run_underlying ht]
theorem run_equalIn_map (d : Nat) {t x y : TypeId} (ht : P.underlying t = some (.map x y)) (a : Option Nat) (w : World) : (Op.equalIn (d + 1) t (.map a) (.map none)).run P w = .ok a.isNone w := by
  cases a <;> simp [Op.equalIn, run_underlying ht]
theorem opj_beq {t t' : TypeId} {x y : Operand} {a b : Bool} (ho : o.op = .binOp .eql t x y t') (ht : P.underlying t = some .bool) (hx : E x = some (.v (.bool a))) (hy : E y = some (.v (.bool b))) (hR : R (some (.v (.bool (a == b)))) σ) : OpJ P o E σ R :=
  opj_quiet _ (fun k e hσ hk hr => ⟨.bool (a == b), by
    have ha := rep_v (hr x (by rw [ho]; simp [Op.operands]) _ hx)
    have hb' := rep_v (hr y (by rw [ho]; simp [Op.operands]) _ hy)
    unfold execOp
    simp only [ho, ha, hb', eqGuard, binOp, Op.equal, Op.maxDepth, Sem.run_bind, Sem.run_pure, run_equalIn_bool 9999 ht, Result.andThen_ok]
    simp, .v rfl⟩) hR
theorem opj_bne {t t' : TypeId} {x y : Operand} {a b : Bool} (ho : o.op = .binOp .neq t x y t') (ht : P.underlying t = some .bool) (hx : E x = some (.v (.bool a))) (hy : E y = some (.v (.bool b))) (hR : R (some (.v (.bool (!(a == b))))) σ) : OpJ P o E σ R :=
  opj_quiet _ (fun k e hσ hk hr => ⟨.bool (!(a == b)), by
    have ha := rep_v (hr x (by rw [ho]; simp [Op.operands]) _ hx)
    have hb' := rep_v (hr y (by rw [ho]; simp [Op.operands]) _ hy)
    unfold execOp
    simp only [ho, ha, hb', eqGuard, binOp, Op.equal, Op.maxDepth, Sem.run_bind, Sem.run_pure, run_equalIn_bool 9999 ht, Result.andThen_ok]
    simp, .v rfl⟩) hR
theorem opj_not {t : TypeId} {x : Operand} {b : Bool} (ho : o.op = .unOp .not t x) (hx : E x = some (.v (.bool b))) (hR : R (some (.v (.bool (!b)))) σ) : OpJ P o E σ R :=
  opj_quiet _ (fun k e hσ hk hr => ⟨.bool (!b), by
    have ha := rep_v (hr x (by rw [ho]; simp [Op.operands]) _ hx)
    unfold execOp
    simp [ho, ha, Op.unary], .v rfl⟩) hR
theorem opj_neg {t : TypeId} {x : Operand} {k : IntKind} {n : Int} (ho : o.op = .unOp .neg t x) (hx : E x = some (.v (.int k n))) (hR : R (some (.v (.int k (k.wrap (0 - n))))) σ) : OpJ P o E σ R :=
  opj_quiet _ (fun k' e hσ hk hr => ⟨.int k (k.wrap (0 - n)), by
    have ha := rep_v (hr x (by rw [ho]; simp [Op.operands]) _ hx)
    unfold execOp
    simp [ho, ha, Op.unary, Op.intArith], .v rfl⟩) hR

/-! ### Conversions -/
theorem opj_conv_int {s d : TypeId} {x : Operand} {k k' : IntKind} {n : Int} {u : TypeDesc} (ho : o.op = .convert s d x) (hs : P.underlying s = some u) (hd : P.underlying d = some (.int k')) (hx : E x = some (.v (.int k n))) (hR : R (some (.v (.int k' (k'.wrap n)))) σ) : OpJ P o E σ R :=
  opj_quiet _ (fun k0 e hσ hk hr => ⟨.int k' (k'.wrap n), by
    have ha := rep_v (hr x (by rw [ho]; simp [Op.operands]) _ hx)
    unfold execOp
    simp [ho, ha, convert, run_underlying hs, run_underlying hd, Conv.intToInt], .v rfl⟩) hR
theorem opj_conv_rune {s d : TypeId} {x : Operand} {k : IntKind} {n : Int} {u : TypeDesc} (ho : o.op = .convert s d x) (hs : P.underlying s = some u) (hd : P.underlying d = some .string) (hx : E x = some (.v (.int k n))) (hR : R (some (.v (.string (Utf8.encode n)))) σ) : OpJ P o E σ R :=
  opj_quiet _ (fun k0 e hσ hk hr => ⟨.string (Utf8.encode n), by
    have ha := rep_v (hr x (by rw [ho]; simp [Op.operands]) _ hx)
    unfold execOp
    simp [ho, ha, convert, run_underlying hs, run_underlying hd, Conv.intToString], .v rfl⟩) hR
theorem opj_conv_str {s d : TypeId} {x : Operand} {b : ByteArray} {u : TypeDesc} (ho : o.op = .convert s d x) (hs : P.underlying s = some u) (hd : P.underlying d = some .string) (hx : E x = some (.v (.string b))) (hR : R (some (.v (.string b))) σ) : OpJ P o E σ R :=
  opj_quiet _ (fun k0 e hσ hk hr => ⟨.string b, by
    have ha := rep_v (hr x (by rw [ho]; simp [Op.operands]) _ hx)
    unfold execOp
    simp [ho, ha, convert, run_underlying hs, run_underlying hd], .v rfl⟩) hR

/-! ### Length, index, cut of strings -/
def sb (s : ByteArray) (n : Int) : Int := ((s.data.toList.getD n.toNat 0).toNat : Int)
theorem opj_len_str {t : TypeId} {x : Operand} {s : ByteArray} {ts : Array TypeId} (ho : o.op = .call { callee := .builtin .len, args := #[x], argTypes := ts }) (ht0 : ts = #[t]) (ht : P.underlying t = some .string) (hx : E x = some (.v (.string s))) (hR : R (some (.v (.int .i64 s.size))) σ) : OpJ P o E σ R :=
  opj_quiet _ (fun k e hσ hk hr => ⟨.int .i64 s.size, by
    subst ht0
    have ha := rep_v (hr x (by rw [ho]; simp [Op.operands, Call.operands]) _ hx)
    unfold execOp
    simp [ho, ha, resolve, invoke, builtin, Builtin.len_, run_underlying ht, goInt], .v rfl⟩) hR
theorem opj_index_str {t : TypeId} {x ix : Operand} {s : ByteArray} {kk : IntKind} {n : Int} (ho : o.op = .index t x ix) (ht : P.underlying t = some .string) (hx : E x = some (.v (.string s))) (hi : E ix = some (.v (.int kk n))) (h0 : 0 ≤ n) (h1 : n < s.size) (hR : R (some (.v (.int .u8 (sb s n)))) σ) : OpJ P o E σ R :=
  opj_quiet _ (fun k e hσ hk hr => ⟨.int .u8 (sb s n), by
    have ha := rep_v (hr x (by rw [ho]; simp [Op.operands]) _ hx)
    have hb := rep_v (hr ix (by rw [ho]; simp [Op.operands]) _ hi)
    have hlt : n.toNat < s.size := by omega
    have hg : s[n.toNat]? = some s[n.toNat] := getElem?_pos s n.toNat hlt
    have hsb : sb s n = (s[n.toNat].toNat : Int) := by
      unfold sb
      have hl : n.toNat < s.data.toList.length := by rw [Array.length_toList]; exact hlt
      rw [List.getD_eq_getElem?_getD, List.getElem?_eq_getElem hl]
      rfl
    unfold execOp
    simp [ho, ha, hb, Instr.index, asIntOf, run_underlying ht, h0, hg, hsb], .v rfl⟩) hR
theorem run_bounds (w : World) (isS : Bool) (n : Nat) (lo hi : Option Value) (l h : Nat) (hl : match lo with | none => l = 0 | some v => ∃ kl i, v = .int kl i ∧ 0 ≤ i ∧ i.toNat = l) (hh : match hi with | none => h = n | some v => ∃ kh i, v = .int kh i ∧ 0 ≤ i ∧ i.toNat = h) (c : Nat) (hn : n ≤ c) (h1 : l ≤ h) (h2 : h ≤ c) :
    (Instr.sliceBounds isS n c lo hi none).run P w = .ok (l, h, c) w := by
  cases lo with
  | none =>
    subst hl
    cases hi with
    | none => subst hh; simp [Instr.sliceBounds]
    | some v =>
      obtain ⟨kh, i, rfl, hi0, rfl⟩ := hh
      have : i ≤ (c : Int) := by omega
      simp [Instr.sliceBounds, Instr.sliceBound, asIntOf, hi0, this]
  | some u =>
    obtain ⟨kl, j, rfl, hj0, rfl⟩ := hl
    cases hi with
    | none =>
      subst hh
      have : j ≤ (h : Int) := by omega
      simp [Instr.sliceBounds, Instr.sliceBound, asIntOf, hj0, this]
    | some v =>
      obtain ⟨kh, i, rfl, hi0, rfl⟩ := hh
      have h3 : i ≤ (c : Int) := by omega
      have h4 : j ≤ max i 0 := by omega
      simp [Instr.sliceBounds, Instr.sliceBound, asIntOf, hi0, h3, hj0, h4]
/-- A bound of a cut: what it evaluates to. -/
def bound (E : Operand → Option AV) (d : Nat) : Option Operand → Option Int
  | none => some d
  | some x => match E x with
    | some (.v (.int _ n)) => some n
    | _ => none
theorem bound_lo {k : Cx} {e : Operand → Value} {l : Array Operand} (hr : RepsOn k E e l) {d : Nat} {lo : Option Operand} {i : Int} (hb : bound E d lo = some i) (hm : ∀ x, lo = some x → x ∈ l) (h0 : 0 ≤ i) :
    match lo.map e with | none => i.toNat = d | some v => ∃ kl j, v = .int kl j ∧ 0 ≤ j ∧ j.toNat = i.toNat := by
  cases lo with
  | none => simp only [bound, Option.some.injEq] at hb; simp only [Option.map_none]; omega
  | some x =>
    simp only [bound] at hb
    simp only [Option.map_some]
    cases hx : E x with
    | none => simp [hx] at hb
    | some av =>
      cases av with
      | v u =>
        cases u with
        | int kk n =>
          simp only [hx, Option.some.injEq] at hb
          subst hb
          exact ⟨kk, n, rep_v (hr x (hm x rfl) _ hx), h0, rfl⟩
        | _ => simp [hx] at hb
      | _ => simp [hx] at hb
theorem opj_slice_str {t : TypeId} {x : Operand} {lo hi : Option Operand} {s : ByteArray} {l h : Int} (ho : o.op = .slice t x lo hi none) (ht : P.underlying t = some .string) (hx : E x = some (.v (.string s))) (hlo : bound E 0 lo = some l) (hhi : bound E s.size hi = some h)
    (h0 : 0 ≤ l) (h1 : l ≤ h) (h2 : h ≤ s.size) (hR : R (some (.v (.string (s.extract l.toNat h.toNat)))) σ) : OpJ P o E σ R :=
  opj_quiet _ (fun k e hσ hk hr => ⟨.string (s.extract l.toNat h.toNat), by
    have ha := rep_v (hr x (by rw [ho]; simp [Op.operands]) _ hx)
    have hbl := bound_lo hr hlo (fun y hy => by rw [ho]; subst hy; simp [Op.operands]) h0
    have hbh := bound_lo hr hhi (fun y hy => by rw [ho]; subst hy; simp [Op.operands]) (by omega)
    have hb := run_bounds (P := P) k.w false s.size (lo.map e) (hi.map e) l.toNat h.toNat hbl hbh s.size (Nat.le_refl _) (by omega) (by omega)
    unfold execOp
    simp only [ho, ha, Option.map_none, Instr.sliceAt, Sem.run_bind, run_underlying ht, Result.andThen_ok, Instr.slice, Option.isSome_none, Bool.false_eq_true, if_false, Sem.run_pure, hb]
    , .v rfl⟩) hR

/-! ### Parts -/
theorem opj_extract {x : Operand} {i : Nat} {l : List AV} {av : AV} (ho : o.op = .extract x i) (hx : E x = some (.tup l)) (hi : l[i]? = some av) (hR : R (some av) σ) : OpJ P o E σ R :=
  opj_quiet av (fun k e hσ hk hr => by
    have h := hr x (by rw [ho]; simp [Op.operands]) _ hx
    generalize hu : e x = u at h
    cases h with
    | tup hl hc =>
      rename_i vs
      have hlt : i < vs.size := by rw [hl]; exact (List.getElem?_eq_some_iff.1 hi).1
      have hv : vs[i]? = some vs[i] := by simp [hlt]
      refine ⟨vs[i], ?_, hc i av _ hi hv⟩
      unfold execOp
      simp [ho, hu, Instr.extract, hv]) hR
theorem opj_makeFunc {f : FuncId} {caps : Array Operand} {as : List AV} (ho : o.op = .makeFunc (.func f) #[] caps) (hc : caps.toList.mapM E = some as) (hR : R (some (.fn f as)) σ) : OpJ P o E σ R :=
  opj_quiet _ (fun k e hσ hk hr => by
    refine ⟨.func (.func f) #[] (caps.map e), ?_, ?_⟩
    · unfold execOp
      simp [ho, Instr.makeFunc]
    · have key : ∀ (l : List Operand) (as : List AV), (∀ x ∈ l, x ∈ o.op.operands) → l.mapM E = some as → as.length = l.length ∧ ∀ (j : Nat) a u, as[j]? = some a → (l.map e)[j]? = some u → Rep k a u := by
        intro l
        induction l with
        | nil => intro as _ h; simp at h; subst h; exact ⟨rfl, fun j a u h _ => by simp at h⟩
        | cons x l ih =>
          intro as hm h
          simp only [List.mapM_cons, Option.bind_eq_bind, Option.bind_eq_some_iff, Option.pure_def, Option.some.injEq] at h
          obtain ⟨a, ha, as', has, rfl⟩ := h
          obtain ⟨h1, h2⟩ := ih as' (fun y hy => hm y (by simp [hy])) has
          refine ⟨by simp [h1], fun j b u hj hu => ?_⟩
          cases j with
          | zero => simp at hj hu; subst hj; subst hu; exact hr x (hm x (by simp)) _ ha
          | succ j => exact h2 j b u (by simpa using hj) (by simpa using hu)
      obtain ⟨h1, h2⟩ := key caps.toList as (fun x hx => by rw [ho]; simpa [Op.operands] using hx) hc
      exact .fn (by simp [h1]) (fun j a u hj hu => h2 j a u hj (by simpa [← Array.getElem?_toList] using hu))) hR
theorem opj_iface {t : TypeId} {x : Operand} {av : AV} {d : TypeDesc} (ho : o.op = .makeInterface t x) (ht : P.underlying t = some d) (hn : (match d with | .interface _ => false | _ => true) = true) (hx : E x = some av) (hR : R (some (.ifc t av)) σ) : OpJ P o E σ R :=
  opj_quiet _ (fun k e hσ hk hr => ⟨.iface t (e x), by
    unfold execOp
    simp only [ho, Instr.makeInterface, Sem.run_bind, run_underlying ht, Result.andThen_ok]
    cases d <;> simp at hn <;> simp, .ifc (hr x (by rw [ho]; simp [Op.operands]) _ hx)⟩) hR
theorem opj_nilCheck_ptr {x : Operand} {id sz i j : Nat} (ho : o.op = .nilCheck x) (hx : E x = some (.ptr id sz i j)) (hR : R (some (.ptr id sz i j)) σ) : OpJ P o E σ R :=
  opj_quiet _ (fun k e hσ hk hr => by
    have h := hr x (by rw [ho]; simp [Op.operands]) _ hx
    refine ⟨e x, ?_, h⟩
    generalize hu : e x = u at h
    cases h
    unfold execOp; simp [ho, hu]) hR
theorem opj_nilCheck_fp {x : Operand} {cs : List AV} (ho : o.op = .nilCheck x) (hx : E x = some (.fp cs)) (hR : R (some (.fp cs)) σ) : OpJ P o E σ R :=
  opj_quiet _ (fun k e hσ hk hr => by
    have h := hr x (by rw [ho]; simp [Op.operands]) _ hx
    refine ⟨e x, ?_, h⟩
    generalize hu : e x = u at h
    cases h
    unfold execOp; simp [ho, hu]) hR
theorem opj_nilCheck_fn {x : Operand} {f : FuncId} {cs : List AV} (ho : o.op = .nilCheck x) (hx : E x = some (.fn f cs)) (hR : R (some (.fn f cs)) σ) : OpJ P o E σ R :=
  opj_quiet _ (fun k e hσ hk hr => by
    have h := hr x (by rw [ho]; simp [Op.operands]) _ hx
    refine ⟨e x, ?_, h⟩
    generalize hu : e x = u at h
    cases h
    unfold execOp; simp [ho, hu]) hR
/-- A pointer or a slice against nil. -/
def isNil : AV → Option Bool
  | .v (.pointer none) => some true
  | .ptr .. => some false
  | .fp _ => some false
  | .sl (some b) _ _ els => some b
  | .sl none _ _ (_ :: _) => some false
  | _ => none
def nilKind (d : TypeDesc) (av : AV) : Bool := match d, av with
  | .pointer _, .v (.pointer none) | .pointer _, .ptr .. | .pointer _, .fp _ => true
  | .slice _, .sl .. => true
  | _, _ => false
def theNil (d : TypeDesc) (av : AV) : Bool := match d, av with
  | .pointer _, .v (.pointer none) => true
  | .slice _, .sl (some true) _ _ [] => true
  | _, _ => false
theorem theNil_ptr {e : TypeId} {c : AV} (h : theNil (.pointer e) c = true) : c = .v (.pointer none) := by
  unfold theNil at h
  split at h <;> first | rfl | (simp_all; done)
theorem theNil_slice {e : TypeId} {c : AV} (h : theNil (.slice e) c = true) : ∃ f s, c = .sl (some true) f s [] := by
  unfold theNil at h
  split at h <;> first | exact ⟨_, _, rfl⟩ | (simp_all; done)
theorem run_nil {k : Cx} {av c : AV} {u z : Value} {d : TypeDesc} {t : TypeId} (ht : P.underlying t = some d) (hu : Rep k av u) (hz : Rep k c z) (hk : nilKind d av = true) (hn : theNil d c = true) {b : Bool} (hb : isNil av = some b) (w : World) (n : Nat) :
    (Op.equalIn (n + 1) t u z).run P w = .ok b w ∧ (∀ xo yo, (eqGuard .eql t xo yo u z).run P w = .ok () w ∧ (eqGuard .neq t xo yo u z).run P w = .ok () w) ∧ (binOp .eql t u z = (do pure (.bool (← Op.equal t u z)))) ∧ (binOp .neq t u z = (do pure (.bool (!(← Op.equal t u z))))) := by
  unfold nilKind at hk
  split at hk
  case h_1 =>
    cases rep_v hu
    obtain rfl := theNil_ptr hn
    cases rep_v hz
    simp [isNil] at hb; subst hb
    exact ⟨run_equalIn_ptr n ht none w, fun _ _ => ⟨by simp [eqGuard], by simp [eqGuard]⟩, rfl, rfl⟩
  case h_2 =>
    cases hu
    obtain rfl := theNil_ptr hn
    cases rep_v hz
    simp [isNil] at hb; subst hb
    exact ⟨run_equalIn_ptr n ht (some _) w, fun _ _ => ⟨by simp [eqGuard], by simp [eqGuard]⟩, rfl, rfl⟩
  case h_3 =>
    cases hu
    obtain rfl := theNil_ptr hn
    cases rep_v hz
    simp [isNil] at hb; subst hb
    exact ⟨run_equalIn_ptr n ht (some _) w, fun _ _ => ⟨by simp [eqGuard], by simp [eqGuard]⟩, rfl, rfl⟩
  case h_4 =>
    rename_i e nl full sz els
    have hz' : z = .slice none 0 0 := by
      obtain ⟨f, l, rfl⟩ := theNil_slice hn
      cases hz with
      | slnil => rfl
      | sle hn' => exact absurd rfl hn'
      | sl hn' => exact absurd rfl hn'
    subst hz'
    cases hu with
    | slnil hn' =>
      have : b = true := by
        cases nl with
        | none => simp [isNil] at hb
        | some x => cases x <;> simp_all [isNil]
      subst this
      exact ⟨run_equalIn_slice n ht none 0 0 w, fun _ _ => ⟨by simp [eqGuard], by simp [eqGuard]⟩, rfl, rfl⟩
    | sle hn' =>
      have : b = false := by
        cases nl with
        | none => simp_all [isNil]
        | some x => cases x <;> simp_all [isNil]
      subst this
      exact ⟨run_equalIn_slice n ht (some _) _ _ w, fun _ _ => ⟨by simp [eqGuard], by simp [eqGuard]⟩, rfl, rfl⟩
    | sl hn' =>
      have : b = false := by
        cases nl with
        | none => cases els <;> simp_all [isNil]
        | some x => cases x <;> simp_all [isNil]
      subst this
      exact ⟨run_equalIn_slice n ht (some _) _ _ w, fun _ _ => ⟨by simp [eqGuard], by simp [eqGuard]⟩, rfl, rfl⟩
  case h_5 => cases hk
theorem opj_isnil {t t' : TypeId} {x y : Operand} {av c : AV} {b : Bool} {d : TypeDesc} (ho : o.op = .binOp .eql t x y t') (ht : P.underlying t = some d) (hx : E x = some av) (hy : E y = some c) (hk : nilKind d av = true) (hn : theNil d c = true) (hb : isNil av = some b) (hR : R (some (.v (.bool b))) σ) : OpJ P o E σ R :=
  opj_quiet _ (fun k e hσ hk' hr => ⟨.bool b, by
    obtain ⟨h1, h2, h3, _⟩ := run_nil ht (hr x (by rw [ho]; simp [Op.operands]) _ hx) (hr y (by rw [ho]; simp [Op.operands]) _ hy) hk hn hb k.w 9999
    unfold execOp
    simp only [ho, Sem.run_bind, (h2 x y).1, Result.andThen_ok, h3, Op.equal, Op.maxDepth, h1, Sem.run_pure], .v rfl⟩) hR
theorem opj_notnil {t t' : TypeId} {x y : Operand} {av c : AV} {b : Bool} {d : TypeDesc} (ho : o.op = .binOp .neq t x y t') (ht : P.underlying t = some d) (hx : E x = some av) (hy : E y = some c) (hk : nilKind d av = true) (hn : theNil d c = true) (hb : isNil av = some b) (hR : R (some (.v (.bool (!b)))) σ) : OpJ P o E σ R :=
  opj_quiet _ (fun k e hσ hk' hr => ⟨.bool (!b), by
    obtain ⟨h1, h2, _, h3⟩ := run_nil ht (hr x (by rw [ho]; simp [Op.operands]) _ hx) (hr y (by rw [ho]; simp [Op.operands]) _ hy) hk hn hb k.w 9999
    unfold execOp
    simp only [ho, Sem.run_bind, (h2 x y).2, Result.andThen_ok, h3, Op.equal, Op.maxDepth, h1, Sem.run_pure], .v rfl⟩) hR
/-- A slice of which it is not known whether it is nil. -/
theorem opj_isnil_sl {t t' : TypeId} {x y : Operand} {nl : Option Bool} {full f : Bool} {sz s : Nat} {els : List (List AV)} {e : TypeId} (ho : o.op = .binOp .eql t x y t') (ht : P.underlying t = some (.slice e)) (hx : E x = some (.sl nl full sz els)) (hy : E y = some (.sl (some true) f s [])) (hR : ∀ b : Bool, (b = true → els = []) → R (some (.v (.bool b))) σ) : OpJ P o E σ R := fun k ev hσ hk hr => by
  have hxr := hr x (by rw [ho]; simp [Op.operands]) _ hx
  have hyr := hr y (by rw [ho]; simp [Op.operands]) _ hy
  have hz : ev y = .slice none 0 0 := by
    generalize ev y = z at hyr
    cases hyr with
    | slnil => rfl
    | sle hn => exact absurd rfl hn
    | sl hn => exact absurd rfl hn
  have key : ∀ (a : Option Addr) (n c : Nat), ev x = .slice a n c → (execOp ev o).run P k.w = .ok (.value (.bool a.isNone)) k.w := fun a n c hv => by
    unfold execOp
    simp only [ho, hv, hz, Sem.run_bind, eqGuard, binOp, Op.equal, Op.maxDepth, Sem.run_pure, run_equalIn_slice 9999 ht, Result.andThen_ok]
    simp
  generalize hu : ev x = u at hxr
  cases hxr with
  | slnil => exact ⟨k, _, some (.v (.bool true)), key none 0 0 hu, hk, .refl k, hσ ▸ hR true (fun _ => rfl), _, rfl, .v rfl⟩
  | sle => exact ⟨k, _, some (.v (.bool false)), key _ _ _ hu, hk, .refl k, hσ ▸ hR false (fun h => by cases h), _, rfl, .v rfl⟩
  | sl => exact ⟨k, _, some (.v (.bool false)), key _ _ _ hu, hk, .refl k, hσ ▸ hR false (fun h => by cases h), _, rfl, .v rfl⟩
end
end Go.Proofs.YtbpoeggmpjepfaaDoor.Ab

/- Abstract values over the model's memory, 4: parts of structs, addresses, loads and stores, new variables. -/
set_option linter.unusedVariables false
set_option linter.unusedSimpArgs false
set_option maxRecDepth 20000
namespace Go.Proofs.YtbpoeggmpjepfaaDoor.Ab
open Go

/-- Cells in a row, of what they stand for. -/
def CellsRep (k : Cx) (as : List AV) (vs : List Value) : Prop := vs.length = as.length ∧ ∀ (j : Nat) a u, as[j]? = some a → vs[j]? = some u → u.oneCell' = true ∧ Rep k a u
def RowRep (k : Cx) (sz : Nat) (els : List (List AV)) (vals : List Value) : Prop :=
  (∀ (i : Nat) e, els[i]? = some e → e.length = sz) ∧ els.length * sz ≤ vals.length ∧ ∀ (i j : Nat) e a, els[i]? = some e → e[j]? = some a → ∃ u, vals[i * sz + j]? = some u ∧ u.oneCell' = true ∧ Rep k a u
theorem CellsRep.step {k k' : Cx} (hs : Step k k') {as : List AV} {vs : List Value} (h : CellsRep k as vs) : CellsRep k' as vs := ⟨h.1, fun j a u h1 h2 => ⟨(h.2 j a u h1 h2).1, (h.2 j a u h1 h2).2.step hs⟩⟩
theorem RowRep.step {k k' : Cx} (hs : Step k k') {sz : Nat} {els : List (List AV)} {vs : List Value} (h : RowRep k sz els vs) : RowRep k' sz els vs := ⟨h.1, h.2.1, fun i j e a h1 h2 => by
  obtain ⟨u, h3, h4, h5⟩ := h.2.2 i j e a h1 h2
  exact ⟨u, h3, h4, h5.step hs⟩⟩
theorem RowRep.one {k : Cx} {as : List AV} {vs : List Value} (h : CellsRep k as vs) : RowRep k as.length [as] vs := by
  refine ⟨fun i e he => ?_, by simp [h.1], fun i j e a he ha => ?_⟩
  · cases i with
    | zero => simp at he; subst he; rfl
    | succ i => simp at he
  · cases i with
    | succ i => simp at he
    | zero =>
      simp at he; subst he
      have hj : j < vs.length := by rw [h.1]; exact (List.getElem?_eq_some_iff.1 ha).1
      have hv : vs[j]? = some vs[j] := by simp [hj]
      exact ⟨vs[j], by simp, h.2 j a _ ha hv⟩
theorem RowRep.append {k : Cx} {sz : Nat} {els news : List (List AV)} {old new rest : List Value} (h : RowRep k sz els old) (h' : RowRep k sz news new) (hl : old.length = els.length * sz) : RowRep k sz (els ++ news) (old ++ new ++ rest) := by
  refine ⟨fun i e he => ?_, ?_, fun i j e a he ha => ?_⟩
  · rcases Nat.lt_or_ge i els.length with hlt | hge
    · rw [List.getElem?_append_left hlt] at he; exact h.1 i e he
    · rw [List.getElem?_append_right hge] at he; exact h'.1 _ e he
  · have := h'.2.1
    simp only [List.length_append, Nat.add_mul]
    omega
  · rcases Nat.lt_or_ge i els.length with hlt | hge
    · rw [List.getElem?_append_left hlt] at he
      obtain ⟨u, h1, h2⟩ := h.2.2 i j e a he ha
      refine ⟨u, ?_, h2⟩
      have hi := (List.getElem?_eq_some_iff.1 h1).1
      rw [List.append_assoc, List.getElem?_append_left hi]; exact h1
    · rw [List.getElem?_append_right hge] at he
      obtain ⟨u, h1, h2⟩ := h'.2.2 _ j e a he ha
      refine ⟨u, ?_, h2⟩
      have e1 : i * sz + j = old.length + ((i - els.length) * sz + j) := by
        rw [hl, ← Nat.add_assoc, ← Nat.add_mul]
        congr 2
        omega
      have hi := (List.getElem?_eq_some_iff.1 h1).1
      rw [List.append_assoc, e1, List.getElem?_append_right (by omega), Nat.add_sub_cancel_left, List.getElem?_append_left hi]
      exact h1
theorem RowRep.take {k : Cx} {sz : Nat} {els : List (List AV)} {vals : List Value} (h : RowRep k sz els vals) (n : Nat) (hn : n ≤ els.length) : RowRep k sz (els.take n) (vals.take (n * sz)) := by
  refine ⟨fun i e he => ?_, ?_, fun i j e a he ha => ?_⟩
  · rw [List.getElem?_take] at he
    split at he
    · exact h.1 i e he
    · cases he
  · have h1 := h.2.1
    have h2 : n * sz ≤ els.length * sz := Nat.mul_le_mul_right _ hn
    rw [List.length_take, List.length_take, Nat.min_eq_left hn]
    omega
  · rw [List.getElem?_take] at he
    split at he
    · rename_i hi
      obtain ⟨u, h1, h2⟩ := h.2.2 i j e a he ha
      refine ⟨u, ?_, h2⟩
      have hj : j < sz := by rw [← h.1 i e he]; exact (List.getElem?_eq_some_iff.1 ha).1
      have h3 : (i + 1) * sz ≤ n * sz := Nat.mul_le_mul_right _ hi
      rw [Nat.add_mul, Nat.one_mul] at h3
      rw [List.getElem?_take, if_pos (by omega)]
      exact h1
    · cases he
theorem RowRep.drop {k : Cx} {sz : Nat} {els : List (List AV)} {vals : List Value} (h : RowRep k sz els vals) (n : Nat) : RowRep k sz (els.drop n) (vals.drop (n * sz)) := by
  refine ⟨fun i e he => ?_, ?_, fun i j e a he ha => ?_⟩
  · rw [List.getElem?_drop] at he; exact h.1 _ e he
  · have h1 := h.2.1
    rw [List.length_drop, List.length_drop, Nat.sub_mul]
    omega
  · rw [List.getElem?_drop] at he
    obtain ⟨u, h1, h2⟩ := h.2.2 _ j e a he ha
    refine ⟨u, ?_, h2⟩
    rw [List.getElem?_drop, ← Nat.add_assoc, ← Nat.add_mul]
    exact h1
theorem RowRep.all1 {k : Cx} {sz : Nat} {els : List (List AV)} {vals : List Value} (h : RowRep k sz els vals) (hl : vals.length = els.length * sz) : ∀ u ∈ vals, u.oneCell' = true := by
  intro u hu
  obtain ⟨q, hq, rfl⟩ := List.getElem_of_mem hu
  have hsz : 0 < sz := by
    rcases Nat.eq_zero_or_pos sz with h0 | h0
    · subst h0; rw [hl] at hq; simp at hq
    · exact h0
  have hi : q / sz < els.length := by rw [Nat.div_lt_iff_lt_mul hsz]; omega
  have he : els[q / sz]? = some els[q / sz] := by simp [hi]
  have hj : q % sz < els[q / sz].length := by rw [h.1 _ _ he]; exact Nat.mod_lt _ hsz
  obtain ⟨u, h1, h2, _⟩ := h.2.2 _ (q % sz) _ _ he (List.getElem?_eq_getElem hj)
  have e1 : q / sz * sz + q % sz = q := by rw [Nat.mul_comm]; exact Nat.div_add_mod q sz
  rw [e1] at h1
  rw [List.getElem?_eq_getElem hq] at h1
  cases h1
  exact h2
theorem RowRep.obj {k : Cx} {id sz b : Nat} {elem : TypeId} {els : List (List AV)} {cs : Array Value} (hb : k.ρ id = some b) (hh : k.w.heap[b]? = some (.cells cs elem (0, 0))) (h : RowRep k sz els cs.toList) : ObjOk k id (.row sz elem els) :=
  .inr ⟨b, cs, hb, hh, h.1, by simpa using h.2.1, fun i j e a h1 h2 => by
    obtain ⟨u, h3, h4⟩ := h.2.2 i j e a h1 h2
    exact ⟨u, by simpa [← Array.getElem?_toList] using h3, h4⟩⟩
theorem ObjOk.row {k : Cx} {id sz b : Nat} {elem : TypeId} {els : List (List AV)} (h : ObjOk k id (.row sz elem els)) (hb : k.ρ id = some b) : ∃ cs, k.w.heap[b]? = some (.cells cs elem (0, 0)) ∧ RowRep k sz els cs.toList := by
  rcases h with ⟨h1, _⟩ | ⟨b', cs, h1, h2, h3, h4, h5⟩
  · rw [h1] at hb; cases hb
  · rw [h1] at hb
    cases hb
    refine ⟨cs, h2, h3, by simpa using h4, fun i j e a he ha => ?_⟩
    obtain ⟨u, h6, h7⟩ := h5 i j e a he ha
    exact ⟨u, by simpa [← Array.getElem?_toList] using h6, h7⟩

/-- A value's cells. -/
def cellsOf : AV → Option (List AV)
  | .agg cs => some cs
  | .tup _ => none
  | .mb _ _ => none
  | a => some [a]
theorem one_of_rep {k : Cx} {a : AV} {u : Value} (h : Rep k a u) (ha : ∀ cs, a ≠ .agg cs) (ht : ∀ cs, a ≠ .tup cs) (hm : ∀ c b, a ≠ .mb c b) : u.oneCell' = true := by
  cases h with
  | v h => exact h
  | agg => exact absurd rfl (ha _)
  | tup => exact absurd rfl (ht _)
  | mb => exact absurd rfl (hm _ _)
  | _ => rfl
theorem rep_cells {k : Cx} {a : AV} {u : Value} (h : Rep k a u) {cs : List AV} (hc : cellsOf a = some cs) : CellsRep k cs u.cells.toList := by
  have single : ∀ {a : AV} {u : Value}, Rep k a u → u.oneCell' = true → CellsRep k [a] u.cells.toList := fun {a u} h h1 => by
    have e1 : u.cells = #[u] := by cases u <;> first | rfl | (simp [Value.oneCell'] at h1)
    rw [e1]
    refine ⟨rfl, fun j b v hb hv => ?_⟩
    cases j with
    | succ j => simp at hb
    | zero => simp at hb hv; subst hb; subst hv; exact ⟨h1, h⟩
  cases a with
  | agg l =>
    simp only [cellsOf, Option.some.injEq] at hc
    subst hc
    cases h with
    | agg hl h1 h2 =>
      exact ⟨by simp [Value.cells, hl], fun j b v hb hv => ⟨h1 j v (by simpa [Value.cells] using hv), h2 j b v hb (by simpa [Value.cells] using hv)⟩⟩
  | tup l => cases hc
  | mb c b => cases hc
  | _ => cases hc; exact single h (one_of_rep h (by simp) (by simp) (by simp))

section
variable {P : Program} {o : Oper} {E : Operand → Option AV} {σ : St} {R : Option AV → St → Prop}

/-! ### Types as the program has them -/
/-- A number, written out. -/
def litL : List Nat → Nat → Option Nat
  | [], n => some n
  | k :: l, n => if n = k then some k else litL l n
def lit? (n : Nat) : Option Nat := litL [0, 1, 2, 3, 4, 5, 6, 7, 8, 9, 10, 11, 12, 13, 14, 15, 16] n
theorem litL_eq : ∀ (l : List Nat) {n m : Nat}, litL l n = some m → m = n
  | [], n, m, h => by injection h with h; exact h.symm
  | k :: l, n, m, h => by
    unfold litL at h
    by_cases hk : n = k
    · rw [if_pos hk] at h; injection h with h; omega
    · rw [if_neg hk] at h; exact litL_eq l h
theorem lit_eq {n m : Nat} (h : lit? n = some m) : m = n := litL_eq _ h
/-- none: one cell; some m: a struct or an array of m cells. -/
def shapeOf (P : Program) (t : TypeId) : Option (Option Nat) :=
  match P.underlying t with
  | some (.struct _) | some (.array _ _) => match P.info? t with
    | some i => match lit? i.size with
      | some m => some (some m)
      | none => none
    | none => none
  | some _ => some none
  | none => none
def sizeIs (P : Program) (t : TypeId) : Option Nat := match P.info? t with
  | some i => lit? i.size
  | none => none
theorem sizeIs_info {P : Program} {t : TypeId} {m : Nat} (h : sizeIs P t = some m) : ∃ i, P.info? t = some i ∧ i.size = m := by
  unfold sizeIs at h
  split at h
  · rename_i i hi; exact ⟨i, hi, (lit_eq h).symm⟩
  · cases h
def fieldAt? (P : Program) (t : TypeId) (f : Nat) : Option (Nat × TypeId) :=
  match P.underlying t with
  | some (.struct fs) => (fs[f]?).map fun fd => (fd.offset, fd.type)
  | _ => none
def part? (cs : List AV) (off : Nat) : Option Nat → Option AV
  | none => cs[off]?
  | some m => if off + m ≤ cs.length then some (.agg ((cs.drop off).take m)) else none
theorem run_isAgg {t : TypeId} {q : Option Nat} (h : shapeOf P t = some q) (w : World) : (isAgg t).run P w = .ok q.isSome w ∧ ∀ m, q = some m → (sizeOf t).run P w = .ok m w := by
  have big : ∀ q', (match P.info? t with
    | some i => match lit? i.size with
      | some m => some (some m)
      | none => none
    | none => none) = some q' → q'.isSome = true ∧ ∀ m, q' = some m → (sizeOf t).run P w = .ok m w := by
    intro q' h
    split at h
    · rename_i i hi
      split at h
      · rename_i m hm
        cases h
        refine ⟨rfl, fun m' hm' => ?_⟩
        cases hm'
        rw [lit_eq hm]
        simp [sizeOf, typeInfo, hi]
      · cases h
    · cases h
  unfold shapeOf at h
  unfold isAgg
  split at h
  · rename_i fs hu
    obtain ⟨h1, h2⟩ := big q h
    exact ⟨by simp [run_underlying hu, h1], h2⟩
  · rename_i n e hu
    obtain ⟨h1, h2⟩ := big q h
    exact ⟨by simp [run_underlying hu, h1], h2⟩
  · rename_i d h1 h2 hu
    cases h
    refine ⟨?_, fun m hm => by cases hm⟩
    cases d <;> simp_all [run_underlying hu]
  · cases h
theorem run_sizeIs {t : TypeId} {m : Nat} (h : sizeIs P t = some m) (w : World) : (sizeOf t).run P w = .ok m w := by
  obtain ⟨i, hi, rfl⟩ := sizeIs_info h
  simp [sizeOf, typeInfo, hi]
theorem run_part {k : Cx} {t : TypeId} {q : Option Nat} (h : shapeOf P t = some q) {cs : List AV} {vs : Array Value} (hl : vs.size = cs.length) (h1 : ∀ (j : Nat) u, vs[j]? = some u → u.oneCell' = true) (hc : ∀ (j : Nat) a u, cs[j]? = some a → vs[j]? = some u → Rep k a u)
    {off : Nat} {av : AV} (hp : part? cs off q = some av) (w : World) : ∃ u, (part t vs off).run P w = .ok u w ∧ Rep k av u := by
  obtain ⟨h2, h3⟩ := run_isAgg h w
  unfold part
  cases q with
  | none =>
    simp only [part?] at hp
    have hlt : off < vs.size := by rw [hl]; exact (List.getElem?_eq_some_iff.1 hp).1
    have hv : vs[off]? = some vs[off] := by simp [hlt]
    refine ⟨vs[off], ?_, hc off av _ hp hv⟩
    simp only [Sem.run_bind, h2, Result.andThen_ok, Option.isSome_none, Bool.false_eq_true, if_false, hv]
    rfl
  | some m =>
    simp only [part?] at hp
    split at hp
    · rename_i hm
      cases hp
      refine ⟨.agg (vs.extract off (off + m)), ?_, ?_⟩
      · simp only [Sem.run_bind, h2, Result.andThen_ok, Option.isSome_some, if_true, h3 m rfl, Sem.run_pure]
      · have hget : ∀ j : Nat, (vs.extract off (off + m))[j]? = if j < m then vs[off + j]? else none := by
          intro j
          rw [Array.getElem?_extract]
          have : min (off + m) vs.size - off = m := by omega
          rw [this]
        refine .agg (by simp; omega) (fun j u hu => ?_) (fun j a u ha hu => ?_)
        · rw [hget] at hu
          split at hu
          · exact h1 _ u hu
          · cases hu
        · rw [hget] at hu
          rw [List.getElem?_take] at ha
          split at hu
          · rename_i hj
            rw [if_pos hj, List.getElem?_drop] at ha
            exact hc _ a u ha hu
          · cases hu
    · cases hp
theorem opj_field {t : TypeId} {x : Operand} {f off : Nat} {ft : TypeId} {q : Option Nat} {cs : List AV} {av : AV} (ho : o.op = .field t x f) (hf : fieldAt? P t f = some (off, ft)) (hq : shapeOf P ft = some q) (hx : E x = some (.agg cs)) (hp : part? cs off q = some av) (hR : R (some av) σ) : OpJ P o E σ R :=
  opj_quiet av (fun k e hσ hk hr => by
    have h := hr x (by rw [ho]; simp [Op.operands]) _ hx
    generalize hu : e x = u at h
    cases h with
    | agg hl h1 hc =>
      obtain ⟨v, h2, h3⟩ := run_part (P := P) hq hl h1 hc hp k.w
      refine ⟨v, ?_, h3⟩
      unfold fieldAt? at hf
      split at hf
      · rename_i fs hs
        cases hfd : fs[f]? with
        | none => simp [hfd] at hf
        | some fd =>
          simp only [hfd, Option.map_some, Option.some.injEq, Prod.mk.injEq] at hf
          obtain ⟨rfl, rfl⟩ := hf
          unfold execOp
          simp only [ho, hu, Instr.field, Sem.run_bind, run_underlying hs, Result.andThen_ok, hfd, asAgg, Sem.run_pure, h2]
      · cases hf) hR

/-! ### Addresses -/
def fieldOff (P : Program) (t : TypeId) (f : Nat) : Option Nat :=
  match fieldAt? P t f with
  | some (off, ft) => match sizeIs P ft with
    | some (_ + 1) => lit? off
    | _ => none
  | none => none
theorem run_fieldAt {t : TypeId} {f off : Nat} (h : fieldOff P t f = some off) (b p : Nat) (w : World) : (Instr.fieldAt t (.pointer (some ⟨b, p, none⟩)) f).run P w = .ok (.pointer (some ⟨b, p + off, none⟩)) w := by
  unfold fieldOff at h
  split at h
  · rename_i off' ft hf
    split at h
    · rename_i n hs
      obtain rfl := lit_eq h
      unfold fieldAt? at hf
      split at hf
      · rename_i fs hu
        cases hfd : fs[f]? with
        | none => simp [hfd] at hf
        | some fd =>
          simp only [hfd, Option.map_some, Option.some.injEq, Prod.mk.injEq] at hf
          obtain ⟨rfl, rfl⟩ := hf
          simp only [Instr.fieldAt, Sem.run_bind, run_underlying hu, Result.andThen_ok, hfd, Instr.sureAddr, Sem.run_pure, fieldPlace, run_sizeIs hs]
          simp [Addr.add_mid]
      · cases hf
    · cases h
  · cases h
theorem opj_fieldAddr_ptr {t : TypeId} {x : Operand} {f off id sz i j : Nat} (ho : o.op = .fieldAddr t x f) (hf : fieldOff P t f = some off) (hx : E x = some (.ptr id sz i j)) (hR : R (some (.ptr id sz i (j + off))) σ) : OpJ P o E σ R :=
  opj_quiet _ (fun k e hσ hk hr => by
    have h := hr x (by rw [ho]; simp [Op.operands]) _ hx
    generalize hu : e x = u at h
    cases h with
    | ptr ht hb =>
      rename_i b
      refine ⟨.pointer (some ⟨b, i * sz + (j + off), none⟩), ?_, .ptr ht hb⟩
      unfold execOp
      simp only [ho, hu, Sem.run_bind, run_fieldAt hf, Result.andThen_ok, Sem.run_pure, Nat.add_assoc]) hR
theorem opj_fieldAddr_fp {t : TypeId} {x : Operand} {f off : Nat} {cs : List AV} (ho : o.op = .fieldAddr t x f) (hf : fieldOff P t f = some off) (hx : E x = some (.fp cs)) (hR : R (some (.fp (cs.drop off))) σ) : OpJ P o E σ R :=
  opj_quiet _ (fun k e hσ hk hr => by
    have h := hr x (by rw [ho]; simp [Op.operands]) _ hx
    generalize hu : e x = u at h
    cases h with
    | @fp _ b p g hfr hw hc =>
      refine ⟨.pointer (some ⟨b, p + off, none⟩), ?_, .fp (f := fun j => g (off + j)) hfr (fun j a ha => ?_) (fun j a ha => ?_)⟩
      · unfold execOp
        simp only [ho, hu, Sem.run_bind, run_fieldAt hf, Result.andThen_ok, Sem.run_pure]
      · rw [List.getElem?_drop] at ha
        have := hw _ a ha
        rwa [← Nat.add_assoc] at this
      · rw [List.getElem?_drop] at ha
        exact hc _ a ha) hR
theorem run_indexAt {t e : TypeId} {sz : Nat} (ht : P.underlying t = some (.slice e)) (hs : sizeIs P e = some sz) (b p n c : Nat) (kk : IntKind) (i : Int) (h0 : 0 ≤ i) (h1 : i < n) (w : World) :
    (Instr.indexAt t (.slice (some ⟨b, p, none⟩) n c) (.int kk i)).run P w = .ok (.pointer (some ⟨b, p + i.toNat * sz, none⟩)) w := by
  simp only [Instr.indexAt, asIntOf, Sem.run_bind, Sem.run_pure, Result.andThen_ok, run_underlying ht]
  rw [if_pos ⟨h0, h1⟩]
  simp only [Sem.run_bind, run_sizeIs hs, Result.andThen_ok, Sem.run_pure, Addr.add_mid]
theorem opj_indexAddr_sl {t et : TypeId} {x ix : Operand} {nl : Option Bool} {full : Bool} {sz : Nat} {els : List (List AV)} {kk : IntKind} {i : Int} {el : List AV} (ho : o.op = .indexAddr t x ix) (ht : P.underlying t = some (.slice et)) (hs : sizeIs P et = some sz) (hx : E x = some (.sl nl full sz els)) (hi : E ix = some (.v (.int kk i)))
    (h0 : 0 ≤ i) (hel : els[i.toNat]? = some el) (hR : R (some (.fp el)) σ) : OpJ P o E σ R :=
  opj_quiet _ (fun k e hσ hk hr => by
    have h := hr x (by rw [ho]; simp [Op.operands]) _ hx
    have h2 := rep_v (hr ix (by rw [ho]; simp [Op.operands]) _ hi)
    have hlt := (List.getElem?_eq_some_iff.1 hel).1
    generalize hu : e x = u at h
    cases h with
    | slnil => simp at hlt
    | sle => simp at hlt
    | @sl _ _ _ _ b p cap g hn hc hm hf hsz hfr hw hcc =>
      refine ⟨.pointer (some ⟨b, p + i.toNat * sz, none⟩), ?_, .fp (f := fun j => g i.toNat j) (hfr (ne_nil_of_get hel)) (fun j a ha => ?_) (fun j a ha => hcc _ j _ a hel ha)⟩
      · unfold execOp
        simp only [ho, hu, h2, Sem.run_bind, run_indexAt ht hs b p els.length cap kk i h0 (by omega), Result.andThen_ok, Sem.run_pure]
      · have := hw _ j _ a hel ha
        rwa [← Nat.add_assoc] at this) hR
theorem opj_indexAddr_osl {t et : TypeId} {x ix : Operand} {id sz off len : Nat} {kk : IntKind} {i : Int} (ho : o.op = .indexAddr t x ix) (ht : P.underlying t = some (.slice et)) (hs : sizeIs P et = some sz) (hx : E x = some (.osl id sz off len)) (hi : E ix = some (.v (.int kk i)))
    (h0 : 0 ≤ i) (h1 : i < len) (hR : R (some (.ptr id sz (off + i.toNat) 0)) σ) : OpJ P o E σ R :=
  opj_quiet _ (fun k e hσ hk hr => by
    have h := hr x (by rw [ho]; simp [Op.operands]) _ hx
    have h2 := rep_v (hr ix (by rw [ho]; simp [Op.operands]) _ hi)
    generalize hu : e x = u at h
    cases h with
    | oslnil => omega
    | @osl _ _ _ _ b cap p ht' hb hp hl hm hsz =>
      have hpo := hp (by omega)
      subst hpo
      refine ⟨.pointer (some ⟨b, (off + i.toNat) * sz + 0, none⟩), ?_, .ptr ht' hb⟩
      unfold execOp
      simp only [ho, hu, h2, Sem.run_bind, run_indexAt ht hs b _ len cap kk i h0 h1, Result.andThen_ok, Sem.run_pure, Nat.add_mul, Nat.add_zero]) hR

/-! ### Loads -/
def load? (cs : List AV) : Option Nat → Option AV
  | none => cs.head?
  | some m => if m ≤ cs.length then some (.agg (cs.take m)) else none
theorem run_loadV {k : Cx} {t : TypeId} {q : Option Nat} (h : shapeOf P t = some q) {cs : List AV} {b p : Nat} (hc : ∀ (j : Nat) a, cs[j]? = some a → ∃ u, k.w.cell? ⟨b, p + j, none⟩ = some u ∧ u.oneCell' = true ∧ Rep k a u)
    {av : AV} (hp : load? cs q = some av) : ∃ u, (loadVar t ⟨b, p, none⟩).run P k.w = .ok u k.w ∧ Rep k av u := by
  obtain ⟨h2, h3⟩ := run_isAgg h k.w
  cases q with
  | none =>
    cases cs with
    | nil => simp [load?] at hp
    | cons a l =>
      simp only [load?, List.head?_cons, Option.some.injEq] at hp
      subst hp
      obtain ⟨u, h4, h5, h6⟩ := hc 0 a rfl
      refine ⟨u, ?_, h6⟩
      unfold loadVar
      simp only [Sem.run_bind, h2, Result.andThen_ok, Option.isSome_none, Bool.false_eq_true, if_false]
      rw [Go.run_load]
      simp only [Nat.add_zero] at h4
      rw [h4]
  | some m =>
    simp only [load?] at hp
    split at hp
    · rename_i hm
      cases hp
      let f : Nat → Value := fun j => (k.w.cell? ⟨b, p + j, none⟩).getD undef
      have hf : ∀ j : Nat, j < m → k.w.cell? ⟨b, p + j, none⟩ = some (f j) := fun j hj => by
        obtain ⟨u, h4, _⟩ := hc j cs[j] (List.getElem?_eq_getElem (by omega))
        simp [f, h4]
      have hrun := run_loadCells_list (P := P) k.w ⟨b, p, none⟩ ((List.range m).map f) (fun j v hv => by
        rw [Addr.add_mid]
        have hjm : j < m := by have := (List.getElem?_eq_some_iff.1 hv).1; simpa using this
        simp [hjm] at hv
        subst hv
        exact hf j hjm)
      refine ⟨.agg ((List.range m).map f).toArray, ?_, ?_⟩
      · unfold loadVar
        simp only [Sem.run_bind, h2, Result.andThen_ok, Option.isSome_some, if_true, h3 m rfl]
        have hrun' := hrun
        simp only [List.length_map, List.length_range] at hrun'
        simp only [hrun', Result.andThen_ok, Sem.run_pure]
      · refine .agg (by simp; omega) (fun j u hu => ?_) (fun j a u ha hu => ?_)
        · have hj : j < m := by
            have := (Array.getElem?_eq_some_iff.1 hu).1
            simpa using this
          have : u = f j := by simpa [hj] using hu.symm
          subst this
          obtain ⟨u, h4, h5, _⟩ := hc j cs[j] (List.getElem?_eq_getElem (by omega))
          rw [hf j hj] at h4
          cases h4
          exact h5
        · have hj : j < m := by
            have := (Array.getElem?_eq_some_iff.1 hu).1
            simpa using this
          have : u = f j := by simpa [hj] using hu.symm
          subst this
          rw [List.getElem?_take, if_pos hj] at ha
          obtain ⟨u, h4, _, h6⟩ := hc j a ha
          rw [hf j hj] at h4
          cases h4
          exact h6
    · cases hp
theorem opj_load_fp {t : TypeId} {x : Operand} {q : Option Nat} {cs : List AV} {av : AV} (ho : o.op = .load t x) (hq : shapeOf P t = some q) (hx : E x = some (.fp cs)) (hp : load? cs q = some av) (hR : R (some av) σ) : OpJ P o E σ R :=
  opj_quiet _ (fun k e hσ hk hr => by
    have h := hr x (by rw [ho]; simp [Op.operands]) _ hx
    generalize hu : e x = u at h
    cases h with
    | @fp _ b p g hfr hw hc =>
      obtain ⟨v, h1, h2⟩ := run_loadV (P := P) (k := k) hq (fun j a ha => ⟨g j, (hw j a ha).1, (hw j a ha).2, hc j a ha⟩) hp
      refine ⟨v, ?_, h2⟩
      unfold execOp
      simp only [ho, hu, Instr.loadAt, Instr.sureAddr, Sem.run_bind, Sem.run_pure, Result.andThen_ok, h1]) hR
theorem row_cell {k : Cx} (hk : Ok k) {id sz b : Nat} {elem : TypeId} {els : List (List AV)} (hσ : k.σ id = some (.row sz elem els)) (hb : k.ρ id = some b) {i j : Nat} {el : List AV} {a : AV} (he : els[i]? = some el) (ha : el[j]? = some a) :
    ∃ u, k.w.cell? ⟨b, i * sz + j, none⟩ = some u ∧ u.oneCell' = true ∧ Rep k a u := by
  obtain ⟨cs, h1, h2⟩ := (hk.obj id _ hσ).row hb
  obtain ⟨u, h3, h4⟩ := h2.2.2 i j el a he ha
  refine ⟨u, ?_, h4⟩
  rw [cell_of_row k.w b _ cs elem (0, 0) h1]
  simpa [← Array.getElem?_toList] using h3
theorem opj_load_ptr {t : TypeId} {x : Operand} {q : Option Nat} {id sz i j : Nat} {elem : TypeId} {els : List (List AV)} {el : List AV} {av : AV} (ho : o.op = .load t x) (hq : shapeOf P t = some q) (hx : E x = some (.ptr id sz i j)) (hσ : σ id = some (.row sz elem els)) (he : els[i]? = some el) (hp : load? (el.drop j) q = some av) (hR : R (some av) σ) : OpJ P o E σ R :=
  opj_quiet _ (fun k e hσ' hk hr => by
    have h := hr x (by rw [ho]; simp [Op.operands]) _ hx
    subst hσ'
    generalize hu : e x = u at h
    cases h with
    | ptr ht hb =>
      rename_i b
      obtain ⟨v, h1, h2⟩ := run_loadV (P := P) (k := k) (b := b) (p := i * sz + j) hq (fun n a ha => by
        rw [List.getElem?_drop] at ha
        have := row_cell hk hσ hb he ha
        rwa [← Nat.add_assoc] at this) hp
      refine ⟨v, ?_, h2⟩
      unfold execOp
      simp only [ho, hu, Instr.loadAt, Instr.sureAddr, Sem.run_bind, Sem.run_pure, Result.andThen_ok, h1]) hR

/-! ### Stores -/
theorem Ok.setRow {k : Cx} (hk : Ok k) {id b : Nat} {elem : TypeId} {cs cs' : Array Value} {o' : AObj} (hid : k.σ id ≠ none) (hb : k.ρ id = some b) (hh : k.w.heap[b]? = some (.cells cs elem (0, 0))) (hz : cs'.size = cs.size)
    (ho : ∀ k', Step k k' → k'.ρ id = some b → k'.w.heap[b]? = some (.cells cs' elem (0, 0)) → ObjOk k' id o') :
    Ok { k with σ := k.σ.set id o', w := k.w.setRow b cs' } ∧ Step k { k with σ := k.σ.set id o', w := k.w.setRow b cs' } := by
  have hblt := (hk.bas id b hid hb).2
  have hother : ∀ x, x ≠ b → (k.w.setRow b cs').heap[x]? = k.w.heap[x]? := fun x hx => setRow_other _ _ _ _ hx
  have hsame : (k.w.setRow b cs').heap[b]? = some (.cells cs' elem (0, 0)) := setRow_heap k.w b cs cs' elem (0, 0) hh
  have hne : ∀ x, k.σ.set id o' x ≠ none ↔ k.σ x ≠ none := fun x => by
    by_cases hx : x = id
    · subst hx; simp [St.set, hid]
    · simp [St.set, hx]
  have hlive : ∀ x, ({ k with σ := k.σ.set id o', w := k.w.setRow b cs' } : Cx).live x → k.live x := fun x ⟨i, h1, h2⟩ => ⟨i, (hne i).1 h1, h2⟩
  have hs : Step k { k with σ := k.σ.set id o', w := k.w.setRow b cs' } := by
    refine ⟨Nat.le_refl _, fun _ _ => rfl, rfl, rfl, rfl, rfl, by simp, fun x h1 h2 => ⟨hother x (fun e => h2 (e ▸ ⟨id, hid, hb⟩)), fun h => h2 (hlive x h)⟩, fun x c t f hx => ?_⟩
    by_cases hxb : x = b
    · subst hxb
      rw [hh] at hx
      cases hx
      exact ⟨cs', (0, 0), hsame, hz⟩
    · exact ⟨c, f, (hother x hxb).trans hx, rfl⟩
  refine ⟨⟨fun x h => hk.dom x ((hne x).1 h), fun x y c h1 h2 => hk.inj x y c ((hne x).1 h1) ((hne y).1 h2), fun x c h1 h2 => ?_, by simpa using hk.hb, fun x ob hx => ?_, hk.ground hs⟩, hs⟩
  · obtain ⟨h3, h4⟩ := hk.bas x c ((hne x).1 h1) h2
    exact ⟨h3, by simpa using h4⟩
  · by_cases hxi : x = id
    · subst hxi
      simp [St.set] at hx
      subst hx
      exact ho _ hs hb hsame
    · simp [St.set, hxi] at hx
      have hd : k.σ x ≠ none := by rw [hx]; simp
      exact (hk.obj x ob hx).step hs (hk.dom x hd) fun c hc => hother c fun e => hxi (hk.inj x id b hd hid (e ▸ hc) hb)
theorem RowRep.store {k : Cx} {sz : Nat} {els : List (List AV)} {vals : List Value} (h : RowRep k sz els vals) {i j : Nat} {el : List AV} (he : els[i]? = some el) {as : List AV} {vs : List Value} (hc : CellsRep k as vs) (hj : j + as.length ≤ el.length) :
    RowRep k sz (els.set i (el.take j ++ as ++ el.drop (j + as.length))) (vals.take (i * sz + j) ++ vs ++ vals.drop (i * sz + j + vs.length)) := by
  have hel := h.1 i el he
  have hi := (List.getElem?_eq_some_iff.1 he).1
  have hfit : i * sz + j + vs.length ≤ vals.length := by
    have h1 : (i + 1) * sz ≤ els.length * sz := Nat.mul_le_mul_right _ hi
    rw [Nat.add_mul, Nat.one_mul] at h1
    have := h.2.1
    have := hc.1
    omega
  have hlen : (el.take j ++ as ++ el.drop (j + as.length)).length = sz := by
    simp only [List.length_append, List.length_take, List.length_drop]
    omega
  have hget : ∀ q : Nat, (vals.take (i * sz + j) ++ vs ++ vals.drop (i * sz + j + vs.length))[q]? = if q < i * sz + j then vals[q]? else if q < i * sz + j + vs.length then vs[q - (i * sz + j)]? else vals[q]? := by
    intro q
    rw [List.append_assoc, List.getElem?_append]
    simp only [List.length_take]
    by_cases h1 : q < i * sz + j
    · rw [if_pos (by omega), if_pos h1, List.getElem?_take, if_pos h1]
    · rw [if_neg (by omega), if_neg h1, List.getElem?_append]
      have e1 : min (i * sz + j) vals.length = i * sz + j := by omega
      rw [e1]
      by_cases h2 : q < i * sz + j + vs.length
      · rw [if_pos (by omega), if_pos h2]
      · rw [if_neg (by omega), if_neg h2, List.getElem?_drop]
        congr 1
        omega
  refine ⟨fun n e hn => ?_, ?_, fun n m e a hn hm => ?_⟩
  · rw [List.getElem?_set] at hn
    split at hn
    · cases hn; exact hlen
    · exact h.1 n e hn
  · have := h.2.1
    simp only [List.length_set, List.length_append, List.length_take, List.length_drop]
    omega
  · rw [hget]
    rw [List.getElem?_set] at hn
    by_cases hni : i = n
    · subst hni
      rw [if_pos rfl, if_pos hi] at hn
      cases hn
      rw [List.append_assoc, List.getElem?_append] at hm
      simp only [List.length_take] at hm
      have e1 : min j el.length = j := by omega
      rw [e1] at hm
      by_cases h1 : m < j
      · rw [if_pos h1, List.getElem?_take, if_pos h1] at hm
        rw [if_pos (by omega)]
        exact h.2.2 i m el a he hm
      · rw [if_neg h1, List.getElem?_append] at hm
        rw [if_neg (by omega)]
        by_cases h2 : m - j < as.length
        · rw [if_pos h2] at hm
          rw [if_pos (by rw [hc.1]; omega)]
          have e2 : i * sz + m - (i * sz + j) = m - j := by omega
          rw [e2]
          have hlt : m - j < vs.length := by rw [hc.1]; exact h2
          have hv : vs[m - j]? = some vs[m - j] := by simp [hlt]
          exact ⟨_, hv, hc.2 _ a _ hm hv⟩
        · rw [if_neg h2, List.getElem?_drop] at hm
          rw [if_neg (by rw [hc.1]; omega)]
          have e2 : j + as.length + (m - j - as.length) = m := by omega
          rw [e2] at hm
          exact h.2.2 i m el a he hm
    · rw [if_neg hni] at hn
      obtain ⟨u, h1, h2⟩ := h.2.2 n m e a hn hm
      refine ⟨u, ?_, h2⟩
      have hms : m < sz := by rw [← h.1 n e hn]; exact (List.getElem?_eq_some_iff.1 hm).1
      rcases Nat.lt_or_ge n i with hlt | hge
      · have h3 : (n + 1) * sz ≤ i * sz := Nat.mul_le_mul_right _ hlt
        rw [Nat.add_mul, Nat.one_mul] at h3
        rw [if_pos (by omega)]
        exact h1
      · have hgt : i < n := by omega
        have h3 : (i + 1) * sz ≤ n * sz := Nat.mul_le_mul_right _ hgt
        rw [Nat.add_mul, Nat.one_mul] at h3
        have := hc.1
        rw [if_neg (by omega), if_neg (by omega)]
        exact h1
theorem opj_store {t elem : TypeId} {x y : Operand} {id sz i j m : Nat} {els : List (List AV)} {el cs : List AV} {av : AV} (ho : o.op = .store t x y) (hm : sizeIs P t = some m) (hx : E x = some (.ptr id sz i j)) (hy : E y = some av) (hσ : σ id = some (.row sz elem els)) (he : els[i]? = some el) (hc : cellsOf av = some cs) (hl : cs.length = m) (hj : j + cs.length ≤ el.length)
    (hR : R none (σ.set id (.row sz elem (els.set i (el.take j ++ cs ++ el.drop (j + cs.length)))))) : OpJ P o E σ R := fun k e hσ' hk hr => by
  subst hσ'
  have hxr := hr x (by rw [ho]; simp [Op.operands]) _ hx
  have hyr := rep_cells (hr y (by rw [ho]; simp [Op.operands]) _ hy) hc
  generalize hu : e x = u at hxr
  cases hxr with
  | ptr ht hb =>
    rename_i b
    have hd : k.σ id ≠ none := by rw [hσ]; simp
    obtain ⟨c, h1, h2⟩ := (hk.obj id _ hσ).row hb
    have hrow := h2.store he hyr hj
    have hfit : i * sz + j + 0 + (e y).cells.toList.length ≤ c.size := by
      have h3 := (List.getElem?_eq_some_iff.1 he).1
      have h4 : (i + 1) * sz ≤ els.length * sz := Nat.mul_le_mul_right _ h3
      rw [Nat.add_mul, Nat.one_mul] at h4
      have h5 := h2.2.1
      have h6 := h2.1 i el he
      have h7 := hyr.1
      simp only [Array.length_toList] at h5 h7 ⊢
      omega
    have hst := run_storeCells_at P b (i * sz + j) elem (e y).cells.toList 0 c k.w h1 hfit (fun v hv => by
      obtain ⟨q, hq, rfl⟩ := List.getElem_of_mem hv
      exact (hyr.2 q (cs[q]'(by rw [← hyr.1]; exact hq)) _ (List.getElem?_eq_getElem _) (List.getElem?_eq_getElem hq)).1)
    simp only [Nat.add_zero] at hst
    obtain ⟨hok, hstep⟩ := hk.setRow (o' := .row sz elem (els.set i (el.take j ++ cs ++ el.drop (j + cs.length)))) (cs' := (c.toList.take (i * sz + j) ++ (e y).cells.toList ++ c.toList.drop (i * sz + j + (e y).cells.toList.length)).toArray) hd hb h1 (by
      simp only [List.size_toArray, List.length_append, List.length_take, List.length_drop, Array.length_toList] at hfit ⊢
      omega) (fun k' hs hb' hh' => RowRep.obj hb' hh' (by simpa using hrow.step hs))
    refine ⟨_, .skip, none, ?_, hok, hstep, hR, rfl⟩
    have hcs : (e y).cells.size = m := by
      have := hyr.1
      simp only [Array.length_toList] at this
      omega
    unfold execOp
    simp only [ho, hu, Instr.storeAt, Instr.sureAddr, storeVar, Sem.run_bind, Sem.run_pure, Result.andThen_ok, run_sizeIs hm, hcs, ne_eq, not_true_eq_false, if_false, hst]

/-! ### New variables -/
theorem opj_new {k : Cx} (hk : Ok k) {elem : TypeId} {as : List AV} {vs : List Value} (hc : CellsRep k as vs) {k' : Cx} (hk' : k' = k.add (some k.w.heap.size) (.row as.length elem [as]) (k.w.alloc (.cells vs.toArray elem))) :
    Ok k' ∧ Step k k' ∧ Rep k' (.ptr k.top as.length 0 0) (.pointer (some ⟨k.w.heap.size, 0, none⟩)) := by
  subst hk'
  have hs := hk.add_step (.cells vs.toArray elem) (.row as.length elem [as])
  refine ⟨hk.add _ _ (RowRep.obj (b := k.w.heap.size) (cs := vs.toArray) (by simp [Cx.add]) (heap_alloc_new _ _) (by simpa using (RowRep.one hc).step hs)), hs, ?_⟩
  have := Rep.ptr (k := k.add (some k.w.heap.size) (.row as.length elem [as]) (k.w.alloc (.cells vs.toArray elem))) (id := k.top) (sz := as.length) (i := 0) (j := 0) (b := k.w.heap.size) (by simp [Cx.add]) (by simp [Cx.add])
  simpa using this
def zeroIs (P : Program) (t : TypeId) : Option (List AV) := match P.info? t with
  | some i => match i.zero with
    | some z => if z.cells.toList.all (·.oneCell') then some (z.cells.toList.map ofLeaf) else none
    | none => none
  | none => none
theorem run_zeroIs {t : TypeId} {as : List AV} (h : zeroIs P t = some as) (k : Cx) : ∃ z, (∀ w, (zeroValue t).run P w = .ok z w) ∧ CellsRep k as z.cells.toList := by
  unfold zeroIs at h
  split at h
  · rename_i i hi
    split at h
    · rename_i z hz
      split at h
      · rename_i hall
        cases h
        refine ⟨z, fun w => by simp [zeroValue, typeInfo, hi, hz], by simp, fun j a u ha hu => ?_⟩
        have h1 : u.oneCell' = true := by
          rw [List.all_eq_true] at hall
          exact hall _ (List.mem_of_getElem? hu)
        refine ⟨h1, ?_⟩
        simp only [List.getElem?_map, hu, Option.map_some, Option.some.injEq] at ha
        subst ha
        exact rep_ofLeaf k u h1
      · cases h
    · cases h
  · cases h
theorem opj_alloc {elem : TypeId} {as : List AV} (ho : o.op = .alloc elem) (hz : zeroIs P elem = some as) (hR : ∀ id, σ id = none → R (some (.ptr id as.length 0 0)) (σ.set id (.row as.length elem [as]))) : OpJ P o E σ R := fun k e hσ hk hr => by
  subst hσ
  obtain ⟨z, h1, h2⟩ := run_zeroIs hz k
  obtain ⟨h3, h4, h5⟩ := opj_new hk (elem := elem) h2 rfl
  refine ⟨_, .value (.pointer (some ⟨k.w.heap.size, 0, none⟩)), some (.ptr k.top as.length 0 0), ?_, h3, h4, hR k.top hk.fresh, _, rfl, h5⟩
  unfold execOp
  simp only [ho, Instr.alloc, newVar, newRow, Sem.run_bind, Sem.run_pure, Result.andThen_ok, h1, run_newObj]
  rfl
theorem opj_box {elem : TypeId} {x : Operand} {av : AV} {as : List AV} (ho : o.op = .box elem x) (hx : E x = some av) (hc : cellsOf av = some as) (hR : ∀ id, σ id = none → R (some (.ptr id as.length 0 0)) (σ.set id (.row as.length elem [as]))) : OpJ P o E σ R := fun k e hσ hk hr => by
  subst hσ
  have h2 := rep_cells (hr x (by rw [ho]; simp [Op.operands]) _ hx) hc
  obtain ⟨h3, h4, h5⟩ := opj_new hk (elem := elem) h2 rfl
  refine ⟨_, .value (.pointer (some ⟨k.w.heap.size, 0, none⟩)), some (.ptr k.top as.length 0 0), ?_, h3, h4, hR k.top hk.fresh, _, rfl, h5⟩
  unfold execOp
  simp only [ho, Instr.box, newVar, newRow, Sem.run_bind, Sem.run_pure, Result.andThen_ok, run_newObj]
  rfl
end
end Go.Proofs.YtbpoeggmpjepfaaDoor.Ab

/- Abstract values over the model's memory, 5: slices: length, cuts, literals, make, append; bytes and strings. -/
set_option linter.unusedVariables false
set_option linter.unusedSimpArgs false
set_option maxRecDepth 20000
namespace Go.Proofs.YtbpoeggmpjepfaaDoor.Ab
open Go

section
variable {P : Program} {o : Oper} {E : Operand → Option AV} {σ : St} {R : Option AV → St → Prop}

theorem rep_sl_len {k : Cx} {nl : Option Bool} {full : Bool} {sz : Nat} {els : List (List AV)} {u : Value} (h : Rep k (.sl nl full sz els) u) : ∃ a c, u = .slice a els.length c ∧ els.length ≤ maxLen := by
  cases h with
  | slnil => exact ⟨none, 0, rfl, by simp [maxLen]⟩
  | sle => exact ⟨_, 0, rfl, by simp [maxLen]⟩
  | sl hn hc hm => exact ⟨_, _, rfl, hm⟩
theorem rep_osl_len {k : Cx} {id sz off len : Nat} {u : Value} (h : Rep k (.osl id sz off len) u) : ∃ a c, u = .slice a len c ∧ len ≤ maxLen := by
  cases h with
  | oslnil => exact ⟨none, 0, rfl, by simp [maxLen]⟩
  | osl ht hb ho hl hm => exact ⟨_, _, rfl, hm⟩
theorem run_len {t e : TypeId} (ht : P.underlying t = some (.slice e)) (a : Option Addr) (n c : Nat) (ty : TypeId) (w : World) : (Builtin.len_ #[t] ty #[.slice a n c]).run P w = .ok (.int .i64 n) w := by
  simp [Builtin.len_, run_underlying ht, goInt]
theorem opj_len_sl {t e : TypeId} {x : Operand} {nl : Option Bool} {full : Bool} {sz : Nat} {els : List (List AV)} {ts : Array TypeId} (ho : o.op = .call { callee := .builtin .len, args := #[x], argTypes := ts }) (ht0 : ts = #[t]) (ht : P.underlying t = some (.slice e)) (hx : E x = some (.sl nl full sz els)) (hR : els.length ≤ maxLen → R (some (.v (.int .i64 els.length))) σ) : OpJ P o E σ R := fun k e hσ hk hr => by
  subst ht0
  obtain ⟨a, c, hu, hm⟩ := rep_sl_len (hr x (by rw [ho]; simp [Op.operands, Call.operands]) _ hx)
  refine ⟨k, .value (.int .i64 els.length), some (.v (.int .i64 els.length)), ?_, hk, .refl k, hσ ▸ hR hm, _, rfl, .v rfl⟩
  unfold execOp
  simp [ho, hu, resolve, invoke, builtin, run_len ht]
theorem opj_len_osl {t e : TypeId} {x : Operand} {id sz off len : Nat} {ts : Array TypeId} (ho : o.op = .call { callee := .builtin .len, args := #[x], argTypes := ts }) (ht0 : ts = #[t]) (ht : P.underlying t = some (.slice e)) (hx : E x = some (.osl id sz off len)) (hR : len ≤ maxLen → R (some (.v (.int .i64 len))) σ) : OpJ P o E σ R := fun k e hσ hk hr => by
  subst ht0
  obtain ⟨a, c, hu, hm⟩ := rep_osl_len (hr x (by rw [ho]; simp [Op.operands, Call.operands]) _ hx)
  refine ⟨k, .value (.int .i64 len), some (.v (.int .i64 len)), ?_, hk, .refl k, hσ ▸ hR hm, _, rfl, .v rfl⟩
  unfold execOp
  simp [ho, hu, resolve, invoke, builtin, run_len ht]

/-! ### Cuts -/
theorem run_cut {t e : TypeId} {sz : Nat} (ht : P.underlying t = some (.slice e)) (hs : sizeIs P e = some sz) (a : Option Addr) (n c l h : Nat) (lo hi : Option Value) (w : World)
    (hb : (Instr.sliceBounds true n c lo hi none).run P w = .ok (l, h, c) w) : (Instr.sliceAt t (.slice a n c) lo hi none).run P w = .ok (.slice (if c = l then a else a.map (·.add (l * sz))) (h - l) (c - l)) w := by
  simp only [Instr.sliceAt, Sem.run_bind, run_underlying ht, Result.andThen_ok, Instr.slice, hb, run_sizeIs hs, Sem.run_pure]
theorem opj_cut_sl {t et : TypeId} {x : Operand} {lo hi : Option Operand} {nl : Option Bool} {full : Bool} {sz : Nat} {els : List (List AV)} {l h : Int} (ho : o.op = .slice t x lo hi none) (ht : P.underlying t = some (.slice et)) (hs : sizeIs P et = some sz) (hx : E x = some (.sl nl full sz els)) (hlo : bound E 0 lo = some l) (hhi : bound E els.length hi = some h)
    (h0 : 0 ≤ l) (h1 : l ≤ h) (h2 : h ≤ els.length) (hR : R (some (.sl nl false sz ((els.take h.toNat).drop l.toNat))) σ) : OpJ P o E σ R :=
  opj_quiet _ (fun k e hσ hk hr => by
    have hrx := hr x (by rw [ho]; simp [Op.operands]) _ hx
    have hbl := bound_lo hr hlo (fun y hy => by rw [ho]; subst hy; simp [Op.operands]) h0
    have hbh := bound_lo hr hhi (fun y hy => by rw [ho]; subst hy; simp [Op.operands]) (by omega)
    generalize hu : e x = u at hrx
    cases hrx with
    | slnil hn =>
      have hl0 : l = 0 := by simp at h2; omega
      have hh0 : h = 0 := by simp at h2; omega
      subst hl0; subst hh0
      have hb := run_bounds (P := P) k.w true 0 (lo.map e) (hi.map e) 0 0 hbl hbh 0 (by omega) (by omega) (by omega)
      refine ⟨.slice none 0 0, ?_, by simpa using Rep.slnil (k := k) (nl := nl) (full := false) (sz := sz) hn⟩
      unfold execOp
      simp only [ho, hu, Option.map_none, Sem.run_bind, run_cut ht hs none 0 0 0 0 _ _ k.w hb, Result.andThen_ok, Sem.run_pure]
      simp
    | @sle _ _ _ ad hn =>
      have hl0 : l = 0 := by simp at h2; omega
      have hh0 : h = 0 := by simp at h2; omega
      subst hl0; subst hh0
      have hb := run_bounds (P := P) k.w true 0 (lo.map e) (hi.map e) 0 0 hbl hbh 0 (by omega) (by omega) (by omega)
      refine ⟨.slice (some ad) 0 0, ?_, by simpa using Rep.sle (k := k) (nl := nl) (full := false) (sz := sz) (a := ad) hn⟩
      unfold execOp
      simp only [ho, hu, Option.map_none, Sem.run_bind, run_cut ht hs (some ad) 0 0 0 0 _ _ k.w hb, Result.andThen_ok, Sem.run_pure]
      simp
    | @sl _ _ _ _ b p cap f hn hc hm hf hsz hfr hw hcc =>
      have hb := run_bounds (P := P) k.w true els.length (lo.map e) (hi.map e) l.toNat h.toNat hbl hbh cap (by omega) (by omega) (by omega)
      have hlen : ((els.take h.toNat).drop l.toNat).length = h.toNat - l.toNat := by simp; omega
      have hget : ∀ (i : Nat) el, ((els.take h.toNat).drop l.toNat)[i]? = some el → els[l.toNat + i]? = some el := fun i el hi => by
        rw [List.getElem?_drop, List.getElem?_take] at hi
        split at hi
        · exact hi
        · cases hi
      refine ⟨.slice (some ⟨b, if cap = l.toNat then p else p + l.toNat * sz, none⟩) ((els.take h.toNat).drop l.toNat).length (cap - l.toNat), ?_, ?_⟩
      · unfold execOp
        simp only [ho, hu, Option.map_none, Sem.run_bind, run_cut ht hs (some ⟨b, p, none⟩) els.length cap l.toNat h.toNat _ _ k.w hb, Result.andThen_ok, Sem.run_pure, hlen]
        split <;> simp [Addr.add_mid]
      · have hpos : ∀ (i : Nat) el, ((els.take h.toNat).drop l.toNat)[i]? = some el → cap ≠ l.toNat := fun i el hi => by
          have h3 := (List.getElem?_eq_some_iff.1 (hget i el hi)).1
          omega
        refine .sl (f := fun i j => f (l.toNat + i) j) hn (by rw [hlen]; omega) (by rw [hlen]; omega) (by simp) (fun i el hi => hsz _ el (hget i el hi)) (fun hne => hfr (fun h' => hne (by simp [h']))) (fun i j el a hi hj => ?_) (fun i j el a hi hj => hcc _ j el a (hget i el hi) hj)
        rw [if_neg (hpos i el hi)]
        have := hw _ j el a (hget i el hi) hj
        have e1 : p + ((l.toNat + i) * sz + j) = p + l.toNat * sz + (i * sz + j) := by rw [Nat.add_mul]; omega
        rw [e1] at this
        exact this) hR
theorem opj_cut_osl {t et : TypeId} {x : Operand} {lo hi : Option Operand} {id sz off len : Nat} {l h : Int} (ho : o.op = .slice t x lo hi none) (ht : P.underlying t = some (.slice et)) (hs : sizeIs P et = some sz) (hx : E x = some (.osl id sz off len)) (hlo : bound E 0 lo = some l) (hhi : bound E len hi = some h)
    (h0 : 0 ≤ l) (h1 : l ≤ h) (h2 : h ≤ len) (hR : R (some (.osl id sz (off + l.toNat) (h.toNat - l.toNat))) σ) : OpJ P o E σ R :=
  opj_quiet _ (fun k e hσ hk hr => by
    have hrx := hr x (by rw [ho]; simp [Op.operands]) _ hx
    have hbl := bound_lo hr hlo (fun y hy => by rw [ho]; subst hy; simp [Op.operands]) h0
    have hbh := bound_lo hr hhi (fun y hy => by rw [ho]; subst hy; simp [Op.operands]) (by omega)
    generalize hu : e x = u at hrx
    cases hrx with
    | oslnil hid hb' =>
      have hl0 : l = 0 := by omega
      have hh0 : h = 0 := by omega
      subst hl0; subst hh0
      have hb := run_bounds (P := P) k.w true 0 (lo.map e) (hi.map e) 0 0 hbl hbh 0 (by omega) (by omega) (by omega)
      refine ⟨.slice none 0 0, ?_, by simpa using Rep.oslnil (k := k) (sz := sz) hid hb'⟩
      unfold execOp
      simp only [ho, hu, Option.map_none, Sem.run_bind, run_cut ht hs none 0 0 0 0 _ _ k.w hb, Result.andThen_ok, Sem.run_pure]
      simp
    | @osl _ _ _ _ b cap p hid hb' hp hl hm hsz =>
      have hb := run_bounds (P := P) k.w true len (lo.map e) (hi.map e) l.toNat h.toNat hbl hbh cap (by omega) (by omega) (by omega)
      refine ⟨.slice (some ⟨b, if cap = l.toNat then p else p + l.toNat * sz, none⟩) (h.toNat - l.toNat) (cap - l.toNat), ?_, ?_⟩
      · unfold execOp
        simp only [ho, hu, Option.map_none, Sem.run_bind, run_cut ht hs (some ⟨b, p, none⟩) len cap l.toNat h.toNat _ _ k.w hb, Result.andThen_ok, Sem.run_pure]
        split <;> simp [Addr.add_mid]
      · obtain ⟨cs, t', f, hh, hfit⟩ := hsz
        refine .osl hid hb' (fun hc => ?_) (by omega) (by omega) ⟨cs, t', f, hh, ?_⟩
        · rw [if_neg (by omega), hp (by omega), Nat.add_mul]
        · have e1 : off + l.toNat + (cap - l.toNat) = off + cap := by omega
          rw [e1]; exact hfit) hR
/-- 'x[:0:0]': nothing, and no room behind it. -/
theorem opj_cut_empty {t et : TypeId} {x : Operand} {kh km : IntKind} {nl : Option Bool} {full : Bool} {sz : Nat} {els : List (List AV)} {y z : Operand} (ho : o.op = .slice t x none (some y) (some z)) (ht : P.underlying t = some (.slice et)) (hs : sizeIs P et = some sz) (hx : E x = some (.sl nl full sz els)) (hy : E y = some (.v (.int kh 0))) (hz : E z = some (.v (.int km 0)))
    (hR : R (some (.sl nl true sz [])) σ) : OpJ P o E σ R :=
  opj_quiet _ (fun k e hσ hk hr => by
    have hrx := hr x (by rw [ho]; simp [Op.operands]) _ hx
    have h1 := rep_v (hr y (by rw [ho]; simp [Op.operands]) _ hy)
    have h2 := rep_v (hr z (by rw [ho]; simp [Op.operands]) _ hz)
    have hrun : ∀ (a : Option Addr) (n c : Nat), (Instr.sliceAt t (.slice a n c) none (some (.int kh 0)) (some (.int km 0))).run P k.w = .ok (.slice a 0 0) k.w := fun a n c => by
      simp [Instr.sliceAt, run_underlying ht, Instr.slice, Instr.sliceBounds, Instr.sliceBound, asIntOf, run_sizeIs hs]
    generalize hu : e x = u at hrx
    cases hrx with
    | slnil hn =>
      refine ⟨.slice none 0 0, ?_, .slnil hn⟩
      unfold execOp
      simp only [ho, hu, Option.map_none, Option.map_some, h1, h2, Sem.run_bind, hrun, Result.andThen_ok, Sem.run_pure]
    | @sle _ _ _ ad hn =>
      refine ⟨.slice (some ad) 0 0, ?_, .sle hn⟩
      unfold execOp
      simp only [ho, hu, Option.map_none, Option.map_some, h1, h2, Sem.run_bind, hrun, Result.andThen_ok, Sem.run_pure]
    | @sl _ _ _ _ b p cap f hn hc hm hf hsz hfr hw hcc =>
      refine ⟨.slice (some ⟨b, p, none⟩) 0 0, ?_, .sl (els := []) (f := f) hn (by simp) (by simp [maxLen]) (by simp) (fun i e h => by simp at h) (fun h => absurd rfl h) (fun i j e a h => by simp at h) (fun i j e a h => by simp at h)⟩
      unfold execOp
      simp only [ho, hu, Option.map_none, Option.map_some, h1, h2, Sem.run_bind, hrun, Result.andThen_ok, Sem.run_pure]) hR

/-! ### Literals of structs and slices -/
def afill (place : Nat → Option (Nat × Nat)) (cells : List AV) : List (Nat × AV) → Option (List AV)
  | [] => some cells
  | (i, a) :: r => match place i, cellsOf a with
    | some (off, size), some as => if as.length = size ∧ off + size ≤ cells.length then afill place (cells.take off ++ as ++ cells.drop (off + size)) r else none
    | _, _ => none
theorem foldl_set (vs : List Value) : ∀ (off s : Nat) (cs : Array Value), (vs.zipIdx s).foldl (fun (cs : Array Value) (c, j) => cs.setIfInBounds (off + j) c) cs = (vs.zipIdx 0).foldl (fun (cs : Array Value) (c, j) => cs.setIfInBounds (off + s + j) c) cs := by
  induction vs with
  | nil => intro off s cs; rfl
  | cons v vs ih =>
    intro off s cs
    simp only [List.zipIdx_cons, List.foldl_cons, Nat.add_zero, Nat.zero_add]
    rw [ih off (s + 1), ih (off + s) 1]
    simp only [Nat.add_assoc]
theorem foldl_toList (vs : List Value) : ∀ (off : Nat) (cs : Array Value), off + vs.length ≤ cs.size → ((vs.zipIdx 0).foldl (fun (cs : Array Value) (c, j) => cs.setIfInBounds (off + j) c) cs).toList = cs.toList.take off ++ vs ++ cs.toList.drop (off + vs.length) := by
  induction vs with
  | nil => intro off cs h; simp
  | cons v vs ih =>
    intro off cs h
    simp only [List.zipIdx_cons, List.foldl_cons, Nat.add_zero, Nat.zero_add]
    rw [foldl_set vs off 1, ih (off + 1) _ (by simp at h ⊢; omega)]
    simp only [Array.toList_setIfInBounds, List.length_cons]
    have := list_seg_step cs.toList off v vs (by simp at h ⊢; omega)
    simpa [Nat.add_assoc, Nat.add_comm 1] using this
theorem CellsRep.splice {k : Cx} {cells as : List AV} {vs us : List Value} (h : CellsRep k cells vs) (h' : CellsRep k as us) {off : Nat} (hl : off + as.length ≤ cells.length) : CellsRep k (cells.take off ++ as ++ cells.drop (off + as.length)) (vs.take off ++ us ++ vs.drop (off + us.length)) := by
  have h1 := h.1
  have h2 := h'.1
  refine ⟨by simp; omega, fun j a u ha hu => ?_⟩
  rw [List.append_assoc, List.getElem?_append] at ha hu
  simp only [List.length_take] at ha hu
  have e1 : min off cells.length = off := by omega
  have e2 : min off vs.length = off := by omega
  rw [e1] at ha
  rw [e2] at hu
  by_cases hj : j < off
  · rw [if_pos hj, List.getElem?_take, if_pos hj] at ha hu
    exact h.2 j a u ha hu
  · rw [if_neg hj, List.getElem?_append] at ha hu
    rw [h2] at hu
    by_cases hj2 : j - off < as.length
    · rw [if_pos hj2] at ha hu
      exact h'.2 _ a u ha hu
    · rw [if_neg hj2, List.getElem?_drop] at ha hu
      exact h.2 _ a u ha hu
theorem fill_rep {k : Cx} (place : Nat → Option (Nat × Nat)) : ∀ (parts : List (Nat × AV)) (us : List (Nat × Value)) (cells out : List AV) (vs : Array Value), us.length = parts.length → (∀ (j : Nat) p q, parts[j]? = some p → us[j]? = some q → p.1 = q.1 ∧ Rep k p.2 q.2) → CellsRep k cells vs.toList → afill place cells parts = some out → ∃ vs', Instr.fill place vs us = some vs' ∧ CellsRep k out vs'.toList
  | [], [], cells, out, vs, _, _, hc, h => by cases h; exact ⟨vs, rfl, hc⟩
  | (i, a) :: parts, (i', u) :: us, cells, out, vs, hl, hp, hc, h => by
    obtain ⟨h1, h2⟩ := hp 0 _ _ rfl rfl
    simp only at h1 h2
    subst h1
    unfold afill at h
    split at h
    · rename_i off size as hpl has
      split at h
      · rename_i hsz
        obtain ⟨hs1, hs2⟩ := hsz
        subst hs1
        have hcu := rep_cells h2 has
        have hz : u.cells.size = as.length := by simpa using hcu.1
        have hlen : off + u.cells.size ≤ vs.size := by have := hc.1; simp at this; omega
        obtain ⟨vs', h3, h4⟩ := fill_rep place parts us _ out (u.cells.zipIdx.foldl (fun cs (c, j) => cs.setIfInBounds (off + j) c) vs) (by simpa using hl) (fun j p q hj hq => hp (j + 1) p q (by simpa using hj) (by simpa using hq)) (by
          have e1 : (u.cells.zipIdx.foldl (fun (cs : Array Value) (c, j) => cs.setIfInBounds (off + j) c) vs).toList = vs.toList.take off ++ u.cells.toList ++ vs.toList.drop (off + u.cells.toList.length) := by
            rw [← foldl_toList u.cells.toList off vs (by simpa using hlen), ← Array.foldl_toList, Array.toList_zipIdx]
          rw [e1]
          exact hc.splice hcu hs2) h
        refine ⟨vs', ?_, h4⟩
        unfold Instr.fill
        simp only [hpl]
        rw [if_neg (by simp; omega)]
        exact h3
      · cases h
    · cases h
  | [], _ :: _, _, _, _, hl, _, _, _ => by simp at hl
  | _ :: _, [], _, _, _, hl, _, _, _ => by simp at hl
/-- The parts of a literal, evaluated. -/
def evParts (E : Operand → Option AV) : List (Nat × Operand) → Option (List (Nat × AV))
  | [] => some []
  | (i, x) :: r => match E x, evParts E r with
    | some a, some as => some ((i, a) :: as)
    | _, _ => none
theorem evParts_ok {k : Cx} {e : Operand → Value} {l : Array Operand} (hr : RepsOn k E e l) : ∀ (ps : List (Nat × Operand)) (qs : List (Nat × AV)), (∀ p ∈ ps, p.2 ∈ l) → evParts E ps = some qs →
    (ps.map fun (i, x) => (i, e x)).length = qs.length ∧ ∀ (j : Nat) p q, qs[j]? = some p → (ps.map fun (i, x) => (i, e x))[j]? = some q → p.1 = q.1 ∧ Rep k p.2 q.2
  | [], qs, _, h => by cases h; exact ⟨rfl, fun j p q h _ => by simp at h⟩
  | (i, x) :: ps, qs, hm, h => by
    unfold evParts at h
    split at h
    · rename_i a as h1 h2
      cases h
      obtain ⟨h3, h4⟩ := evParts_ok hr ps as (fun p hp => hm p (by simp [hp])) h2
      refine ⟨by simp at h3 ⊢; exact h3, fun j p q hj hq => ?_⟩
      cases j with
      | zero => simp at hj hq; subst hj; subst hq; exact ⟨rfl, hr x (hm (i, x) (by simp)) a h1⟩
      | succ j => exact h4 j p q (by simpa using hj) (by simpa using hq)
    · cases h
def placesOf (P : Program) (t : TypeId) : Option (List (Nat × Nat)) :=
  match P.underlying t with
  | some (.struct fs) => fs.toList.mapM fun f => (sizeIs P f.type).map fun m => (f.offset, m)
  | _ => none
theorem run_places {fs : List Field} : ∀ {pl : List (Nat × Nat)}, (fs.mapM fun f => (sizeIs P f.type).map fun m => (f.offset, m)) = some pl → ∀ w, (fs.mapM (m := Sem) fun f => do pure (f.offset, ← sizeOf f.type)).run P w = .ok pl w := by
  induction fs with
  | nil => intro pl h w; simp at h; subst h; rfl
  | cons f fs ih =>
    intro pl h w
    simp only [List.mapM_cons, Option.bind_eq_bind, Option.bind_eq_some_iff, Option.pure_def, Option.some.injEq] at h
    obtain ⟨p, hp, pl', hpl, rfl⟩ := h
    obtain ⟨m, hm, rfl⟩ := Option.map_eq_some_iff.1 hp
    simp only [List.mapM_cons, Sem.run_bind, run_sizeIs hm, Result.andThen_ok, Sem.run_pure, ih hpl w]
theorem opj_build {t : TypeId} {parts : Array (Nat × Operand)} {pl : List (Nat × Nat)} {zs out : List AV} {qs : List (Nat × AV)} (ho : o.op = .build t parts) (hp : placesOf P t = some pl) (hz : zeroIs P t = some zs) (hq : evParts E parts.toList = some qs) (hf : afill (fun i : Nat => pl[i]?) zs qs = some out) (hR : R (some (.agg out)) σ) : OpJ P o E σ R :=
  opj_quiet _ (fun k e hσ hk hr => by
    obtain ⟨z, h1, h2⟩ := run_zeroIs hz k
    obtain ⟨h3, h4⟩ := evParts_ok hr parts.toList qs (fun p hp => by rw [ho]; simp only [Op.operands, List.mem_toArray, List.mem_map]; exact ⟨p, hp, rfl⟩) hq
    obtain ⟨vs', h5, h6⟩ := fill_rep (k := k) (fun i : Nat => pl[i]?) qs (parts.toList.map fun (i, x) => (i, e x)) zs out z.cells h3 h4 h2 hf
    refine ⟨.agg vs', ?_, .agg (by simpa using h6.1) (fun j u hu => ?_) (fun j a u ha hu => (h6.2 j a u ha (by simpa [← Array.getElem?_toList] using hu)).2)⟩
    · unfold placesOf at hp
      split at hp
      · rename_i fs hu
        have hpl := run_places (P := P) hp k.w
        unfold execOp
        simp only [ho, Instr.build, Sem.run_bind, h1, Result.andThen_ok, run_underlying hu]
        have e1 : (fs.mapM (m := Sem) fun f => do pure (f.offset, ← sizeOf f.type)).run P k.w = .ok pl.toArray k.w := by
          have e2 : fs = fs.toList.toArray := by simp
          rw [e2, List.mapM_toArray]
          simp only [Sem.run_map, hpl, Result.andThen_ok]
        simp only [e1, Result.andThen_ok, Array.toList_map]
        have e3 : (fun i : Nat => pl.toArray[i]?) = (fun i : Nat => pl[i]?) := by funext i; simp
        rw [e3, h5]
        rfl
      · cases hp
    · have hj : j < out.length := by rw [← h6.1]; have := (Array.getElem?_eq_some_iff.1 hu).1; simpa using this
      exact (h6.2 j _ u (List.getElem?_eq_getElem hj) (by simpa [← Array.getElem?_toList] using hu)).1) hR
def chunk (sz : Nat) : Nat → List AV → List (List AV)
  | 0, _ => []
  | n + 1, cs => cs.take sz :: chunk sz n (cs.drop sz)
theorem length_chunk (sz n : Nat) (cs : List AV) : (chunk sz n cs).length = n := by
  induction n generalizing cs with
  | zero => rfl
  | succ n ih => simp [chunk, ih]
theorem get_chunk (sz : Nat) : ∀ (n : Nat) (cs : List AV) (i : Nat), i < n → (chunk sz n cs)[i]? = some ((cs.drop (i * sz)).take sz)
  | n + 1, cs, 0, _ => by simp [chunk]
  | n + 1, cs, i + 1, h => by
    simp only [chunk, List.getElem?_cons_succ]
    rw [get_chunk sz n _ i (by omega), List.drop_drop, Nat.add_mul, Nat.one_mul, Nat.add_comm]
theorem RowRep.chunk {k : Cx} {sz n : Nat} {cs : List AV} {vs : List Value} (h : CellsRep k cs vs) (hl : cs.length = n * sz) : RowRep k sz (chunk sz n cs) vs := by
  refine ⟨fun i e he => ?_, by rw [length_chunk, h.1, hl]; exact Nat.le_refl _, fun i j e a he ha => ?_⟩
  · have hi : i < n := by have := (List.getElem?_eq_some_iff.1 he).1; rwa [length_chunk] at this
    rw [get_chunk sz n cs i hi] at he
    cases he
    have h1 : (i + 1) * sz ≤ n * sz := Nat.mul_le_mul_right _ hi
    rw [Nat.add_mul, Nat.one_mul] at h1
    rw [List.length_take, List.length_drop]
    omega
  · have hi : i < n := by have := (List.getElem?_eq_some_iff.1 he).1; rwa [length_chunk] at this
    rw [get_chunk sz n cs i hi] at he
    cases he
    rw [List.getElem?_take] at ha
    split at ha
    · rw [List.getElem?_drop] at ha
      have hlt : i * sz + j < vs.length := by rw [h.1]; exact (List.getElem?_eq_some_iff.1 ha).1
      have hv : vs[i * sz + j]? = some vs[i * sz + j] := by simp [hlt]
      exact ⟨_, hv, h.2 _ a _ ha hv⟩
    · cases ha
theorem zero_row {k : Cx} {zs : List AV} {z : Array Value} (h : CellsRep k zs z.toList) (n : Nat) : CellsRep k ((List.replicate n zs).flatten) ((Array.range (n * z.size)).map (z[· % z.size]!)).toList := by
  have hz : z.size = zs.length := by simpa using h.1
  have hflat : ∀ (n q : Nat), q < n * zs.length → ((List.replicate n zs).flatten)[q]? = zs[q % zs.length]? := by
    intro n
    induction n with
    | zero => intro q hq; simp at hq
    | succ n ih =>
      intro q hq
      rw [List.replicate_succ, List.flatten_cons, List.getElem?_append]
      split
      · rename_i h1; rw [Nat.mod_eq_of_lt h1]
      · rename_i h1
        rw [ih _ (by rw [Nat.add_mul, Nat.one_mul] at hq; omega)]
        exact congrArg (zs[·]?) (Nat.mod_eq_sub_mod (by omega)).symm
  refine ⟨by simp [hz], fun j a u ha hu => ?_⟩
  have hj : j < n * z.size := by
    have := (List.getElem?_eq_some_iff.1 hu).1
    simpa using this
  have hpos : 0 < z.size := by
    rcases Nat.eq_zero_or_pos z.size with h0 | h0
    · rw [h0] at hj; simp at hj
    · exact h0
  have hm : j % z.size < z.size := Nat.mod_lt _ hpos
  have hu' : u = z[j % z.size] := by
    simp only [Array.toList_map, Array.toList_range, List.getElem?_map, List.getElem?_range hj, Option.map_some, Option.some.injEq] at hu
    rw [← hu, getElem!_pos z _ hm]
  rw [hflat n j (by rw [← hz]; exact hj), ← hz] at ha
  exact h.2 _ a u ha (by rw [hu']; simp [hm])
/-- A slice in a block of its own, that nobody writes. -/
theorem rep_new_sl {k : Cx} (hk : Ok k) {elem : TypeId} {sz : Nat} {els : List (List AV)} {vs : List Value} (hr : RowRep k sz els vs) (hm : els.length ≤ maxLen) (cap : Nat) (hc : els.length ≤ cap) (full : Bool) (hf : full = true → cap = els.length) :
    Rep { k with w := k.w.alloc (.cells vs.toArray elem) } (.sl (some false) full sz els) (.slice (some ⟨k.w.heap.size, 0, none⟩) els.length cap) := by
  obtain ⟨hok, hst⟩ := hk.alloc (.cells vs.toArray elem)
  refine .sl (f := fun i j => (vs[i * sz + j]?).getD undef) (by simp) hc hm hf hr.1 (fun _ => hk.new_frz _) (fun i j e a he ha => ?_) (fun i j e a he ha => ?_)
  · obtain ⟨u, h1, h2, h3⟩ := hr.2.2 i j e a he ha
    simp only [h1, Option.getD_some, Nat.zero_add]
    refine ⟨?_, h2⟩
    rw [cell_of_row _ _ _ vs.toArray elem (0, 0) (heap_alloc_new _ _)]
    simpa using h1
  · obtain ⟨u, h1, h2, h3⟩ := hr.2.2 i j e a he ha
    simp only [h1, Option.getD_some]
    exact h3.step hst
theorem run_buildSlice {k : Cx} {t et : TypeId} {n sz : Nat} {parts : List (Nat × Value)} {zs out : List AV} {qs : List (Nat × AV)} (ht : P.underlying t = some (.slice et)) (hs : sizeIs P et = some sz) (hz : zeroIs P et = some zs) (hzl : zs.length = sz) (hn : n * sz ≤ 16777216)
    (hl : parts.length = qs.length) (hp : ∀ (j : Nat) p q, qs[j]? = some p → parts[j]? = some q → p.1 = q.1 ∧ Rep k p.2 q.2) (hf : afill (fun i => some (i * sz, sz)) ((List.replicate n zs).flatten) qs = some out) (hol : out.length = n * sz) (w : World) :
    ∃ vs : List Value, (Instr.buildSlice t n parts.toArray).run P w = .ok (.slice (some ⟨w.heap.size, 0, none⟩) n n) (w.alloc (.cells vs.toArray et)) ∧ vs.length = n * sz ∧ RowRep k sz (Ab.chunk sz n out) vs := by
  obtain ⟨z, h1, h2⟩ := run_zeroIs hz k
  have hzs : z.cells.size = sz := by have := h2.1; simp at this; omega
  have h0 := zero_row h2 n
  obtain ⟨vs', h5, h6⟩ := fill_rep (k := k) (fun i => some (i * sz, sz)) qs parts _ out _ hl hp h0 hf
  refine ⟨vs'.toList, ?_, by rw [h6.1, hol], RowRep.chunk h6 hol⟩
  rw [hzs] at h5
  unfold Instr.buildSlice
  simp only [Sem.run_bind, run_underlying ht, Result.andThen_ok, run_sizeIs hs]
  rw [if_neg (by omega)]
  by_cases hzero : n * sz = 0
  · simp only [hzero, if_true, Sem.run_bind, Sem.run_pure, Result.andThen_ok]
    have e1 : (Array.range 0).map (fun i => (#[] : Array Value)[i % (#[] : Array Value).size]!) = (Array.range (n * sz)).map (fun i => z.cells[i % sz]!) := by rw [hzero]; simp
    rw [e1, List.toList_toArray, h5]
    simp [newRow]
  · simp only [hzero, if_false, Sem.run_bind, h1, Sem.run_pure, Result.andThen_ok, hzs]
    rw [List.toList_toArray, h5]
    simp [newRow]
theorem opj_lit {t et : TypeId} {n sz : Nat} {parts : Array (Nat × Operand)} {zs out : List AV} {qs : List (Nat × AV)} (ho : o.op = .buildSlice t n parts) (ht : P.underlying t = some (.slice et)) (hs : sizeIs P et = some sz) (hz : zeroIs P et = some zs) (hzl : zs.length = sz) (hpos : 0 < sz) (hn : n * sz ≤ 16777216)
    (hq : evParts E parts.toList = some qs) (hf : afill (fun i => some (i * sz, sz)) ((List.replicate n zs).flatten) qs = some out) (hol : out.length = n * sz) (hR : R (some (.sl (some false) true sz (chunk sz n out))) σ) : OpJ P o E σ R := fun k e hσ hk hr => by
  obtain ⟨h3, h4⟩ := evParts_ok hr parts.toList qs (fun p hp => by rw [ho]; simp only [Op.operands, List.mem_toArray, List.mem_map]; exact ⟨p, hp, rfl⟩) hq
  obtain ⟨vs, h5, h6, h7⟩ := run_buildSlice (P := P) (k := k) ht hs hz hzl hn h3 h4 hf hol k.w
  obtain ⟨hok, hst⟩ := hk.alloc (.cells vs.toArray et)
  have hnm : (chunk sz n out).length ≤ maxLen := by
    rw [length_chunk]
    have : n * 1 ≤ n * sz := Nat.mul_le_mul_left _ hpos
    simp only [maxLen]; omega
  have hrep := rep_new_sl hk (elem := et) h7 hnm n (by rw [length_chunk]; exact Nat.le_refl _) true (fun _ => (length_chunk ..).symm)
  rw [length_chunk] at hrep
  refine ⟨_, .value _, some _, ?_, hok, hst, hσ ▸ hR, _, rfl, hrep⟩
  unfold execOp
  have e1 : (parts.map fun (i, x) => (i, e x)) = (parts.toList.map fun (i, x) => (i, e x)).toArray := by rw [← Array.toList_map, Array.toArray_toList]
  simp only [ho, e1, Sem.run_bind, h5, Result.andThen_ok, Sem.run_pure]
end
end Go.Proofs.YtbpoeggmpjepfaaDoor.Ab

/- Abstract values over the model's memory, 6: append, make, bytes and strings, walks over strings, equality of structs, what may be forgotten. -/
set_option linter.unusedVariables false
set_option linter.unusedSimpArgs false
set_option maxRecDepth 20000
namespace Go.Proofs.YtbpoeggmpjepfaaDoor.Ab
open Go

/-! ### What is read out of a slice -/
def bys (l : List UInt8) : List (List AV) := l.map fun b => [.v (.int .u8 b.toNat)]
theorem length_bys (l : List UInt8) : (bys l).length = l.length := by simp [bys]
def srcOf (σ : St) : AV → Option (Nat × List (List AV))
  | .sl _ _ sz els => some (sz, els)
  | .osl id sz off len => match σ id with
    | some (.row sz' _ els) => if sz = sz' ∧ off + len ≤ els.length then some (sz, (els.drop off).take len) else none
    | _ => none
  | _ => none
theorem src_rep {k : Cx} (hk : Ok k) {av : AV} {u : Value} (h : Rep k av u) {sz : Nat} {news : List (List AV)} (hs : srcOf k.σ av = some (sz, news)) (hpos : 0 < sz) :
    ∃ vals : List Value, vals.length = news.length * sz ∧ RowRep k sz news vals ∧ news.length ≤ maxLen ∧ ((u = .slice none 0 0 ∧ news = []) ∨ ∃ ad cap, u = .slice (some ad) news.length cap ∧ ∀ (j : Nat) v, vals[j]? = some v → k.w.cell? (ad.add j) = some v) := by
  cases h with
  | slnil hn =>
    simp only [srcOf, Option.some.injEq, Prod.mk.injEq] at hs
    obtain ⟨rfl, rfl⟩ := hs
    exact ⟨[], by simp, ⟨fun i e h => by simp at h, by simp, fun i j e a h => by simp at h⟩, by simp [maxLen], .inl ⟨rfl, rfl⟩⟩
  | @sle nl full sz0 ad hn =>
    simp only [srcOf, Option.some.injEq, Prod.mk.injEq] at hs
    obtain ⟨rfl, rfl⟩ := hs
    exact ⟨[], by simp, ⟨fun i e h => by simp at h, by simp, fun i j e a h => by simp at h⟩, by simp [maxLen], .inr ⟨ad, 0, rfl, fun j v h => by simp at h⟩⟩
  | @sl nl full s0 els b p cap f hn hc hm hf hsz hfr hw hcc =>
    simp only [srcOf, Option.some.injEq, Prod.mk.injEq] at hs
    obtain ⟨rfl, rfl⟩ := hs
    have hd : ∀ q, q < els.length * s0 → ∃ e a, els[q / s0]? = some e ∧ e[q % s0]? = some a := fun q hq => by
      have hi : q / s0 < els.length := by rw [Nat.div_lt_iff_lt_mul hpos]; exact hq
      have he : els[q / s0]? = some els[q / s0] := by simp [hi]
      have hj : q % s0 < els[q / s0].length := by rw [hsz _ _ he]; exact Nat.mod_lt _ hpos
      exact ⟨_, _, he, List.getElem?_eq_getElem hj⟩
    have hget : ∀ q, q < els.length * s0 → ((List.range (els.length * s0)).map fun q => f (q / s0) (q % s0))[q]? = some (f (q / s0) (q % s0)) := fun q hq => by simp [hq]
    have hidx : ∀ i j : Nat, j < s0 → (i * s0 + j) / s0 = i ∧ (i * s0 + j) % s0 = j := fun i j hj => by
      constructor
      · rw [Nat.mul_comm, Nat.mul_add_div hpos, Nat.div_eq_of_lt hj, Nat.add_zero]
      · rw [Nat.mul_comm, Nat.mul_add_mod, Nat.mod_eq_of_lt hj]
    refine ⟨(List.range (els.length * s0)).map fun q => f (q / s0) (q % s0), by simp, ⟨hsz, by simp, fun i j e a he ha => ?_⟩, hm, .inr ⟨⟨b, p, none⟩, cap, rfl, fun j v hv => ?_⟩⟩
    · have hj : j < s0 := by rw [← hsz i e he]; exact (List.getElem?_eq_some_iff.1 ha).1
      have hi := (List.getElem?_eq_some_iff.1 he).1
      have hlt : i * s0 + j < els.length * s0 := by
        have h1 : (i + 1) * s0 ≤ els.length * s0 := Nat.mul_le_mul_right _ hi
        rw [Nat.add_mul, Nat.one_mul] at h1
        omega
      refine ⟨f i j, ?_, (hw i j e a he ha).2, hcc i j e a he ha⟩
      rw [hget _ hlt, (hidx i j hj).1, (hidx i j hj).2]
    · have hlt : j < els.length * s0 := by have := (List.getElem?_eq_some_iff.1 hv).1; simpa using this
      rw [hget j hlt] at hv
      cases hv
      obtain ⟨e, a, he, ha⟩ := hd j hlt
      have := (hw _ _ e a he ha).1
      rw [Nat.mul_comm, Nat.div_add_mod] at this
      rw [Addr.add_mid]
      exact this
  | @oslnil id _ hid hb =>
    simp only [srcOf] at hs
    split at hs
    · rename_i sz' elem els ho
      split at hs
      · rename_i hc
        simp only [Option.some.injEq, Prod.mk.injEq] at hs
        obtain ⟨rfl, rfl⟩ := hs
        exact ⟨[], by simp, ⟨fun i e h => by simp at h, by simp, fun i j e a h => by simp at h⟩, by simp [maxLen], .inl ⟨rfl, by simp⟩⟩
      · cases hs
    · cases hs
  | @osl id s0 off len b cap p hid hb hp hl hm hfit =>
    simp only [srcOf] at hs
    split at hs
    · rename_i s0' elem els ho
      split at hs
      · rename_i hc
        obtain ⟨rfl, hc⟩ := hc
        simp only [Option.some.injEq, Prod.mk.injEq] at hs
        obtain ⟨rfl, rfl⟩ := hs
        obtain ⟨cs, h1, h2⟩ := (hk.obj id _ ho).row hb
        have hlen : ((els.drop off).take len).length = len := by simp; omega
        have hfull : (off + len) * s0 ≤ cs.toList.length := Nat.le_trans (Nat.mul_le_mul_right _ hc) h2.2.1
        rw [Nat.add_mul] at hfull
        refine ⟨(cs.toList.drop (off * s0)).take (len * s0), by rw [List.length_take, List.length_drop, hlen]; omega, (h2.drop off).take len (by simp; omega), by rw [hlen]; exact hm, .inr ⟨⟨b, p, none⟩, cap, by rw [hlen], fun j v hv => ?_⟩⟩
        rw [List.getElem?_take] at hv
        split at hv
        · rename_i hj
          rw [List.getElem?_drop] at hv
          have hcap : 0 < cap := by
            rcases Nat.eq_zero_or_pos len with h0 | h0
            · subst h0; simp at hj
            · omega
          have hpo := hp hcap
          subst hpo
          rw [Addr.add_mid, cell_of_row k.w b _ cs elem (0, 0) h1]
          simpa [← Array.getElem?_toList] using hv
        · cases hv
      · cases hs
    · cases hs
  | _ => simp [srcOf] at hs

/-! ### append -/
section
variable {P : Program}
def bytesIs (P : Program) (t : TypeId) : Option Nat := (P.info? t).map (·.bytes)
theorem run_append_zero {t et : TypeId} {sz : Nat} (ht : P.underlying t = some (.slice et)) (hs : sizeIs P et = some sz) (ty : TypeId) (a b : Option Addr) (n c c' : Nat) (hc : n ≤ c) (hb : b = none → c' = 0) (w : World) : (Builtin.append_ #[t, t] ty #[.slice a n c, .slice b 0 c']).run P w = .ok (.slice a n c) w := by
  have e1 : (Builtin.firstCells sz 0 (.slice b 0 c')).run P w = .ok #[] w := by
    cases b with
    | none => simp [Builtin.firstCells]
    | some ad => simp [Builtin.firstCells, loadCells, loadCellsFrom]
  have hi := run_sizeIs hs w
  cases a with
  | none => simp [Builtin.append_, run_underlying ht, hi, Builtin.lenOf, hc, e1]
  | some ad => simp [Builtin.append_, run_underlying ht, hi, Builtin.lenOf, hc, e1, storeCells]
/-- The type of a slice's elements, as append wants it. -/
structure Elem (P : Program) (t et : TypeId) (sz : Nat) : Prop where
  ht : P.underlying t = some (.slice et)
  hs : sizeIs P et = some sz
  hz : (zeroIs P et).map (·.length) = some sz
  pos : 0 < sz
theorem Elem.info {t et : TypeId} {sz : Nat} (h : Elem P t et sz) : ∃ i z, P.info? et = some i ∧ i.zero = some z ∧ i.size = sz ∧ z.cells.size = sz := by
  have h1 := h.hs
  have h2 := h.hz
  obtain ⟨i, hi, h1⟩ := sizeIs_info h1
  unfold zeroIs at h2
  · cases hz : i.zero with
    | none => simp [hi, hz] at h2
    | some z =>
      refine ⟨i, z, hi, hz, h1, ?_⟩
      simp only [hi, hz] at h2
      split at h2
      · simpa using h2
      · simp at h2
/-- A greater row is laid: whatever it was before. -/
theorem run_append_new {k : Cx} (hk : Ok k) {t et : TypeId} {sz by_ : Nat} (he : Elem P t et sz) (hby : bytesIs P et = some by_) {els news : List (List AV)} {old new : List Value} (ho : RowRep k sz els old) (hol : old.length = els.length * sz) (hn : RowRep k sz news new) (hnl : new.length = news.length * sz)
    {a : Option Addr} {cap : Nat} (ha : ∀ ad, a = some ad → ∀ (j : Nat) v, old[j]? = some v → k.w.cell? (ad.add j) = some v) (ha0 : a = none → els = [] ∧ cap = 0) (hcap : cap < els.length + news.length)
    {ad : Addr} {c : Nat} (hx : ∀ (j : Nat) v, new[j]? = some v → k.w.cell? (ad.add j) = some v) (hb : (els.length + news.length) * by_ ≤ 140737488355328) (hm : els.length + news.length ≤ maxLen) (ty : TypeId) :
    ∃ cap' rest, els.length + news.length ≤ cap' ∧ cap' ≤ maxLen ∧ (old ++ new ++ rest).length = cap' * sz ∧ (Builtin.append_ #[t, t] ty #[.slice a els.length cap, .slice (some ad) news.length c]).run P k.w = .ok (.slice (some ⟨k.w.heap.size, 0, none⟩) (els.length + news.length) cap') (k.w.drew.alloc (.cells (old ++ new ++ rest).toArray et)) ∧ RowRep k sz (els ++ news) (old ++ new ++ rest) := by
  obtain ⟨i, z, hi, hz, hsz, hzs⟩ := he.info
  have hbi : i.bytes = by_ := by unfold bytesIs at hby; simpa [hi] using hby
  have hge := grownCap_ge k.w (els.length + news.length) cap et
  have hcm := grownCap_le_maxLen k.w (els.length + news.length) cap et hm
  refine ⟨grownCap k.w (els.length + news.length) cap et, (Builtin.zeroCells z.cells (grownCap k.w (els.length + news.length) cap et - (els.length + news.length))).toList, hge, hcm, ?_, ?_, ho.append hn hol⟩
  · simp only [List.length_append, hol, hnl, Array.length_toList, size_zeroCells, hzs, ← Nat.add_mul]
    congr 1
    omega
  · subst hsz
    subst hbi
    cases a with
    | none =>
      obtain ⟨rfl, rfl⟩ := ha0 rfl
      have hold : old = [] := List.eq_nil_of_length_eq_zero (by simpa using hol)
      subst hold
      simp only [List.length_nil, Nat.zero_add] at hcap hb hm ⊢
      have hr := run_append_nil (P := P) k.w t ty et i z he.ht hi hz ad news.length c new hnl hx hcap (by simp only [maxLen] at hm; omega) (by omega)
      rw [hr]
      simp only [List.length_nil, Nat.zero_add, List.nil_append]
      refine congrArg (fun c => Result.ok _ (k.w.drew.alloc (.cells c et))) ?_
      apply Array.ext'
      simp
    | some ad' =>
      have hr := run_append_grow (P := P) k.w t ty et i z he.ht hi hz ad' els.length cap old hol (ha ad' rfl) ad news.length c new hnl hx hcap (by simp only [maxLen] at hm; omega) (growslice_fits hcap hb)
      rw [hr]
      refine congrArg (fun c => Result.ok _ (k.w.drew.alloc (.cells c et))) ?_
      apply Array.ext'
      simp

section
variable {o : Oper} {E : Operand → Option AV} {σ : St} {R : Option AV → St → Prop}
theorem drew_alloc {k : Cx} (hk : Ok k) (ob : Obj) : Ok { k with w := k.w.drew.alloc ob } ∧ Step k { k with w := k.w.drew.alloc ob } := by
  obtain ⟨h1, h2⟩ := hk.drew
  obtain ⟨h3, h4⟩ := h1.alloc ob
  exact ⟨h3, h2.trans h4⟩
/-- append on a slice that has no room behind it, or is nil: what comes is a slice that nobody writes. -/
theorem opj_append_sl {t et : TypeId} {sz by_ : Nat} {x y : Operand} {nl : Option Bool} {full : Bool} {els news : List (List AV)} {ts : Array TypeId} {av : AV} (ho : o.op = .call { callee := .builtin .append, args := #[x, y], argTypes := ts }) (hts : ts = #[t, t]) (he : Elem P t et sz) (hby : bytesIs P et = some by_)
    (hx : E x = some (.sl nl full sz els)) (hfull : full = true ∨ (nl = some true)) (hy : E y = some av) (hs : srcOf σ av = some (sz, news)) (hb : (els.length + news.length) * by_ ≤ 140737488355328) (hb1 : 0 < by_)
    (hR0 : news = [] → R (some (.sl nl full sz els)) σ) (hR1 : news ≠ [] → R (some (.sl (some false) false sz (els ++ news))) σ) : OpJ P o E σ R := fun k e hσ hk hr => by
  subst hts
  subst hσ
  have hxr := hr x (by rw [ho]; simp [Op.operands, Call.operands]) _ hx
  have hyr := hr y (by rw [ho]; simp [Op.operands, Call.operands]) _ hy
  obtain ⟨new, hnl, hn, hnm, hyv⟩ := src_rep hk hyr hs he.pos
  obtain ⟨old, hol, ho', hom, hxv⟩ := src_rep hk hxr (sz := sz) (news := els) rfl he.pos
  have hrun : ∀ v w', (Builtin.append_ #[t, t] o.type #[e x, e y]).run P k.w = .ok v w' → (execOp e o).run P k.w = .ok (.value v) w' := fun v w' h => by
    unfold execOp
    simp only [ho, resolve, invoke, builtin, Sem.run_bind, Sem.run_pure, Result.andThen_ok, List.map_toArray, List.map_cons, List.map_nil, h]
  have hcapx : ∃ a cap, e x = .slice a els.length cap ∧ els.length ≤ cap ∧ (cap = els.length) ∧ (a = none → els = [] ∧ cap = 0) := by
    generalize e x = u at hxr
    cases hxr with
    | slnil hn => exact ⟨none, 0, rfl, Nat.le_refl _, rfl, fun _ => ⟨rfl, rfl⟩⟩
    | sle hn => exact ⟨_, 0, rfl, Nat.le_refl _, rfl, fun h => by cases h⟩
    | sl hn' hc hm hf =>
      refine ⟨_, _, rfl, hc, ?_, fun h => by cases h⟩
      rcases hfull with h | h
      · exact hf h
      · exact absurd h hn'
  obtain ⟨a, cap, hxe, hle, hcap, ha0⟩ := hcapx
  rcases List.eq_nil_or_concat news with hnil | hne
  · subst hnil
    refine ⟨k, .value (e x), some (.sl nl full sz els), ?_, hk, .refl k, hR0 rfl, _, rfl, hxr⟩
    rw [hrun (e x) k.w ?_]
    rcases hyv with ⟨hv, _⟩ | ⟨ad, c, hv, _⟩
    · rw [hxe, hv]; exact run_append_zero he.ht he.hs _ _ _ _ _ _ hle (fun _ => rfl) _
    · rw [hxe, hv]; exact run_append_zero he.ht he.hs _ _ _ _ _ _ hle (fun h => by cases h) _
  · have hne' : news ≠ [] := by rintro rfl; obtain ⟨_, _, h⟩ := hne; simp at h
    have hpos : 0 < news.length := List.length_pos_iff.2 hne'
    rcases hyv with ⟨hv, h0⟩ | ⟨ad, c, hv, hcells⟩
    · exact absurd h0 hne'
    · have hm : els.length + news.length ≤ maxLen := by
        have : (els.length + news.length) * 1 ≤ (els.length + news.length) * by_ := Nat.mul_le_mul_left _ hb1
        simp only [maxLen]; omega
      have hac : ∀ ad, a = some ad → ∀ (j : Nat) v, old[j]? = some v → k.w.cell? (ad.add j) = some v := fun ad' had j v hj => by
        rcases hxv with ⟨h1, _⟩ | ⟨ad2, c2, h1, h2⟩
        · rw [hxe] at h1; injection h1 with h1; rw [h1] at had; cases had
        · rw [hxe] at h1; injection h1 with h1; rw [h1] at had; cases had; exact h2 j v hj
      obtain ⟨cap', rest, h1, h2, h3, h4, h5⟩ := run_append_new hk he hby ho' hol hn hnl hac ha0 (by omega) hcells hb hm o.type
      obtain ⟨hok, hst⟩ := drew_alloc hk (.cells (old ++ new ++ rest).toArray et)
      have hrep := rep_new_sl (hk.drew).1 (elem := et) (h5.step (hk.drew).2) (by simpa using hm) cap' (by simpa using h1) false (by simp)
      refine ⟨_, .value _, some _, hrun _ _ (by rw [hxe, hv]; exact h4), hok, hst, hR1 hne', _, rfl, by simpa using hrep⟩

/-- An object is handed on to another number (in its block, or in a new one). -/
theorem Ok.hand {k : Cx} (hk : Ok k) {id : Nat} {nb : Option Nat} {ob : AObj} {w' : World} (hid : k.σ id ≠ none) (os : w'.os = k.w.os) (tape : w'.tape = k.w.tape) (output : w'.output = k.w.output) (size : k.w.heap.size ≤ w'.heap.size)
    (hb : ∀ b, b < k.w.heap.size → k.ρ id ≠ some b → w'.heap[b]? = k.w.heap[b]?) (hsh : ∀ (b : Nat) (cs : Array Value) (t : TypeId) (f : Nat × Nat), k.ρ id = some b → k.w.heap[b]? = some (.cells cs t f) → ∃ (cs' : Array Value) (f' : Nat × Nat), w'.heap[b]? = some (.cells cs' t f') ∧ cs'.size = cs.size)
    (hnb : ∀ b, nb = some b → b < w'.heap.size ∧ (k.w.heap.size ≤ b ∨ k.ρ id = some b))
    (hob : ∀ k', Step k k' → k'.w = w' → k'.ρ k.top = nb → k.top < k'.top → ObjOk k' k.top ob) :
    let k' : Cx := { ρ := fun x => if x = k.top then nb else k.ρ x, top := k.top + 1, σ := (k.σ.del id).set k.top ob, base := k.base, w := w' }
    Ok k' ∧ Step k k' := by
  intro k'
  have hne : id ≠ k.top := fun h => absurd (hk.dom id hid) (by omega)
  have hσ' : ∀ x, x ≠ k.top → k'.σ x ≠ none → k.σ x ≠ none ∧ x ≠ id ∧ k'.σ x = k.σ x := fun x hx h => by
    have e1 : k'.σ x = k.σ.del id x := by simp [k', St.set, hx]
    rw [e1] at h ⊢
    by_cases hxi : x = id
    · subst hxi; simp [St.del] at h
    · have e2 : k.σ.del id x = k.σ x := by simp [St.del, hxi]
      rw [e2] at h ⊢
      exact ⟨h, hxi, rfl⟩
  have hρ : ∀ x, x ≠ k.top → k'.ρ x = k.ρ x := fun x hx => by simp [k', hx]
  have hρt : k'.ρ k.top = nb := by simp [k']
  have hst : Step k k' := by
    refine ⟨Nat.le_succ _, fun x hx => hρ x (by omega), rfl, os, tape, output, size, fun b h1 h2 => ⟨hb b h1 fun h => h2 ⟨id, hid, h⟩, ?_⟩, fun b cs t f h => ?_⟩
    · rintro ⟨x, h3, h4⟩
      by_cases hx : x = k.top
      · subst hx
        rw [hρt] at h4
        obtain ⟨_, h5⟩ := hnb b h4
        rcases h5 with h5 | h5
        · omega
        · exact h2 ⟨id, hid, h5⟩
      · rw [hρ x hx] at h4
        exact h2 ⟨x, (hσ' x hx h3).1, h4⟩
    · by_cases hbi : k.ρ id = some b
      · exact hsh b cs t f hbi h
      · exact ⟨cs, f, (hb b (Array.getElem?_eq_some_iff.1 h).1 hbi).trans h, rfl⟩
  refine ⟨⟨fun x h => ?_, fun x y b h1 h2 h3 h4 => ?_, fun x b h1 h2 => ?_, Nat.le_trans hk.hb size, fun x ob' h => ?_, hk.ground hst⟩, hst⟩
  · by_cases hx : x = k.top
    · subst hx; exact Nat.lt_succ_self _
    · exact Nat.lt_succ_of_lt (hk.dom x (hσ' x hx h).1)
  · by_cases hx : x = k.top <;> by_cases hy : y = k.top
    · omega
    · subst hx
      rw [hρt] at h3
      rw [hρ y hy] at h4
      obtain ⟨h5, h6, _⟩ := hσ' y hy h2
      obtain ⟨_, h7⟩ := hnb b h3
      rcases h7 with h7 | h7
      · exact absurd (hk.bas y b h5 h4).2 (by omega)
      · exact absurd (hk.inj y id b h5 hid h4 h7) h6
    · subst hy
      rw [hρt] at h4
      rw [hρ x hx] at h3
      obtain ⟨h5, h6, _⟩ := hσ' x hx h1
      obtain ⟨_, h7⟩ := hnb b h4
      rcases h7 with h7 | h7
      · exact absurd (hk.bas x b h5 h3).2 (by omega)
      · exact absurd (hk.inj x id b h5 hid h3 h7) h6
    · rw [hρ x hx] at h3
      rw [hρ y hy] at h4
      exact hk.inj x y b (hσ' x hx h1).1 (hσ' y hy h2).1 h3 h4
  · by_cases hx : x = k.top
    · subst hx
      rw [hρt] at h2
      obtain ⟨h5, h6⟩ := hnb b h2
      refine ⟨?_, h5⟩
      show k.base ≤ b
      rcases h6 with h6 | h6
      · have := hk.hb; omega
      · exact (hk.bas id b hid h6).1
    · rw [hρ x hx] at h2
      obtain ⟨h5, h6⟩ := hk.bas x b (hσ' x hx h1).1 h2
      exact ⟨h5, Nat.lt_of_lt_of_le h6 size⟩
  · by_cases hx : x = k.top
    · subst hx
      have : ob' = ob := by
        have h1 : k'.σ k.top = some ob := by simp [k', St.set]
        rw [h1] at h; cases h; rfl
      subst this
      exact hob k' hst rfl hρt (Nat.lt_succ_self _)
    · have hd : k'.σ x ≠ none := by rw [h]; simp
      obtain ⟨h5, h6, h7⟩ := hσ' x hx hd
      rw [h7] at h
      exact (hk.obj x ob' h).step hst (hk.dom x h5) fun b hb' => hb b (hk.bas x b h5 hb').2 fun h8 => h6 (hk.inj x id b h5 hid hb' h8)
theorem hnilr (k : Cx) (sz : Nat) : RowRep k sz [] ([] : List Value) := ⟨fun i e h => by simp at h, by simp, fun i j e a h => by simp at h⟩
/-- append on a row of our own. -/
theorem opj_append_osl {t et : TypeId} {sz by_ : Nat} {x y : Operand} {id n : Nat} {els news : List (List AV)} {ts : Array TypeId} {av : AV} (ho : o.op = .call { callee := .builtin .append, args := #[x, y], argTypes := ts }) (hts : ts = #[t, t]) (he : Elem P t et sz) (hby : bytesIs P et = some by_)
    (hx : E x = some (.osl id sz 0 n)) (hσ : σ id = some (.row sz et els)) (hn : n ≤ els.length) (hy : E y = some av) (hs : srcOf σ av = some (sz, news)) (hb : (n + news.length) * by_ ≤ 140737488355328) (hb1 : 0 < by_)
    (hR : ∀ id', σ id' = none → R (some (.osl id' sz 0 (n + news.length))) ((σ.del id).set id' (.row sz et (els.take n ++ news)))) : OpJ P o E σ R := fun k e hσ' hk hr => by
  subst hts
  subst hσ'
  have hxr := hr x (by rw [ho]; simp [Op.operands, Call.operands]) _ hx
  have hyr := hr y (by rw [ho]; simp [Op.operands, Call.operands]) _ hy
  obtain ⟨new, hnl, hnr, hnm, hyv⟩ := src_rep hk hyr hs he.pos
  have htl : (els.take n).length = n := by simp; omega
  obtain ⟨old, hol, hor, hom, hxv⟩ := src_rep hk hxr (sz := sz) (news := els.take n) (by simp [srcOf, hσ, hn]) he.pos
  rw [htl] at hol hom
  have hid : k.σ id ≠ none := by rw [hσ]; simp
  have hrun : ∀ v w', (Builtin.append_ #[t, t] o.type #[e x, e y]).run P k.w = .ok v w' → (execOp e o).run P k.w = .ok (.value v) w' := fun v w' h => by
    unfold execOp
    simp only [ho, resolve, invoke, builtin, Sem.run_bind, Sem.run_pure, Result.andThen_ok, List.map_toArray, List.map_cons, List.map_nil, h]
  have hm : n + news.length ≤ maxLen := by
    have : (n + news.length) * 1 ≤ (n + news.length) * by_ := Nat.mul_le_mul_left _ hb1
    simp only [maxLen]; omega
  -- a new block
  have grow : ∀ (a : Option Addr) (cap : Nat), e x = .slice a n cap → cap < n + news.length → (a = none → els.take n = [] ∧ cap = 0) → ∃ k' nx r, (execOp e o).run P k.w = .ok nx k'.w ∧ Ok k' ∧ Step k k' ∧ R r k'.σ ∧ Gave k' nx r := by
    intro a cap hxe hcap ha0
    rcases hyv with ⟨hv, h0⟩ | ⟨ad, c, hv, hcells⟩
    · subst h0
      exfalso
      generalize e x = u at hxr hxe
      cases hxr with
      | oslnil => injection hxe with h1 h2 h3; simp only [List.length_nil] at hcap; omega
      | osl _ _ _ hl => injection hxe with h1 h2 h3; simp only [List.length_nil] at hcap; omega
    · have hac : ∀ ad, a = some ad → ∀ (j : Nat) v, old[j]? = some v → k.w.cell? (ad.add j) = some v := fun ad' had j v hj => by
        rcases hxv with ⟨h1, _⟩ | ⟨ad2, c2, h1, h2⟩
        · rw [hxe] at h1; injection h1 with h1; rw [h1] at had; cases had
        · rw [hxe] at h1; injection h1 with h1; rw [h1] at had; cases had; exact h2 j v hj
      obtain ⟨cap', rest, h1, h2, h3, h4, h5⟩ := run_append_new hk he hby hor (by rw [htl]; exact hol) hnr hnl hac ha0 (by rw [htl]; exact hcap) hcells (by rw [htl]; exact hb) (by rw [htl]; exact hm) o.type
      rw [htl] at h1 h4
      have hh := hk.hand (id := id) (nb := some k.w.heap.size) (ob := .row sz et (els.take n ++ news)) (w' := k.w.drew.alloc (.cells (old ++ new ++ rest).toArray et)) hid rfl rfl rfl (by simp) (fun b hb1 _ => heap_alloc_old k.w.drew _ _ hb1)
        (fun b cs t f hb1 hb2 => ⟨cs, f, (heap_alloc_old k.w.drew _ _ (Array.getElem?_eq_some_iff.1 hb2).1).trans hb2, rfl⟩) (fun b hb1 => by cases hb1; exact ⟨by simp, .inl (Nat.le_refl _)⟩)
        (fun k' hs hw hρ ht => RowRep.obj (cs := (old ++ new ++ rest).toArray) hρ (by rw [hw]; exact heap_alloc_new k.w.drew _) (by simpa using h5.step hs))
      refine ⟨_, .value _, some _, hrun _ _ (by rw [hxe, hv]; exact h4), hh.1, hh.2, hR k.top hk.fresh, _, rfl, ?_⟩
      refine .osl (by simp) (by simp) (fun _ => by simp) h1 hm ⟨(old ++ new ++ rest).toArray, et, (0, 0), heap_alloc_new k.w.drew _, ?_⟩
      simp only [List.size_toArray, h3, Nat.zero_add]
      exact Nat.le_refl _
  generalize hu : e x = u at hxr
  cases hxr with
  | oslnil hidt hρ =>
    have hels : els = [] := by
      rcases hk.obj id _ hσ with ⟨_, h⟩ | ⟨b, cs, h, _⟩
      · exact h
      · rw [hρ] at h; cases h
    subst hels
    rcases List.eq_nil_or_concat news with hnil | hne
    · subst hnil
      have hh := hk.hand (id := id) (nb := none) (ob := .row sz et []) (w' := k.w) hid rfl rfl rfl (Nat.le_refl _) (fun b _ _ => rfl) (fun b cs t f h _ => by rw [hρ] at h; cases h) (fun b h => by cases h) (fun k' hs hw hρ' ht => .inl ⟨hρ', rfl⟩)
      refine ⟨_, .value (.slice none 0 0), some _, hrun _ _ ?_, hh.1, hh.2, hR k.top hk.fresh, _, rfl, .oslnil (by simp) (by simp)⟩
      rw [hu]
      rcases hyv with ⟨hv, _⟩ | ⟨ad, c, hv, _⟩
      · rw [hv]; exact run_append_zero he.ht he.hs _ _ _ _ _ _ (Nat.le_refl _) (fun _ => rfl) _
      · rw [hv]; exact run_append_zero he.ht he.hs _ _ _ _ _ _ (Nat.le_refl _) (fun h => by cases h) _
    · have hpos : 0 < news.length := by obtain ⟨_, _, rfl⟩ := hne; simp
      exact grow none 0 hu (by omega) (fun _ => ⟨by simp, rfl⟩)
  | @osl _ _ _ _ b cap p hidt hρ hp hl hm' hfit =>
    by_cases hroom : n + news.length ≤ cap
    · obtain ⟨cs, hh1, hh2⟩ := (hk.obj id _ hσ).row hρ
      have hcapfit : cap * sz ≤ cs.size := by
        obtain ⟨cs', t', f', h1, h2⟩ := hfit
        rw [hh1] at h1; cases h1
        simpa using h2
      have hshape : ∀ cs' : Array Value, cs'.size = cs.size → RowRep k sz (els.take n ++ news) cs'.toList → ∀ w', w'.os = k.w.os → w'.tape = k.w.tape → w'.output = k.w.output → w'.heap.size = k.w.heap.size → (∀ x, x ≠ b → w'.heap[x]? = k.w.heap[x]?) → w'.heap[b]? = some (.cells cs' et (0, 0)) → (execOp e o).run P k.w = .ok (.value (.slice (some ⟨b, p, none⟩) (n + news.length) cap)) w' →
          ∃ k' nx r, (execOp e o).run P k.w = .ok nx k'.w ∧ Ok k' ∧ Step k k' ∧ R r k'.σ ∧ Gave k' nx r := by
        intro cs' hz hrr w' h1 h2 h3 h4 h5 h6 h7
        have hh := hk.hand (id := id) (nb := some b) (ob := .row sz et (els.take n ++ news)) (w' := w') hid h1 h2 h3 (by omega) (fun x _ hx => h5 x fun hxb => hx (by rw [hxb]; exact hρ))
          (fun x cs0 t0 f0 hx hx2 => by rw [hρ] at hx; cases hx; rw [hh1] at hx2; cases hx2; exact ⟨cs', (0, 0), h6, hz⟩) (fun x hx => by cases hx; exact ⟨by rw [h4]; exact (hk.bas id b hid hρ).2, .inr hρ⟩)
          (fun k' hs hw hρ' ht => RowRep.obj (cs := cs') hρ' (by rw [hw]; exact h6) (hrr.step hs))
        refine ⟨_, .value _, some _, h7, hh.1, hh.2, hR k.top hk.fresh, _, rfl, ?_⟩
        exact .osl (by simp) (by simp) hp hroom hm ⟨cs', et, (0, 0), h6, by rw [hz]; simpa using hcapfit⟩
      rcases List.eq_nil_or_concat news with hnil | hne
      · subst hnil
        refine hshape cs rfl (by simpa using (hh2.take n hn).append (rest := cs.toList.drop (n * sz)) (hnilr k sz) (by rw [List.length_take, htl]; have := Nat.mul_le_mul_right sz hn; have := hh2.2.1; omega)) k.w rfl rfl rfl rfl (fun _ _ => rfl) hh1 (hrun _ _ ?_)
        rw [hu]
        rcases hyv with ⟨hv, _⟩ | ⟨ad, c, hv, _⟩
        · rw [hv]; exact run_append_zero he.ht he.hs _ _ _ _ _ _ hl (fun _ => rfl) _
        · rw [hv]; exact run_append_zero he.ht he.hs _ _ _ _ _ _ hl (fun h => by cases h) _
      · have hpos : 0 < news.length := by obtain ⟨_, _, rfl⟩ := hne; simp
        have hp0 : p = 0 := by rw [hp (by omega)]; simp
        subst hp0
        obtain ⟨i, z, hi, hz, hsz, hzs⟩ := he.info
        rcases hyv with ⟨hv, h0⟩ | ⟨ad, c, hv, hcells⟩
        · subst h0; simp at hpos
        · have hfit2 : n * i.size + new.length ≤ cs.size := by
            rw [hsz, hnl, ← Nat.add_mul]
            exact Nat.le_trans (Nat.mul_le_mul_right _ hroom) hcapfit
          have hr2 := run_append_room (P := P) k.w t o.type et i he.ht hi b n cap cs hh1 ad news.length c new (by rw [hsz]; exact hnl) hcells (hnr.all1 hnl) hroom hfit2
          have hne2 : n * sz ≤ cs.toList.length := by have := Nat.mul_le_mul_right sz hn; have := hh2.2.1; omega
          refine hshape _ ?_ ?_ (k.w.setRow b (cs.toList.take (n * i.size) ++ new ++ cs.toList.drop (n * i.size + new.length)).toArray) rfl rfl rfl (by simp) (fun x hx => setRow_other _ _ _ _ hx) (setRow_heap k.w b cs _ et (0, 0) hh1) (hrun _ _ (by rw [hu, hv]; exact hr2))
          · simp only [List.size_toArray, List.length_append, List.length_take, List.length_drop, Array.length_toList]
            omega
          · rw [hsz]
            simpa using (hh2.take n hn).append (rest := cs.toList.drop (n * sz + new.length)) hnr (by rw [List.length_take, htl]; omega)
    · exact grow (some ⟨b, p, none⟩) cap hu (by omega) (fun h => by cases h)
/-- A nil slice is a row of our own with nothing in it (so that a loop may begin with it). -/
theorem Ok.nilRow {k : Cx} (hk : Ok k) (sz : Nat) (et : TypeId) : let k' : Cx := { k with ρ := fun x => if x = k.top then none else k.ρ x, top := k.top + 1, σ := k.σ.set k.top (.row sz et []) }
    Ok k' ∧ Step k k' := by
  intro k'
  have hσ' : ∀ x, x ≠ k.top → k'.σ x = k.σ x := fun x hx => by simp [k', St.set, hx]
  have hρ : ∀ x, x ≠ k.top → k'.ρ x = k.ρ x := fun x hx => by simp [k', hx]
  have hρt : k'.ρ k.top = none := by simp [k']
  have hst : Step k k' := by
    refine ⟨Nat.le_succ _, fun x hx => hρ x (by omega), rfl, rfl, rfl, rfl, Nat.le_refl _, fun b h1 h2 => ⟨rfl, ?_⟩, fun b cs t f h => ⟨cs, f, h, rfl⟩⟩
    rintro ⟨x, h3, h4⟩
    by_cases hx : x = k.top
    · subst hx; rw [hρt] at h4; cases h4
    · rw [hρ x hx] at h4; rw [hσ' x hx] at h3; exact h2 ⟨x, h3, h4⟩
  refine ⟨⟨fun x h => ?_, fun x y b h1 h2 h3 h4 => ?_, fun x b h1 h2 => ?_, hk.hb, fun x ob' h => ?_, hk.ground hst⟩, hst⟩
  · by_cases hx : x = k.top
    · subst hx; exact Nat.lt_succ_self _
    · rw [hσ' x hx] at h; exact Nat.lt_succ_of_lt (hk.dom x h)
  · by_cases hx : x = k.top
    · subst hx; rw [hρt] at h3; cases h3
    · by_cases hy : y = k.top
      · subst hy; rw [hρt] at h4; cases h4
      · rw [hρ x hx] at h3; rw [hρ y hy] at h4; rw [hσ' x hx] at h1; rw [hσ' y hy] at h2; exact hk.inj x y b h1 h2 h3 h4
  · by_cases hx : x = k.top
    · subst hx; rw [hρt] at h2; cases h2
    · rw [hρ x hx] at h2; rw [hσ' x hx] at h1; exact hk.bas x b h1 h2
  · by_cases hx : x = k.top
    · subst hx
      have h1 : k'.σ k.top = some (.row sz et []) := by simp [k', St.set]
      rw [h1] at h; cases h
      exact .inl ⟨hρt, rfl⟩
    · rw [hσ' x hx] at h
      have hd : k.σ x ≠ none := by rw [h]; simp
      exact (hk.obj x ob' h).step hst (hk.dom x hd) fun b _ => rfl
end
end
end Go.Proofs.YtbpoeggmpjepfaaDoor.Ab

/- Abstract values over the model's memory, 7: make, bytes and strings, walks over strings, equality of structs; what one may do to a state without the machine. -/
set_option linter.unusedVariables false
set_option linter.unusedSimpArgs false
set_option maxRecDepth 20000
namespace Go.Proofs.YtbpoeggmpjepfaaDoor.Ab
open Go

section
variable {P : Program} {o : Oper} {E : Operand → Option AV} {σ : St} {R : Option AV → St → Prop}
/-! ### make -/
theorem opj_make {t et : TypeId} {sz by_ : Nat} {zs : List AV} {x y : Operand} {kl kc : IntKind} {l c : Int} (ho : o.op = .makeSlice t x y) (he : Elem P t et sz) (hby : bytesIs P et = some by_) (hz : zeroIs P et = some zs) (hx : E x = some (.v (.int kl l))) (hy : E y = some (.v (.int kc c))) (h0 : 0 ≤ l) (hlc : l ≤ c) (hb : (by_ : Int) * c ≤ 281474976710656) (hb1 : 0 < by_)
    (hR : ∀ id, σ id = none → R (some (.osl id sz 0 l.toNat)) (σ.set id (.row sz et (List.replicate l.toNat zs)))) : OpJ P o E σ R := fun k e hσ hk hr => by
  subst hσ
  have h1 := rep_v (hr x (by rw [ho]; simp [Op.operands]) _ hx)
  have h2 := rep_v (hr y (by rw [ho]; simp [Op.operands]) _ hy)
  obtain ⟨i, z, hi, hzz, hsz, hzs⟩ := he.info
  have hbi : i.bytes = by_ := by unfold bytesIs at hby; simpa [hi] using hby
  have hc48 : c ≤ 281474976710656 := by
    have h3 : 1 * c ≤ (by_ : Int) * c := Int.mul_le_mul_of_nonneg_right (by omega) (by omega)
    omega
  have hrun := run_make (P := P) k.w t et i z he.ht hi hzz kl kc l c h0 hlc (by rw [hbi]; exact hb) (by omega)
  obtain ⟨z', hz1, hz2⟩ := run_zeroIs hz k
  have hzz' : z' = z := by
    have := hz1 k.w
    simp [zeroValue, typeInfo, hi, hzz] at this
    exact this.symm
  subst hzz'
  have hzl : zs.length = sz := by have := hz2.1; simp at this; omega
  have hrow : RowRep k sz (List.replicate l.toNat zs) (madeCells z'.cells (c.toNat * i.size)).toList := by
    have hall := zero_row hz2 c.toNat
    rw [hzs, ← hsz] at hall
    have hr2 := RowRep.chunk (n := c.toNat) (sz := sz) hall (by simp [hzl])
    have hch : ∀ n : Nat, chunk sz n (List.replicate n zs).flatten = List.replicate n zs := by
      intro n
      induction n with
      | zero => rfl
      | succ n ih =>
        rw [List.replicate_succ, List.flatten_cons]
        simp only [chunk]
        rw [← hzl, List.take_left', List.drop_left', hzl, ih] <;> rfl
    rw [hch] at hr2
    have hr3 := hr2.take l.toNat (by simp; omega)
    have e1 : (List.replicate c.toNat zs).take l.toNat = List.replicate l.toNat zs := by rw [List.take_replicate]; congr 1; omega
    rw [e1] at hr3
    refine ⟨hr3.1, ?_, fun a b e' av h1 h2 => ?_⟩
    · have := hr2.2.1
      simp only [List.length_replicate] at this ⊢
      have h5 : l.toNat * sz ≤ c.toNat * sz := Nat.mul_le_mul_right _ (by omega)
      have h6 : (madeCells z'.cells (c.toNat * i.size)).toList.length = c.toNat * i.size := by simp [size_madeCells]
      rw [h6, hsz]
      exact h5
    · obtain ⟨u, h3, h4⟩ := hr3.2.2 a b e' av h1 h2
      refine ⟨u, ?_, h4⟩
      rw [List.getElem?_take] at h3
      split at h3
      · have e2 : (madeCells z'.cells (c.toNat * i.size)) = (Array.range (c.toNat * i.size)).map (z'.cells[· % i.size]!) := by unfold madeCells; rw [hzs, ← hsz]
        rw [e2]
        exact h3
      · cases h3
  have hst := hk.add_step (.cells (madeCells z'.cells (c.toNat * i.size)) et) (.row sz et (List.replicate l.toNat zs))
  have hok := hk.add (.cells (madeCells z'.cells (c.toNat * i.size)) et) (.row sz et (List.replicate l.toNat zs)) (RowRep.obj (b := k.w.heap.size) (by simp [Cx.add]) (heap_alloc_new _ _) (hrow.step hst))
  refine ⟨_, .value (.slice (some ⟨k.w.heap.size, 0, none⟩) l.toNat c.toNat), some _, ?_, hok, hst, hR k.top hk.fresh, _, rfl, ?_⟩
  · unfold execOp
    simp only [ho, h1, h2, Sem.run_bind, hrun, Result.andThen_ok, Sem.run_pure]
    rfl
  · refine .osl (by simp [Cx.add]) (by simp [Cx.add]) (fun _ => by simp) (by omega) (by simp only [maxLen]; omega) ⟨_, et, (0, 0), heap_alloc_new _ _, ?_⟩
    rw [size_madeCells, hsz]
    simp

/-! ### Bytes and strings -/
theorem bys_get (l : List UInt8) (i : Nat) (h : i < l.length) : (bys l)[i]? = some [.v (.int .u8 l[i].toNat)] := by simp [bys, h]
theorem run_convert_bytes_at (w : World) (src e : TypeId) (hs : P.underlying src = some (.slice e)) (he : P.underlying e = some (.int .u8)) (ad : Addr) (len cap : Nat) (xs : List Int) (hlen : xs.length = len)
    (hcell : ∀ i, i < len → w.cell? (ad.add i) = some (.int .u8 (xs.getD i 0))) (dst : TypeId) (hd : P.underlying dst = some .string) : (convert src dst (.slice (some ad) len cap)).run P w = .ok (.string (strOfNums xs)) w := by
  have hl : (loadCells ad len).run P w = .ok (xs.map (Value.int .u8)).toArray w := by
    have := run_loadCells_list (P := P) w ad (xs.map (Value.int .u8)) (fun j v hj => by
      have hjl : j < xs.length := by
        rcases Nat.lt_or_ge j xs.length with h | h
        · exact h
        · simp [List.getElem?_eq_none (show (xs.map (Value.int .u8)).length ≤ j by simpa using h)] at hj
      rw [hcell j (by omega)]
      simp [List.getElem?_eq_getElem hjl] at hj
      subst hj
      simp [List.getD, List.getElem?_eq_getElem hjl])
    simpa [hlen] using this
  rw [run_convert_bytes_string w src dst e _ len cap hs he hd, run_bytesToString w _ len cap xs hl, foldl_push_bytes]
  simp [strOfNums]
theorem opj_conv_bytes {s d et : TypeId} {x : Operand} {av : AV} {l : List UInt8} (ho : o.op = .convert s d x) (hs : P.underlying s = some (.slice et)) (he : P.underlying et = some (.int .u8)) (hd : P.underlying d = some .string) (hx : E x = some av) (hsrc : srcOf σ av = some (1, bys l)) (hR : R (some (.v (.string ⟨l.toArray⟩))) σ) : OpJ P o E σ R :=
  opj_quiet _ (fun k e hσ hk hr => ⟨.string ⟨l.toArray⟩, by
    subst hσ
    have hxr := hr x (by rw [ho]; simp [Op.operands]) _ hx
    obtain ⟨vals, h1, h2, h3, h4⟩ := src_rep hk hxr hsrc (by omega)
    rw [length_bys] at h1 h4
    have hnums : ∀ i, i < l.length → vals[i]? = some (.int .u8 ((l.map fun b => (b.toNat : Int)).getD i 0)) := fun i hi => by
      obtain ⟨u, h5, _, h6⟩ := h2.2.2 i 0 _ _ (bys_get l i hi) rfl
      simp only [Nat.mul_one, Nat.add_zero] at h5
      rw [h5, rep_v h6]
      simp [List.getD, hi]
    unfold execOp
    rcases h4 with ⟨hu, h0⟩ | ⟨ad, cap, hu, hc⟩
    · have hl : l = [] := by cases l <;> simp [bys] at h0 ⊢
      subst hl
      simp only [ho, hu, Sem.run_bind, run_convert_bytes_nil k.w s et hs he 0 0 d hd, Result.andThen_ok, Sem.run_pure]
      rfl
    · have := run_convert_bytes_at (P := P) k.w s et hs he ad l.length cap (l.map fun b => (b.toNat : Int)) (by simp) (fun i hi => hc i _ (hnums i hi)) d hd
      simp only [ho, hu, Sem.run_bind, this, Result.andThen_ok, Sem.run_pure]
      have e1 : strOfNums (l.map fun b => (b.toNat : Int)) = ⟨l.toArray⟩ := by
        unfold strOfNums
        rw [List.map_map]
        have : (l.map ((fun n : Int => UInt8.ofNat n.toNat) ∘ fun b : UInt8 => (b.toNat : Int))) = l := by
          conv => rhs; rw [← List.map_id l]
          apply List.map_congr_left
          intro b _
          simp
        rw [this]
      rw [e1], .v rfl⟩) hR
theorem rep_new_bytes {k : Cx} (hk : Ok k) (et : TypeId) (s : ByteArray) (hm : s.size ≤ maxLen) (cap : Nat) (hc : s.size ≤ cap) : let k' : Cx := { k with w := Lib.bytesWorld k.w et s }
    Ok k' ∧ Step k k' ∧ Rep k' (.sl (some false) false 1 (bys s.data.toList)) (.slice (some ⟨k.w.heap.size, 0, none⟩) s.size cap) := by
  intro k'
  obtain ⟨hok, hst⟩ := hk.world (Lib.bytesWorld k.w et s) rfl rfl rfl (by rw [Lib.bytesWorld_size]; omega) (fun b hb => Lib.bytesWorld_at_old k.w et s b hb)
  have hl : (bys s.data.toList).length = s.size := by rw [length_bys, Array.length_toList]; rfl
  refine ⟨hok, hst, ?_⟩
  rw [← hl]
  have hget : ∀ (i j : Nat) e a, (bys s.data.toList)[i]? = some e → e[j]? = some a → j = 0 ∧ i < s.size ∧ a = .v (.int .u8 (s.data.toList.getD i 0).toNat) := fun i j e a he ha => by
    have hi : i < s.data.toList.length := by have := (List.getElem?_eq_some_iff.1 he).1; rwa [length_bys] at this
    rw [bys_get _ i hi] at he
    cases he
    cases j with
    | succ j => simp at ha
    | zero =>
      simp at ha
      refine ⟨rfl, by rw [Array.length_toList] at hi; exact hi, ?_⟩
      rw [← ha]
      simp only [List.getD_eq_getElem?_getD, List.getElem?_eq_getElem hi, Option.getD_some]
      simp
  refine .sl (f := fun i j => .int .u8 (s.data.toList.getD i 0).toNat) (by simp) (by rw [hl]; exact hc) (by rw [hl]; exact hm) (by simp) (fun i e he => ?_) (fun _ => ⟨by rw [Lib.bytesWorld_size]; omega, fun h => absurd (hk.live_lt (b := k.w.heap.size) h) (Nat.lt_irrefl _)⟩) (fun i j e a he ha => ?_) (fun i j e a he ha => ?_)
  · have hi : i < s.data.toList.length := by have := (List.getElem?_eq_some_iff.1 he).1; rwa [length_bys] at this
    rw [bys_get _ i hi] at he
    cases he
    rfl
  · obtain ⟨rfl, h1, _⟩ := hget i j e a he ha
    refine ⟨?_, rfl⟩
    have := Lib.bytesWorld_cell k.w et s i h1
    simpa using this
  · obtain ⟨rfl, h1, rfl⟩ := hget i j e a he ha
    exact .v rfl
theorem opj_to_bytes {s d et : TypeId} {u : TypeDesc} {x : Operand} {b : ByteArray} (ho : o.op = .convert s d x) (hs : P.underlying s = some u) (hd : P.underlying d = some (.slice et)) (he : P.underlying et = some (.int .u8)) (hx : E x = some (.v (.string b))) (hm : b.size ≤ maxLen) (hR : R (some (.sl (some false) false 1 (bys b.data.toList))) σ) : OpJ P o E σ R := fun k e hσ hk hr => by
  have h1 := rep_v (hr x (by rw [ho]; simp [Op.operands]) _ hx)
  have hrun := Lib.run_convert_string_bytes (P := P) k.w s d et b hs hd he
  obtain ⟨h2, h3, h4⟩ := rep_new_bytes hk et b hm (grownCap k.w b.size 0 et) (grownCap_ge _ _ _ _)
  refine ⟨_, .value _, some _, ?_, h2, h3, hσ ▸ hR, _, rfl, h4⟩
  unfold execOp
  simp only [ho, h1, Sem.run_bind, hrun, Result.andThen_ok, Sem.run_pure]
theorem opj_append_str {t et u : TypeId} {x y : Operand} {nl : Option Bool} {full : Bool} {els : List (List AV)} {ts : Array TypeId} {s : ByteArray} (ho : o.op = .call { callee := .builtin .append, args := #[x, y], argTypes := ts }) (hts : ts = #[t, u]) (he : Elem P t et 1) (hby : bytesIs P et = some 1) (hu : P.underlying u = some .string)
    (hx : E x = some (.sl nl full 1 els)) (hfull : full = true ∨ (nl = some true)) (hy : E y = some (.v (.string s))) (hb : els.length + s.size ≤ 140737488355328)
    (hR0 : s.size = 0 → R (some (.sl nl full 1 els)) σ) (hR1 : s.size ≠ 0 → R (some (.sl (some false) false 1 (els ++ bys s.data.toList))) σ) : OpJ P o E σ R := fun k e hσ hk hr => by
  subst hts
  subst hσ
  have hxr := hr x (by rw [ho]; simp [Op.operands, Call.operands]) _ hx
  have hyr := rep_v (hr y (by rw [ho]; simp [Op.operands, Call.operands]) _ hy)
  obtain ⟨old, hol, ho', hom, hxv⟩ := src_rep hk hxr (sz := 1) (news := els) rfl he.pos
  have hrun : ∀ v w', (Builtin.append_ #[t, u] o.type #[e x, e y]).run P k.w = .ok v w' → (execOp e o).run P k.w = .ok (.value v) w' := fun v w' h => by
    unfold execOp
    simp only [ho, resolve, invoke, builtin, Sem.run_bind, Sem.run_pure, Result.andThen_ok, List.map_toArray, List.map_cons, List.map_nil, h]
  have hcapx : ∃ a cap, e x = .slice a els.length cap ∧ (cap = els.length) ∧ (a = none → els = [] ∧ cap = 0) := by
    generalize e x = u at hxr
    cases hxr with
    | slnil hn => exact ⟨none, 0, rfl, rfl, fun _ => ⟨rfl, rfl⟩⟩
    | sle hn => exact ⟨_, 0, rfl, rfl, fun h => by cases h⟩
    | sl hn' hc hm hf =>
      refine ⟨_, _, rfl, ?_, fun h => by cases h⟩
      rcases hfull with h | h
      · exact hf h
      · exact absurd h hn'
  obtain ⟨a, cap, hxe, hcap, ha0⟩ := hcapx
  obtain ⟨i, z, hi, hz, hsz, hzs⟩ := he.info
  have hbi : i.bytes = 1 := by unfold bytesIs at hby; simpa [hi] using hby
  by_cases h0 : s.size = 0
  · refine ⟨k, .value (e x), some _, ?_, hk, .refl k, hR0 h0, _, rfl, hxr⟩
    rw [hrun (e x) k.w ?_]
    rw [hxe, hyr]
    have e1 : (Array.map (fun b : UInt8 => Value.int IntKind.u8 (b.toNat : Int)) (s.extract 0 0).data) = #[] := by
      have : (s.extract 0 0).data = #[] := by simp
      rw [this]; simp
    cases a with
    | none => simp [Builtin.append_, run_underlying he.ht, run_underlying hu, sizeOf, typeInfo, hi, Builtin.lenOf, h0, hcap, Builtin.firstCells]
    | some ad => simp [Builtin.append_, run_underlying he.ht, run_underlying hu, sizeOf, typeInfo, hi, Builtin.lenOf, h0, hcap, Builtin.firstCells, storeCells]
  · have hm : els.length + s.size ≤ maxLen := by simp only [maxLen]; omega
    have hac : ∀ ad, a = some ad → ∀ (j : Nat) v, old[j]? = some v → k.w.cell? (ad.add j) = some v := fun ad' had j v hj => by
      rcases hxv with ⟨h1, _⟩ | ⟨ad2, c2, h1, h2⟩
      · rw [hxe] at h1; injection h1 with h1; rw [h1] at had; cases had
      · rw [hxe] at h1; injection h1 with h1; rw [h1] at had; cases had; exact h2 j v hj
    let new : List Value := s.data.toList.map fun b => .int .u8 b.toNat
    have hnew : RowRep k 1 (bys s.data.toList) new := by
      refine ⟨fun i e h => ?_, by simp [length_bys, new], fun i j e a h h' => ?_⟩
      · have hi : i < s.data.toList.length := by have := (List.getElem?_eq_some_iff.1 h).1; rwa [length_bys] at this
        rw [bys_get _ i hi] at h; cases h; rfl
      · have hi : i < s.data.toList.length := by have := (List.getElem?_eq_some_iff.1 h).1; rwa [length_bys] at this
        rw [bys_get _ i hi] at h; cases h
        cases j with
        | succ j => simp at h'
        | zero =>
          simp at h'; subst h'
          have hi' : i < s.data.size := by simpa using hi
          refine ⟨.int .u8 s.data.toList[i].toNat, ?_, rfl, .v rfl⟩
          simp only [new, List.getElem?_map, Nat.mul_one, Nat.add_zero, List.getElem?_eq_getElem hi, Option.map_some]
    have hold : old.length = els.length := by simpa using hol
    have hrow := ho'.append (rest := (Builtin.zeroCells z.cells (grownCap k.w (els.length + s.size) cap et - (els.length + s.size))).toList) hnew hol
    have happ : (Builtin.append_ #[t, u] o.type #[.slice a els.length cap, .string s]).run P k.w = .ok (.slice (some ⟨k.w.heap.size, 0, none⟩) (els.length + s.size) (grownCap k.w (els.length + s.size) cap et)) (k.w.drew.alloc (.cells (old ++ new ++ (Builtin.zeroCells z.cells (grownCap k.w (els.length + s.size) cap et - (els.length + s.size))).toList).toArray et)) := by
      have h63' : ¬ (9223372036854775807 < ((els.length : Int) + (s.size : Int))) := by omega
      have hx2 : (Array.map (fun b : UInt8 => Value.int IntKind.u8 (b.toNat : Int)) s.data).extract 0 s.size = Array.map (fun b : UInt8 => Value.int IntKind.u8 (b.toNat : Int)) s.data := by
        have hs : s.size = (Array.map (fun b : UInt8 => Value.int IntKind.u8 (b.toNat : Int)) s.data).size := by rw [Array.size_map]; rfl
        rw [hs, Array.extract_size]
      have hx3 : (s.extract 0 s.size).data.map (fun b : UInt8 => Value.int IntKind.u8 (b.toNat : Int)) = s.data.map (fun b : UInt8 => Value.int IntKind.u8 (b.toNat : Int)) := by
        have : (s.extract 0 s.size) = s := by simp
        rw [this]
      have hn : ¬ (els.length + s.size ≤ cap) := by omega
      have h48' : ¬ (281474976710656 < Builtin.nextslicecap (els.length + s.size) cap * i.bytes) := by
        have := growslice_fits (need := els.length + s.size) (old := cap) (bytes := i.bytes) (by omega) (by rw [hbi]; omega)
        omega
      have hfo : (Builtin.firstCells 1 els.length (.slice a els.length cap)).run P k.w.drew = .ok old.toArray k.w.drew := by
        cases a with
        | none =>
          obtain ⟨h1, _⟩ := ha0 rfl
          have : old = [] := List.eq_nil_of_length_eq_zero (by rw [hold, h1]; rfl)
          rw [this]; simp [Builtin.firstCells]
        | some ad => exact run_firstCells_some (P := P) k.w.drew 1 els.length ad els.length cap old (by omega) (by simpa using hac ad rfl)
      have hfs : (Builtin.firstCells 1 s.size (.string s)).run P k.w.drew = .ok new.toArray k.w.drew := by
        have e2 : (Builtin.firstCells 1 s.size (.string s)).run P k.w.drew = .ok ((s.extract 0 s.size).data.map (fun b : UInt8 => Value.int IntKind.u8 (b.toNat : Int))) k.w.drew := rfl
        rw [e2, hx3]
        congr 1
        apply Array.ext'
        simp [new]
      simp only [Builtin.append_, List.getElem?_toArray, List.getElem?_cons_zero, List.getElem?_cons_succ, Sem.run_bind, run_underlying he.ht, run_underlying hu, Result.andThen_ok, run_sizeIs he.hs, Sem.run_pure, Bool.false_eq_true, if_false, Builtin.lenOf]
      rw [if_neg hn]
      simp [typeInfo, hi, zeroValue, hz, h63', h48', Question.forced, newRow, grownCap, hfo, hfs]
      refine congrArg (fun c => k.w.drew.alloc (.cells c et)) ?_
      apply Array.ext'
      simp
    obtain ⟨hok, hst⟩ := drew_alloc hk (.cells (old ++ new ++ (Builtin.zeroCells z.cells (grownCap k.w (els.length + s.size) cap et - (els.length + s.size))).toList).toArray et)
    have hlen : (els ++ bys s.data.toList).length = els.length + s.size := by rw [List.length_append, length_bys, Array.length_toList]; rfl
    have hrep := rep_new_sl (hk.drew).1 (elem := et) (hrow.step (hk.drew).2) (by rw [hlen]; exact hm) (grownCap k.w (els.length + s.size) cap et) (by rw [hlen]; exact grownCap_ge _ _ _ _) false (by simp)
    rw [hlen] at hrep
    exact ⟨_, .value _, some _, hrun _ _ (by rw [hxe, hyr]; exact happ), hok, hst, hR1 h0, _, rfl, hrep⟩
end
end Go.Proofs.YtbpoeggmpjepfaaDoor.Ab

/- Abstract values over the model's memory, 8: walks over strings, the lesser and the greater of two, equality of structs; what one may do to a state without the machine; calls that only look. -/
set_option linter.unusedVariables false
set_option linter.unusedSimpArgs false
set_option maxRecDepth 20000
namespace Go.Proofs.YtbpoeggmpjepfaaDoor.Ab
open Go

section
variable {P : Program} {o : Oper} {E : Operand → Option AV} {σ : St} {R : Option AV → St → Prop}
/-! ### A string, code point by code point -/
theorem opj_range_str {t : TypeId} {x : Operand} {s : ByteArray} (ho : o.op = .range t x) (ht : P.underlying t = some .string) (hx : E x = some (.v (.string s))) (hR : ∀ id, σ id = none → R (some (.it id)) (σ.set id (.siter s 0))) : OpJ P o E σ R := fun k e hσ hk hr => by
  subst hσ
  have h1 := rep_v (hr x (by rw [ho]; simp [Op.operands]) _ hx)
  have hst := hk.add_step (.stringIter s 0) (.siter s 0)
  have hok := hk.add (.stringIter s 0) (.siter s 0) ⟨k.w.heap.size, by simp [Cx.add], heap_alloc_new _ _⟩
  refine ⟨_, .value (.pointer (some ⟨k.w.heap.size, 0, none⟩)), some _, ?_, hok, hst, hR k.top hk.fresh, _, rfl, .it (by simp [Cx.add]) (by simp [Cx.add])⟩
  unfold execOp
  simp only [ho, h1, Sem.run_bind, run_range_string (P := P) k.w t s ht, Result.andThen_ok, Sem.run_pure]
  rfl
theorem Ok.setObj {k : Cx} (hk : Ok k) {id b : Nat} {ob : Obj} {o' : AObj} (hid : k.σ id ≠ none) (hb : k.ρ id = some b) (hnc : ∀ (cs : Array Value) (t : TypeId) (f : Nat × Nat), k.w.heap[b]? ≠ some (.cells cs t f))
    (ho : ∀ k', Step k k' → k'.ρ id = some b → k'.w.heap[b]? = some ob → ObjOk k' id o') : let k' : Cx := { k with σ := k.σ.set id o', w := { k.w with heap := k.w.heap.setIfInBounds b ob } }
    Ok k' ∧ Step k k' := by
  intro k'
  have hblt := (hk.bas id b hid hb).2
  have hother : ∀ x, x ≠ b → k'.w.heap[x]? = k.w.heap[x]? := fun x hx => Array.getElem?_setIfInBounds_ne (Ne.symm hx)
  have hsame : k'.w.heap[b]? = some ob := by show (k.w.heap.setIfInBounds b ob)[b]? = _; simp [hblt]
  have hne : ∀ x, k.σ.set id o' x ≠ none ↔ k.σ x ≠ none := fun x => by
    by_cases hx : x = id
    · subst hx; simp [St.set, hid]
    · simp [St.set, hx]
  have hsz : k'.w.heap.size = k.w.heap.size := Array.size_setIfInBounds
  have hst : Step k k' := by
    refine ⟨Nat.le_refl _, fun _ _ => rfl, rfl, rfl, rfl, rfl, by rw [hsz]; exact Nat.le_refl _, fun x h1 h2 => ⟨hother x fun e => h2 (e ▸ ⟨id, hid, hb⟩), fun ⟨i, h3, h4⟩ => h2 ⟨i, (hne i).1 h3, h4⟩⟩, fun x c t f hx => ?_⟩
    by_cases hxb : x = b
    · subst hxb; exact absurd hx (hnc c t f)
    · exact ⟨c, f, (hother x hxb).trans hx, rfl⟩
  refine ⟨⟨fun x h => hk.dom x ((hne x).1 h), fun x y c h1 h2 => hk.inj x y c ((hne x).1 h1) ((hne y).1 h2), fun x c h1 h2 => ?_, by rw [hsz]; exact hk.hb, fun x ob' hx => ?_, hk.ground hst⟩, hst⟩
  · rw [hsz]; exact hk.bas x c ((hne x).1 h1) h2
  · by_cases hxi : x = id
    · subst hxi
      have h1 : k'.σ x = some o' := by simp [k', St.set]
      rw [h1] at hx
      cases hx
      exact ho k' hst hb hsame
    · have h1 : k'.σ x = k.σ x := by simp [k', St.set, hxi]
      rw [h1] at hx
      have hd : k.σ x ≠ none := by rw [hx]; simp
      exact (hk.obj x ob' hx).step hst (hk.dom x hd) fun c hc => hother c fun e => hxi (hk.inj x id b hd hid (e ▸ hc) hb)
theorem opj_next_more {x : Operand} {id pos : Nat} {s : ByteArray} (ho : o.op = .next x true) (hx : E x = some (.it id)) (hσ : σ id = some (.siter s pos)) (hp : pos < s.size)
    (hR : R (some (.tup [.v (.bool true), .v (.int .i64 pos), .v (.int .i32 (Utf8.decode s pos).1)])) (σ.set id (.siter s (pos + (Utf8.decode s pos).2)))) : OpJ P o E σ R := fun k e hσ' hk hr => by
  subst hσ'
  have h := hr x (by rw [ho]; simp [Op.operands]) _ hx
  generalize hu : e x = u at h
  cases h with
  | it ht hb =>
    rename_i b
    obtain ⟨b', h1, h2⟩ := hk.obj id _ hσ
    rw [hb] at h1; cases h1
    have hid : k.σ id ≠ none := by rw [hσ]; simp
    obtain ⟨hok, hst⟩ := hk.setObj (ob := .stringIter s (pos + (Utf8.decode s pos).2)) (o' := .siter s (pos + (Utf8.decode s pos).2)) hid hb (fun cs t f h => by rw [h2] at h; cases h) (fun k' _ h3 h4 => ⟨b, h3, h4⟩)
    refine ⟨_, .value (.tuple #[.bool true, .int .i64 pos, .int .i32 (Utf8.decode s pos).1]), some _, ?_, hok, hst, hR, _, rfl, ?_⟩
    · unfold execOp
      simp only [ho, hu, Instr.next, Sem.run_bind]
      simp [getObj, setObj, Sem.run, h2, hp, goInt]
    · refine .tup (by simp) (fun j a u ha hu => ?_)
      match j with
      | 0 => simp at ha hu; subst ha; subst hu; exact .v rfl
      | 1 => simp at ha hu; subst ha; subst hu; exact .v rfl
      | 2 => simp at ha hu; subst ha; subst hu; exact .v rfl
      | j + 3 => simp at ha
theorem opj_next_over {x : Operand} {id pos : Nat} {s : ByteArray} (ho : o.op = .next x true) (hx : E x = some (.it id)) (hσ : σ id = some (.siter s pos)) (hp : s.size ≤ pos) (hR : R (some (.tup [.v (.bool false)])) σ) : OpJ P o E σ R :=
  opj_quiet _ (fun k e hσ' hk hr => by
    subst hσ'
    have h := hr x (by rw [ho]; simp [Op.operands]) _ hx
    generalize hu : e x = u at h
    cases h with
    | it ht hb =>
      rename_i b
      obtain ⟨b', h1, h2⟩ := hk.obj id _ hσ
      rw [hb] at h1; cases h1
      refine ⟨.tuple #[.bool false], ?_, .tup (by simp) (fun j a u ha hu => ?_)⟩
      · unfold execOp
        simp only [ho, hu, Instr.next, Sem.run_bind]
        simp [getObj, Sem.run, h2, Nat.not_lt.2 hp]
      · match j with
        | 0 => simp at ha hu; subst ha; subst hu; exact .v rfl
        | j + 1 => simp at ha) hR

/-! ### The lesser, the greater -/
theorem opj_min {x y : Operand} {k : IntKind} {a b : Int} {ts : Array TypeId} (ho : o.op = .call { callee := .builtin .min, args := #[x, y], argTypes := ts }) (hx : E x = some (.v (.int k a))) (hy : E y = some (.v (.int k b))) (hR : R (some (.v (.int k (if b < a then b else a)))) σ) : OpJ P o E σ R :=
  opj_quiet _ (fun k' e hσ hk hr => ⟨.int k (if b < a then b else a), by
    have h1 := rep_v (hr x (by rw [ho]; simp [Op.operands, Call.operands]) _ hx)
    have h2 := rep_v (hr y (by rw [ho]; simp [Op.operands, Call.operands]) _ hy)
    unfold execOp
    simp [ho, h1, h2, resolve, invoke, builtin, Builtin.min_, Builtin.min2], .v rfl⟩) hR
theorem opj_max {x y : Operand} {k : IntKind} {a b : Int} {ts : Array TypeId} (ho : o.op = .call { callee := .builtin .max, args := #[x, y], argTypes := ts }) (hx : E x = some (.v (.int k a))) (hy : E y = some (.v (.int k b))) (hR : R (some (.v (.int k (if a < b then b else a)))) σ) : OpJ P o E σ R :=
  opj_quiet _ (fun k' e hσ hk hr => ⟨.int k (if a < b then b else a), by
    have h1 := rep_v (hr x (by rw [ho]; simp [Op.operands, Call.operands]) _ hx)
    have h2 := rep_v (hr y (by rw [ho]; simp [Op.operands, Call.operands]) _ hy)
    unfold execOp
    simp [ho, h1, h2, resolve, invoke, builtin, Builtin.max_, Builtin.max2], .v rfl⟩) hR

/-! ### Equality of structs -/
/-- What '==' tells of two values of a type; structs field by field. -/
def eqV (P : Program) : Nat → TypeId → AV → AV → Option Bool
  | 0, _, _, _ => none
  | d + 1, t, x, y =>
    match x, y with
    | .v (.int k a), .v (.int k' b) => match P.underlying t with
      | some (.int _) => if k = k' then some (decide (a = b)) else none
      | _ => none
    | .v (.string a), .v (.string b) => match P.underlying t with
      | some .string => some (decide (a = b))
      | _ => none
    | .v (.bool a), .v (.bool b) => match P.underlying t with
      | some .bool => some (a == b)
      | _ => none
    | .agg xs, .agg ys => match P.underlying t with
      | some (.struct fs) => if P.stoodInHeld t then none else
        fs.toList.foldr (fun f acc => if f.name = "_" then acc else match shapeOf P f.type with
          | some q => match part? xs f.offset q, part? ys f.offset q with
            | some a, some b => match eqV P d f.type a b, acc with
              | some r, some r' => some (r && r')
              | _, _ => none
            | _, _ => none
          | none => none) (some true)
      | _ => none
    | _, _ => none
theorem run_eqV {k : Cx} : ∀ (d : Nat) (t : TypeId) (x y : AV) (u v : Value) (r : Bool), eqV P d t x y = some r → Rep k x u → Rep k y v → ∀ n, (Op.equalIn (d + n) t u v).run P k.w = .ok r k.w
  | 0, _, _, _, _, _, _, h => by simp [eqV] at h
  | d + 1, t, x, y, u, v, r, h => by
    intro hu hv n
    have e0 : d + 1 + n = (d + n) + 1 := by omega
    rw [e0]
    unfold eqV at h
    split at h
    · cases rep_v hu; cases rep_v hv
      split at h
      · rename_i ht
        split at h
        · rename_i hk; subst hk; cases h
          rw [Go.run_equalIn_int (P := P) k.w _ t _ _ _ _ ht]
          rfl
        · cases h
      · cases h
    · cases rep_v hu; cases rep_v hv
      split at h
      · rename_i ht
        cases h
        rw [Go.run_equalIn_string (P := P) k.w _ t _ _ ht, str_beq]
      · cases h
    · cases rep_v hu; cases rep_v hv
      split at h
      · rename_i ht
        cases h
        exact Ab.run_equalIn_bool _ ht _ _ _
      · cases h
    · rename_i xs ys
      split at h
      · rename_i fs ht
        split at h
        · cases h
        · rename_i hst
          cases hu with
          | agg hl1 h11 hc1 =>
            cases hv with
            | agg hl2 h12 hc2 =>
              rename_i us vs
              have hfo : P.fieldsOf t = fs := by simp [Program.fieldsOf, ht]
              have hst' : P.stoodInHeld t = false := by simpa using hst
              rw [run_equalIn_struct (P := P) k.w (d + n) t us vs (by rw [hfo]; exact ht) hst', hfo]
              generalize fs.toList = l at h ⊢
              clear ht hfo
              induction l generalizing r with
              | nil => simp at h; subst h; rfl
              | cons f l ih =>
                simp only [List.foldr_cons] at h
                by_cases hn : f.name = "_"
                · rw [if_pos hn] at h
                  simp only [Op.eqFields]
                  rw [if_neg (by simpa using hn)]
                  exact ih r h
                · rw [if_neg hn] at h
                  split at h
                  · rename_i q hq
                    split at h
                    · rename_i a b ha hb
                      split at h
                      · rename_i r1 r2 hr1 hr2
                        cases h
                        obtain ⟨u1, h1, h2⟩ := run_part (P := P) (k := k) hq hl1 h11 hc1 ha k.w
                        obtain ⟨v1, h3, h4⟩ := run_part (P := P) (k := k) hq hl2 h12 hc2 hb k.w
                        have h5 := run_eqV d f.type a b u1 v1 r1 hr1 h2 h4 n
                        simp only [Op.eqFields]
                        rw [if_pos (by simpa using hn)]
                        simp only [Sem.run_bind, h1, h3, Result.andThen_ok, h5]
                        cases r1 with
                        | true => simp only [Bool.not_true, Bool.false_eq_true, if_false, Bool.true_and]; exact ih r2 hr2
                        | false => simp
                      · cases h
                    · cases h
                  · cases h
      · cases h
    · cases h
theorem opj_eq_agg {t t' : TypeId} {x y : Operand} {xs ys : List AV} {d : Nat} {r : Bool} (ho : o.op = .binOp .eql t x y t') (hx : E x = some (.agg xs)) (hy : E y = some (.agg ys)) (hg : P.eqGuardType P.depth t = false) (hd : d ≤ 10000) (h : eqV P d t (.agg xs) (.agg ys) = some r) (hR : R (some (.v (.bool r))) σ) : OpJ P o E σ R :=
  opj_quiet _ (fun k e hσ hk hr => ⟨.bool r, by
    have h1 := hr x (by rw [ho]; simp [Op.operands]) _ hx
    have h2 := hr y (by rw [ho]; simp [Op.operands]) _ hy
    have h3 := run_eqV d t _ _ _ _ r h h1 h2 (10000 - d)
    have e1 : d + (10000 - d) = 10000 := by omega
    rw [e1] at h3
    generalize hu : e x = u at h1 h3
    generalize hv : e y = v at h2 h3
    cases h1; cases h2
    unfold execOp
    simp only [ho, hu, hv, Sem.run_bind, run_eqGuard_agg (P := P) k.w _ t x y _ _ hg, Result.andThen_ok, run_eql_struct, h3, Sem.run_pure], .v rfl⟩) hR
theorem opj_ne_agg {t t' : TypeId} {x y : Operand} {xs ys : List AV} {d : Nat} {r : Bool} (ho : o.op = .binOp .neq t x y t') (hx : E x = some (.agg xs)) (hy : E y = some (.agg ys)) (hg : P.eqGuardType P.depth t = false) (hd : d ≤ 10000) (h : eqV P d t (.agg xs) (.agg ys) = some r) (hR : R (some (.v (.bool (!r)))) σ) : OpJ P o E σ R :=
  opj_quiet _ (fun k e hσ hk hr => ⟨.bool (!r), by
    have h1 := hr x (by rw [ho]; simp [Op.operands]) _ hx
    have h2 := hr y (by rw [ho]; simp [Op.operands]) _ hy
    have h3 := run_eqV d t _ _ _ _ r h h1 h2 (10000 - d)
    have e1 : d + (10000 - d) = 10000 := by omega
    rw [e1] at h3
    generalize hu : e x = u at h1 h3
    generalize hv : e y = v at h2 h3
    cases h1; cases h2
    unfold execOp
    simp only [ho, hu, hv, Sem.run_bind, run_eqGuard_agg (P := P) k.w _ t x y _ _ hg, Result.andThen_ok, run_neq_struct, h3, Sem.run_pure], .v rfl⟩) hR
end

/-! ### Without the machine: a state read otherwise -/
/-- From (fr, σ) one may go on as from (fr', σ'). -/
def Ghost (fr : Fr) (σ : St) (K : Fr → St → Prop) : Prop := ∀ (k : Cx) (tmps : Array Value), k.σ = σ → Ok k → FrOk k fr tmps → ∃ k' fr', k'.w = k.w ∧ Ok k' ∧ Step k k' ∧ FrOk k' fr' tmps ∧ K fr' k'.σ
section
variable {P : Program} {nt : Nat} {ops : Array Oper} {Q : Post} {fr : Fr} {σ : St}
theorem cj_ghost {c : Code} (h : Ghost fr σ (fun fr' σ' => CJ P nt c Q fr' σ')) : CJ P nt c Q fr σ := fun k a hσ hk hz hf => by
  obtain ⟨k', fr', h1, h2, h3, h4, h5⟩ := h k a.tmps hσ hk hf
  rw [← h1]
  exact Code.wp_mono (fun _ _ _ => conc_step h3 rfl rfl) (h5 k' a rfl h2 hz h4)
theorem lj_ghost {l : List Oper} (h : Ghost fr σ (fun fr' σ' => LJ P nt ops Q l fr' σ')) : LJ P nt ops Q l fr σ := fun k a hσ hk hz hf => by
  obtain ⟨k', fr', h1, h2, h3, h4, h5⟩ := h k a.tmps hσ hk hf
  rw [← h1]
  exact wpList_mono (fun _ _ _ => conc_step h3 rfl rfl) _ _ _ (h5 k' a rfl h2 hz h4)
theorem ghost_forget {fr' : Fr} {σ' : St} {K : Fr → St → Prop} (hf : ∀ t a, lk fr' t = some a → lk fr t = some a) (hle : σ'.le σ) (h : K fr' σ') : Ghost fr σ K := fun k tmps hσ hk hfr => by
  subst hσ
  obtain ⟨hok, hst⟩ := hk.forget hle
  exact ⟨{ k with σ := σ' }, fr', rfl, hok, hst, fun t av ht => by
    obtain ⟨u, hu, hr⟩ := hfr t av (hf t av ht)
    exact ⟨u, hu, hr.step hst⟩, h⟩
/-- A nil slice as a row of our own. -/
theorem ghost_nil {t : Nat} {f : Bool} {s : Nat} {K : Fr → St → Prop} (sz : Nat) (et : TypeId) (ht : lk fr t = some (.sl (some true) f s [])) (h : ∀ id, σ id = none → K ((t, .osl id sz 0 0) :: fr) (σ.set id (.row sz et []))) : Ghost fr σ K := fun k tmps hσ hk hfr => by
  subst hσ
  obtain ⟨hok, hst⟩ := hk.nilRow sz et
  refine ⟨{ k with ρ := fun x => if x = k.top then none else k.ρ x, top := k.top + 1, σ := k.σ.set k.top (.row sz et []) }, _, rfl, hok, hst, fun x a hx => ?_, h k.top hk.fresh⟩
  rw [lk_cons] at hx
  split at hx
  · rename_i hxt
    subst hxt
    cases hx
    obtain ⟨u, hu, hr⟩ := hfr x _ ht
    refine ⟨u, hu, ?_⟩
    have : u = .slice none 0 0 := by
      cases hr with
      | slnil => rfl
      | sle hn => exact absurd rfl hn
      | sl hn => exact absurd rfl hn
    subst this
    exact .oslnil (by simp) (by simp)
  · obtain ⟨u, hu, hr⟩ := hfr x a hx
    exact ⟨u, hu, hr.step hst⟩
/-- A row of our own that nobody writes any more. -/
theorem rep_freeze {k : Cx} (hk : Ok k) {id sz off len : Nat} {et : TypeId} {els : List (List AV)} {u : Value} (h : Rep k (.osl id sz off len) u) (hσ : k.σ id = some (.row sz et els)) (hl : off + len ≤ els.length) (hpos : 0 < sz) :
    Rep { k with σ := k.σ.del id } (.sl none false sz ((els.drop off).take len)) u := by
  obtain ⟨hok, hst⟩ := hk.forget (St.del_le k.σ id)
  have hlen : ((els.drop off).take len).length = len := by simp; omega
  obtain ⟨vals, h1, h2, h3, h4⟩ := src_rep hk h (sz := sz) (news := (els.drop off).take len) (by simp [srcOf, hσ, hl]) hpos
  cases h with
  | oslnil => 
    have : (els.drop 0).take 0 = [] := by simp
    rw [this]
    exact .slnil (by simp)
  | @osl _ _ _ _ b cap p ht hb hp hl' hm hfit =>
    rcases h4 with ⟨hu, _⟩ | ⟨ad, c, hu, hc⟩
    · cases hu
    · injection hu with e1 e2 e3
      injection e1 with e1
      subst e1
      subst e3
      have hid : k.σ id ≠ none := by rw [hσ]; simp
      have hgoal : Rep { k with σ := k.σ.del id } (.sl none false sz ((els.drop off).take len)) (.slice (some ⟨b, p, none⟩) ((els.drop off).take len).length cap) := by
        refine .sl (f := fun i j => (vals[i * sz + j]?).getD undef) (by simp) (by omega) (by omega) (by simp) h2.1 (fun _ => ⟨(hk.bas id b hid hb).2, ?_⟩) (fun i j e a he ha => ?_) (fun i j e a he ha => ?_)
        · rintro ⟨x, h5, h6⟩
          have hx : x ≠ id := fun e => by subst e; simp [St.del] at h5
          have h7 : k.σ x ≠ none := by simpa [St.del, hx] using h5
          exact hx (hk.inj x id b h7 hid h6 hb)
        · obtain ⟨v, h5, h6, h7⟩ := h2.2.2 i j e a he ha
          simp only [h5, Option.getD_some]
          have := hc _ v h5
          rw [Addr.add_mid] at this
          exact ⟨this, h6⟩
        · obtain ⟨v, h5, h6, h7⟩ := h2.2.2 i j e a he ha
          simp only [h5, Option.getD_some]
          exact h7.step hst
      rw [hlen] at hgoal
      exact hgoal
theorem ghost_freeze {t id sz off len : Nat} {et : TypeId} {els : List (List AV)} {K : Fr → St → Prop} (ht : lk fr t = some (.osl id sz off len)) (hσ : σ id = some (.row sz et els)) (hl : off + len ≤ els.length) (hpos : 0 < sz) (h : K ((t, .sl none false sz ((els.drop off).take len)) :: fr) (σ.del id)) : Ghost fr σ K := fun k tmps hσ' hk hfr => by
  subst hσ'
  obtain ⟨hok, hst⟩ := hk.forget (St.del_le k.σ id)
  refine ⟨{ k with σ := k.σ.del id }, _, rfl, hok, hst, fun x a hx => ?_, h⟩
  rw [lk_cons] at hx
  split at hx
  · rename_i hxt
    subst hxt
    cases hx
    obtain ⟨u, hu, hr⟩ := hfr x _ ht
    exact ⟨u, hu, rep_freeze hk hr hσ hl hpos⟩
  · obtain ⟨u, hu, hr⟩ := hfr x a hx
    exact ⟨u, hu, hr.step hst⟩
end
end Go.Proofs.YtbpoeggmpjepfaaDoor.Ab

/- Abstract values over the model's memory, 9: the walk's own forms. -/
set_option linter.unusedVariables false
set_option linter.unusedSimpArgs false
set_option maxRecDepth 20000
namespace Go.Proofs.YtbpoeggmpjepfaaDoor.Ab
open Go

section
variable {P : Program} {nt : Nat} {ops : Array Oper} {Q Q2 : Post} {fr : Fr} {σ : St} {rest : List Oper} {t : Tmp} {op : Op} {ty : TypeId} {pos : String} {aft : Array Edge} {av : AV}
theorem lj_v (hd : fits nt (some t) = true) (hJ : ∀ (R : Option AV → St → Prop), R (some av) σ → OpJ P ⟨some t, op, ty, pos, aft, none⟩ (ev fr) σ R) (h : LJ P nt ops Q rest ((t, av) :: fr) σ) : LJ P nt ops Q (⟨some t, op, ty, pos, aft, none⟩ :: rest) fr σ :=
  lj_op rfl hd (hJ _ h)
theorem lj_v_any {α : Type} {mk : α → AV} {C : α → Prop} (hd : fits nt (some t) = true) (hJ : ∀ (R : Option AV → St → Prop), (∀ b, C b → R (some (mk b)) σ) → OpJ P ⟨some t, op, ty, pos, aft, none⟩ (ev fr) σ R) (h : ∀ b, C b → LJ P nt ops Q rest ((t, mk b) :: fr) σ) : LJ P nt ops Q (⟨some t, op, ty, pos, aft, none⟩ :: rest) fr σ :=
  lj_op rfl hd (hJ _ h)
theorem lj_ite {p : Prop} {x y : AV} (hd : fits nt (some t) = true) (_ : True) (hJ : ∀ (R : Option AV → St → Prop), (p → R (some x) σ) → (¬ p → R (some y) σ) → OpJ P ⟨some t, op, ty, pos, aft, none⟩ (ev fr) σ R) (h : p → LJ P nt ops Q rest ((t, x) :: fr) σ) (h' : ¬ p → LJ P nt ops Q rest ((t, y) :: fr) σ) : LJ P nt ops Q (⟨some t, op, ty, pos, aft, none⟩ :: rest) fr σ :=
  lj_op rfl hd (hJ _ h h')
theorem lj_v0 (hJ : ∀ (R : Option AV → St → Prop), R (some av) σ → OpJ P ⟨none, op, ty, pos, aft, none⟩ (ev fr) σ R) (h : LJ P nt ops Q rest fr σ) : LJ P nt ops Q (⟨none, op, ty, pos, aft, none⟩ :: rest) fr σ :=
  lj_op rfl rfl (hJ _ h)
theorem lj_s {σ' : St} (hJ : ∀ (R : Option AV → St → Prop), R none σ' → OpJ P ⟨none, op, ty, pos, aft, none⟩ (ev fr) σ R) (h : LJ P nt ops Q rest fr σ') : LJ P nt ops Q (⟨none, op, ty, pos, aft, none⟩ :: rest) fr σ :=
  lj_op rfl rfl (hJ _ h)
theorem lj_w {σ' : St} (hd : fits nt (some t) = true) (hJ : ∀ (R : Option AV → St → Prop), R (some av) σ' → OpJ P ⟨some t, op, ty, pos, aft, none⟩ (ev fr) σ R) (h : LJ P nt ops Q rest ((t, av) :: fr) σ') : LJ P nt ops Q (⟨some t, op, ty, pos, aft, none⟩ :: rest) fr σ :=
  lj_op rfl hd (hJ _ h)
theorem lj_f {mk : Nat → AV} {st : Nat → St} (hd : fits nt (some t) = true) (hJ : ∀ (R : Option AV → St → Prop), (∀ id, σ id = none → R (some (mk id)) (st id)) → OpJ P ⟨some t, op, ty, pos, aft, none⟩ (ev fr) σ R) (h : ∀ id, σ id = none → LJ P nt ops Q rest ((t, mk id) :: fr) (st id)) : LJ P nt ops Q (⟨some t, op, ty, pos, aft, none⟩ :: rest) fr σ :=
  lj_op rfl hd (hJ _ h)
theorem lj_vy {j u : Nat} {b : Bool} (hd : fits nt (some t) = true) (hj : (ops[j]?).bind (·.dst) = some u) (hl : lk fr u = some (.v (.bool b))) (hJ : ∀ (R : Option AV → St → Prop), R (some av) σ → OpJ P ⟨some t, op, ty, pos, aft, some (j, b)⟩ (ev fr) σ R) (h : LJ P nt ops Q rest ((t, av) :: fr) σ) : LJ P nt ops Q (⟨some t, op, ty, pos, aft, some (j, b)⟩ :: rest) fr σ :=
  lj_guard_yes rfl hj hl hd (hJ _ h)
theorem lj_vn {j u : Nat} {b c : Bool} (hd : fits nt (some t) = true) (hj : (ops[j]?).bind (·.dst) = some u) (hl : lk fr u = some (.v (.bool b))) (hne : (b == c) = false) (h : LJ P nt ops Q rest ((t, .tup []) :: fr) σ) : LJ P nt ops Q (⟨some t, op, ty, pos, aft, some (j, c)⟩ :: rest) fr σ :=
  lj_guard_no rfl hj hl hne hd h
theorem lj_end {y : Code} (h : CJ P nt y Q2 fr σ) : LJ P nt ops (thn Q (CJ P nt y Q2)) [] fr σ := lj_nil h
theorem lj_pure {f : FuncId} {xs : Array Operand} {ts : Array TypeId} {as : List AV} {r : AV} (hd : fits nt (some t) = true) (has : evs fr xs.toList = some as) (hent : entered P f = true) (hp : Pure P f as r) (h : LJ P nt ops Q rest ((t, r) :: fr) σ) :
    LJ P nt ops Q (⟨some t, .call { callee := .value (.func f), args := xs, argTypes := ts }, ty, pos, aft, none⟩ :: rest) fr σ :=
  lj_call_pure (x := .func f) (f := f) (caps := []) rfl rfl rfl hd rfl has hent (by simpa using hp) h
theorem lj_calls {f : FuncId} {xs : Array Operand} {ts : Array TypeId} {as : List AV} {R : AEnd → St → Prop} (hd : fits nt (some t) = true) (has : evs fr xs.toList = some as) (hent : entered P f = true) (hp : ACalls P f as σ R)
    (h : ∀ r σ', R (.ret r) σ' → LJ P nt ops Q rest ((t, r) :: fr) σ') (hpan : ∀ x σ', R (.panic x) σ' → Q (.panic x) fr σ') :
    LJ P nt ops Q (⟨some t, .call { callee := .value (.func f), args := xs, argTypes := ts }, ty, pos, aft, none⟩ :: rest) fr σ :=
  lj_call (x := .func f) (f := f) (caps := []) rfl rfl rfl hd rfl has hent (by
    rw [List.append_nil]
    refine hp.mono fun e σ' he => ?_
    cases e with
    | ret r => exact h r σ' he
    | panic x => exact hpan x σ' he)
theorem lj_calls0 {f : FuncId} {xs : Array Operand} {ts : Array TypeId} {as : List AV} {R : AEnd → St → Prop} (has : evs fr xs.toList = some as) (hent : entered P f = true) (hp : ACalls P f as σ R)
    (h : ∀ r σ', R (.ret r) σ' → LJ P nt ops Q rest fr σ') (hpan : ∀ x σ', R (.panic x) σ' → Q (.panic x) fr σ') :
    LJ P nt ops Q (⟨none, .call { callee := .value (.func f), args := xs, argTypes := ts }, ty, pos, aft, none⟩ :: rest) fr σ :=
  lj_call (x := .func f) (f := f) (caps := []) rfl rfl rfl rfl rfl has hent (by
    rw [List.append_nil]
    refine hp.mono fun e σ' he => ?_
    cases e with
    | ret r => exact h r σ' he
    | panic x => exact hpan x σ' he)
theorem lj_le {l : List Oper} {σ' : St} (hle : σ'.le σ) (h : LJ P nt ops Q l fr σ') : LJ P nt ops Q l fr σ := lj_ghost (ghost_forget (fun _ _ h => h) hle h)

theorem St.set_keep {σ : St} {id x : Nat} {o o' : AObj} (hid : σ id = none) (h : σ x = some o') : σ.set id o x = some o' := St.le_set o hid x o' h
/-! ### Where one goes -/
theorem nx_thn {K : Fr → St → Prop} (h : K fr σ) : thn Q K .normal fr σ := h
theorem nx_thn_cj {y : Code} (h : CJ P nt y Q2 fr σ) : thn Q (CJ P nt y Q2) .normal fr σ := h
theorem nx_ret_thn {K : Fr → St → Prop} (h : Q .ret fr σ) : thn Q K .ret fr σ := h
theorem nx_ret_inb {id : Nat} (h : Q .ret fr σ) : inb id Q .ret fr σ := h
theorem nx_exit_thn {K : Fr → St → Prop} {id : Nat} (h : Q (.exit id) fr σ) : thn Q K (.exit id) fr σ := h
theorem nx_exit_same {id : Nat} (h : Q .normal fr σ) : inb id Q (.exit id) fr σ := ⟨fun _ => h, fun h => absurd rfl h⟩
theorem nx_exit_other {id i : Nat} (hne : (i == id) = false) (h : Q (.exit i) fr σ) : inb id Q (.exit i) fr σ := ⟨fun he => by subst he; simp at hne, fun _ => h⟩
theorem nx_inb {id : Nat} (h : Q .normal fr σ) : inb id Q .normal fr σ := h
theorem nx_panic_thn {K : Fr → St → Prop} {x : AV} (h : Q (.panic x) fr σ) : thn Q K (.panic x) fr σ := h
theorem nx_panic_inb {id : Nat} {x : AV} (h : Q (.panic x) fr σ) : inb id Q (.panic x) fr σ := h
/-- What a call hands back, out of frame and store. -/
def ResR (P : Program) (σ : St) (fr : Fr) : List ResultVar → List AV → Prop
  | [], as => as = []
  | .tmp t :: l, as => ∃ a as', as = a :: as' ∧ lk fr t = some a ∧ ResR P σ fr l as'
  | .cell t ty :: l, as => ∃ a as' id sz i j elem els el q, as = a :: as' ∧ lk fr t = some (.ptr id sz i j) ∧ σ id = some (.row sz elem els) ∧ els[i]? = some el ∧ shapeOf P ty = some q ∧ load? (el.drop j) q = some a ∧ ResR P σ fr l as'
theorem ResR.of : ∀ {l : List ResultVar} {as : List AV}, results' fr l = some as → ResR P σ fr l as
  | [], as, h => by cases h; rfl
  | .cell _ _ :: _, as, h => by simp [results'] at h
  | .tmp t :: l, as, h => by
    unfold results' at h
    split at h
    · rename_i a as' h1 h2
      cases h
      exact ⟨a, as', rfl, h1, ResR.of h2⟩
    · cases h
theorem run_ResR {k : Cx} (hk : Ok k) (hσ : k.σ = σ) {tmps : Array Value} (hf : FrOk k fr tmps) : ∀ (l : List ResultVar) (as : List AV), ResR P σ fr l as →
    ∃ vs : List Value, (l.mapM (m := Sem) fun
      | .tmp t => pure (tmps.getD t undef)
      | .cell a t => do loadVar t (← asAddr (tmps.getD a undef))).run P k.w = .ok vs k.w ∧ Reps k as vs
  | [], as, h => by
    have : as = [] := h
    subst this
    exact ⟨[], by simp, rfl, fun j a u h _ => by simp at h⟩
  | .tmp t :: l, as, h => by
    obtain ⟨b, bs, rfl, h1, h2⟩ := h
    obtain ⟨vs, h3, h4, h5⟩ := run_ResR hk hσ hf l bs h2
    obtain ⟨u, hu, hr⟩ := hf t b h1
    refine ⟨u :: vs, ?_, by simp [h4], fun j a v hj hv => ?_⟩
    · simp only [List.mapM_cons, Sem.run_bind, Sem.run_pure, Result.andThen_ok, h3]
      simp [hu]
    · cases j with
      | zero => simp at hj hv; subst hj; subst hv; exact hr
      | succ j => exact h5 j a v (by simpa using hj) (by simpa using hv)
  | .cell t ty :: l, as, h => by
    obtain ⟨b, bs, id, sz, i, j, elem, els, el, q, rfl, h1, h6, h7, h8, h9, h2⟩ := h
    obtain ⟨vs, h3, h4, h5⟩ := run_ResR hk hσ hf l bs h2
    obtain ⟨u, hu, hr⟩ := hf t _ h1
    subst hσ
    cases hr with
    | ptr ht hb =>
      rename_i blk
      obtain ⟨v, h10, h11⟩ := run_loadV (P := P) (k := k) (b := blk) (p := i * sz + j) h8 (fun n a ha => by
        rw [List.getElem?_drop] at ha
        have := row_cell hk h6 hb h7 ha
        rwa [← Nat.add_assoc] at this) h9
      refine ⟨v :: vs, ?_, by simp [h4], fun j' a w hj hv => ?_⟩
      · have e1 : tmps.getD t undef = .pointer (some ⟨blk, i * sz + j, none⟩) := by simp [hu]
        have e2 : (asAddr (tmps.getD t undef)).run P k.w = .ok ⟨blk, i * sz + j, none⟩ k.w := by rw [e1]; rfl
        simp only [List.mapM_cons, Sem.run_bind, e2, Sem.run_pure, Result.andThen_ok, h10, h3]
      · cases j' with
        | zero => simp at hj hv; subst hj; subst hv; exact h11
        | succ j' => exact h5 j' a w (by simpa using hj) (by simpa using hv)
def endR (P : Program) (rs : List ResultVar) (R : AEnd → St → Prop) : Post
  | .normal, fr, σ | .ret, fr, σ => ∃ as, ResR P σ fr rs as ∧ R (.ret (packed as)) σ
  | .panic x, _, σ => R (.panic x) σ
  | _, _, _ => False
theorem nx_end {rs : List ResultVar} {R : AEnd → St → Prop} {as : List AV} (h : results' fr rs = some as) (hR : R (.ret (packed as)) σ) : endR P rs R .ret fr σ := ⟨as, .of h, hR⟩
theorem nx_end' {rs : List ResultVar} {R : AEnd → St → Prop} {as : List AV} (h : results' fr rs = some as) (hR : R (.ret (packed as)) σ) : endR P rs R .normal fr σ := ⟨as, .of h, hR⟩
theorem nx_endC {rs : List ResultVar} {R : AEnd → St → Prop} (as : List AV) (h : ResR P σ fr rs as) (hR : R (.ret (packed as)) σ) : endR P rs R .ret fr σ := ⟨as, h, hR⟩
theorem nx_end_panic {rs : List ResultVar} {R : AEnd → St → Prop} {x : AV} (hR : R (.panic x) σ) : endR P rs R (.panic x) fr σ := hR
theorem enter {f : FuncId} {fn : Func} {c : Code} {n : Nat} {rs : List ResultVar} {args : List AV} {R : AEnd → St → Prop} (hf : P.funcs[f]? = some fn) (hb : fn.body = some c) (hn : fn.ntmps = n) (hr : fn.results.toList = rs) (hl : Nat.ble args.length n = true)
    (h : CJ P n c (endR P rs R) (frOf 0 args) σ) : ACalls P f args σ R := fun k vs hσ hk hv => by
  subst hn; subst hr
  have hnn := Nat.le_of_ble_eq_true hl
  refine calls_of_wp hf hb (Code.wp_mono (fun e a w hc => ?_) (h k { tmps := vs.toArray ++ Array.replicate (fn.ntmps - vs.toArray.size) undef, defers := [] } hσ hk ?_ ?_))
  · obtain ⟨h1, h2, k', e', fr', rfl, hok, hst, hfr, he, hq⟩ := hc
    have hend : ∀ as, ResR P k'.σ fr' fn.results.toList as → R (.ret (packed as)) k'.σ → a.defers = [] ∧ ∃ v, (results fn a.tmps).run P k'.w = .ok v k'.w ∧ ∃ k2 e2, k2.w = k'.w ∧ Ok k2 ∧ Step k k2 ∧ EndOk k2 e2 (.returned v) ∧ R e2 k2.σ := by
      intro as has hR
      obtain ⟨us, hrun, hreps⟩ := run_ResR (P := P) hok rfl hfr _ _ has
      refine ⟨h1, _, ?_, k', .ret (packed as), rfl, hok, hst, rep_packed hreps, hR⟩
      unfold results
      have e1 : fn.results = fn.results.toList.toArray := by simp
      rw [e1, List.mapM_toArray]
      simp only [Sem.run_bind, Sem.run_map, Sem.run_pure]
      exact (congrArg (fun r : Result (List Value) => ((r.andThen fun a w' => Result.ok a.toArray w').andThen fun a w' => Result.ok (if h : a.size = 1 then a[0] else Value.tuple a) w')) hrun).trans rfl
    cases e' <;> cases e <;> simp only [ExitOk] at he <;> simp only [endR] at hq
    case normal.normal => obtain ⟨as, has, hR⟩ := hq; exact hend as has hR
    case ret.ret => obtain ⟨as, has, hR⟩ := hq; exact hend as has hR
    case panic.panic => exact ⟨h1, k', .panic _, rfl, hok, hst, he, hq⟩
  · have := hv.1
    simp only [Array.size_append, List.size_toArray, Array.size_replicate]
    omega
  · intro t a ht
    obtain ⟨j, h1, h2⟩ := frOf_get args 0 t a ht
    have hj : j < args.length := (List.getElem?_eq_some_iff.1 h2).1
    have hjv : j < vs.length := by rw [hv.1]; exact hj
    have ht' : t = j := by omega
    subst ht'
    refine ⟨vs[t], ?_, hv.2 t a _ h2 (by simp [hjv])⟩
    rw [Array.getElem?_append_left (by simpa using hjv)]
    simp [hjv]
theorem enterP {f : FuncId} {fn : Func} {c : Code} {n : Nat} {rs : List ResultVar} {args : List AV} {r : AV} (hf : P.funcs[f]? = some fn) (hb : fn.body = some c) (hn : fn.ntmps = n) (hr : fn.results.toList = rs) (hl : Nat.ble args.length n = true)
    (h : ∀ σ, CJ P n c (endR P rs (fun e σ' => e = .ret r ∧ σ.le σ')) (frOf 0 args) σ) : Pure P f args r := fun σ => enter hf hb hn hr hl (h σ)
theorem endP {r r' : AV} {σ σ' : St} (h : r' = r) (hle : σ.le σ') : (fun (e : AEnd) (σ' : St) => e = .ret r ∧ σ.le σ') (.ret r') σ' := ⟨by rw [h], hle⟩
theorem cj_if {c : Operand} {x y : Code} {b : Bool} (hc : ev fr c = some (.v (.bool b))) (ht : b = true → CJ P nt x Q fr σ) (hf : b = false → CJ P nt y Q fr σ) : CJ P nt (.cond c x y) Q fr σ := cj_cond hc ht hf
theorem cj_yes {c : Operand} {x y : Code} (hc : ev fr c = some (.v (.bool true))) (h : CJ P nt x Q fr σ) : CJ P nt (.cond c x y) Q fr σ := cj_cond hc (fun _ => h) (fun h => by cases h)
theorem cj_no {c : Operand} {x y : Code} (hc : ev fr c = some (.v (.bool false))) (h : CJ P nt y Q fr σ) : CJ P nt (.cond c x y) Q fr σ := cj_cond hc (fun h => by cases h) (fun _ => h)
/-- Behind a code comes another: its end is told once (a pair of ends would double at each step). -/
@[irreducible] def sq (P : Program) (nt : Nat) (y : Code) (Q : Post) : Post := thn Q (CJ P nt y Q)
theorem cj_sq {x y : Code} (h : CJ P nt x (sq P nt y Q) fr σ) : CJ P nt (.seq x y) Q fr σ := by
  unfold sq at h; exact cj_seq h
theorem lj_sqe {y : Code} (h : CJ P nt y Q2 fr σ) : LJ P nt ops (sq P nt y Q2) [] fr σ := by
  unfold sq; exact lj_nil h
theorem nx_sq {y : Code} (h : CJ P nt y Q fr σ) : sq P nt y Q .normal fr σ := by
  unfold sq; exact h
theorem nx_ret_sq {y : Code} (h : Q .ret fr σ) : sq P nt y Q .ret fr σ := by
  unfold sq; exact h
theorem nx_exit_sq {y : Code} {id : Nat} (h : Q (.exit id) fr σ) : sq P nt y Q (.exit id) fr σ := by
  unfold sq; exact h
theorem nx_panic_sq {y : Code} {x : AV} (h : Q (.panic x) fr σ) : sq P nt y Q (.panic x) fr σ := by
  unfold sq; exact h
theorem as_lj {l : List Oper} (h : LJ P nt ops Q l fr σ) : LJ P nt ops Q l fr σ := h
theorem as_cj {c : Code} (h : CJ P nt c Q fr σ) : CJ P nt c Q fr σ := h
end
end Go.Proofs.YtbpoeggmpjepfaaDoor.Ab
