/- Abstract values over the model's memory, 4: parts of structs, addresses, loads and stores, new variables. -/
import Derived.Test.YtledbkkaaomjpabDoorAb3
set_option linter.unusedVariables false
set_option linter.unusedSimpArgs false
namespace Go.Proofs.YtledbkkaaomjpabDoor.Ab
open Go

/-- Cells in a row, of what they stand for. -/
def CellsRep (k : Cx) (as : List AV) (vs : List Value) : Prop := vs.length = as.length ∧ ∀ (j : Nat) a u, as[j]? = some a → vs[j]? = some u → u.oneCell' = true ∧ Rep k a u
def RowRep (k : Cx) (sz : Nat) (els : List (List AV)) (vals : List Value) : Prop :=
  (∀ (i : Nat) e, els[i]? = some e → e.length = sz) ∧ els.length * sz ≤ vals.length ∧ ∀ (i j : Nat) e a, els[i]? = some e → e[j]? = some a → ∃ u, vals[i * sz + j]? = some u ∧ u.oneCell' = true ∧ Rep k a u
theorem CellsRep.step {k k' : Cx} (hs : Step k k') {as : List AV} {vs : List Value} (h : CellsRep k as vs) : CellsRep k' as vs := ⟨h.1, fun j a u h1 h2 => ⟨(h.2 j a u h1 h2).1, (h.2 j a u h1 h2).2.step hs⟩⟩
theorem RowRep.step {k k' : Cx} (hs : Step k k') {sz : Nat} {els : List (List AV)} {vs : List Value} (h : RowRep k sz els vs) : RowRep k' sz els vs := ⟨h.1, h.2.1, fun i j e a h1 h2 => by
  obtain ⟨u, h3, h4, h5⟩ := h.2.2 i j e a h1 h2
  exact ⟨u, h3, h4, h5.step hs⟩⟩
theorem RowRep.one {k : Cx} {as : List AV} {vs : List Value} (h : CellsRep k as vs) : RowRep k as.length [as] vs := by
  refine ⟨fun i e he => ?_, by simp [h.1], fun i j e a he ha => ?_⟩
  · cases i with
    | zero => simp at he; subst he; rfl
    | succ i => simp at he
  · cases i with
    | succ i => simp at he
    | zero =>
      simp at he; subst he
      have hj : j < vs.length := by rw [h.1]; exact (List.getElem?_eq_some_iff.1 ha).1
      have hv : vs[j]? = some vs[j] := by simp [hj]
      exact ⟨vs[j], by simp, h.2 j a _ ha hv⟩
theorem RowRep.append {k : Cx} {sz : Nat} {els news : List (List AV)} {old new rest : List Value} (h : RowRep k sz els old) (h' : RowRep k sz news new) (hl : old.length = els.length * sz) : RowRep k sz (els ++ news) (old ++ new ++ rest) := by
  refine ⟨fun i e he => ?_, ?_, fun i j e a he ha => ?_⟩
  · rcases Nat.lt_or_ge i els.length with hlt | hge
    · rw [List.getElem?_append_left hlt] at he; exact h.1 i e he
    · rw [List.getElem?_append_right hge] at he; exact h'.1 _ e he
  · have := h'.2.1
    simp only [List.length_append, Nat.add_mul]
    omega
  · rcases Nat.lt_or_ge i els.length with hlt | hge
    · rw [List.getElem?_append_left hlt] at he
      obtain ⟨u, h1, h2⟩ := h.2.2 i j e a he ha
      refine ⟨u, ?_, h2⟩
      have hi := (List.getElem?_eq_some_iff.1 h1).1
      rw [List.append_assoc, List.getElem?_append_left hi]; exact h1
    · rw [List.getElem?_append_right hge] at he
      obtain ⟨u, h1, h2⟩ := h'.2.2 _ j e a he ha
      refine ⟨u, ?_, h2⟩
      have e1 : i * sz + j = old.length + ((i - els.length) * sz + j) := by
        rw [hl, ← Nat.add_assoc, ← Nat.add_mul]
        congr 2
        omega
      have hi := (List.getElem?_eq_some_iff.1 h1).1
      rw [List.append_assoc, e1, List.getElem?_append_right (by omega), Nat.add_sub_cancel_left, List.getElem?_append_left hi]
      exact h1
theorem RowRep.take {k : Cx} {sz : Nat} {els : List (List AV)} {vals : List Value} (h : RowRep k sz els vals) (n : Nat) (hn : n ≤ els.length) : RowRep k sz (els.take n) (vals.take (n * sz)) := by
  refine ⟨fun i e he => ?_, ?_, fun i j e a he ha => ?_⟩
  · rw [List.getElem?_take] at he
    split at he
    · exact h.1 i e he
    · cases he
  · have h1 := h.2.1
    have h2 : n * sz ≤ els.length * sz := Nat.mul_le_mul_right _ hn
    rw [List.length_take, List.length_take, Nat.min_eq_left hn]
    omega
  · rw [List.getElem?_take] at he
    split at he
    · rename_i hi
      obtain ⟨u, h1, h2⟩ := h.2.2 i j e a he ha
      refine ⟨u, ?_, h2⟩
      have hj : j < sz := by rw [← h.1 i e he]; exact (List.getElem?_eq_some_iff.1 ha).1
      have h3 : (i + 1) * sz ≤ n * sz := Nat.mul_le_mul_right _ hi
      rw [Nat.add_mul, Nat.one_mul] at h3
      rw [List.getElem?_take, if_pos (by omega)]
      exact h1
    · cases he
theorem RowRep.drop {k : Cx} {sz : Nat} {els : List (List AV)} {vals : List Value} (h : RowRep k sz els vals) (n : Nat) : RowRep k sz (els.drop n) (vals.drop (n * sz)) := by
  refine ⟨fun i e he => ?_, ?_, fun i j e a he ha => ?_⟩
  · rw [List.getElem?_drop] at he; exact h.1 _ e he
  · have h1 := h.2.1
    rw [List.length_drop, List.length_drop, Nat.sub_mul]
    omega
  · rw [List.getElem?_drop] at he
    obtain ⟨u, h1, h2⟩ := h.2.2 _ j e a he ha
    refine ⟨u, ?_, h2⟩
    rw [List.getElem?_drop, ← Nat.add_assoc, ← Nat.add_mul]
    exact h1
theorem RowRep.all1 {k : Cx} {sz : Nat} {els : List (List AV)} {vals : List Value} (h : RowRep k sz els vals) (hl : vals.length = els.length * sz) : ∀ u ∈ vals, u.oneCell' = true := by
  intro u hu
  obtain ⟨q, hq, rfl⟩ := List.getElem_of_mem hu
  have hsz : 0 < sz := by
    rcases Nat.eq_zero_or_pos sz with h0 | h0
    · subst h0; rw [hl] at hq; simp at hq
    · exact h0
  have hi : q / sz < els.length := by rw [Nat.div_lt_iff_lt_mul hsz]; omega
  have he : els[q / sz]? = some els[q / sz] := by simp [hi]
  have hj : q % sz < els[q / sz].length := by rw [h.1 _ _ he]; exact Nat.mod_lt _ hsz
  obtain ⟨u, h1, h2, _⟩ := h.2.2 _ (q % sz) _ _ he (List.getElem?_eq_getElem hj)
  have e1 : q / sz * sz + q % sz = q := by rw [Nat.mul_comm]; exact Nat.div_add_mod q sz
  rw [e1] at h1
  rw [List.getElem?_eq_getElem hq] at h1
  cases h1
  exact h2
theorem RowRep.obj {k : Cx} {id sz b : Nat} {elem : TypeId} {els : List (List AV)} {cs : Array Value} (hb : k.ρ id = some b) (hh : k.w.heap[b]? = some (.cells cs elem (0, 0))) (h : RowRep k sz els cs.toList) : ObjOk k id (.row sz elem els) :=
  .inr ⟨b, cs, hb, hh, h.1, by simpa using h.2.1, fun i j e a h1 h2 => by
    obtain ⟨u, h3, h4⟩ := h.2.2 i j e a h1 h2
    exact ⟨u, by simpa [← Array.getElem?_toList] using h3, h4⟩⟩
theorem ObjOk.row {k : Cx} {id sz b : Nat} {elem : TypeId} {els : List (List AV)} (h : ObjOk k id (.row sz elem els)) (hb : k.ρ id = some b) : ∃ cs, k.w.heap[b]? = some (.cells cs elem (0, 0)) ∧ RowRep k sz els cs.toList := by
  rcases h with ⟨h1, _⟩ | ⟨b', cs, h1, h2, h3, h4, h5⟩
  · rw [h1] at hb; cases hb
  · rw [h1] at hb
    cases hb
    refine ⟨cs, h2, h3, by simpa using h4, fun i j e a he ha => ?_⟩
    obtain ⟨u, h6, h7⟩ := h5 i j e a he ha
    exact ⟨u, by simpa [← Array.getElem?_toList] using h6, h7⟩

/-- A value's cells. -/
def cellsOf : AV → Option (List AV)
  | .agg cs => some cs
  | .tup _ => none
  | .mb _ _ => none
  | a => some [a]
theorem one_of_rep {k : Cx} {a : AV} {u : Value} (h : Rep k a u) (ha : ∀ cs, a ≠ .agg cs) (ht : ∀ cs, a ≠ .tup cs) (hm : ∀ c b, a ≠ .mb c b) : u.oneCell' = true := by
  cases h with
  | v h => exact h
  | agg => exact absurd rfl (ha _)
  | tup => exact absurd rfl (ht _)
  | mb => exact absurd rfl (hm _ _)
  | _ => rfl
theorem rep_cells {k : Cx} {a : AV} {u : Value} (h : Rep k a u) {cs : List AV} (hc : cellsOf a = some cs) : CellsRep k cs u.cells.toList := by
  have single : ∀ {a : AV} {u : Value}, Rep k a u → u.oneCell' = true → CellsRep k [a] u.cells.toList := fun {a u} h h1 => by
    have e1 : u.cells = #[u] := by cases u <;> first | rfl | (simp [Value.oneCell'] at h1)
    rw [e1]
    refine ⟨rfl, fun j b v hb hv => ?_⟩
    cases j with
    | succ j => simp at hb
    | zero => simp at hb hv; subst hb; subst hv; exact ⟨h1, h⟩
  cases a with
  | agg l =>
    simp only [cellsOf, Option.some.injEq] at hc
    subst hc
    cases h with
    | agg hl h1 h2 =>
      exact ⟨by simp [Value.cells, hl], fun j b v hb hv => ⟨h1 j v (by simpa [Value.cells] using hv), h2 j b v hb (by simpa [Value.cells] using hv)⟩⟩
  | tup l => cases hc
  | mb c b => cases hc
  | _ => cases hc; exact single h (one_of_rep h (by simp) (by simp) (by simp))

section
variable {P : Program} {o : Oper} {E : Operand → Option AV} {σ : St} {R : Option AV → St → Prop}

/-! ### Types as the program has them -/
/-- A number, written out. -/
def litL : List Nat → Nat → Option Nat
  | [], n => some n
  | k :: l, n => if n = k then some k else litL l n
def lit? (n : Nat) : Option Nat := litL [0, 1, 2, 3, 4, 5, 6, 7, 8, 9, 10, 11, 12, 13, 14, 15, 16] n
theorem litL_eq : ∀ (l : List Nat) {n m : Nat}, litL l n = some m → m = n
  | [], n, m, h => by injection h with h; exact h.symm
  | k :: l, n, m, h => by
    unfold litL at h
    by_cases hk : n = k
    · rw [if_pos hk] at h; injection h with h; omega
    · rw [if_neg hk] at h; exact litL_eq l h
theorem lit_eq {n m : Nat} (h : lit? n = some m) : m = n := litL_eq _ h
/-- none: one cell; some m: a struct or an array of m cells. -/
def shapeOf (P : Program) (t : TypeId) : Option (Option Nat) :=
  match P.underlying t with
  | some (.struct _) | some (.array _ _) => match P.info? t with
    | some i => match lit? i.size with
      | some m => some (some m)
      | none => none
    | none => none
  | some _ => some none
  | none => none
def sizeIs (P : Program) (t : TypeId) : Option Nat := match P.info? t with
  | some i => lit? i.size
  | none => none
theorem sizeIs_info {P : Program} {t : TypeId} {m : Nat} (h : sizeIs P t = some m) : ∃ i, P.info? t = some i ∧ i.size = m := by
  unfold sizeIs at h
  split at h
  · rename_i i hi; exact ⟨i, hi, (lit_eq h).symm⟩
  · cases h
def fieldAt? (P : Program) (t : TypeId) (f : Nat) : Option (Nat × TypeId) :=
  match P.underlying t with
  | some (.struct fs) => (fs[f]?).map fun fd => (fd.offset, fd.type)
  | _ => none
def part? (cs : List AV) (off : Nat) : Option Nat → Option AV
  | none => cs[off]?
  | some m => if off + m ≤ cs.length then some (.agg ((cs.drop off).take m)) else none
theorem run_isAgg {t : TypeId} {q : Option Nat} (h : shapeOf P t = some q) (w : World) : (isAgg t).run P w = .ok q.isSome w ∧ ∀ m, q = some m → (sizeOf t).run P w = .ok m w := by
  have big : ∀ q', (match P.info? t with
    | some i => match lit? i.size with
      | some m => some (some m)
      | none => none
    | none => none) = some q' → q'.isSome = true ∧ ∀ m, q' = some m → (sizeOf t).run P w = .ok m w := by
    intro q' h
    split at h
    · rename_i i hi
      split at h
      · rename_i m hm
        cases h
        refine ⟨rfl, fun m' hm' => ?_⟩
        cases hm'
        rw [lit_eq hm]
        simp [sizeOf, typeInfo, hi]
      · cases h
    · cases h
  unfold shapeOf at h
  unfold isAgg
  split at h
  · rename_i fs hu
    obtain ⟨h1, h2⟩ := big q h
    exact ⟨by simp [run_underlying hu, h1], h2⟩
  · rename_i n e hu
    obtain ⟨h1, h2⟩ := big q h
    exact ⟨by simp [run_underlying hu, h1], h2⟩
  · rename_i d h1 h2 hu
    cases h
    refine ⟨?_, fun m hm => by cases hm⟩
    cases d <;> simp_all [run_underlying hu]
  · cases h
theorem run_sizeIs {t : TypeId} {m : Nat} (h : sizeIs P t = some m) (w : World) : (sizeOf t).run P w = .ok m w := by
  obtain ⟨i, hi, rfl⟩ := sizeIs_info h
  simp [sizeOf, typeInfo, hi]
theorem run_part {k : Cx} {t : TypeId} {q : Option Nat} (h : shapeOf P t = some q) {cs : List AV} {vs : Array Value} (hl : vs.size = cs.length) (h1 : ∀ (j : Nat) u, vs[j]? = some u → u.oneCell' = true) (hc : ∀ (j : Nat) a u, cs[j]? = some a → vs[j]? = some u → Rep k a u)
    {off : Nat} {av : AV} (hp : part? cs off q = some av) (w : World) : ∃ u, (part t vs off).run P w = .ok u w ∧ Rep k av u := by
  obtain ⟨h2, h3⟩ := run_isAgg h w
  unfold part
  cases q with
  | none =>
    simp only [part?] at hp
    have hlt : off < vs.size := by rw [hl]; exact (List.getElem?_eq_some_iff.1 hp).1
    have hv : vs[off]? = some vs[off] := by simp [hlt]
    refine ⟨vs[off], ?_, hc off av _ hp hv⟩
    simp only [Sem.run_bind, h2, Result.andThen_ok, Option.isSome_none, Bool.false_eq_true, if_false, hv]
    rfl
  | some m =>
    simp only [part?] at hp
    split at hp
    · rename_i hm
      cases hp
      refine ⟨.agg (vs.extract off (off + m)), ?_, ?_⟩
      · simp only [Sem.run_bind, h2, Result.andThen_ok, Option.isSome_some, if_true, h3 m rfl, Sem.run_pure]
      · have hget : ∀ j : Nat, (vs.extract off (off + m))[j]? = if j < m then vs[off + j]? else none := by
          intro j
          rw [Array.getElem?_extract]
          have : min (off + m) vs.size - off = m := by omega
          rw [this]
        refine .agg (by simp; omega) (fun j u hu => ?_) (fun j a u ha hu => ?_)
        · rw [hget] at hu
          split at hu
          · exact h1 _ u hu
          · cases hu
        · rw [hget] at hu
          rw [List.getElem?_take] at ha
          split at hu
          · rename_i hj
            rw [if_pos hj, List.getElem?_drop] at ha
            exact hc _ a u ha hu
          · cases hu
    · cases hp
theorem opj_field {t : TypeId} {x : Operand} {f off : Nat} {ft : TypeId} {q : Option Nat} {cs : List AV} {av : AV} (ho : o.op = .field t x f) (hf : fieldAt? P t f = some (off, ft)) (hq : shapeOf P ft = some q) (hx : E x = some (.agg cs)) (hp : part? cs off q = some av) (hR : R (some av) σ) : OpJ P o E σ R :=
  opj_quiet av (fun k e hσ hk hr => by
    have h := hr x (by rw [ho]; simp [Op.operands]) _ hx
    generalize hu : e x = u at h
    cases h with
    | agg hl h1 hc =>
      obtain ⟨v, h2, h3⟩ := run_part (P := P) hq hl h1 hc hp k.w
      refine ⟨v, ?_, h3⟩
      unfold fieldAt? at hf
      split at hf
      · rename_i fs hs
        cases hfd : fs[f]? with
        | none => simp [hfd] at hf
        | some fd =>
          simp only [hfd, Option.map_some, Option.some.injEq, Prod.mk.injEq] at hf
          obtain ⟨rfl, rfl⟩ := hf
          unfold execOp
          simp only [ho, hu, Instr.field, Sem.run_bind, run_underlying hs, Result.andThen_ok, hfd, asAgg, Sem.run_pure, h2]
      · cases hf) hR

/-! ### Addresses -/
def fieldOff (P : Program) (t : TypeId) (f : Nat) : Option Nat :=
  match fieldAt? P t f with
  | some (off, ft) => match sizeIs P ft with
    | some (_ + 1) => lit? off
    | _ => none
  | none => none
theorem run_fieldAt {t : TypeId} {f off : Nat} (h : fieldOff P t f = some off) (b p : Nat) (w : World) : (Instr.fieldAt t (.pointer (some ⟨b, p, none⟩)) f).run P w = .ok (.pointer (some ⟨b, p + off, none⟩)) w := by
  unfold fieldOff at h
  split at h
  · rename_i off' ft hf
    split at h
    · rename_i n hs
      obtain rfl := lit_eq h
      unfold fieldAt? at hf
      split at hf
      · rename_i fs hu
        cases hfd : fs[f]? with
        | none => simp [hfd] at hf
        | some fd =>
          simp only [hfd, Option.map_some, Option.some.injEq, Prod.mk.injEq] at hf
          obtain ⟨rfl, rfl⟩ := hf
          simp only [Instr.fieldAt, Sem.run_bind, run_underlying hu, Result.andThen_ok, hfd, Instr.sureAddr, Sem.run_pure, fieldPlace, run_sizeIs hs]
          simp [Addr.add_mid]
      · cases hf
    · cases h
  · cases h
theorem opj_fieldAddr_ptr {t : TypeId} {x : Operand} {f off id sz i j : Nat} (ho : o.op = .fieldAddr t x f) (hf : fieldOff P t f = some off) (hx : E x = some (.ptr id sz i j)) (hR : R (some (.ptr id sz i (j + off))) σ) : OpJ P o E σ R :=
  opj_quiet _ (fun k e hσ hk hr => by
    have h := hr x (by rw [ho]; simp [Op.operands]) _ hx
    generalize hu : e x = u at h
    cases h with
    | ptr ht hb =>
      rename_i b
      refine ⟨.pointer (some ⟨b, i * sz + (j + off), none⟩), ?_, .ptr ht hb⟩
      unfold execOp
      simp only [ho, hu, Sem.run_bind, run_fieldAt hf, Result.andThen_ok, Sem.run_pure, Nat.add_assoc]) hR
theorem opj_fieldAddr_fp {t : TypeId} {x : Operand} {f off : Nat} {cs : List AV} (ho : o.op = .fieldAddr t x f) (hf : fieldOff P t f = some off) (hx : E x = some (.fp cs)) (hR : R (some (.fp (cs.drop off))) σ) : OpJ P o E σ R :=
  opj_quiet _ (fun k e hσ hk hr => by
    have h := hr x (by rw [ho]; simp [Op.operands]) _ hx
    generalize hu : e x = u at h
    cases h with
    | @fp _ b p g hfr hw hc =>
      refine ⟨.pointer (some ⟨b, p + off, none⟩), ?_, .fp (f := fun j => g (off + j)) hfr (fun j a ha => ?_) (fun j a ha => ?_)⟩
      · unfold execOp
        simp only [ho, hu, Sem.run_bind, run_fieldAt hf, Result.andThen_ok, Sem.run_pure]
      · rw [List.getElem?_drop] at ha
        have := hw _ a ha
        rwa [← Nat.add_assoc] at this
      · rw [List.getElem?_drop] at ha
        exact hc _ a ha) hR
theorem run_indexAt {t e : TypeId} {sz : Nat} (ht : P.underlying t = some (.slice e)) (hs : sizeIs P e = some sz) (b p n c : Nat) (kk : IntKind) (i : Int) (h0 : 0 ≤ i) (h1 : i < n) (w : World) :
    (Instr.indexAt t (.slice (some ⟨b, p, none⟩) n c) (.int kk i)).run P w = .ok (.pointer (some ⟨b, p + i.toNat * sz, none⟩)) w := by
  simp only [Instr.indexAt, asIntOf, Sem.run_bind, Sem.run_pure, Result.andThen_ok, run_underlying ht]
  rw [if_pos ⟨h0, h1⟩]
  simp only [Sem.run_bind, run_sizeIs hs, Result.andThen_ok, Sem.run_pure, Addr.add_mid]
theorem opj_indexAddr_sl {t et : TypeId} {x ix : Operand} {nl : Option Bool} {full : Bool} {sz : Nat} {els : List (List AV)} {kk : IntKind} {i : Int} {el : List AV} (ho : o.op = .indexAddr t x ix) (ht : P.underlying t = some (.slice et)) (hs : sizeIs P et = some sz) (hx : E x = some (.sl nl full sz els)) (hi : E ix = some (.v (.int kk i)))
    (h0 : 0 ≤ i) (hel : els[i.toNat]? = some el) (hR : R (some (.fp el)) σ) : OpJ P o E σ R :=
  opj_quiet _ (fun k e hσ hk hr => by
    have h := hr x (by rw [ho]; simp [Op.operands]) _ hx
    have h2 := rep_v (hr ix (by rw [ho]; simp [Op.operands]) _ hi)
    have hlt := (List.getElem?_eq_some_iff.1 hel).1
    generalize hu : e x = u at h
    cases h with
    | slnil => simp at hlt
    | sle => simp at hlt
    | @sl _ _ _ _ b p cap g hn hc hm hf hsz hfr hw hcc =>
      refine ⟨.pointer (some ⟨b, p + i.toNat * sz, none⟩), ?_, .fp (f := fun j => g i.toNat j) (hfr (ne_nil_of_get hel)) (fun j a ha => ?_) (fun j a ha => hcc _ j _ a hel ha)⟩
      · unfold execOp
        simp only [ho, hu, h2, Sem.run_bind, run_indexAt ht hs b p els.length cap kk i h0 (by omega), Result.andThen_ok, Sem.run_pure]
      · have := hw _ j _ a hel ha
        rwa [← Nat.add_assoc] at this) hR
theorem opj_indexAddr_osl {t et : TypeId} {x ix : Operand} {id sz off len : Nat} {kk : IntKind} {i : Int} (ho : o.op = .indexAddr t x ix) (ht : P.underlying t = some (.slice et)) (hs : sizeIs P et = some sz) (hx : E x = some (.osl id sz off len)) (hi : E ix = some (.v (.int kk i)))
    (h0 : 0 ≤ i) (h1 : i < len) (hR : R (some (.ptr id sz (off + i.toNat) 0)) σ) : OpJ P o E σ R :=
  opj_quiet _ (fun k e hσ hk hr => by
    have h := hr x (by rw [ho]; simp [Op.operands]) _ hx
    have h2 := rep_v (hr ix (by rw [ho]; simp [Op.operands]) _ hi)
    generalize hu : e x = u at h
    cases h with
    | oslnil => omega
    | @osl _ _ _ _ b cap p ht' hb hp hl hm hsz =>
      have hpo := hp (by omega)
      subst hpo
      refine ⟨.pointer (some ⟨b, (off + i.toNat) * sz + 0, none⟩), ?_, .ptr ht' hb⟩
      unfold execOp
      simp only [ho, hu, h2, Sem.run_bind, run_indexAt ht hs b _ len cap kk i h0 h1, Result.andThen_ok, Sem.run_pure, Nat.add_mul, Nat.add_zero]) hR

/-! ### Loads -/
def load? (cs : List AV) : Option Nat → Option AV
  | none => cs.head?
  | some m => if m ≤ cs.length then some (.agg (cs.take m)) else none
theorem run_loadV {k : Cx} {t : TypeId} {q : Option Nat} (h : shapeOf P t = some q) {cs : List AV} {b p : Nat} (hc : ∀ (j : Nat) a, cs[j]? = some a → ∃ u, k.w.cell? ⟨b, p + j, none⟩ = some u ∧ u.oneCell' = true ∧ Rep k a u)
    {av : AV} (hp : load? cs q = some av) : ∃ u, (loadVar t ⟨b, p, none⟩).run P k.w = .ok u k.w ∧ Rep k av u := by
  obtain ⟨h2, h3⟩ := run_isAgg h k.w
  cases q with
  | none =>
    cases cs with
    | nil => simp [load?] at hp
    | cons a l =>
      simp only [load?, List.head?_cons, Option.some.injEq] at hp
      subst hp
      obtain ⟨u, h4, h5, h6⟩ := hc 0 a rfl
      refine ⟨u, ?_, h6⟩
      unfold loadVar
      simp only [Sem.run_bind, h2, Result.andThen_ok, Option.isSome_none, Bool.false_eq_true, if_false]
      rw [Go.run_load]
      simp only [Nat.add_zero] at h4
      rw [h4]
  | some m =>
    simp only [load?] at hp
    split at hp
    · rename_i hm
      cases hp
      let f : Nat → Value := fun j => (k.w.cell? ⟨b, p + j, none⟩).getD undef
      have hf : ∀ j : Nat, j < m → k.w.cell? ⟨b, p + j, none⟩ = some (f j) := fun j hj => by
        obtain ⟨u, h4, _⟩ := hc j cs[j] (List.getElem?_eq_getElem (by omega))
        simp [f, h4]
      have hrun := run_loadCells_list (P := P) k.w ⟨b, p, none⟩ ((List.range m).map f) (fun j v hv => by
        rw [Addr.add_mid]
        have hjm : j < m := by have := (List.getElem?_eq_some_iff.1 hv).1; simpa using this
        simp [hjm] at hv
        subst hv
        exact hf j hjm)
      refine ⟨.agg ((List.range m).map f).toArray, ?_, ?_⟩
      · unfold loadVar
        simp only [Sem.run_bind, h2, Result.andThen_ok, Option.isSome_some, if_true, h3 m rfl]
        have hrun' := hrun
        simp only [List.length_map, List.length_range] at hrun'
        simp only [hrun', Result.andThen_ok, Sem.run_pure]
      · refine .agg (by simp; omega) (fun j u hu => ?_) (fun j a u ha hu => ?_)
        · have hj : j < m := by
            have := (Array.getElem?_eq_some_iff.1 hu).1
            simpa using this
          have : u = f j := by simpa [hj] using hu.symm
          subst this
          obtain ⟨u, h4, h5, _⟩ := hc j cs[j] (List.getElem?_eq_getElem (by omega))
          rw [hf j hj] at h4
          cases h4
          exact h5
        · have hj : j < m := by
            have := (Array.getElem?_eq_some_iff.1 hu).1
            simpa using this
          have : u = f j := by simpa [hj] using hu.symm
          subst this
          rw [List.getElem?_take, if_pos hj] at ha
          obtain ⟨u, h4, _, h6⟩ := hc j a ha
          rw [hf j hj] at h4
          cases h4
          exact h6
    · cases hp
theorem opj_load_fp {t : TypeId} {x : Operand} {q : Option Nat} {cs : List AV} {av : AV} (ho : o.op = .load t x) (hq : shapeOf P t = some q) (hx : E x = some (.fp cs)) (hp : load? cs q = some av) (hR : R (some av) σ) : OpJ P o E σ R :=
  opj_quiet _ (fun k e hσ hk hr => by
    have h := hr x (by rw [ho]; simp [Op.operands]) _ hx
    generalize hu : e x = u at h
    cases h with
    | @fp _ b p g hfr hw hc =>
      obtain ⟨v, h1, h2⟩ := run_loadV (P := P) (k := k) hq (fun j a ha => ⟨g j, (hw j a ha).1, (hw j a ha).2, hc j a ha⟩) hp
      refine ⟨v, ?_, h2⟩
      unfold execOp
      simp only [ho, hu, Instr.loadAt, Instr.sureAddr, Sem.run_bind, Sem.run_pure, Result.andThen_ok, h1]) hR
theorem row_cell {k : Cx} (hk : Ok k) {id sz b : Nat} {elem : TypeId} {els : List (List AV)} (hσ : k.σ id = some (.row sz elem els)) (hb : k.ρ id = some b) {i j : Nat} {el : List AV} {a : AV} (he : els[i]? = some el) (ha : el[j]? = some a) :
    ∃ u, k.w.cell? ⟨b, i * sz + j, none⟩ = some u ∧ u.oneCell' = true ∧ Rep k a u := by
  obtain ⟨cs, h1, h2⟩ := (hk.obj id _ hσ).row hb
  obtain ⟨u, h3, h4⟩ := h2.2.2 i j el a he ha
  refine ⟨u, ?_, h4⟩
  rw [cell_of_row k.w b _ cs elem (0, 0) h1]
  simpa [← Array.getElem?_toList] using h3
theorem opj_load_ptr {t : TypeId} {x : Operand} {q : Option Nat} {id sz i j : Nat} {elem : TypeId} {els : List (List AV)} {el : List AV} {av : AV} (ho : o.op = .load t x) (hq : shapeOf P t = some q) (hx : E x = some (.ptr id sz i j)) (hσ : σ id = some (.row sz elem els)) (he : els[i]? = some el) (hp : load? (el.drop j) q = some av) (hR : R (some av) σ) : OpJ P o E σ R :=
  opj_quiet _ (fun k e hσ' hk hr => by
    have h := hr x (by rw [ho]; simp [Op.operands]) _ hx
    subst hσ'
    generalize hu : e x = u at h
    cases h with
    | ptr ht hb =>
      rename_i b
      obtain ⟨v, h1, h2⟩ := run_loadV (P := P) (k := k) (b := b) (p := i * sz + j) hq (fun n a ha => by
        rw [List.getElem?_drop] at ha
        have := row_cell hk hσ hb he ha
        rwa [← Nat.add_assoc] at this) hp
      refine ⟨v, ?_, h2⟩
      unfold execOp
      simp only [ho, hu, Instr.loadAt, Instr.sureAddr, Sem.run_bind, Sem.run_pure, Result.andThen_ok, h1]) hR

/-! ### Stores -/
theorem Ok.setRow {k : Cx} (hk : Ok k) {id b : Nat} {elem : TypeId} {cs cs' : Array Value} {o' : AObj} (hid : k.σ id ≠ none) (hb : k.ρ id = some b) (hh : k.w.heap[b]? = some (.cells cs elem (0, 0))) (hz : cs'.size = cs.size)
    (ho : ∀ k', Step k k' → k'.ρ id = some b → k'.w.heap[b]? = some (.cells cs' elem (0, 0)) → ObjOk k' id o') :
    Ok { k with σ := k.σ.set id o', w := k.w.setRow b cs' } ∧ Step k { k with σ := k.σ.set id o', w := k.w.setRow b cs' } := by
  have hblt := (hk.bas id b hid hb).2
  have hother : ∀ x, x ≠ b → (k.w.setRow b cs').heap[x]? = k.w.heap[x]? := fun x hx => setRow_other _ _ _ _ hx
  have hsame : (k.w.setRow b cs').heap[b]? = some (.cells cs' elem (0, 0)) := setRow_heap k.w b cs cs' elem (0, 0) hh
  have hne : ∀ x, k.σ.set id o' x ≠ none ↔ k.σ x ≠ none := fun x => by
    by_cases hx : x = id
    · subst hx; simp [St.set, hid]
    · simp [St.set, hx]
  have hlive : ∀ x, ({ k with σ := k.σ.set id o', w := k.w.setRow b cs' } : Cx).live x → k.live x := fun x ⟨i, h1, h2⟩ => ⟨i, (hne i).1 h1, h2⟩
  have hs : Step k { k with σ := k.σ.set id o', w := k.w.setRow b cs' } := by
    refine ⟨Nat.le_refl _, fun _ _ => rfl, rfl, rfl, rfl, rfl, by simp, fun x h1 h2 => ⟨hother x (fun e => h2 (e ▸ ⟨id, hid, hb⟩)), fun h => h2 (hlive x h)⟩, fun x c t f hx => ?_⟩
    by_cases hxb : x = b
    · subst hxb
      rw [hh] at hx
      cases hx
      exact ⟨cs', (0, 0), hsame, hz⟩
    · exact ⟨c, f, (hother x hxb).trans hx, rfl⟩
  refine ⟨⟨fun x h => hk.dom x ((hne x).1 h), fun x y c h1 h2 => hk.inj x y c ((hne x).1 h1) ((hne y).1 h2), fun x c h1 h2 => ?_, by simpa using hk.hb, fun x ob hx => ?_, hk.ground hs⟩, hs⟩
  · obtain ⟨h3, h4⟩ := hk.bas x c ((hne x).1 h1) h2
    exact ⟨h3, by simpa using h4⟩
  · by_cases hxi : x = id
    · subst hxi
      simp [St.set] at hx
      subst hx
      exact ho _ hs hb hsame
    · simp [St.set, hxi] at hx
      have hd : k.σ x ≠ none := by rw [hx]; simp
      exact (hk.obj x ob hx).step hs (hk.dom x hd) fun c hc => hother c fun e => hxi (hk.inj x id b hd hid (e ▸ hc) hb)
theorem RowRep.store {k : Cx} {sz : Nat} {els : List (List AV)} {vals : List Value} (h : RowRep k sz els vals) {i j : Nat} {el : List AV} (he : els[i]? = some el) {as : List AV} {vs : List Value} (hc : CellsRep k as vs) (hj : j + as.length ≤ el.length) :
    RowRep k sz (els.set i (el.take j ++ as ++ el.drop (j + as.length))) (vals.take (i * sz + j) ++ vs ++ vals.drop (i * sz + j + vs.length)) := by
  have hel := h.1 i el he
  have hi := (List.getElem?_eq_some_iff.1 he).1
  have hfit : i * sz + j + vs.length ≤ vals.length := by
    have h1 : (i + 1) * sz ≤ els.length * sz := Nat.mul_le_mul_right _ hi
    rw [Nat.add_mul, Nat.one_mul] at h1
    have := h.2.1
    have := hc.1
    omega
  have hlen : (el.take j ++ as ++ el.drop (j + as.length)).length = sz := by
    simp only [List.length_append, List.length_take, List.length_drop]
    omega
  have hget : ∀ q : Nat, (vals.take (i * sz + j) ++ vs ++ vals.drop (i * sz + j + vs.length))[q]? = if q < i * sz + j then vals[q]? else if q < i * sz + j + vs.length then vs[q - (i * sz + j)]? else vals[q]? := by
    intro q
    rw [List.append_assoc, List.getElem?_append]
    simp only [List.length_take]
    by_cases h1 : q < i * sz + j
    · rw [if_pos (by omega), if_pos h1, List.getElem?_take, if_pos h1]
    · rw [if_neg (by omega), if_neg h1, List.getElem?_append]
      have e1 : min (i * sz + j) vals.length = i * sz + j := by omega
      rw [e1]
      by_cases h2 : q < i * sz + j + vs.length
      · rw [if_pos (by omega), if_pos h2]
      · rw [if_neg (by omega), if_neg h2, List.getElem?_drop]
        congr 1
        omega
  refine ⟨fun n e hn => ?_, ?_, fun n m e a hn hm => ?_⟩
  · rw [List.getElem?_set] at hn
    split at hn
    · cases hn; exact hlen
    · exact h.1 n e hn
  · have := h.2.1
    simp only [List.length_set, List.length_append, List.length_take, List.length_drop]
    omega
  · rw [hget]
    rw [List.getElem?_set] at hn
    by_cases hni : i = n
    · subst hni
      rw [if_pos rfl, if_pos hi] at hn
      cases hn
      rw [List.append_assoc, List.getElem?_append] at hm
      simp only [List.length_take] at hm
      have e1 : min j el.length = j := by omega
      rw [e1] at hm
      by_cases h1 : m < j
      · rw [if_pos h1, List.getElem?_take, if_pos h1] at hm
        rw [if_pos (by omega)]
        exact h.2.2 i m el a he hm
      · rw [if_neg h1, List.getElem?_append] at hm
        rw [if_neg (by omega)]
        by_cases h2 : m - j < as.length
        · rw [if_pos h2] at hm
          rw [if_pos (by rw [hc.1]; omega)]
          have e2 : i * sz + m - (i * sz + j) = m - j := by omega
          rw [e2]
          have hlt : m - j < vs.length := by rw [hc.1]; exact h2
          have hv : vs[m - j]? = some vs[m - j] := by simp [hlt]
          exact ⟨_, hv, hc.2 _ a _ hm hv⟩
        · rw [if_neg h2, List.getElem?_drop] at hm
          rw [if_neg (by rw [hc.1]; omega)]
          have e2 : j + as.length + (m - j - as.length) = m := by omega
          rw [e2] at hm
          exact h.2.2 i m el a he hm
    · rw [if_neg hni] at hn
      obtain ⟨u, h1, h2⟩ := h.2.2 n m e a hn hm
      refine ⟨u, ?_, h2⟩
      have hms : m < sz := by rw [← h.1 n e hn]; exact (List.getElem?_eq_some_iff.1 hm).1
      rcases Nat.lt_or_ge n i with hlt | hge
      · have h3 : (n + 1) * sz ≤ i * sz := Nat.mul_le_mul_right _ hlt
        rw [Nat.add_mul, Nat.one_mul] at h3
        rw [if_pos (by omega)]
        exact h1
      · have hgt : i < n := by omega
        have h3 : (i + 1) * sz ≤ n * sz := Nat.mul_le_mul_right _ hgt
        rw [Nat.add_mul, Nat.one_mul] at h3
        have := hc.1
        rw [if_neg (by omega), if_neg (by omega)]
        exact h1
theorem opj_store {t elem : TypeId} {x y : Operand} {id sz i j m : Nat} {els : List (List AV)} {el cs : List AV} {av : AV} (ho : o.op = .store t x y) (hm : sizeIs P t = some m) (hx : E x = some (.ptr id sz i j)) (hy : E y = some av) (hσ : σ id = some (.row sz elem els)) (he : els[i]? = some el) (hc : cellsOf av = some cs) (hl : cs.length = m) (hj : j + cs.length ≤ el.length)
    (hR : R none (σ.set id (.row sz elem (els.set i (el.take j ++ cs ++ el.drop (j + cs.length)))))) : OpJ P o E σ R := fun k e hσ' hk hr => by
  subst hσ'
  have hxr := hr x (by rw [ho]; simp [Op.operands]) _ hx
  have hyr := rep_cells (hr y (by rw [ho]; simp [Op.operands]) _ hy) hc
  generalize hu : e x = u at hxr
  cases hxr with
  | ptr ht hb =>
    rename_i b
    have hd : k.σ id ≠ none := by rw [hσ]; simp
    obtain ⟨c, h1, h2⟩ := (hk.obj id _ hσ).row hb
    have hrow := h2.store he hyr hj
    have hfit : i * sz + j + 0 + (e y).cells.toList.length ≤ c.size := by
      have h3 := (List.getElem?_eq_some_iff.1 he).1
      have h4 : (i + 1) * sz ≤ els.length * sz := Nat.mul_le_mul_right _ h3
      rw [Nat.add_mul, Nat.one_mul] at h4
      have h5 := h2.2.1
      have h6 := h2.1 i el he
      have h7 := hyr.1
      simp only [Array.length_toList] at h5 h7 ⊢
      omega
    have hst := run_storeCells_at P b (i * sz + j) elem (e y).cells.toList 0 c k.w h1 hfit (fun v hv => by
      obtain ⟨q, hq, rfl⟩ := List.getElem_of_mem hv
      exact (hyr.2 q (cs[q]'(by rw [← hyr.1]; exact hq)) _ (List.getElem?_eq_getElem _) (List.getElem?_eq_getElem hq)).1)
    simp only [Nat.add_zero] at hst
    obtain ⟨hok, hstep⟩ := hk.setRow (o' := .row sz elem (els.set i (el.take j ++ cs ++ el.drop (j + cs.length)))) (cs' := (c.toList.take (i * sz + j) ++ (e y).cells.toList ++ c.toList.drop (i * sz + j + (e y).cells.toList.length)).toArray) hd hb h1 (by
      simp only [List.size_toArray, List.length_append, List.length_take, List.length_drop, Array.length_toList] at hfit ⊢
      omega) (fun k' hs hb' hh' => RowRep.obj hb' hh' (by simpa using hrow.step hs))
    refine ⟨_, .skip, none, ?_, hok, hstep, hR, rfl⟩
    have hcs : (e y).cells.size = m := by
      have := hyr.1
      simp only [Array.length_toList] at this
      omega
    unfold execOp
    simp only [ho, hu, Instr.storeAt, Instr.sureAddr, storeVar, Sem.run_bind, Sem.run_pure, Result.andThen_ok, run_sizeIs hm, hcs, ne_eq, not_true_eq_false, if_false, hst]

/-! ### New variables -/
theorem opj_new {k : Cx} (hk : Ok k) {elem : TypeId} {as : List AV} {vs : List Value} (hc : CellsRep k as vs) {k' : Cx} (hk' : k' = k.add (some k.w.heap.size) (.row as.length elem [as]) (k.w.alloc (.cells vs.toArray elem))) :
    Ok k' ∧ Step k k' ∧ Rep k' (.ptr k.top as.length 0 0) (.pointer (some ⟨k.w.heap.size, 0, none⟩)) := by
  subst hk'
  have hs := hk.add_step (.cells vs.toArray elem) (.row as.length elem [as])
  refine ⟨hk.add _ _ (RowRep.obj (b := k.w.heap.size) (cs := vs.toArray) (by simp [Cx.add]) (heap_alloc_new _ _) (by simpa using (RowRep.one hc).step hs)), hs, ?_⟩
  have := Rep.ptr (k := k.add (some k.w.heap.size) (.row as.length elem [as]) (k.w.alloc (.cells vs.toArray elem))) (id := k.top) (sz := as.length) (i := 0) (j := 0) (b := k.w.heap.size) (by simp [Cx.add]) (by simp [Cx.add])
  simpa using this
def zeroIs (P : Program) (t : TypeId) : Option (List AV) := match P.info? t with
  | some i => match i.zero with
    | some z => if z.cells.toList.all (·.oneCell') then some (z.cells.toList.map ofLeaf) else none
    | none => none
  | none => none
theorem run_zeroIs {t : TypeId} {as : List AV} (h : zeroIs P t = some as) (k : Cx) : ∃ z, (∀ w, (zeroValue t).run P w = .ok z w) ∧ CellsRep k as z.cells.toList := by
  unfold zeroIs at h
  split at h
  · rename_i i hi
    split at h
    · rename_i z hz
      split at h
      · rename_i hall
        cases h
        refine ⟨z, fun w => by simp [zeroValue, typeInfo, hi, hz], by simp, fun j a u ha hu => ?_⟩
        have h1 : u.oneCell' = true := by
          rw [List.all_eq_true] at hall
          exact hall _ (List.mem_of_getElem? hu)
        refine ⟨h1, ?_⟩
        simp only [List.getElem?_map, hu, Option.map_some, Option.some.injEq] at ha
        subst ha
        exact rep_ofLeaf k u h1
      · cases h
    · cases h
  · cases h
theorem opj_alloc {elem : TypeId} {as : List AV} (ho : o.op = .alloc elem) (hz : zeroIs P elem = some as) (hR : ∀ id, σ id = none → R (some (.ptr id as.length 0 0)) (σ.set id (.row as.length elem [as]))) : OpJ P o E σ R := fun k e hσ hk hr => by
  subst hσ
  obtain ⟨z, h1, h2⟩ := run_zeroIs hz k
  obtain ⟨h3, h4, h5⟩ := opj_new hk (elem := elem) h2 rfl
  refine ⟨_, .value (.pointer (some ⟨k.w.heap.size, 0, none⟩)), some (.ptr k.top as.length 0 0), ?_, h3, h4, hR k.top hk.fresh, _, rfl, h5⟩
  unfold execOp
  simp only [ho, Instr.alloc, newVar, newRow, Sem.run_bind, Sem.run_pure, Result.andThen_ok, h1, run_newObj]
  rfl
theorem opj_box {elem : TypeId} {x : Operand} {av : AV} {as : List AV} (ho : o.op = .box elem x) (hx : E x = some av) (hc : cellsOf av = some as) (hR : ∀ id, σ id = none → R (some (.ptr id as.length 0 0)) (σ.set id (.row as.length elem [as]))) : OpJ P o E σ R := fun k e hσ hk hr => by
  subst hσ
  have h2 := rep_cells (hr x (by rw [ho]; simp [Op.operands]) _ hx) hc
  obtain ⟨h3, h4, h5⟩ := opj_new hk (elem := elem) h2 rfl
  refine ⟨_, .value (.pointer (some ⟨k.w.heap.size, 0, none⟩)), some (.ptr k.top as.length 0 0), ?_, h3, h4, hR k.top hk.fresh, _, rfl, h5⟩
  unfold execOp
  simp only [ho, Instr.box, newVar, newRow, Sem.run_bind, Sem.run_pure, Result.andThen_ok, run_newObj]
  rfl
end
end Go.Proofs.YtledbkkaaomjpabDoor.Ab
