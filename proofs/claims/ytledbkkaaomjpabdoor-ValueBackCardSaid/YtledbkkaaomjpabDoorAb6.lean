/- Abstract values over the model's memory, 6: append, make, bytes and strings, walks over strings, equality of structs, what may be forgotten. -/
import Derived.Test.YtledbkkaaomjpabDoorAb5
import Derived.Laws.RangeString
import Derived.Laws.StructEq
set_option linter.unusedVariables false
set_option linter.unusedSimpArgs false
namespace Go.Proofs.YtledbkkaaomjpabDoor.Ab
open Go

/-! ### What is read out of a slice -/
def bys (l : List UInt8) : List (List AV) := l.map fun b => [.v (.int .u8 b.toNat)]
theorem length_bys (l : List UInt8) : (bys l).length = l.length := by simp [bys]
def srcOf (σ : St) : AV → Option (Nat × List (List AV))
  | .sl _ _ sz els => some (sz, els)
  | .osl id sz off len => match σ id with
    | some (.row sz' _ els) => if sz = sz' ∧ off + len ≤ els.length then some (sz, (els.drop off).take len) else none
    | _ => none
  | _ => none
theorem src_rep {k : Cx} (hk : Ok k) {av : AV} {u : Value} (h : Rep k av u) {sz : Nat} {news : List (List AV)} (hs : srcOf k.σ av = some (sz, news)) (hpos : 0 < sz) :
    ∃ vals : List Value, vals.length = news.length * sz ∧ RowRep k sz news vals ∧ news.length ≤ maxLen ∧ ((u = .slice none 0 0 ∧ news = []) ∨ ∃ ad cap, u = .slice (some ad) news.length cap ∧ ∀ (j : Nat) v, vals[j]? = some v → k.w.cell? (ad.add j) = some v) := by
  cases h with
  | slnil hn =>
    simp only [srcOf, Option.some.injEq, Prod.mk.injEq] at hs
    obtain ⟨rfl, rfl⟩ := hs
    exact ⟨[], by simp, ⟨fun i e h => by simp at h, by simp, fun i j e a h => by simp at h⟩, by simp [maxLen], .inl ⟨rfl, rfl⟩⟩
  | @sle nl full sz0 ad hn =>
    simp only [srcOf, Option.some.injEq, Prod.mk.injEq] at hs
    obtain ⟨rfl, rfl⟩ := hs
    exact ⟨[], by simp, ⟨fun i e h => by simp at h, by simp, fun i j e a h => by simp at h⟩, by simp [maxLen], .inr ⟨ad, 0, rfl, fun j v h => by simp at h⟩⟩
  | @sl nl full s0 els b p cap f hn hc hm hf hsz hfr hw hcc =>
    simp only [srcOf, Option.some.injEq, Prod.mk.injEq] at hs
    obtain ⟨rfl, rfl⟩ := hs
    have hd : ∀ q, q < els.length * s0 → ∃ e a, els[q / s0]? = some e ∧ e[q % s0]? = some a := fun q hq => by
      have hi : q / s0 < els.length := by rw [Nat.div_lt_iff_lt_mul hpos]; exact hq
      have he : els[q / s0]? = some els[q / s0] := by simp [hi]
      have hj : q % s0 < els[q / s0].length := by rw [hsz _ _ he]; exact Nat.mod_lt _ hpos
      exact ⟨_, _, he, List.getElem?_eq_getElem hj⟩
    have hget : ∀ q, q < els.length * s0 → ((List.range (els.length * s0)).map fun q => f (q / s0) (q % s0))[q]? = some (f (q / s0) (q % s0)) := fun q hq => by simp [hq]
    have hidx : ∀ i j : Nat, j < s0 → (i * s0 + j) / s0 = i ∧ (i * s0 + j) % s0 = j := fun i j hj => by
      constructor
      · rw [Nat.mul_comm, Nat.mul_add_div hpos, Nat.div_eq_of_lt hj, Nat.add_zero]
      · rw [Nat.mul_comm, Nat.mul_add_mod, Nat.mod_eq_of_lt hj]
    refine ⟨(List.range (els.length * s0)).map fun q => f (q / s0) (q % s0), by simp, ⟨hsz, by simp, fun i j e a he ha => ?_⟩, hm, .inr ⟨⟨b, p, none⟩, cap, rfl, fun j v hv => ?_⟩⟩
    · have hj : j < s0 := by rw [← hsz i e he]; exact (List.getElem?_eq_some_iff.1 ha).1
      have hi := (List.getElem?_eq_some_iff.1 he).1
      have hlt : i * s0 + j < els.length * s0 := by
        have h1 : (i + 1) * s0 ≤ els.length * s0 := Nat.mul_le_mul_right _ hi
        rw [Nat.add_mul, Nat.one_mul] at h1
        omega
      refine ⟨f i j, ?_, (hw i j e a he ha).2, hcc i j e a he ha⟩
      rw [hget _ hlt, (hidx i j hj).1, (hidx i j hj).2]
    · have hlt : j < els.length * s0 := by have := (List.getElem?_eq_some_iff.1 hv).1; simpa using this
      rw [hget j hlt] at hv
      cases hv
      obtain ⟨e, a, he, ha⟩ := hd j hlt
      have := (hw _ _ e a he ha).1
      rw [Nat.mul_comm, Nat.div_add_mod] at this
      rw [Addr.add_mid]
      exact this
  | @oslnil id _ hid hb =>
    simp only [srcOf] at hs
    split at hs
    · rename_i sz' elem els ho
      split at hs
      · rename_i hc
        simp only [Option.some.injEq, Prod.mk.injEq] at hs
        obtain ⟨rfl, rfl⟩ := hs
        exact ⟨[], by simp, ⟨fun i e h => by simp at h, by simp, fun i j e a h => by simp at h⟩, by simp [maxLen], .inl ⟨rfl, by simp⟩⟩
      · cases hs
    · cases hs
  | @osl id s0 off len b cap p hid hb hp hl hm hfit =>
    simp only [srcOf] at hs
    split at hs
    · rename_i s0' elem els ho
      split at hs
      · rename_i hc
        obtain ⟨rfl, hc⟩ := hc
        simp only [Option.some.injEq, Prod.mk.injEq] at hs
        obtain ⟨rfl, rfl⟩ := hs
        obtain ⟨cs, h1, h2⟩ := (hk.obj id _ ho).row hb
        have hlen : ((els.drop off).take len).length = len := by simp; omega
        have hfull : (off + len) * s0 ≤ cs.toList.length := Nat.le_trans (Nat.mul_le_mul_right _ hc) h2.2.1
        rw [Nat.add_mul] at hfull
        refine ⟨(cs.toList.drop (off * s0)).take (len * s0), by rw [List.length_take, List.length_drop, hlen]; omega, (h2.drop off).take len (by simp; omega), by rw [hlen]; exact hm, .inr ⟨⟨b, p, none⟩, cap, by rw [hlen], fun j v hv => ?_⟩⟩
        rw [List.getElem?_take] at hv
        split at hv
        · rename_i hj
          rw [List.getElem?_drop] at hv
          have hcap : 0 < cap := by
            rcases Nat.eq_zero_or_pos len with h0 | h0
            · subst h0; simp at hj
            · omega
          have hpo := hp hcap
          subst hpo
          rw [Addr.add_mid, cell_of_row k.w b _ cs elem (0, 0) h1]
          simpa [← Array.getElem?_toList] using hv
        · cases hv
      · cases hs
    · cases hs
  | _ => simp [srcOf] at hs

/-! ### append -/
section
variable {P : Program}
def bytesIs (P : Program) (t : TypeId) : Option Nat := (P.info? t).map (·.bytes)
theorem run_append_zero {t et : TypeId} {sz : Nat} (ht : P.underlying t = some (.slice et)) (hs : sizeIs P et = some sz) (ty : TypeId) (a b : Option Addr) (n c c' : Nat) (hc : n ≤ c) (hb : b = none → c' = 0) (w : World) : (Builtin.append_ #[t, t] ty #[.slice a n c, .slice b 0 c']).run P w = .ok (.slice a n c) w := by
  have e1 : (Builtin.firstCells sz 0 (.slice b 0 c')).run P w = .ok #[] w := by
    cases b with
    | none => simp [Builtin.firstCells]
    | some ad => simp [Builtin.firstCells, loadCells, loadCellsFrom]
  have hi := run_sizeIs hs w
  cases a with
  | none => simp [Builtin.append_, run_underlying ht, hi, Builtin.lenOf, hc, e1]
  | some ad => simp [Builtin.append_, run_underlying ht, hi, Builtin.lenOf, hc, e1, storeCells]
/-- The type of a slice's elements, as append wants it. -/
structure Elem (P : Program) (t et : TypeId) (sz : Nat) : Prop where
  ht : P.underlying t = some (.slice et)
  hs : sizeIs P et = some sz
  hz : (zeroIs P et).map (·.length) = some sz
  pos : 0 < sz
theorem Elem.info {t et : TypeId} {sz : Nat} (h : Elem P t et sz) : ∃ i z, P.info? et = some i ∧ i.zero = some z ∧ i.size = sz ∧ z.cells.size = sz := by
  have h1 := h.hs
  have h2 := h.hz
  obtain ⟨i, hi, h1⟩ := sizeIs_info h1
  unfold zeroIs at h2
  · cases hz : i.zero with
    | none => simp [hi, hz] at h2
    | some z =>
      refine ⟨i, z, hi, hz, h1, ?_⟩
      simp only [hi, hz] at h2
      split at h2
      · simpa using h2
      · simp at h2
/-- A greater row is laid: whatever it was before. -/
theorem run_append_new {k : Cx} (hk : Ok k) {t et : TypeId} {sz by_ : Nat} (he : Elem P t et sz) (hby : bytesIs P et = some by_) {els news : List (List AV)} {old new : List Value} (ho : RowRep k sz els old) (hol : old.length = els.length * sz) (hn : RowRep k sz news new) (hnl : new.length = news.length * sz)
    {a : Option Addr} {cap : Nat} (ha : ∀ ad, a = some ad → ∀ (j : Nat) v, old[j]? = some v → k.w.cell? (ad.add j) = some v) (ha0 : a = none → els = [] ∧ cap = 0) (hcap : cap < els.length + news.length)
    {ad : Addr} {c : Nat} (hx : ∀ (j : Nat) v, new[j]? = some v → k.w.cell? (ad.add j) = some v) (hb : (els.length + news.length) * by_ ≤ 140737488355328) (hm : els.length + news.length ≤ maxLen) (ty : TypeId) :
    ∃ cap' rest, els.length + news.length ≤ cap' ∧ cap' ≤ maxLen ∧ (old ++ new ++ rest).length = cap' * sz ∧ (Builtin.append_ #[t, t] ty #[.slice a els.length cap, .slice (some ad) news.length c]).run P k.w = .ok (.slice (some ⟨k.w.heap.size, 0, none⟩) (els.length + news.length) cap') (k.w.drew.alloc (.cells (old ++ new ++ rest).toArray et)) ∧ RowRep k sz (els ++ news) (old ++ new ++ rest) := by
  obtain ⟨i, z, hi, hz, hsz, hzs⟩ := he.info
  have hbi : i.bytes = by_ := by unfold bytesIs at hby; simpa [hi] using hby
  have hge := grownCap_ge k.w (els.length + news.length) cap et
  have hcm := grownCap_le_maxLen k.w (els.length + news.length) cap et hm
  refine ⟨grownCap k.w (els.length + news.length) cap et, (Builtin.zeroCells z.cells (grownCap k.w (els.length + news.length) cap et - (els.length + news.length))).toList, hge, hcm, ?_, ?_, ho.append hn hol⟩
  · simp only [List.length_append, hol, hnl, Array.length_toList, size_zeroCells, hzs, ← Nat.add_mul]
    congr 1
    omega
  · subst hsz
    subst hbi
    cases a with
    | none =>
      obtain ⟨rfl, rfl⟩ := ha0 rfl
      have hold : old = [] := List.eq_nil_of_length_eq_zero (by simpa using hol)
      subst hold
      simp only [List.length_nil, Nat.zero_add] at hcap hb hm ⊢
      have hr := run_append_nil (P := P) k.w t ty et i z he.ht hi hz ad news.length c new hnl hx hcap (by simp only [maxLen] at hm; omega) (by omega)
      rw [hr]
      simp only [List.length_nil, Nat.zero_add, List.nil_append]
      refine congrArg (fun c => Result.ok _ (k.w.drew.alloc (.cells c et))) ?_
      apply Array.ext'
      simp
    | some ad' =>
      have hr := run_append_grow (P := P) k.w t ty et i z he.ht hi hz ad' els.length cap old hol (ha ad' rfl) ad news.length c new hnl hx hcap (by simp only [maxLen] at hm; omega) (growslice_fits hcap hb)
      rw [hr]
      refine congrArg (fun c => Result.ok _ (k.w.drew.alloc (.cells c et))) ?_
      apply Array.ext'
      simp

section
variable {o : Oper} {E : Operand → Option AV} {σ : St} {R : Option AV → St → Prop}
theorem drew_alloc {k : Cx} (hk : Ok k) (ob : Obj) : Ok { k with w := k.w.drew.alloc ob } ∧ Step k { k with w := k.w.drew.alloc ob } := by
  obtain ⟨h1, h2⟩ := hk.drew
  obtain ⟨h3, h4⟩ := h1.alloc ob
  exact ⟨h3, h2.trans h4⟩
/-- append on a slice that has no room behind it, or is nil: what comes is a slice that nobody writes. -/
theorem opj_append_sl {t et : TypeId} {sz by_ : Nat} {x y : Operand} {nl : Option Bool} {full : Bool} {els news : List (List AV)} {ts : Array TypeId} {av : AV} (ho : o.op = .call { callee := .builtin .append, args := #[x, y], argTypes := ts }) (hts : ts = #[t, t]) (he : Elem P t et sz) (hby : bytesIs P et = some by_)
    (hx : E x = some (.sl nl full sz els)) (hfull : full = true ∨ (nl = some true)) (hy : E y = some av) (hs : srcOf σ av = some (sz, news)) (hb : (els.length + news.length) * by_ ≤ 140737488355328) (hb1 : 0 < by_)
    (hR0 : news = [] → R (some (.sl nl full sz els)) σ) (hR1 : news ≠ [] → R (some (.sl (some false) false sz (els ++ news))) σ) : OpJ P o E σ R := fun k e hσ hk hr => by
  subst hts
  subst hσ
  have hxr := hr x (by rw [ho]; simp [Op.operands, Call.operands]) _ hx
  have hyr := hr y (by rw [ho]; simp [Op.operands, Call.operands]) _ hy
  obtain ⟨new, hnl, hn, hnm, hyv⟩ := src_rep hk hyr hs he.pos
  obtain ⟨old, hol, ho', hom, hxv⟩ := src_rep hk hxr (sz := sz) (news := els) rfl he.pos
  have hrun : ∀ v w', (Builtin.append_ #[t, t] o.type #[e x, e y]).run P k.w = .ok v w' → (execOp e o).run P k.w = .ok (.value v) w' := fun v w' h => by
    unfold execOp
    simp only [ho, resolve, invoke, builtin, Sem.run_bind, Sem.run_pure, Result.andThen_ok, List.map_toArray, List.map_cons, List.map_nil, h]
  have hcapx : ∃ a cap, e x = .slice a els.length cap ∧ els.length ≤ cap ∧ (cap = els.length) ∧ (a = none → els = [] ∧ cap = 0) := by
    generalize e x = u at hxr
    cases hxr with
    | slnil hn => exact ⟨none, 0, rfl, Nat.le_refl _, rfl, fun _ => ⟨rfl, rfl⟩⟩
    | sle hn => exact ⟨_, 0, rfl, Nat.le_refl _, rfl, fun h => by cases h⟩
    | sl hn' hc hm hf =>
      refine ⟨_, _, rfl, hc, ?_, fun h => by cases h⟩
      rcases hfull with h | h
      · exact hf h
      · exact absurd h hn'
  obtain ⟨a, cap, hxe, hle, hcap, ha0⟩ := hcapx
  rcases List.eq_nil_or_concat news with hnil | hne
  · subst hnil
    refine ⟨k, .value (e x), some (.sl nl full sz els), ?_, hk, .refl k, hR0 rfl, _, rfl, hxr⟩
    rw [hrun (e x) k.w ?_]
    rcases hyv with ⟨hv, _⟩ | ⟨ad, c, hv, _⟩
    · rw [hxe, hv]; exact run_append_zero he.ht he.hs _ _ _ _ _ _ hle (fun _ => rfl) _
    · rw [hxe, hv]; exact run_append_zero he.ht he.hs _ _ _ _ _ _ hle (fun h => by cases h) _
  · have hne' : news ≠ [] := by rintro rfl; obtain ⟨_, _, h⟩ := hne; simp at h
    have hpos : 0 < news.length := List.length_pos_iff.2 hne'
    rcases hyv with ⟨hv, h0⟩ | ⟨ad, c, hv, hcells⟩
    · exact absurd h0 hne'
    · have hm : els.length + news.length ≤ maxLen := by
        have : (els.length + news.length) * 1 ≤ (els.length + news.length) * by_ := Nat.mul_le_mul_left _ hb1
        simp only [maxLen]; omega
      have hac : ∀ ad, a = some ad → ∀ (j : Nat) v, old[j]? = some v → k.w.cell? (ad.add j) = some v := fun ad' had j v hj => by
        rcases hxv with ⟨h1, _⟩ | ⟨ad2, c2, h1, h2⟩
        · rw [hxe] at h1; injection h1 with h1; rw [h1] at had; cases had
        · rw [hxe] at h1; injection h1 with h1; rw [h1] at had; cases had; exact h2 j v hj
      obtain ⟨cap', rest, h1, h2, h3, h4, h5⟩ := run_append_new hk he hby ho' hol hn hnl hac ha0 (by omega) hcells hb hm o.type
      obtain ⟨hok, hst⟩ := drew_alloc hk (.cells (old ++ new ++ rest).toArray et)
      have hrep := rep_new_sl (hk.drew).1 (elem := et) (h5.step (hk.drew).2) (by simpa using hm) cap' (by simpa using h1) false (by simp)
      refine ⟨_, .value _, some _, hrun _ _ (by rw [hxe, hv]; exact h4), hok, hst, hR1 hne', _, rfl, by simpa using hrep⟩

/-- An object is handed on to another number (in its block, or in a new one). -/
theorem Ok.hand {k : Cx} (hk : Ok k) {id : Nat} {nb : Option Nat} {ob : AObj} {w' : World} (hid : k.σ id ≠ none) (os : w'.os = k.w.os) (tape : w'.tape = k.w.tape) (output : w'.output = k.w.output) (size : k.w.heap.size ≤ w'.heap.size)
    (hb : ∀ b, b < k.w.heap.size → k.ρ id ≠ some b → w'.heap[b]? = k.w.heap[b]?) (hsh : ∀ (b : Nat) (cs : Array Value) (t : TypeId) (f : Nat × Nat), k.ρ id = some b → k.w.heap[b]? = some (.cells cs t f) → ∃ (cs' : Array Value) (f' : Nat × Nat), w'.heap[b]? = some (.cells cs' t f') ∧ cs'.size = cs.size)
    (hnb : ∀ b, nb = some b → b < w'.heap.size ∧ (k.w.heap.size ≤ b ∨ k.ρ id = some b))
    (hob : ∀ k', Step k k' → k'.w = w' → k'.ρ k.top = nb → k.top < k'.top → ObjOk k' k.top ob) :
    let k' : Cx := { ρ := fun x => if x = k.top then nb else k.ρ x, top := k.top + 1, σ := (k.σ.del id).set k.top ob, base := k.base, w := w' }
    Ok k' ∧ Step k k' := by
  intro k'
  have hne : id ≠ k.top := fun h => absurd (hk.dom id hid) (by omega)
  have hσ' : ∀ x, x ≠ k.top → k'.σ x ≠ none → k.σ x ≠ none ∧ x ≠ id ∧ k'.σ x = k.σ x := fun x hx h => by
    have e1 : k'.σ x = k.σ.del id x := by simp [k', St.set, hx]
    rw [e1] at h ⊢
    by_cases hxi : x = id
    · subst hxi; simp [St.del] at h
    · have e2 : k.σ.del id x = k.σ x := by simp [St.del, hxi]
      rw [e2] at h ⊢
      exact ⟨h, hxi, rfl⟩
  have hρ : ∀ x, x ≠ k.top → k'.ρ x = k.ρ x := fun x hx => by simp [k', hx]
  have hρt : k'.ρ k.top = nb := by simp [k']
  have hst : Step k k' := by
    refine ⟨Nat.le_succ _, fun x hx => hρ x (by omega), rfl, os, tape, output, size, fun b h1 h2 => ⟨hb b h1 fun h => h2 ⟨id, hid, h⟩, ?_⟩, fun b cs t f h => ?_⟩
    · rintro ⟨x, h3, h4⟩
      by_cases hx : x = k.top
      · subst hx
        rw [hρt] at h4
        obtain ⟨_, h5⟩ := hnb b h4
        rcases h5 with h5 | h5
        · omega
        · exact h2 ⟨id, hid, h5⟩
      · rw [hρ x hx] at h4
        exact h2 ⟨x, (hσ' x hx h3).1, h4⟩
    · by_cases hbi : k.ρ id = some b
      · exact hsh b cs t f hbi h
      · exact ⟨cs, f, (hb b (Array.getElem?_eq_some_iff.1 h).1 hbi).trans h, rfl⟩
  refine ⟨⟨fun x h => ?_, fun x y b h1 h2 h3 h4 => ?_, fun x b h1 h2 => ?_, Nat.le_trans hk.hb size, fun x ob' h => ?_, hk.ground hst⟩, hst⟩
  · by_cases hx : x = k.top
    · subst hx; exact Nat.lt_succ_self _
    · exact Nat.lt_succ_of_lt (hk.dom x (hσ' x hx h).1)
  · by_cases hx : x = k.top <;> by_cases hy : y = k.top
    · omega
    · subst hx
      rw [hρt] at h3
      rw [hρ y hy] at h4
      obtain ⟨h5, h6, _⟩ := hσ' y hy h2
      obtain ⟨_, h7⟩ := hnb b h3
      rcases h7 with h7 | h7
      · exact absurd (hk.bas y b h5 h4).2 (by omega)
      · exact absurd (hk.inj y id b h5 hid h4 h7) h6
    · subst hy
      rw [hρt] at h4
      rw [hρ x hx] at h3
      obtain ⟨h5, h6, _⟩ := hσ' x hx h1
      obtain ⟨_, h7⟩ := hnb b h4
      rcases h7 with h7 | h7
      · exact absurd (hk.bas x b h5 h3).2 (by omega)
      · exact absurd (hk.inj x id b h5 hid h3 h7) h6
    · rw [hρ x hx] at h3
      rw [hρ y hy] at h4
      exact hk.inj x y b (hσ' x hx h1).1 (hσ' y hy h2).1 h3 h4
  · by_cases hx : x = k.top
    · subst hx
      rw [hρt] at h2
      obtain ⟨h5, h6⟩ := hnb b h2
      refine ⟨?_, h5⟩
      show k.base ≤ b
      rcases h6 with h6 | h6
      · have := hk.hb; omega
      · exact (hk.bas id b hid h6).1
    · rw [hρ x hx] at h2
      obtain ⟨h5, h6⟩ := hk.bas x b (hσ' x hx h1).1 h2
      exact ⟨h5, Nat.lt_of_lt_of_le h6 size⟩
  · by_cases hx : x = k.top
    · subst hx
      have : ob' = ob := by
        have h1 : k'.σ k.top = some ob := by simp [k', St.set]
        rw [h1] at h; cases h; rfl
      subst this
      exact hob k' hst rfl hρt (Nat.lt_succ_self _)
    · have hd : k'.σ x ≠ none := by rw [h]; simp
      obtain ⟨h5, h6, h7⟩ := hσ' x hx hd
      rw [h7] at h
      exact (hk.obj x ob' h).step hst (hk.dom x h5) fun b hb' => hb b (hk.bas x b h5 hb').2 fun h8 => h6 (hk.inj x id b h5 hid hb' h8)
theorem hnilr (k : Cx) (sz : Nat) : RowRep k sz [] ([] : List Value) := ⟨fun i e h => by simp at h, by simp, fun i j e a h => by simp at h⟩
/-- append on a row of our own. -/
theorem opj_append_osl {t et : TypeId} {sz by_ : Nat} {x y : Operand} {id n : Nat} {els news : List (List AV)} {ts : Array TypeId} {av : AV} (ho : o.op = .call { callee := .builtin .append, args := #[x, y], argTypes := ts }) (hts : ts = #[t, t]) (he : Elem P t et sz) (hby : bytesIs P et = some by_)
    (hx : E x = some (.osl id sz 0 n)) (hσ : σ id = some (.row sz et els)) (hn : n ≤ els.length) (hy : E y = some av) (hs : srcOf σ av = some (sz, news)) (hb : (n + news.length) * by_ ≤ 140737488355328) (hb1 : 0 < by_)
    (hR : ∀ id', σ id' = none → R (some (.osl id' sz 0 (n + news.length))) ((σ.del id).set id' (.row sz et (els.take n ++ news)))) : OpJ P o E σ R := fun k e hσ' hk hr => by
  subst hts
  subst hσ'
  have hxr := hr x (by rw [ho]; simp [Op.operands, Call.operands]) _ hx
  have hyr := hr y (by rw [ho]; simp [Op.operands, Call.operands]) _ hy
  obtain ⟨new, hnl, hnr, hnm, hyv⟩ := src_rep hk hyr hs he.pos
  have htl : (els.take n).length = n := by simp; omega
  obtain ⟨old, hol, hor, hom, hxv⟩ := src_rep hk hxr (sz := sz) (news := els.take n) (by simp [srcOf, hσ, hn]) he.pos
  rw [htl] at hol hom
  have hid : k.σ id ≠ none := by rw [hσ]; simp
  have hrun : ∀ v w', (Builtin.append_ #[t, t] o.type #[e x, e y]).run P k.w = .ok v w' → (execOp e o).run P k.w = .ok (.value v) w' := fun v w' h => by
    unfold execOp
    simp only [ho, resolve, invoke, builtin, Sem.run_bind, Sem.run_pure, Result.andThen_ok, List.map_toArray, List.map_cons, List.map_nil, h]
  have hm : n + news.length ≤ maxLen := by
    have : (n + news.length) * 1 ≤ (n + news.length) * by_ := Nat.mul_le_mul_left _ hb1
    simp only [maxLen]; omega
  -- a new block
  have grow : ∀ (a : Option Addr) (cap : Nat), e x = .slice a n cap → cap < n + news.length → (a = none → els.take n = [] ∧ cap = 0) → ∃ k' nx r, (execOp e o).run P k.w = .ok nx k'.w ∧ Ok k' ∧ Step k k' ∧ R r k'.σ ∧ Gave k' nx r := by
    intro a cap hxe hcap ha0
    rcases hyv with ⟨hv, h0⟩ | ⟨ad, c, hv, hcells⟩
    · subst h0
      exfalso
      generalize e x = u at hxr hxe
      cases hxr with
      | oslnil => injection hxe with h1 h2 h3; simp only [List.length_nil] at hcap; omega
      | osl _ _ _ hl => injection hxe with h1 h2 h3; simp only [List.length_nil] at hcap; omega
    · have hac : ∀ ad, a = some ad → ∀ (j : Nat) v, old[j]? = some v → k.w.cell? (ad.add j) = some v := fun ad' had j v hj => by
        rcases hxv with ⟨h1, _⟩ | ⟨ad2, c2, h1, h2⟩
        · rw [hxe] at h1; injection h1 with h1; rw [h1] at had; cases had
        · rw [hxe] at h1; injection h1 with h1; rw [h1] at had; cases had; exact h2 j v hj
      obtain ⟨cap', rest, h1, h2, h3, h4, h5⟩ := run_append_new hk he hby hor (by rw [htl]; exact hol) hnr hnl hac ha0 (by rw [htl]; exact hcap) hcells (by rw [htl]; exact hb) (by rw [htl]; exact hm) o.type
      rw [htl] at h1 h4
      have hh := hk.hand (id := id) (nb := some k.w.heap.size) (ob := .row sz et (els.take n ++ news)) (w' := k.w.drew.alloc (.cells (old ++ new ++ rest).toArray et)) hid rfl rfl rfl (by simp) (fun b hb1 _ => heap_alloc_old k.w.drew _ _ hb1)
        (fun b cs t f hb1 hb2 => ⟨cs, f, (heap_alloc_old k.w.drew _ _ (Array.getElem?_eq_some_iff.1 hb2).1).trans hb2, rfl⟩) (fun b hb1 => by cases hb1; exact ⟨by simp, .inl (Nat.le_refl _)⟩)
        (fun k' hs hw hρ ht => RowRep.obj (cs := (old ++ new ++ rest).toArray) hρ (by rw [hw]; exact heap_alloc_new k.w.drew _) (by simpa using h5.step hs))
      refine ⟨_, .value _, some _, hrun _ _ (by rw [hxe, hv]; exact h4), hh.1, hh.2, hR k.top hk.fresh, _, rfl, ?_⟩
      refine .osl (by simp) (by simp) (fun _ => by simp) h1 hm ⟨(old ++ new ++ rest).toArray, et, (0, 0), heap_alloc_new k.w.drew _, ?_⟩
      simp only [List.size_toArray, h3, Nat.zero_add]
      exact Nat.le_refl _
  generalize hu : e x = u at hxr
  cases hxr with
  | oslnil hidt hρ =>
    have hels : els = [] := by
      rcases hk.obj id _ hσ with ⟨_, h⟩ | ⟨b, cs, h, _⟩
      · exact h
      · rw [hρ] at h; cases h
    subst hels
    rcases List.eq_nil_or_concat news with hnil | hne
    · subst hnil
      have hh := hk.hand (id := id) (nb := none) (ob := .row sz et []) (w' := k.w) hid rfl rfl rfl (Nat.le_refl _) (fun b _ _ => rfl) (fun b cs t f h _ => by rw [hρ] at h; cases h) (fun b h => by cases h) (fun k' hs hw hρ' ht => .inl ⟨hρ', rfl⟩)
      refine ⟨_, .value (.slice none 0 0), some _, hrun _ _ ?_, hh.1, hh.2, hR k.top hk.fresh, _, rfl, .oslnil (by simp) (by simp)⟩
      rw [hu]
      rcases hyv with ⟨hv, _⟩ | ⟨ad, c, hv, _⟩
      · rw [hv]; exact run_append_zero he.ht he.hs _ _ _ _ _ _ (Nat.le_refl _) (fun _ => rfl) _
      · rw [hv]; exact run_append_zero he.ht he.hs _ _ _ _ _ _ (Nat.le_refl _) (fun h => by cases h) _
    · have hpos : 0 < news.length := by obtain ⟨_, _, rfl⟩ := hne; simp
      exact grow none 0 hu (by omega) (fun _ => ⟨by simp, rfl⟩)
  | @osl _ _ _ _ b cap p hidt hρ hp hl hm' hfit =>
    by_cases hroom : n + news.length ≤ cap
    · obtain ⟨cs, hh1, hh2⟩ := (hk.obj id _ hσ).row hρ
      have hcapfit : cap * sz ≤ cs.size := by
        obtain ⟨cs', t', f', h1, h2⟩ := hfit
        rw [hh1] at h1; cases h1
        simpa using h2
      have hshape : ∀ cs' : Array Value, cs'.size = cs.size → RowRep k sz (els.take n ++ news) cs'.toList → ∀ w', w'.os = k.w.os → w'.tape = k.w.tape → w'.output = k.w.output → w'.heap.size = k.w.heap.size → (∀ x, x ≠ b → w'.heap[x]? = k.w.heap[x]?) → w'.heap[b]? = some (.cells cs' et (0, 0)) → (execOp e o).run P k.w = .ok (.value (.slice (some ⟨b, p, none⟩) (n + news.length) cap)) w' →
          ∃ k' nx r, (execOp e o).run P k.w = .ok nx k'.w ∧ Ok k' ∧ Step k k' ∧ R r k'.σ ∧ Gave k' nx r := by
        intro cs' hz hrr w' h1 h2 h3 h4 h5 h6 h7
        have hh := hk.hand (id := id) (nb := some b) (ob := .row sz et (els.take n ++ news)) (w' := w') hid h1 h2 h3 (by omega) (fun x _ hx => h5 x fun hxb => hx (by rw [hxb]; exact hρ))
          (fun x cs0 t0 f0 hx hx2 => by rw [hρ] at hx; cases hx; rw [hh1] at hx2; cases hx2; exact ⟨cs', (0, 0), h6, hz⟩) (fun x hx => by cases hx; exact ⟨by rw [h4]; exact (hk.bas id b hid hρ).2, .inr hρ⟩)
          (fun k' hs hw hρ' ht => RowRep.obj (cs := cs') hρ' (by rw [hw]; exact h6) (hrr.step hs))
        refine ⟨_, .value _, some _, h7, hh.1, hh.2, hR k.top hk.fresh, _, rfl, ?_⟩
        exact .osl (by simp) (by simp) hp hroom hm ⟨cs', et, (0, 0), h6, by rw [hz]; simpa using hcapfit⟩
      rcases List.eq_nil_or_concat news with hnil | hne
      · subst hnil
        refine hshape cs rfl (by simpa using (hh2.take n hn).append (rest := cs.toList.drop (n * sz)) (hnilr k sz) (by rw [List.length_take, htl]; have := Nat.mul_le_mul_right sz hn; have := hh2.2.1; omega)) k.w rfl rfl rfl rfl (fun _ _ => rfl) hh1 (hrun _ _ ?_)
        rw [hu]
        rcases hyv with ⟨hv, _⟩ | ⟨ad, c, hv, _⟩
        · rw [hv]; exact run_append_zero he.ht he.hs _ _ _ _ _ _ hl (fun _ => rfl) _
        · rw [hv]; exact run_append_zero he.ht he.hs _ _ _ _ _ _ hl (fun h => by cases h) _
      · have hpos : 0 < news.length := by obtain ⟨_, _, rfl⟩ := hne; simp
        have hp0 : p = 0 := by rw [hp (by omega)]; simp
        subst hp0
        obtain ⟨i, z, hi, hz, hsz, hzs⟩ := he.info
        rcases hyv with ⟨hv, h0⟩ | ⟨ad, c, hv, hcells⟩
        · subst h0; simp at hpos
        · have hfit2 : n * i.size + new.length ≤ cs.size := by
            rw [hsz, hnl, ← Nat.add_mul]
            exact Nat.le_trans (Nat.mul_le_mul_right _ hroom) hcapfit
          have hr2 := run_append_room (P := P) k.w t o.type et i he.ht hi b n cap cs hh1 ad news.length c new (by rw [hsz]; exact hnl) hcells (hnr.all1 hnl) hroom hfit2
          have hne2 : n * sz ≤ cs.toList.length := by have := Nat.mul_le_mul_right sz hn; have := hh2.2.1; omega
          refine hshape _ ?_ ?_ (k.w.setRow b (cs.toList.take (n * i.size) ++ new ++ cs.toList.drop (n * i.size + new.length)).toArray) rfl rfl rfl (by simp) (fun x hx => setRow_other _ _ _ _ hx) (setRow_heap k.w b cs _ et (0, 0) hh1) (hrun _ _ (by rw [hu, hv]; exact hr2))
          · simp only [List.size_toArray, List.length_append, List.length_take, List.length_drop, Array.length_toList]
            omega
          · rw [hsz]
            simpa using (hh2.take n hn).append (rest := cs.toList.drop (n * sz + new.length)) hnr (by rw [List.length_take, htl]; omega)
    · exact grow (some ⟨b, p, none⟩) cap hu (by omega) (fun h => by cases h)
/-- A nil slice is a row of our own with nothing in it (so that a loop may begin with it). -/
theorem Ok.nilRow {k : Cx} (hk : Ok k) (sz : Nat) (et : TypeId) : let k' : Cx := { k with ρ := fun x => if x = k.top then none else k.ρ x, top := k.top + 1, σ := k.σ.set k.top (.row sz et []) }
    Ok k' ∧ Step k k' := by
  intro k'
  have hσ' : ∀ x, x ≠ k.top → k'.σ x = k.σ x := fun x hx => by simp [k', St.set, hx]
  have hρ : ∀ x, x ≠ k.top → k'.ρ x = k.ρ x := fun x hx => by simp [k', hx]
  have hρt : k'.ρ k.top = none := by simp [k']
  have hst : Step k k' := by
    refine ⟨Nat.le_succ _, fun x hx => hρ x (by omega), rfl, rfl, rfl, rfl, Nat.le_refl _, fun b h1 h2 => ⟨rfl, ?_⟩, fun b cs t f h => ⟨cs, f, h, rfl⟩⟩
    rintro ⟨x, h3, h4⟩
    by_cases hx : x = k.top
    · subst hx; rw [hρt] at h4; cases h4
    · rw [hρ x hx] at h4; rw [hσ' x hx] at h3; exact h2 ⟨x, h3, h4⟩
  refine ⟨⟨fun x h => ?_, fun x y b h1 h2 h3 h4 => ?_, fun x b h1 h2 => ?_, hk.hb, fun x ob' h => ?_, hk.ground hst⟩, hst⟩
  · by_cases hx : x = k.top
    · subst hx; exact Nat.lt_succ_self _
    · rw [hσ' x hx] at h; exact Nat.lt_succ_of_lt (hk.dom x h)
  · by_cases hx : x = k.top
    · subst hx; rw [hρt] at h3; cases h3
    · by_cases hy : y = k.top
      · subst hy; rw [hρt] at h4; cases h4
      · rw [hρ x hx] at h3; rw [hρ y hy] at h4; rw [hσ' x hx] at h1; rw [hσ' y hy] at h2; exact hk.inj x y b h1 h2 h3 h4
  · by_cases hx : x = k.top
    · subst hx; rw [hρt] at h2; cases h2
    · rw [hρ x hx] at h2; rw [hσ' x hx] at h1; exact hk.bas x b h1 h2
  · by_cases hx : x = k.top
    · subst hx
      have h1 : k'.σ k.top = some (.row sz et []) := by simp [k', St.set]
      rw [h1] at h; cases h
      exact .inl ⟨hρt, rfl⟩
    · rw [hσ' x hx] at h
      have hd : k.σ x ≠ none := by rw [h]; simp
      exact (hk.obj x ob' h).step hst (hk.dom x hd) fun b _ => rfl
end
end
end Go.Proofs.YtledbkkaaomjpabDoor.Ab
