/- Abstract values over the model's memory, 5: slices: length, cuts, literals, make, append; bytes and strings. -/
import Derived.Test.YtledbkkaaomjpabDoorAb4
import Derived.Laws.BytesArg
import Derived.Lib.ConvBytes
import Derived.Laws.MakeOwn
set_option linter.unusedVariables false
set_option linter.unusedSimpArgs false
namespace Go.Proofs.YtledbkkaaomjpabDoor.Ab
open Go

section
variable {P : Program} {o : Oper} {E : Operand → Option AV} {σ : St} {R : Option AV → St → Prop}

theorem rep_sl_len {k : Cx} {nl : Option Bool} {full : Bool} {sz : Nat} {els : List (List AV)} {u : Value} (h : Rep k (.sl nl full sz els) u) : ∃ a c, u = .slice a els.length c ∧ els.length ≤ maxLen := by
  cases h with
  | slnil => exact ⟨none, 0, rfl, by simp [maxLen]⟩
  | sle => exact ⟨_, 0, rfl, by simp [maxLen]⟩
  | sl hn hc hm => exact ⟨_, _, rfl, hm⟩
theorem rep_osl_len {k : Cx} {id sz off len : Nat} {u : Value} (h : Rep k (.osl id sz off len) u) : ∃ a c, u = .slice a len c ∧ len ≤ maxLen := by
  cases h with
  | oslnil => exact ⟨none, 0, rfl, by simp [maxLen]⟩
  | osl ht hb ho hl hm => exact ⟨_, _, rfl, hm⟩
theorem run_len {t e : TypeId} (ht : P.underlying t = some (.slice e)) (a : Option Addr) (n c : Nat) (ty : TypeId) (w : World) : (Builtin.len_ #[t] ty #[.slice a n c]).run P w = .ok (.int .i64 n) w := by
  simp [Builtin.len_, run_underlying ht, goInt]
theorem opj_len_sl {t e : TypeId} {x : Operand} {nl : Option Bool} {full : Bool} {sz : Nat} {els : List (List AV)} {ts : Array TypeId} (ho : o.op = .call { callee := .builtin .len, args := #[x], argTypes := ts }) (ht0 : ts = #[t]) (ht : P.underlying t = some (.slice e)) (hx : E x = some (.sl nl full sz els)) (hR : els.length ≤ maxLen → R (some (.v (.int .i64 els.length))) σ) : OpJ P o E σ R := fun k e hσ hk hr => by
  subst ht0
  obtain ⟨a, c, hu, hm⟩ := rep_sl_len (hr x (by rw [ho]; simp [Op.operands, Call.operands]) _ hx)
  refine ⟨k, .value (.int .i64 els.length), some (.v (.int .i64 els.length)), ?_, hk, .refl k, hσ ▸ hR hm, _, rfl, .v rfl⟩
  unfold execOp
  simp [ho, hu, resolve, invoke, builtin, run_len ht]
theorem opj_len_osl {t e : TypeId} {x : Operand} {id sz off len : Nat} {ts : Array TypeId} (ho : o.op = .call { callee := .builtin .len, args := #[x], argTypes := ts }) (ht0 : ts = #[t]) (ht : P.underlying t = some (.slice e)) (hx : E x = some (.osl id sz off len)) (hR : len ≤ maxLen → R (some (.v (.int .i64 len))) σ) : OpJ P o E σ R := fun k e hσ hk hr => by
  subst ht0
  obtain ⟨a, c, hu, hm⟩ := rep_osl_len (hr x (by rw [ho]; simp [Op.operands, Call.operands]) _ hx)
  refine ⟨k, .value (.int .i64 len), some (.v (.int .i64 len)), ?_, hk, .refl k, hσ ▸ hR hm, _, rfl, .v rfl⟩
  unfold execOp
  simp [ho, hu, resolve, invoke, builtin, run_len ht]

/-! ### Cuts -/
theorem run_cut {t e : TypeId} {sz : Nat} (ht : P.underlying t = some (.slice e)) (hs : sizeIs P e = some sz) (a : Option Addr) (n c l h : Nat) (lo hi : Option Value) (w : World)
    (hb : (Instr.sliceBounds true n c lo hi none).run P w = .ok (l, h, c) w) : (Instr.sliceAt t (.slice a n c) lo hi none).run P w = .ok (.slice (if c = l then a else a.map (·.add (l * sz))) (h - l) (c - l)) w := by
  simp only [Instr.sliceAt, Sem.run_bind, run_underlying ht, Result.andThen_ok, Instr.slice, hb, run_sizeIs hs, Sem.run_pure]
theorem opj_cut_sl {t et : TypeId} {x : Operand} {lo hi : Option Operand} {nl : Option Bool} {full : Bool} {sz : Nat} {els : List (List AV)} {l h : Int} (ho : o.op = .slice t x lo hi none) (ht : P.underlying t = some (.slice et)) (hs : sizeIs P et = some sz) (hx : E x = some (.sl nl full sz els)) (hlo : bound E 0 lo = some l) (hhi : bound E els.length hi = some h)
    (h0 : 0 ≤ l) (h1 : l ≤ h) (h2 : h ≤ els.length) (hR : R (some (.sl nl false sz ((els.take h.toNat).drop l.toNat))) σ) : OpJ P o E σ R :=
  opj_quiet _ (fun k e hσ hk hr => by
    have hrx := hr x (by rw [ho]; simp [Op.operands]) _ hx
    have hbl := bound_lo hr hlo (fun y hy => by rw [ho]; subst hy; simp [Op.operands]) h0
    have hbh := bound_lo hr hhi (fun y hy => by rw [ho]; subst hy; simp [Op.operands]) (by omega)
    generalize hu : e x = u at hrx
    cases hrx with
    | slnil hn =>
      have hl0 : l = 0 := by simp at h2; omega
      have hh0 : h = 0 := by simp at h2; omega
      subst hl0; subst hh0
      have hb := run_bounds (P := P) k.w true 0 (lo.map e) (hi.map e) 0 0 hbl hbh 0 (by omega) (by omega) (by omega)
      refine ⟨.slice none 0 0, ?_, by simpa using Rep.slnil (k := k) (nl := nl) (full := false) (sz := sz) hn⟩
      unfold execOp
      simp only [ho, hu, Option.map_none, Sem.run_bind, run_cut ht hs none 0 0 0 0 _ _ k.w hb, Result.andThen_ok, Sem.run_pure]
      simp
    | @sle _ _ _ ad hn =>
      have hl0 : l = 0 := by simp at h2; omega
      have hh0 : h = 0 := by simp at h2; omega
      subst hl0; subst hh0
      have hb := run_bounds (P := P) k.w true 0 (lo.map e) (hi.map e) 0 0 hbl hbh 0 (by omega) (by omega) (by omega)
      refine ⟨.slice (some ad) 0 0, ?_, by simpa using Rep.sle (k := k) (nl := nl) (full := false) (sz := sz) (a := ad) hn⟩
      unfold execOp
      simp only [ho, hu, Option.map_none, Sem.run_bind, run_cut ht hs (some ad) 0 0 0 0 _ _ k.w hb, Result.andThen_ok, Sem.run_pure]
      simp
    | @sl _ _ _ _ b p cap f hn hc hm hf hsz hfr hw hcc =>
      have hb := run_bounds (P := P) k.w true els.length (lo.map e) (hi.map e) l.toNat h.toNat hbl hbh cap (by omega) (by omega) (by omega)
      have hlen : ((els.take h.toNat).drop l.toNat).length = h.toNat - l.toNat := by simp; omega
      have hget : ∀ (i : Nat) el, ((els.take h.toNat).drop l.toNat)[i]? = some el → els[l.toNat + i]? = some el := fun i el hi => by
        rw [List.getElem?_drop, List.getElem?_take] at hi
        split at hi
        · exact hi
        · cases hi
      refine ⟨.slice (some ⟨b, if cap = l.toNat then p else p + l.toNat * sz, none⟩) ((els.take h.toNat).drop l.toNat).length (cap - l.toNat), ?_, ?_⟩
      · unfold execOp
        simp only [ho, hu, Option.map_none, Sem.run_bind, run_cut ht hs (some ⟨b, p, none⟩) els.length cap l.toNat h.toNat _ _ k.w hb, Result.andThen_ok, Sem.run_pure, hlen]
        split <;> simp [Addr.add_mid]
      · have hpos : ∀ (i : Nat) el, ((els.take h.toNat).drop l.toNat)[i]? = some el → cap ≠ l.toNat := fun i el hi => by
          have h3 := (List.getElem?_eq_some_iff.1 (hget i el hi)).1
          omega
        refine .sl (f := fun i j => f (l.toNat + i) j) hn (by rw [hlen]; omega) (by rw [hlen]; omega) (by simp) (fun i el hi => hsz _ el (hget i el hi)) (fun hne => hfr (fun h' => hne (by simp [h']))) (fun i j el a hi hj => ?_) (fun i j el a hi hj => hcc _ j el a (hget i el hi) hj)
        rw [if_neg (hpos i el hi)]
        have := hw _ j el a (hget i el hi) hj
        have e1 : p + ((l.toNat + i) * sz + j) = p + l.toNat * sz + (i * sz + j) := by rw [Nat.add_mul]; omega
        rw [e1] at this
        exact this) hR
theorem opj_cut_osl {t et : TypeId} {x : Operand} {lo hi : Option Operand} {id sz off len : Nat} {l h : Int} (ho : o.op = .slice t x lo hi none) (ht : P.underlying t = some (.slice et)) (hs : sizeIs P et = some sz) (hx : E x = some (.osl id sz off len)) (hlo : bound E 0 lo = some l) (hhi : bound E len hi = some h)
    (h0 : 0 ≤ l) (h1 : l ≤ h) (h2 : h ≤ len) (hR : R (some (.osl id sz (off + l.toNat) (h.toNat - l.toNat))) σ) : OpJ P o E σ R :=
  opj_quiet _ (fun k e hσ hk hr => by
    have hrx := hr x (by rw [ho]; simp [Op.operands]) _ hx
    have hbl := bound_lo hr hlo (fun y hy => by rw [ho]; subst hy; simp [Op.operands]) h0
    have hbh := bound_lo hr hhi (fun y hy => by rw [ho]; subst hy; simp [Op.operands]) (by omega)
    generalize hu : e x = u at hrx
    cases hrx with
    | oslnil hid hb' =>
      have hl0 : l = 0 := by omega
      have hh0 : h = 0 := by omega
      subst hl0; subst hh0
      have hb := run_bounds (P := P) k.w true 0 (lo.map e) (hi.map e) 0 0 hbl hbh 0 (by omega) (by omega) (by omega)
      refine ⟨.slice none 0 0, ?_, by simpa using Rep.oslnil (k := k) (sz := sz) hid hb'⟩
      unfold execOp
      simp only [ho, hu, Option.map_none, Sem.run_bind, run_cut ht hs none 0 0 0 0 _ _ k.w hb, Result.andThen_ok, Sem.run_pure]
      simp
    | @osl _ _ _ _ b cap p hid hb' hp hl hm hsz =>
      have hb := run_bounds (P := P) k.w true len (lo.map e) (hi.map e) l.toNat h.toNat hbl hbh cap (by omega) (by omega) (by omega)
      refine ⟨.slice (some ⟨b, if cap = l.toNat then p else p + l.toNat * sz, none⟩) (h.toNat - l.toNat) (cap - l.toNat), ?_, ?_⟩
      · unfold execOp
        simp only [ho, hu, Option.map_none, Sem.run_bind, run_cut ht hs (some ⟨b, p, none⟩) len cap l.toNat h.toNat _ _ k.w hb, Result.andThen_ok, Sem.run_pure]
        split <;> simp [Addr.add_mid]
      · obtain ⟨cs, t', f, hh, hfit⟩ := hsz
        refine .osl hid hb' (fun hc => ?_) (by omega) (by omega) ⟨cs, t', f, hh, ?_⟩
        · rw [if_neg (by omega), hp (by omega), Nat.add_mul]
        · have e1 : off + l.toNat + (cap - l.toNat) = off + cap := by omega
          rw [e1]; exact hfit) hR
/-- 'x[:0:0]': nothing, and no room behind it. -/
theorem opj_cut_empty {t et : TypeId} {x : Operand} {kh km : IntKind} {nl : Option Bool} {full : Bool} {sz : Nat} {els : List (List AV)} {y z : Operand} (ho : o.op = .slice t x none (some y) (some z)) (ht : P.underlying t = some (.slice et)) (hs : sizeIs P et = some sz) (hx : E x = some (.sl nl full sz els)) (hy : E y = some (.v (.int kh 0))) (hz : E z = some (.v (.int km 0)))
    (hR : R (some (.sl nl true sz [])) σ) : OpJ P o E σ R :=
  opj_quiet _ (fun k e hσ hk hr => by
    have hrx := hr x (by rw [ho]; simp [Op.operands]) _ hx
    have h1 := rep_v (hr y (by rw [ho]; simp [Op.operands]) _ hy)
    have h2 := rep_v (hr z (by rw [ho]; simp [Op.operands]) _ hz)
    have hrun : ∀ (a : Option Addr) (n c : Nat), (Instr.sliceAt t (.slice a n c) none (some (.int kh 0)) (some (.int km 0))).run P k.w = .ok (.slice a 0 0) k.w := fun a n c => by
      simp [Instr.sliceAt, run_underlying ht, Instr.slice, Instr.sliceBounds, Instr.sliceBound, asIntOf, run_sizeIs hs]
    generalize hu : e x = u at hrx
    cases hrx with
    | slnil hn =>
      refine ⟨.slice none 0 0, ?_, .slnil hn⟩
      unfold execOp
      simp only [ho, hu, Option.map_none, Option.map_some, h1, h2, Sem.run_bind, hrun, Result.andThen_ok, Sem.run_pure]
    | @sle _ _ _ ad hn =>
      refine ⟨.slice (some ad) 0 0, ?_, .sle hn⟩
      unfold execOp
      simp only [ho, hu, Option.map_none, Option.map_some, h1, h2, Sem.run_bind, hrun, Result.andThen_ok, Sem.run_pure]
    | @sl _ _ _ _ b p cap f hn hc hm hf hsz hfr hw hcc =>
      refine ⟨.slice (some ⟨b, p, none⟩) 0 0, ?_, .sl (els := []) (f := f) hn (by simp) (by simp [maxLen]) (by simp) (fun i e h => by simp at h) (fun h => absurd rfl h) (fun i j e a h => by simp at h) (fun i j e a h => by simp at h)⟩
      unfold execOp
      simp only [ho, hu, Option.map_none, Option.map_some, h1, h2, Sem.run_bind, hrun, Result.andThen_ok, Sem.run_pure]) hR

/-! ### Literals of structs and slices -/
def afill (place : Nat → Option (Nat × Nat)) (cells : List AV) : List (Nat × AV) → Option (List AV)
  | [] => some cells
  | (i, a) :: r => match place i, cellsOf a with
    | some (off, size), some as => if as.length = size ∧ off + size ≤ cells.length then afill place (cells.take off ++ as ++ cells.drop (off + size)) r else none
    | _, _ => none
theorem foldl_set (vs : List Value) : ∀ (off s : Nat) (cs : Array Value), (vs.zipIdx s).foldl (fun (cs : Array Value) (c, j) => cs.setIfInBounds (off + j) c) cs = (vs.zipIdx 0).foldl (fun (cs : Array Value) (c, j) => cs.setIfInBounds (off + s + j) c) cs := by
  induction vs with
  | nil => intro off s cs; rfl
  | cons v vs ih =>
    intro off s cs
    simp only [List.zipIdx_cons, List.foldl_cons, Nat.add_zero, Nat.zero_add]
    rw [ih off (s + 1), ih (off + s) 1]
    simp only [Nat.add_assoc]
theorem foldl_toList (vs : List Value) : ∀ (off : Nat) (cs : Array Value), off + vs.length ≤ cs.size → ((vs.zipIdx 0).foldl (fun (cs : Array Value) (c, j) => cs.setIfInBounds (off + j) c) cs).toList = cs.toList.take off ++ vs ++ cs.toList.drop (off + vs.length) := by
  induction vs with
  | nil => intro off cs h; simp
  | cons v vs ih =>
    intro off cs h
    simp only [List.zipIdx_cons, List.foldl_cons, Nat.add_zero, Nat.zero_add]
    rw [foldl_set vs off 1, ih (off + 1) _ (by simp at h ⊢; omega)]
    simp only [Array.toList_setIfInBounds, List.length_cons]
    have := list_seg_step cs.toList off v vs (by simp at h ⊢; omega)
    simpa [Nat.add_assoc, Nat.add_comm 1] using this
theorem CellsRep.splice {k : Cx} {cells as : List AV} {vs us : List Value} (h : CellsRep k cells vs) (h' : CellsRep k as us) {off : Nat} (hl : off + as.length ≤ cells.length) : CellsRep k (cells.take off ++ as ++ cells.drop (off + as.length)) (vs.take off ++ us ++ vs.drop (off + us.length)) := by
  have h1 := h.1
  have h2 := h'.1
  refine ⟨by simp; omega, fun j a u ha hu => ?_⟩
  rw [List.append_assoc, List.getElem?_append] at ha hu
  simp only [List.length_take] at ha hu
  have e1 : min off cells.length = off := by omega
  have e2 : min off vs.length = off := by omega
  rw [e1] at ha
  rw [e2] at hu
  by_cases hj : j < off
  · rw [if_pos hj, List.getElem?_take, if_pos hj] at ha hu
    exact h.2 j a u ha hu
  · rw [if_neg hj, List.getElem?_append] at ha hu
    rw [h2] at hu
    by_cases hj2 : j - off < as.length
    · rw [if_pos hj2] at ha hu
      exact h'.2 _ a u ha hu
    · rw [if_neg hj2, List.getElem?_drop] at ha hu
      exact h.2 _ a u ha hu
theorem fill_rep {k : Cx} (place : Nat → Option (Nat × Nat)) : ∀ (parts : List (Nat × AV)) (us : List (Nat × Value)) (cells out : List AV) (vs : Array Value), us.length = parts.length → (∀ (j : Nat) p q, parts[j]? = some p → us[j]? = some q → p.1 = q.1 ∧ Rep k p.2 q.2) → CellsRep k cells vs.toList → afill place cells parts = some out → ∃ vs', Instr.fill place vs us = some vs' ∧ CellsRep k out vs'.toList
  | [], [], cells, out, vs, _, _, hc, h => by cases h; exact ⟨vs, rfl, hc⟩
  | (i, a) :: parts, (i', u) :: us, cells, out, vs, hl, hp, hc, h => by
    obtain ⟨h1, h2⟩ := hp 0 _ _ rfl rfl
    simp only at h1 h2
    subst h1
    unfold afill at h
    split at h
    · rename_i off size as hpl has
      split at h
      · rename_i hsz
        obtain ⟨hs1, hs2⟩ := hsz
        subst hs1
        have hcu := rep_cells h2 has
        have hz : u.cells.size = as.length := by simpa using hcu.1
        have hlen : off + u.cells.size ≤ vs.size := by have := hc.1; simp at this; omega
        obtain ⟨vs', h3, h4⟩ := fill_rep place parts us _ out (u.cells.zipIdx.foldl (fun cs (c, j) => cs.setIfInBounds (off + j) c) vs) (by simpa using hl) (fun j p q hj hq => hp (j + 1) p q (by simpa using hj) (by simpa using hq)) (by
          have e1 : (u.cells.zipIdx.foldl (fun (cs : Array Value) (c, j) => cs.setIfInBounds (off + j) c) vs).toList = vs.toList.take off ++ u.cells.toList ++ vs.toList.drop (off + u.cells.toList.length) := by
            rw [← foldl_toList u.cells.toList off vs (by simpa using hlen), ← Array.foldl_toList, Array.toList_zipIdx]
          rw [e1]
          exact hc.splice hcu hs2) h
        refine ⟨vs', ?_, h4⟩
        unfold Instr.fill
        simp only [hpl]
        rw [if_neg (by simp; omega)]
        exact h3
      · cases h
    · cases h
  | [], _ :: _, _, _, _, hl, _, _, _ => by simp at hl
  | _ :: _, [], _, _, _, hl, _, _, _ => by simp at hl
/-- The parts of a literal, evaluated. -/
def evParts (E : Operand → Option AV) : List (Nat × Operand) → Option (List (Nat × AV))
  | [] => some []
  | (i, x) :: r => match E x, evParts E r with
    | some a, some as => some ((i, a) :: as)
    | _, _ => none
theorem evParts_ok {k : Cx} {e : Operand → Value} {l : Array Operand} (hr : RepsOn k E e l) : ∀ (ps : List (Nat × Operand)) (qs : List (Nat × AV)), (∀ p ∈ ps, p.2 ∈ l) → evParts E ps = some qs →
    (ps.map fun (i, x) => (i, e x)).length = qs.length ∧ ∀ (j : Nat) p q, qs[j]? = some p → (ps.map fun (i, x) => (i, e x))[j]? = some q → p.1 = q.1 ∧ Rep k p.2 q.2
  | [], qs, _, h => by cases h; exact ⟨rfl, fun j p q h _ => by simp at h⟩
  | (i, x) :: ps, qs, hm, h => by
    unfold evParts at h
    split at h
    · rename_i a as h1 h2
      cases h
      obtain ⟨h3, h4⟩ := evParts_ok hr ps as (fun p hp => hm p (by simp [hp])) h2
      refine ⟨by simp at h3 ⊢; exact h3, fun j p q hj hq => ?_⟩
      cases j with
      | zero => simp at hj hq; subst hj; subst hq; exact ⟨rfl, hr x (hm (i, x) (by simp)) a h1⟩
      | succ j => exact h4 j p q (by simpa using hj) (by simpa using hq)
    · cases h
def placesOf (P : Program) (t : TypeId) : Option (List (Nat × Nat)) :=
  match P.underlying t with
  | some (.struct fs) => fs.toList.mapM fun f => (sizeIs P f.type).map fun m => (f.offset, m)
  | _ => none
theorem run_places {fs : List Field} : ∀ {pl : List (Nat × Nat)}, (fs.mapM fun f => (sizeIs P f.type).map fun m => (f.offset, m)) = some pl → ∀ w, (fs.mapM (m := Sem) fun f => do pure (f.offset, ← sizeOf f.type)).run P w = .ok pl w := by
  induction fs with
  | nil => intro pl h w; simp at h; subst h; rfl
  | cons f fs ih =>
    intro pl h w
    simp only [List.mapM_cons, Option.bind_eq_bind, Option.bind_eq_some_iff, Option.pure_def, Option.some.injEq] at h
    obtain ⟨p, hp, pl', hpl, rfl⟩ := h
    obtain ⟨m, hm, rfl⟩ := Option.map_eq_some_iff.1 hp
    simp only [List.mapM_cons, Sem.run_bind, run_sizeIs hm, Result.andThen_ok, Sem.run_pure, ih hpl w]
theorem opj_build {t : TypeId} {parts : Array (Nat × Operand)} {pl : List (Nat × Nat)} {zs out : List AV} {qs : List (Nat × AV)} (ho : o.op = .build t parts) (hp : placesOf P t = some pl) (hz : zeroIs P t = some zs) (hq : evParts E parts.toList = some qs) (hf : afill (fun i : Nat => pl[i]?) zs qs = some out) (hR : R (some (.agg out)) σ) : OpJ P o E σ R :=
  opj_quiet _ (fun k e hσ hk hr => by
    obtain ⟨z, h1, h2⟩ := run_zeroIs hz k
    obtain ⟨h3, h4⟩ := evParts_ok hr parts.toList qs (fun p hp => by rw [ho]; simp only [Op.operands, List.mem_toArray, List.mem_map]; exact ⟨p, hp, rfl⟩) hq
    obtain ⟨vs', h5, h6⟩ := fill_rep (k := k) (fun i : Nat => pl[i]?) qs (parts.toList.map fun (i, x) => (i, e x)) zs out z.cells h3 h4 h2 hf
    refine ⟨.agg vs', ?_, .agg (by simpa using h6.1) (fun j u hu => ?_) (fun j a u ha hu => (h6.2 j a u ha (by simpa [← Array.getElem?_toList] using hu)).2)⟩
    · unfold placesOf at hp
      split at hp
      · rename_i fs hu
        have hpl := run_places (P := P) hp k.w
        unfold execOp
        simp only [ho, Instr.build, Sem.run_bind, h1, Result.andThen_ok, run_underlying hu]
        have e1 : (fs.mapM (m := Sem) fun f => do pure (f.offset, ← sizeOf f.type)).run P k.w = .ok pl.toArray k.w := by
          have e2 : fs = fs.toList.toArray := by simp
          rw [e2, List.mapM_toArray]
          simp only [Sem.run_map, hpl, Result.andThen_ok]
        simp only [e1, Result.andThen_ok, Array.toList_map]
        have e3 : (fun i : Nat => pl.toArray[i]?) = (fun i : Nat => pl[i]?) := by funext i; simp
        rw [e3, h5]
        rfl
      · cases hp
    · have hj : j < out.length := by rw [← h6.1]; have := (Array.getElem?_eq_some_iff.1 hu).1; simpa using this
      exact (h6.2 j _ u (List.getElem?_eq_getElem hj) (by simpa [← Array.getElem?_toList] using hu)).1) hR
def chunk (sz : Nat) : Nat → List AV → List (List AV)
  | 0, _ => []
  | n + 1, cs => cs.take sz :: chunk sz n (cs.drop sz)
theorem length_chunk (sz n : Nat) (cs : List AV) : (chunk sz n cs).length = n := by
  induction n generalizing cs with
  | zero => rfl
  | succ n ih => simp [chunk, ih]
theorem get_chunk (sz : Nat) : ∀ (n : Nat) (cs : List AV) (i : Nat), i < n → (chunk sz n cs)[i]? = some ((cs.drop (i * sz)).take sz)
  | n + 1, cs, 0, _ => by simp [chunk]
  | n + 1, cs, i + 1, h => by
    simp only [chunk, List.getElem?_cons_succ]
    rw [get_chunk sz n _ i (by omega), List.drop_drop, Nat.add_mul, Nat.one_mul, Nat.add_comm]
theorem RowRep.chunk {k : Cx} {sz n : Nat} {cs : List AV} {vs : List Value} (h : CellsRep k cs vs) (hl : cs.length = n * sz) : RowRep k sz (chunk sz n cs) vs := by
  refine ⟨fun i e he => ?_, by rw [length_chunk, h.1, hl]; exact Nat.le_refl _, fun i j e a he ha => ?_⟩
  · have hi : i < n := by have := (List.getElem?_eq_some_iff.1 he).1; rwa [length_chunk] at this
    rw [get_chunk sz n cs i hi] at he
    cases he
    have h1 : (i + 1) * sz ≤ n * sz := Nat.mul_le_mul_right _ hi
    rw [Nat.add_mul, Nat.one_mul] at h1
    rw [List.length_take, List.length_drop]
    omega
  · have hi : i < n := by have := (List.getElem?_eq_some_iff.1 he).1; rwa [length_chunk] at this
    rw [get_chunk sz n cs i hi] at he
    cases he
    rw [List.getElem?_take] at ha
    split at ha
    · rw [List.getElem?_drop] at ha
      have hlt : i * sz + j < vs.length := by rw [h.1]; exact (List.getElem?_eq_some_iff.1 ha).1
      have hv : vs[i * sz + j]? = some vs[i * sz + j] := by simp [hlt]
      exact ⟨_, hv, h.2 _ a _ ha hv⟩
    · cases ha
theorem zero_row {k : Cx} {zs : List AV} {z : Array Value} (h : CellsRep k zs z.toList) (n : Nat) : CellsRep k ((List.replicate n zs).flatten) ((Array.range (n * z.size)).map (z[· % z.size]!)).toList := by
  have hz : z.size = zs.length := by simpa using h.1
  have hflat : ∀ (n q : Nat), q < n * zs.length → ((List.replicate n zs).flatten)[q]? = zs[q % zs.length]? := by
    intro n
    induction n with
    | zero => intro q hq; simp at hq
    | succ n ih =>
      intro q hq
      rw [List.replicate_succ, List.flatten_cons, List.getElem?_append]
      split
      · rename_i h1; rw [Nat.mod_eq_of_lt h1]
      · rename_i h1
        rw [ih _ (by rw [Nat.add_mul, Nat.one_mul] at hq; omega)]
        exact congrArg (zs[·]?) (Nat.mod_eq_sub_mod (by omega)).symm
  refine ⟨by simp [hz], fun j a u ha hu => ?_⟩
  have hj : j < n * z.size := by
    have := (List.getElem?_eq_some_iff.1 hu).1
    simpa using this
  have hpos : 0 < z.size := by
    rcases Nat.eq_zero_or_pos z.size with h0 | h0
    · rw [h0] at hj; simp at hj
    · exact h0
  have hm : j % z.size < z.size := Nat.mod_lt _ hpos
  have hu' : u = z[j % z.size] := by
    simp only [Array.toList_map, Array.toList_range, List.getElem?_map, List.getElem?_range hj, Option.map_some, Option.some.injEq] at hu
    rw [← hu, getElem!_pos z _ hm]
  rw [hflat n j (by rw [← hz]; exact hj), ← hz] at ha
  exact h.2 _ a u ha (by rw [hu']; simp [hm])
/-- A slice in a block of its own, that nobody writes. -/
theorem rep_new_sl {k : Cx} (hk : Ok k) {elem : TypeId} {sz : Nat} {els : List (List AV)} {vs : List Value} (hr : RowRep k sz els vs) (hm : els.length ≤ maxLen) (cap : Nat) (hc : els.length ≤ cap) (full : Bool) (hf : full = true → cap = els.length) :
    Rep { k with w := k.w.alloc (.cells vs.toArray elem) } (.sl (some false) full sz els) (.slice (some ⟨k.w.heap.size, 0, none⟩) els.length cap) := by
  obtain ⟨hok, hst⟩ := hk.alloc (.cells vs.toArray elem)
  refine .sl (f := fun i j => (vs[i * sz + j]?).getD undef) (by simp) hc hm hf hr.1 (fun _ => hk.new_frz _) (fun i j e a he ha => ?_) (fun i j e a he ha => ?_)
  · obtain ⟨u, h1, h2, h3⟩ := hr.2.2 i j e a he ha
    simp only [h1, Option.getD_some, Nat.zero_add]
    refine ⟨?_, h2⟩
    rw [cell_of_row _ _ _ vs.toArray elem (0, 0) (heap_alloc_new _ _)]
    simpa using h1
  · obtain ⟨u, h1, h2, h3⟩ := hr.2.2 i j e a he ha
    simp only [h1, Option.getD_some]
    exact h3.step hst
theorem run_buildSlice {k : Cx} {t et : TypeId} {n sz : Nat} {parts : List (Nat × Value)} {zs out : List AV} {qs : List (Nat × AV)} (ht : P.underlying t = some (.slice et)) (hs : sizeIs P et = some sz) (hz : zeroIs P et = some zs) (hzl : zs.length = sz) (hn : n * sz ≤ 16777216)
    (hl : parts.length = qs.length) (hp : ∀ (j : Nat) p q, qs[j]? = some p → parts[j]? = some q → p.1 = q.1 ∧ Rep k p.2 q.2) (hf : afill (fun i => some (i * sz, sz)) ((List.replicate n zs).flatten) qs = some out) (hol : out.length = n * sz) (w : World) :
    ∃ vs : List Value, (Instr.buildSlice t n parts.toArray).run P w = .ok (.slice (some ⟨w.heap.size, 0, none⟩) n n) (w.alloc (.cells vs.toArray et)) ∧ vs.length = n * sz ∧ RowRep k sz (Ab.chunk sz n out) vs := by
  obtain ⟨z, h1, h2⟩ := run_zeroIs hz k
  have hzs : z.cells.size = sz := by have := h2.1; simp at this; omega
  have h0 := zero_row h2 n
  obtain ⟨vs', h5, h6⟩ := fill_rep (k := k) (fun i => some (i * sz, sz)) qs parts _ out _ hl hp h0 hf
  refine ⟨vs'.toList, ?_, by rw [h6.1, hol], RowRep.chunk h6 hol⟩
  rw [hzs] at h5
  unfold Instr.buildSlice
  simp only [Sem.run_bind, run_underlying ht, Result.andThen_ok, run_sizeIs hs]
  rw [if_neg (by omega)]
  by_cases hzero : n * sz = 0
  · simp only [hzero, if_true, Sem.run_bind, Sem.run_pure, Result.andThen_ok]
    have e1 : (Array.range 0).map (fun i => (#[] : Array Value)[i % (#[] : Array Value).size]!) = (Array.range (n * sz)).map (fun i => z.cells[i % sz]!) := by rw [hzero]; simp
    rw [e1, List.toList_toArray, h5]
    simp [newRow]
  · simp only [hzero, if_false, Sem.run_bind, h1, Sem.run_pure, Result.andThen_ok, hzs]
    rw [List.toList_toArray, h5]
    simp [newRow]
theorem opj_lit {t et : TypeId} {n sz : Nat} {parts : Array (Nat × Operand)} {zs out : List AV} {qs : List (Nat × AV)} (ho : o.op = .buildSlice t n parts) (ht : P.underlying t = some (.slice et)) (hs : sizeIs P et = some sz) (hz : zeroIs P et = some zs) (hzl : zs.length = sz) (hpos : 0 < sz) (hn : n * sz ≤ 16777216)
    (hq : evParts E parts.toList = some qs) (hf : afill (fun i => some (i * sz, sz)) ((List.replicate n zs).flatten) qs = some out) (hol : out.length = n * sz) (hR : R (some (.sl (some false) true sz (chunk sz n out))) σ) : OpJ P o E σ R := fun k e hσ hk hr => by
  obtain ⟨h3, h4⟩ := evParts_ok hr parts.toList qs (fun p hp => by rw [ho]; simp only [Op.operands, List.mem_toArray, List.mem_map]; exact ⟨p, hp, rfl⟩) hq
  obtain ⟨vs, h5, h6, h7⟩ := run_buildSlice (P := P) (k := k) ht hs hz hzl hn h3 h4 hf hol k.w
  obtain ⟨hok, hst⟩ := hk.alloc (.cells vs.toArray et)
  have hnm : (chunk sz n out).length ≤ maxLen := by
    rw [length_chunk]
    have : n * 1 ≤ n * sz := Nat.mul_le_mul_left _ hpos
    simp only [maxLen]; omega
  have hrep := rep_new_sl hk (elem := et) h7 hnm n (by rw [length_chunk]; exact Nat.le_refl _) true (fun _ => (length_chunk ..).symm)
  rw [length_chunk] at hrep
  refine ⟨_, .value _, some _, ?_, hok, hst, hσ ▸ hR, _, rfl, hrep⟩
  unfold execOp
  have e1 : (parts.map fun (i, x) => (i, e x)) = (parts.toList.map fun (i, x) => (i, e x)).toArray := by rw [← Array.toList_map, Array.toArray_toList]
  simp only [ho, e1, Sem.run_bind, h5, Result.andThen_ok, Sem.run_pure]
end
end Go.Proofs.YtledbkkaaomjpabDoor.Ab
