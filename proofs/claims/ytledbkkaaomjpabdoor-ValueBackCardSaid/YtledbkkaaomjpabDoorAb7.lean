/- Abstract values over the model's memory, 7: make, bytes and strings, walks over strings, equality of structs; what one may do to a state without the machine. -/
import Derived.Test.YtledbkkaaomjpabDoorAb6
set_option linter.unusedVariables false
set_option linter.unusedSimpArgs false
namespace Go.Proofs.YtledbkkaaomjpabDoor.Ab
open Go

section
variable {P : Program} {o : Oper} {E : Operand → Option AV} {σ : St} {R : Option AV → St → Prop}
/-! ### make -/
theorem opj_make {t et : TypeId} {sz by_ : Nat} {zs : List AV} {x y : Operand} {kl kc : IntKind} {l c : Int} (ho : o.op = .makeSlice t x y) (he : Elem P t et sz) (hby : bytesIs P et = some by_) (hz : zeroIs P et = some zs) (hx : E x = some (.v (.int kl l))) (hy : E y = some (.v (.int kc c))) (h0 : 0 ≤ l) (hlc : l ≤ c) (hb : (by_ : Int) * c ≤ 281474976710656) (hb1 : 0 < by_)
    (hR : ∀ id, σ id = none → R (some (.osl id sz 0 l.toNat)) (σ.set id (.row sz et (List.replicate l.toNat zs)))) : OpJ P o E σ R := fun k e hσ hk hr => by
  subst hσ
  have h1 := rep_v (hr x (by rw [ho]; simp [Op.operands]) _ hx)
  have h2 := rep_v (hr y (by rw [ho]; simp [Op.operands]) _ hy)
  obtain ⟨i, z, hi, hzz, hsz, hzs⟩ := he.info
  have hbi : i.bytes = by_ := by unfold bytesIs at hby; simpa [hi] using hby
  have hc48 : c ≤ 281474976710656 := by
    have h3 : 1 * c ≤ (by_ : Int) * c := Int.mul_le_mul_of_nonneg_right (by omega) (by omega)
    omega
  have hrun := run_make (P := P) k.w t et i z he.ht hi hzz kl kc l c h0 hlc (by rw [hbi]; exact hb) (by omega)
  obtain ⟨z', hz1, hz2⟩ := run_zeroIs hz k
  have hzz' : z' = z := by
    have := hz1 k.w
    simp [zeroValue, typeInfo, hi, hzz] at this
    exact this.symm
  subst hzz'
  have hzl : zs.length = sz := by have := hz2.1; simp at this; omega
  have hrow : RowRep k sz (List.replicate l.toNat zs) (madeCells z'.cells (c.toNat * i.size)).toList := by
    have hall := zero_row hz2 c.toNat
    rw [hzs, ← hsz] at hall
    have hr2 := RowRep.chunk (n := c.toNat) (sz := sz) hall (by simp [hzl])
    have hch : ∀ n : Nat, chunk sz n (List.replicate n zs).flatten = List.replicate n zs := by
      intro n
      induction n with
      | zero => rfl
      | succ n ih =>
        rw [List.replicate_succ, List.flatten_cons]
        simp only [chunk]
        rw [← hzl, List.take_left', List.drop_left', hzl, ih] <;> rfl
    rw [hch] at hr2
    have hr3 := hr2.take l.toNat (by simp; omega)
    have e1 : (List.replicate c.toNat zs).take l.toNat = List.replicate l.toNat zs := by rw [List.take_replicate]; congr 1; omega
    rw [e1] at hr3
    refine ⟨hr3.1, ?_, fun a b e' av h1 h2 => ?_⟩
    · have := hr2.2.1
      simp only [List.length_replicate] at this ⊢
      have h5 : l.toNat * sz ≤ c.toNat * sz := Nat.mul_le_mul_right _ (by omega)
      have h6 : (madeCells z'.cells (c.toNat * i.size)).toList.length = c.toNat * i.size := by simp [size_madeCells]
      rw [h6, hsz]
      exact h5
    · obtain ⟨u, h3, h4⟩ := hr3.2.2 a b e' av h1 h2
      refine ⟨u, ?_, h4⟩
      rw [List.getElem?_take] at h3
      split at h3
      · have e2 : (madeCells z'.cells (c.toNat * i.size)) = (Array.range (c.toNat * i.size)).map (z'.cells[· % i.size]!) := by unfold madeCells; rw [hzs, ← hsz]
        rw [e2]
        exact h3
      · cases h3
  have hst := hk.add_step (.cells (madeCells z'.cells (c.toNat * i.size)) et) (.row sz et (List.replicate l.toNat zs))
  have hok := hk.add (.cells (madeCells z'.cells (c.toNat * i.size)) et) (.row sz et (List.replicate l.toNat zs)) (RowRep.obj (b := k.w.heap.size) (by simp [Cx.add]) (heap_alloc_new _ _) (hrow.step hst))
  refine ⟨_, .value (.slice (some ⟨k.w.heap.size, 0, none⟩) l.toNat c.toNat), some _, ?_, hok, hst, hR k.top hk.fresh, _, rfl, ?_⟩
  · unfold execOp
    simp only [ho, h1, h2, Sem.run_bind, hrun, Result.andThen_ok, Sem.run_pure]
    rfl
  · refine .osl (by simp [Cx.add]) (by simp [Cx.add]) (fun _ => by simp) (by omega) (by simp only [maxLen]; omega) ⟨_, et, (0, 0), heap_alloc_new _ _, ?_⟩
    rw [size_madeCells, hsz]
    simp

/-! ### Bytes and strings -/
theorem bys_get (l : List UInt8) (i : Nat) (h : i < l.length) : (bys l)[i]? = some [.v (.int .u8 l[i].toNat)] := by simp [bys, h]
theorem run_convert_bytes_at (w : World) (src e : TypeId) (hs : P.underlying src = some (.slice e)) (he : P.underlying e = some (.int .u8)) (ad : Addr) (len cap : Nat) (xs : List Int) (hlen : xs.length = len)
    (hcell : ∀ i, i < len → w.cell? (ad.add i) = some (.int .u8 (xs.getD i 0))) (dst : TypeId) (hd : P.underlying dst = some .string) : (convert src dst (.slice (some ad) len cap)).run P w = .ok (.string (strOfNums xs)) w := by
  have hl : (loadCells ad len).run P w = .ok (xs.map (Value.int .u8)).toArray w := by
    have := run_loadCells_list (P := P) w ad (xs.map (Value.int .u8)) (fun j v hj => by
      have hjl : j < xs.length := by
        rcases Nat.lt_or_ge j xs.length with h | h
        · exact h
        · simp [List.getElem?_eq_none (show (xs.map (Value.int .u8)).length ≤ j by simpa using h)] at hj
      rw [hcell j (by omega)]
      simp [List.getElem?_eq_getElem hjl] at hj
      subst hj
      simp [List.getD, List.getElem?_eq_getElem hjl])
    simpa [hlen] using this
  rw [run_convert_bytes_string w src dst e _ len cap hs he hd, run_bytesToString w _ len cap xs hl, foldl_push_bytes]
  simp [strOfNums]
theorem opj_conv_bytes {s d et : TypeId} {x : Operand} {av : AV} {l : List UInt8} (ho : o.op = .convert s d x) (hs : P.underlying s = some (.slice et)) (he : P.underlying et = some (.int .u8)) (hd : P.underlying d = some .string) (hx : E x = some av) (hsrc : srcOf σ av = some (1, bys l)) (hR : R (some (.v (.string ⟨l.toArray⟩))) σ) : OpJ P o E σ R :=
  opj_quiet _ (fun k e hσ hk hr => ⟨.string ⟨l.toArray⟩, by
    subst hσ
    have hxr := hr x (by rw [ho]; simp [Op.operands]) _ hx
    obtain ⟨vals, h1, h2, h3, h4⟩ := src_rep hk hxr hsrc (by omega)
    rw [length_bys] at h1 h4
    have hnums : ∀ i, i < l.length → vals[i]? = some (.int .u8 ((l.map fun b => (b.toNat : Int)).getD i 0)) := fun i hi => by
      obtain ⟨u, h5, _, h6⟩ := h2.2.2 i 0 _ _ (bys_get l i hi) rfl
      simp only [Nat.mul_one, Nat.add_zero] at h5
      rw [h5, rep_v h6]
      simp [List.getD, hi]
    unfold execOp
    rcases h4 with ⟨hu, h0⟩ | ⟨ad, cap, hu, hc⟩
    · have hl : l = [] := by cases l <;> simp [bys] at h0 ⊢
      subst hl
      simp only [ho, hu, Sem.run_bind, run_convert_bytes_nil k.w s et hs he 0 0 d hd, Result.andThen_ok, Sem.run_pure]
      rfl
    · have := run_convert_bytes_at (P := P) k.w s et hs he ad l.length cap (l.map fun b => (b.toNat : Int)) (by simp) (fun i hi => hc i _ (hnums i hi)) d hd
      simp only [ho, hu, Sem.run_bind, this, Result.andThen_ok, Sem.run_pure]
      have e1 : strOfNums (l.map fun b => (b.toNat : Int)) = ⟨l.toArray⟩ := by
        unfold strOfNums
        rw [List.map_map]
        have : (l.map ((fun n : Int => UInt8.ofNat n.toNat) ∘ fun b : UInt8 => (b.toNat : Int))) = l := by
          conv => rhs; rw [← List.map_id l]
          apply List.map_congr_left
          intro b _
          simp
        rw [this]
      rw [e1], .v rfl⟩) hR
theorem rep_new_bytes {k : Cx} (hk : Ok k) (et : TypeId) (s : ByteArray) (hm : s.size ≤ maxLen) (cap : Nat) (hc : s.size ≤ cap) : let k' : Cx := { k with w := Lib.bytesWorld k.w et s }
    Ok k' ∧ Step k k' ∧ Rep k' (.sl (some false) false 1 (bys s.data.toList)) (.slice (some ⟨k.w.heap.size, 0, none⟩) s.size cap) := by
  intro k'
  obtain ⟨hok, hst⟩ := hk.world (Lib.bytesWorld k.w et s) rfl rfl rfl (by rw [Lib.bytesWorld_size]; omega) (fun b hb => Lib.bytesWorld_at_old k.w et s b hb)
  have hl : (bys s.data.toList).length = s.size := by rw [length_bys, Array.length_toList]; rfl
  refine ⟨hok, hst, ?_⟩
  rw [← hl]
  have hget : ∀ (i j : Nat) e a, (bys s.data.toList)[i]? = some e → e[j]? = some a → j = 0 ∧ i < s.size ∧ a = .v (.int .u8 (s.data.toList.getD i 0).toNat) := fun i j e a he ha => by
    have hi : i < s.data.toList.length := by have := (List.getElem?_eq_some_iff.1 he).1; rwa [length_bys] at this
    rw [bys_get _ i hi] at he
    cases he
    cases j with
    | succ j => simp at ha
    | zero =>
      simp at ha
      refine ⟨rfl, by rw [Array.length_toList] at hi; exact hi, ?_⟩
      rw [← ha]
      simp only [List.getD_eq_getElem?_getD, List.getElem?_eq_getElem hi, Option.getD_some]
      simp
  refine .sl (f := fun i j => .int .u8 (s.data.toList.getD i 0).toNat) (by simp) (by rw [hl]; exact hc) (by rw [hl]; exact hm) (by simp) (fun i e he => ?_) (fun _ => ⟨by rw [Lib.bytesWorld_size]; omega, fun h => absurd (hk.live_lt (b := k.w.heap.size) h) (Nat.lt_irrefl _)⟩) (fun i j e a he ha => ?_) (fun i j e a he ha => ?_)
  · have hi : i < s.data.toList.length := by have := (List.getElem?_eq_some_iff.1 he).1; rwa [length_bys] at this
    rw [bys_get _ i hi] at he
    cases he
    rfl
  · obtain ⟨rfl, h1, _⟩ := hget i j e a he ha
    refine ⟨?_, rfl⟩
    have := Lib.bytesWorld_cell k.w et s i h1
    simpa using this
  · obtain ⟨rfl, h1, rfl⟩ := hget i j e a he ha
    exact .v rfl
theorem opj_to_bytes {s d et : TypeId} {u : TypeDesc} {x : Operand} {b : ByteArray} (ho : o.op = .convert s d x) (hs : P.underlying s = some u) (hd : P.underlying d = some (.slice et)) (he : P.underlying et = some (.int .u8)) (hx : E x = some (.v (.string b))) (hm : b.size ≤ maxLen) (hR : R (some (.sl (some false) false 1 (bys b.data.toList))) σ) : OpJ P o E σ R := fun k e hσ hk hr => by
  have h1 := rep_v (hr x (by rw [ho]; simp [Op.operands]) _ hx)
  have hrun := Lib.run_convert_string_bytes (P := P) k.w s d et b hs hd he
  obtain ⟨h2, h3, h4⟩ := rep_new_bytes hk et b hm (grownCap k.w b.size 0 et) (grownCap_ge _ _ _ _)
  refine ⟨_, .value _, some _, ?_, h2, h3, hσ ▸ hR, _, rfl, h4⟩
  unfold execOp
  simp only [ho, h1, Sem.run_bind, hrun, Result.andThen_ok, Sem.run_pure]
theorem opj_append_str {t et u : TypeId} {x y : Operand} {nl : Option Bool} {full : Bool} {els : List (List AV)} {ts : Array TypeId} {s : ByteArray} (ho : o.op = .call { callee := .builtin .append, args := #[x, y], argTypes := ts }) (hts : ts = #[t, u]) (he : Elem P t et 1) (hby : bytesIs P et = some 1) (hu : P.underlying u = some .string)
    (hx : E x = some (.sl nl full 1 els)) (hfull : full = true ∨ (nl = some true)) (hy : E y = some (.v (.string s))) (hb : els.length + s.size ≤ 140737488355328)
    (hR0 : s.size = 0 → R (some (.sl nl full 1 els)) σ) (hR1 : s.size ≠ 0 → R (some (.sl (some false) false 1 (els ++ bys s.data.toList))) σ) : OpJ P o E σ R := fun k e hσ hk hr => by
  subst hts
  subst hσ
  have hxr := hr x (by rw [ho]; simp [Op.operands, Call.operands]) _ hx
  have hyr := rep_v (hr y (by rw [ho]; simp [Op.operands, Call.operands]) _ hy)
  obtain ⟨old, hol, ho', hom, hxv⟩ := src_rep hk hxr (sz := 1) (news := els) rfl he.pos
  have hrun : ∀ v w', (Builtin.append_ #[t, u] o.type #[e x, e y]).run P k.w = .ok v w' → (execOp e o).run P k.w = .ok (.value v) w' := fun v w' h => by
    unfold execOp
    simp only [ho, resolve, invoke, builtin, Sem.run_bind, Sem.run_pure, Result.andThen_ok, List.map_toArray, List.map_cons, List.map_nil, h]
  have hcapx : ∃ a cap, e x = .slice a els.length cap ∧ (cap = els.length) ∧ (a = none → els = [] ∧ cap = 0) := by
    generalize e x = u at hxr
    cases hxr with
    | slnil hn => exact ⟨none, 0, rfl, rfl, fun _ => ⟨rfl, rfl⟩⟩
    | sle hn => exact ⟨_, 0, rfl, rfl, fun h => by cases h⟩
    | sl hn' hc hm hf =>
      refine ⟨_, _, rfl, ?_, fun h => by cases h⟩
      rcases hfull with h | h
      · exact hf h
      · exact absurd h hn'
  obtain ⟨a, cap, hxe, hcap, ha0⟩ := hcapx
  obtain ⟨i, z, hi, hz, hsz, hzs⟩ := he.info
  have hbi : i.bytes = 1 := by unfold bytesIs at hby; simpa [hi] using hby
  by_cases h0 : s.size = 0
  · refine ⟨k, .value (e x), some _, ?_, hk, .refl k, hR0 h0, _, rfl, hxr⟩
    rw [hrun (e x) k.w ?_]
    rw [hxe, hyr]
    have e1 : (Array.map (fun b : UInt8 => Value.int IntKind.u8 (b.toNat : Int)) (s.extract 0 0).data) = #[] := by
      have : (s.extract 0 0).data = #[] := by simp
      rw [this]; simp
    cases a with
    | none => simp [Builtin.append_, run_underlying he.ht, run_underlying hu, sizeOf, typeInfo, hi, Builtin.lenOf, h0, hcap, Builtin.firstCells]
    | some ad => simp [Builtin.append_, run_underlying he.ht, run_underlying hu, sizeOf, typeInfo, hi, Builtin.lenOf, h0, hcap, Builtin.firstCells, storeCells]
  · have hm : els.length + s.size ≤ maxLen := by simp only [maxLen]; omega
    have hac : ∀ ad, a = some ad → ∀ (j : Nat) v, old[j]? = some v → k.w.cell? (ad.add j) = some v := fun ad' had j v hj => by
      rcases hxv with ⟨h1, _⟩ | ⟨ad2, c2, h1, h2⟩
      · rw [hxe] at h1; injection h1 with h1; rw [h1] at had; cases had
      · rw [hxe] at h1; injection h1 with h1; rw [h1] at had; cases had; exact h2 j v hj
    let new : List Value := s.data.toList.map fun b => .int .u8 b.toNat
    have hnew : RowRep k 1 (bys s.data.toList) new := by
      refine ⟨fun i e h => ?_, by simp [length_bys, new], fun i j e a h h' => ?_⟩
      · have hi : i < s.data.toList.length := by have := (List.getElem?_eq_some_iff.1 h).1; rwa [length_bys] at this
        rw [bys_get _ i hi] at h; cases h; rfl
      · have hi : i < s.data.toList.length := by have := (List.getElem?_eq_some_iff.1 h).1; rwa [length_bys] at this
        rw [bys_get _ i hi] at h; cases h
        cases j with
        | succ j => simp at h'
        | zero =>
          simp at h'; subst h'
          have hi' : i < s.data.size := by simpa using hi
          refine ⟨.int .u8 s.data.toList[i].toNat, ?_, rfl, .v rfl⟩
          simp only [new, List.getElem?_map, Nat.mul_one, Nat.add_zero, List.getElem?_eq_getElem hi, Option.map_some]
    have hold : old.length = els.length := by simpa using hol
    have hrow := ho'.append (rest := (Builtin.zeroCells z.cells (grownCap k.w (els.length + s.size) cap et - (els.length + s.size))).toList) hnew hol
    have happ : (Builtin.append_ #[t, u] o.type #[.slice a els.length cap, .string s]).run P k.w = .ok (.slice (some ⟨k.w.heap.size, 0, none⟩) (els.length + s.size) (grownCap k.w (els.length + s.size) cap et)) (k.w.drew.alloc (.cells (old ++ new ++ (Builtin.zeroCells z.cells (grownCap k.w (els.length + s.size) cap et - (els.length + s.size))).toList).toArray et)) := by
      have h63' : ¬ (9223372036854775807 < ((els.length : Int) + (s.size : Int))) := by omega
      have hx2 : (Array.map (fun b : UInt8 => Value.int IntKind.u8 (b.toNat : Int)) s.data).extract 0 s.size = Array.map (fun b : UInt8 => Value.int IntKind.u8 (b.toNat : Int)) s.data := by
        have hs : s.size = (Array.map (fun b : UInt8 => Value.int IntKind.u8 (b.toNat : Int)) s.data).size := by rw [Array.size_map]; rfl
        rw [hs, Array.extract_size]
      have hx3 : (s.extract 0 s.size).data.map (fun b : UInt8 => Value.int IntKind.u8 (b.toNat : Int)) = s.data.map (fun b : UInt8 => Value.int IntKind.u8 (b.toNat : Int)) := by
        have : (s.extract 0 s.size) = s := by simp
        rw [this]
      have hn : ¬ (els.length + s.size ≤ cap) := by omega
      have h48' : ¬ (281474976710656 < Builtin.nextslicecap (els.length + s.size) cap * i.bytes) := by
        have := growslice_fits (need := els.length + s.size) (old := cap) (bytes := i.bytes) (by omega) (by rw [hbi]; omega)
        omega
      have hfo : (Builtin.firstCells 1 els.length (.slice a els.length cap)).run P k.w.drew = .ok old.toArray k.w.drew := by
        cases a with
        | none =>
          obtain ⟨h1, _⟩ := ha0 rfl
          have : old = [] := List.eq_nil_of_length_eq_zero (by rw [hold, h1]; rfl)
          rw [this]; simp [Builtin.firstCells]
        | some ad => exact run_firstCells_some (P := P) k.w.drew 1 els.length ad els.length cap old (by omega) (by simpa using hac ad rfl)
      have hfs : (Builtin.firstCells 1 s.size (.string s)).run P k.w.drew = .ok new.toArray k.w.drew := by
        have e2 : (Builtin.firstCells 1 s.size (.string s)).run P k.w.drew = .ok ((s.extract 0 s.size).data.map (fun b : UInt8 => Value.int IntKind.u8 (b.toNat : Int))) k.w.drew := rfl
        rw [e2, hx3]
        congr 1
        apply Array.ext'
        simp [new]
      simp only [Builtin.append_, List.getElem?_toArray, List.getElem?_cons_zero, List.getElem?_cons_succ, Sem.run_bind, run_underlying he.ht, run_underlying hu, Result.andThen_ok, run_sizeIs he.hs, Sem.run_pure, Bool.false_eq_true, if_false, Builtin.lenOf]
      rw [if_neg hn]
      simp [typeInfo, hi, zeroValue, hz, h63', h48', Question.forced, newRow, grownCap, hfo, hfs]
      refine congrArg (fun c => k.w.drew.alloc (.cells c et)) ?_
      apply Array.ext'
      simp
    obtain ⟨hok, hst⟩ := drew_alloc hk (.cells (old ++ new ++ (Builtin.zeroCells z.cells (grownCap k.w (els.length + s.size) cap et - (els.length + s.size))).toList).toArray et)
    have hlen : (els ++ bys s.data.toList).length = els.length + s.size := by rw [List.length_append, length_bys, Array.length_toList]; rfl
    have hrep := rep_new_sl (hk.drew).1 (elem := et) (hrow.step (hk.drew).2) (by rw [hlen]; exact hm) (grownCap k.w (els.length + s.size) cap et) (by rw [hlen]; exact grownCap_ge _ _ _ _) false (by simp)
    rw [hlen] at hrep
    exact ⟨_, .value _, some _, hrun _ _ (by rw [hxe, hyr]; exact happ), hok, hst, hR1 h0, _, rfl, hrep⟩
end
end Go.Proofs.YtledbkkaaomjpabDoor.Ab
