/- The texts AbK, AbCl, AbFc, AbAp, Ty, AbOw, AbQ, one behind the other. -/
import Derived.Test.YtbpoeggmpjepfaaDoorM1
import Derived.Test.YtbpoeggmpjepfaaDoorM2
import Derived.Test.YtbpoeggmpjepfaaDoorM3
/- Abstract values over the model's memory: a call under a guard to which our own is lent. -/
set_option linter.unusedVariables false
set_option linter.unusedSimpArgs false
set_option maxRecDepth 20000
namespace Go.Proofs.YtbpoeggmpjepfaaDoor.Ab
open Go
section
variable {P : Program} {nt : Nat} {ops : Array Oper} {Q : Post} {fr : Fr} {σ : St} {rest : List Oper} {t : Tmp} {ty : TypeId} {pos : String} {aft : Array Edge}
theorem jkq {f : FuncId} {xs : Array Operand} {ts : Array TypeId} {as : List AV} {r : AV} {j u : Nat} {w c : Bool} {a : AV} (hp : c = true → ACalls P f as σ (fun e σ' => e = .ret r ∧ σ' = σ)) (h : LJ P nt ops Q rest ((t, .mb c r) :: fr) σ) (hj : (ops[j]?).bind (·.dst) = some u := by exact rfl) (hl : lk fr u = some a := by exact rfl) (hg : gc a w = some c := by exact rfl) (has : evs (strip fr) xs.toList = some as := by exact rfl) (hent : entered P f = true := by exact rfl) (hn : Needs c fr (Op.call { callee := .value (.func f), args := xs, argTypes := ts }).operands.toList := by repeat' (first | exact True.intro | refine And.intro ?_ ?_ | exact nd0 rfl | exact nd1 rfl | exact nd2 rfl | exact nd3 rfl | exact nd4 rfl)) (hd : fits nt (some t) = true := by exact rfl) : LJ P nt ops Q (⟨some t, .call { callee := .value (.func f), args := xs, argTypes := ts }, ty, pos, aft, some (j, w)⟩ :: rest) fr σ := fun k a' hσ hk hz hf => by
  have hy := yields_gc hf hj hl hg
  unfold wpList
  cases c with
  | false =>
    rw [if_neg (by simp only [Region.wanted, hy]; simp)]
    exact wpList_mono (fun _ _ _ => conc_step (.refl k) (Act.defers_put ..) (Act.size_put ..)) _ _ _ (h k _ hσ hk ((Act.size_put ..).trans hz) (hf.put (dst := some t) (by rw [hz]; exact hd) (Rep.mb_false rfl)))
  | true =>
    rw [if_pos (by simp only [Region.wanted, hy])]
    refine .inl ((OpW.strip (o := ⟨some t, .call { callee := .value (.func f), args := xs, argTypes := ts }, ty, pos, aft, some (j, w)⟩) hn rfl (opw_calls has hent (hp rfl))) k a' _ _ hσ hk (reps_of_fr hf _) fun k' v r' h1 h2 h3 h4 => ?_)
    obtain ⟨rfl, h5⟩ := h3
    exact wpList_mono (fun _ _ _ => conc_step h2 (Act.defers_put ..) (Act.size_put ..)) _ _ _ (h k' _ h5 h1 ((Act.size_put ..).trans hz) ((hf.step h2).put (dst := some t) (by rw [hz]; exact hd) (Rep.mb_true rfl h4)))
/-- A part of a row of our own; of a slice that nobody writes. -/
theorem jco {lt et : TypeId} {x : Operand} {lo hi : Option Operand} {id sz off len o2 n2 : Nat} {l h : Int} (hh : LJ P nt ops Q rest ((t, .osl id sz o2 n2) :: fr) σ) (ht : P.underlying lt = some (.slice et) := by exact rfl) (hs : sizeIs P et = some sz := by exact rfl) (hx : ev fr x = some (.osl id sz off len) := by exact rfl) (hlo : bound (ev fr) 0 lo = some l := by exact rfl) (hhi : bound (ev fr) len hi = some h := by exact rfl) (h0 : 0 ≤ l := by omega) (h1 : l ≤ h := by omega) (h2 : h ≤ len := by omega) (ho : off + l.toNat = o2 := by first | exact rfl | omega) (hn : h.toNat - l.toNat = n2 := by first | exact rfl | omega) (hd : fits nt (some t) = true := by exact rfl) : LJ P nt ops Q (⟨some t, .slice lt x lo hi none, ty, pos, aft, none⟩ :: rest) fr σ := by
  subst ho
  subst hn
  exact lj_v hd (fun R hR => opj_cut_osl rfl ht hs hx hlo hhi h0 h1 h2 hR) hh
theorem jcf {lt et : TypeId} {x : Operand} {lo hi : Option Operand} {nl : Option Bool} {full : Bool} {sz : Nat} {els all : List (List AV)} {l h : Int} (hh : LJ P nt ops Q rest ((t, .sl nl false sz all) :: fr) σ) (hall : (els.take h.toNat).drop l.toNat = all := by exact rfl) (ht : P.underlying lt = some (.slice et) := by exact rfl) (hs : sizeIs P et = some sz := by exact rfl) (hx : ev fr x = some (.sl nl full sz els) := by exact rfl) (hlo : bound (ev fr) 0 lo = some l := by exact rfl) (hhi : bound (ev fr) els.length hi = some h := by exact rfl) (h0 : 0 ≤ l := by omega) (h1 : l ≤ h := by omega) (h2 : h ≤ els.length := by omega) (hd : fits nt (some t) = true := by exact rfl) : LJ P nt ops Q (⟨some t, .slice lt x lo hi none, ty, pos, aft, none⟩ :: rest) fr σ := by
  subst hall
  exact lj_v hd (fun R hR => opj_cut_sl rfl ht hs hx hlo hhi h0 h1 h2 hR) hh
/-- A load out of a row of our own, the element told. -/
theorem jle {lt : TypeId} {x : Operand} {q : Option Nat} {id sz i j : Nat} {elem : TypeId} {els : List (List AV)} {el : List AV} {av : AV} (he : els[i]? = some el) (h : LJ P nt ops Q rest ((t, av) :: fr) σ) (hx : ev fr x = some (.ptr id sz i j) := by exact rfl) (hq : shapeOf P lt = some q := by exact rfl) (hσ : σ id = some (.row sz elem els) := by exact lkp) (hp : load? (el.drop j) q = some av := by exact rfl) (hd : fits nt (some t) = true := by exact rfl) : LJ P nt ops Q (⟨some t, .load lt x, ty, pos, aft, none⟩ :: rest) fr σ := lj_v hd (fun R hR => opj_load_ptr rfl hq hx hσ he hp hR) h
/-- A store into a row of our own, the element told. -/
theorem jse {st elem : TypeId} {x y : Operand} {id sz ii jj k : Nat} {els els' : List (List AV)} {el cs nel : List AV} {a : AV} (he : els[ii]? = some el) (hn2 : els.set ii nel = els') (h : LJ P nt ops Q rest fr (σ.set id (.row sz elem els'))) (hx : ev fr x = some (.ptr id sz ii jj) := by exact rfl) (hy : ev fr y = some a := by exact rfl) (hm : sizeIs P st = some k := by exact rfl) (hσ : σ id = some (.row sz elem els) := by exact lkp) (hc : cellsOf a = some cs := by exact rfl) (hl : cs.length = k := by exact rfl) (hj : Nat.ble (jj + cs.length) el.length = true := by exact rfl) (hn1 : el.take jj ++ cs ++ el.drop (jj + cs.length) = nel := by exact rfl) : LJ P nt ops Q (⟨none, .store st x y, ty, pos, aft, none⟩ :: rest) fr σ := by
  subst hn1
  subst hn2
  exact lj_op rfl rfl (opj_store rfl hm hx hy hσ he hc hl (Nat.le_of_ble_eq_true hj) h)
end
section
variable {P : Program} {nt : Nat} {Q : Post} {fr : Fr} {σ : St} {c : Code}
/-- The store below the newest object gets a name. -/
theorem cj_nameS {w : Nat} {o : AObj} (h : ∀ τ, τ = σ → CJ P nt c Q fr (τ.set w o)) : CJ P nt c Q fr (σ.set w o) := h σ rfl
end
end Go.Proofs.YtbpoeggmpjepfaaDoor.Ab

/- Abstract values over the model's memory: clear on a row of our own; what stands behind is known no more. -/
set_option linter.unusedVariables false
set_option linter.unusedSimpArgs false
set_option maxRecDepth 20000
namespace Go.Proofs.YtbpoeggmpjepfaaDoor.Ab
open Go
theorem zeroCells_mem {z : Array Value} {n : Nat} {v : Value} (h : v ∈ (Builtin.zeroCells z n).toList) : v ∈ z.toList := by
  simp only [Builtin.zeroCells, Array.toList_map, List.mem_map, Array.toList_range, List.mem_range] at h
  obtain ⟨i, hi, rfl⟩ := h
  have hz : 0 < z.size := by
    rcases Nat.eq_zero_or_pos z.size with h | h
    · rw [h] at hi; simp at hi
    · exact h
  have : i % z.size < z.size := Nat.mod_lt _ hz
  rw [getElem!_pos z _ this]
  simp
section
variable {P : Program} {σ : St} {o : Oper} {E : Operand → Option AV} {R : Option AV → St → Prop}
theorem opj_clear {lt et : TypeId} {sz : Nat} {zs : List AV} {x : Operand} {id off len : Nat} {els : List (List AV)} {ts : Array TypeId} (ho : o.op = .call { callee := .builtin .clear, args := #[x], argTypes := ts }) (hts : ts = #[lt]) (ht : P.underlying lt = some (.slice et)) (hs : sizeIs P et = some sz) (hz : zeroIs P et = some zs) (hzl : zs.length = sz) (hx : E x = some (.osl id sz off len)) (hσ : σ id = some (.row sz et els)) (hoff : off ≤ els.length) (hlen : 0 < len)
    (hR : R (some (.tup [])) (σ.set id (.row sz et (els.take off)))) : OpJ P o E σ R := fun k e hσ' hk hr => by
  subst hσ'
  have hxr := hr x (by rw [ho]; simp [Op.operands, Call.operands]) _ hx
  obtain ⟨z, hz1, hz2⟩ := run_zeroIs hz k
  have hd : k.σ id ≠ none := by rw [hσ]; simp
  generalize hu : e x = u at hxr
  cases hxr with
  | oslnil => omega
  | @osl _ _ _ _ b cap p hid hb hp hl hm hsz =>
    obtain ⟨c, h1, h2⟩ := (hk.obj id _ hσ).row hb
    have hrow := h2.take off hoff
    obtain ⟨cs', t', f', h3, h4⟩ := hsz
    rw [h1] at h3; cases h3
    have hp' := hp (by omega)
    subst hp'
    have hzz : z.cells.size = sz := by have := hz2.1; simp only [Array.length_toList] at this; omega
    have hvl : (Builtin.zeroCells z.cells len).toList.length = len * sz := by rw [Array.length_toList, size_zeroCells, hzz]
    have hfit : off * sz + 0 + (Builtin.zeroCells z.cells len).toList.length ≤ c.size := by
      rw [hvl, Nat.add_zero, ← Nat.add_mul]
      exact Nat.le_trans (Nat.mul_le_mul_right _ (by omega)) h4
    have hst := run_storeCells_at P b (off * sz) et (Builtin.zeroCells z.cells len).toList 0 c k.w h1 hfit (fun v hv => by
      obtain ⟨q, hq, rfl⟩ := List.getElem_of_mem (zeroCells_mem hv)
      exact (hz2.2 q (zs[q]'(by rw [← hz2.1]; exact hq)) _ (List.getElem?_eq_getElem _) (List.getElem?_eq_getElem hq)).1)
    simp only [Nat.add_zero] at hst hfit
    have htk : (els.take off).length = off := by rw [List.length_take]; omega
    have hc2 : (els.length) * sz ≤ c.toList.length := h2.2.1
    have hol : (c.toList.take (off * sz)).length = off * sz := by
      rw [List.length_take]
      have : off * sz ≤ els.length * sz := Nat.mul_le_mul_right _ hoff
      omega
    have hnew : RowRep k sz (els.take off) (c.toList.take (off * sz) ++ (Builtin.zeroCells z.cells len).toList ++ c.toList.drop (off * sz + (Builtin.zeroCells z.cells len).toList.length)) := by
      obtain ⟨r1, r2, r3⟩ := hrow
      refine ⟨r1, by simp only [List.length_append]; omega, fun i j el a hi hj => ?_⟩
      obtain ⟨u, g1, g2⟩ := r3 i j el a hi hj
      refine ⟨u, ?_, g2⟩
      rw [List.append_assoc, List.getElem?_append_left (List.getElem?_eq_some_iff.1 g1).1]
      exact g1
    obtain ⟨hok, hstep⟩ := hk.setRow (o' := .row sz et (els.take off)) (cs' := (c.toList.take (off * sz) ++ (Builtin.zeroCells z.cells len).toList ++ c.toList.drop (off * sz + (Builtin.zeroCells z.cells len).toList.length)).toArray) hd hb h1 (by
      simp only [List.size_toArray, List.length_append, List.length_take, List.length_drop, Array.length_toList] at hfit hvl ⊢
      omega) (fun k' hs' hb' hh' => RowRep.obj hb' hh' (by simpa using hnew.step hs'))
    refine ⟨_, .value (.tuple #[]), some (.tup []), ?_, hok, hstep, hR, _, rfl, .tup (by simp) (fun j a u h _ => by simp at h)⟩
    have hl0 : len ≠ 0 := by omega
    unfold execOp
    simp only [ho, hts, resolve, invoke, builtin, Sem.run_bind, Sem.run_pure, Result.andThen_ok, List.map_toArray, List.map_cons, List.map_nil, hu]
    unfold Builtin.clear_
    have e0 : (#[lt] : Array TypeId)[0]? = some lt := rfl
    have e1 : ((#[Value.slice (some ⟨b, off * sz, none⟩) len cap] : Array Value))[0]? = some (Value.slice (some ⟨b, off * sz, none⟩) len cap) := rfl
    obtain ⟨n, rfl⟩ : ∃ n, len = n + 1 := ⟨len - 1, by omega⟩
    simp only [e0, e1, Sem.run_bind, Sem.run_pure, Result.andThen_ok, run_underlying ht, hz1, hst]
end
section
variable {P : Program} {nt : Nat} {ops : Array Oper} {Q : Post} {fr : Fr} {σ : St} {rest : List Oper} {t : Tmp} {ty : TypeId} {pos : String} {aft : Array Edge}
theorem jclr {lt et : TypeId} {sz : Nat} {zs : List AV} {x : Operand} {id off len : Nat} {els all : List (List AV)} {ts : Array TypeId} (h : LJ P nt ops Q rest fr (σ.set id (.row sz et all))) (hall : els.take off = all) (hoff : off ≤ els.length) (hlen : 0 < len) (hts : ts = #[lt] := by exact rfl) (ht : P.underlying lt = some (.slice et) := by exact rfl) (hs : sizeIs P et = some sz := by exact rfl) (hz : zeroIs P et = some zs := by exact rfl) (hzl : zs.length = sz := by exact rfl) (hx : ev fr x = some (.osl id sz off len) := by exact rfl) (hσ : σ id = some (.row sz et els) := by exact lkp) : LJ P nt ops Q (⟨none, .call { callee := .builtin .clear, args := #[x], argTypes := ts }, ty, pos, aft, none⟩ :: rest) fr σ := by
  subst hall
  exact lj_op rfl rfl (opj_clear rfl hts ht hs hz hzl hx hσ hoff hlen h)
end
end Go.Proofs.YtbpoeggmpjepfaaDoor.Ab

/- Abstract values over the model's memory: a row of our own inside a variable of our own, written no more. -/
set_option linter.unusedVariables false
set_option linter.unusedSimpArgs false
set_option maxRecDepth 20000
namespace Go.Proofs.YtbpoeggmpjepfaaDoor.Ab
open Go
theorem ghost_freezecell {b sz j w szw len : Nat} {et etw : TypeId} {cs : List AV} {els : List (List AV)} {fr : Fr} {σ : St} {K : Fr → St → Prop} (hσ : σ b = some (.row sz et [cs])) (hj : cs[j]? = some (.osl w szw 0 len)) (hw : σ w = some (.row szw etw els)) (hl : len = els.length) (hpos : 0 < szw) (hne : w ≠ b) (h : K fr ((σ.del w).set b (.row sz et [cs.set j (.sl none false szw els)]))) : Ghost fr σ K := fun k tmps hk1 hk hfr => by
  subst hk1
  obtain ⟨hok, hst⟩ := hk.forget (St.del_le k.σ w)
  have hσ1 : ({ k with σ := k.σ.del w } : Cx).σ b = some (.row sz et [cs]) := by
    show (k.σ.del w) b = _
    unfold St.del
    rw [if_neg (Ne.symm hne)]; exact hσ
  have hobj : ObjOk { k with σ := k.σ.del w } b (.row sz et [cs.set j (.sl none false szw els)]) := by
    rcases hk.obj b _ hσ with ⟨_, h2⟩ | ⟨blk, vs, h1, h2, h3, h4, h5⟩
    · cases h2
    · refine .inr ⟨blk, vs, h1, h2, fun i e he => ?_, by simpa using h4, fun i jj e a he ha => ?_⟩
      · cases i with
        | zero => simp at he; subst he; rw [List.length_set]; exact h3 0 cs rfl
        | succ i => simp at he
      · cases i with
        | zero =>
          simp at he
          subst he
          by_cases hjj : jj = j
          · subst hjj
            have hlt := (List.getElem?_eq_some_iff.1 hj).1
            rw [List.getElem?_set_self hlt] at ha
            cases ha
            obtain ⟨u, h6, h7, h8⟩ := h5 0 jj cs _ rfl hj
            refine ⟨u, h6, h7, ?_⟩
            have := rep_freeze hk h8 hw (by omega) hpos
            rw [List.drop_zero, hl, List.take_length] at this
            exact this
          · rw [List.getElem?_set_ne (Ne.symm hjj)] at ha
            obtain ⟨u, h6, h7, h8⟩ := h5 0 jj cs a rfl ha
            exact ⟨u, h6, h7, h8.step hst⟩
        | succ i => simp at he
  obtain ⟨hok2, hst2⟩ := Ok.redesc (k := { k with σ := k.σ.del w }) hok hσ1 hobj
  exact ⟨{ k with σ := (k.σ.del w).set b (.row sz et [cs.set j (.sl none false szw els)]) }, fr, rfl, hok2, hst.trans hst2, fun x a hx => by
    obtain ⟨u, hu, hr⟩ := hfr x a hx
    exact ⟨u, hu, hr.step (hst.trans hst2)⟩, h⟩
theorem cj_freezecell {P : Program} {nt : Nat} {Q : Post} {fr : Fr} {σ : St} {c : Code} {b sz w szw len : Nat} {et etw : TypeId} {cs : List AV} (t j : Nat) (els : List (List AV)) (h : CJ P nt c Q fr ((σ.del w).set b (.row sz et [cs.set j (.sl none false szw els)]))) (hl : len = els.length) (hne : w ≠ b) (ht : lk fr t = some (.ptr b sz 0 0) := by exact rfl) (hσ : σ b = some (.row sz et [cs]) := by exact lkp) (hj : cs[j]? = some (.osl w szw 0 len) := by exact rfl) (hw : σ w = some (.row szw etw els) := by exact lkp) (hpos : Nat.blt 0 szw = true := by exact rfl) : CJ P nt c Q fr σ := cj_ghost (ghost_freezecell hσ hj hw hl (Nat.blt_eq.mp hpos) hne h)
theorem lj_freezecell {P : Program} {nt : Nat} {ops : Array Oper} {Q : Post} {fr : Fr} {σ : St} {c : List Oper} {b sz w szw len : Nat} {et etw : TypeId} {cs : List AV} (t j : Nat) (els : List (List AV)) (h : LJ P nt ops Q c fr ((σ.del w).set b (.row sz et [cs.set j (.sl none false szw els)]))) (hl : len = els.length) (hne : w ≠ b) (ht : lk fr t = some (.ptr b sz 0 0) := by exact rfl) (hσ : σ b = some (.row sz et [cs]) := by exact lkp) (hj : cs[j]? = some (.osl w szw 0 len) := by exact rfl) (hw : σ w = some (.row szw etw els) := by exact lkp) (hpos : Nat.blt 0 szw = true := by exact rfl) : LJ P nt ops Q c fr σ := lj_ghost (ghost_freezecell hσ hj hw hl (Nat.blt_eq.mp hpos) hne h)
def FinLL (σ σ' : St) (sz : Nat) : List (List AV) → List (List AV) → Prop
  | [], [] => True
  | a :: as', b :: bs => (FinL σ σ' a b ∧ b.length = sz) ∧ FinLL σ σ' sz as' bs
  | _, _ => False
theorem FinLL.get {σ σ' : St} {sz : Nat} : ∀ {as' bs : List (List AV)}, FinLL σ σ' sz as' bs → bs.length = as'.length ∧ ∀ (i : Nat) e', bs[i]? = some e' → e'.length = sz ∧ ∀ e, as'[i]? = some e → FinL σ σ' e e'
  | [], [], _ => ⟨rfl, fun i e h => by simp at h⟩
  | a :: as', b :: bs, h => by
    obtain ⟨h1, h2⟩ := FinLL.get h.2
    refine ⟨by rw [List.length_cons, List.length_cons, h1], fun i e' he' => ?_⟩
    cases i with
    | zero => cases he'; exact ⟨h.1.2, fun e he => by cases he; exact h.1.1⟩
    | succ i => exact h2 i e' he'
theorem fin_sll {σ σ' : St} {nl : Option Bool} {full : Bool} {sz : Nat} {els els' : List (List AV)} (h : FinLL σ σ' sz els els') : Fin σ σ' (.sl nl full sz els) (.sl none false sz els') :=
  .sl h.get.1 (fun i e he => (h.get.2 i e he).1) fun i j e a e' a' he ha he' ha' => ((h.get.2 i e' he').2 e he).get.2 j a a' ha ha'
theorem finll_nil {σ σ' : St} {sz : Nat} : FinLL σ σ' sz [] [] := trivial
theorem finll_cons {σ σ' : St} {sz : Nat} {a b : List AV} {as' bs : List (List AV)} (h : FinL σ σ' a b) (hb : b.length = sz) (h' : FinLL σ σ' sz as' bs) : FinLL σ σ' sz (a :: as') (b :: bs) := ⟨⟨h, hb⟩, h'⟩
theorem St.leX_setk {id w : Nat} {σ τ : St} {o : AObj} (h : St.leX id σ τ) : St.leX id (σ.set w o) (τ.set w o) := fun y hy v hv => by
  by_cases hw : y = w
  · subst hw; rw [St.set_same] at hv ⊢; exact hv
  · rw [St.set_ne _ _ _ hw] at hv ⊢; exact h y hy v hv
theorem St.del_ne {σ : St} {w x : Nat} (h : w ≠ x) : (σ.del w) x = σ x := by
  unfold St.del
  rw [if_neg (Ne.symm h)]
theorem St.leX_del {id w : Nat} {σ τ : St} (h : St.leX id σ τ) (hw : σ w = none) : St.leX id σ (τ.del w) := fun y hy v hv => by
  have hx : y ≠ w := fun e => by rw [e, hw] at hv; cases hv
  unfold St.del
  rw [if_neg hx]; exact h y hy v hv
theorem St.del_set2 {τ : St} {w b : Nat} {R X Y : AObj} (hw : τ w = none) (hne : w ≠ b) : ((((τ.set w R).set b X).del w).set b Y) = τ.set b Y := by
  funext y
  by_cases hy : y = b
  · subst hy; rw [St.set_same, St.set_same]
  · rw [St.set_ne _ _ _ hy, St.set_ne _ _ _ hy]
    unfold St.del
    split
    · rename_i h; rw [h, hw]
    · rename_i h; rw [St.set_ne _ _ _ hy, St.set_ne _ _ _ h]
end Go.Proofs.YtbpoeggmpjepfaaDoor.Ab

/- Abstract values over the model's memory: append on a nil slice whose kind was not told. -/
set_option linter.unusedVariables false
set_option linter.unusedSimpArgs false
set_option maxRecDepth 20000
namespace Go.Proofs.YtbpoeggmpjepfaaDoor.Ab
open Go
def reNil (sz : Nat) : Option AV → Option AV
  | some (.sl (some true) f s []) => some (.sl (some true) f sz [])
  | r => r
theorem reNil_rep {k : Cx} {sz : Nat} {r : Option AV} {a : AV} {u : Value} (h : ∀ b, r = some b → Rep k b u) (ha : reNil sz r = some a) : Rep k a u := by
  unfold reNil at ha
  split at ha
  · rename_i f s
    have h1 := h _ rfl
    cases ha
    cases h1 with
    | slnil hn => exact .slnil hn
    | sle hn => exact absurd rfl hn
    | sl hn => exact absurd rfl hn
  · exact h a ha
theorem OpJ.renil {P : Program} {o : Oper} {E : Operand → Option AV} {σ : St} {R : Option AV → St → Prop} (sz : Nat) (h : OpJ P o (fun z => reNil sz (E z)) σ R) : OpJ P o E σ R := fun k e hσ hk hr =>
  h k e hσ hk fun x hx a ha => reNil_rep (fun b hb => hr x hx b hb) ha
section
variable {P : Program} {nt : Nat} {ops : Array Oper} {Q : Post} {l : List Oper} {c : List (List Nat)} {m n0 : Nat} {kp : Bool} {bs : List Nat} {σ σ0 σ1 : St} {K : Fr → Prop} {K2 : Fr → St → Prop} {i : Nat} {fr : Fr} {rest : List Oper} {t : Tmp} {ty : TypeId} {pos : String} {aft : Array Edge}
theorem jap0 (by_ : Nat) {lt et : TypeId} {sz : Nat} {x y : Operand} {nl : Option Bool} {full : Bool} {els news : List (List AV)} {ts : Array TypeId} {a : AV} {all : List (List AV)} (h : LJ P nt ops Q rest ((t, .sl none false sz all) :: fr) σ) (hd : fits nt (some t) = true := by exact rfl) (hts : ts = #[lt, lt] := by exact rfl) (ht : P.underlying lt = some (.slice et) := by exact rfl) (hsz : sizeIs P et = some sz := by exact rfl) (hz : (zeroIs P et).map (·.length) = some sz := by exact rfl) (hpos : Nat.blt 0 sz = true := by exact rfl) (hby : bytesIs P et = some by_ := by exact rfl) (hb1 : Nat.blt 0 by_ = true := by exact rfl) (hx : reNil sz (ev fr x) = some (.sl nl full sz els) := by exact rfl) (hfull : full = true ∨ nl = some true := by first | exact .inl rfl | exact .inr rfl) (hy : reNil sz (ev fr y) = some a := by exact rfl) (hs : ∀ σ', srcOf σ' a = some (sz, news) := by exact fun _ => rfl) (hb : (els.length + news.length) * by_ ≤ 140737488355328 := by first | omega | (simp only [length_bys, length_chunk, List.length_nil, List.length_cons, List.length_map, Nat.mul_one]; omega)) (hall : els ++ news = all := by (first | exact List.nil_append _ | exact rfl)) : LJ P nt ops Q (⟨some t, .call { callee := .builtin .append, args := #[x, y], argTypes := ts }, ty, pos, aft, none⟩ :: rest) fr σ := by
  subst hall
  exact lj_v hd (fun R hR => OpJ.renil sz (OpJ.weak (opj_append_sl rfl hts (elem_of ht hsz hz hpos) hby hx hfull hy (hs σ) hb (Nat.blt_eq.mp hb1) (fun h0 => ⟨rfl, _, rfl, by rw [h0, List.append_nil]; exact Wk.sl _ _ _ _⟩) (fun _ => ⟨rfl, _, rfl, Wk.sl _ _ _ _⟩)) hR)) h
theorem dap0 (by_ : Nat) {lt et : TypeId} {sz : Nat} {x y : Operand} {nl : Option Bool} {full : Bool} {els news : List (List AV)} {ts : Array TypeId} {a : AV} {all : List (List AV)} (h : DJ P l c m σ0 σ1 K (i + 1) rest ((t, .sl none false sz all) :: fr)) (him : Nat.beq i m = false := by exact rfl) (hts : ts = #[lt, lt] := by exact rfl) (ht : P.underlying lt = some (.slice et) := by exact rfl) (hsz : sizeIs P et = some sz := by exact rfl) (hz : (zeroIs P et).map (·.length) = some sz := by exact rfl) (hpos : Nat.blt 0 sz = true := by exact rfl) (hby : bytesIs P et = some by_ := by exact rfl) (hb1 : Nat.blt 0 by_ = true := by exact rfl) (hx : reNil sz (ev fr x) = some (.sl nl full sz els) := by exact rfl) (hfull : full = true ∨ nl = some true := by first | exact .inl rfl | exact .inr rfl) (hy : reNil sz (ev fr y) = some a := by exact rfl) (hs : ∀ σ', srcOf σ' a = some (sz, news) := by exact fun _ => rfl) (hb : (els.length + news.length) * by_ ≤ 140737488355328 := by first | omega | (simp only [length_bys, length_chunk, List.length_nil, List.length_cons, List.length_map, Nat.mul_one]; omega)) (hall : els ++ news = all := by (first | exact List.nil_append _ | exact rfl)) : DJ P l c m σ0 σ1 K i (⟨some t, .call { callee := .builtin .append, args := #[x, y], argTypes := ts }, ty, pos, aft, none⟩ :: rest) fr := by
  subst hall
  exact dj_v him (fun R hR => OpJ.renil sz (OpJ.weak (opj_append_sl rfl hts (elem_of ht hsz hz hpos) hby hx hfull hy (hs σ0) hb (Nat.blt_eq.mp hb1) (fun h0 => ⟨rfl, _, rfl, by rw [h0, List.append_nil]; exact Wk.sl _ _ _ _⟩) (fun _ => ⟨rfl, _, rfl, Wk.sl _ _ _ _⟩)) hR)) (fun R hR => OpJ.renil sz (OpJ.weak (opj_append_sl rfl hts (elem_of ht hsz hz hpos) hby hx hfull hy (hs σ1) hb (Nat.blt_eq.mp hb1) (fun h0 => ⟨rfl, _, rfl, by rw [h0, List.append_nil]; exact Wk.sl _ _ _ _⟩) (fun _ => ⟨rfl, _, rfl, Wk.sl _ _ _ _⟩)) hR)) h
theorem aap0 (by_ : Nat) {lt et : TypeId} {sz : Nat} {x y : Operand} {nl : Option Bool} {full : Bool} {els news : List (List AV)} {ts : Array TypeId} {a : AV} {all : List (List AV)} (h : DA P l c n0 kp bs σ K2 (i + 1) rest ((t, .sl none false sz all) :: fr)) (hbs : inN i bs = false := by exact rfl) (hts : ts = #[lt, lt] := by exact rfl) (ht : P.underlying lt = some (.slice et) := by exact rfl) (hsz : sizeIs P et = some sz := by exact rfl) (hz : (zeroIs P et).map (·.length) = some sz := by exact rfl) (hpos : Nat.blt 0 sz = true := by exact rfl) (hby : bytesIs P et = some by_ := by exact rfl) (hb1 : Nat.blt 0 by_ = true := by exact rfl) (hx : reNil sz (ev fr x) = some (.sl nl full sz els) := by exact rfl) (hfull : full = true ∨ nl = some true := by first | exact .inl rfl | exact .inr rfl) (hy : reNil sz (ev fr y) = some a := by exact rfl) (hs : ∀ σ', srcOf σ' a = some (sz, news) := by exact fun _ => rfl) (hb : (els.length + news.length) * by_ ≤ 140737488355328 := by first | omega | (simp only [length_bys, length_chunk, List.length_nil, List.length_cons, List.length_map, Nat.mul_one]; omega)) (hall : els ++ news = all := by (first | exact List.nil_append _ | exact rfl)) : DA P l c n0 kp bs σ K2 i (⟨some t, .call { callee := .builtin .append, args := #[x, y], argTypes := ts }, ty, pos, aft, none⟩ :: rest) fr := by
  subst hall
  exact da_v hbs (fun σ' R hR => OpJ.renil sz (OpJ.weak (opj_append_sl rfl hts (elem_of ht hsz hz hpos) hby hx hfull hy (hs σ') hb (Nat.blt_eq.mp hb1) (fun h0 => ⟨rfl, _, rfl, by rw [h0, List.append_nil]; exact Wk.sl _ _ _ _⟩) (fun _ => ⟨rfl, _, rfl, Wk.sl _ _ _ _⟩)) hR)) h
end
end Go.Proofs.YtbpoeggmpjepfaaDoor.Ab

/- The program's data. -/
set_option linter.unusedVariables false
set_option linter.unusedSimpArgs false
set_option maxRecDepth 20000
namespace Go.Proofs.YtbpoeggmpjepfaaDoor.Ab
open Go
structure Vl where
  k : Int
  n : Int
  s : ByteArray
  deriving DecidableEq
structure Cls where
  name : ByteArray
  attrs : List ByteArray
structure Fc where
  tag : Int
  cls : ByteArray
  vals : List Vl
structure Bd where
  name : ByteArray
  val : Vl
abbrev vc (v : Vl) : List AV := [.v (.int .u8 v.k), .v (.int .i64 v.n), .v (.string v.s)]
abbrev str1 (s : ByteArray) : List AV := [.v (.string s)]
abbrev cc (c : Cls) : List AV := [.v (.string c.name), .sl none false 1 (c.attrs.map str1)]
abbrev fc (f : Fc) : List AV := [.v (.int .i64 f.tag), .v (.string f.cls), .sl none false 3 (f.vals.map vc)]
abbrev bc (b : Bd) : List AV := [.v (.string b.name), .v (.int .u8 b.val.k), .v (.int .i64 b.val.n), .v (.string b.val.s)]
structure Tst where
  p : Int
  v : ByteArray
  val : Vl
structure Atr where
  attr : ByteArray
  ones : List Vl
  tests : List Tst
structure Cnd where
  neg : Bool
  cls : ByteArray
  attrs : List Atr
abbrev tc (t : Tst) : List AV := [.v (.int .u8 t.p), .v (.string t.v), .v (.int .u8 t.val.k), .v (.int .i64 t.val.n), .v (.string t.val.s)]
abbrev ac (a : Atr) : List AV := [.v (.string a.attr), .sl none false 3 (a.ones.map vc), .sl none false 5 (a.tests.map tc)]
abbrev dc (c : Cnd) : List AV := [.v (.bool c.neg), .v (.string c.cls), .sl none false 3 (c.attrs.map ac)]
abbrev int1 (n : Int) : List AV := [.v (.int .i64 n)]
end Go.Proofs.YtbpoeggmpjepfaaDoor.Ab

/- Abstract values over the model's memory: append on a row of our own, plain list. -/
set_option linter.unusedVariables false
set_option linter.unusedSimpArgs false
set_option maxRecDepth 20000
namespace Go.Proofs.YtbpoeggmpjepfaaDoor.Ab
open Go
section
variable {P : Program} {nt : Nat} {ops : Array Oper} {Q : Post} {σ : St} {fr : Fr} {rest : List Oper} {t : Tmp} {ty : TypeId} {pos : String} {aft : Array Edge}
theorem japo {lt et : TypeId} {sz by_ n m : Nat} {x y : Operand} {id : Nat} {els news all : List (List AV)} {ts : Array TypeId} {a : AV} (h : ∀ id', σ id' = none → LJ P nt ops Q rest ((t, .osl id' sz 0 m) :: fr) ((σ.del id).set id' (.row sz et all))) (hall : els.take n ++ news = all) (hm : n + news.length = m) (hts : ts = #[lt, lt] := by exact rfl) (ht : P.underlying lt = some (.slice et) := by exact rfl) (hsz : sizeIs P et = some sz := by exact rfl) (hz : (zeroIs P et).map (·.length) = some sz := by exact rfl) (hpos : Nat.blt 0 sz = true := by exact rfl) (hby : bytesIs P et = some by_ := by exact rfl) (hb1 : Nat.blt 0 by_ = true := by exact rfl) (hble : Nat.ble by_ 1024 = true := by exact rfl) (hx : ev fr x = some (.osl id sz 0 n) := by exact rfl) (hσ : σ id = some (.row sz et els) := by exact lkp) (hn : n ≤ els.length := by omega) (hy : ev fr y = some a := by exact rfl) (hs : srcOf σ a = some (sz, news) := by exact rfl) (hb : (n + news.length) * 1024 ≤ 140737488355328 := by omega) (hd : fits nt (some t) = true := by exact rfl) :
    LJ P nt ops Q (⟨some t, .call { callee := .builtin .append, args := #[x, y], argTypes := ts }, ty, pos, aft, none⟩ :: rest) fr σ := by
  subst hall
  subst hm
  exact lj_fc (C := fun id' => σ id' = none) (mk := fun id' => .osl id' sz 0 (n + news.length)) (st := fun id' => (σ.del id).set id' (.row sz et (els.take n ++ news))) hd (fun R hR => opj_append_osl rfl hts (elem_of ht hsz hz hpos) hby hx hσ hn hy hs (Nat.le_trans (Nat.mul_le_mul_left _ (Nat.le_of_ble_eq_true hble)) hb) (Nat.blt_eq.mp hb1) fun id' hid => hR id' hid) h
end
theorem St.none_del {σ : St} {x w : Nat} (h : σ x = none) : (σ.del w) x = none := by
  unfold St.del
  split
  · rfl
  · exact h
theorem St.le_del2 {σ τ : St} {w : Nat} (h : σ.le τ) : (σ.del w).le (τ.del w) := fun x v hv => by
  unfold St.del at hv ⊢
  split at hv
  · cases hv
  · rename_i hx
    rw [if_neg hx]
    exact h x v hv
end Go.Proofs.YtbpoeggmpjepfaaDoor.Ab

/- Abstract values over the model's memory: == of structs that hold structs. -/
set_option linter.unusedVariables false
set_option linter.unusedSimpArgs false
set_option maxRecDepth 20000
namespace Go.Proofs.YtbpoeggmpjepfaaDoor.Ab
open Go
/-- eqV without its question whether a struct stands in what is held; that is asked apart, of the types. -/
def eqN (P : Program) : Nat → TypeId → AV → AV → Option Bool
  | 0, _, _, _ => none
  | d + 1, t, x, y =>
    match x, y with
    | .v (.int k a), .v (.int k' b) => match P.underlying t with
      | some (.int _) => if k = k' then some (decide (a = b)) else none
      | _ => none
    | .v (.string a), .v (.string b) => match P.underlying t with
      | some .string => some (decide (a = b))
      | _ => none
    | .v (.bool a), .v (.bool b) => match P.underlying t with
      | some .bool => some (a == b)
      | _ => none
    | .agg xs, .agg ys => match P.underlying t with
      | some (.struct fs) =>
        fs.toList.foldr (fun f acc => if f.name = "_" then acc else match shapeOf P f.type with
          | some q => match part? xs f.offset q, part? ys f.offset q with
            | some a, some b => match eqN P d f.type a b, acc with
              | some r, some r' => some (r && r')
              | _, _ => none
            | _, _ => none
          | none => none) (some true)
      | _ => none
    | _, _ => none
def noHeld (P : Program) : Nat → TypeId → Bool
  | 0, _ => true
  | d + 1, t => match P.underlying t with
    | some (.struct fs) => !P.stoodInHeld t && fs.toList.all (fun f => noHeld P d f.type)
    | _ => true
theorem eqN_eqV {P : Program} : ∀ (d : Nat) (t : TypeId) (x y : AV), noHeld P d t = true → eqN P d t x y = eqV P d t x y
  | 0, _, _, _, _ => rfl
  | d + 1, t, x, y, h => by
    have ih := eqN_eqV (P := P) d
    unfold eqN eqV
    cases x
    case v u =>
      cases u <;> cases y <;> try rfl
      all_goals (rename_i w; cases w <;> rfl)
    case agg xs =>
      cases y <;> try rfl
      rename_i ys
      unfold noHeld at h
      dsimp only
      rcases hu : P.underlying t with _ | u
      · rfl
      rw [hu] at h
      cases u <;> try rfl
      rename_i fs
      dsimp only at h ⊢
      rw [Bool.and_eq_true, Bool.not_eq_true'] at h
      obtain ⟨h1, h2⟩ := h
      rw [if_neg (by rw [h1]; simp)]
      rw [List.all_eq_true] at h2
      generalize fs.toList = l at h2 ⊢
      induction l with
      | nil => rfl
      | cons f l il =>
        rw [List.foldr_cons, List.foldr_cons, il (fun g hg => h2 g (List.mem_cons_of_mem _ hg))]
        have := fun a b => ih f.type a b (h2 f List.mem_cons_self)
        simp only [this]
        rfl
    all_goals rfl
section
variable {P : Program} {l : List Oper} {c : List (List Nat)} {m nt : Nat} {σ σ0 σ1 : St} {K : Fr → Prop} {i : Nat} {fr : Fr} {rest : List Oper} {t : Tmp} {op : Op} {ty : TypeId} {pos : String} {aft : Array Edge} {av : AV}
theorem dxe {et et' : TypeId} {x y : Operand} {xs ys : List AV} {r : Bool} (h : DJ P l c m σ0 σ1 K (i + 1) rest ((t, .v (.bool r)) :: fr)) (him : Nat.beq i m = false := by exact rfl) (hx : ev fr x = some (.agg xs) := by exact rfl) (hy : ev fr y = some (.agg ys) := by exact rfl) (he : eqN P 5 et (.agg xs) (.agg ys) = some r := by exact rfl) (hgt : P.eqGuardType P.depth et = false := by kernel_rfl) (hnh : noHeld P 5 et = true := by kernel_rfl) : DJ P l c m σ0 σ1 K i (⟨some t, .binOp .eql et x y et', ty, pos, aft, none⟩ :: rest) fr := dj_store (fun _ R hR => opj_eq_agg rfl hx hy hgt (by decide) ((eqN_eqV _ _ _ _ hnh).symm.trans he) hR) him h
theorem jxe {ops : Array Oper} {Q : Post} {et et' : TypeId} {x y : Operand} {xs ys : List AV} {r : Bool} (h : LJ P nt ops Q rest ((t, .v (.bool r)) :: fr) σ) (hx : ev fr x = some (.agg xs) := by exact rfl) (hy : ev fr y = some (.agg ys) := by exact rfl) (he : eqN P 5 et (.agg xs) (.agg ys) = some r := by exact rfl) (hgt : P.eqGuardType P.depth et = false := by kernel_rfl) (hnh : noHeld P 5 et = true := by kernel_rfl) (hd : fits nt (some t) = true := by exact rfl) : LJ P nt ops Q (⟨some t, .binOp .eql et x y et', ty, pos, aft, none⟩ :: rest) fr σ := lj_v hd (fun R hR => opj_eq_agg rfl hx hy hgt (by decide) ((eqN_eqV _ _ _ _ hnh).symm.trans he) hR) h
theorem dxn {et et' : TypeId} {x y : Operand} {xs ys : List AV} {r : Bool} (h : DJ P l c m σ0 σ1 K (i + 1) rest ((t, .v (.bool (!r))) :: fr)) (him : Nat.beq i m = false := by exact rfl) (hx : ev fr x = some (.agg xs) := by exact rfl) (hy : ev fr y = some (.agg ys) := by exact rfl) (he : eqN P 5 et (.agg xs) (.agg ys) = some r := by exact rfl) (hgt : P.eqGuardType P.depth et = false := by kernel_rfl) (hnh : noHeld P 5 et = true := by kernel_rfl) : DJ P l c m σ0 σ1 K i (⟨some t, .binOp .neq et x y et', ty, pos, aft, none⟩ :: rest) fr := dj_store (fun _ R hR => opj_ne_agg rfl hx hy hgt (by decide) ((eqN_eqV _ _ _ _ hnh).symm.trans he) hR) him h
theorem jxn {ops : Array Oper} {Q : Post} {et et' : TypeId} {x y : Operand} {xs ys : List AV} {r : Bool} (h : LJ P nt ops Q rest ((t, .v (.bool (!r))) :: fr) σ) (hx : ev fr x = some (.agg xs) := by exact rfl) (hy : ev fr y = some (.agg ys) := by exact rfl) (he : eqN P 5 et (.agg xs) (.agg ys) = some r := by exact rfl) (hgt : P.eqGuardType P.depth et = false := by kernel_rfl) (hnh : noHeld P 5 et = true := by kernel_rfl) (hd : fits nt (some t) = true := by exact rfl) : LJ P nt ops Q (⟨some t, .binOp .neq et x y et', ty, pos, aft, none⟩ :: rest) fr σ := lj_v hd (fun R hR => opj_ne_agg rfl hx hy hgt (by decide) ((eqN_eqV _ _ _ _ hnh).symm.trans he) hR) h
end
end Go.Proofs.YtbpoeggmpjepfaaDoor.Ab
