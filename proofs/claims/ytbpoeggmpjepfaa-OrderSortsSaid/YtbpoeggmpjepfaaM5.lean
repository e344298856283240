/- The texts AbFc, AbAp, one behind the other. -/
import Derived.Test.YtbpoeggmpjepfaaM1
import Derived.Test.YtbpoeggmpjepfaaM2
import Derived.Test.YtbpoeggmpjepfaaM3
import Derived.Test.YtbpoeggmpjepfaaM4
/- Abstract values over the model's memory: a row of our own inside a variable of our own, written no more. -/
set_option linter.unusedVariables false
set_option linter.unusedSimpArgs false
set_option maxRecDepth 20000
namespace Go.Proofs.Ytbpoeggmpjepfaa.Ab
open Go
theorem ghost_freezecell {b sz j w szw len : Nat} {et etw : TypeId} {cs : List AV} {els : List (List AV)} {fr : Fr} {σ : St} {K : Fr → St → Prop} (hσ : σ b = some (.row sz et [cs])) (hj : cs[j]? = some (.osl w szw 0 len)) (hw : σ w = some (.row szw etw els)) (hl : len = els.length) (hpos : 0 < szw) (hne : w ≠ b) (h : K fr ((σ.del w).set b (.row sz et [cs.set j (.sl none false szw els)]))) : Ghost fr σ K := fun k tmps hk1 hk hfr => by
  subst hk1
  obtain ⟨hok, hst⟩ := hk.forget (St.del_le k.σ w)
  have hσ1 : ({ k with σ := k.σ.del w } : Cx).σ b = some (.row sz et [cs]) := by
    show (k.σ.del w) b = _
    unfold St.del
    rw [if_neg (Ne.symm hne)]; exact hσ
  have hobj : ObjOk { k with σ := k.σ.del w } b (.row sz et [cs.set j (.sl none false szw els)]) := by
    rcases hk.obj b _ hσ with ⟨_, h2⟩ | ⟨blk, vs, h1, h2, h3, h4, h5⟩
    · cases h2
    · refine .inr ⟨blk, vs, h1, h2, fun i e he => ?_, by simpa using h4, fun i jj e a he ha => ?_⟩
      · cases i with
        | zero => simp at he; subst he; rw [List.length_set]; exact h3 0 cs rfl
        | succ i => simp at he
      · cases i with
        | zero =>
          simp at he
          subst he
          by_cases hjj : jj = j
          · subst hjj
            have hlt := (List.getElem?_eq_some_iff.1 hj).1
            rw [List.getElem?_set_self hlt] at ha
            cases ha
            obtain ⟨u, h6, h7, h8⟩ := h5 0 jj cs _ rfl hj
            refine ⟨u, h6, h7, ?_⟩
            have := rep_freeze hk h8 hw (by omega) hpos
            rw [List.drop_zero, hl, List.take_length] at this
            exact this
          · rw [List.getElem?_set_ne (Ne.symm hjj)] at ha
            obtain ⟨u, h6, h7, h8⟩ := h5 0 jj cs a rfl ha
            exact ⟨u, h6, h7, h8.step hst⟩
        | succ i => simp at he
  obtain ⟨hok2, hst2⟩ := Ok.redesc (k := { k with σ := k.σ.del w }) hok hσ1 hobj
  exact ⟨{ k with σ := (k.σ.del w).set b (.row sz et [cs.set j (.sl none false szw els)]) }, fr, rfl, hok2, hst.trans hst2, fun x a hx => by
    obtain ⟨u, hu, hr⟩ := hfr x a hx
    exact ⟨u, hu, hr.step (hst.trans hst2)⟩, h⟩
theorem cj_freezecell {P : Program} {nt : Nat} {Q : Post} {fr : Fr} {σ : St} {c : Code} {b sz w szw len : Nat} {et etw : TypeId} {cs : List AV} (t j : Nat) (els : List (List AV)) (h : CJ P nt c Q fr ((σ.del w).set b (.row sz et [cs.set j (.sl none false szw els)]))) (hl : len = els.length) (hne : w ≠ b) (ht : lk fr t = some (.ptr b sz 0 0) := by exact rfl) (hσ : σ b = some (.row sz et [cs]) := by exact lkp) (hj : cs[j]? = some (.osl w szw 0 len) := by exact rfl) (hw : σ w = some (.row szw etw els) := by exact lkp) (hpos : Nat.blt 0 szw = true := by exact rfl) : CJ P nt c Q fr σ := cj_ghost (ghost_freezecell hσ hj hw hl (Nat.blt_eq.mp hpos) hne h)
theorem lj_freezecell {P : Program} {nt : Nat} {ops : Array Oper} {Q : Post} {fr : Fr} {σ : St} {c : List Oper} {b sz w szw len : Nat} {et etw : TypeId} {cs : List AV} (t j : Nat) (els : List (List AV)) (h : LJ P nt ops Q c fr ((σ.del w).set b (.row sz et [cs.set j (.sl none false szw els)]))) (hl : len = els.length) (hne : w ≠ b) (ht : lk fr t = some (.ptr b sz 0 0) := by exact rfl) (hσ : σ b = some (.row sz et [cs]) := by exact lkp) (hj : cs[j]? = some (.osl w szw 0 len) := by exact rfl) (hw : σ w = some (.row szw etw els) := by exact lkp) (hpos : Nat.blt 0 szw = true := by exact rfl) : LJ P nt ops Q c fr σ := lj_ghost (ghost_freezecell hσ hj hw hl (Nat.blt_eq.mp hpos) hne h)
def FinLL (σ σ' : St) (sz : Nat) : List (List AV) → List (List AV) → Prop
  | [], [] => True
  | a :: as', b :: bs => (FinL σ σ' a b ∧ b.length = sz) ∧ FinLL σ σ' sz as' bs
  | _, _ => False
theorem FinLL.get {σ σ' : St} {sz : Nat} : ∀ {as' bs : List (List AV)}, FinLL σ σ' sz as' bs → bs.length = as'.length ∧ ∀ (i : Nat) e', bs[i]? = some e' → e'.length = sz ∧ ∀ e, as'[i]? = some e → FinL σ σ' e e'
  | [], [], _ => ⟨rfl, fun i e h => by simp at h⟩
  | a :: as', b :: bs, h => by
    obtain ⟨h1, h2⟩ := FinLL.get h.2
    refine ⟨by rw [List.length_cons, List.length_cons, h1], fun i e' he' => ?_⟩
    cases i with
    | zero => cases he'; exact ⟨h.1.2, fun e he => by cases he; exact h.1.1⟩
    | succ i => exact h2 i e' he'
theorem fin_sll {σ σ' : St} {nl : Option Bool} {full : Bool} {sz : Nat} {els els' : List (List AV)} (h : FinLL σ σ' sz els els') : Fin σ σ' (.sl nl full sz els) (.sl none false sz els') :=
  .sl h.get.1 (fun i e he => (h.get.2 i e he).1) fun i j e a e' a' he ha he' ha' => ((h.get.2 i e' he').2 e he).get.2 j a a' ha ha'
theorem finll_nil {σ σ' : St} {sz : Nat} : FinLL σ σ' sz [] [] := trivial
theorem finll_cons {σ σ' : St} {sz : Nat} {a b : List AV} {as' bs : List (List AV)} (h : FinL σ σ' a b) (hb : b.length = sz) (h' : FinLL σ σ' sz as' bs) : FinLL σ σ' sz (a :: as') (b :: bs) := ⟨⟨h, hb⟩, h'⟩
theorem St.leX_setk {id w : Nat} {σ τ : St} {o : AObj} (h : St.leX id σ τ) : St.leX id (σ.set w o) (τ.set w o) := fun y hy v hv => by
  by_cases hw : y = w
  · subst hw; rw [St.set_same] at hv ⊢; exact hv
  · rw [St.set_ne _ _ _ hw] at hv ⊢; exact h y hy v hv
theorem St.del_ne {σ : St} {w x : Nat} (h : w ≠ x) : (σ.del w) x = σ x := by
  unfold St.del
  rw [if_neg (Ne.symm h)]
theorem St.leX_del {id w : Nat} {σ τ : St} (h : St.leX id σ τ) (hw : σ w = none) : St.leX id σ (τ.del w) := fun y hy v hv => by
  have hx : y ≠ w := fun e => by rw [e, hw] at hv; cases hv
  unfold St.del
  rw [if_neg hx]; exact h y hy v hv
theorem St.del_set2 {τ : St} {w b : Nat} {R X Y : AObj} (hw : τ w = none) (hne : w ≠ b) : ((((τ.set w R).set b X).del w).set b Y) = τ.set b Y := by
  funext y
  by_cases hy : y = b
  · subst hy; rw [St.set_same, St.set_same]
  · rw [St.set_ne _ _ _ hy, St.set_ne _ _ _ hy]
    unfold St.del
    split
    · rename_i h; rw [h, hw]
    · rename_i h; rw [St.set_ne _ _ _ hy, St.set_ne _ _ _ h]
end Go.Proofs.Ytbpoeggmpjepfaa.Ab

/- Abstract values over the model's memory: append on a nil slice whose kind was not told. -/
set_option linter.unusedVariables false
set_option linter.unusedSimpArgs false
set_option maxRecDepth 20000
namespace Go.Proofs.Ytbpoeggmpjepfaa.Ab
open Go
def reNil (sz : Nat) : Option AV → Option AV
  | some (.sl (some true) f s []) => some (.sl (some true) f sz [])
  | r => r
theorem reNil_rep {k : Cx} {sz : Nat} {r : Option AV} {a : AV} {u : Value} (h : ∀ b, r = some b → Rep k b u) (ha : reNil sz r = some a) : Rep k a u := by
  unfold reNil at ha
  split at ha
  · rename_i f s
    have h1 := h _ rfl
    cases ha
    cases h1 with
    | slnil hn => exact .slnil hn
    | sle hn => exact absurd rfl hn
    | sl hn => exact absurd rfl hn
  · exact h a ha
theorem OpJ.renil {P : Program} {o : Oper} {E : Operand → Option AV} {σ : St} {R : Option AV → St → Prop} (sz : Nat) (h : OpJ P o (fun z => reNil sz (E z)) σ R) : OpJ P o E σ R := fun k e hσ hk hr =>
  h k e hσ hk fun x hx a ha => reNil_rep (fun b hb => hr x hx b hb) ha
section
variable {P : Program} {nt : Nat} {ops : Array Oper} {Q : Post} {l : List Oper} {c : List (List Nat)} {m n0 : Nat} {kp : Bool} {bs : List Nat} {σ σ0 σ1 : St} {K : Fr → Prop} {K2 : Fr → St → Prop} {i : Nat} {fr : Fr} {rest : List Oper} {t : Tmp} {ty : TypeId} {pos : String} {aft : Array Edge}
theorem jap0 (by_ : Nat) {lt et : TypeId} {sz : Nat} {x y : Operand} {nl : Option Bool} {full : Bool} {els news : List (List AV)} {ts : Array TypeId} {a : AV} {all : List (List AV)} (h : LJ P nt ops Q rest ((t, .sl none false sz all) :: fr) σ) (hd : fits nt (some t) = true := by exact rfl) (hts : ts = #[lt, lt] := by exact rfl) (ht : P.underlying lt = some (.slice et) := by exact rfl) (hsz : sizeIs P et = some sz := by exact rfl) (hz : (zeroIs P et).map (·.length) = some sz := by exact rfl) (hpos : Nat.blt 0 sz = true := by exact rfl) (hby : bytesIs P et = some by_ := by exact rfl) (hb1 : Nat.blt 0 by_ = true := by exact rfl) (hx : reNil sz (ev fr x) = some (.sl nl full sz els) := by exact rfl) (hfull : full = true ∨ nl = some true := by first | exact .inl rfl | exact .inr rfl) (hy : reNil sz (ev fr y) = some a := by exact rfl) (hs : ∀ σ', srcOf σ' a = some (sz, news) := by exact fun _ => rfl) (hb : (els.length + news.length) * by_ ≤ 140737488355328 := by first | omega | (simp only [length_bys, length_chunk, List.length_nil, List.length_cons, List.length_map, Nat.mul_one]; omega)) (hall : els ++ news = all := by (first | exact List.nil_append _ | exact rfl)) : LJ P nt ops Q (⟨some t, .call { callee := .builtin .append, args := #[x, y], argTypes := ts }, ty, pos, aft, none⟩ :: rest) fr σ := by
  subst hall
  exact lj_v hd (fun R hR => OpJ.renil sz (OpJ.weak (opj_append_sl rfl hts (elem_of ht hsz hz hpos) hby hx hfull hy (hs σ) hb (Nat.blt_eq.mp hb1) (fun h0 => ⟨rfl, _, rfl, by rw [h0, List.append_nil]; exact Wk.sl _ _ _ _⟩) (fun _ => ⟨rfl, _, rfl, Wk.sl _ _ _ _⟩)) hR)) h
theorem dap0 (by_ : Nat) {lt et : TypeId} {sz : Nat} {x y : Operand} {nl : Option Bool} {full : Bool} {els news : List (List AV)} {ts : Array TypeId} {a : AV} {all : List (List AV)} (h : DJ P l c m σ0 σ1 K (i + 1) rest ((t, .sl none false sz all) :: fr)) (him : Nat.beq i m = false := by exact rfl) (hts : ts = #[lt, lt] := by exact rfl) (ht : P.underlying lt = some (.slice et) := by exact rfl) (hsz : sizeIs P et = some sz := by exact rfl) (hz : (zeroIs P et).map (·.length) = some sz := by exact rfl) (hpos : Nat.blt 0 sz = true := by exact rfl) (hby : bytesIs P et = some by_ := by exact rfl) (hb1 : Nat.blt 0 by_ = true := by exact rfl) (hx : reNil sz (ev fr x) = some (.sl nl full sz els) := by exact rfl) (hfull : full = true ∨ nl = some true := by first | exact .inl rfl | exact .inr rfl) (hy : reNil sz (ev fr y) = some a := by exact rfl) (hs : ∀ σ', srcOf σ' a = some (sz, news) := by exact fun _ => rfl) (hb : (els.length + news.length) * by_ ≤ 140737488355328 := by first | omega | (simp only [length_bys, length_chunk, List.length_nil, List.length_cons, List.length_map, Nat.mul_one]; omega)) (hall : els ++ news = all := by (first | exact List.nil_append _ | exact rfl)) : DJ P l c m σ0 σ1 K i (⟨some t, .call { callee := .builtin .append, args := #[x, y], argTypes := ts }, ty, pos, aft, none⟩ :: rest) fr := by
  subst hall
  exact dj_v him (fun R hR => OpJ.renil sz (OpJ.weak (opj_append_sl rfl hts (elem_of ht hsz hz hpos) hby hx hfull hy (hs σ0) hb (Nat.blt_eq.mp hb1) (fun h0 => ⟨rfl, _, rfl, by rw [h0, List.append_nil]; exact Wk.sl _ _ _ _⟩) (fun _ => ⟨rfl, _, rfl, Wk.sl _ _ _ _⟩)) hR)) (fun R hR => OpJ.renil sz (OpJ.weak (opj_append_sl rfl hts (elem_of ht hsz hz hpos) hby hx hfull hy (hs σ1) hb (Nat.blt_eq.mp hb1) (fun h0 => ⟨rfl, _, rfl, by rw [h0, List.append_nil]; exact Wk.sl _ _ _ _⟩) (fun _ => ⟨rfl, _, rfl, Wk.sl _ _ _ _⟩)) hR)) h
theorem aap0 (by_ : Nat) {lt et : TypeId} {sz : Nat} {x y : Operand} {nl : Option Bool} {full : Bool} {els news : List (List AV)} {ts : Array TypeId} {a : AV} {all : List (List AV)} (h : DA P l c n0 kp bs σ K2 (i + 1) rest ((t, .sl none false sz all) :: fr)) (hbs : inN i bs = false := by exact rfl) (hts : ts = #[lt, lt] := by exact rfl) (ht : P.underlying lt = some (.slice et) := by exact rfl) (hsz : sizeIs P et = some sz := by exact rfl) (hz : (zeroIs P et).map (·.length) = some sz := by exact rfl) (hpos : Nat.blt 0 sz = true := by exact rfl) (hby : bytesIs P et = some by_ := by exact rfl) (hb1 : Nat.blt 0 by_ = true := by exact rfl) (hx : reNil sz (ev fr x) = some (.sl nl full sz els) := by exact rfl) (hfull : full = true ∨ nl = some true := by first | exact .inl rfl | exact .inr rfl) (hy : reNil sz (ev fr y) = some a := by exact rfl) (hs : ∀ σ', srcOf σ' a = some (sz, news) := by exact fun _ => rfl) (hb : (els.length + news.length) * by_ ≤ 140737488355328 := by first | omega | (simp only [length_bys, length_chunk, List.length_nil, List.length_cons, List.length_map, Nat.mul_one]; omega)) (hall : els ++ news = all := by (first | exact List.nil_append _ | exact rfl)) : DA P l c n0 kp bs σ K2 i (⟨some t, .call { callee := .builtin .append, args := #[x, y], argTypes := ts }, ty, pos, aft, none⟩ :: rest) fr := by
  subst hall
  exact da_v hbs (fun σ' R hR => OpJ.renil sz (OpJ.weak (opj_append_sl rfl hts (elem_of ht hsz hz hpos) hby hx hfull hy (hs σ') hb (Nat.blt_eq.mp hb1) (fun h0 => ⟨rfl, _, rfl, by rw [h0, List.append_nil]; exact Wk.sl _ _ _ _⟩) (fun _ => ⟨rfl, _, rfl, Wk.sl _ _ _ _⟩)) hR)) h
end
end Go.Proofs.Ytbpoeggmpjepfaa.Ab
