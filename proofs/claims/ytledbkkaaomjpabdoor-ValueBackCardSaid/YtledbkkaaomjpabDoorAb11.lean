/- Abstract values over the model's memory, 11: what a call hands back: rows of its own become slices that nobody writes. -/
import Derived.Test.YtledbkkaaomjpabDoorAb10
set_option linter.unusedVariables false
set_option linter.unusedSimpArgs false
namespace Go.Proofs.YtledbkkaaomjpabDoor.Ab
open Go

/-- b says less than a. -/
def Wk (a b : AV) : Prop := ∀ (k : Cx) (u : Value), Rep k a u → Rep k b u
theorem Wk.refl (a : AV) : Wk a a := fun _ _ h => h
theorem Wk.of_eq {a b : AV} (h : a = b) : Wk a b := h ▸ Wk.refl a
theorem Wk.sl (nl : Option Bool) (full : Bool) (sz : Nat) (els : List (List AV)) : Wk (.sl nl full sz els) (.sl none false sz els) := fun k u h => by
  cases h with
  | slnil hn => exact .slnil (by simp)
  | sle hn => exact .sle (by simp)
  | sl hn hc hm hf hsz hfr hw h => exact .sl (by simp) hc hm (by simp) hsz hfr hw h
theorem Wk.nil (nl : Option Bool) (full : Bool) (sz sz' : Nat) : Wk (.sl nl full sz []) (.sl none false sz' []) := fun k u h => by
  cases h with
  | slnil hn => exact .slnil (by simp)
  | sle hn => exact .sle (by simp)
  | @sl _ _ _ _ b o cap f hn hc hm hf hsz hfr hw h => exact .sl (els := []) (f := f) (by simp) hc hm (by simp) (fun i e h => by simp at h) (fun h => absurd rfl h) (fun i j e a h => by simp at h) (fun i j e a h => by simp at h)
/-- σ: what is kept; σ': what there is now. -/
inductive Fin (σ σ' : St) : AV → AV → Prop
  | wk {a b : AV} (h : Wk a b) : Fin σ σ' a b
  | tup {as bs : List AV} (hl : as.length = bs.length) (h : ∀ (j : Nat) a b, as[j]? = some a → bs[j]? = some b → Fin σ σ' a b) : Fin σ σ' (.tup as) (.tup bs)
  | agg {as bs : List AV} (hl : as.length = bs.length) (h : ∀ (j : Nat) a b, as[j]? = some a → bs[j]? = some b → Fin σ σ' a b) : Fin σ σ' (.agg as) (.agg bs)
  | fz {id sz off len : Nat} {et : TypeId} {els els' : List (List AV)} (h1 : σ' id = some (.row sz et els)) (h2 : σ id = none) (h3 : off + len ≤ els.length) (h4 : 0 < sz) (h5 : els'.length = len) (h6 : ∀ (i : Nat) e, els'[i]? = some e → e.length = sz)
      (h7 : ∀ (i j : Nat) e a e' a', els[off + i]? = some e → e[j]? = some a → els'[i]? = some e' → e'[j]? = some a' → Fin σ σ' a a') : Fin σ σ' (.osl id sz off len) (.sl none false sz els')
  | sl {nl : Option Bool} {full : Bool} {sz : Nat} {els els' : List (List AV)} (h5 : els'.length = els.length) (h6 : ∀ (i : Nat) e, els'[i]? = some e → e.length = sz)
      (h7 : ∀ (i j : Nat) e a e' a', els[i]? = some e → e[j]? = some a → els'[i]? = some e' → e'[j]? = some a' → Fin σ σ' a a') : Fin σ σ' (.sl nl full sz els) (.sl none false sz els')
theorem Fin.refl (σ σ' : St) (a : AV) : Fin σ σ' a a := .wk (Wk.refl a)
theorem Fin.fz0 {σ σ' : St} {id sz off len : Nat} {et : TypeId} {els : List (List AV)} (h1 : σ' id = some (.row sz et els)) (h2 : σ id = none) (h3 : off + len ≤ els.length) (h4 : 0 < sz) (h6 : ∀ (i : Nat) e, els[i]? = some e → e.length = sz) : Fin σ σ' (.osl id sz off len) (.sl none false sz ((els.drop off).take len)) := by
  refine .fz h1 h2 h3 h4 (by simp; omega) (fun i e h => ?_) (fun i j e a e' a' he ha he' ha' => ?_)
  · rw [List.getElem?_take] at h
    split at h
    · rw [List.getElem?_drop] at h; exact h6 _ e h
    · cases h
  · rw [List.getElem?_take] at he'
    split at he'
    · rw [List.getElem?_drop] at he'
      rw [he'] at he; cases he
      rw [ha'] at ha; cases ha
      exact Fin.refl _ _ _
    · cases he'
theorem Fin.rep {σ σ' : St} {a b : AV} (h : Fin σ σ' a b) : ∀ {k : Cx} {u : Value}, Ok k → k.σ = σ' → σ.le σ' → Rep k a u → Rep { k with σ := σ } b u := by
  induction h with
  | wk h =>
    intro k u hk hσ hle hr
    subst hσ
    exact h _ _ (hr.step (hk.forget hle).2)
  | tup hl h ih =>
    rename_i as bs
    intro k u hk hσ hle hr
    cases hr with
    | tup hl' h' =>
      refine .tup (by omega) (fun j b v hb hv => ?_)
      have hj : j < as.length := by rw [hl]; exact (List.getElem?_eq_some_iff.1 hb).1
      have ha : as[j]? = some as[j] := by simp [hj]
      exact ih j _ b ha hb hk hσ hle (h' j _ v ha hv)
  | agg hl h ih =>
    rename_i as bs
    intro k u hk hσ hle hr
    cases hr with
    | agg hl' h1' h' =>
      refine .agg (by omega) h1' (fun j b v hb hv => ?_)
      have hj : j < as.length := by rw [hl]; exact (List.getElem?_eq_some_iff.1 hb).1
      have ha : as[j]? = some as[j] := by simp [hj]
      exact ih j _ b ha hb hk hσ hle (h' j _ v ha hv)
  | @sl nl full sz els els' h5 h6 h7 ih =>
    intro k u hk hσ hle hr
    have hst : Step k { k with σ := σ } := by subst hσ; exact (hk.forget hle).2
    cases hr with
    | slnil hn =>
      have : els' = [] := List.eq_nil_of_length_eq_zero (by simpa using h5)
      subst this
      exact .slnil (by simp)
    | sle hn =>
      have : els' = [] := List.eq_nil_of_length_eq_zero (by simpa using h5)
      subst this
      exact .sle (by simp)
    | @sl _ _ _ _ b o cap f hn hc hm hf hsz hfr hw hcc =>
      rw [← h5]
      have hget : ∀ (i j : Nat) e' a', els'[i]? = some e' → e'[j]? = some a' → ∃ e a, els[i]? = some e ∧ e[j]? = some a := fun i j e' a' he ha => by
        have hi : i < els.length := by rw [← h5]; exact (List.getElem?_eq_some_iff.1 he).1
        have hei : els[i]? = some els[i] := by simp [hi]
        have hj : j < els[i].length := by rw [hsz i _ hei, ← h6 i e' he]; exact (List.getElem?_eq_some_iff.1 ha).1
        exact ⟨_, _, hei, List.getElem?_eq_getElem hj⟩
      refine .sl (f := f) (by simp) (by omega) (by omega) (by simp) h6 (fun hne => ?_) (fun i j e' a' he ha => ?_) (fun i j e' a' he ha => ?_)
      · have hne' : els ≠ [] := fun h => hne (List.eq_nil_of_length_eq_zero (by rw [h5, h]; rfl))
        exact ⟨(hfr hne').1, (hst.frz b (hfr hne').1 (hfr hne').2).2⟩
      · obtain ⟨e, a, h8, h9⟩ := hget i j e' a' he ha
        exact hw i j e a h8 h9
      · obtain ⟨e, a, h8, h9⟩ := hget i j e' a' he ha
        exact ih i j e a e' a' h8 h9 he ha hk hσ hle (hcc i j e a h8 h9)
  | @fz id sz off len et els els' h1 h2 h3 h4 h5 h6 h7 ih =>
    intro k u hk hσ hle hr
    have hst : Step k { k with σ := σ } := by subst hσ; exact (hk.forget hle).2
    have h1' : k.σ id = some (.row sz et els) := by rw [hσ]; exact h1
    have hid : k.σ id ≠ none := by rw [h1']; simp
    cases hr with
    | oslnil =>
      have : els' = [] := List.eq_nil_of_length_eq_zero h5
      subst this
      exact .slnil (by simp)
    | @osl _ _ _ _ b cap p ht hb hp hl' hm hfit =>
      obtain ⟨cs, hh1, hh2⟩ := (hk.obj id _ h1').row hb
      have hget : ∀ (i j : Nat) e' a', els'[i]? = some e' → e'[j]? = some a' → ∃ e a v, els[off + i]? = some e ∧ e[j]? = some a ∧ cs[(off + i) * sz + j]? = some v ∧ v.oneCell' = true ∧ Rep k a v := fun i j e' a' he ha => by
        have hi : i < len := by rw [← h5]; exact (List.getElem?_eq_some_iff.1 he).1
        have hlt : off + i < els.length := by omega
        have hei : els[off + i]? = some els[off + i] := by simp [hlt]
        have hj : j < els[off + i].length := by rw [hh2.1 _ _ hei, ← h6 i e' he]; exact (List.getElem?_eq_some_iff.1 ha).1
        obtain ⟨v, h8, h9, h10⟩ := hh2.2.2 (off + i) j _ _ hei (List.getElem?_eq_getElem hj)
        exact ⟨_, _, v, hei, List.getElem?_eq_getElem hj, by simpa [← Array.getElem?_toList] using h8, h9, h10⟩
      have hgoal : Rep { k with σ := σ } (.sl none false sz els') (.slice (some ⟨b, p, none⟩) els'.length cap) := by
        refine .sl (f := fun i j => (cs[(off + i) * sz + j]?).getD undef) (by simp) (by omega) (by omega) (by simp) h6 (fun _ => ⟨(hk.bas id b hid hb).2, ?_⟩) (fun i j e' a' he ha => ?_) (fun i j e' a' he ha => ?_)
        · rintro ⟨x, h8, h9⟩
          have hx : x ≠ id := fun e => by subst e; exact h8 h2
          have h10 : k.σ x ≠ none := by
            rw [hσ]
            cases ho : σ x with
            | none => exact absurd ho h8
            | some o => rw [hle x o ho]; simp
          exact hx (hk.inj x id b h10 hid h9 hb)
        · obtain ⟨e, a, v, h8, h9, h10, h11, h12⟩ := hget i j e' a' he ha
          have hi : i < len := by rw [← h5]; exact (List.getElem?_eq_some_iff.1 he).1
          have hpo := hp (by omega)
          subst hpo
          simp only [h10, Option.getD_some]
          refine ⟨?_, h11⟩
          show k.w.cell? _ = _
          have e1 : off * sz + (i * sz + j) = (off + i) * sz + j := by rw [Nat.add_mul]; omega
          rw [e1, cell_of_row k.w b _ cs et (0, 0) hh1]
          exact h10
        · obtain ⟨e, a, v, h8, h9, h10, h11, h12⟩ := hget i j e' a' he ha
          simp only [h10, Option.getD_some]
          exact ih i j e a e' a' h8 h9 he ha hk hσ hle h12
      rw [h5] at hgoal
      exact hgoal
section
variable {P : Program} {σ : St}
/-- The end of a call that answers r and keeps σ. -/
def Gives (σ : St) (r : AV) : AEnd → St → Prop := fun e σ' => ∃ r0, e = .ret r0 ∧ σ.le σ' ∧ Fin σ σ' r0 r
theorem gives {σ' : St} {r r0 : AV} (hle : σ.le σ') (hf : Fin σ σ' r0 r) : Gives σ r (.ret r0) σ' := ⟨r0, rfl, hle, hf⟩
theorem acalls_gives {f : FuncId} {args : List AV} {σ0 : St} {r : AV} (h : ACalls P f args σ0 (Gives σ r)) : ACalls P f args σ0 (fun e σ' => e = .ret r ∧ σ' = σ) := fun k vs hσ hk hv =>
  (h k vs hσ hk hv).mono fun e w' ⟨k', e', h1, h2, h3, h4, r0, h5, h6, h7⟩ => by
    subst h5
    cases e with
    | returned v =>
      obtain ⟨h8, h9⟩ := h2.forget h6
      exact ⟨{ k' with σ := σ }, .ret r, h1, h8, h3.trans h9, h7.rep h2 rfl h6 h4, rfl, rfl⟩
    | panicked ch => exact h4.elim
    | outgrown => exact h4.elim
theorem enterW {f : FuncId} {fn : Func} {c : Code} {n : Nat} {rs : List ResultVar} {args : List AV} {r : AV} (hf : P.funcs[f]? = some fn) (hb : fn.body = some c) (hn : fn.ntmps = n) (hr : fn.results.toList = rs) (hl : Nat.ble args.length n = true)
    (h : ∀ σ, CJ P n c (endR P rs (Gives σ r)) (frOf 0 args) σ) : Pure P f args r := fun σ =>
  (acalls_gives (enter hf hb hn hr hl (h σ))).mono fun e σ' ⟨h1, h2⟩ => ⟨h1, h2 ▸ St.le_refl _⟩
/-- Into σ1 (what the call leaves). -/
theorem enterS {f : FuncId} {fn : Func} {c : Code} {n : Nat} {rs : List ResultVar} {args : List AV} {r : AV} {σ1 : St} (hf : P.funcs[f]? = some fn) (hb : fn.body = some c) (hn : fn.ntmps = n) (hr : fn.results.toList = rs) (hl : Nat.ble args.length n = true)
    (h : CJ P n c (endR P rs (Gives σ1 r)) (frOf 0 args) σ) : ACalls P f args σ (fun e σ' => e = .ret r ∧ σ' = σ1) := acalls_gives (enter hf hb hn hr hl h)
theorem Pure.wk {f : FuncId} {args : List AV} {r r' : AV} (h : Pure P f args r) (hw : Wk r r') : Pure P f args r' := fun σ k vs hσ hk hv =>
  (h σ k vs hσ hk hv).mono fun e w' ⟨k', e', h1, h2, h3, h4, h5, h6⟩ => by
    subst h5
    cases e with
    | returned v => exact ⟨k', .ret r', h1, h2, h3, hw _ _ h4, rfl, h6⟩
    | panicked ch => exact h4.elim
    | outgrown => exact h4.elim
theorem fin_two {σ' : St} {a b c d : AV} (h : Fin σ σ' a c) (h' : Fin σ σ' b d) : Fin σ σ' (packed [a, b]) (.tup [c, d]) := .tup rfl fun j x y hx hy => by
  match j with
  | 0 => simp at hx hy; subst hx; subst hy; exact h
  | 1 => simp at hx hy; subst hx; subst hy; exact h'
  | j + 2 => simp at hx
theorem fin_three {σ' : St} {a b c d e f : AV} (h : Fin σ σ' a d) (h' : Fin σ σ' b e) (h'' : Fin σ σ' c f) : Fin σ σ' (packed [a, b, c]) (.tup [d, e, f]) := .tup rfl fun j x y hx hy => by
  match j with
  | 0 => simp at hx hy; subst hx; subst hy; exact h
  | 1 => simp at hx hy; subst hx; subst hy; exact h'
  | 2 => simp at hx hy; subst hx; subst hy; exact h''
  | j + 3 => simp at hx
theorem fin_one {σ' : St} {a b : AV} (h : Fin σ σ' a b) : Fin σ σ' (packed [a]) b := h
end
end Go.Proofs.YtledbkkaaomjpabDoor.Ab
