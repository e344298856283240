/- What came in, opened: from the row's own reading to abstract values, for any type of numbers, strings, bools, structs, arrays and slices. -/
import Derived.Test.YtledbkkaaomjpabDoorG1
import Derived.Lib.SmallJoins
set_option linter.unusedVariables false
set_option linter.unusedSimpArgs false
namespace Go.Proofs.YtledbkkaaomjpabDoor.Ab
open Go Go.RowKit

def inFields (P : Program) (R : TypeId → List AV → Prop) : List Field → List AV → Prop
  | [], cs => cs = []
  | f :: fs, cs => ∃ a b, cs = a ++ b ∧ a.length = P.cellsOf f.type ∧ R f.type a ∧ inFields P R fs b
def inElems (R : List AV → Prop) (sz : Nat) : Nat → List AV → Prop
  | 0, cs => cs = []
  | n + 1, cs => ∃ a b, cs = a ++ b ∧ a.length = sz ∧ R a ∧ inElems R sz n b
/-- The cells of a value of type t. -/
def isAV (P : Program) : Nat → TypeId → List AV → Prop
  | 0, _, _ => False
  | n + 1, t, cs => match P.underlying t with
    | some .bool => ∃ b, cs = [.v (.bool b)]
    | some (.int k) => ∃ m, cs = [.v (.int k m)] ∧ (Lit.int k m).wf = true
    | some .string => ∃ s, cs = [.v (.string s)] ∧ s.size ≤ maxLen
    | some (.slice e) => ∃ els, cs = [.sl none false (P.cellsOf e) els] ∧ els.length ≤ maxLen ∧ ∀ el ∈ els, el.length = P.cellsOf e ∧ isAV P n e el
    | some (.struct fs) => inFields P (isAV P n) fs.toList cs
    | some (.array m e) => inElems (isAV P n e) (P.cellsOf e) m cs
    | _ => False
def tile (P : Program) : List Field → Nat → Option Nat
  | [], o => some o
  | f :: fs, o => if f.offset = o then tile P fs (o + P.cellsOf f.type) else none
/-- Types that are opened so. -/
def plainT (P : Program) : Nat → TypeId → Bool
  | 0, _ => false
  | n + 1, t => match P.underlying t with
    | some .bool | some (.int _) | some .string => true
    | some (.slice e) => Nat.blt 0 (P.cellsOf e) && plainT P n e
    | some (.struct fs) => decide (tile P fs.toList 0 = some (P.cellsOf t)) && fs.toList.all (fun f => plainT P n f.type)
    | some (.array m e) => decide (m * P.cellsOf e = P.cellsOf t) && plainT P n e
    | _ => false
theorem CellsRep.append {k : Cx} {a b : List AV} {u v : List Value} (h : CellsRep k a u) (h' : CellsRep k b v) : CellsRep k (a ++ b) (u ++ v) := by
  refine ⟨by simp [h.1, h'.1], fun j x y hx hy => ?_⟩
  rcases Nat.lt_or_ge j a.length with hlt | hge
  · rw [List.getElem?_append_left hlt] at hx
    rw [List.getElem?_append_left (by rw [h.1]; exact hlt)] at hy
    exact h.2 j x y hx hy
  · rw [List.getElem?_append_right hge] at hx
    rw [List.getElem?_append_right (by rw [h.1]; exact hge), h.1] at hy
    exact h'.2 _ x y hx hy
theorem cellsRep_one {k : Cx} {a : AV} {u : Value} (h1 : u.oneCell' = true) (h : Rep k a u) : CellsRep k [a] [u] := by
  refine ⟨rfl, fun j x y hx hy => ?_⟩
  cases j with
  | zero => simp at hx hy; subst hx; subst hy; exact ⟨h1, h⟩
  | succ j => simp at hx
theorem cellsRep_nil (k : Cx) : CellsRep k [] [] := ⟨rfl, fun j x y hx => by simp at hx⟩
section
variable {H : Type} {enc : TypeId × Value → H} {P : Program} {w : World} {held : Bool}
theorem open_fields {n fuel : Nat} (ih : ∀ (t : TypeId) (cs : List Value) (x : DataW H × List MemPlace), plainT P n t = true → DataW.trod enc P w 0 (fun _ => true) held fuel t cs = some x → ∃ avs, isAV P n t avs ∧ CellsRep (k0 w) avs cs) :
    ∀ (fs : List Field) (o e : Nat) (cs : List Value), tile P fs o = some e → cs.length = e → fs.all (fun f => plainT P n f.type) = true →
      (∀ f ∈ fs, ∃ x, DataW.trod enc P w 0 (fun _ => true) held fuel f.type ((cs.drop f.offset).take (P.cellsOf f.type)) = some x) → ∃ avs, inFields P (isAV P n) fs avs ∧ CellsRep (k0 w) avs (cs.drop o) ∧ o ≤ e
  | [], o, e, cs, ht, hl, _, _ => by
    simp only [tile, Option.some.injEq] at ht
    exact ⟨[], rfl, by rw [List.drop_of_length_le (by omega)]; exact cellsRep_nil _, by omega⟩
  | f :: fs, o, e, cs, ht, hl, hp, hx => by
    unfold tile at ht
    split at ht
    · rename_i ho
      rw [List.all_cons, Bool.and_eq_true] at hp
      obtain ⟨avs, h1, h2, h3⟩ := open_fields ih fs _ e cs ht hl hp.2 (fun g hg => hx g (.tail _ hg))
      obtain ⟨x, hx1⟩ := hx f (.head _)
      obtain ⟨a, h4, h5⟩ := ih f.type _ x hp.1 hx1
      rw [ho] at h5
      refine ⟨a ++ avs, ⟨a, avs, rfl, ?_, h4, h1⟩, ?_, by omega⟩
      · rw [← h5.1, List.length_take, List.length_drop]; omega
      · have e1 : cs.drop o = (cs.drop o).take (P.cellsOf f.type) ++ cs.drop (o + P.cellsOf f.type) := by
          rw [← List.drop_drop, List.take_append_drop]
        rw [e1]
        exact h5.append h2
    · cases ht
theorem open_elems {n fuel : Nat} {e : TypeId} (ih : ∀ (cs : List Value) (x : DataW H × List MemPlace), DataW.trod enc P w 0 (fun _ => true) held fuel e cs = some x → ∃ avs, isAV P n e avs ∧ CellsRep (k0 w) avs cs) :
    ∀ (m : Nat) (cs : List Value), cs.length = m * P.cellsOf e → (∀ i, i < m → ∃ x, DataW.trod enc P w 0 (fun _ => true) held fuel e ((cs.drop (i * P.cellsOf e)).take (P.cellsOf e)) = some x) → ∃ avs, inElems (isAV P n e) (P.cellsOf e) m avs ∧ CellsRep (k0 w) avs cs
  | 0, cs, hl, _ => by
    have : cs = [] := List.eq_nil_of_length_eq_zero (by simpa using hl)
    subst this
    exact ⟨[], rfl, cellsRep_nil _⟩
  | m + 1, cs, hl, hx => by
    have hl' : cs.length = m * P.cellsOf e + P.cellsOf e := by rw [hl, Nat.add_mul, Nat.one_mul]
    obtain ⟨x, hx0⟩ := hx 0 (by omega)
    rw [Nat.zero_mul, List.drop_zero] at hx0
    obtain ⟨a, h1, h2⟩ := ih _ x hx0
    obtain ⟨b, h3, h4⟩ := open_elems ih m (cs.drop (P.cellsOf e)) (by rw [List.length_drop]; omega) (fun i hi => by
      obtain ⟨y, hy⟩ := hx (i + 1) (by omega)
      rw [Nat.add_mul, Nat.one_mul] at hy
      rw [List.drop_drop, Nat.add_comm (P.cellsOf e)]
      exact ⟨y, hy⟩)
    refine ⟨a ++ b, ⟨a, b, rfl, by rw [← h2.1, List.length_take]; omega, h1, h3⟩, ?_⟩
    rw [← List.take_append_drop (P.cellsOf e) cs]
    exact h2.append h4
theorem cells_get {a : Addr} {n : Nat} {cs : List Value} (h : w.cells? 0 a n = some cs) : cs.length = n ∧ ∀ j, j < n → ∃ u, cs[j]? = some u ∧ w.cell? (a.add j) = some u := by
  unfold World.cells? at h
  rw [if_pos (Nat.zero_le _)] at h
  refine ⟨by simpa using mapM_some_length h, fun j hj => ?_⟩
  have := mapM_some_get h j j (by simp [hj])
  have hl : j < cs.length := by rw [show cs.length = n by simpa using mapM_some_length h]; exact hj
  exact ⟨cs[j], List.getElem?_eq_getElem hl, by rw [this, List.getElem?_eq_getElem hl]⟩
theorem cell_plain {a : Addr} {u : Value} (h : w.cell? a = some u) : a.spot = none ∧ a.block < w.heap.size := by
  unfold World.cell? at h
  split at h
  · rename_i c t f hb
    split at h
    · cases h
    · rename_i hs
      exact ⟨by cases hh : a.spot <;> simp_all, (Array.getElem?_eq_some_iff.1 hb).1⟩
  · cases h
theorem choose_list {α : Type} {Q : Nat → α → Prop} : ∀ (n : Nat), (∀ i, i < n → ∃ x, Q i x) → ∃ l : List α, l.length = n ∧ ∀ i x, l[i]? = some x → Q i x
  | 0, _ => ⟨[], rfl, fun i x h => by simp at h⟩
  | n + 1, h => by
    obtain ⟨l, h1, h2⟩ := choose_list n (fun i hi => h i (by omega))
    obtain ⟨x, hx⟩ := h n (by omega)
    refine ⟨l ++ [x], by simp [h1], fun i y hy => ?_⟩
    rcases Nat.lt_or_ge i l.length with hlt | hge
    · rw [List.getElem?_append_left hlt] at hy
      exact h2 i y hy
    · rw [List.getElem?_append_right hge] at hy
      rcases Nat.eq_zero_or_pos (i - l.length) with h0 | h0
      · rw [h0] at hy
        simp at hy
        subst hy
        rwa [show i = n by omega]
      · rw [List.getElem?_eq_none (by simp; omega)] at hy
        cases hy
theorem open_cells : ∀ (n : Nat) (t : TypeId) (fuel : Nat) (cs : List Value) (x : DataW H × List MemPlace), plainT P n t = true → DataW.trod enc P w 0 (fun _ => true) held fuel t cs = some x → ∃ avs, isAV P n t avs ∧ CellsRep (k0 w) avs cs
  | 0, _, _, _, _, h, _ => by cases h
  | n + 1, t, fuel, cs, x, hp, h => by
    unfold plainT at hp
    split at hp
    · rename_i ht
      obtain ⟨b, rfl, _⟩ := DataW.trod_bool ht h
      exact ⟨_, by simp only [isAV, ht]; exact ⟨b, rfl⟩, cellsRep_one rfl (.v rfl)⟩
    · rename_i kk ht
      obtain ⟨m, rfl, _, hw⟩ := DataW.trod_int ht h
      exact ⟨_, by simp only [isAV, ht]; exact ⟨m, rfl, hw⟩, cellsRep_one rfl (.v rfl)⟩
    · rename_i ht
      obtain ⟨s, rfl, _, hs⟩ := DataW.trod_string ht h
      exact ⟨_, by simp only [isAV, ht]; exact ⟨s, rfl, hs⟩, cellsRep_one rfl (.v rfl)⟩
    · rename_i e ht
      rw [Bool.and_eq_true, Nat.blt_eq] at hp
      obtain ⟨hpos, hpe⟩ := hp
      rcases DataW.trod_slice ht h with ⟨rfl, _⟩ | ⟨a, len, cap, elems, rest, fu, rfl, rfl, _, _, hlc, hcm, hel, hget, hsp, _⟩
      · exact ⟨_, by simp only [isAV, ht]; exact ⟨[], rfl, by simp [maxLen], fun el h => by cases h⟩, cellsRep_one rfl (.slnil (by simp))⟩
      · obtain ⟨hrl, hrest⟩ := hsp rfl
        have hcell : ∀ i, i < len → ∃ (el : List AV × (Nat → Value)), (el.1.length = P.cellsOf e ∧ isAV P n e el.1) ∧ ∀ j b, el.1[j]? = some b → w.cell? ((a.add (i * P.cellsOf e)).add j) = some (el.2 j) ∧ (el.2 j).oneCell' = true ∧ Rep (k0 w) b (el.2 j) := fun i hi => by
          have h1 := hget i hi
          rw [List.getElem?_eq_getElem (show i < elems.length by omega), Option.bind_eq_some_iff] at h1
          obtain ⟨ci, h2, h3⟩ := h1
          obtain ⟨avs, h4, h5⟩ := open_cells n e fu ci _ hpe h3
          obtain ⟨h6, h7⟩ := cells_get h2
          refine ⟨(avs, fun j => (ci[j]?).getD undef), ⟨by rw [← h6, h5.1], h4⟩, fun j b hb => ?_⟩
          have hj : j < ci.length := by rw [h5.1]; exact (List.getElem?_eq_some_iff.1 hb).1
          obtain ⟨u, h8, h9⟩ := h7 j (by omega)
          simp only [h8, Option.getD_some]
          exact ⟨h9, h5.2 j b u hb h8⟩
        obtain ⟨els, hl, hels⟩ := choose_list len hcell
        have hav : isAV P (n + 1) t [.sl none false (P.cellsOf e) (els.map (·.1))] := by
          simp only [isAV, ht]
          refine ⟨els.map (·.1), rfl, by rw [List.length_map]; omega, fun el hm => ?_⟩
          obtain ⟨p, hpm, rfl⟩ := List.mem_map.1 hm
          obtain ⟨i, hi⟩ := List.mem_iff_getElem?.1 hpm
          exact (hels i p hi).1
        refine ⟨_, hav, cellsRep_one rfl ?_⟩
        by_cases hc0 : cap = 0
        · subst hc0
          have h0 : len = 0 := by omega
          subst h0
          rw [List.eq_nil_of_length_eq_zero hl]
          exact .sle (by simp)
        · have hplain : ∃ b o, a = ⟨b, o, none⟩ ∧ b < w.heap.size := by
            have hfirst : ∃ cs, w.cells? 0 a (P.cellsOf e) = some cs := by
              by_cases hl0 : 0 < len
              · have h1 := hget 0 hl0
                rw [List.getElem?_eq_getElem (show 0 < elems.length by omega), Option.bind_eq_some_iff] at h1
                obtain ⟨ci, h2, _⟩ := h1
                rw [Nat.zero_mul] at h2
                exact ⟨ci, by simpa [Addr.add] using h2⟩
              · have h1 := hrest 0 (by omega)
                rw [List.getElem?_eq_getElem (show 0 < rest.length by omega), Option.bind_eq_some_iff] at h1
                obtain ⟨ci, h2, _⟩ := h1
                rw [show len + 0 = 0 by omega, Nat.zero_mul] at h2
                exact ⟨ci, by simpa [Addr.add] using h2⟩
            obtain ⟨ci, h2⟩ := hfirst
            obtain ⟨_, h7⟩ := cells_get h2
            obtain ⟨u, _, h9⟩ := h7 0 hpos
            have := cell_plain h9
            simp only [Addr.add, if_true] at this
            obtain ⟨b, o, s⟩ := a
            obtain ⟨h10, h11⟩ := this
            simp only at h10 h11
            subst h10
            exact ⟨b, o, rfl, h11⟩
          obtain ⟨b, o, rfl, hb⟩ := hplain
          have hgoal : Rep (k0 w) (.sl none false (P.cellsOf e) (els.map (·.1))) (.slice (some ⟨b, o, none⟩) (els.map (·.1)).length cap) := by
            have hat : ∀ (i j : Nat) (q : List AV) (c : AV), (els.map (·.1))[i]? = some q → q[j]? = some c → ∃ p, els[i]? = some p ∧ p.1 = q ∧ w.cell? ⟨b, o + (i * P.cellsOf e + j), none⟩ = some (p.2 j) ∧ (p.2 j).oneCell' = true ∧ Rep (k0 w) c (p.2 j) := fun i j q c hq hc => by
              rw [List.getElem?_map, Option.map_eq_some_iff] at hq
              obtain ⟨p, hp1, rfl⟩ := hq
              obtain ⟨_, h12⟩ := hels i p hp1
              obtain ⟨h13, h14⟩ := h12 j c hc
              refine ⟨p, hp1, rfl, ?_, h14⟩
              have e1 : ((⟨b, o, none⟩ : Addr).add (i * P.cellsOf e)).add j = ⟨b, o + (i * P.cellsOf e + j), none⟩ := by
                rw [Addr.add_mid, Addr.add_mid, Nat.add_assoc]
              rwa [e1] at h13
            refine .sl (f := fun i j => ((els[i]?).map (fun p => p.2 j)).getD undef) (by simp) (by rw [List.length_map]; omega) (by rw [List.length_map]; omega) (by simp) (fun i q hq => ?_) (fun _ => ⟨hb, k0_live w b⟩) (fun i j q c hq hc => ?_) (fun i j q c hq hc => ?_)
            · rw [List.getElem?_map, Option.map_eq_some_iff] at hq
              obtain ⟨p, hp1, rfl⟩ := hq
              exact (hels i p hp1).1.1
            · obtain ⟨p, h15, _, h16, h17, _⟩ := hat i j q c hq hc
              simp only [h15, Option.map_some, Option.getD_some]
              exact ⟨h16, h17⟩
            · obtain ⟨p, h15, _, h16, h17, h18⟩ := hat i j q c hq hc
              simp only [h15, Option.map_some, Option.getD_some]
              exact h18
          rw [List.length_map, hl] at hgoal
          exact hgoal
    · rename_i fs ht
      rw [Bool.and_eq_true, decide_eq_true_eq] at hp
      obtain ⟨xs, fu, rfl, _, hl, hxl, hf⟩ := DataW.trod_struct ht h
      obtain ⟨avs, h1, h2, _⟩ := open_fields (fun t cs x => open_cells n t fu cs x) fs.toList 0 _ cs hp.1 hl hp.2 (fun f hfm => by
        obtain ⟨i, hi⟩ := List.mem_iff_getElem?.1 hfm
        have hi' : fs[i]? = some f := by simpa using hi
        have hlt : i < xs.length := by rw [hxl]; exact (Array.getElem?_eq_some_iff.1 hi').1
        exact ⟨xs[i], by rw [hf i f hi', List.getElem?_eq_getElem hlt]⟩)
      exact ⟨avs, by simp only [isAV, ht]; exact h1, by simpa using h2⟩
    · rename_i m e ht
      rw [Bool.and_eq_true, decide_eq_true_eq] at hp
      obtain ⟨xs, fu, rfl, _, hl, hxl, hf⟩ := DataW.trod_array ht h
      obtain ⟨avs, h1, h2⟩ := open_elems (fun cs x => open_cells n e fu cs x hp.2) m cs (by rw [hl, hp.1]) (fun i hi => ⟨xs[i], by rw [hf i hi, List.getElem?_eq_getElem (by omega)]⟩)
      exact ⟨avs, by simp only [isAV, ht]; exact h1, h2⟩
    · cases hp
/-- An argument. -/
def argAV (P : Program) (t : TypeId) (avs : List AV) : AV := match P.underlying t with
  | some (.struct _) | some (.array _ _) => .agg avs
  | _ => avs.headD (.tup [])
theorem open_arg {n base : Nat} {t : TypeId} {v : Value} {d : DataW H} {ps : List MemPlace} (hp : plainT P n t = true) (hv : Value.okWide P w .any base t v) (h : DataW.Trod enc P w 0 (fun _ => true) held t v d ps) : ∃ avs, isAV P n t avs ∧ Rep (k0 w) (argAV P t avs) v := by
  obtain ⟨fuel, hf⟩ := h
  obtain ⟨avs, h1, h2⟩ := open_cells n t fuel _ _ hp hf
  refine ⟨avs, h1, ?_⟩
  have hagg : (∃ cs, v = .agg cs) → Rep (k0 w) (.agg avs) v := by
    rintro ⟨cs, rfl⟩
    have h3 : (Value.agg cs).cells = cs := rfl
    rw [h3] at h2
    exact .agg (by simpa using h2.1) (fun j u hu => by
      have hj : j < avs.length := by rw [← h2.1]; simpa using (Array.getElem?_eq_some_iff.1 hu).1
      exact (h2.2 j _ u (List.getElem?_eq_getElem hj) (by simpa using hu)).1) (fun j a u ha hu => (h2.2 j a u ha (by simpa using hu)).2)
  have hone : v.cells.toList = [v] → Rep (k0 w) (avs.headD (.tup [])) v := fun h3 => by
    rw [h3] at h2
    obtain ⟨h4, h5⟩ := h2
    match avs, h4 with
    | [a], _ => exact (h5 0 a v rfl rfl).2
  cases n with
  | zero => cases hp
  | succ n =>
    unfold plainT at hp
    unfold argAV
    split at hp
    · rename_i ht
      rw [ht]
      simp only [Value.okWide, ht, Cell.okWide, Cell.ok] at hv
      exact hone (by cases v <;> first | rfl | (simp at hv))
    · rename_i kk ht
      rw [ht]
      simp only [Value.okWide, ht, Cell.okWide, Cell.ok] at hv
      exact hone (by cases v <;> first | rfl | (simp at hv))
    · rename_i ht
      rw [ht]
      simp only [Value.okWide, ht, Cell.okWide, Cell.ok] at hv
      exact hone (by cases v <;> first | rfl | (simp at hv))
    · rename_i e ht; rw [ht]; obtain ⟨a, l, c, rfl⟩ := Go.WideShapes.okWide_slice ht hv; exact hone rfl
    · rename_i fs ht; rw [ht]; obtain ⟨cs, rfl, _⟩ := Go.WideShapes.okWide_struct ht hv; exact hagg ⟨cs, rfl⟩
    · rename_i m e ht
      rw [ht]
      have : ∃ cs, v = .agg cs := by
        simp only [Value.okWide, ht] at hv
        obtain ⟨cs, h1, _⟩ := hv
        exact ⟨cs, h1⟩
      exact hagg this
    · cases hp
theorem list_of {α β : Type} {g : α → β} {Q : α → Prop} : ∀ (l : List β), (∀ b ∈ l, ∃ x, b = g x ∧ Q x) → ∃ xs : List α, l = xs.map g ∧ ∀ x ∈ xs, Q x
  | [], _ => ⟨[], rfl, fun x h => by cases h⟩
  | b :: l, h => by
    obtain ⟨x, rfl, hq⟩ := h b (.head _)
    obtain ⟨xs, rfl, h2⟩ := list_of l (fun c hc => h c (.tail _ hc))
    exact ⟨x :: xs, rfl, fun y hy => by
      rcases List.mem_cons.1 hy with rfl | hy
      · exact hq
      · exact h2 y hy⟩
end
end Go.Proofs.YtledbkkaaomjpabDoor.Ab
