/- The texts E8, E9, one behind the other. -/
import Derived.Test.YtddljegbggncdaaDoorM1
import Derived.Test.YtddljegbggncdaaDoorM2
import Derived.Test.YtddljegbggncdaaDoorM3
import Derived.Test.YtddljegbggncdaaDoorM4
import Derived.Test.YtddljegbggncdaaDoorM5
import Derived.Test.YtddljegbggncdaaDoorM6
/- Plain laws of conditions: what matches passes; what was bound matches again. -/
set_option linter.unusedVariables false
set_option linter.unusedSimpArgs false
set_option maxRecDepth 20000
namespace Go.Proofs.YtddljegbggncdaaDoor.Ab
open Go

/-! ### Without variables -/
def okT (v : Vl) (t : Tst) : Bool := holdsV t.p v.k v.n v.s t.val.k t.val.n t.val.s
def okA (ns : List ByteArray) (vs : List Vl) : List Atr → Bool
  | [] => true
  | a :: r => attrB a.attr ns && ((match vs[(attrN a.attr ns).toNat]? with | none => false | some v => onesB a v && a.tests.all (okT v)) && okA ns vs r)
theorem goT_const (v : Vl) : ∀ (ts : List Tst) (now : List Bd), (∀ t ∈ ts, t.v = noS) → goT v ts now = if ts.all (okT v) = true then some now else none
  | [], now, h => rfl
  | t :: r, now, h => by
    have ht := h t (.head _)
    have hb : ¬ bindsB t now = true := by simp [bindsB, ht]
    unfold goT
    rw [if_neg hb, testB, if_pos ht, List.all_cons]
    change (if okT v t = true then goT v r now else none) = _
    by_cases hk : okT v t = true
    · rw [if_pos hk, goT_const v r now (fun x hx => h x (.tail _ hx)), hk, Bool.true_and]
    · rw [if_neg hk]
      rw [Bool.not_eq_true] at hk
      rw [hk]; rfl
theorem goA_const (ns : List ByteArray) (vs : List Vl) : ∀ (l : List Atr) (now : List Bd), (∀ a ∈ l, ∀ t ∈ a.tests, t.v = noS) → goA ns vs l now = if okA ns vs l = true then some now else none
  | [], now, h => rfl
  | a :: r, now, h => by
    have ih := goA_const ns vs r now (fun x hx => h x (.tail _ hx))
    have ht := h a (.head _)
    unfold goA okA
    by_cases h1 : attrB a.attr ns = true
    · simp only [h1, if_true, Bool.true_and]
      cases hv : vs[(attrN a.attr ns).toNat]? with
      | none => simp
      | some v =>
        by_cases h2 : onesB a v = true
        · simp only [h2, if_true, Bool.true_and, goT_const v _ _ ht]
          by_cases h3 : a.tests.all (okT v) = true
          · simp only [h3, if_true, Bool.true_and, Option.bind_some]; exact ih
          · rw [Bool.not_eq_true] at h3
            simp [h3]
        · rw [Bool.not_eq_true] at h2
          simp [h2]
    · rw [Bool.not_eq_true] at h1
      simp [h1]
theorem consA_noS {l : List Atr} : ∀ a ∈ consA l, ∀ t ∈ a.tests, t.v = noS := fun a ha t ht => by
  obtain ⟨b, _, rfl⟩ := consA_mem ha
  have := (List.mem_filter.1 ht).2
  exact of_decide_eq_true this
theorem goT_ok (v : Vl) : ∀ (ts : List Tst) (now x : List Bd), goT v ts now = some x → ∀ t ∈ ts, t.v = noS → okT v t = true
  | [], now, x, h, t, ht, _ => by cases ht
  | u :: r, now, x, h, t, ht, hn => by
    unfold goT at h
    split at h
    · rename_i hb
      rcases List.mem_cons.1 ht with rfl | ht
      · simp [bindsB, hn] at hb
      · exact goT_ok v r _ x h t ht hn
    · split at h
      · rename_i hb hk
        rcases List.mem_cons.1 ht with rfl | ht
        · rw [testB, if_pos hn] at hk; exact hk
        · exact goT_ok v r _ x h t ht hn
      · cases h
theorem goA_cons {ns : List ByteArray} {vs : List Vl} {a : Atr} {r : List Atr} {now b : List Bd} (h : goA ns vs (a :: r) now = some b) : attrB a.attr ns = true ∧ ∃ v n1, vs[(attrN a.attr ns).toNat]? = some v ∧ onesB a v = true ∧ goT v a.tests now = some n1 ∧ goA ns vs r n1 = some b := by
  unfold goA at h
  split at h
  · rename_i h1
    cases hv : vs[(attrN a.attr ns).toNat]? with
    | none => rw [hv] at h; cases h
    | some v =>
      rw [hv] at h
      dsimp only at h
      split at h
      · rename_i h2
        cases hg : goT v a.tests now with
        | none => rw [hg] at h; cases h
        | some n1 => rw [hg] at h; exact ⟨h1, v, n1, rfl, h2, hg, h⟩
      · cases h
  · cases h
theorem goA_consA (ns : List ByteArray) (vs : List Vl) : ∀ (l : List Atr) (now b : List Bd), goA ns vs l now = some b → okA ns vs (consA l) = true
  | [], now, b, h => rfl
  | a :: r, now, b, h => by
    obtain ⟨h1, v, n1, hv, h2, hg, hr⟩ := goA_cons h
    have ih := goA_consA ns vs r n1 b hr
    unfold consA
    split
    · unfold okA
      dsimp only
      rw [h1, hv, ih]
      have h3 : (a.tests.filter keepT).all (okT v) = true := List.all_eq_true.2 fun t ht => goT_ok v _ _ _ hg t (List.mem_filter.1 ht).1 (of_decide_eq_true (List.mem_filter.1 ht).2)
      have h4 : onesB ⟨a.attr, a.ones, a.tests.filter keepT⟩ v = true := h2
      simp only [h3, h4]; rfl
    · exact ih
theorem match_const (l : List Cls) (c : Cnd) (f : Fc) (bd : List Bd) : matchF l (constsC c) f bd = if passF l c f = true then some bd else none := by
  unfold passF matchF
  by_cases h : f.cls = (constsC c).cls ∧ checkF l f = 0
  · rw [if_pos h, if_pos h]
    have e : (constsC c).attrs = consA c.attrs := rfl
    rw [e, goA_const _ _ _ _ consA_noS, goA_const _ _ _ _ consA_noS]
    split <;> rfl
  · rw [if_neg h, if_neg h]; rfl
theorem match_passes {l : List Cls} {c : Cnd} {f : Fc} {bd b : List Bd} (h : matchF l c f bd = some b) : passF l c f = true := by
  unfold matchF at h
  split at h
  · rename_i h0
    unfold passF matchF
    rw [if_pos (show f.cls = (constsC c).cls ∧ checkF l f = 0 from h0)]
    have e : (constsC c).attrs = consA c.attrs := rfl
    rw [e, goA_const _ _ _ _ consA_noS, if_pos (goA_consA _ _ _ _ _ h)]; rfl
  · cases h
/-! ### What is bound, and stays -/
structure Ext (now b : List Bd) : Prop where
  tk : b.take now.length = now
  len : now.length ≤ b.length
  new : ∀ (i : Nat) x, now.length ≤ i → b[i]? = some x → lookB x.name (b.take i) = false
theorem Ext.refl (now : List Bd) : Ext now now := ⟨List.take_length, Nat.le_refl _, fun i x hi hx => by rw [List.getElem?_eq_none hi] at hx; cases hx⟩
theorem Ext.trans {a b c : List Bd} (h : Ext a b) (k : Ext b c) : Ext a c := by
  have htk : ∀ i, i ≤ b.length → c.take i = b.take i := fun i hi => by
    have := congrArg (List.take i) k.tk
    rwa [List.take_take, Nat.min_eq_left hi] at this
  refine ⟨(htk _ h.len).trans h.tk, Nat.le_trans h.len k.len, fun i x hi hx => ?_⟩
  by_cases hb : i < b.length
  · rw [htk i (by omega)]
    have : b[i]? = some x := by
      have e := htk (i + 1) (by omega)
      have e2 := congrArg (fun l => l[i]?) e
      simp only [List.getElem?_take_of_lt (Nat.lt_succ_self i)] at e2
      rw [← e2]; exact hx
    exact h.new i x hi this
  · exact k.new i x (by omega) hx
theorem Ext.one {now : List Bd} {x : Bd} (h : lookB x.name now = false) : Ext now (now ++ [x]) := by
  refine ⟨by simp, by simp, fun i y hi hy => ?_⟩
  have hlt := (List.getElem?_eq_some_iff.1 hy).1
  rw [List.length_append, List.length_singleton] at hlt
  obtain rfl : i = now.length := by omega
  have e : y = x := by
    rw [List.getElem?_append_right (Nat.le_refl _), Nat.sub_self] at hy
    simpa using hy.symm
  subst e
  rw [List.take_left]; exact h
theorem goT_ext (v : Vl) : ∀ (ts : List Tst) (now b : List Bd), goT v ts now = some b → Ext now b
  | [], now, b, h => by cases h; exact Ext.refl _
  | t :: r, now, b, h => by
    unfold goT at h
    split at h
    · rename_i hb
      simp only [bindsB, Bool.and_eq_true, Bool.not_eq_true', decide_eq_true_eq] at hb
      exact (Ext.one (x := ⟨t.v, v⟩) hb.2.1).trans (goT_ext v r _ b h)
    · split at h
      · exact goT_ext v r _ b h
      · cases h
theorem goA_ext (ns : List ByteArray) (vs : List Vl) : ∀ (l : List Atr) (now b : List Bd), goA ns vs l now = some b → Ext now b
  | [], now, b, h => by cases h; exact Ext.refl _
  | a :: r, now, b, h => by
    obtain ⟨_, v, n1, _, _, hg, hr⟩ := goA_cons h
    exact (goT_ext v _ _ _ hg).trans (goA_ext ns vs r _ _ hr)
theorem match_ext {l : List Cls} {c : Cnd} {f : Fc} {bd b : List Bd} (h : matchF l c f bd = some b) : Ext bd b := by
  unfold matchF at h
  split at h
  · exact goA_ext _ _ _ _ _ h
  · cases h
/-! ### Again -/
theorem findB_ext {now b : List Bd} (h : Ext now b) {nm : ByteArray} (hn : lookB nm now = true) : findB nm b = findB nm now := by
  have e : b = now ++ b.drop now.length := by
    have := List.take_append_drop now.length b
    rw [h.tk] at this; exact this.symm
  rw [e]
  unfold lookB findB at *
  rw [List.find?_append]
  cases hf : now.find? (isB nm) with
  | none => rw [hf] at hn; cases hn
  | some x => rfl
theorem lookB_ext {now b : List Bd} (h : Ext now b) {nm : ByteArray} (hn : lookB nm now = true) : lookB nm b = true ∧ lookV nm b = lookV nm now := by
  unfold lookB lookV
  rw [findB_ext h hn]
  exact ⟨hn, rfl⟩
theorem sameV_refl (v : Vl) : sameV v.k v.n v.s v.k v.n v.s = true := by simp [sameV]
theorem look_last {now : List Bd} {x : Bd} (h : lookB x.name now = false) : lookB x.name (now ++ [x]) = true ∧ lookV x.name (now ++ [x]) = x.val := by
  have hf : findB x.name (now ++ [x]) = some x := by
    unfold lookB findB at *
    rw [List.find?_append]
    cases hf : now.find? (isB x.name) with
    | none => simp [isB]
    | some y => rw [hf] at h; cases h
  unfold lookB lookV
  rw [hf]
  exact ⟨rfl, rfl⟩
theorem goT_again (v : Vl) : ∀ (ts : List Tst) (now b B : List Bd), goT v ts now = some b → Ext b B → goT v ts B = some B
  | [], now, b, B, h, _ => rfl
  | t :: r, now, b, B, h, hB => by
    unfold goT at h ⊢
    split at h
    · rename_i hb
      have hx := goT_ext v r _ b h
      simp only [bindsB, Bool.and_eq_true, Bool.not_eq_true', decide_eq_true_eq, decide_eq_false_iff_not] at hb
      obtain ⟨b1, b2, b3⟩ := hb
      obtain ⟨l1, l2⟩ := look_last (x := ⟨t.v, v⟩) b2
      obtain ⟨m1, m2⟩ := lookB_ext (hx.trans hB) l1
      have hb' : ¬ bindsB t B = true := by simp [bindsB, m1]
      rw [if_neg hb', testB, if_neg b1, m1, m2, l2, b3]
      have : holdsV 0 v.k v.n v.s v.k v.n v.s = true := by rw [holdsV, if_pos rfl]; exact sameV_refl v
      rw [this]
      exact goT_again v r _ b B h hB
    · split at h
      · rename_i hb hk
        have hx := goT_ext v r _ b h
        have ih := goT_again v r _ b B h hB
        by_cases ht : t.v = noS
        · have hb' : ¬ bindsB t B = true := by simp [bindsB, ht]
          rw [if_neg hb', testB, if_pos ht]
          rw [testB, if_pos ht] at hk
          rw [if_pos hk]; exact ih
        · rw [testB, if_neg ht, Bool.and_eq_true] at hk
          obtain ⟨m1, m2⟩ := lookB_ext (hx.trans hB) hk.1
          have hb' : ¬ bindsB t B = true := by simp [bindsB, m1]
          rw [if_neg hb', testB, if_neg ht, m1, m2, hk.2]
          exact ih
      · cases h
theorem goA_again (ns : List ByteArray) (vs : List Vl) : ∀ (l : List Atr) (now b B : List Bd), goA ns vs l now = some b → Ext b B → goA ns vs l B = some B
  | [], now, b, B, h, _ => rfl
  | a :: r, now, b, B, h, hB => by
    obtain ⟨h1, v, n1, hv, h2, hg, hr⟩ := goA_cons h
    have hx := goA_ext ns vs r _ _ hr
    unfold goA
    rw [if_pos h1, hv]
    dsimp only
    rw [if_pos h2, goT_again v _ _ _ B hg (hx.trans hB)]
    exact goA_again ns vs r _ b B hr hB
theorem match_again {l : List Cls} {c : Cnd} {f : Fc} {bd b : List Bd} (h : matchF l c f bd = some b) : matchF l c f b = some b := by
  unfold matchF at h ⊢
  split at h
  · rename_i h0
    rw [if_pos h0]
    exact goA_again _ _ _ _ _ _ h (Ext.refl _)
  · cases h
/-! ### How many are new -/
theorem varC_false {v : ByteArray} {out : List ByteArray} (h : ¬ varC v out = true) (hv : v ≠ noS) : v ∈ out := by
  rw [varC, decide_eq_false hv] at h
  simp only [Bool.not_false, Bool.true_and, Bool.not_eq_true', Bool.not_eq_false, List.any_eq_true, isS, decide_eq_true_eq] at h
  obtain ⟨x, hx, e⟩ := h
  subst e; exact hx
theorem varT_mono : ∀ (ts : List Tst) (out : List ByteArray), ∀ x ∈ out, x ∈ varT ts out
  | [], out, x, h => h
  | t :: r, out, x, h => by
    unfold varT
    refine varT_mono r _ x ?_
    split
    · exact List.mem_append_left _ h
    · exact h
theorem varT_mem : ∀ (ts : List Tst) (out : List ByteArray), ∀ t ∈ ts, t.v ≠ noS → t.v ∈ varT ts out
  | u :: r, out, t, h, hv => by
    unfold varT
    rcases List.mem_cons.1 h with rfl | h
    · refine varT_mono r _ _ ?_
      split
      · simp
      · rename_i hc; exact varC_false hc hv
    · exact varT_mem r _ t h hv
theorem varA_mono : ∀ (l : List Atr) (out : List ByteArray), ∀ x ∈ out, x ∈ varA l out
  | [], out, x, h => h
  | a :: r, out, x, h => varA_mono r _ x (varT_mono _ _ x h)
theorem varA_mem : ∀ (l : List Atr) (out : List ByteArray), ∀ a ∈ l, ∀ t ∈ a.tests, t.v ≠ noS → t.v ∈ varA l out
  | b :: r, out, a, ha, t, ht, hv => by
    unfold varA
    rcases List.mem_cons.1 ha with rfl | ha
    · exact varA_mono r _ _ (varT_mem _ _ t ht hv)
    · exact varA_mem r _ a ha t ht hv
theorem goT_new (v : Vl) : ∀ (ts : List Tst) (now b : List Bd), goT v ts now = some b → ∀ x ∈ b, x ∈ now ∨ ∃ t ∈ ts, t.v ≠ noS ∧ x.name = t.v
  | [], now, b, h, x, hx => by cases h; exact .inl hx
  | t :: r, now, b, h, x, hx => by
    unfold goT at h
    split at h
    · rename_i hb
      simp only [bindsB, Bool.and_eq_true, Bool.not_eq_true', decide_eq_true_eq, decide_eq_false_iff_not] at hb
      rcases goT_new v r _ b h x hx with h1 | ⟨u, hu, h2⟩
      · rcases List.mem_append.1 h1 with h1 | h1
        · exact .inl h1
        · obtain rfl := List.mem_singleton.1 h1
          exact .inr ⟨t, .head _, hb.1, rfl⟩
      · exact .inr ⟨u, .tail _ hu, h2⟩
    · split at h
      · rcases goT_new v r _ b h x hx with h1 | ⟨u, hu, h2⟩
        · exact .inl h1
        · exact .inr ⟨u, .tail _ hu, h2⟩
      · cases h
theorem goA_new (ns : List ByteArray) (vs : List Vl) : ∀ (l : List Atr) (now b : List Bd), goA ns vs l now = some b → ∀ x ∈ b, x ∈ now ∨ ∃ a ∈ l, ∃ t ∈ a.tests, t.v ≠ noS ∧ x.name = t.v
  | [], now, b, h, x, hx => by cases h; exact .inl hx
  | a :: r, now, b, h, x, hx => by
    obtain ⟨_, v, n1, _, _, hg, hr⟩ := goA_cons h
    rcases goA_new ns vs r _ _ hr x hx with h1 | ⟨u, hu, h2⟩
    · rcases goT_new v _ _ _ hg x h1 with h1 | ⟨t, ht, h2⟩
      · exact .inl h1
      · exact .inr ⟨a, .head _, t, ht, h2⟩
    · exact .inr ⟨u, .tail _ hu, h2⟩
theorem nodup_le {α : Type} [DecidableEq α] : ∀ (a b : List α), a.Nodup → (∀ x ∈ a, x ∈ b) → a.length ≤ b.length
  | [], b, _, _ => Nat.zero_le _
  | x :: a, b, hn, h => by
    rw [List.nodup_cons] at hn
    have hx := h x (.head _)
    have h1 := nodup_le a (b.erase x) hn.2 fun y hy => (List.mem_erase_of_ne (fun e => hn.1 (by rw [← e]; exact hy))).2 (h y (.tail _ hy))
    have h2 := List.length_erase_of_mem hx
    have h3 : 0 < b.length := List.length_pos_of_mem hx
    rw [List.length_cons]
    omega
theorem lookB_false {nm : ByteArray} {l : List Bd} (h : lookB nm l = false) : ∀ y ∈ l, y.name ≠ nm := fun y hy e => by
  unfold lookB findB at h
  have : l.find? (isB nm) = none := by
    cases hf : l.find? (isB nm) with
    | none => rfl
    | some z => rw [hf] at h; cases h
  rw [List.find?_eq_none] at this
  exact this y hy (by rw [isB]; exact decide_eq_true e)
theorem Ext.apart {bd b : List Bd} (h : Ext bd b) {i k : Nat} {x y : Bd} (hi : bd.length ≤ i) (hk : k < i) (hx : b[i]? = some x) (hy : b[k]? = some y) : y.name ≠ x.name :=
  lookB_false (h.new i x hi hx) y (List.mem_of_getElem? (i := k) (by rw [List.getElem?_take_of_lt hk]; exact hy))
theorem Ext.look {bd b : List Bd} (h : Ext bd b) {i : Nat} {x : Bd} (hi : bd.length ≤ i) (hx : b[i]? = some x) : lookB x.name b = true ∧ lookV x.name b = x.val := by
  have h1 := h.new i x hi hx
  have e : b = b.take i ++ x :: b.drop (i + 1) := by
    obtain ⟨hlt, rfl⟩ := List.getElem?_eq_some_iff.1 hx
    rw [← List.drop_eq_getElem_cons hlt, List.take_append_drop]
  have hf : findB x.name b = some x := by
    unfold lookB findB at *
    rw [e, List.find?_append]
    cases hf : (b.take i).find? (isB x.name) with
    | none => simp [isB]
    | some y => rw [hf] at h1; cases h1
  unfold lookB lookV
  rw [hf]
  exact ⟨rfl, rfl⟩
theorem Ext.nodup {bd b : List Bd} (h : Ext bd b) : ((b.drop bd.length).map Bd.name).Nodup := by
  rw [List.Nodup, List.pairwise_iff_getElem]
  intro i j hi hj hij
  rw [List.length_map, List.length_drop] at hi hj
  simp only [List.getElem_map, List.getElem_drop]
  exact h.apart (i := bd.length + j) (k := bd.length + i) (by omega) (by omega) (List.getElem?_eq_getElem _) (List.getElem?_eq_getElem _)
theorem match_new {l : List Cls} {c : Cnd} {f : Fc} {bd b : List Bd} (h : matchF l c f bd = some b) : b.length - bd.length ≤ (varA c.attrs []).length := by
  have hx := match_ext h
  have h0 : ∃ ns vs, goA ns vs c.attrs bd = some b := by
    unfold matchF at h
    split at h
    · exact ⟨_, _, h⟩
    · cases h
  obtain ⟨ns, vs, hg⟩ := h0
  have h1 := nodup_le _ (varA c.attrs []) hx.nodup fun nm hm => by
    obtain ⟨x, hxm, rfl⟩ := List.mem_map.1 hm
    obtain ⟨i, hi, e⟩ := List.getElem_of_mem hxm
    rw [List.getElem_drop] at e
    rw [List.length_drop] at hi
    have hxi : b[bd.length + i]? = some x := by rw [← e]; exact List.getElem?_eq_getElem _
    rcases goA_new ns vs _ _ _ hg x (List.mem_of_getElem? hxi) with h2 | ⟨a, ha, t, ht, hv, e2⟩
    · exfalso
      obtain ⟨k, hk, e3⟩ := List.getElem_of_mem h2
      have : b[k]? = some x := by
        have e4 := congrArg (fun l => l[k]?) hx.tk
        simp only [List.getElem?_take_of_lt hk] at e4
        rw [e4, ← e3]; exact List.getElem?_eq_getElem hk
      exact hx.apart (i := bd.length + i) (k := k) (by omega) (by omega) hxi this rfl
    · rw [e2]; exact varA_mem _ _ a ha t ht hv
  rw [List.length_map, List.length_drop] at h1
  exact h1
end Go.Proofs.YtddljegbggncdaaDoor.Ab

/- Laws of conditions, without the document. -/
set_option linter.unusedVariables false
set_option linter.unusedSimpArgs false
set_option maxRecDepth 20000
namespace Go.Proofs.YtddljegbggncdaaDoor.Ab
open Go
section
variable {P : Program} {nt : Nat} {ops : Array Oper} {l : List Oper} {c : List (List Nat)} {m : Nat} {σ σ0 σ1 : St} {K : Fr → Prop} {i : Nat} {fr : Fr} {rest : List Oper} {t : Tmp} {ty : TypeId} {pos : String} {aft : Array Edge}
theorem dcfq {lt et : TypeId} {x : Operand} {lo hi : Option Operand} {nl : Option Bool} {full : Bool} {sz : Nat} {els all : List (List AV)} {b h : Int} {j u : Nat} {w cc : Bool} {a : AV} (hall : (els.take h.toNat).drop b.toNat = all) (h0 : 0 ≤ b) (h1 : b ≤ h) (h2 : h ≤ els.length) (hh : DJ P l c m σ0 σ1 K (i + 1) rest ((t, .mb cc (.sl nl false sz all)) :: fr)) (him : Nat.beq i m = false := by exact rfl) (hj : dstOf l j = some u := by exact rfl) (hl : lk fr u = some a := by exact rfl) (hg : gc a w = some cc := by exact rfl) (ht : P.underlying lt = some (.slice et) := by exact rfl) (hs : sizeIs P et = some sz := by exact rfl) (hx : ev (strip fr) x = some (.sl nl full sz els) := by exact rfl) (hlo : bound (ev (strip fr)) 0 lo = some b := by exact rfl) (hhi : bound (ev (strip fr)) els.length hi = some h := by exact rfl) (hn : Needs cc fr (Op.slice lt x lo hi none).operands.toList := by repeat' (first | exact True.intro | refine And.intro ?_ ?_ | exact nd0 rfl | exact nd1 rfl | exact nd2 rfl | exact nd3 rfl | exact nd4 rfl)) : DJ P l c m σ0 σ1 K i (⟨some t, .slice lt x lo hi none, ty, pos, aft, some (j, w)⟩ :: rest) fr := by
  subst hall
  exact dj_q him hj hl hg hn (fun hc R hR => opj_cut_sl rfl ht hs hx hlo hhi h0 h1 h2 hR) (fun hc R hR => opj_cut_sl rfl ht hs hx hlo hhi h0 h1 h2 hR) hh
end
attribute [local irreducible] thn inb endR CJ LJ OpJ DJ DA DB AllocK

theorem goT_len (v : Vl) : ∀ (ts : List Tst) (now b : List Bd), goT v ts now = some b → b.length ≤ now.length + ts.length
  | [], now, b, h => by cases h; exact Nat.le_refl _
  | t :: r, now, b, h => by
    unfold goT at h
    split at h
    · have := goT_len v r _ b h
      rw [List.length_append, List.length_singleton] at this
      rw [List.length_cons]; omega
    · split at h
      · have := goT_len v r _ b h
        rw [List.length_cons]; omega
      · cases h
theorem goA_len (ns : List ByteArray) (vs : List Vl) : ∀ (l : List Atr) (now b : List Bd), (∀ a ∈ l, a.tests.length ≤ 12) → goA ns vs l now = some b → b.length ≤ now.length + 12 * l.length
  | [], now, b, _, h => by cases h; exact Nat.le_refl _
  | a :: r, now, b, hs, h => by
    obtain ⟨_, v, n1, _, _, hg, hr⟩ := goA_cons h
    have h1 := goT_len v _ _ _ hg
    have h2 := goA_len ns vs r _ _ (fun x hx => hs x (.tail _ hx)) hr
    have h3 := hs a (.head _)
    rw [List.length_cons]; omega
theorem match_len {l : List Cls} {c : Cnd} {f : Fc} {bd b : List Bd} (hc : litC c) (h : matchF l c f bd = some b) : b.length ≤ bd.length + 144 := by
  unfold matchF at h
  split at h
  · have := goA_len _ _ _ _ _ (fun a ha => (hc.2 a ha).2) h
    have := hc.1
    omega
  · cases h
set_option maxHeartbeats 1000000 in
theorem l_testPasses (l : List Cls) (c : Cnd) (f : Fc) (bd : List Bd) : Pure Tryd.prog 5 [.sl none false 2 (l.map cc), .agg (askc c f bd)] (.v (.bool true)) := by
  refine enterW Tryd.func5 rfl rfl rfl rfl (fun σ => ?_)
  have k1 := p_asklight none false l c f bd
  have k0 := p_awake20
  by_cases h0 : askL l c f bd = 0
  · obtain ⟨⟨hc, hb20⟩, hz⟩ := askL_zero h0
    have hlb : (bd.map bc).length = bd.length := List.length_map ..
    have k2 := p_match none none false false l c f bd hc.1 (fun a ha => (hc.2 a ha).2) (by omega)
    have k3 := p_consts c hc
    have k4 := p_match none none false false l (constsC c) f bd hc.consts.1 (fun a ha => (hc.consts.2 a ha).2) (by omega)
    have k5 := p_passes none false l c f hc
    have k6 := p_bsame none none false false bd bd
    rw [decide_eq_true rfl] at k6
    rw [h0] at k1
    rw [match_const] at k4
    rcases hm : matchF l c f bd with _ | b
    · rw [hm] at k2
      dsimp only [mres, Option.getD, Option.isSome] at k2
      by_cases hp : passF l c f = true
      · rw [if_pos hp] at k4
        dsimp only [mres, Option.getD, Option.isSome] at k4
        rw [hp] at k5
        repeat' (first|(first|(refine jl ?_;first|refine j8 ?_|refine jtf ?_|refine j1 ?_|refine j2 ?_|refine j3 ?_|refine j4 ?_|refine j12 (fun id hid=>?_)|refine j13 (fun id hid=>?_)|refine j14 ?_|refine j15 ?_|refine j17t ?_|refine jp (k1) ?_|refine jcq (hp:=fun hc=>k0) ?_|refine jp (k2) ?_|refine jp (k3) ?_|refine jp (k4) ?_|refine jpy (k5) ?_|refine jpy (k6) ?_)|(refine jc ?_;first|refine c1 ?_|refine c2 ?_|refine c4 ?_|refine c6 ?_|refine c7 ?_)|refine n1 ?_|refine n2 ?_|refine n11 ?_)|(refine c9 (fun h=>?_) (fun h=>?_)<;>((try simp only [Bool.or_eq_true, Bool.and_eq_true, Bool.or_eq_false_iff, Bool.and_eq_false_iff, Bool.not_eq_true', Bool.not_eq_false', decide_eq_true_eq, decide_eq_false_iff_not, Bool.false_eq_true, Bool.true_eq_false, reduceCtorEq] at h) <;> (try simp (disch := omega) only [sb_bt, w64, Int.reduceAdd, Int.reduceToNat, Int.toNat_natCast, not_true_eq_false, false_or] at h) <;> (try (exfalso; omega)))))
        exact ge (congrArg (fun b => AV.v (Value.bool b)) (by simp))
      · rw [if_neg hp] at k4
        dsimp only [mres, Option.getD, Option.isSome] at k4
        rw [Bool.not_eq_true] at hp
        rw [hp] at k5
        have k7 := p_bsame none none false false [] bd
        repeat' (first|(first|(refine jl ?_;first|refine j8 ?_|refine jtf ?_|refine j1 ?_|refine j2 ?_|refine j3 ?_|refine j4 ?_|refine j12 (fun id hid=>?_)|refine j13 (fun id hid=>?_)|refine j14 ?_|refine j15 ?_|refine j17t ?_|refine jp (k1) ?_|refine jcq (hp:=fun hc=>k0) ?_|refine jp (k2) ?_|refine jp (k3) ?_|refine jp (k4) ?_|refine jpy (k5) ?_)|(refine jc ?_;first|refine c1 ?_|refine c2 ?_|refine c4 ?_|refine c6 ?_|refine c7 ?_)|refine n1 ?_|refine n2 ?_|refine n11 ?_)|(refine c9 (fun h=>?_) (fun h=>?_)<;>((try simp only [Bool.or_eq_true, Bool.and_eq_true, Bool.or_eq_false_iff, Bool.and_eq_false_iff, Bool.not_eq_true', Bool.not_eq_false', decide_eq_true_eq, decide_eq_false_iff_not, Bool.false_eq_true, Bool.true_eq_false, reduceCtorEq] at h) <;> (try simp (disch := omega) only [sb_bt, w64, Int.reduceAdd, Int.reduceToNat, Int.toNat_natCast, not_true_eq_false, false_or] at h) <;> (try (exfalso; omega)))))
        exact ge (congrArg (fun b => AV.v (Value.bool b)) (by simp))
    · rw [hm] at k2
      dsimp only [mres, Option.getD, Option.isSome] at k2
      have hp := match_passes hm
      have hx := match_ext hm
      have hlbb : (b.map bc).length = b.length := List.length_map ..
      have hle := hx.len
      rw [if_pos hp] at k4
      dsimp only [mres, Option.getD, Option.isSome] at k4
      rw [hp] at k5
      have hcut : ((b.map bc).take (((bd.map bc).length : Nat) : Int).toNat).drop (0 : Int).toNat = bd.map bc := by
        rw [Int.toNat_natCast, Int.toNat_zero, List.drop_zero, hlb, ← List.map_take, hx.tk]
      repeat' (first|(first|(refine jl ?_;first|refine j7 ?_|refine j11 ?_|refine j1 ?_|refine j2 ?_|refine j4 ?_|refine j9 ?_|refine j12 (fun id hid=>?_)|refine j13 (fun id hid=>?_)|refine j14 ?_|refine j15 ?_|refine j17t ?_|refine j16 ?_|refine jp (k1) ?_|refine jp (k2) ?_|refine jp (k3) ?_|refine jp (k4) ?_|refine jpy (k5) ?_|refine jcq (hp:=fun hc=>k5) ?_|refine jcq (hp:=fun hc=>k6) ?_)|(refine dl ?_;first|refine d8 ?_|refine d1 ?_|refine d4 ?_|refine d9 ?_|refine d14 ?_|refine d16 ?_|refine dpq (hp:=fun hc=>k0) ?_|refine dpq (hp:=fun hc=>k6) ?_|refine dcfq hcut (by omega) (by omega) (by omega) ?_)|(refine jc ?_;first|refine c1 ?_|refine c2 ?_|refine c6 ?_|refine c7 ?_|refine cq ?_)|refine n1 ?_|refine n2 ?_|refine n11 ?_)|(refine c9 (fun h=>?_) (fun h=>?_)<;>((try simp only [Bool.or_eq_true, Bool.and_eq_true, Bool.or_eq_false_iff, Bool.and_eq_false_iff, Bool.not_eq_true', Bool.not_eq_false', decide_eq_true_eq, decide_eq_false_iff_not, Bool.false_eq_true, Bool.true_eq_false, reduceCtorEq] at h) <;> (try simp (disch := omega) only [sb_bt, w64, Int.reduceAdd, Int.reduceToNat, Int.toNat_natCast, not_true_eq_false, false_or] at h) <;> (try (exfalso; omega)))))
      · simp at h
      · exact ge (congrArg (fun b => AV.v (Value.bool b)) (by simp; omega))
  · repeat' (first|(first|(refine jl ?_;first|refine j1 ?_|refine j4 ?_|refine j12 (fun id hid=>?_)|refine j14 ?_|refine jp (k1) ?_|refine jp (k0) ?_)|(refine jc ?_;first|refine c1 ?_|refine c2 ?_|refine c6 ?_|refine c7 ?_)|refine n1 ?_|refine n2 ?_|refine n11 ?_)|(refine c9 (fun h=>?_) (fun h=>?_)<;>(try simp only [Bool.or_eq_true, Bool.and_eq_true, Bool.or_eq_false_iff, Bool.and_eq_false_iff, Bool.not_eq_true', Bool.not_eq_false', decide_eq_true_eq, decide_eq_false_iff_not, Bool.false_eq_true, Bool.true_eq_false, reduceCtorEq] at h)))
    · first | exact ge rfl | exact gvs (by (repeat' (first | exact finl_nil | apply finl_cons | exact Fin.refl _ _ _ | apply fin_pk2 | apply fin_pk3 | apply fin_agg | apply fin_tup | exact fin_nil | exact fin_sl rfl | exact fin_fz (by exact lkp) (by first | assumption | exact St.ns1 (by assumption) | exact St.ns2 (by assumption) | exact St.ns3 (by assumption) | exact St.ns4 (by assumption) | exact St.ns5 (by assumption) | exact St.ns6 (by assumption) | exact St.ns7 (by assumption) | exact St.ns8 (by assumption) | exact St.ns9 (by assumption) | exact St.ns10 (by assumption) | exact St.ns11 (by assumption) | exact St.ns12 (by assumption) | exact St.ns13 (by assumption) | exact St.ns14 (by assumption) | exact St.ns10 (by assumption) | exact St.ns11 (by assumption) | exact St.ns12 (by assumption) | exact St.ns13 (by assumption) | exact St.ns14 (by assumption)) (by first | exact rfl | assumption | (simp only [List.length_map, List.length_append, List.length_cons, List.length_nil]; done) | (simp only [List.length_map, List.length_append, List.length_cons, List.length_nil]; omega)) rfl (fun _ => rfl) | exact fin_eq rfl)))
    · exact absurd h h0
set_option maxHeartbeats 1000000 in
theorem l_testAgain (l : List Cls) (c : Cnd) (f : Fc) (bd : List Bd) : Pure Tryd.prog 6 [.sl none false 2 (l.map cc), .agg (askc c f bd)] (.v (.bool true)) := by
  refine enterW Tryd.func6 rfl rfl rfl rfl (fun σ => ?_)
  have k1 := p_asklight none false l c f bd
  have k0 := p_awake20
  by_cases h0 : askL l c f bd = 0
  · obtain ⟨⟨hc, hb20⟩, hz⟩ := askL_zero h0
    have hlb : (bd.map bc).length = bd.length := List.length_map ..
    have k2 := p_match none none false false l c f bd hc.1 (fun a ha => (hc.2 a ha).2) (by omega)
    rw [h0] at k1
    rcases hm : matchF l c f bd with _ | b
    · rw [hm] at k2
      dsimp only [mres, Option.getD, Option.isSome] at k2
      repeat' (first|(first|(refine jl ?_;first|refine j1 ?_|refine j4 ?_|refine j12 (fun id hid=>?_)|refine j14 ?_|refine jp (k1) ?_|refine jp (k0) ?_|refine jp (k2) ?_)|(refine jc ?_;first|refine c1 ?_|refine c2 ?_|refine c6 ?_|refine c7 ?_)|refine n1 ?_|refine n2 ?_|refine n11 ?_)|(refine c9 (fun h=>?_) (fun h=>?_)<;>((try simp only [Bool.or_eq_true, Bool.and_eq_true, Bool.or_eq_false_iff, Bool.and_eq_false_iff, Bool.not_eq_true', Bool.not_eq_false', decide_eq_true_eq, decide_eq_false_iff_not, Bool.false_eq_true, Bool.true_eq_false, reduceCtorEq] at h) <;> (try simp (disch := omega) only [sb_bt, w64, Int.reduceAdd, Int.reduceToNat, Int.toNat_natCast, not_true_eq_false, false_or] at h) <;> (try (exfalso; omega)))))
      exact ge rfl
    · rw [hm] at k2
      dsimp only [mres, Option.getD, Option.isSome] at k2
      have hx := match_ext hm
      have hlbb : (b.map bc).length = b.length := List.length_map ..
      have hle := hx.len
      have hml := match_len hc hm
      have k3 := p_match none none false false l c f b hc.1 (fun a ha => (hc.2 a ha).2) (by omega)
      rw [match_again hm] at k3
      dsimp only [mres, Option.getD, Option.isSome] at k3
      have k4 := p_vars c hc.1 (fun a ha => (hc.2 a ha).2)
      have hlv : ((varA c.attrs []).map str1).length = (varA c.attrs []).length := List.length_map ..
      have hnew := match_new hm
      have k5 := p_bsame none none false false b b
      rw [decide_eq_true rfl] at k5
      repeat' (first|(first|(refine jl ?_;first|refine j1 ?_|refine j4 ?_|refine j12 (fun id hid=>?_)|refine j14 ?_|refine jp (k1) ?_|refine jp (k2) ?_|refine jp (k3) ?_)|(refine jc ?_;first|refine c1 ?_|refine c2 ?_|refine c5 ?_|refine c6 ?_)|refine n1 ?_)|(refine c9 (fun h=>?_) (fun h=>?_)<;>((try simp only [Bool.or_eq_true, Bool.and_eq_true, Bool.or_eq_false_iff, Bool.and_eq_false_iff, Bool.not_eq_true', Bool.not_eq_false', decide_eq_true_eq, decide_eq_false_iff_not, Bool.false_eq_true, Bool.true_eq_false, reduceCtorEq] at h) <;> (try simp (disch := omega) only [sb_bt, w64, Int.reduceAdd, Int.reduceToNat, Int.toNat_natCast, not_true_eq_false, false_or] at h) <;> (try (exfalso; omega)))))
      refine cj_fors (fun i : Nat => bd.length ≤ i ∧ i ≤ b.length) (fun i => [(9, .v (.int .i64 i))]) (fun i => b.length - i) bd.length ⟨Nat.le_refl _, hle⟩ ⟨⟨_, rfl, Wk.of_eq (by rw [hlb])⟩, trivial⟩ (fun i hi => ?_)
      by_cases hib : i < b.length
      · obtain ⟨x, hxi⟩ : ∃ x, b[i]? = some x := ⟨_, List.getElem?_eq_getElem hib⟩
        have h4 := get_map bc hxi
        obtain ⟨l1, l2⟩ := hx.look hi.1 hxi
        have k6 := p_lookup none false b x.name
        rw [l1, l2] at k6
        repeat' (first|(first|(refine jl ?_;first|refine j1 ?_|refine j4 ?_)|(refine jc ?_;first|refine c1 ?_|refine c2 ?_|refine c5 ?_|refine c6 ?_)|refine n1 ?_)|(refine c9 (fun h=>?_) (fun h=>?_)<;>((try simp only [Bool.or_eq_true, Bool.and_eq_true, Bool.or_eq_false_iff, Bool.and_eq_false_iff, Bool.not_eq_true', Bool.not_eq_false', decide_eq_true_eq, decide_eq_false_iff_not, Bool.false_eq_true, Bool.true_eq_false, reduceCtorEq] at h) <;> (try simp (disch := omega) only [sb_bt, w64, Int.reduceAdd, Int.reduceToNat, Int.toNat_natCast, not_true_eq_false, false_or] at h) <;> (try (exfalso; omega)))))
        refine cj_fors (fun k : Nat => k ≤ i) (fun k => [(10, .v (.int .i64 k))]) (fun k => i - k) 0 (Nat.zero_le _) ⟨⟨_, rfl, fun _ _ h => h⟩, trivial⟩ (fun k hk => ?_)
        by_cases hki : k < i
        · obtain ⟨y, hyk⟩ : ∃ y, b[k]? = some y := ⟨_, List.getElem?_eq_getElem (by omega)⟩
          have h5 := get_map bc hyk
          have hap := hx.apart hi.1 hki hxi hyk
          repeat' (first|(first|(refine jl ?_;first|refine j1 ?_|refine j4 ?_|refine j6 ?_)|(refine dl ?_;first|refine dbl ?_|refine d1 ?_|refine d4 ?_|refine di1 ?_)|(refine jc ?_;first|refine c1 ?_|refine c2 ?_|refine c5 ?_|refine c6 ?_|refine c7 ?_|refine cq ?_)|refine n1 ?_|refine n2 ?_|refine n5 ?_|refine n6 ?_|refine n10 ?_|refine n11 ?_)|(refine c9 (fun h=>?_) (fun h=>?_)<;>((try simp only [Bool.or_eq_true, Bool.and_eq_true, Bool.or_eq_false_iff, Bool.and_eq_false_iff, Bool.not_eq_true', Bool.not_eq_false', decide_eq_true_eq, decide_eq_false_iff_not, Bool.false_eq_true, Bool.true_eq_false, reduceCtorEq] at h) <;> (try simp (disch := omega) only [sb_bt, w64, Int.reduceAdd, Int.reduceToNat, Int.toNat_natCast, not_true_eq_false, false_or] at h) <;> (try (exfalso; omega)))))
          · exact absurd h hap
          · exact nx_for (k + 1) (by omega) (by omega) ⟨⟨_, rfl, wk1 (by omega)⟩, trivial⟩
        · obtain rfl : k = i := by omega
          repeat' (first|(first|(refine jl ?_;first|refine jbl ?_|refine j1 ?_|refine j4 ?_|refine j6 ?_|refine j13 (fun id hid=>?_)|refine j17t ?_|refine ji1 ?_|refine jp (k6) ?_)|(refine dl ?_;first|refine d7 ?_|refine d1 ?_|refine d4 ?_|refine d9 ?_|refine d16 ?_|refine dneq ?_|refine di3 ?_)|(refine jc ?_;first|refine c1 ?_|refine c2 ?_|refine c6 ?_|refine c8 ?_|refine cq ?_)|refine n1 ?_|refine n3 ?_|refine n7 ?_|refine n8 ?_|refine n10 ?_)|(refine c9 (fun h=>?_) (fun h=>?_)<;>((try simp only [Bool.or_eq_true, Bool.and_eq_true, Bool.or_eq_false_iff, Bool.and_eq_false_iff, Bool.not_eq_true', Bool.not_eq_false', decide_eq_true_eq, decide_eq_false_iff_not, Bool.false_eq_true, Bool.true_eq_false, reduceCtorEq] at h) <;> (try simp (disch := omega) only [sb_bt, w64, Int.reduceAdd, Int.reduceToNat, Int.toNat_natCast, not_true_eq_false, false_or] at h) <;> (try (exfalso; omega)))))
          exact nx_for (k + 1) ⟨by omega, by omega⟩ (by omega) ⟨⟨_, rfl, wk1 (by omega)⟩, trivial⟩ (hle := by first | exact St.le_refl _ | exact St.le_any (St.le_refl _))
      · repeat' (first|(first|(refine jl ?_;first|refine j1 ?_|refine j4 ?_)|(refine dl ?_;first|refine d8 ?_|refine dtf ?_|refine d1 ?_|refine d2 ?_|refine d4 ?_|refine d15 ?_|refine dpq (hp:=fun hc=>k0) ?_|refine dpy (k4) ?_|refine dpy (k5) ?_)|(refine jc ?_;first|refine c1 ?_|refine c2 ?_|refine c7 ?_|refine c8 ?_|refine cq ?_)|refine n1 ?_|refine n3 ?_|refine n7 ?_|refine n8 ?_|refine n11 ?_)|(refine c9 (fun h=>?_) (fun h=>?_)<;>((try simp only [Bool.or_eq_true, Bool.and_eq_true, Bool.or_eq_false_iff, Bool.and_eq_false_iff, Bool.not_eq_true', Bool.not_eq_false', decide_eq_true_eq, decide_eq_false_iff_not, Bool.false_eq_true, Bool.true_eq_false, reduceCtorEq] at h) <;> (try simp (disch := omega) only [sb_bt, w64, Int.reduceAdd, Int.reduceToNat, Int.toNat_natCast, not_true_eq_false, false_or] at h) <;> (try (exfalso; omega)))))
        refine ge (congrArg (fun b => AV.v (Value.bool b)) ?_)
        rw [w64 (by omega) (by omega), decide_eq_true (by omega)]
        rfl
  · repeat' (first|(first|(refine jl ?_;first|refine j1 ?_|refine j4 ?_|refine j12 (fun id hid=>?_)|refine j14 ?_|refine jp (k1) ?_|refine jp (k0) ?_)|(refine jc ?_;first|refine c1 ?_|refine c2 ?_|refine c6 ?_|refine c7 ?_)|refine n1 ?_|refine n2 ?_|refine n11 ?_)|(refine c9 (fun h=>?_) (fun h=>?_)<;>(try simp only [Bool.or_eq_true, Bool.and_eq_true, Bool.or_eq_false_iff, Bool.and_eq_false_iff, Bool.not_eq_true', Bool.not_eq_false', decide_eq_true_eq, decide_eq_false_iff_not, Bool.false_eq_true, Bool.true_eq_false, reduceCtorEq] at h)))
    · first | exact ge rfl | exact gvs (by (repeat' (first | exact finl_nil | apply finl_cons | exact Fin.refl _ _ _ | apply fin_pk2 | apply fin_pk3 | apply fin_agg | apply fin_tup | exact fin_nil | exact fin_sl rfl | exact fin_fz (by exact lkp) (by first | assumption | exact St.ns1 (by assumption) | exact St.ns2 (by assumption) | exact St.ns3 (by assumption) | exact St.ns4 (by assumption) | exact St.ns5 (by assumption) | exact St.ns6 (by assumption) | exact St.ns7 (by assumption) | exact St.ns8 (by assumption) | exact St.ns9 (by assumption) | exact St.ns10 (by assumption) | exact St.ns11 (by assumption) | exact St.ns12 (by assumption) | exact St.ns13 (by assumption) | exact St.ns14 (by assumption) | exact St.ns10 (by assumption) | exact St.ns11 (by assumption) | exact St.ns12 (by assumption) | exact St.ns13 (by assumption) | exact St.ns14 (by assumption)) (by first | exact rfl | assumption | (simp only [List.length_map, List.length_append, List.length_cons, List.length_nil]; done) | (simp only [List.length_map, List.length_append, List.length_cons, List.length_nil]; omega)) rfl (fun _ => rfl) | exact fin_eq rfl)))
    · exact absurd h h0
end Go.Proofs.YtddljegbggncdaaDoor.Ab
