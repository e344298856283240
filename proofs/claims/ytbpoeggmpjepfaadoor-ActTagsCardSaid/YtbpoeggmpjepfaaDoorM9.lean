/- The texts R8, C6, C7, SB, C8, C9, R9, RA, ShelfJ, SN, RB, RC, RD, one behind the other. -/
import Derived.Test.YtbpoeggmpjepfaaDoorM1
import Derived.Test.YtbpoeggmpjepfaaDoorM2
import Derived.Test.YtbpoeggmpjepfaaDoorM3
import Derived.Test.YtbpoeggmpjepfaaDoorM4
import Derived.Test.YtbpoeggmpjepfaaDoorM5
import Derived.Test.YtbpoeggmpjepfaaDoorM6
import Derived.Test.YtbpoeggmpjepfaaDoorM7
import Derived.Test.YtbpoeggmpjepfaaDoorM8
import Derived.Test.YtbpoeggmpjepfaaDoorProg
import Derived.Shelf.Strings.OnBuilder
/- What a rule does: the facts of its conditions. -/
set_option linter.unusedVariables false
set_option linter.unusedSimpArgs false
set_option maxRecDepth 20000
namespace Go.Proofs.YtbpoeggmpjepfaaDoor.Ab
open Go
attribute [local irreducible] thn inb endR CJ LJ OpJ DJ DA DB AllocK r3
def isT (t : Int) (f : Fc) : Bool := decide (f.tag = t)
def findT (facts : List Fc) (t : Int) : Option Fc := facts.find? (isT t)
def beginGo (l : List Cls) (facts : List Fc) : List Cnd → List Int → List Bd → Option (List Bd × List Fc)
  | [], [], bd => some (bd, [])
  | c :: cs, t :: ts, bd => if c.neg = true then (beginGo l facts cs ts bd).map (fun r => (r.1, noFc :: r.2)) else match findT facts t with
    | none => none
    | some f => match matchF l c f bd with
      | none => none
      | some b => (beginGo l facts cs ts b).map (fun r => (r.1, f :: r.2))
  | _, _, _ => none
theorem p_begin1 (tags : List Int) (nl : Option Bool) (full : Bool) (i : Nat) (t : Int) (ht : tags[i]? = some t) (x : Fc) : Pure Tryd.prog 49 [.agg (fc x), .fp [.sl nl full 1 (tags.map int1)], .fp [.v (.int .i64 ((i : Nat) : Int))]] (.v (.bool (isT t x))) := by
  refine enterW Tryd.func49 rfl rfl rfl rfl (fun σ => ?_)
  have h1 := get_map int1 ht
  have h2 := (List.getElem?_eq_some_iff.1 ht).1
  have h3 : (tags.map int1).length = tags.length := List.length_map ..
  repeat' (first|(first|(refine jl ?_;first|refine j1 ?_|refine j4 ?_|refine j12 (fun id hid=>?_))|(refine dl ?_;first|refine dbl ?_|refine d1 ?_|refine d4 ?_|refine d14 ?_|refine di1 ?_)|(refine jc ?_;first|refine c1 ?_|refine c2 ?_|refine c7 ?_|refine cq ?_)|refine n1 ?_|refine n11 ?_))
  exact gives (by repeat' (first | exact St.le_refl _ | refine St.le_any ?_)) (Fin.refl _ _ _)
theorem findT_ix (facts : List Fc) (t : Int) : (idxG (isT t) facts 0 < 0 ∧ findT facts t = none) ∨ ∃ (j : Nat) (f : Fc), idxG (isT t) facts 0 = ((j : Nat) : Int) ∧ facts[j]? = some f ∧ findT facts t = some f := by
  by_cases h : idxG (isT t) facts 0 < 0
  · left
    refine ⟨h, ?_⟩
    unfold findT
    rw [List.find?_eq_none]
    intro x hx
    simp [(idxG_lt (isT t) facts 0).1 h x hx]
  · right
    obtain ⟨j, x, e1, e2, e3, e4⟩ := idxG_get (isT t) facts 0 (by omega)
    rw [Nat.zero_add] at e1
    exact ⟨j, x, e1, e2, e4⟩
theorem beginGo_neg {l : List Cls} {facts : List Fc} {c : Cnd} {cs : List Cnd} {t : Int} {ts : List Int} {bd : List Bd} (h : c.neg = true) : beginGo l facts (c :: cs) (t :: ts) bd = (beginGo l facts cs ts bd).map (fun r => (r.1, noFc :: r.2)) := by
  show (if c.neg = true then _ else _) = _
  rw [if_pos h]
theorem beginGo_pos {l : List Cls} {facts : List Fc} {c : Cnd} {cs : List Cnd} {t : Int} {ts : List Int} {bd : List Bd} (h : c.neg = false) : beginGo l facts (c :: cs) (t :: ts) bd = match findT facts t with
    | none => none
    | some f => match matchF l c f bd with
      | none => none
      | some b => (beginGo l facts cs ts b).map (fun r => (r.1, f :: r.2)) := by
  show (if c.neg = true then _ else _) = _
  rw [if_neg (by rw [h]; simp)]
theorem beginGo_len {l : List Cls} {facts : List Fc} : ∀ {cs : List Cnd} {ts : List Int} {bd : List Bd} {r : List Bd × List Fc}, beginGo l facts cs ts bd = some r → cs.length = ts.length ∧ r.2.length = cs.length
  | [], [], bd, r, h => by cases h; exact ⟨rfl, rfl⟩
  | [], _ :: _, bd, r, h => by cases h
  | _ :: _, [], bd, r, h => by cases h
  | c :: cs, t :: ts, bd, r, h => by
    cases hn : c.neg with
    | true =>
      rw [beginGo_neg hn, Option.map_eq_some_iff] at h
      obtain ⟨x, h1, rfl⟩ := h
      have := beginGo_len h1
      simp [this.1, this.2]
    | false =>
      rw [beginGo_pos hn] at h
      cases hf : findT facts t with
      | none => rw [hf] at h; cases h
      | some f =>
        rw [hf] at h
        dsimp only at h
        cases hm : matchF l c f bd with
        | none => rw [hm] at h; cases h
        | some b =>
          rw [hm] at h
          dsimp only at h
          rw [Option.map_eq_some_iff] at h
          obtain ⟨x, h1, rfl⟩ := h
          have := beginGo_len h1
          simp [this.1, this.2]
theorem goT_keep (p : Vl → Prop) (v : Vl) (hv : p v) : ∀ (ts : List Tst) (now b : List Bd), (∀ x ∈ now, p x.val) → goT v ts now = some b → (∀ x ∈ b, p x.val) ∧ b.length ≤ now.length + ts.length
  | [], now, b, h, e => by cases e; exact ⟨h, by simp⟩
  | t :: r, now, b, h, e => by
    unfold goT at e
    split at e
    · obtain ⟨h1, h2⟩ := goT_keep p v hv r _ b (fun x hx => by
        rcases List.mem_append.1 hx with hx | hx
        · exact h x hx
        · rw [List.mem_singleton.1 hx]; exact hv) e
      rw [List.length_append, List.length_singleton] at h2
      exact ⟨h1, by rw [List.length_cons]; omega⟩
    · split at e
      · obtain ⟨h1, h2⟩ := goT_keep p v hv r _ b h e
        exact ⟨h1, by rw [List.length_cons]; omega⟩
      · cases e
theorem goA_keep (p : Vl → Prop) (ns : List ByteArray) (vs : List Vl) (hv : ∀ v ∈ vs, p v) : ∀ (l : List Atr) (now b : List Bd), (∀ a ∈ l, a.tests.length ≤ 12) → (∀ x ∈ now, p x.val) → goA ns vs l now = some b → (∀ x ∈ b, p x.val) ∧ b.length ≤ now.length + 12 * l.length
  | [], now, b, _, h, e => by cases e; exact ⟨h, by simp⟩
  | a :: r, now, b, ha, h, e => by
    unfold goA at e
    split at e
    · cases hg : vs[(attrN a.attr ns).toNat]? with
      | none => rw [hg] at e; cases e
      | some v =>
        rw [hg] at e
        dsimp only at e
        split at e
        · rw [Option.bind_eq_some_iff] at e
          obtain ⟨m, e1, e2⟩ := e
          obtain ⟨h1, h2⟩ := goT_keep p v (hv v (List.mem_of_getElem? hg)) _ _ _ h e1
          obtain ⟨h3, h4⟩ := goA_keep p ns vs hv r m b (fun x hx => ha x (List.mem_cons_of_mem _ hx)) h1 e2
          have := ha a (List.mem_cons_self ..)
          exact ⟨h3, by rw [List.length_cons]; omega⟩
        · cases e
    · cases e
theorem match_keep {p : Vl → Prop} {l : List Cls} {c : Cnd} {f : Fc} {bd b : List Bd} (hc : c.attrs.length ≤ 12 ∧ ∀ a ∈ c.attrs, a.tests.length ≤ 12) (hf : ∀ v ∈ f.vals, p v) (hb : ∀ x ∈ bd, p x.val) (h : matchF l c f bd = some b) : (∀ x ∈ b, p x.val) ∧ b.length ≤ bd.length + 144 := by
  unfold matchF at h
  split at h
  · obtain ⟨h1, h2⟩ := goA_keep p _ _ hf _ _ _ hc.2 hb h
    exact ⟨h1, by omega⟩
  · cases h
theorem St.c3 {σ : St} {r b h : Nat} {R0 R1 B H : AObj} (hr : σ r = none) (hb : (σ.set r R0) b = none) (hh : ((σ.set r R0).set b B) h = none) : (((((σ.set r R0).set b B).set h H).set r R1).del b) = (σ.set r R1).set h H := by
  have n1 : r ≠ b := St.ne_of_none hb
  have n2 : b ≠ h := St.ne_of_none hh
  have n3 : r ≠ h := St.nn1 hh
  have n4 : σ b = none := St.none_set hb
  funext x
  unfold St.set St.del
  dsimp only
  by_cases e1 : x = b
  · subst e1; simp [n4, n1.symm, n2]
  · by_cases e2 : x = r
    · subst e2; simp [n1, n3]
    · simp [e1, e2]
theorem St.c4 {σ : St} {r h : Nat} {A B C D : AObj} (n : r ≠ h) : ((((σ.set r A).set h B).set r C).set h D) = (σ.set r C).set h D := by
  funext x
  unfold St.set
  by_cases e1 : x = h
  · simp [e1]
  · by_cases e2 : x = r
    · simp [e2, n]
    · simp [e1, e2]
theorem St.fp4 {τ : St} {a b : Nat} {A B C D : AObj} (ha : τ a = none) (hb : (τ.set a A) b = none) : ((((((τ.set a A).set b B).set a C).set b D).del a).del b) = τ := by
  have n1 : a ≠ b := St.ne_of_none hb
  have n2 : τ b = none := St.none_set hb
  funext x
  unfold St.set St.del
  by_cases e1 : x = b
  · simp [e1, n2]
  · by_cases e2 : x = a
    · simp [e2, ha]
    · simp [e1, e2]
abbrev run0 (l : List Cls) (nx : Int) : AObj := .row 5 91 [[.sl none false 2 (l.map cc), .sl (some true) true 1 [], .sl (some true) true 1 [], .sl (some true) true 1 [], .v (.int .i64 nx)]]
abbrev run1 (l : List Cls) (bd : List Bd) (h m : Nat) (nx : Int) : AObj := .row 5 91 [[.sl none false 2 (l.map cc), .sl none false 4 (bd.map bc), .osl h 3 0 m, .sl (some true) true 1 [], .v (.int .i64 nx)]]
set_option maxHeartbeats 8000000 in
theorem q_begin {σ : St} {r : Nat} (hr0 : σ r = none) (l : List Cls) (nx : Int) (nl1 nl2 nl3 : Option Bool) (fl1 fl2 fl3 : Bool) (cs : List Cnd) (facts : List Fc) (tags : List Int) (hc : cs.length ≤ 6) (hcs : ∀ c ∈ cs, c.attrs.length ≤ 12 ∧ ∀ a ∈ c.attrs, a.tests.length ≤ 12) : ACalls Tryd.prog 31 [.ptr r 5 0 0, .sl nl1 fl1 3 (cs.map dc), .sl nl2 fl2 3 (facts.map fc), .sl nl3 fl3 1 (tags.map int1)] (σ.set r (run0 l nx)) (fun e σ' => ∃ x : Option Nat, (match x with | none => beginGo l facts cs tags [] = none | some h => beginGo l facts cs tags [] ≠ none ∧ r ≠ h ∧ σ h = none) ∧ e = .ret (.v (.bool x.isSome)) ∧ σ' = (match x with | none => σ | some h => (σ.set r (run1 l (((beginGo l facts cs tags []).getD ([], [])).1) h cs.length nx)).set h (facR (((beginGo l facts cs tags []).getD ([], [])).2)))) := by
  refine acalls_gives_ex ?_
  refine enter Tryd.func31 rfl rfl rfl rfl ?_
  refine cj_len 3 (fun hm3 => ?_)
  have hn1 : (cs.map dc).length = cs.length := List.length_map ..
  have hn2 : (facts.map fc).length = facts.length := List.length_map ..
  have hn3 : (tags.map int1).length = tags.length := List.length_map ..
  by_cases hne : tags.length = cs.length
  · repeat' (first|(first|(refine jl ?_;first|refine j1 ?_|refine j4 ?_|refine j12 (fun id hid=>?_)|refine j14 ?_|refine j17 ?_|refine jmko (fun q hh => ?_))|(refine jc ?_;first|refine c1 ?_|refine c2 ?_|refine c5 ?_|refine c6 ?_)|refine n1 ?_)|(refine c9 (fun h=>?_) (fun h=>?_)<;>((try simp only [Bool.or_eq_true, Bool.and_eq_true, Bool.or_eq_false_iff, Bool.and_eq_false_iff, Bool.not_eq_true', Bool.not_eq_false', decide_eq_true_eq, decide_eq_false_iff_not, Bool.false_eq_true, Bool.true_eq_false, reduceCtorEq] at h) <;> (try simp (disch := omega) only [sb_bt, w64, Int.reduceAdd, Int.reduceToNat, Int.toNat_natCast, not_true_eq_false, false_or] at h) <;> (try (exfalso; omega)))))
    all_goals first | (exfalso; omega) | skip
    first | refine cj_id 7 (fun b7 e => ?_) | refine lj_id 7 (fun b7 e => ?_)
    subst e
    have hrh : r ≠ q := St.nn1 hh
    have hsh : σ q = none := St.ns2 hh
    refine cj_fp 7 rfl (by rw [St.set_ne _ _ _ (Ne.symm (St.ne_of_none hid)), St.set_ne _ _ _ (St.ne_of_none hh)]; exact St.set_same _ _ _) ?_
    rw [St.c3 hr0 hid hh]
    refine cj_wkrow (b := r) (sz := 5) (et := 91) (cs := [.sl none false 2 (l.map cc), .sl (some true) true 1 [], .osl q 3 0 (((cs.map dc).length : Nat) : Int).toNat, .sl (some true) true 1 [], .v (.int .i64 nx)]) (cs' := [.sl none false 2 (l.map cc), .sl none false 4 (([] : List Bd).map bc), .osl q 3 0 cs.length, .sl (some true) true 1 [], .v (.int .i64 nx)]) (by rw [St.set_ne _ _ _ hrh]; exact St.set_same _ _ _) ⟨Wk.refl _, Wk.nil _ _ _ _, Wk.of_eq (by rw [hn1]; rfl), Wk.refl _, Wk.refl _, trivial⟩ ?_
    refine cj_wkrows (b := q) (l := List.replicate cs.length ()) (fun _ => zeroFc) (fun _ => fc noFc) (by rw [St.set_ne _ _ _ hrh.symm, St.set_same, hn1, List.map_replicate]; rfl) (fun _ => ⟨Wk.refl _, Wk.refl _, Wk.nil _ _ _ _, trivial⟩) ?_
    rw [St.c4 hrh, show (List.replicate cs.length ()).map (fun _ => fc noFc) = (([] : List Fc) ++ List.replicate (cs.length - 0) noFc).map fc by rw [List.nil_append, List.map_replicate, List.map_replicate]; rfl]
    refine cj_for (fun s : Nat × List Bd × List Fc => s.1 ≤ cs.length ∧ s.2.2.length = s.1 ∧ s.2.1.length ≤ 144 * s.1 ∧ (beginGo l facts (cs.drop s.1) (tags.drop s.1) s.2.1).map (fun r => (r.1, s.2.2 ++ r.2)) = beginGo l facts cs tags []) (fun s => [(27, .v (.int .i64 s.1))]) (fun s => (σ.set r (run1 l s.2.1 q cs.length nx)).set q (facR (s.2.2 ++ List.replicate (cs.length - s.1) noFc))) (fun s => cs.length - s.1) (0, [], []) ⟨Nat.zero_le _, rfl, Nat.le_refl _, by dsimp only [List.drop]; cases beginGo l facts cs tags [] <;> rfl⟩ ⟨⟨_, rfl, fun _ _ h => h⟩, trivial⟩ (St.le_refl _) (fun s hs2 => ?_)
    obtain ⟨i, bd, hp⟩ := s
    dsimp only at hs2 ⊢
    obtain ⟨h1, h2, h3, h4⟩ := hs2
    have hbr : ((σ.set r (run1 l bd q cs.length nx)).set q (facR (hp ++ List.replicate (cs.length - i) noFc))) r = some (run1 l bd q cs.length nx) := by rw [St.set_ne _ _ _ hrh]; exact St.set_same _ _ _
    have hbh : ((σ.set r (run1 l bd q cs.length nx)).set q (facR (hp ++ List.replicate (cs.length - i) noFc))) q = some (facR (hp ++ List.replicate (cs.length - i) noFc)) := St.set_same _ _ _
    generalize hτ : (σ.set r (run1 l bd q cs.length nx)).set q (facR (hp ++ List.replicate (cs.length - i) noFc)) = τ at hbr hbh ⊢
    rcases hd : cs.drop i with _ | ⟨c, cr⟩
    · have z1 := dropn hd
      have z2 : tags.drop i = [] := List.drop_eq_nil_iff.2 (by omega)
      rw [hd, z2] at h4
      have h5 : beginGo l facts cs tags [] = some (bd, hp) := by rw [← h4]; show some (bd, hp ++ []) = _; rw [List.append_nil]
      repeat' (first|(first|(refine jl ?_;first|refine j1 ?_|refine j4 ?_)|(refine jc ?_;first|refine c1 ?_|refine c2 ?_|refine c7 ?_|refine c8 ?_)|refine n1 ?_|refine n3 ?_|refine n7 ?_|refine n8 ?_|refine n11 ?_)|(refine c9 (fun h=>?_) (fun h=>?_)<;>((try simp only [Bool.or_eq_true, Bool.and_eq_true, Bool.or_eq_false_iff, Bool.and_eq_false_iff, Bool.not_eq_true', Bool.not_eq_false', decide_eq_true_eq, decide_eq_false_iff_not, Bool.false_eq_true, Bool.true_eq_false, reduceCtorEq] at h) <;> (try simp (disch := omega) only [sb_bt, w64, Int.reduceAdd, Int.reduceToNat, Int.toNat_natCast, not_true_eq_false, false_or] at h) <;> (try (exfalso; omega)))))
      all_goals first | (exfalso; omega) | skip
      refine ⟨some q, ⟨by rw [h5]; exact (fun e => nomatch e), hrh, hsh⟩, ?_⟩
      rw [h5]
      dsimp only [Option.getD]
      rw [← hτ, show cs.length - i = 0 by omega, List.replicate_zero, List.append_nil]
      exact ge rfl
    · obtain ⟨u1, u2, u3⟩ := dropc hd
      have u4 := get_map dc u3
      obtain ⟨t, ht⟩ : ∃ t, tags[i]? = some t := ⟨_, List.getElem?_eq_getElem (by omega)⟩
      have z2 : tags.drop i = t :: tags.drop (i + 1) := by
        rw [List.drop_eq_getElem_cons (show i < tags.length by omega)]
        congr 1
        exact (List.getElem?_eq_some_iff.1 ht).2
      have hcl := hcs c (List.mem_of_getElem? u3)
      have hle : σ.le τ := by rw [← hτ]; exact St.le_trans (St.le_set _ hr0) (St.le_set _ (by rw [St.set_ne _ _ _ hrh.symm]; exact hsh))
      rw [hd, z2] at h4
      obtain ⟨cn, cc_, ca⟩ := c
      cases cn with
      | true =>
        rw [beginGo_neg rfl, ← u2] at h4
        repeat' (first|(first|(refine jl ?_;first|refine jbl ?_|refine j1 ?_|refine j4 ?_|refine j6 ?_|refine j13 (fun id hid=>?_)|refine j14 ?_|refine j17 ?_|refine ji1 ?_)|(refine jc ?_;first|refine c1 ?_|refine c2 ?_|refine c3 ?_|refine c5 ?_|refine c6 ?_|refine c8 ?_)|refine n1 ?_|refine n3 ?_|refine n8 ?_)|(refine c9 (fun h=>?_) (fun h=>?_)<;>((try simp only [Bool.or_eq_true, Bool.and_eq_true, Bool.or_eq_false_iff, Bool.and_eq_false_iff, Bool.not_eq_true', Bool.not_eq_false', decide_eq_true_eq, decide_eq_false_iff_not, Bool.false_eq_true, Bool.true_eq_false, reduceCtorEq] at h) <;> (try simp (disch := omega) only [sb_bt, w64, Int.reduceAdd, Int.reduceToNat, Int.toNat_natCast, not_true_eq_false, false_or] at h) <;> (try (exfalso; omega)))))
        all_goals first | (exfalso; omega) | skip
        refine nx_forS (i + 1, bd, hp ++ [noFc]) ⟨by dsimp only; omega, by dsimp only; rw [List.length_append, List.length_singleton]; omega, by dsimp only; omega, ?_⟩ (by dsimp only; omega) ⟨⟨_, rfl, wk1 (by omega)⟩, trivial⟩ ?_
        · dsimp only
          rw [← h4, Option.map_map]
          congr 1
          funext x
          simp
        · dsimp only
          have e : hp ++ List.replicate (cs.length - i) noFc = hp ++ [noFc] ++ List.replicate (cs.length - (i + 1)) noFc := by
            rw [show cs.length - i = cs.length - (i + 1) + 1 by omega, List.replicate_succ, List.append_assoc]; rfl
          rw [← e, hτ]
          repeat' (first | exact St.le_refl _ | refine St.le_any ?_)
      | false =>
        rw [beginGo_pos rfl] at h4
        iterate 20 (first|(first|(refine jl ?_;first|refine jbl ?_|refine j1 ?_|refine j4 ?_|refine j13 (fun id hid=>?_)|refine j17 ?_|refine ji1 ?_)|(refine jc ?_;first|refine c1 ?_|refine c2 ?_|refine c5 ?_|refine c6 ?_)|refine n1 ?_)|(refine c9 (fun h=>?_) (fun h=>?_)<;>((try simp only [Bool.or_eq_true, Bool.and_eq_true, Bool.or_eq_false_iff, Bool.and_eq_false_iff, Bool.not_eq_true', Bool.not_eq_false', decide_eq_true_eq, decide_eq_false_iff_not, Bool.false_eq_true, Bool.true_eq_false, reduceCtorEq] at h) <;> (try simp (disch := omega) only [sb_bt, w64, Int.reduceAdd, Int.reduceToNat, Int.toNat_natCast, not_true_eq_false, false_or] at h) <;> (try (exfalso; omega)))))
        first | refine cj_id 9 (fun b9 e => ?_) | refine lj_id 9 (fun b9 e => ?_)
        subst e
        first | refine cj_id 10 (fun b10 e => ?_) | refine lj_id 10 (fun b10 e => ?_)
        subst e
        refine cj_fp 9 rfl (by rw [St.set_ne' _ _ _ (Ne.symm (St.ne_of_none (by assumption)))]; exact St.set_same _ _ _) ?_
        refine cj_fp 10 rfl (by unfold St.del; rw [if_neg (Ne.symm (St.ne_of_none (by assumption)))]; exact St.set_same _ _ _) ?_
        rw [St.fp4 (by assumption) (by assumption)]
        have k1 := p_index_facts (f := 49) (caps := [.fp [.sl nl3 fl3 1 (tags.map int1)], .fp [.v (.int .i64 ((i : Nat) : Int))]]) (isT t) rfl nl2 fl2 facts (fun x _ => p_begin1 tags nl3 fl3 i t ht x)
        rcases findT_ix facts t with ⟨f1, f2⟩ | ⟨j, f, f1, f2, f3⟩
        · rw [f2] at h4
          repeat' (first|(first|(refine jl ?_;first|refine jbl ?_|refine j1 ?_|refine j4 ?_|refine jp (k1) ?_)|(refine jc ?_;first|refine c1 ?_|refine c2 ?_|refine c4 ?_|refine c6 ?_|refine c7 ?_)|refine n1 ?_|refine n2 ?_|refine n5 ?_|refine n6 ?_|refine n11 ?_)|(refine c9 (fun h=>?_) (fun h=>?_)<;>((try simp only [Bool.or_eq_true, Bool.and_eq_true, Bool.or_eq_false_iff, Bool.and_eq_false_iff, Bool.not_eq_true', Bool.not_eq_false', decide_eq_true_eq, decide_eq_false_iff_not, Bool.false_eq_true, Bool.true_eq_false, reduceCtorEq] at h) <;> (try simp (disch := omega) only [sb_bt, w64, Int.reduceAdd, Int.reduceToNat, Int.toNat_natCast, not_true_eq_false, false_or] at h) <;> (try (exfalso; omega)))))
          all_goals first | (exfalso; omega) | skip
          refine ⟨none, h4.symm, gives ?_ (Fin.refl _ _ _)⟩
          exact hle
        · rw [f1] at k1
          rw [f3] at h4
          dsimp only at h4
          have f4 := get_map fc f2
          have f5 := (List.getElem?_eq_some_iff.1 f2).1
          have km := p_match none none false false l ⟨false, cc_, ca⟩ f bd hcl.1 hcl.2 (by omega)
          cases hm : matchF l ⟨false, cc_, ca⟩ f bd with
          | none =>
            rw [hm] at h4 km
            repeat' (first|(first|(refine jl ?_;first|refine jbl ?_|refine j1 ?_|refine j4 ?_|refine jp (k1) ?_)|(refine dl ?_;first|refine dbl ?_|refine d1 ?_|refine d4 ?_|refine d14 ?_|refine di1 ?_|refine dp (km) ?_)|(refine al ?_;first|refine da_nil ?_|refine abl ?_|refine a1 ?_|refine a14 ?_|refine ai1 ?_)|refine al_nil ?_|(refine jc ?_;first|refine c1 ?_|refine c2 ?_|refine c4 ?_|refine c6 ?_|refine c7 ?_|refine cqk ?_|refine cq ?_)|refine n1 ?_|refine n2 ?_|refine n5 ?_|refine n6 ?_|refine n11 ?_)|(refine c9 (fun h=>?_) (fun h=>?_)<;>((try simp only [Bool.or_eq_true, Bool.and_eq_true, Bool.or_eq_false_iff, Bool.and_eq_false_iff, Bool.not_eq_true', Bool.not_eq_false', decide_eq_true_eq, decide_eq_false_iff_not, Bool.false_eq_true, Bool.true_eq_false, reduceCtorEq] at h) <;> (try simp (disch := omega) only [sb_bt, w64, Int.reduceAdd, Int.reduceToNat, Int.toNat_natCast, not_true_eq_false, false_or] at h) <;> (try (exfalso; omega)))))
            all_goals first | (exfalso; omega) | (exfalso; simp at h; done) | skip
            refine ⟨none, h4.symm, gives hle (Fin.refl _ _ _)⟩
          | some b =>
            rw [hm] at h4 km
            dsimp only at h4
            have hkp := match_keep (p := fun _ => True) hcl (fun _ _ => trivial) (fun _ _ => trivial) hm
            have hel : (hp ++ List.replicate (cs.length - i) noFc)[i]? = some noFc := by
              rw [List.getElem?_append_right (by omega), h2, Nat.sub_self, List.getElem?_replicate, if_pos (by omega)]
            have hg : ((hp ++ List.replicate (cs.length - i) noFc).map fc)[0 + ((i : Nat) : Int).toNat]? = some (fc noFc) := by rw [Nat.zero_add]; exact get_map fc hel
            have hst : ((hp ++ List.replicate (cs.length - i) noFc).map fc).set (0 + ((i : Nat) : Int).toNat) (fc f) = (hp ++ [f] ++ List.replicate (cs.length - (i + 1)) noFc).map fc := by
              rw [Nat.zero_add, Int.toNat_natCast, ← List.map_set, List.set_append_right _ _ (by omega), h2, Nat.sub_self, show cs.length - i = cs.length - (i + 1) + 1 by omega, List.replicate_succ, List.append_assoc]; rfl
            have hln : (hp ++ List.replicate (cs.length - i) noFc).length = cs.length := by rw [List.length_append, List.length_replicate]; omega
            repeat' (first|(first|(refine jl ?_;first|refine jbl ?_|refine j1 ?_|refine j4 ?_|refine jp (k1) ?_)|(refine dl ?_;first|refine dbl ?_|refine d1 ?_|refine d4 ?_|refine d14 ?_|refine di1 ?_|refine dp (km) ?_)|(refine yl ?_;first|refine y7 ?_|refine y8 ?_|refine y10 ?_|refine y11 ?_|refine ybd ?_|refine ybl ?_|refine y1 ?_|refine y2 ?_|refine y3 ?_|refine y3f ?_|refine y9 ?_|refine y14 ?_|refine y15 ?_|refine y16 ?_|refine y17 ?_|refine y18 ?_|refine y21 ?_|refine y25 ?_|refine yi1 ?_|refine yi2 ?_|refine yi3 ?_|refine yi4 ?_|refine yi4q ?_|refine yi6 ?_|refine ylit ?_|refine yp (k1) ?_|refine ypy (k1) ?_|refine ypq (hp:=fun hc=>k1) ?_|refine yp (km) ?_|refine ypy (km) ?_|refine ypq (hp:=fun hc=>km) ?_)|(refine jc ?_;first|refine c1 ?_|refine c2 ?_|refine c4 ?_|refine c6 ?_|refine c7 ?_|refine cqy (id := 14) [13, 15] [0, 1, 2, 3, 4, 5, 6, 7, 8, 9, 10, 11, 12, 13, 14, 15] ?_|refine cq ?_)|refine n1 ?_|refine n2 ?_|refine n5 ?_|refine n6 ?_|refine n11 ?_)|(refine c9 (fun h=>?_) (fun h=>?_)<;>((try simp only [Bool.or_eq_true, Bool.and_eq_true, Bool.or_eq_false_iff, Bool.and_eq_false_iff, Bool.not_eq_true', Bool.not_eq_false', decide_eq_true_eq, decide_eq_false_iff_not, Bool.false_eq_true, Bool.true_eq_false, reduceCtorEq] at h) <;> (try simp (disch := omega) only [sb_bt, w64, Int.reduceAdd, Int.reduceToNat, Int.toNat_natCast, not_true_eq_false, false_or] at h) <;> (try (exfalso; omega)))))
            all_goals first | (exfalso; omega) | (exfalso; simp at h; done) | skip
            refine yse hg hst ?_ (hσ := by rw [St.set_ne _ _ _ hrh.symm]; exact hbh)
            refine ynil ?_
            repeat (first|(refine jl ?_;first|refine j1 ?_|refine j6 ?_)|(refine jc ?_;first|refine c2 ?_)|refine n1 ?_|refine n10 ?_)
            refine nx_forS (i + 1, b, hp ++ [f]) ⟨by dsimp only; omega, by dsimp only; rw [List.length_append, List.length_singleton]; omega, by dsimp only; omega, ?_⟩ (by dsimp only; omega) ⟨⟨_, rfl, wk1 (by omega)⟩, trivial⟩ ?_
            · dsimp only
              rw [← h4, u2, Option.map_map]
              congr 1
              funext x
              simp
            · dsimp only
              rw [← hτ, St.c4 hrh]
              exact St.le_refl _
  · repeat' (first|(first|(refine jl ?_;first|refine j1 ?_|refine j4 ?_|refine j12 (fun id hid=>?_)|refine j14 ?_)|(refine jc ?_;first|refine c1 ?_|refine c2 ?_|refine c7 ?_)|refine n2 ?_|refine n11 ?_)|(refine c9 (fun h=>?_) (fun h=>?_)<;>((try simp only [Bool.or_eq_true, Bool.and_eq_true, Bool.or_eq_false_iff, Bool.and_eq_false_iff, Bool.not_eq_true', Bool.not_eq_false', decide_eq_true_eq, decide_eq_false_iff_not, Bool.false_eq_true, Bool.true_eq_false, reduceCtorEq] at h) <;> (try simp (disch := omega) only [sb_bt, w64, Int.reduceAdd, Int.reduceToNat, Int.toNat_natCast, not_true_eq_false, false_or] at h) <;> (try (exfalso; omega)))))
    all_goals first | (exfalso; omega) | skip
    refine ⟨none, ?_, gives (St.le_any (St.le_set _ hr0)) (Fin.refl _ _ _)⟩
    dsimp only
    cases hb : beginGo l facts cs tags [] with
    | none => rfl
    | some x => exact absurd (beginGo_len hb).1.symm hne
end Go.Proofs.YtbpoeggmpjepfaaDoor.Ab

/- Facts changed, by the document's answer. -/
set_option linter.unusedVariables false
set_option linter.unusedSimpArgs false
set_option maxRecDepth 20000
namespace Go.Proofs.YtbpoeggmpjepfaaDoor.Ab
open Go
attribute [local irreducible] thn inb endR CJ LJ OpJ DJ DA DB AllocK

end Go.Proofs.YtbpoeggmpjepfaaDoor.Ab

/- Facts made and changed, by both. -/
set_option linter.unusedVariables false
set_option linter.unusedSimpArgs false
set_option maxRecDepth 20000
namespace Go.Proofs.YtbpoeggmpjepfaaDoor.Ab
open Go
attribute [local irreducible] thn inb endR CJ LJ OpJ DJ DA DB AllocK

theorem withGo_len : ∀ (ns : List ByteArray) (d s : List Bd) (vs : List Vl), (withGo ns d s vs).1 = 0 → (withGo ns d s vs).2.length = vs.length
  | ns, d, [], vs, _ => rfl
  | ns, d, b :: r, vs, h => by
    unfold withGo at h ⊢
    split at h
    · cases h
    · rw [if_neg (by assumption)]
      split at h
      · cases h
      · rw [if_neg (by assumption)]
        split at h
        · rw [if_pos (by assumption)]
          rw [withGo_len ns _ r _ h, List.length_set]
        · rename_i h0; exact absurd h h0
theorem withR_len {l : List Cls} {f : Fc} {n : Int} {sets : List Bd} (h : (withR l f n sets).1 = 0) : (withR l f n sets).2.length = f.vals.length := by
  unfold withR at h ⊢
  split at h
  · rename_i h0; exact absurd h h0
  · rw [if_neg (by assumption)]
    split at h
    · cases h
    · rw [if_neg (by assumption)]; exact withGo_len _ _ _ _ h
theorem p_withA (nl nl' : Option Bool) (full full' : Bool) (l : List Cls) (f : Fc) (n : Int) (sets : List Bd) (hl : f.vals.length ≤ 65536) : Pure Tryd.prog 73 [.sl nl full 2 (l.map cc), .agg (fc f), .v (.int .i64 n), .sl nl' full' 4 (sets.map bc)] (.tup [.agg (fc (withF l f n sets)), .v (.int .i64 (withR l f n sets).1)]) := by
  by_cases hv : f.vals = []
  · exact p_with0 nl nl' full full' l f n sets hv
  · intro σ
    refine (acalls_gives ((p_with nl nl' full full' l f n sets hv hl σ).mono ?_)).mono (fun e σ' h => ⟨h.1, h.2 ▸ St.le_refl _⟩)
    rintro e σ' ⟨x, h1, h2, h3⟩
    subst h2; subst h3
    cases x with
    | none => exact ge rfl
    | some id =>
      dsimp only at h1 ⊢
      have hlen := withR_len h1.1
      have hid := h1.2
      rw [withF, if_pos h1.1, h1.1]
      exact gvs (fin_tup ⟨fin_agg ⟨Fin.refl _ _ _, Fin.refl _ _ _, fin_fz (St.set_same _ _ _) hid (by rw [List.length_map, hlen]) rfl (fun _ => rfl), trivial⟩, Fin.refl _ _ _, trivial⟩)
end Go.Proofs.YtbpoeggmpjepfaaDoor.Ab

/- strings.Builder: a variable of our own with a row of bytes. -/
set_option linter.unusedVariables false
set_option linter.unusedSimpArgs false
set_option maxRecDepth 20000
namespace Go.Proofs.YtbpoeggmpjepfaaDoor.Ab
open Go
attribute [local irreducible] thn inb endR CJ LJ OpJ DJ DA DB AllocK

def noB : ByteArray := ⟨#[]⟩
/-- A builder: what it points to (itself, or nothing yet), and its row of bytes. -/
abbrev bldO (c0 : AV) (w n : Nat) : AObj := .row 2 161 [[c0, .osl w 1 0 n]]
abbrev bldR (lb : List UInt8) : AObj := .row 1 5 (bys lb)
def bldA (b : Nat) : Bool → AV
  | true => .ptr b 2 0 0
  | false => .v (.pointer none)
def Bld (σ : St) (b w : Nat) (lb : List UInt8) (u : Bool) : Prop := σ b = some (bldO (bldA b u) w lb.length) ∧ σ w = some (bldR lb) ∧ w ≠ b
theorem q_copycheck {σ : St} {b w : Nat} {lb : List UInt8} {u : Bool} (h : Bld σ b w lb u) : ACalls Tryd.prog 93 [.ptr b 2 0 0] σ (fun e σ' => e = .ret (.tup []) ∧ σ' = σ.set b (bldO (.ptr b 2 0 0) w lb.length)) := by
  obtain ⟨h1, h2, h3⟩ := h
  cases u
  · have h1 : σ b = some (bldO (.v (.pointer none)) w lb.length) := h1
    refine enterS Tryd.func93 rfl rfl rfl rfl ?_
    repeat (first|(refine jl ?_;first|refine j1 ?_|refine j4 ?_|refine j6 ?_|refine j14 ?_|refine j17 ?_|refine jtu ?_|refine jxt ?_|refine jfu ?_)|(refine jc ?_;first|refine c1 ?_|refine c2 ?_|refine c3 ?_)|refine n12 ?_)
    exact ge rfl
  · have h1 : σ b = some (bldO (.ptr b 2 0 0) w lb.length) := h1
    have e : σ.set b (bldO (.ptr b 2 0 0) w lb.length) = σ := by
      funext x
      by_cases hx : x = b
      · subst hx; rw [St.set_same, h1]
      · rw [St.set_ne _ _ _ hx]
    rw [e]
    refine enterS Tryd.func93 rfl rfl rfl rfl ?_
    repeat (first|(refine jl ?_;first|refine j1 ?_|refine j4 ?_|refine j14 ?_|refine jnes ?_)|(refine jc ?_;first|refine c1 ?_|refine c2 ?_|refine c4 ?_|refine c6 ?_)|refine n12 ?_)
    exact ge rfl
theorem bld_le {σ : St} {b w w' : Nat} {o1 o2 r : AObj} (hb : w' ≠ b) (hwb : w ≠ b) : (((σ.del w).set w' r).set b o2).le ((((σ.set b o1).del w).set w' r).set b o2) := fun x v hv => by
  by_cases hx : x = b
  · subst hx; rw [St.set_same] at hv ⊢; exact hv
  · rw [St.set_ne _ _ _ hx] at hv ⊢
    by_cases hxw : x = w'
    · subst hxw; rw [St.set_same] at hv ⊢; exact hv
    · rw [St.set_ne _ _ _ hxw] at hv ⊢
      unfold St.del at hv ⊢
      split
      · rename_i e; rw [if_pos e] at hv; exact hv
      · rename_i e; rw [if_neg e] at hv; rw [St.set_ne _ _ _ hx]; exact hv
theorem bld_bys (a b : List UInt8) : bys (a ++ b) = bys a ++ bys b := List.map_append
theorem St.del_neS {σ : St} {w x : Nat} (h : x ≠ w) : σ.del w x = σ x := by unfold St.del; rw [if_neg h]
/-- What is written stands behind what was there. -/
theorem q_wstr0 {σ : St} {b w : Nat} {lb : List UInt8} {u : Bool} (h : Bld σ b w lb u) (s : ByteArray) (hl : lb.length + s.size ≤ 140737488355328) : ACalls Tryd.prog 90 [.ptr b 2 0 0, .v (.string s)] σ (fun e σ' => ∃ w' : Nat, (σ w' = none ∧ w' ≠ b) ∧ e = .ret (.tup [.v (.int .i64 s.size), .v .nilIface]) ∧ σ' = ((σ.del w).set w' (bldR (lb ++ s.data.toList))).set b (bldO (.ptr b 2 0 0) w' (lb ++ s.data.toList).length)) := by
  refine acalls_gives_ex ?_
  refine enter Tryd.func90 rfl rfl rfl rfl ?_
  obtain ⟨h1, h2, h3⟩ := id h
  repeat (first|(refine jl ?_;first|refine j1 ?_|refine j4 ?_|refine j14 ?_|refine lj_to rfl rfl rfl (q_copycheck h) ?_|refine jaos (fun w' hw' => ?_))|(refine jc ?_;first|refine c1 ?_|refine c2 ?_))
  have hb : w' ≠ b := fun e => by subst e; rw [St.set_same] at hw'; cases hw'
  have hB : ∀ r, (((σ.set b (bldO (.ptr b 2 0 0) w lb.length)).del w).set w' r) b = some (bldO (.ptr b 2 0 0) w lb.length) := fun r => by
    rw [St.set_ne _ _ _ (Ne.symm hb), St.del_neS (Ne.symm h3), St.set_same]
  have hB2 := hB (bldR (lb ++ s.data.toList))
  have e : (bys lb).take lb.length ++ bys s.data.toList = bys (lb ++ s.data.toList) := by rw [bld_bys, ← length_bys lb, List.take_length]
  have e2 : lb.length + s.size = (lb ++ s.data.toList).length := by rw [List.length_append, Array.length_toList]; rfl
  rw [e, e2]
  repeat (first|(refine jl ?_;first|refine j1 ?_|refine j4 ?_|refine j17 ?_)|(refine jc ?_;first|refine c1 ?_|refine c2 ?_|refine c7 ?_)|refine n11 ?_)
  refine ⟨w', ⟨by rwa [St.set_ne _ _ _ hb] at hw', hb⟩, gives (bld_le hb h3) (fin_tup ⟨Fin.refl _ _ _, Fin.refl _ _ _, trivial⟩)⟩
theorem bld_data (a b : ByteArray) : a.data.toList ++ b.data.toList = (a ++ b).data.toList := by simp
theorem q_wstr {τ σ : St} {b w : Nat} {acc : ByteArray} {u : Bool} (hτ : τ.le σ) (hb : τ b = none) (hw : τ w = none) (h : Bld σ b w acc.data.toList u) (s : ByteArray) (hl : acc.size + s.size ≤ 140737488355328) : ACalls Tryd.prog 90 [.ptr b 2 0 0, .v (.string s)] σ (fun e σ' => e = .ret (.tup [.v (.int .i64 s.size), .v .nilIface]) ∧ ∃ w', τ w' = none ∧ Bld σ' b w' (acc ++ s).data.toList true ∧ τ.le σ') :=
  (q_wstr0 h s (by rw [Array.length_toList]; exact hl)).mono fun e σ' ⟨w', ⟨h1, h2⟩, h3, h4⟩ => by
    refine ⟨h3, w', ?_, ?_, ?_⟩
    · cases hv : τ w' with
      | none => rfl
      | some v => rw [hτ w' v hv] at h1; cases h1
    · rw [h4, ← bld_data]
      exact ⟨St.set_same _ _ _, by rw [St.set_ne _ _ _ h2, St.set_same], h2⟩
    · subst h4
      intro x v hv
      have hxb : x ≠ b := fun e => by rw [e, hb] at hv; cases hv
      have hxw : x ≠ w := fun e => by rw [e, hw] at hv; cases hv
      have hxw' : x ≠ w' := fun e => by subst e; rw [hτ x v hv] at h1; cases h1
      rw [St.set_ne _ _ _ hxb, St.set_ne _ _ _ hxw', St.del_neS hxw]
      exact hτ x v hv
/-- What was written, as a string; it is written no more. -/
theorem q_bstr {σ : St} {b w : Nat} {acc : ByteArray} {u : Bool} (h : Bld σ b w acc.data.toList u) (h0 : acc.size ≠ 0) (hl : acc.size ≤ 140737488355328) : ACalls Tryd.prog 91 [.ptr b 2 0 0] σ (fun e σ' => e = .ret (.v (.string acc)) ∧ σ' = σ.del w) := by
  refine enterS Tryd.func91 rfl rfl rfl rfl ?_
  obtain ⟨h1, h2, h3⟩ := id h
  have hlen : acc.data.toList.length = acc.size := Array.length_toList
  have h0 : acc.data.toList ≠ [] := fun e => h0 (by rw [← hlen, e]; rfl)
  have hpos : 0 < acc.data.toList.length := List.length_pos_iff.2 h0
  have hl' : acc.data.toList.length ≤ 140737488355328 := by omega
  have h4 : (σ.del w) b = σ b := St.del_neS (Ne.symm h3)
  rw [h1] at h4
  repeat (first|(refine jl ?_;first|refine j1 ?_|refine j4 ?_)|(refine jc ?_;first|refine c1 ?_|refine c2 ?_))
  refine cqm 10 (σ1 := σ.del w) (h := ?_)
  repeat (first|(refine dl ?_;first|refine d1 ?_|refine d4 ?_|refine d14 ?_|refine dsd ?_|refine dus ?_)|(refine jc ?_;first|refine c7 ?_)|refine n1 ?_|refine n11 ?_)
  exact ge rfl
abbrev bldS (τ : St) (b w : Nat) (acc : ByteArray) (u : Bool) : St := (τ.set b (bldO (bldA b u) w acc.size)).set w (bldR acc.data.toList)
theorem bldS_bld {τ : St} {b w : Nat} {acc : ByteArray} {u : Bool} (h : w ≠ b) : Bld (bldS τ b w acc u) b w acc.data.toList u := ⟨by unfold bldS; rw [St.set_ne _ _ _ (Ne.symm h), St.set_same, Array.length_toList]; rfl, St.set_same _ _ _, h⟩
theorem bldS_le {τ σ : St} {b w : Nat} {acc : ByteArray} {u : Bool} (hτ : τ.le σ) (h : Bld σ b w acc.data.toList u) : (bldS τ b w acc u).le σ := St.le_setk (St.le_setk hτ (by rw [h.1, Array.length_toList]; rfl)) h.2.1
theorem bldS_keep {τ : St} {b w : Nat} {acc : ByteArray} {u : Bool} (hb : τ b = none) (hw : τ w = none) : τ.le (bldS τ b w acc u) := St.le_any (St.le_any (St.le_refl _) hb) hw
/-- A builder before its first word. -/
theorem ghost_bld {fr : Fr} {σ : St} {K : Fr → St → Prop} {b : Nat} (h : ∀ (τ : St) w σ', τ b = none → τ w = none → τ.le σ' → (∀ x o, x ≠ b → σ x = some o → τ x = some o) → (∀ ρ : St, ρ b = none → ρ.le σ → ρ.le τ) → Bld σ' b w (noB).data.toList false → K fr σ') (hσ : σ b = some (.row 2 161 [[.v (.pointer none), .sl (some true) true 1 []]])) : Ghost fr σ K :=
  ghost_nilcell (b := b) (sz := 2) (et := 161) (cs := [.v (.pointer none), .sl (some true) true 1 []]) (j := 1) 1 5 hσ rfl (fun w hw => by
    have hwb : w ≠ b := fun e => by rw [e, hσ] at hw; cases hw
    refine h (σ.del b) w _ (by unfold St.del; rw [if_pos rfl]) (by rw [St.del_neS hwb]; exact hw) (fun x v hv => ?_) (fun x o h1 h2 => by rw [St.del_neS h1]; exact h2) (fun ρ h1 h2 x v hv => ?_) ⟨St.set_same _ _ _, by rw [St.set_ne _ _ _ hwb, St.set_same]; rfl, hwb⟩
    · have hxb : x ≠ b := fun e => by subst e; unfold St.del at hv; rw [if_pos rfl] at hv; cases hv
      rw [St.del_neS hxb] at hv
      have hxw : x ≠ w := fun e => by rw [e, hw] at hv; cases hv
      rw [St.set_ne _ _ _ hxb, St.set_ne _ _ _ hxw]; exact hv
    · have hxb : x ≠ b := fun e => by rw [e, h1] at hv; cases hv
      rw [St.del_neS hxb]; exact h2 x v hv)
theorem cj_bld {nt : Nat} {Q : Post} {fr : Fr} {σ : St} {c : Code} {b : Nat} (t : Nat) (h : ∀ (τ : St) w σ', τ b = none → τ w = none → τ.le σ' → (∀ x o, x ≠ b → σ x = some o → τ x = some o) → (∀ ρ : St, ρ b = none → ρ.le σ → ρ.le τ) → Bld σ' b w (noB).data.toList false → CJ Tryd.prog nt c Q fr σ') (ht : lk fr t = some (.ptr b 2 0 0) := by exact rfl) (hσ : σ b = some (.row 2 161 [[.v (.pointer none), .sl (some true) true 1 []]]) := by exact lkp) : CJ Tryd.prog nt c Q fr σ := cj_ghost (ghost_bld h hσ)
theorem lj_bld {nt : Nat} {Q : Post} {fr : Fr} {σ : St} {ops : Array Oper} {l : List Oper} {b : Nat} (t : Nat) (h : ∀ (τ : St) w σ', τ b = none → τ w = none → τ.le σ' → (∀ x o, x ≠ b → σ x = some o → τ x = some o) → (∀ ρ : St, ρ b = none → ρ.le σ → ρ.le τ) → Bld σ' b w (noB).data.toList false → LJ Tryd.prog nt ops Q l fr σ') (ht : lk fr t = some (.ptr b 2 0 0) := by exact rfl) (hσ : σ b = some (.row 2 161 [[.v (.pointer none), .sl (some true) true 1 []]]) := by exact lkp) : LJ Tryd.prog nt ops Q l fr σ := lj_ghost (ghost_bld h hσ)
theorem Bld.set {σ : St} {b w id : Nat} {lb : List UInt8} {u : Bool} {o : AObj} (h : Bld σ b w lb u) (h1 : id ≠ b) (h2 : id ≠ w) : Bld (σ.set id o) b w lb u := ⟨by rw [St.set_ne _ _ _ (Ne.symm h1)]; exact h.1, by rw [St.set_ne _ _ _ (Ne.symm h2)]; exact h.2.1, h.2.2⟩
theorem Bld.neb {σ : St} {b w id : Nat} {lb : List UInt8} {u : Bool} (h : Bld σ b w lb u) (hid : σ id = none) : id ≠ b := St.ne_some hid h.1
theorem Bld.new {σ : St} {b w id : Nat} {lb : List UInt8} {u : Bool} (h : Bld σ b w lb u) (hid : σ id = none) : id ≠ w := St.ne_some hid h.2.1
theorem noB_app (s : ByteArray) : noB ++ s = s := by
  apply ByteArray.ext
  rw [ByteArray.data_append]
  simp [noB]
end Go.Proofs.YtbpoeggmpjepfaaDoor.Ab

/- A fact's text. -/
set_option linter.unusedVariables false
set_option linter.unusedSimpArgs false
set_option maxRecDepth 20000
namespace Go.Proofs.YtbpoeggmpjepfaaDoor.Ab
open Go
attribute [local irreducible] thn inb endR CJ LJ OpJ DJ DA DB AllocK

def sOpen : ByteArray := ⟨#[40]⟩
def sClose : ByteArray := ⟨#[41]⟩
def sHat : ByteArray := ⟨#[32, 94]⟩
def sSp : ByteArray := ⟨#[32]⟩
def textP (a : ByteArray) (v : Vl) : ByteArray := sHat ++ a ++ sSp ++ textV v.k v.n v.s
def textGo : List ByteArray → List Vl → ByteArray → ByteArray
  | a :: al, v :: vs, acc => textGo al vs (if v.k = 0 then acc else acc ++ textP a v)
  | _, _, acc => acc
def textF (l : List Cls) (f : Fc) : ByteArray := if checkF l f = 0 then textGo (ofC l f).attrs f.vals (sOpen ++ f.cls) ++ sClose else ⟨#[]⟩
theorem textV_size (k n : Int) (s : ByteArray) : (textV k n s).size ≤ 24 := by
  unfold textV
  by_cases h : checkE k n s = 0
  · rw [if_neg (fun e => e h)]
    by_cases h1 : k = 1
    · rw [if_pos h1]; exact Nat.le_trans (toldS_size n) (by omega)
    · rw [if_neg h1]
      by_cases h2 : k = 2
      · rw [if_pos h2]
        have hw : wordB s = true := by
          unfold checkE at h
          cases hb : wordB s with
          | true => rfl
          | false => simp [hb, h1, h2] at h; grind
        exact wordB_size hw
      · rw [if_neg h2]; decide
  · rw [if_pos h]; decide
theorem textP_size (a : ByteArray) (v : Vl) (h : a.size ≤ 60) : (textP a v).size ≤ 90 := by
  have := textV_size v.k v.n v.s
  unfold textP
  simp only [ByteArray.size_append, show sHat.size = 2 from rfl, show sSp.size = 1 from rfl]
  omega
theorem findC_mem {nm : ByteArray} {l : List Cls} {c : Cls} (h : findC nm l = some c) : c ∈ l := List.mem_of_find?_eq_some h
end Go.Proofs.YtbpoeggmpjepfaaDoor.Ab

/- Facts made, looked at; what every right program makes. -/
set_option linter.unusedVariables false
set_option linter.unusedSimpArgs false
set_option maxRecDepth 20000
namespace Go.Proofs.YtbpoeggmpjepfaaDoor.Ab
open Go
attribute [local irreducible] thn inb endR CJ LJ OpJ DJ DA DB AllocK

def emptyF (c : Cls) (nm : ByteArray) : Fc := ⟨1, nm, List.replicate c.attrs.length noV⟩
def makeR (l : List Cls) (n : Int) (nm : ByteArray) (sets : List Bd) : Int := match findC nm l with
  | none => 18
  | some c => (withR l (emptyF c nm) n sets).1
def makeF (l : List Cls) (n : Int) (nm : ByteArray) (sets : List Bd) : Fc := match findC nm l with
  | none => noF
  | some c => withF l (emptyF c nm) n sets
theorem rep_noV (c : Cls) : List.replicate (((c.attrs.map str1).length : Nat) : Int).toNat [AV.v (.int .u8 0), .v (.int .i64 0), .v (.string ⟨#[]⟩)] = (emptyF c ⟨#[]⟩).vals.map vc := by
  rw [List.length_map, Int.toNat_natCast, emptyF, List.map_replicate]; rfl
theorem p_make (nl nl' : Option Bool) (full full' : Bool) (l : List Cls) (n : Int) (nm : ByteArray) (sets : List Bd) (hl : ∀ c ∈ l, c.attrs.length ≤ 20) (hz2 : ∀ b ∈ sets, b.val.s.size ≤ 60) : Pure Tryd.prog 70 [.sl nl full 2 (l.map cc), .v (.int .i64 n), .v (.string nm), .sl nl' full' 4 (sets.map bc)] (.tup [.agg (fc (makeF l n nm sets)), .v (.int .i64 (makeR l n nm sets))]) := by
  refine enterW Tryd.func70 rfl rfl rfl rfl (fun σ => ?_)
  cases hf : findC nm l with
  | none =>
    rw [makeF, makeR, hf]
    repeat' (first|(first|(refine jl ?_;first|refine jb ?_|refine j1 ?_|refine j4 ?_|refine j13 (fun id hid=>?_)|refine j14 ?_|refine j17t ?_|refine j17 ?_|refine jp (p_find _ _ _ _) ?_)|(refine jc ?_;first|refine c1 ?_|refine c2 ?_|refine c6 ?_|refine c7 ?_)|refine n1 ?_|refine n2 ?_|refine n15 ?_)|(refine c9 (fun h=>?_) (fun h=>?_)<;>(try simp only [Bool.or_eq_true, Bool.and_eq_true, Bool.or_eq_false_iff, Bool.and_eq_false_iff, Bool.not_eq_true', Bool.not_eq_false', decide_eq_true_eq, decide_eq_false_iff_not, Bool.false_eq_true, Bool.true_eq_false, reduceCtorEq] at h)))
    · first | exact ge rfl | exact gvs (by (repeat' (first | exact finl_nil | apply finl_cons | exact Fin.refl _ _ _ | apply fin_pk2 | apply fin_pk3 | apply fin_agg | apply fin_tup | exact fin_nil | exact fin_sl rfl | exact fin_fz (by exact lkp) (by first | assumption | exact St.ns1 (by assumption) | exact St.ns2 (by assumption) | exact St.ns3 (by assumption) | exact St.ns4 (by assumption) | exact St.ns5 (by assumption) | exact St.ns6 (by assumption) | exact St.ns7 (by assumption) | exact St.ns8 (by assumption) | exact St.ns9 (by assumption) | exact St.ns10 (by assumption) | exact St.ns11 (by assumption) | exact St.ns12 (by assumption) | exact St.ns13 (by assumption) | exact St.ns14 (by assumption) | exact St.ns10 (by assumption) | exact St.ns11 (by assumption) | exact St.ns12 (by assumption) | exact St.ns13 (by assumption) | exact St.ns14 (by assumption)) (by first | exact rfl | assumption | (simp only [List.length_map, List.length_append, List.length_cons, List.length_nil]; done) | (simp only [List.length_map, List.length_append, List.length_cons, List.length_nil]; omega)) rfl (fun _ => rfl) | exact fin_eq rfl)))
    · rw [hf] at h; cases h
  | some c =>
    rw [makeF, makeR, hf]
    dsimp only
    have hc := hl c (findC_mem hf)
    have hgc : (findC nm l).getD noC = c := by rw [hf]; rfl
    have hn : (c.attrs.map str1).length = c.attrs.length := List.length_map ..
    have hlv : (emptyF c nm).vals.length ≤ 65536 := by unfold emptyF; rw [List.length_replicate]; omega
    have hz : ∀ v ∈ (emptyF c nm).vals, v.s.size ≤ 60 := fun v hv => by
      rw [(List.mem_replicate.1 hv).2]; decide
    repeat' (first|(first|(refine jl ?_;first|refine jb ?_|refine j1 ?_|refine j4 ?_|refine j13 (fun id hid=>?_)|refine j14 ?_|refine j17t ?_|refine j17 ?_|refine jp (p_find _ _ _ _) ?_)|(refine jc ?_;first|refine c1 ?_|refine c2 ?_|refine c6 ?_|refine c7 ?_)|refine n1 ?_|refine n2 ?_|refine n15 ?_)|(refine c9 (fun h=>?_) (fun h=>?_)<;>(try simp only [Bool.or_eq_true, Bool.and_eq_true, Bool.or_eq_false_iff, Bool.and_eq_false_iff, Bool.not_eq_true', Bool.not_eq_false', decide_eq_true_eq, decide_eq_false_iff_not, Bool.false_eq_true, Bool.true_eq_false, reduceCtorEq] at h)))
    · rw [hf] at h; cases h
    · rw [hgc]
      refine jmk ?_
      rw [rep_noV]
      repeat (first|(refine jl ?_;first|refine jb ?_|refine j1 ?_|refine j4 ?_|refine j17 ?_|refine jp (p_withA nl nl' full full' l (emptyF c nm) n sets hlv) ?_)|(refine jc ?_;first|refine c7 ?_)|refine n15 ?_)
      first | exact ge rfl | exact gvs (by (repeat' (first | exact finl_nil | apply finl_cons | exact Fin.refl _ _ _ | apply fin_pk2 | apply fin_pk3 | apply fin_agg | apply fin_tup | exact fin_nil | exact fin_sl rfl | exact fin_fz (by exact lkp) (by first | assumption | exact St.ns1 (by assumption) | exact St.ns2 (by assumption) | exact St.ns3 (by assumption) | exact St.ns4 (by assumption) | exact St.ns5 (by assumption) | exact St.ns6 (by assumption) | exact St.ns7 (by assumption) | exact St.ns8 (by assumption) | exact St.ns9 (by assumption) | exact St.ns10 (by assumption) | exact St.ns11 (by assumption) | exact St.ns12 (by assumption) | exact St.ns13 (by assumption) | exact St.ns14 (by assumption) | exact St.ns10 (by assumption) | exact St.ns11 (by assumption) | exact St.ns12 (by assumption) | exact St.ns13 (by assumption) | exact St.ns14 (by assumption)) (by first | exact rfl | assumption | (simp only [List.length_map, List.length_append, List.length_cons, List.length_nil]; done) | (simp only [List.length_map, List.length_append, List.length_cons, List.length_nil]; omega)) rfl (fun _ => rfl) | exact fin_eq rfl)))
end Go.Proofs.YtbpoeggmpjepfaaDoor.Ab

/- What a rule does: facts made. -/
set_option linter.unusedVariables false
set_option linter.unusedSimpArgs false
set_option maxRecDepth 20000
namespace Go.Proofs.YtbpoeggmpjepfaaDoor.Ab
open Go
attribute [local irreducible] thn inb endR CJ LJ OpJ DJ DA DB AllocK r3
def setsGo (bd : List Bd) : List Sgl → List Bd → Int × List Bd
  | [], acc => (0, acc)
  | s :: r, acc => if (evalGo bd s.expr []).2 = 0 then setsGo bd r (acc ++ [⟨s.attr, (evalGo bd s.expr []).1⟩]) else ((evalGo bd s.expr []).2, [])
theorem setsGo_cons {bd : List Bd} {s : Sgl} {r : List Sgl} {acc : List Bd} : setsGo bd (s :: r) acc = if (evalGo bd s.expr []).2 = 0 then setsGo bd r (acc ++ [⟨s.attr, (evalGo bd s.expr []).1⟩]) else ((evalGo bd s.expr []).2, []) := rfl
set_option maxHeartbeats 8000000 in
theorem q_sets {τ : St} {r h m o n : Nat} {l : List Cls} {bd : List Bd} {nx : Int} (hr : τ r = some (runC l bd h m o n nx)) (nl : Option Bool) (full : Bool) (ss : List Sgl) (hl : ss.length ≤ 60000) (hs : ∀ s ∈ ss, s.expr.length ≤ 60000) : ACalls Tryd.prog 69 [.ptr r 5 0 0, .sl nl full 2 (ss.map sgc)] τ (fun e σ' => e = .ret (.tup [.sl none false 4 ((setsGo bd ss []).2.map bc), .v (.int .i64 (setsGo bd ss []).1)]) ∧ σ' = τ) := by
  refine enterS Tryd.func69 rfl rfl rfl rfl ?_
  have hn : (ss.map sgc).length = ss.length := List.length_map ..
  repeat (first|(refine jl ?_;first|refine j1 ?_|refine j4 ?_)|(refine jc ?_;first|refine c1 ?_|refine c2 ?_|refine c5 ?_))
  refine cj_ghost (ghost_nil (t := 6) 4 73 rfl (fun w0 hw0 => ?_))
  refine cj_for (fun s : Nat × Nat × List Bd => s.1 ≤ ss.length ∧ τ s.2.1 = none ∧ setsGo bd (ss.drop s.1) s.2.2 = setsGo bd ss [] ∧ s.2.2.length ≤ s.1) (fun s => [(13, .v (.int .i64 s.1)), (6, .osl s.2.1 4 0 s.2.2.length)]) (fun s => τ.set s.2.1 (.row 4 73 (s.2.2.map bc))) (fun s => ss.length - s.1) (0, w0, []) ⟨Nat.zero_le _, hw0, rfl, Nat.le_refl _⟩ ⟨⟨_, rfl, fun _ _ h => h⟩, ⟨_, rfl, fun _ _ h => h⟩, trivial⟩ (St.le_refl _) (fun s hs2 => ?_)
  obtain ⟨i, w, acc⟩ := s
  dsimp only at hs2 ⊢
  obtain ⟨h1, h2, h3, h4⟩ := hs2
  have hno : (acc.map bc).length = acc.length := List.length_map ..
  rcases hd : ss.drop i with _ | ⟨x, rr⟩
  · have z1 := dropn hd
    rw [hd] at h3
    rw [← h3]
    repeat' (first|(first|(refine jl ?_;first|refine j1 ?_|refine j4 ?_)|(refine jc ?_;first|refine c1 ?_|refine c2 ?_|refine c7 ?_|refine c8 ?_)|refine n1 ?_|refine n3 ?_|refine n7 ?_|refine n8 ?_|refine n11 ?_)|(refine c9 (fun h=>?_) (fun h=>?_)<;>((try simp only [Bool.or_eq_true, Bool.and_eq_true, Bool.or_eq_false_iff, Bool.and_eq_false_iff, Bool.not_eq_true', Bool.not_eq_false', decide_eq_true_eq, decide_eq_false_iff_not, Bool.false_eq_true, Bool.true_eq_false, reduceCtorEq] at h) <;> (try simp (disch := omega) only [sb_bt, w64, Int.reduceAdd, Int.reduceToNat, Int.toNat_natCast, not_true_eq_false, false_or] at h) <;> (try (exfalso; omega)))))
    exact gvs (fin_two (fin_fz (St.set_same _ _ _) h2 hno.symm rfl (fun _ => rfl)) (Fin.refl _ _ _))
  · obtain ⟨u1, u2, u3⟩ := dropc hd
    have u4 := get_map sgc u3
    have hx := hs x (List.mem_of_getElem? u3)
    rw [hd, setsGo_cons] at h3
    obtain ⟨xa, xe⟩ := x
    dsimp only at hx h3
    have k1 := p_eval none none false false xe bd hx
    have hap : ∀ y : Bd, (acc.map bc).take acc.length ++ [bc y] = (acc ++ [y]).map bc := fun y => by rw [List.take_of_length_le (by omega), List.map_append]; rfl
    cases he : evalGo bd xe [] with
    | mk v e =>
      rw [he] at k1 h3
      dsimp only at k1 h3
      repeat' (first|(first|(refine jl ?_;first|refine jb ?_|refine jbl ?_|refine j1 ?_|refine j4 ?_|refine j13 (fun id hid=>?_)|refine j14 ?_|refine j17t ?_|refine ji1 ?_|refine jlit ?_)|(refine al ?_;first|refine da_nil ?_|refine a1 ?_|refine a14 ?_|refine ap (k1) ?_|refine da_skip ?_)|(refine bl ?_;first|refine b1 ?_|refine b17t ?_|refine db_nil ?_)|refine al_cons (fun id hid=>?_)|refine al_nil ?_|(refine jc ?_;first|refine c1 ?_|refine c2 ?_|refine c5 ?_|refine c6 ?_|refine c7 ?_|refine cqk ?_)|refine n1 ?_|refine n2 ?_|refine n5 ?_|refine n6 ?_|refine n11 ?_)|(refine c9 (fun h=>?_) (fun h=>?_)<;>((try simp only [Bool.or_eq_true, Bool.and_eq_true, Bool.or_eq_false_iff, Bool.and_eq_false_iff, Bool.not_eq_true', Bool.not_eq_false', decide_eq_true_eq, decide_eq_false_iff_not, Bool.false_eq_true, Bool.true_eq_false, reduceCtorEq] at h) <;> (try simp (disch := omega) only [sb_bt, w64, Int.reduceAdd, Int.reduceToNat, Int.toNat_natCast, not_true_eq_false, false_or] at h) <;> (try (exfalso; omega)))))
      · rw [if_neg h] at h3
        rw [← h3]
        exact gvs (fin_two (.wk (Wk.nil _ _ _ _)) (Fin.refl _ _ _))
      · rw [if_pos h, ← u2] at h3
        refine japo (n := acc.length) (m := acc.length + 1) (news := [bc ⟨xa, v⟩]) (fun w2 hw2 => ?_) (hap _) rfl (hn := by omega) (hb := by dsimp only [List.length]; omega)
        repeat (first|(refine jl ?_;first|refine j1 ?_|refine j6 ?_)|(refine jc ?_;first|refine c2 ?_)|refine n1 ?_|refine n10 ?_)
        refine nx_forS (i + 1, w2, acc ++ [(⟨xa, v⟩ : Bd)]) ⟨by dsimp only; omega, St.ns3 hw2, h3, by dsimp only; rw [List.length_append, List.length_singleton]; omega⟩ (by dsimp only; omega) ⟨⟨_, rfl, wk1 (by omega)⟩, ⟨_, rfl, Wk.of_eq (by dsimp only; rw [List.length_append, List.length_singleton])⟩, trivial⟩ (St.le_set2 (St.leX_same (St.leX_del (St.leX_any (St.leX_any (St.leX_any (St.leX_refl _ _) h2) (St.none_set (by assumption))) (St.none_set (St.none_set (by assumption)))) h2)) (St.set_same _ _ _))
structure Rs where
  bd : List Bd
  hv : List Fc
  out : List Eff
  nx : Int
abbrev rsS (σ : St) (r h o : Nat) (l : List Cls) (s : Rs) : St := rst σ r h o l s.bd s.hv s.out s.nx
def makeA (l : List Cls) (s : Rs) (a : Acn) : Int × Rs :=
  if (setsGo s.bd a.sets []).1 ≠ 0 then ((setsGo s.bd a.sets []).1, s)
  else if makeR l s.nx a.cls (setsGo s.bd a.sets []).2 ≠ 0 then (makeR l s.nx a.cls (setsGo s.bd a.sets []).2, s)
  else (0, ⟨s.bd, s.hv, s.out ++ [.made (makeF l s.nx a.cls (setsGo s.bd a.sets []).2)], s.nx + 1⟩)
/-- Acts few and short enough, and what a run knows. -/
structure okS (s : Rs) : Prop where
  bd : s.bd.length ≤ 1000
  hv : s.hv.length ≤ 1000
  out : s.out.length ≤ 1000
  nx : True
  bs : ∀ b ∈ s.bd, b.val.s.size ≤ 60
  fs : ∀ f ∈ s.hv, f.vals.length ≤ 65536
structure okA (a : Acn) : Prop where
  ss : a.sets.length ≤ 1000
  es : a.exprs.length ≤ 1000
  se : ∀ s ∈ a.sets, s.expr.length ≤ 1000
  ee : ∀ e ∈ a.exprs, e.length ≤ 1000
  si : ∀ s ∈ a.sets, ∀ x ∈ s.expr, x.val.s.size ≤ 60
  ei : ∀ e ∈ a.exprs, ∀ x ∈ e, x.val.s.size ≤ 60
theorem evalGo_small {bd : List Bd} (hb : ∀ b ∈ bd, b.val.s.size ≤ 60) : ∀ (l : List Itm) (pile : List Vl), (∀ x ∈ l, x.val.s.size ≤ 60) → (∀ v ∈ pile, v.s.size ≤ 60) → (evalGo bd l pile).1.s.size ≤ 60
  | [], pile, _, hp => by
    by_cases h : pile.length = 1
    · obtain ⟨v, rfl⟩ : ∃ v, pile = [v] := by
        match pile, h with
        | [v], _ => exact ⟨v, rfl⟩
      exact hp v (List.mem_cons_self ..)
    · rw [evalGo_end h]; decide
  | x :: r, pile, hx, hp => by
    have hr : ∀ y ∈ r, y.val.s.size ≤ 60 := fun y hy => hx y (List.mem_cons_of_mem _ hy)
    have hn : (noV, (4 : Int)).1.s.size ≤ 60 := by decide
    by_cases h0 : x.k = 0
    · rw [evalGo_const h0]
      split
      · exact evalGo_small hb r _ hr (fun v hv => by
          rcases List.mem_append.1 hv with hv | hv
          · exact hp v hv
          · rw [List.mem_singleton.1 hv]; exact hx x (List.mem_cons_self ..))
      · decide
    · by_cases h1 : x.k = 1
      · rw [evalGo_var h1]
        split
        · refine evalGo_small hb r _ hr (fun v hv => ?_)
          rcases List.mem_append.1 hv with hv | hv
          · exact hp v hv
          · rw [List.mem_singleton.1 hv]
            unfold lookV findB
            cases hf : bd.find? (isB x.var) with
            | none => decide
            | some b => exact hb b (List.mem_of_find?_eq_some hf)
        · decide
      · by_cases h2 : pile.length < 2
        · rw [evalGo_short h0 h1 h2]; decide
        · obtain ⟨pre, a, c, rfl⟩ := two_of h2
          rw [evalGo_op h0 h1]
          split
          · refine evalGo_small hb r _ hr (fun v hv => ?_)
            rcases List.mem_append.1 hv with hv | hv
            · exact hp v (List.mem_append_left _ hv)
            · rw [List.mem_singleton.1 hv]
              exact Nat.zero_le 60
          · exact Nat.zero_le 60
theorem setsGo_small {bd : List Bd} (hb : ∀ b ∈ bd, b.val.s.size ≤ 60) : ∀ (l : List Sgl) (acc : List Bd), (∀ s ∈ l, ∀ x ∈ s.expr, x.val.s.size ≤ 60) → (∀ b ∈ acc, b.val.s.size ≤ 60) → ∀ b ∈ (setsGo bd l acc).2, b.val.s.size ≤ 60
  | [], acc, _, ha => ha
  | s :: r, acc, hl, ha => by
    rw [setsGo_cons]
    split
    · refine setsGo_small hb r _ (fun x hx => hl x (List.mem_cons_of_mem _ hx)) (fun b hb' => ?_)
      rcases List.mem_append.1 hb' with h | h
      · exact ha b h
      · rw [List.mem_singleton.1 h]
        exact evalGo_small hb _ _ (hl s (List.mem_cons_self ..)) (fun _ h => absurd h (List.not_mem_nil))
    · intro b hb'; cases hb'
theorem tagB_of {n : Int} (h : tagB n = true) : -4611686018427387904 ≤ n ∧ n ≤ 4611686018427387904 := by
  unfold tagB at h
  simp only [Bool.and_eq_true, decide_eq_true_eq] at h
  omega
theorem withR_tag {l : List Cls} {f : Fc} {n : Int} {sets : List Bd} (h : (withR l f n sets).1 = 0) : tagB n = true := by
  unfold withR at h
  split at h
  · rename_i h1; exact absurd h h1
  · split at h
    · cases h
    · rename_i h2; simpa using h2
theorem makeR_tag {l : List Cls} {n : Int} {nm : ByteArray} {sets : List Bd} (h : makeR l n nm sets = 0) : tagB n = true := by
  unfold makeR at h
  split at h
  · cases h
  · exact withR_tag h
set_option maxHeartbeats 8000000 in
theorem q_make {σ : St} {r h o : Nat} (w : W3 σ r h o) (l : List Cls) (hl : ∀ c ∈ l, c.attrs.length ≤ 20) (s : Rs) (hs : okS s) (a : Acn) (ha : okA a) : ACalls Tryd.prog 51 [.ptr r 5 0 0, .agg (anc a)] (rsS σ r h o l s) (fun e σ' => ∃ o', W3 σ r h o' ∧ e = .ret (.v (.int .i64 (makeA l s a).1)) ∧ σ' = rsS σ r h o' l (makeA l s a).2) := by
  refine acalls_gives_ex ?_
  refine enter Tryd.func51 rfl rfl rfl rfl ?_
  obtain ⟨bd, hv, out, nx⟩ := s
  obtain ⟨ak, ac_, an, av, ass, aes⟩ := a
  obtain ⟨oa1, oa2, oa3, oa4, oa5, oa6⟩ := ha
  obtain ⟨os1, os2, os3, os4, os5, os6⟩ := hs
  dsimp only at *
  have hr := r3_r (R := runC l bd h hv.length o out.length nx) (H := facR hv) (O := effR out) w
  have ks := setsGo_small os5 ass [] oa5 (fun _ h => absurd h (List.not_mem_nil))
  have k1 := p_make none none false false l nx ac_ (setsGo bd ass []).2 hl ks
  iterate 5 (first|(refine jl ?_;first|refine j1 ?_|refine j4 ?_|refine j12 (fun id hid=>?_))|(refine jc ?_;first|refine c1 ?_|refine c2 ?_))
  refine cj_fp 3 rfl (St.set_same _ _ _) ?_
  rw [St.del_set (by assumption)]
  by_cases e1 : (setsGo bd ass []).1 = 0
  · by_cases e2 : makeR l nx ac_ (setsGo bd ass []).2 = 0
    · have e : makeA l ⟨bd, hv, out, nx⟩ ⟨ak, ac_, an, av, ass, aes⟩ = (0, ⟨bd, hv, out ++ [.made (makeF l nx ac_ (setsGo bd ass []).2)], nx + 1⟩) := by
        unfold makeA; rw [if_neg (by simpa using e1), if_neg (by simpa using e2)]
      rw [e]
      repeat' (first|(first|(refine jl ?_;first|refine jbl ?_|refine j1 ?_|refine j4 ?_|refine j14 ?_|refine lj_to rfl rfl rfl (q_sets hr none false ass (by omega) (fun s hs => Nat.le_trans (oa3 s hs) (by decide))) ?_)|(refine al ?_;first|refine da_nil ?_|refine abl ?_|refine a1 ?_|refine a14 ?_|refine ap (k1) ?_|refine da_skip ?_)|(refine bl ?_;first|refine b1 ?_|refine b17t ?_|refine db_nil ?_)|refine al_cons (fun id hid=>?_)|refine al_nil ?_|(refine jc ?_;first|refine c1 ?_|refine c2 ?_|refine c6 ?_|refine cqk ?_)|refine n1 ?_)|(refine c9 (fun h=>?_) (fun h=>?_)<;>((try simp only [Bool.or_eq_true, Bool.and_eq_true, Bool.or_eq_false_iff, Bool.and_eq_false_iff, Bool.not_eq_true', Bool.not_eq_false', decide_eq_true_eq, decide_eq_false_iff_not, Bool.false_eq_true, Bool.true_eq_false, reduceCtorEq] at h) <;> (try simp (disch := omega) only [sb_bt, w64, Int.reduceAdd, Int.reduceToNat, Int.toNat_natCast, not_true_eq_false, false_or] at h) <;> (try (exfalso; omega)))))
      all_goals first | (exfalso; exact h e1) | (exfalso; exact h e2) | (exfalso; simp at h; done) | skip
      refine lj_fp 7 rfl (St.set_same _ _ _) ?_
      rw [St.del_set (by assumption)]
      refine lj_calls rfl rfl rfl (q_made w l bd hv out nx (makeF l nx ac_ (setsGo bd ass []).2) (by omega) (tagB_of (makeR_tag e2))) (fun r σ2 hr2 => ?_) (fun x σ2 ⟨_, _, h, _⟩ => by cases h)
      obtain ⟨o', w', e3, e4⟩ := hr2
      cases e3
      subst e4
      repeat (first|(refine jl ?_;first|refine j1 ?_|refine j4 ?_)|(refine jc ?_;first|refine c1 ?_|refine c2 ?_|refine c7 ?_)|refine n11 ?_)
      exact ⟨o', w', ge rfl⟩
    · have e : makeA l ⟨bd, hv, out, nx⟩ ⟨ak, ac_, an, av, ass, aes⟩ = (makeR l nx ac_ (setsGo bd ass []).2, ⟨bd, hv, out, nx⟩) := by
        unfold makeA; rw [if_neg (by simpa using e1), if_pos (by simpa using e2)]
      rw [e]
      repeat' (first|(first|(refine jl ?_;first|refine jbl ?_|refine j1 ?_|refine j4 ?_|refine lj_to rfl rfl rfl (q_sets hr none false ass (by omega) (fun s hs => Nat.le_trans (oa3 s hs) (by decide))) ?_)|(refine al ?_;first|refine da_nil ?_|refine abl ?_|refine a1 ?_|refine a14 ?_|refine ap (k1) ?_|refine da_skip ?_)|(refine bl ?_;first|refine b1 ?_|refine b17t ?_|refine db_nil ?_)|refine al_cons (fun id hid=>?_)|refine al_nil ?_|(refine jc ?_;first|refine c1 ?_|refine c2 ?_|refine c6 ?_|refine c7 ?_|refine cqk ?_)|refine n1 ?_|refine n2 ?_|refine n11 ?_)|(refine c9 (fun h=>?_) (fun h=>?_)<;>((try simp only [Bool.or_eq_true, Bool.and_eq_true, Bool.or_eq_false_iff, Bool.and_eq_false_iff, Bool.not_eq_true', Bool.not_eq_false', decide_eq_true_eq, decide_eq_false_iff_not, Bool.false_eq_true, Bool.true_eq_false, reduceCtorEq] at h) <;> (try simp (disch := omega) only [sb_bt, w64, Int.reduceAdd, Int.reduceToNat, Int.toNat_natCast, not_true_eq_false, false_or] at h) <;> (try (exfalso; omega)))))
      all_goals first | (exfalso; exact h e1) | (exfalso; exact e2 h) | (exfalso; simp at h; done) | skip
      exact ⟨o, w, gvs (Fin.refl _ _ _)⟩
  · have e : makeA l ⟨bd, hv, out, nx⟩ ⟨ak, ac_, an, av, ass, aes⟩ = ((setsGo bd ass []).1, ⟨bd, hv, out, nx⟩) := by
      unfold makeA; rw [if_pos (by simpa using e1)]
    rw [e]
    repeat' (first|(first|(refine jl ?_;first|refine jbl ?_|refine j1 ?_|refine j4 ?_|refine lj_to rfl rfl rfl (q_sets hr none false ass (by omega) (fun s hs => Nat.le_trans (oa3 s hs) (by decide))) ?_)|(refine jc ?_;first|refine c1 ?_|refine c2 ?_|refine c7 ?_)|refine n2 ?_|refine n11 ?_)|(refine c9 (fun h=>?_) (fun h=>?_)<;>((try simp only [Bool.or_eq_true, Bool.and_eq_true, Bool.or_eq_false_iff, Bool.and_eq_false_iff, Bool.not_eq_true', Bool.not_eq_false', decide_eq_true_eq, decide_eq_false_iff_not, Bool.false_eq_true, Bool.true_eq_false, reduceCtorEq] at h) <;> (try simp (disch := omega) only [sb_bt, w64, Int.reduceAdd, Int.reduceToNat, Int.toNat_natCast, not_true_eq_false, false_or] at h) <;> (try (exfalso; omega)))))
    all_goals first | (exfalso; exact e1 h) | (exfalso; simp at h; done) | skip
    exact ⟨o, w, gvs (Fin.refl _ _ _)⟩
end Go.Proofs.YtbpoeggmpjepfaaDoor.Ab

/- What a rule does: facts changed and taken away. -/
set_option linter.unusedVariables false
set_option linter.unusedSimpArgs false
set_option maxRecDepth 20000
namespace Go.Proofs.YtbpoeggmpjepfaaDoor.Ab
open Go
attribute [local irreducible] thn inb endR CJ LJ OpJ DJ DA DB AllocK r3
def removeA (s : Rs) (a : Acn) : Int × Rs := if (factR s.hv s.out a.n).2 = 0 then (0, ⟨s.bd, s.hv, s.out ++ [.removed (factR s.hv s.out a.n).1.tag], s.nx⟩) else ((factR s.hv s.out a.n).2, s)
def modifyA (l : List Cls) (s : Rs) (a : Acn) : Int × Rs :=
  if (factR s.hv s.out a.n).2 ≠ 0 then ((factR s.hv s.out a.n).2, s)
  else if (setsGo s.bd a.sets []).1 ≠ 0 then ((setsGo s.bd a.sets []).1, s)
  else if (withR l (factR s.hv s.out a.n).1 s.nx (setsGo s.bd a.sets []).2).1 ≠ 0 then ((withR l (factR s.hv s.out a.n).1 s.nx (setsGo s.bd a.sets []).2).1, s)
  else (0, ⟨s.bd, s.hv.set (a.n - 1).toNat (withF l (factR s.hv s.out a.n).1 s.nx (setsGo s.bd a.sets []).2), s.out ++ [.removed (factR s.hv s.out a.n).1.tag] ++ [.made (withF l (factR s.hv s.out a.n).1 s.nx (setsGo s.bd a.sets []).2)], s.nx + 1⟩)
theorem factR_ok {hv : List Fc} {out : List Eff} {n : Int} (h : (factR hv out n).2 = 0) : 1 ≤ n ∧ n ≤ hv.length ∧ hv[(n - 1).toNat]? = some (factR hv out n).1 ∧ (factR hv out n).1.tag ≠ 0 ∧ goneB out (factR hv out n).1.tag = false := by
  unfold factR at *
  split at h
  · cases h
  · rename_i hn
    rw [if_neg hn]
    cases hg : hv[(n - 1).toNat]? with
    | none => rw [hg] at h; cases h
    | some f =>
      rw [hg] at h
      dsimp only at h ⊢
      split at h
      · cases h
      · rename_i hq
        rw [if_neg hq]
        simp only [not_or, Bool.not_eq_true] at hq
        exact ⟨by omega, by omega, rfl, hq.1, hq.2⟩
theorem factR_vals {hv : List Fc} {out : List Eff} {n : Int} (h : ∀ f ∈ hv, f.vals.length ≤ 65536) : (factR hv out n).1.vals.length ≤ 65536 := by
  by_cases e : (factR hv out n).2 = 0
  · exact h _ (List.mem_of_getElem? (factR_ok e).2.2.1)
  · have : (factR hv out n).1 = noFc := by
      unfold factR at *
      split
      · rfl
      · rename_i hn
        rw [if_neg hn] at e
        cases hg : hv[(n - 1).toNat]? with
        | none => rfl
        | some f =>
          rw [hg] at e
          dsimp only at e ⊢
          split
          · rfl
          · rename_i hq; rw [if_neg hq] at e; exact absurd rfl e
    rw [this]; exact Nat.zero_le _
set_option maxHeartbeats 8000000 in
theorem q_remove {σ : St} {r h o : Nat} (w : W3 σ r h o) (l : List Cls) (s : Rs) (hs : okS s) (a : Acn) : ACalls Tryd.prog 53 [.ptr r 5 0 0, .agg (anc a)] (rsS σ r h o l s) (fun e σ' => ∃ o', W3 σ r h o' ∧ e = .ret (.v (.int .i64 (removeA s a).1)) ∧ σ' = rsS σ r h o' l (removeA s a).2) := by
  refine acalls_gives_ex ?_
  refine enter Tryd.func53 rfl rfl rfl rfl ?_
  obtain ⟨bd, hv, out, nx⟩ := s
  obtain ⟨ak, ac_, an, av, ass, aes⟩ := a
  obtain ⟨os1, os2, os3, os4, os5, os6⟩ := hs
  dsimp only at *
  have hr := r3_r (R := runC l bd h hv.length o out.length nx) (H := facR hv) (O := effR out) w
  have kf := q_fact w l bd hv out nx an (by omega)
  generalize hF : factR hv out an = F at kf
  obtain ⟨F, e⟩ := F
  dsimp only at kf
  iterate 5 (first|(refine jl ?_;first|refine j1 ?_|refine j4 ?_|refine j12 (fun id hid=>?_))|(refine jc ?_;first|refine c1 ?_|refine c2 ?_))
  refine cj_fp 3 rfl (St.set_same _ _ _) ?_
  rw [St.del_set (by assumption)]
  by_cases he : e = 0
  · subst he
    have ee : removeA ⟨bd, hv, out, nx⟩ ⟨ak, ac_, an, av, ass, aes⟩ = (0, ⟨bd, hv, out ++ [.removed F.tag], nx⟩) := by
      unfold removeA; dsimp only; rw [hF, if_pos rfl]
    rw [ee]
    repeat' (first|(first|(refine jl ?_;first|refine jbl ?_|refine j1 ?_|refine j4 ?_|refine j13 (fun id hid=>?_)|refine j14 ?_|refine j17t ?_|refine lj_to rfl rfl rfl kf ?_)|(refine jc ?_;first|refine c1 ?_|refine c2 ?_))|(refine c9 (fun h=>?_) (fun h=>?_)<;>((try simp only [Bool.or_eq_true, Bool.and_eq_true, Bool.or_eq_false_iff, Bool.and_eq_false_iff, Bool.not_eq_true', Bool.not_eq_false', decide_eq_true_eq, decide_eq_false_iff_not, Bool.false_eq_true, Bool.true_eq_false, reduceCtorEq] at h) <;> (try simp (disch := omega) only [sb_bt, w64, Int.reduceAdd, Int.reduceToNat, Int.toNat_natCast, not_true_eq_false, false_or] at h) <;> (try (exfalso; omega)))))
    all_goals first | (exfalso; simp at h; done) | skip
    refine lj_fp 5 rfl (St.set_same _ _ _) ?_
    rw [St.del_set (by assumption)]
    refine lj_calls rfl rfl rfl (q_removed w l bd hv out nx F (by omega)) (fun r σ2 hr2 => ?_) (fun x σ2 ⟨_, _, h, _⟩ => by cases h)
    obtain ⟨o', w', e3, e4⟩ := hr2
    cases e3
    subst e4
    repeat (first|(refine jl ?_;first|refine j1 ?_|refine j4 ?_)|(refine jc ?_;first|refine c1 ?_|refine c2 ?_|refine c7 ?_)|refine n11 ?_)
    exact ⟨o', w', ge rfl⟩
  · have ee : removeA ⟨bd, hv, out, nx⟩ ⟨ak, ac_, an, av, ass, aes⟩ = (e, ⟨bd, hv, out, nx⟩) := by
      unfold removeA; dsimp only; rw [hF, if_neg he]
    rw [ee]
    repeat' (first|(first|(refine jl ?_;first|refine jbl ?_|refine j1 ?_|refine j4 ?_|refine j13 (fun id hid=>?_)|refine j17t ?_|refine lj_to rfl rfl rfl kf ?_)|(refine jc ?_;first|refine c1 ?_|refine c2 ?_|refine c6 ?_|refine c7 ?_)|refine n1 ?_|refine n11 ?_)|(refine c9 (fun h=>?_) (fun h=>?_)<;>((try simp only [Bool.or_eq_true, Bool.and_eq_true, Bool.or_eq_false_iff, Bool.and_eq_false_iff, Bool.not_eq_true', Bool.not_eq_false', decide_eq_true_eq, decide_eq_false_iff_not, Bool.false_eq_true, Bool.true_eq_false, reduceCtorEq] at h) <;> (try simp (disch := omega) only [sb_bt, w64, Int.reduceAdd, Int.reduceToNat, Int.toNat_natCast, not_true_eq_false, false_or] at h) <;> (try (exfalso; omega)))))
    all_goals first | (exfalso; exact he h) | (exfalso; simp at h; done) | skip
    exact ⟨o, w, gvs (Fin.refl _ _ _)⟩
set_option maxHeartbeats 8000000 in
theorem q_modify {σ : St} {r g o : Nat} (w : W3 σ r g o) (l : List Cls) (s : Rs) (hs : okS s) (a : Acn) (ha : okA a) : ACalls Tryd.prog 52 [.ptr r 5 0 0, .agg (anc a)] (rsS σ r g o l s) (fun e σ' => ∃ o', W3 σ r g o' ∧ e = .ret (.v (.int .i64 (modifyA l s a).1)) ∧ σ' = rsS σ r g o' l (modifyA l s a).2) := by
  refine acalls_gives_ex ?_
  refine enter Tryd.func52 rfl rfl rfl rfl ?_
  obtain ⟨bd, hv, out, nx⟩ := s
  obtain ⟨ak, ac_, an, av, ass, aes⟩ := a
  obtain ⟨oa1, oa2, oa3, oa4, oa5, oa6⟩ := ha
  obtain ⟨os1, os2, os3, os4, os5, os6⟩ := hs
  dsimp only at *
  have hr := r3_r (R := runC l bd g hv.length o out.length nx) (H := facR hv) (O := effR out) w
  have kf := q_fact w l bd hv out nx an (by omega)
  have hok := @factR_ok hv out an
  have hvl := @factR_vals hv out an os6
  generalize hF : factR hv out an = F at kf hok hvl
  obtain ⟨F, e⟩ := F
  dsimp only at kf hok hvl
  have kw := p_withA none none false false l F nx (setsGo bd ass []).2 hvl
  iterate 5 (first|(refine jl ?_;first|refine j1 ?_|refine j4 ?_|refine j12 (fun id hid=>?_))|(refine jc ?_;first|refine c1 ?_|refine c2 ?_))
  refine cj_fp 3 rfl (St.set_same _ _ _) ?_
  rw [St.del_set (by assumption)]
  have unf : modifyA l ⟨bd, hv, out, nx⟩ ⟨ak, ac_, an, av, ass, aes⟩ = if e ≠ 0 then (e, ⟨bd, hv, out, nx⟩) else if (setsGo bd ass []).1 ≠ 0 then ((setsGo bd ass []).1, ⟨bd, hv, out, nx⟩) else if (withR l F nx (setsGo bd ass []).2).1 ≠ 0 then ((withR l F nx (setsGo bd ass []).2).1, ⟨bd, hv, out, nx⟩) else (0, ⟨bd, hv.set (an - 1).toNat (withF l F nx (setsGo bd ass []).2), out ++ [.removed F.tag] ++ [.made (withF l F nx (setsGo bd ass []).2)], nx + 1⟩) := by
    unfold modifyA; dsimp only; rw [hF]
  by_cases he : e = 0
  · subst he
    rw [if_neg (by simp)] at unf
    obtain ⟨hk1, hk2, hk3, hk4, hk5⟩ := hok rfl
    iterate 13 (first|(first|(refine jl ?_;first|refine jbl ?_|refine j1 ?_|refine j4 ?_|refine j13 (fun id hid=>?_)|refine j17t ?_|refine lj_to rfl rfl rfl kf ?_)|(refine jc ?_;first|refine c1 ?_|refine c2 ?_)))
    refine cj_fp 5 rfl (St.set_same _ _ _) ?_
    rw [St.del_set (by assumption)]
    by_cases e1 : (setsGo bd ass []).1 = 0
    · rw [if_neg (by simpa using e1)] at unf
      by_cases e2 : (withR l F nx (setsGo bd ass []).2).1 = 0
      · rw [if_neg (by simpa using e2)] at unf
        rw [unf]
        generalize hG : withF l F nx (setsGo bd ass []).2 = G at kw
        repeat' (first|(first|(refine jl ?_;first|refine jbl ?_|refine j1 ?_|refine j4 ?_|refine lj_to rfl rfl rfl (q_sets hr none false ass (by omega) (fun s hs => Nat.le_trans (oa3 s hs) (by decide))) ?_)|(refine al ?_;first|refine da_nil ?_|refine abl ?_|refine a1 ?_|refine a14 ?_|refine ap (kw) ?_|refine da_skip ?_)|(refine bl ?_;first|refine b1 ?_|refine b17t ?_|refine db_nil ?_)|refine al_cons (fun id hid=>?_)|refine al_nil ?_|(refine jc ?_;first|refine c1 ?_|refine c2 ?_|refine c6 ?_|refine cqk ?_)|refine n1 ?_)|(refine c9 (fun h=>?_) (fun h=>?_)<;>((try simp only [Bool.or_eq_true, Bool.and_eq_true, Bool.or_eq_false_iff, Bool.and_eq_false_iff, Bool.not_eq_true', Bool.not_eq_false', decide_eq_true_eq, decide_eq_false_iff_not, Bool.false_eq_true, Bool.true_eq_false, reduceCtorEq] at h) <;> (try simp (disch := omega) only [sb_bt, w64, Int.reduceAdd, Int.reduceToNat, Int.toNat_natCast, not_true_eq_false, false_or] at h) <;> (try (exfalso; omega)))))
        all_goals first | (exfalso; simp at h; done) | (exfalso; exact h e1) | (exfalso; exact h e2) | skip
        refine lj_fp 8 rfl (St.set_same _ _ _) ?_
        rw [St.del_set (by assumption)]
        refine lj_calls rfl rfl rfl (q_removed w l bd hv out nx F (by omega)) (fun r σ2 hr2 => ?_) (fun x σ2 ⟨_, _, h, _⟩ => by cases h)
        obtain ⟨o1, w1, e3, e4⟩ := hr2
        cases e3
        subst e4
        have hlo : (out ++ [Eff.removed F.tag]).length ≤ 100000 := by rw [List.length_append, List.length_singleton]; omega
        repeat (first|(refine jl ?_;first|refine jbl ?_|refine j1 ?_|refine j4 ?_)|(refine jc ?_;first|refine c1 ?_|refine c2 ?_))
        refine lj_calls rfl rfl rfl (q_made w1 l bd hv (out ++ [Eff.removed F.tag]) nx G hlo (tagB_of (withR_tag e2))) (fun r σ2 hr2 => ?_) (fun x σ2 ⟨_, _, h, _⟩ => by cases h)
        obtain ⟨o2, w2, e3, e4⟩ := hr2
        cases e3
        subst e4
        have hr3 := r3_r (R := runC l bd g hv.length o2 (out ++ [Eff.removed F.tag] ++ [Eff.made G]).length (nx + 1)) (H := facR hv) (O := effR (out ++ [Eff.removed F.tag] ++ [Eff.made G])) w2
        repeat (first|(refine jl ?_;first|refine j4 ?_)|(refine yl ?_;first|refine y7 ?_|refine y8 ?_|refine y10 ?_|refine y11 ?_|refine ybd ?_|refine ybl ?_|refine y1 ?_|refine y2 ?_|refine y3 ?_|refine y3f ?_|refine y9 ?_|refine y14 ?_|refine y15 ?_|refine y16 ?_|refine y17 ?_|refine y18 ?_|refine y21 ?_|refine y25 ?_|refine yi1 ?_|refine yi2 ?_|refine yi3 ?_|refine yi4 ?_|refine yi4q ?_|refine yi6 ?_|refine ylit ?_)|(refine jc ?_;first|refine c1 ?_|refine cqy (id := 12) [9] [0, 1, 2, 3, 4, 5, 6, 7, 8, 9] ?_))
        have hw : IntKind.i64.wrap (an - 1) = an - 1 := w64 (by omega) (by omega)
        have hg : (hv.map fc)[0 + (IntKind.i64.wrap (an - 1)).toNat]? = some (fc F) := by rw [hw, Nat.zero_add, List.getElem?_map, hk3]; rfl
        have hst : (hv.map fc).set (0 + (IntKind.i64.wrap (an - 1)).toNat) (fc G) = (hv.set (an - 1).toNat G).map fc := by rw [hw, Nat.zero_add, List.map_set]
        refine yse hg hst ?_ (hσ := r3_h w2)
        refine ynil ?_
        rw [r3_set_h w2]
        repeat (first|(refine jl ?_;first|refine j1 ?_|refine j4 ?_)|(refine jc ?_;first|refine c1 ?_|refine c2 ?_|refine c7 ?_)|refine n1 ?_|refine n11 ?_)
        refine ⟨o2, w2, gives ?_ (Fin.refl _ _ _)⟩
        show St.le (r3 σ r g o2 (runC l bd g (hv.set (an - 1).toNat G).length o2 _ _) _ _) _
        rw [List.length_set]
        exact St.le_refl _
      · rw [if_pos (by simpa using e2)] at unf
        rw [unf]
        repeat' (first|(first|(refine jl ?_;first|refine jbl ?_|refine j1 ?_|refine j4 ?_|refine lj_to rfl rfl rfl (q_sets hr none false ass (by omega) (fun s hs => Nat.le_trans (oa3 s hs) (by decide))) ?_)|(refine al ?_;first|refine da_nil ?_|refine abl ?_|refine a1 ?_|refine a14 ?_|refine ap (kw) ?_|refine da_skip ?_)|(refine bl ?_;first|refine b1 ?_|refine b17t ?_|refine db_nil ?_)|refine al_cons (fun id hid=>?_)|refine al_nil ?_|(refine jc ?_;first|refine c1 ?_|refine c2 ?_|refine c6 ?_|refine c7 ?_|refine cqk ?_)|refine n1 ?_|refine n2 ?_|refine n11 ?_)|(refine c9 (fun h=>?_) (fun h=>?_)<;>((try simp only [Bool.or_eq_true, Bool.and_eq_true, Bool.or_eq_false_iff, Bool.and_eq_false_iff, Bool.not_eq_true', Bool.not_eq_false', decide_eq_true_eq, decide_eq_false_iff_not, Bool.false_eq_true, Bool.true_eq_false, reduceCtorEq] at h) <;> (try simp (disch := omega) only [sb_bt, w64, Int.reduceAdd, Int.reduceToNat, Int.toNat_natCast, not_true_eq_false, false_or] at h) <;> (try (exfalso; omega)))))
        all_goals first | (exfalso; simp at h; done) | (exfalso; exact h e1) | (exfalso; exact e2 h) | skip
        exact ⟨o, w, gvs (Fin.refl _ _ _)⟩
    · rw [if_pos (by simpa using e1)] at unf
      rw [unf]
      repeat' (first|(first|(refine jl ?_;first|refine jbl ?_|refine j1 ?_|refine j4 ?_|refine lj_to rfl rfl rfl (q_sets hr none false ass (by omega) (fun s hs => Nat.le_trans (oa3 s hs) (by decide))) ?_)|(refine jc ?_;first|refine c1 ?_|refine c2 ?_|refine c6 ?_|refine c7 ?_)|refine n1 ?_|refine n2 ?_|refine n11 ?_)|(refine c9 (fun h=>?_) (fun h=>?_)<;>((try simp only [Bool.or_eq_true, Bool.and_eq_true, Bool.or_eq_false_iff, Bool.and_eq_false_iff, Bool.not_eq_true', Bool.not_eq_false', decide_eq_true_eq, decide_eq_false_iff_not, Bool.false_eq_true, Bool.true_eq_false, reduceCtorEq] at h) <;> (try simp (disch := omega) only [sb_bt, w64, Int.reduceAdd, Int.reduceToNat, Int.toNat_natCast, not_true_eq_false, false_or] at h) <;> (try (exfalso; omega)))))
      all_goals first | (exfalso; simp at h; done) | (exfalso; exact e1 h) | skip
      exact ⟨o, w, gvs (Fin.refl _ _ _)⟩
  · rw [if_pos (by simpa using he)] at unf
    rw [unf]
    repeat' (first|(first|(refine jl ?_;first|refine jbl ?_|refine j1 ?_|refine j4 ?_|refine j13 (fun id hid=>?_)|refine j17t ?_|refine lj_to rfl rfl rfl kf ?_)|(refine jc ?_;first|refine c1 ?_|refine c2 ?_|refine c7 ?_)|refine n2 ?_|refine n11 ?_)|(refine c9 (fun h=>?_) (fun h=>?_)<;>((try simp only [Bool.or_eq_true, Bool.and_eq_true, Bool.or_eq_false_iff, Bool.and_eq_false_iff, Bool.not_eq_true', Bool.not_eq_false', decide_eq_true_eq, decide_eq_false_iff_not, Bool.false_eq_true, Bool.true_eq_false, reduceCtorEq] at h) <;> (try simp (disch := omega) only [sb_bt, w64, Int.reduceAdd, Int.reduceToNat, Int.toNat_natCast, not_true_eq_false, false_or] at h) <;> (try (exfalso; omega)))))
    all_goals first | (exfalso; exact he h) | (exfalso; simp at h; done) | skip
    exact ⟨o, w, gvs (Fin.refl _ _ _)⟩
end Go.Proofs.YtbpoeggmpjepfaaDoor.Ab

/-
  DERIVED: THE SHELF's CONTRACTS AT THIS DUMP, IN PLAIN WORDS (tools/lay-plain.mjs out of 'YtbpoeggmpjepfaaDoorShelfJ.lean', which tools/lay-shelf.mjs wrote): THE SAME DECLARATIONS UNDER THE SAME YtbpoeggmpjepfaaDoorS: 'import', 'namespace', 'open', 'def', 'theorem' AND NOTHING ELSE: no command of the shelf's: FOR A HAND-IN. Each laying: the table of numbers ('.._ren') and one theorem, a field a fact of the dump's own or the kernel's comparison; each contract: ONE APPLICATION.
-/
namespace Go.Proofs
open Go.Shelf
def Tryd.lays156_ren : Go.Shelf.Ren := ⟨fun | 156 => 76 | 165 => 89 | 166 => 90 | 169 => 91 | 240 => 93 | 241 => 94 | 276 => 95 | 277 => 96 | n => n, fun | 31 => 98 | 9 => 9 | 3 => 3 | 4 => 4 | 0 => 0 | 20 => 20 | 72 => 161 | 76 => 165 | 70 => 158 | 37 => 159 | 75 => 164 | 127 => 170 | 164 => 171 | 5 => 5 | 80 => 167 | n => n, fun | n => n⟩
theorem Tryd.lays156 : Go.Proofs.Lays.n156 Tryd.prog Tryd.lays156_ren := {
  mixed := by kernel_rfl
  f156 := Tryd.func76.trans (congrArg some (by kernel_rfl))
  f165 := Tryd.func89.trans (congrArg some (by kernel_rfl))
  f166 := Tryd.func90.trans (congrArg some (by kernel_rfl))
  f169 := Tryd.func91.trans (congrArg some (by kernel_rfl))
  f240 := Tryd.func93.trans (congrArg some (by kernel_rfl))
  f241 := Tryd.func94.trans (congrArg some (by kernel_rfl))
  f276 := Tryd.func95.trans (congrArg some (by kernel_rfl))
  f277 := Tryd.func96.trans (congrArg some (by kernel_rfl))
  t0 := Tryd.underlying0
  a0 := Tryd.isAgg0
  z0 := Tryd.sizeOf0
  v0 := Tryd.zeroValue0
  t3 := Tryd.underlying3
  a3 := Tryd.isAgg3
  z3 := Tryd.sizeOf3
  v3 := Tryd.zeroValue3
  t4 := Tryd.underlying4
  a4 := Tryd.isAgg4
  z4 := Tryd.sizeOf4
  v4 := Tryd.zeroValue4
  t9 := Tryd.underlying9
  a9 := Tryd.isAgg9
  z9 := Tryd.sizeOf9
  v9 := Tryd.zeroValue9
  t20 := Tryd.underlying20
  a20 := Tryd.isAgg20
  z20 := Tryd.sizeOf20
  v20 := Tryd.zeroValue20
  t31 := Tryd.underlying98
  a31 := Tryd.isAgg98
  z31 := Tryd.sizeOf98
  v31 := Tryd.zeroValue98
  t37 := Tryd.underlying159
  a37 := Tryd.isAgg159
  z37 := Tryd.sizeOf159
  v37 := Tryd.zeroValue159
  t70 := Tryd.underlying158
  a70 := Tryd.isAgg158
  z70 := Tryd.sizeOf158
  v70 := Tryd.zeroValue158
  t72 := Tryd.underlying161
  a72 := Tryd.isAgg161
  z72 := Tryd.sizeOf161
  v72 := Tryd.zeroValue161
  t75 := Tryd.underlying164
  a75 := Tryd.isAgg164
  z75 := Tryd.sizeOf164
  v75 := Tryd.zeroValue164
  t76 := Tryd.underlying165
  a76 := Tryd.isAgg165
  z76 := Tryd.sizeOf165
  v76 := Tryd.zeroValue165
  t127 := Tryd.underlying170
  a127 := Tryd.isAgg170
  z127 := Tryd.sizeOf170
  v127 := Tryd.zeroValue170
  t164 := Tryd.underlying171
  a164 := Tryd.isAgg171
  z164 := Tryd.sizeOf171
  v164 := Tryd.zeroValue171 }
theorem Tryd.Builder_Extra_156 : Builder.Extra Tryd.prog Tryd.lays156_ren := {
  sizeBuilder := by kernel_rfl
  liesBuilder := by kernel_rfl
  t5 := Tryd.underlying5
  a5 := Tryd.isAgg5
  z5 := Tryd.sizeOf5
  v5 := Tryd.zeroValue5
  infoByte := by kernel_rfl
  cellsByte := by kernel_rfl
  sizeByte := by kernel_rfl
  neB5 := by decide }
end Go.Proofs

/- strings.Builder without a word; strings.Join, by the shelf's contract. -/
set_option linter.unusedVariables false
set_option linter.unusedSimpArgs false
set_option maxRecDepth 20000
namespace Go.Proofs.YtbpoeggmpjepfaaDoor.Ab
open Go Go.RowKit
section
variable {P : Program} {o : Oper} {E : Operand → Option AV} {σ : St} {R : Option AV → St → Prop}
theorem opj_sdnil {x : Operand} {f : Bool} {s : Nat} {ts : Array TypeId} (ho : o.op = .call { callee := .builtin .unsafeSliceData, args := #[x], argTypes := ts }) (hx : E x = some (.sl (some true) f s [])) (hR : R (some (.v (.pointer none))) σ) : OpJ P o E σ R :=
  opj_quiet _ (fun k e hk1 hk hr => by
    have hxr := hr x (by rw [ho]; simp [Op.operands, Call.operands]) _ hx
    have hu : e x = .slice none 0 0 := by
      generalize e x = u at hxr
      cases hxr with
      | slnil => rfl
      | sle hn => exact absurd rfl hn
      | sl hn => exact absurd rfl hn
    refine ⟨.pointer none, ?_, .v rfl⟩
    have hrun := Lib.run_unsafeSliceData_nil (P := P) (w := k.w) ts o.type 0 0
    unfold execOp
    simp only [ho, resolve, invoke, builtin, Sem.run_bind, Sem.run_pure, Result.andThen_ok, List.map_toArray, List.map_cons, List.map_nil, hu, hrun]) hR
theorem opj_us0 {pt it : TypeId} {x y : Operand} {ts : Array TypeId} (ho : o.op = .call { callee := .builtin .unsafeString, args := #[x, y], argTypes := ts }) (hts : ts = #[pt, it]) (hx : E x = some (.v (.pointer none))) (hy : E y = some (.v (.int .i64 0))) (hR : R (some (.v (.string ⟨#[]⟩))) σ) : OpJ P o E σ R :=
  opj_quiet _ (fun k e hk1 hk hr => by
    subst hts
    have hxr := rep_v (hr x (by rw [ho]; simp [Op.operands, Call.operands]) _ hx)
    have hyr := rep_v (hr y (by rw [ho]; simp [Op.operands, Call.operands]) _ hy)
    refine ⟨.string .empty, ?_, .v rfl⟩
    have hrun := Lib.run_unsafeString_none (P := P) (w := k.w) pt it o.type none
    unfold execOp
    simp only [ho, resolve, invoke, builtin, Sem.run_bind, Sem.run_pure, Result.andThen_ok, List.map_toArray, List.map_cons, List.map_nil, hxr, hyr, hrun]) hR
end
section
variable {P : Program} {l : List Oper} {c : List (List Nat)} {m nt : Nat} {σ σ0 σ1 : St} {K : Fr → Prop} {i : Nat} {fr : Fr} {rest : List Oper} {t : Tmp} {ty : TypeId} {pos : String} {aft : Array Edge}
theorem dsn {x : Operand} {f : Bool} {s : Nat} {ts : Array TypeId} (h : DJ P l c m σ0 σ1 K (i + 1) rest ((t, .v (.pointer none)) :: fr)) (him : Nat.beq i m = false := by exact rfl) (hx : ev fr x = some (.sl (some true) f s []) := by exact rfl) : DJ P l c m σ0 σ1 K i (⟨some t, .call { callee := .builtin .unsafeSliceData, args := #[x], argTypes := ts }, ty, pos, aft, none⟩ :: rest) fr := dj_v him (fun R hR => opj_sdnil rfl hx hR) (fun R hR => opj_sdnil rfl hx hR) h
theorem dun {pt it : TypeId} {x y : Operand} {ts : Array TypeId} (h : DJ P l c m σ0 σ1 K (i + 1) rest ((t, .v (.string ⟨#[]⟩)) :: fr)) (him : Nat.beq i m = false := by exact rfl) (hts : ts = #[pt, it] := by exact rfl) (hx : ev fr x = some (.v (.pointer none)) := by exact rfl) (hy : ev fr y = some (.v (.int .i64 0)) := by exact rfl) : DJ P l c m σ0 σ1 K i (⟨some t, .call { callee := .builtin .unsafeString, args := #[x, y], argTypes := ts }, ty, pos, aft, none⟩ :: rest) fr := dj_v him (fun R hR => opj_us0 rfl hts hx hy hR) (fun R hR => opj_us0 rfl hts hx hy hR) h
end
attribute [local irreducible] thn inb endR CJ LJ OpJ DJ DA DB AllocK
/-- A builder without a word has the empty text. -/
theorem q_bstr0 {σ : St} {b : Nat} (h : σ b = some (.row 2 161 [[.v (.pointer none), .sl (some true) true 1 []]])) : ACalls Tryd.prog 91 [.ptr b 2 0 0] σ (fun e σ' => e = .ret (.v (.string ⟨#[]⟩)) ∧ σ' = σ) := by
  refine enterS Tryd.func91 rfl rfl rfl rfl ?_
  repeat (first|(refine jl ?_;first|refine j1 ?_|refine j4 ?_)|(refine dl ?_;first|refine d1 ?_|refine d4 ?_|refine d14 ?_|refine dsn ?_|refine dun ?_)|(refine jc ?_;first|refine c1 ?_|refine c2 ?_|refine c7 ?_|refine cq ?_)|refine n1 ?_|refine n11 ?_)
  exact ge rfl
theorem pure_belowA {P : Program} {f : FuncId} {args : List AV} {x : Value} (hx : x.oneCell' = true) (h : ∀ (k : Cx) (vs : List Value), Ok k → Reps k args vs → Calls P f vs.toArray k.w (fun e w' => e = .returned x ∧ Below k.w.heap.size k.w w')) : Pure P f args (.v x) := pure_below hx h
theorem p_join (nl : Option Bool) (full : Bool) (xs : List ByteArray) (sep : ByteArray) (h0 : xs ≠ []) (hN : xs.length ≤ 140737488355328) (hlen : (Lib.join (xs.map (·.data.toList)) sep.data.toList).length ≤ 140737488355328) : Pure Tryd.prog 76 [.sl nl full 1 (xs.map str1), .v (.string sep)] (.v (.string ⟨(Lib.join (xs.map (·.data.toList)) sep.data.toList).toArray⟩)) :=
  pure_below rfl fun k vs hk hv => by
    obtain ⟨hl, hr⟩ := hv
    match vs, hl with
    | [u, v], _ =>
      have h1 := hr 0 _ u rfl rfl
      have h2 := hr 1 _ v rfl rfl
      have h2' := rep_v h2
      subst h2'
      generalize hels : xs.map str1 = els at h1
      have hne : els ≠ [] := by rw [← hels]; simpa using h0
      have hln : els.length = xs.length := by rw [← hels, List.length_map]
      cases h1 with
      | slnil => exact absurd rfl hne
      | sle => exact absurd rfl hne
      | @sl _ _ _ _ b o cap f hn hc hm hf hsz hfr hw h =>
        rw [hln] at hc hm ⊢
        refine Any.strings_Join Tryd.lays156 Tryd.Builder_Extra_156 b o cap xs sep k.w (fun j x hj => ?_) (hfr hne).1 hN hc hlen
        have he : els[j]? = some (str1 x) := by rw [← hels, List.getElem?_map, hj]; rfl
        obtain ⟨h3, h4⟩ := hw j 0 (str1 x) _ he rfl
        have h5 := rep_v (h j 0 (str1 x) _ he rfl)
        rw [h5] at h3
        simpa using h3
theorem join3 (a b c sep : ByteArray) : (⟨(Lib.join ([a, b, c].map (·.data.toList)) sep.data.toList).toArray⟩ : ByteArray) = a ++ sep ++ b ++ sep ++ c := by
  apply ByteArray.ext
  apply Array.toList_inj.1
  simp [Lib.join, List.intercalate, ByteArray.data_append]
theorem p_join3 (nl : Option Bool) (full : Bool) (a b c sep : ByteArray) (hz : a.size + b.size + c.size + 2 * sep.size ≤ 140737488355328) : Pure Tryd.prog 76 [.sl nl full 1 [str1 a, str1 b, str1 c], .v (.string sep)] (.v (.string (a ++ sep ++ b ++ sep ++ c))) := by
  have h := p_join nl full [a, b, c] sep (by simp) (by simp) (by
    have e := congrArg ByteArray.size (join3 a b c sep)
    simp only [ByteArray.size_append] at e
    change (Lib.join ([a, b, c].map (·.data.toList)) sep.data.toList).length = _ at e
    omega)
  rw [join3] at h
  exact h
end Go.Proofs.YtbpoeggmpjepfaaDoor.Ab

/- What a rule does: variables bound, lines written; any act. -/
set_option linter.unusedVariables false
set_option linter.unusedSimpArgs false
set_option maxRecDepth 20000
namespace Go.Proofs.YtbpoeggmpjepfaaDoor.Ab
open Go
attribute [local irreducible] thn inb endR CJ LJ OpJ DJ DA DB AllocK r3
theorem r3_free {σ : St} {r h o x : Nat} {R H O R' H' O' : AObj} (w : W3 σ r h o) (hx : r3 σ r h o R H O x = none) : r3 σ r h o R' H' O' x = none := by
  obtain ⟨h1, h2, h3, h4⟩ := r3_none w hx
  unfold r3
  rw [St.set_ne _ _ _ h4, St.set_ne _ _ _ h3, St.set_ne _ _ _ h2]
  exact h1
theorem r3_le_r {σ : St} {r h o x : Nat} {R H O R' A : AObj} (w : W3 σ r h o) (hx : r3 σ r h o R H O x = none) : (r3 σ r h o R' H O).le (((r3 σ r h o R H O).set x A).set r R') := by
  obtain ⟨h1, h2, h3, h4⟩ := r3_none w hx
  rw [St.swap h2, r3_set_r w]
  exact St.le_set _ (r3_free w hx)
def sp1 : ByteArray := ⟨#[32]⟩
def joinW (ws : List ByteArray) : ByteArray := ⟨(Lib.join (ws.map (·.data.toList)) sp1.data.toList).toArray⟩
theorem joinTail_len : ∀ (ws : List ByteArray), (∀ x ∈ ws, x.size ≤ 60) → (Lib.joinTail sp1.data.toList (ws.map (·.data.toList))).length ≤ 61 * ws.length
  | [], _ => Nat.le_refl _
  | x :: r, h => by
    have h1 := joinTail_len r (fun y hy => h y (List.mem_cons_of_mem _ hy))
    have h2 := h x (List.mem_cons_self ..)
    unfold Lib.joinTail at *
    rw [List.map_cons, List.map_cons, List.flatten_cons, List.length_append, List.length_append, List.length_cons]
    have e : x.data.toList.length = x.size := rfl
    have e2 : sp1.data.toList.length = 1 := rfl
    omega
theorem join_len : ∀ (ws : List ByteArray), (∀ x ∈ ws, x.size ≤ 60) → (Lib.join (ws.map (·.data.toList)) sp1.data.toList).length ≤ 61 * ws.length
  | [], _ => Nat.le_refl _
  | x :: r, h => by
    have h1 := joinTail_len r (fun y hy => h y (List.mem_cons_of_mem _ hy))
    have h2 := h x (List.mem_cons_self ..)
    rw [List.map_cons, Lib.join_cons, List.length_append, List.length_cons]
    have e : x.data.toList.length = x.size := rfl
    omega
theorem p_joinW (ws : List ByteArray) (hs : ∀ x ∈ ws, x.size ≤ 60) (hl : ws.length ≤ 100000) : Pure Tryd.prog 76 [.sl none false 1 (ws.map str1), .v (.string sp1)] (.v (.string (joinW ws))) := by
  by_cases h0 : ws = []
  · subst h0
    refine enterW Tryd.func76 rfl rfl rfl rfl (fun σ => ?_)
    repeat' (first|(first|(refine jl ?_;first|refine j1 ?_|refine j4 ?_)|(refine jc ?_;first|refine c1 ?_|refine c2 ?_|refine c5 ?_|refine c6 ?_|refine c7 ?_)|refine n1 ?_|refine n2 ?_|refine n6 ?_|refine n10 ?_|refine n11 ?_)|(refine c9 (fun h=>?_) (fun h=>?_)<;>((try simp only [Bool.or_eq_true, Bool.and_eq_true, Bool.or_eq_false_iff, Bool.and_eq_false_iff, Bool.not_eq_true', Bool.not_eq_false', decide_eq_true_eq, decide_eq_false_iff_not, Bool.false_eq_true, Bool.true_eq_false, reduceCtorEq] at h) <;> (try simp (disch := omega) only [sb_bt, w64, Int.reduceAdd, Int.reduceToNat, Int.toNat_natCast, not_true_eq_false, false_or] at h) <;> (try (exfalso; omega)))))
    all_goals first | exact ge rfl | (exfalso; simp_all; done)
  · have := join_len ws hs
    exact p_join none false ws sp1 h0 (by omega) (by omega)
def bindA (s : Rs) (a : Acn) : Int × Rs := match a.exprs with
  | [] => (4, s)
  | x :: _ => if (evalGo s.bd x []).2 = 0 then (0, ⟨bindF a.var (evalGo s.bd x []).1 s.bd, s.hv, s.out, s.nx⟩) else ((evalGo s.bd x []).2, s)
def wordsGo (bd : List Bd) : List (List Itm) → List ByteArray → Int × List ByteArray
  | [], acc => (0, acc)
  | x :: r, acc => if (evalGo bd x []).2 = 0 then wordsGo bd r (acc ++ [textV (evalGo bd x []).1.k (evalGo bd x []).1.n (evalGo bd x []).1.s]) else ((evalGo bd x []).2, [])
theorem wordsGo_cons {bd : List Bd} {x : List Itm} {r : List (List Itm)} {acc : List ByteArray} : wordsGo bd (x :: r) acc = if (evalGo bd x []).2 = 0 then wordsGo bd r (acc ++ [textV (evalGo bd x []).1.k (evalGo bd x []).1.n (evalGo bd x []).1.s]) else ((evalGo bd x []).2, []) := rfl
def writeA (s : Rs) (a : Acn) : Int × Rs := if (wordsGo s.bd a.exprs []).1 = 0 then (0, ⟨s.bd, s.hv, s.out ++ [.wrote (joinW (wordsGo s.bd a.exprs []).2)], s.nx⟩) else ((wordsGo s.bd a.exprs []).1, s)
set_option maxHeartbeats 8000000 in
theorem q_bind {σ : St} {r g o : Nat} (w : W3 σ r g o) (l : List Cls) (s : Rs) (hs : okS s) (a : Acn) (ha : okA a) : ACalls Tryd.prog 54 [.ptr r 5 0 0, .agg (anc a)] (rsS σ r g o l s) (fun e σ' => e = .ret (.v (.int .i64 (bindA s a).1)) ∧ σ' = rsS σ r g o l (bindA s a).2) := by
  refine enterS Tryd.func54 rfl rfl rfl rfl ?_
  obtain ⟨bd, hv, out, nx⟩ := s
  obtain ⟨ak, ac_, an, av, ass, aes⟩ := a
  obtain ⟨oa1, oa2, oa3, oa4, oa5, oa6⟩ := ha
  obtain ⟨os1, os2, os3, os4, os5, os6⟩ := hs
  dsimp only at *
  have hr := r3_r (R := runC l bd g hv.length o out.length nx) (H := facR hv) (O := effR out) w
  iterate 5 (first|(refine jl ?_;first|refine j1 ?_|refine j4 ?_|refine j12 (fun id hid=>?_))|(refine jc ?_;first|refine c1 ?_|refine c2 ?_))
  refine cj_fp 3 rfl (St.set_same _ _ _) ?_
  rw [St.del_set (by assumption)]
  cases aes with
  | nil =>
    repeat' (first|(first|(refine jl ?_;first|refine jbl ?_|refine j1 ?_|refine j4 ?_)|(refine al ?_;first|refine abl ?_|refine a1 ?_)|(refine jc ?_;first|refine c1 ?_|refine c2 ?_|refine c6 ?_|refine c7 ?_|refine cqk ?_)|refine n1 ?_|refine n2 ?_|refine n11 ?_)|(refine c9 (fun h=>?_) (fun h=>?_)<;>((try simp only [Bool.or_eq_true, Bool.and_eq_true, Bool.or_eq_false_iff, Bool.and_eq_false_iff, Bool.not_eq_true', Bool.not_eq_false', decide_eq_true_eq, decide_eq_false_iff_not, Bool.false_eq_true, Bool.true_eq_false, reduceCtorEq] at h) <;> (try simp (disch := omega) only [sb_bt, w64, Int.reduceAdd, Int.reduceToNat, Int.toNat_natCast, not_true_eq_false, false_or] at h) <;> (try (exfalso; omega)))))
    all_goals first | (exfalso; simp at h; done) | skip
    exact ge rfl
  | cons x er =>
    have hx := oa4 x (List.mem_cons_self ..)
    have k1 := p_eval none none false false x bd (by omega)
    have unf : bindA ⟨bd, hv, out, nx⟩ ⟨ak, ac_, an, av, ass, x :: er⟩ = if (evalGo bd x []).2 = 0 then (0, ⟨bindF av (evalGo bd x []).1 bd, hv, out, nx⟩) else ((evalGo bd x []).2, ⟨bd, hv, out, nx⟩) := rfl
    have hg0 : ((x :: er).map itl)[(0 : Int).toNat]? = some (itl x) := rfl
    have hln : ((x :: er).map itl).length = er.length + 1 := by rw [List.length_map]; rfl
    have k2 := p_bind none false bd av (evalGo bd x []).1 (by omega)
    by_cases he : (evalGo bd x []).2 = 0
    · rw [if_pos he] at unf
      rw [unf]
      repeat' (first|(first|(refine jl ?_;first|refine jbl ?_|refine j1 ?_|refine j4 ?_)|(refine al ?_;first|refine da_nil ?_|refine abl ?_|refine a1 ?_|refine a14 ?_|refine ai1 ?_|refine ap (k1) ?_|refine da_skip ?_)|(refine yl ?_;first|refine y7 ?_|refine y8 ?_|refine y10 ?_|refine y11 ?_|refine ybd ?_|refine ybl ?_|refine y1 ?_|refine y2 ?_|refine y3 ?_|refine y3f ?_|refine y9 ?_|refine y14 ?_|refine y15 ?_|refine y16 ?_|refine y17 ?_|refine y18 ?_|refine y21 ?_|refine y25 ?_|refine yi1 ?_|refine yi2 ?_|refine yi3 ?_|refine yi4 ?_|refine yi4q ?_|refine yi6 ?_|refine ylit ?_|refine yp (k1) ?_|refine ypy (k1) ?_|refine ypq (hp:=fun hc=>k1) ?_|refine yp (k2) ?_|refine ypy (k2) ?_|refine ypq (hp:=fun hc=>k2) ?_)|(refine bl ?_;first|refine b1 ?_|refine b17t ?_|refine db_nil ?_)|refine al_cons (fun id hid=>?_)|refine al_nil ?_|(refine jc ?_;first|refine c1 ?_|refine c2 ?_|refine c6 ?_|refine cqy (id := 5) [11] [0, 1, 2, 3, 4, 5, 6, 7, 8, 9, 10, 11] ?_|refine cqk ?_)|refine n1 ?_)|(refine c9 (fun h=>?_) (fun h=>?_)<;>((try simp only [Bool.or_eq_true, Bool.and_eq_true, Bool.or_eq_false_iff, Bool.and_eq_false_iff, Bool.not_eq_true', Bool.not_eq_false', decide_eq_true_eq, decide_eq_false_iff_not, Bool.false_eq_true, Bool.true_eq_false, reduceCtorEq] at h) <;> (try simp (disch := omega) only [sb_bt, w64, Int.reduceAdd, Int.reduceToNat, Int.toNat_natCast, not_true_eq_false, false_or] at h) <;> (try (exfalso; omega)))))
      all_goals first | (exfalso; simp at h; done) | (exfalso; exact h he) | (exfalso; omega) | skip
      trace_state
      refine ynil ?_
      repeat (first|(refine jl ?_;first|refine j1 ?_|refine j4 ?_)|(refine jc ?_;first|refine c1 ?_|refine c2 ?_|refine c7 ?_)|refine n1 ?_|refine n11 ?_)
      exact gives (r3_le_r w (by assumption)) (fin_one (.wk (Wk.of_eq (by rw [he]))))
    · rw [if_neg he] at unf
      rw [unf]
      repeat' (first|(first|(refine jl ?_;first|refine jbl ?_|refine j1 ?_|refine j4 ?_)|(refine al ?_;first|refine da_nil ?_|refine abl ?_|refine a1 ?_|refine a14 ?_|refine ai1 ?_|refine ap (k1) ?_|refine da_skip ?_)|(refine bl ?_;first|refine b1 ?_|refine b17t ?_|refine db_nil ?_)|refine al_cons (fun id hid=>?_)|refine al_nil ?_|(refine jc ?_;first|refine c1 ?_|refine c2 ?_|refine c6 ?_|refine c7 ?_|refine cqk ?_)|refine n1 ?_|refine n11 ?_)|(refine c9 (fun h=>?_) (fun h=>?_)<;>((try simp only [Bool.or_eq_true, Bool.and_eq_true, Bool.or_eq_false_iff, Bool.and_eq_false_iff, Bool.not_eq_true', Bool.not_eq_false', decide_eq_true_eq, decide_eq_false_iff_not, Bool.false_eq_true, Bool.true_eq_false, reduceCtorEq] at h) <;> (try simp (disch := omega) only [sb_bt, w64, Int.reduceAdd, Int.reduceToNat, Int.toNat_natCast, not_true_eq_false, false_or] at h) <;> (try (exfalso; omega)))))
      all_goals first | (exfalso; simp at h; done) | (exfalso; exact he h) | (exfalso; omega) | skip
      exact gvs (Fin.refl _ _ _)
set_option maxHeartbeats 8000000 in
theorem q_write {σ : St} {r g o : Nat} (w : W3 σ r g o) (l : List Cls) (s : Rs) (hs : okS s) (a : Acn) (ha : okA a) : ACalls Tryd.prog 55 [.ptr r 5 0 0, .agg (anc a)] (rsS σ r g o l s) (fun e σ' => ∃ o', W3 σ r g o' ∧ e = .ret (.v (.int .i64 (writeA s a).1)) ∧ σ' = rsS σ r g o' l (writeA s a).2) := by
  refine acalls_gives_ex ?_
  refine enter Tryd.func55 rfl rfl rfl rfl ?_
  obtain ⟨bd, hv, out, nx⟩ := s
  obtain ⟨ak, ac_, an, av, ass, aes⟩ := a
  obtain ⟨oa1, oa2, oa3, oa4, oa5, oa6⟩ := ha
  obtain ⟨os1, os2, os3, os4, os5, os6⟩ := hs
  dsimp only at *
  have hr : rsS σ r g o l ⟨bd, hv, out, nx⟩ r = some (runC l bd g hv.length o out.length nx) := r3_r w
  iterate 5 (first|(refine jl ?_;first|refine j1 ?_|refine j4 ?_|refine j12 (fun id hid=>?_))|(refine jc ?_;first|refine c1 ?_|refine c2 ?_))
  refine cj_fp 3 rfl (St.set_same _ _ _) ?_
  rw [St.del_set (by assumption)]
  have hn : (aes.map itl).length = aes.length := List.length_map ..
  repeat (first|(refine jl ?_;first|refine jbl ?_|refine j1 ?_|refine j4 ?_)|(refine jc ?_;first|refine c1 ?_|refine c2 ?_|refine c5 ?_))
  refine cj_ghost (ghost_nil (t := 5) 1 9 rfl (fun w0 hw0 => ?_))
  generalize hτ : rsS σ r g o l ⟨bd, hv, out, nx⟩ = τ at hr hw0 ⊢
  refine cj_for (fun s : Nat × Nat × List ByteArray => s.1 ≤ aes.length ∧ τ s.2.1 = none ∧ wordsGo bd (aes.drop s.1) s.2.2 = wordsGo bd aes [] ∧ s.2.2.length ≤ s.1 ∧ ∀ x ∈ s.2.2, x.size ≤ 60) (fun s => [(13, .v (.int .i64 s.1)), (5, .osl s.2.1 1 0 s.2.2.length)]) (fun s => τ.set s.2.1 (.row 1 9 (s.2.2.map str1))) (fun s => aes.length - s.1) (0, w0, []) ⟨Nat.zero_le _, hw0, rfl, Nat.le_refl _, fun _ h => absurd h (List.not_mem_nil)⟩ ⟨⟨_, rfl, fun _ _ h => h⟩, ⟨_, rfl, fun _ _ h => h⟩, trivial⟩ (St.le_refl _) (fun s hs2 => ?_)
  obtain ⟨i, u, acc⟩ := s
  dsimp only at hs2 ⊢
  obtain ⟨h1, h2, h3, h4, h5⟩ := hs2
  have hno : (acc.map str1).length = acc.length := List.length_map ..
  rcases hd : aes.drop i with _ | ⟨x, rr⟩
  · have z1 := dropn hd
    rw [hd] at h3
    have h3 : wordsGo bd aes [] = (0, acc) := h3.symm
    have unf : writeA ⟨bd, hv, out, nx⟩ ⟨ak, ac_, an, av, ass, aes⟩ = (0, ⟨bd, hv, out ++ [.wrote (joinW acc)], nx⟩) := by unfold writeA; dsimp only; rw [h3, if_pos rfl]
    rw [unf]
    refine cj_freeze 5 (els := acc.map str1) rfl (St.set_same _ _ _) hno.symm (by decide) ?_
    rw [St.del_set h2, ← hτ]
    rw [← hτ] at hr
    have kj := p_joinW acc h5 (by omega)
    have ho : r3 σ r g o (runC l bd g hv.length o out.length nx) (facR hv) (effR out) o = some (effR out) := r3_o
    have hm : (out.map efc).length = out.length := List.length_map ..
    have ha : (out.map efc).take out.length ++ [efc (.wrote (joinW acc))] = (out ++ [Eff.wrote (joinW acc)]).map efc := by rw [List.take_of_length_le (by omega), List.map_append]; rfl
    repeat' (first|(first|(refine jl ?_;first|refine j1 ?_|refine j4 ?_)|(refine yl ?_;first|refine y7 ?_|refine y8 ?_|refine y10 ?_|refine y11 ?_|refine ybd ?_|refine ybl ?_|refine y1 ?_|refine y2 ?_|refine y3 ?_|refine y3f ?_|refine y9 ?_|refine y14 ?_|refine y15 ?_|refine y16 ?_|refine y17 ?_|refine y18 ?_|refine y21 ?_|refine y25 ?_|refine yi1 ?_|refine yi2 ?_|refine yi3 ?_|refine yi4 ?_|refine yi4q ?_|refine yi6 ?_|refine ylit ?_|refine yp (kj) ?_|refine ypy (kj) ?_|refine ypq (hp:=fun hc=>kj) ?_)|(refine jc ?_;first|refine c1 ?_|refine c2 ?_|refine cqy (id := 10) [9, 12] [0, 1, 2, 3, 4, 5, 6, 7, 8, 9, 10, 11, 12] ?_|refine c8 ?_)|refine n1 ?_|refine n3 ?_|refine n7 ?_|refine n8 ?_)|(refine c9 (fun h=>?_) (fun h=>?_)<;>((try simp only [Bool.or_eq_true, Bool.and_eq_true, Bool.or_eq_false_iff, Bool.and_eq_false_iff, Bool.not_eq_true', Bool.not_eq_false', decide_eq_true_eq, decide_eq_false_iff_not, Bool.false_eq_true, Bool.true_eq_false, reduceCtorEq] at h) <;> (try simp (disch := omega) only [sb_bt, w64, Int.reduceAdd, Int.reduceToNat, Int.toNat_natCast, not_true_eq_false, false_or] at h) <;> (try (exfalso; omega)))))
    all_goals first | (exfalso; omega) | skip
    refine yapo (els := out.map efc) (n := out.length) (m := out.length + 1) (news := [efc (.wrote (joinW acc))]) (fun o' ho' => ?_) ha rfl (hσ := ho) (hn := by omega) (hb := by dsimp only [List.length]; omega)
    have w' := w.mv ho'
    rw [r3_mv_o w]
    have hr2 := r3_r (R := runC l bd g hv.length o out.length nx) (H := facR hv) (O := effR (out ++ [Eff.wrote (joinW acc)])) w'
    repeat (first|(refine yl ?_;first|refine y7 ?_|refine y8 ?_|refine y10 ?_|refine y11 ?_|refine ybd ?_|refine ybl ?_|refine y1 ?_|refine y2 ?_|refine y3 ?_|refine y3f ?_|refine y9 ?_|refine y14 ?_|refine y15 ?_|refine y16 ?_|refine y17 ?_|refine y18 ?_|refine y21 ?_|refine y25 ?_|refine yi1 ?_|refine yi2 ?_|refine yi3 ?_|refine yi4 ?_|refine yi4q ?_|refine yi6 ?_|refine ylit ?_))
    refine ynil ?_
    rw [r3_set_r w']
    repeat (first|(refine jl ?_;first|refine j1 ?_|refine j4 ?_)|(refine jc ?_;first|refine c1 ?_|refine c2 ?_|refine c7 ?_)|refine n1 ?_|refine n11 ?_)
    refine ⟨o', w', ?_⟩
    rw [show out.length + 1 = (out ++ [Eff.wrote (joinW acc)]).length by rw [List.length_append]; rfl]
    exact ge rfl
  · obtain ⟨u1, u2, u3⟩ := dropc hd
    have u4 := get_map itl u3
    have hx := oa4 x (List.mem_of_getElem? u3)
    rw [hd, wordsGo_cons] at h3
    have k1 := p_eval none none false false x bd (by omega)
    have hap : ∀ y : ByteArray, (acc.map str1).take acc.length ++ [str1 y] = (acc ++ [y]).map str1 := fun y => by rw [List.take_of_length_le (by omega), List.map_append]; rfl
    generalize hE : evalGo bd x [] = E at k1 h3
    obtain ⟨⟨vk, vn, vs⟩, e⟩ := E
    dsimp only at k1 h3
    have k2 := p_textv vk vn vs
    repeat' (first|(first|(refine jl ?_;first|refine jbl ?_|refine j1 ?_|refine j4 ?_|refine j13 (fun id hid=>?_)|refine j14 ?_|refine j17t ?_|refine ji1 ?_|refine jp (k1) ?_|refine jp (k2) ?_|refine jlit ?_)|(refine jc ?_;first|refine c1 ?_|refine c2 ?_|refine c5 ?_|refine c6 ?_|refine c7 ?_)|refine n1 ?_|refine n2 ?_|refine n5 ?_|refine n6 ?_|refine n11 ?_)|(refine c9 (fun h=>?_) (fun h=>?_)<;>((try simp only [Bool.or_eq_true, Bool.and_eq_true, Bool.or_eq_false_iff, Bool.and_eq_false_iff, Bool.not_eq_true', Bool.not_eq_false', decide_eq_true_eq, decide_eq_false_iff_not, Bool.false_eq_true, Bool.true_eq_false, reduceCtorEq] at h) <;> (try simp (disch := omega) only [sb_bt, w64, Int.reduceAdd, Int.reduceToNat, Int.toNat_natCast, not_true_eq_false, false_or] at h) <;> (try (exfalso; omega)))))
    all_goals first | (exfalso; simp at h; done) | skip
    · rw [if_neg h] at h3
      have unf : writeA ⟨bd, hv, out, nx⟩ ⟨ak, ac_, an, av, ass, aes⟩ = (e, ⟨bd, hv, out, nx⟩) := by unfold writeA; dsimp only; rw [← h3, if_neg h]
      rw [unf]
      exact ⟨o, w, gives (by rw [hτ]; repeat' (first | exact St.le_refl _ | refine St.le_any ?_)) (Fin.refl _ _ _)⟩
    · rw [if_pos h, ← u2] at h3
      refine japo (n := acc.length) (m := acc.length + 1) (news := [str1 (textV vk vn vs)]) (fun w2 hw2 => ?_) (hap _) rfl (hn := by omega) (hb := by dsimp only [List.length]; omega)
      repeat (first|(refine jl ?_;first|refine j1 ?_|refine j6 ?_)|(refine jc ?_;first|refine c2 ?_)|refine n1 ?_|refine n10 ?_)
      refine nx_forS (i + 1, w2, acc ++ [textV vk vn vs]) ⟨by dsimp only; omega, St.ns2 hw2, h3, by dsimp only; rw [List.length_append, List.length_singleton]; omega, fun y hy => by
        rcases List.mem_append.1 hy with hy | hy
        · exact h5 y hy
        · rw [List.mem_singleton.1 hy]; exact Nat.le_trans (textV_size _ _ _) (by decide)⟩ (by dsimp only; omega) ⟨⟨_, rfl, wk1 (by omega)⟩, ⟨_, rfl, Wk.of_eq (by dsimp only; rw [List.length_append, List.length_singleton])⟩, trivial⟩ (St.le_set2 (St.leX_same (St.leX_del (St.leX_any (St.leX_any (St.leX_refl _ _) h2) (St.none_set (by assumption))) h2)) (St.set_same _ _ _))
end Go.Proofs.YtbpoeggmpjepfaaDoor.Ab

/- What a rule does: any act; all of them. -/
set_option linter.unusedVariables false
set_option linter.unusedSimpArgs false
set_option maxRecDepth 20000
namespace Go.Proofs.YtbpoeggmpjepfaaDoor.Ab
open Go
attribute [local irreducible] thn inb endR CJ LJ OpJ DJ DA DB AllocK r3
def doA (l : List Cls) (s : Rs) (a : Acn) : Int × Rs := if a.k = 0 then makeA l s a else if a.k = 1 then modifyA l s a else if a.k = 2 then removeA s a else if a.k = 3 then bindA s a else if a.k = 4 then writeA s a else if a.k = 5 then (0, ⟨s.bd, s.hv, s.out ++ [.halted], s.nx⟩) else (4, s)
set_option maxHeartbeats 8000000 in
theorem q_do {σ : St} {r g o : Nat} (w : W3 σ r g o) (l : List Cls) (hl : ∀ c ∈ l, c.attrs.length ≤ 20) (s : Rs) (hs : okS s) (a : Acn) (ha : okA a) : ACalls Tryd.prog 32 [.ptr r 5 0 0, .agg (anc a)] (rsS σ r g o l s) (fun e σ' => ∃ o', W3 σ r g o' ∧ e = .ret (.v (.int .i64 (doA l s a).1)) ∧ σ' = rsS σ r g o' l (doA l s a).2) := by
  refine acalls_gives_ex ?_
  refine enter Tryd.func32 rfl rfl rfl rfl ?_
  have km := q_make w l hl s hs a ha
  have kd := q_modify w l s hs a ha
  have kr := q_remove w l s hs a
  have kb := q_bind w l s hs a ha
  have kw := q_write w l s hs a ha
  obtain ⟨ak, ac_, an, av, ass, aes⟩ := a
  iterate 5 (first|(refine jl ?_;first|refine j1 ?_|refine j4 ?_|refine j12 (fun id hid=>?_))|(refine jc ?_;first|refine c1 ?_|refine c2 ?_))
  refine cj_fp 3 rfl (St.set_same _ _ _) ?_
  rw [St.del_set (by assumption)]
  unfold doA
  dsimp only
  by_cases hk0 : ak = 0
  · subst hk0
    simp only [reduceIte, Int.reduceEq, if_pos]
    repeat' (first|(first|(refine jl ?_;first|refine jbl ?_|refine j1 ?_|refine j4 ?_)|(refine jc ?_;first|refine c1 ?_|refine c2 ?_|refine c5 ?_))|(refine c9 (fun h=>?_) (fun h=>?_)<;>((try simp only [Bool.or_eq_true, Bool.and_eq_true, Bool.or_eq_false_iff, Bool.and_eq_false_iff, Bool.not_eq_true', Bool.not_eq_false', decide_eq_true_eq, decide_eq_false_iff_not, Bool.false_eq_true, Bool.true_eq_false, reduceCtorEq] at h) <;> (try simp (disch := omega) only [sb_bt, w64, Int.reduceAdd, Int.reduceToNat, Int.toNat_natCast, not_true_eq_false, false_or] at h) <;> (try (exfalso; omega)))))
    all_goals first | (exfalso; simp at h; done) | skip
    refine lj_calls rfl rfl rfl km (fun r σ2 hr2 => ?_) (fun x σ2 ⟨_, _, h, _⟩ => by cases h)
    obtain ⟨o', w', e3, e4⟩ := hr2
    cases e3
    subst e4
    repeat (first|(refine jl ?_;first|refine j1 ?_|refine j4 ?_)|(refine jc ?_;first|refine c7 ?_)|refine n2 ?_|refine n6 ?_|refine n11 ?_)
    exact ⟨o', w', ge rfl⟩
  by_cases hk1 : ak = 1
  · subst hk1
    simp only [reduceIte, Int.reduceEq, if_pos]
    repeat' (first|(first|(refine jl ?_;first|refine jbl ?_|refine j1 ?_|refine j4 ?_)|(refine jc ?_;first|refine c1 ?_|refine c2 ?_|refine c5 ?_))|(refine c9 (fun h=>?_) (fun h=>?_)<;>((try simp only [Bool.or_eq_true, Bool.and_eq_true, Bool.or_eq_false_iff, Bool.and_eq_false_iff, Bool.not_eq_true', Bool.not_eq_false', decide_eq_true_eq, decide_eq_false_iff_not, Bool.false_eq_true, Bool.true_eq_false, reduceCtorEq] at h) <;> (try simp (disch := omega) only [sb_bt, w64, Int.reduceAdd, Int.reduceToNat, Int.toNat_natCast, not_true_eq_false, false_or] at h) <;> (try (exfalso; omega)))))
    all_goals first | (exfalso; simp at h; done) | skip
    refine lj_calls rfl rfl rfl kd (fun r σ2 hr2 => ?_) (fun x σ2 ⟨_, _, h, _⟩ => by cases h)
    obtain ⟨o', w', e3, e4⟩ := hr2
    cases e3
    subst e4
    repeat (first|(refine jl ?_;first|refine j1 ?_|refine j4 ?_)|(refine jc ?_;first|refine c7 ?_)|refine n2 ?_|refine n6 ?_|refine n11 ?_)
    exact ⟨o', w', ge rfl⟩
  by_cases hk2 : ak = 2
  · subst hk2
    simp only [reduceIte, Int.reduceEq, if_pos]
    repeat' (first|(first|(refine jl ?_;first|refine jbl ?_|refine j1 ?_|refine j4 ?_)|(refine jc ?_;first|refine c1 ?_|refine c2 ?_|refine c5 ?_))|(refine c9 (fun h=>?_) (fun h=>?_)<;>((try simp only [Bool.or_eq_true, Bool.and_eq_true, Bool.or_eq_false_iff, Bool.and_eq_false_iff, Bool.not_eq_true', Bool.not_eq_false', decide_eq_true_eq, decide_eq_false_iff_not, Bool.false_eq_true, Bool.true_eq_false, reduceCtorEq] at h) <;> (try simp (disch := omega) only [sb_bt, w64, Int.reduceAdd, Int.reduceToNat, Int.toNat_natCast, not_true_eq_false, false_or] at h) <;> (try (exfalso; omega)))))
    all_goals first | (exfalso; simp at h; done) | skip
    refine lj_calls rfl rfl rfl kr (fun r σ2 hr2 => ?_) (fun x σ2 ⟨_, _, h, _⟩ => by cases h)
    obtain ⟨o', w', e3, e4⟩ := hr2
    cases e3
    subst e4
    repeat (first|(refine jl ?_;first|refine j1 ?_|refine j4 ?_)|(refine jc ?_;first|refine c7 ?_)|refine n2 ?_|refine n6 ?_|refine n11 ?_)
    exact ⟨o', w', ge rfl⟩
  by_cases hk4 : ak = 4
  · subst hk4
    simp only [reduceIte, Int.reduceEq, if_pos]
    repeat' (first|(first|(refine jl ?_;first|refine jbl ?_|refine j1 ?_|refine j4 ?_)|(refine jc ?_;first|refine c1 ?_|refine c2 ?_|refine c5 ?_))|(refine c9 (fun h=>?_) (fun h=>?_)<;>((try simp only [Bool.or_eq_true, Bool.and_eq_true, Bool.or_eq_false_iff, Bool.and_eq_false_iff, Bool.not_eq_true', Bool.not_eq_false', decide_eq_true_eq, decide_eq_false_iff_not, Bool.false_eq_true, Bool.true_eq_false, reduceCtorEq] at h) <;> (try simp (disch := omega) only [sb_bt, w64, Int.reduceAdd, Int.reduceToNat, Int.toNat_natCast, not_true_eq_false, false_or] at h) <;> (try (exfalso; omega)))))
    all_goals first | (exfalso; simp at h; done) | skip
    refine lj_calls rfl rfl rfl kw (fun r σ2 hr2 => ?_) (fun x σ2 ⟨_, _, h, _⟩ => by cases h)
    obtain ⟨o', w', e3, e4⟩ := hr2
    cases e3
    subst e4
    repeat (first|(refine jl ?_;first|refine j1 ?_|refine j4 ?_)|(refine jc ?_;first|refine c7 ?_)|refine n2 ?_|refine n6 ?_|refine n11 ?_)
    exact ⟨o', w', ge rfl⟩
  by_cases hk3 : ak = 3
  · subst hk3
    simp only [reduceIte, Int.reduceEq, if_pos]
    repeat' (first|(first|(refine jl ?_;first|refine jbl ?_|refine j1 ?_|refine j4 ?_|refine lj_to rfl rfl rfl kb ?_)|(refine jc ?_;first|refine c1 ?_|refine c2 ?_|refine c5 ?_|refine c7 ?_)|refine n2 ?_|refine n6 ?_|refine n11 ?_)|(refine c9 (fun h=>?_) (fun h=>?_)<;>((try simp only [Bool.or_eq_true, Bool.and_eq_true, Bool.or_eq_false_iff, Bool.and_eq_false_iff, Bool.not_eq_true', Bool.not_eq_false', decide_eq_true_eq, decide_eq_false_iff_not, Bool.false_eq_true, Bool.true_eq_false, reduceCtorEq] at h) <;> (try simp (disch := omega) only [sb_bt, w64, Int.reduceAdd, Int.reduceToNat, Int.toNat_natCast, not_true_eq_false, false_or] at h) <;> (try (exfalso; omega)))))
    all_goals first | (exfalso; simp at h; done) | skip
    exact ⟨o, w, ge rfl⟩
  rw [if_neg hk0, if_neg hk1, if_neg hk2, if_neg hk3, if_neg hk4]
  by_cases hk5 : ak = 5
  · subst hk5
    simp only [reduceIte]
    obtain ⟨bd, hv, out, nx⟩ := s
    obtain ⟨os1, os2, os3, os4, os5, os6⟩ := hs
    dsimp only at *
    have hr : rsS σ r g o l ⟨bd, hv, out, nx⟩ r = some (runC l bd g hv.length o out.length nx) := r3_r w
    have ho : rsS σ r g o l ⟨bd, hv, out, nx⟩ o = some (effR out) := r3_o
    have hm : (out.map efc).length = out.length := List.length_map ..
    have ha : (out.map efc).take out.length ++ [efc .halted] = (out ++ [Eff.halted]).map efc := by rw [List.take_of_length_le (by omega), List.map_append]; rfl
    repeat' (first|(first|(refine jl ?_;first|refine jb ?_|refine jbl ?_|refine j1 ?_|refine j4 ?_|refine j14 ?_|refine jlit ?_)|(refine jc ?_;first|refine c1 ?_|refine c2 ?_|refine c5 ?_))|(refine c9 (fun h=>?_) (fun h=>?_)<;>((try simp only [Bool.or_eq_true, Bool.and_eq_true, Bool.or_eq_false_iff, Bool.and_eq_false_iff, Bool.not_eq_true', Bool.not_eq_false', decide_eq_true_eq, decide_eq_false_iff_not, Bool.false_eq_true, Bool.true_eq_false, reduceCtorEq] at h) <;> (try simp (disch := omega) only [sb_bt, w64, Int.reduceAdd, Int.reduceToNat, Int.toNat_natCast, not_true_eq_false, false_or] at h) <;> (try (exfalso; omega)))))
    all_goals first | (exfalso; simp at h; done) | skip
    refine japo (n := out.length) (m := out.length + 1) (news := [efc .halted]) (fun o' ho' => ?_) ha rfl (hσ := ho) (hn := by omega) (hb := by dsimp only [List.length]; omega)
    have w' := w.mv ho'
    rw [r3_mv_o w]
    have hr2 := r3_r (R := runC l bd g hv.length o out.length nx) (H := facR hv) (O := effR (out ++ [Eff.halted])) w'
    repeat (first|(refine jl ?_;first|refine j1 ?_|refine j4 ?_|refine j17 ?_)|(refine jc ?_;first|refine c1 ?_|refine c2 ?_|refine c7 ?_)|refine n2 ?_|refine n6 ?_|refine n11 ?_)
    rw [r3_set_r w']
    refine ⟨o', w', ?_⟩
    rw [show out.length + 1 = (out ++ [Eff.halted]).length by rw [List.length_append]; rfl]
    exact ge rfl
  · rw [if_neg hk5]
    repeat' (first|(first|(refine jl ?_;first|refine jbl ?_|refine j1 ?_|refine j4 ?_)|(refine jc ?_;first|refine c1 ?_|refine c2 ?_|refine c5 ?_|refine c6 ?_|refine c7 ?_)|refine n1 ?_|refine n10 ?_|refine n11 ?_)|(refine c9 (fun h=>?_) (fun h=>?_)<;>((try simp only [Bool.or_eq_true, Bool.and_eq_true, Bool.or_eq_false_iff, Bool.and_eq_false_iff, Bool.not_eq_true', Bool.not_eq_false', decide_eq_true_eq, decide_eq_false_iff_not, Bool.false_eq_true, Bool.true_eq_false, reduceCtorEq] at h) <;> (try simp (disch := omega) only [sb_bt, w64, Int.reduceAdd, Int.reduceToNat, Int.toNat_natCast, not_true_eq_false, false_or] at h) <;> (try (exfalso; omega)))))
    all_goals first | (exfalso; exact hk0 h) | (exfalso; exact hk1 h) | (exfalso; exact hk2 h) | (exfalso; exact hk3 h) | (exfalso; exact hk4 h) | (exfalso; exact hk5 h) | skip
    exact ⟨o, w, ge rfl⟩
end Go.Proofs.YtbpoeggmpjepfaaDoor.Ab

/- What a rule does: the run. -/
set_option linter.unusedVariables false
set_option linter.unusedSimpArgs false
set_option maxRecDepth 20000
namespace Go.Proofs.YtbpoeggmpjepfaaDoor.Ab
open Go
theorem withGo_lle (ns : List ByteArray) : ∀ (s d : List Bd) (vs : List Vl), (withGo ns d s vs).2.length ≤ vs.length
  | [], d, vs => Nat.le_refl _
  | b :: r, d, vs => by
    unfold withGo
    split
    · exact Nat.zero_le _
    · split
      · exact Nat.zero_le _
      · split
        · have := withGo_lle ns r (d ++ [b]) (vs.set (attrN b.name ns).toNat b.val)
          rwa [List.length_set] at this
        · exact Nat.zero_le _
theorem withF_vals (l : List Cls) (f : Fc) (n : Int) (sets : List Bd) : (withF l f n sets).vals.length ≤ f.vals.length := by
  unfold withF
  split
  · dsimp only
    unfold withR
    split
    · exact Nat.zero_le _
    · split
      · exact Nat.zero_le _
      · exact withGo_lle _ _ _ _
  · exact Nat.zero_le _
theorem bindF_small {nm : ByteArray} {v : Vl} (hv : v.s.size ≤ 60) : ∀ {bd : List Bd}, (∀ b ∈ bd, b.val.s.size ≤ 60) → ∀ b ∈ bindF nm v bd, b.val.s.size ≤ 60
  | [], _, b, h => by
    have h : b ∈ [(⟨nm, v⟩ : Bd)] := h
    rw [List.mem_singleton.1 h]; exact hv
  | x :: r, hb, b, h => by
    have h : b ∈ (if isB nm x = true then ⟨x.name, v⟩ :: r else x :: bindF nm v r) := h
    split at h
    · rcases List.mem_cons.1 h with h | h
      · rw [h]; exact hv
      · exact hb b (List.mem_cons_of_mem _ h)
    · rcases List.mem_cons.1 h with h | h
      · rw [h]; exact hb x (List.mem_cons_self ..)
      · exact bindF_small hv (fun y hy => hb y (List.mem_cons_of_mem _ hy)) b h
/-- As many acts as n may yet be done. -/
structure okN (n : Nat) (s : Rs) : Prop where
  bd : s.bd.length + n ≤ 1000
  hv : s.hv.length ≤ 1000
  out : s.out.length + 2 * n ≤ 1000
  bs : ∀ b ∈ s.bd, b.val.s.size ≤ 60
  fs : ∀ f ∈ s.hv, f.vals.length ≤ 65536
theorem okN.ok {n : Nat} {s : Rs} (h : okN n s) : okS s := ⟨by have := h.bd; omega, h.hv, by have := h.out; omega, trivial, h.bs, h.fs⟩
theorem okN.less {n : Nat} {s : Rs} (h : okN (n + 1) s) : okN n s := ⟨by have := h.bd; omega, h.hv, by have := h.out; omega, h.bs, h.fs⟩
theorem okN.act {n : Nat} {s : Rs} {l : List Cls} {a : Acn} (h : okN (n + 1) s) (ha : okA a) : okN n (doA l s a).2 := by
  obtain ⟨h1, h2, h3, h5, h6⟩ := h
  have hls : okN n s := ⟨by omega, h2, by omega, h5, h6⟩
  unfold doA
  split
  · unfold makeA
    split
    · exact hls
    · split
      · exact hls
      · exact ⟨by dsimp only; omega, h2, by dsimp only; rw [List.length_append, List.length_singleton]; omega, h5, h6⟩
  split
  · unfold modifyA
    split
    · exact hls
    · split
      · exact hls
      · split
        · exact hls
        · refine ⟨by dsimp only; omega, by dsimp only; rw [List.length_set]; exact h2, by dsimp only; rw [List.length_append, List.length_append, List.length_singleton, List.length_singleton]; omega, h5, fun f hf => ?_⟩
          dsimp only at hf
          rcases List.mem_or_eq_of_mem_set hf with hf | hf
          · exact h6 f hf
          · rw [hf]; exact Nat.le_trans (withF_vals _ _ _ _) (factR_vals h6)
  split
  · unfold removeA
    split
    · exact ⟨by dsimp only; omega, h2, by dsimp only; rw [List.length_append, List.length_singleton]; omega, h5, h6⟩
    · exact hls
  split
  · unfold bindA
    split
    · exact hls
    · rename_i x r hx
      split
      · have := bindF_len a.var (evalGo s.bd x []).1 s.bd
        exact ⟨by dsimp only; omega, h2, by dsimp only; omega, bindF_small (evalGo_small h5 _ _ (ha.ei x (by rw [hx]; exact List.mem_cons_self ..)) (fun _ h => absurd h (List.not_mem_nil))) h5, h6⟩
      · exact hls
  split
  · unfold writeA
    split
    · exact ⟨by dsimp only; omega, h2, by dsimp only; rw [List.length_append, List.length_singleton]; omega, h5, h6⟩
    · exact hls
  split
  · exact ⟨by dsimp only; omega, h2, by dsimp only; rw [List.length_append, List.length_singleton]; omega, h5, h6⟩
  · exact hls
def runGo (l : List Cls) : List Acn → Rs → Int × Rs
  | [], s => (0, s)
  | a :: r, s => if (doA l s a).1 = 0 then runGo l r (doA l s a).2 else ((doA l s a).1, s)
theorem runGo_cons {l : List Cls} {a : Acn} {r : List Acn} {s : Rs} : runGo l (a :: r) s = if (doA l s a).1 = 0 then runGo l r (doA l s a).2 else ((doA l s a).1, s) := rfl
/-- What a run answers: effects, the next tag, and an error's number. -/
def runR (l : List Cls) (x : Rul) (facts : List Fc) (tags : List Int) (nx : Int) : List Eff × Int × Int := match beginGo l facts x.conds tags [] with
  | none => ([], 0, 4)
  | some (bd, hv) => if (runGo l x.acts ⟨bd, hv, [], nx⟩).1 = 0 then ((runGo l x.acts ⟨bd, hv, [], nx⟩).2.out, (runGo l x.acts ⟨bd, hv, [], nx⟩).2.nx, 0) else ([], 0, (runGo l x.acts ⟨bd, hv, [], nx⟩).1)
theorem begin_keep {l : List Cls} {facts : List Fc} (hf : ∀ f ∈ facts, (∀ v ∈ f.vals, v.s.size ≤ 60) ∧ f.vals.length ≤ 65536) : ∀ (cs : List Cnd) (ts : List Int) (bd : List Bd) (r : List Bd × List Fc), (∀ c ∈ cs, c.attrs.length ≤ 12 ∧ ∀ a ∈ c.attrs, a.tests.length ≤ 12) → (∀ b ∈ bd, b.val.s.size ≤ 60) → beginGo l facts cs ts bd = some r → (∀ b ∈ r.1, b.val.s.size ≤ 60) ∧ r.1.length ≤ bd.length + 144 * cs.length ∧ ∀ f ∈ r.2, f.vals.length ≤ 65536
  | [], [], bd, r, _, hb, h => by cases h; exact ⟨hb, by simp, fun f hf => by cases hf⟩
  | [], _ :: _, bd, r, _, _, h => by cases h
  | _ :: _, [], bd, r, _, _, h => by cases h
  | c :: cs, t :: ts, bd, r, hc, hb, h => by
    have hcr := fun x hx => hc x (List.mem_cons_of_mem _ hx)
    cases hn : c.neg with
    | true =>
      rw [beginGo_neg hn, Option.map_eq_some_iff] at h
      obtain ⟨y, h1, rfl⟩ := h
      obtain ⟨i1, i2, i3⟩ := begin_keep hf cs ts bd y hcr hb h1
      refine ⟨i1, by rw [List.length_cons]; dsimp only; omega, fun f hf => ?_⟩
      rcases List.mem_cons.1 hf with e | e
      · rw [e]; exact Nat.zero_le _
      · exact i3 f e
    | false =>
      rw [beginGo_pos hn] at h
      cases hg : findT facts t with
      | none => rw [hg] at h; cases h
      | some f =>
        rw [hg] at h
        dsimp only at h
        have hff := hf f (List.mem_of_find?_eq_some hg)
        cases hm : matchF l c f bd with
        | none => rw [hm] at h; cases h
        | some b =>
          rw [hm] at h
          dsimp only at h
          rw [Option.map_eq_some_iff] at h
          obtain ⟨y, h1, rfl⟩ := h
          obtain ⟨m1, m2⟩ := match_keep (p := fun v => v.s.size ≤ 60) (hc c (List.mem_cons_self ..)) hff.1 hb hm
          obtain ⟨i1, i2, i3⟩ := begin_keep hf cs ts b y hcr m1 h1
          refine ⟨i1, by rw [List.length_cons]; dsimp only; omega, fun g hg' => ?_⟩
          rcases List.mem_cons.1 hg' with e | e
          · rw [e]; exact hff.2
          · exact i3 g e
theorem St.r3c {σ : St} {r h o : Nat} {R R2 H O : AObj} (hr : σ r = none) (hrh : r ≠ h) (hh : σ h = none) (ho : (σ.set r R).set h H o = none) : W3 σ r h o ∧ (((σ.set r R).set h H).set o O).set r R2 = r3 σ r h o R2 H O := by
  have n1 : h ≠ o := St.ne_of_none ho
  have n2 : r ≠ o := St.nn1 ho
  have w : W3 σ r h o := ⟨hr, hh, St.none_set (St.none_set ho), hrh, n2, n1⟩
  exact ⟨w, r3_set_r (R := R) w⟩
attribute [local irreducible] thn inb endR CJ LJ OpJ DJ DA DB AllocK r3
set_option maxHeartbeats 8000000 in
theorem p_run (l : List Cls) (hl : ∀ c ∈ l, c.attrs.length ≤ 20) (x : Rul) (facts : List Fc) (tags : List Int) (nx : Int) (nl1 nl2 nl3 : Option Bool) (fl1 fl2 fl3 : Bool) (hc : x.conds.length ≤ 5) (hcs : ∀ c ∈ x.conds, c.attrs.length ≤ 12 ∧ ∀ a ∈ c.attrs, a.tests.length ≤ 12) (ha : x.acts.length ≤ 20) (has : ∀ a ∈ x.acts, okA a) (hf : ∀ f ∈ facts, (∀ v ∈ f.vals, v.s.size ≤ 60) ∧ f.vals.length ≤ 65536) : Pure Tryd.prog 14 [.sl none false 2 (l.map cc), .agg (ruc x), .sl nl2 fl2 3 (facts.map fc), .sl nl3 fl3 1 (tags.map int1), .v (.int .i64 nx)] (.tup [.sl none false 6 ((runR l x facts tags nx).1.map efc), .v (.int .i64 (runR l x facts tags nx).2.1), .v (.int .i64 (runR l x facts tags nx).2.2)]) := by
  refine enterW Tryd.func14 rfl rfl rfl rfl (fun σ => ?_)
  have hkeep := fun r => begin_keep (l := l) hf x.conds tags [] r hcs (fun _ h => absurd h (List.not_mem_nil))
  have hblen := fun r => @beginGo_len l facts x.conds tags [] r
  obtain ⟨xn, xc, xa⟩ := x
  dsimp only at *
  unfold runR
  dsimp only
  have hna : (xa.map anc).length = xa.length := List.length_map ..
  iterate 7 (first|(refine jl ?_;first|refine j1 ?_|refine j4 ?_|refine j12 (fun id hid=>?_))|(refine jc ?_;first|refine c1 ?_|refine c2 ?_))
  refine cj_fp 6 rfl (St.set_same _ _ _) ?_
  rw [St.del_set (by assumption)]
  repeat' (first|(first|(refine jl ?_;first|refine jb ?_|refine jbl ?_|refine j1 ?_|refine j4 ?_|refine j12 (fun id hid=>?_))|(refine jc ?_;first|refine c1 ?_|refine c2 ?_)))
  first | refine cj_id 20 (fun r e => ?_) | refine lj_id 20 (fun r e => ?_)
  subst e
  refine lj_calls rfl rfl rfl (q_begin (by assumption) l nx none nl2 nl3 false fl2 fl3 xc facts tags (by omega) hcs) (fun r2 σ2 hr2 => ?_) (fun x σ2 ⟨_, _, h, _⟩ => by cases h)
  obtain ⟨y, hy, e3, e4⟩ := hr2
  cases e3
  subst e4
  cases y with
  | none =>
    rw [show beginGo l facts xc tags [] = none from hy]
    repeat' (first|(first|(refine jl ?_;first|refine jbl ?_|refine j1 ?_|refine j4 ?_)|(refine jc ?_;first|refine c1 ?_|refine c2 ?_|refine c5 ?_|refine c6 ?_|refine c7 ?_)|refine n1 ?_|refine n2 ?_|refine n11 ?_)|(refine c9 (fun h=>?_) (fun h=>?_)<;>((try simp only [Bool.or_eq_true, Bool.and_eq_true, Bool.or_eq_false_iff, Bool.and_eq_false_iff, Bool.not_eq_true', Bool.not_eq_false', decide_eq_true_eq, decide_eq_false_iff_not, Bool.false_eq_true, Bool.true_eq_false, reduceCtorEq] at h) <;> (try simp (disch := omega) only [sb_bt, w64, Int.reduceAdd, Int.reduceToNat, Int.toNat_natCast, not_true_eq_false, false_or] at h) <;> (try (exfalso; omega)))))
    all_goals first | (exfalso; simp at h; done) | skip
    exact gives (St.le_refl _) (fin_three (.wk (Wk.nil _ _ _ _)) (Fin.refl _ _ _) (Fin.refl _ _ _))
  | some g =>
    obtain ⟨hy1, hy2, hy3⟩ := hy
    dsimp only
    cases hb : beginGo l facts xc tags [] with
    | none => exact absurd hb hy1
    | some bh =>
      obtain ⟨bd, hv⟩ := bh
      obtain ⟨kp1, kp2, kp3⟩ := hkeep _ hb
      obtain ⟨kb1, kb2⟩ := hblen _ hb
      dsimp only [Option.getD] at kp1 kp2 kp3 kb1 kb2 ⊢
      repeat' (first|(first|(refine jl ?_;first|refine jbl ?_|refine j1 ?_|refine j4 ?_)|(refine jc ?_;first|refine c1 ?_|refine c2 ?_|refine c5 ?_|refine c6 ?_|refine c7 ?_)|refine n1 ?_|refine n2 ?_|refine n11 ?_)|(refine c9 (fun h=>?_) (fun h=>?_)<;>((try simp only [Bool.or_eq_true, Bool.and_eq_true, Bool.or_eq_false_iff, Bool.and_eq_false_iff, Bool.not_eq_true', Bool.not_eq_false', decide_eq_true_eq, decide_eq_false_iff_not, Bool.false_eq_true, Bool.true_eq_false, reduceCtorEq] at h) <;> (try simp (disch := omega) only [sb_bt, w64, Int.reduceAdd, Int.reduceToNat, Int.toNat_natCast, not_true_eq_false, false_or] at h) <;> (try (exfalso; omega)))))
      all_goals first | (exfalso; simp at h; done) | skip
      refine cj_ghost (ghost_nilcell (b := r) (j := 3) 6 61 (by rw [St.set_ne _ _ _ hy2]; exact St.set_same _ _ _) rfl (fun o ho => ?_))
      obtain ⟨w, ew⟩ := St.r3c (R2 := .row 5 91 [[.sl none false 2 (l.map cc), .sl none false 4 (bd.map bc), .osl g 3 0 xc.length, .osl o 6 0 0, .v (.int .i64 nx)]]) (O := .row 6 61 []) (by assumption) hy2 hy3 ho
      dsimp only [List.set]
      rw [ew, ← kb2]
      have hok0 : okN xa.length ⟨bd, hv, [], nx⟩ := ⟨by have : ([] : List Bd).length = 0 := rfl; dsimp only; omega, by dsimp only; omega, by dsimp only [List.length]; omega, kp1, kp3⟩
      refine cj_for (fun s : Nat × Nat × Rs => s.1 ≤ xa.length ∧ W3 σ r g s.2.1 ∧ runGo l (xa.drop s.1) s.2.2 = runGo l xa ⟨bd, hv, [], nx⟩ ∧ okN (xa.length - s.1) s.2.2) (fun s => [(31, .v (.int .i64 s.1))]) (fun s => rsS σ r g s.2.1 l s.2.2) (fun s => xa.length - s.1) (0, o, ⟨bd, hv, [], nx⟩) ⟨Nat.zero_le _, w, rfl, hok0⟩ ⟨⟨_, rfl, fun _ _ h => h⟩, trivial⟩ (St.le_refl _) (fun s hs2 => ?_)
      obtain ⟨i, o2, s⟩ := s
      dsimp only at hs2 ⊢
      obtain ⟨h1, h2, h3, h4⟩ := hs2
      rcases hd : xa.drop i with _ | ⟨a, rr⟩
      · have z1 := dropn hd
        rw [hd] at h3
        obtain ⟨sb, sh, so, sn⟩ := s
        rw [← h3, show runGo l [] ⟨sb, sh, so, sn⟩ = (0, ⟨sb, sh, so, sn⟩) from rfl, if_pos rfl]
        have hr : rsS σ r g o2 l ⟨sb, sh, so, sn⟩ r = some (runC l sb g sh.length o2 so.length sn) := r3_r h2
        have hro : rsS σ r g o2 l ⟨sb, sh, so, sn⟩ o2 = some (effR so) := r3_o
        repeat' (first|(first|(refine jl ?_;first|refine j1 ?_|refine j4 ?_)|(refine dl ?_;first|refine d1 ?_|refine d4 ?_|refine d14 ?_)|(refine jc ?_;first|refine c1 ?_|refine c2 ?_|refine c7 ?_|refine c8 ?_|refine cq ?_)|refine n1 ?_|refine n3 ?_|refine n7 ?_|refine n8 ?_|refine n11 ?_)|(refine c9 (fun h=>?_) (fun h=>?_)<;>((try simp only [Bool.or_eq_true, Bool.and_eq_true, Bool.or_eq_false_iff, Bool.and_eq_false_iff, Bool.not_eq_true', Bool.not_eq_false', decide_eq_true_eq, decide_eq_false_iff_not, Bool.false_eq_true, Bool.true_eq_false, reduceCtorEq] at h) <;> (try simp (disch := omega) only [sb_bt, w64, Int.reduceAdd, Int.reduceToNat, Int.toNat_natCast, not_true_eq_false, false_or] at h) <;> (try (exfalso; omega)))))
        all_goals first | (exfalso; omega) | skip
        exact gives h2.le (fin_three (fin_fz hro h2.no (by rw [List.length_map]) rfl efc_len) (Fin.refl _ _ _) (Fin.refl _ _ _))
      · obtain ⟨u1, u2, u3⟩ := dropc hd
        have u4 := get_map anc u3
        have hoka := has a (List.mem_of_getElem? u3)
        rw [hd, runGo_cons] at h3
        have kd := q_do h2 l hl s h4.ok a hoka
        have hnext : okN (xa.length - (i + 1)) (doA l s a).2 := okN.act (n := xa.length - (i + 1)) (by rwa [show xa.length - (i + 1) + 1 = xa.length - i by omega]) hoka
        generalize hD : doA l s a = D at kd h3 hnext
        obtain ⟨e, s'⟩ := D
        dsimp only at kd h3 hnext
        obtain ⟨ak, ac_, an, av, ass, aes⟩ := a
        repeat' (first|(first|(refine jl ?_;first|refine jbl ?_|refine j1 ?_|refine j4 ?_|refine j13 (fun id hid=>?_)|refine j14 ?_|refine j17t ?_|refine ji1 ?_)|(refine jc ?_;first|refine c1 ?_|refine c2 ?_|refine c5 ?_|refine c6 ?_)|refine n1 ?_)|(refine c9 (fun h=>?_) (fun h=>?_)<;>((try simp only [Bool.or_eq_true, Bool.and_eq_true, Bool.or_eq_false_iff, Bool.and_eq_false_iff, Bool.not_eq_true', Bool.not_eq_false', decide_eq_true_eq, decide_eq_false_iff_not, Bool.false_eq_true, Bool.true_eq_false, reduceCtorEq] at h) <;> (try simp (disch := omega) only [sb_bt, w64, Int.reduceAdd, Int.reduceToNat, Int.toNat_natCast, not_true_eq_false, false_or] at h) <;> (try (exfalso; omega)))))
        all_goals first | (exfalso; omega) | skip
        refine lj_fp 15 rfl (St.set_same _ _ _) ?_
        rw [St.del_set (by assumption)]
        refine lj_calls rfl rfl rfl kd (fun r2 σ2 hr2 => ?_) (fun x σ2 ⟨_, _, h, _⟩ => by cases h)
        obtain ⟨o3, w3, e3, e4⟩ := hr2
        cases e3
        subst e4
        repeat' (first|(first|(refine jl ?_;first|refine j1 ?_|refine j4 ?_|refine j6 ?_)|(refine jc ?_;first|refine c1 ?_|refine c2 ?_|refine c6 ?_|refine c7 ?_)|refine n1 ?_|refine n2 ?_|refine n5 ?_|refine n6 ?_|refine n10 ?_|refine n11 ?_)|(refine c9 (fun h=>?_) (fun h=>?_)<;>((try simp only [Bool.or_eq_true, Bool.and_eq_true, Bool.or_eq_false_iff, Bool.and_eq_false_iff, Bool.not_eq_true', Bool.not_eq_false', decide_eq_true_eq, decide_eq_false_iff_not, Bool.false_eq_true, Bool.true_eq_false, reduceCtorEq] at h) <;> (try simp (disch := omega) only [sb_bt, w64, Int.reduceAdd, Int.reduceToNat, Int.toNat_natCast, not_true_eq_false, false_or] at h) <;> (try (exfalso; omega)))))
        · rw [if_neg h] at h3
          rw [← h3, if_neg h]
          exact gives w3.le (fin_three (.wk (Wk.nil _ _ _ _)) (Fin.refl _ _ _) (Fin.refl _ _ _))
        · rw [if_pos h, ← u2] at h3
          exact nx_forS (i + 1, o3, s') ⟨by dsimp only; omega, w3, h3, hnext⟩ (by dsimp only; omega) ⟨⟨_, rfl, wk1 (by omega)⟩, trivial⟩ (St.le_refl _)
end Go.Proofs.YtbpoeggmpjepfaaDoor.Ab
