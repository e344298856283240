/- The texts D6, D9, E5, D8, E1, D7, E6, E7, G1, G2, G3, O1, O3, one behind the other. -/
import Derived.Test.YtddljegbggncdaaDoorM1
import Derived.Test.YtddljegbggncdaaDoorM2
import Derived.Test.YtddljegbggncdaaDoorM3
import Derived.Test.YtddljegbggncdaaDoorM4
import Derived.Test.YtddljegbggncdaaDoorM5
import Derived.Test.YtddljegbggncdaaDoorRows
import Derived.WalkKit
import Derived.ProofKit
import Derived.OpenShut
import Derived.ChangeOld
import Derived.Below
import Derived.Lib.SmallJoins
/- A fact that is as a condition asks. -/
set_option linter.unusedVariables false
set_option linter.unusedSimpArgs false
set_option maxRecDepth 20000
namespace Go.Proofs.YtddljegbggncdaaDoor.Ab
open Go
attribute [local irreducible] thn inb endR CJ LJ OpJ DJ DA DB AllocK

/-- What is bound behind a value's tests, if it is as they ask. -/
def goT (v : Vl) : List Tst → List Bd → Option (List Bd)
  | [], now => some now
  | t :: r, now => if bindsB t now = true then goT v r (now ++ [⟨t.v, v⟩]) else if testB t v now = true then goT v r now else none
def onesB (a : Atr) (v : Vl) : Bool := !decide (0 < a.ones.length) || a.ones.any (isV v)
def goA (ns : List ByteArray) (vs : List Vl) : List Atr → List Bd → Option (List Bd)
  | [], now => some now
  | a :: r, now => if attrB a.attr ns = true then
      match vs[(attrN a.attr ns).toNat]? with
      | none => none
      | some v => if onesB a v = true then (goT v a.tests now).bind (goA ns vs r) else none
    else none
def matchF (l : List Cls) (c : Cnd) (f : Fc) (bd : List Bd) : Option (List Bd) := if f.cls = c.cls ∧ checkF l f = 0 then goA ((findC f.cls l).getD noC).attrs f.vals c.attrs bd else none
abbrev mres (r : Option (List Bd)) : AV := .tup [.sl none false 4 ((r.getD []).map bc), .v (.bool r.isSome)]
theorem p_match (nl nl' : Option Bool) (full full' : Bool) (l : List Cls) (c : Cnd) (f : Fc) (bd : List Bd) (h1 : c.attrs.length ≤ 12) (h2 : ∀ a ∈ c.attrs, a.tests.length ≤ 12) (h3 : bd.length ≤ 1000) : Pure Tryd.prog 17 [.sl nl full 2 (l.map cc), .agg (dc c), .agg (fc f), .sl nl' full' 4 (bd.map bc)] (mres (matchF l c f bd)) := by
  refine enterW Tryd.func17 rfl rfl rfl rfl (fun σ => ?_)
  obtain ⟨cg, cn, ats⟩ := c
  obtain ⟨ft, fn, vs⟩ := f
  dsimp only at h1 h2
  have hla : (ats.map ac).length = ats.length := List.length_map ..
  have hlv : (vs.map vc).length = vs.length := List.length_map ..
  have hlb : (bd.map bc).length = bd.length := List.length_map ..
  have k1 := p_find nl full l fn
  have k2 := p_ccheck nl full l ⟨ft, fn, vs⟩
  repeat' (first|(first|(refine jl ?_;first|refine j7 ?_|refine j1 ?_|refine j4 ?_|refine j9 ?_|refine j12 (fun id hid=>?_)|refine j13 (fun id hid=>?_)|refine j14 ?_|refine j17t ?_|refine j16 ?_|refine jp (k1) ?_|refine jcq (hp:=fun hc=>k2) ?_)|(refine jc ?_;first|refine c1 ?_|refine c2 ?_|refine c6 ?_|refine c7 ?_|refine csc ?_)|refine n1 ?_|refine n2 ?_|refine n11 ?_)|(refine c9 (fun h=>?_) (fun h=>?_)<;>(try simp only [Bool.or_eq_true, Bool.and_eq_true, Bool.or_eq_false_iff, Bool.and_eq_false_iff, Bool.not_eq_true', Bool.not_eq_false', decide_eq_true_eq, decide_eq_false_iff_not, Bool.false_eq_true, Bool.true_eq_false, reduceCtorEq] at h)))
  · rw [matchF, if_neg (by rintro ⟨e1, e2⟩; rcases h with h | h <;> exact h (by assumption))]
    exact gvs (fin_two (.wk (Wk.nil _ _ _ _)) (Fin.refl _ _ _))
  · obtain ⟨hfc, hck⟩ := h
    obtain ⟨_, cl, hc1, _, hc3, _⟩ := checkF_zero hck
    dsimp only at hc1 hc3
    have hF : matchF l ⟨cg, cn, ats⟩ ⟨ft, fn, vs⟩ bd = goA cl.attrs vs ats bd := by
      rw [matchF, if_pos ⟨hfc, hck⟩]
      show goA ((findC fn l).getD noC).attrs vs ats bd = _
      rw [hc1]; rfl
    rw [hF]
    rw [hc1]
    first | refine cj_id 5 (fun b5 e => ?_) | refine lj_id 5 (fun b5 e => ?_)
    subst e
    first | refine cj_id 6 (fun b6 e => ?_) | refine lj_id 6 (fun b6 e => ?_)
    subst e
    first | refine cj_id 10 (fun b10 e => ?_) | refine lj_id 10 (fun b10 e => ?_)
    subst e
    refine lj_calls rfl rfl rfl (q_cloneb nl' full' bd (by omega) _) (fun r σ' hr => ?_) (fun x σ' ⟨_, _, h, _⟩ => by cases h)
    obtain ⟨w0, hw0, hr1, hr2⟩ := hr
    obtain ⟨τ, hτ, hw, hr3⟩ : ∃ τ : St, τ = _ ∧ τ w0 = none ∧ σ' = τ.set w0 (.row 4 50 (bd.map bc)) := ⟨_, rfl, hw0, hr2⟩
    cases hr1
    subst hr3
    have t5 : τ b5 = some (.row 3 25 [dc ⟨cg, cn, ats⟩]) := by rw [hτ]; exact lkp
    have t6 : τ b6 = some (.row 3 28 [fc ⟨ft, fn, vs⟩]) := by rw [hτ]; exact lkp
    have t10 : τ b10 = some (.row 2 95 [cc cl]) := by rw [hτ]; exact lkp
    have hle : σ.le τ := by rw [hτ]; repeat' (first | exact St.le_refl _ | refine St.le_any ?_)
    clear hτ hr2 hw0
    repeat (first|(refine jl ?_;first|refine j1 ?_|refine j4 ?_|refine j14 ?_)|(refine jc ?_;first|refine c1 ?_|refine c2 ?_|refine c5 ?_|refine clb ?_)|refine n1 ?_)
    refine cj_for (fun s : Nat × Nat × List Bd => s.1 ≤ ats.length ∧ τ s.2.1 = none ∧ goA cl.attrs vs (ats.drop s.1) s.2.2 = goA cl.attrs vs ats bd ∧ s.2.2.length ≤ bd.length + 12 * s.1) (fun s => [(43, .v (.int .i64 s.1)), (12, .osl s.2.1 4 0 s.2.2.length), (13, .v (.bool true))]) (fun s => τ.set s.2.1 (.row 4 50 (s.2.2.map bc))) (fun s => ats.length - s.1) (0, w0, bd) ⟨Nat.zero_le _, hw, rfl, Nat.le_add_right _ _⟩ ⟨⟨_, rfl, fun _ _ h => h⟩, ⟨_, rfl, fun _ _ h => h⟩, ⟨_, rfl, fun _ _ h => h⟩, trivial⟩ (St.le_refl _) (fun s hs => ?_)
    obtain ⟨i, w, now⟩ := s
    obtain ⟨hi, hw, hg, hlen⟩ := hs
    dsimp only at hi hw hg hlen ⊢
    clear k1 k2
    rcases hd : ats.drop i with _ | ⟨x, r⟩
    · have h0 := dropn hd
      rw [hd, goA] at hg
      rw [← hg]
      repeat' (first|(first|(refine jl ?_;first|refine j1 ?_|refine j4 ?_)|(refine jc ?_;first|refine c1 ?_|refine c2 ?_|refine c6 ?_|refine c7 ?_|refine c8 ?_)|refine n1 ?_|refine n3 ?_|refine n7 ?_|refine n8 ?_|refine n11 ?_)|(refine c9 (fun h=>?_) (fun h=>?_)<;>((try simp only [Bool.or_eq_true, Bool.and_eq_true, Bool.or_eq_false_iff, Bool.and_eq_false_iff, Bool.not_eq_true', Bool.not_eq_false', decide_eq_true_eq, decide_eq_false_iff_not, Bool.false_eq_true, Bool.true_eq_false, reduceCtorEq] at h) <;> (try simp (disch := omega) only [sb_bt, w64, Int.reduceAdd, Int.reduceToNat, Int.toNat_natCast, not_true_eq_false, false_or] at h) <;> (try (exfalso; omega)))))
      exact gvs (fin_two (fin_fz (St.set_same _ _ _) (St.none_le hle hw) (by rw [List.length_map]; rfl) rfl (fun _ => rfl)) (Fin.refl _ _ _)) (St.le_any hle (St.none_le hle hw))
    · obtain ⟨g1, g2, g3⟩ := dropc hd
      obtain ⟨xn, xo, xt⟩ := x
      have h4 := get_map ac g3
      have hlo : (xo.map vc).length = xo.length := List.length_map ..
      have hlt : (xt.map tc).length = xt.length := List.length_map ..
      rw [hd, goA] at hg
      dsimp only at hg
      by_cases hat : attrB xn cl.attrs = true
      · obtain ⟨e1, e2⟩ := attrI_lt hat
        rw [← hc3] at e2
        obtain ⟨v, hv⟩ : ∃ v, vs[(attrN xn cl.attrs).toNat]? = some v := ⟨_, List.getElem?_eq_getElem (by omega)⟩
        have hel : (vs.map vc)[(attrN xn cl.attrs).toNat]? = some (vc v) := by rw [List.getElem?_map, hv]; rfl
        rw [if_pos hat, hv] at hg
        dsimp only at hg
        have k3 := p_attr cl xn
        rw [hat] at k3
        have k4 := p_containsv none false xo v
        repeat' (first|(first|(refine jl ?_;first|refine jbl ?_|refine j1 ?_|refine j4 ?_|refine j13 (fun id hid=>?_)|refine j14 ?_|refine j17t ?_|refine ji1 ?_|refine jp (k3) ?_)|(refine dl ?_;first|refine d7 ?_|refine d11 ?_|refine d1 ?_|refine d4 ?_|refine d9 ?_|refine d16 ?_|refine di3 ?_|refine dpq (hp:=fun hc=>k4) ?_)|(refine jc ?_;first|refine c1 ?_|refine c2 ?_|refine c5 ?_|refine c6 ?_|refine c7 ?_|refine c8 ?_|refine cq ?_)|refine n1 ?_|refine n2 ?_|refine n3 ?_|refine n7 ?_|refine n8 ?_|refine n9 ?_|refine n11 ?_)|(refine c9 (fun h=>?_) (fun h=>?_)<;>((try simp only [Bool.or_eq_true, Bool.and_eq_true, Bool.or_eq_false_iff, Bool.and_eq_false_iff, Bool.not_eq_true', Bool.not_eq_false', decide_eq_true_eq, decide_eq_false_iff_not, Bool.false_eq_true, Bool.true_eq_false, reduceCtorEq] at h) <;> (try simp (disch := omega) only [sb_bt, w64, Int.reduceAdd, Int.reduceToNat, Int.toNat_natCast, not_true_eq_false, false_or] at h) <;> (try (exfalso; omega)))))
        · have ho : ¬ onesB ⟨xn, xo, xt⟩ v = true := by
            rename_i hh
            have := hh.2
            simp only [onesB, Bool.or_eq_true, Bool.not_eq_true', decide_eq_false_iff_not, not_or, Classical.not_not]
            exact ⟨by omega, by rw [this]; simp⟩
          rw [if_neg ho] at hg
          rw [← hg]
          exact gvs (fin_two (.wk (Wk.nil _ _ _ _)) (Fin.refl _ _ _)) (St.le_any (St.le_any hle (St.none_le hle hw)) (St.none_le (St.le_any hle (St.none_le hle hw)) hid))
        · have ho : onesB ⟨xn, xo, xt⟩ v = true := by
            simp only [onesB, Bool.or_eq_true, Bool.not_eq_true', decide_eq_false_iff_not]
            rcases h.2 with hh | hh
            · exact .inl (by omega)
            · exact .inr hh
          rw [if_pos ho] at hg
          first | refine cj_id 15 (fun b15 e => ?_) | refine lj_id 15 (fun b15 e => ?_)
          subst e
          have hwb : w ≠ b15 := fun e => by subst e; rw [St.set_same] at hid; cases hid
          have hb15 : τ b15 = none := by rw [St.set_ne' _ _ _ hwb] at hid; exact hid
          rw [St.swap hwb]
          obtain ⟨τ1, hτ1⟩ : ∃ τ1 : St, τ1 = τ.set b15 (.row 3 91 [ac ⟨xn, xo, xt⟩]) := ⟨_, rfl⟩
          have hle1 : τ.le τ1 := by rw [hτ1]; exact St.le_set _ hb15
          have u5 := hle1 _ _ t5
          have u6 := hle1 _ _ t6
          have u10 := hle1 _ _ t10
          have u15 : τ1 b15 = some (.row 3 91 [ac ⟨xn, xo, xt⟩]) := by rw [hτ1]; exact St.set_same _ _ _
          have hx12 : xt.length ≤ 12 := h2 _ (List.mem_of_getElem? g3)
          refine cj_for (fun s : Nat × Nat × List Bd => s.1 ≤ xt.length ∧ τ1 s.2.1 = none ∧ goT v (xt.drop s.1) s.2.2 = goT v xt now ∧ s.2.2.length ≤ now.length + s.1) (fun s => [(76, .v (.int .i64 s.1)), (12, .osl s.2.1 4 0 s.2.2.length), (13, .v (.bool true))]) (fun s => τ1.set s.2.1 (.row 4 50 (s.2.2.map bc))) (fun s => xt.length - s.1) (0, w, now) ⟨Nat.zero_le _, (by rw [hτ1, St.set_ne _ _ _ hwb]; exact hw), rfl, Nat.le_add_right _ _⟩ ⟨⟨_, rfl, fun _ _ h => h⟩, ⟨_, rfl, fun _ _ h => h⟩, ⟨_, rfl, fun _ _ h => h⟩, trivial⟩ (by rw [hτ1]; exact St.le_refl _) (fun s hs => ?_)
          clear hτ1 k3 k4 h hid
          obtain ⟨k, w1, now1⟩ := s
          obtain ⟨hk, hw1, hg1, hlen1⟩ := hs
          dsimp only at hk hw1 hg1 hlen1 ⊢
          rcases hd1 : xt.drop k with _ | ⟨y, r1⟩
          · have h0 := dropn hd1
            rw [hd1, goT] at hg1
            rw [← hg1] at hg
            repeat' (first|(first|(refine jl ?_;first|refine j1 ?_|refine j4 ?_|refine j6 ?_)|(refine jc ?_;first|refine c1 ?_|refine c2 ?_|refine c8 ?_)|refine n1 ?_|refine n3 ?_|refine n7 ?_|refine n8 ?_|refine n10 ?_)|(refine c9 (fun h=>?_) (fun h=>?_)<;>((try simp only [Bool.or_eq_true, Bool.and_eq_true, Bool.or_eq_false_iff, Bool.and_eq_false_iff, Bool.not_eq_true', Bool.not_eq_false', decide_eq_true_eq, decide_eq_false_iff_not, Bool.false_eq_true, Bool.true_eq_false, reduceCtorEq] at h) <;> (try simp (disch := omega) only [sb_bt, w64, Int.reduceAdd, Int.reduceToNat, Int.toNat_natCast, not_true_eq_false, false_or] at h) <;> (try (exfalso; omega)))))
            exact nx_forS (i + 1, w1, now1) ⟨by dsimp only; omega, St.none_le hle1 hw1, by dsimp only; rw [g2]; exact hg, by dsimp only; omega⟩ (by dsimp only; omega) ⟨⟨_, rfl, wk1 (by omega)⟩, ⟨_, rfl, Wk.refl _⟩, ⟨_, rfl, Wk.refl _⟩, trivial⟩ (St.le_setk (St.le_any hle1 (St.none_le hle1 hw1)) (St.set_same _ _ _))
          · obtain ⟨f1, f2, f3⟩ := dropc hd1
            have h5 := get_map tc f3
            rw [hd1, goT] at hg1
            repeat' (first|(first|(refine jl ?_;first|refine jbl ?_|refine j1 ?_|refine j4 ?_|refine j13 (fun id hid=>?_)|refine j17t ?_|refine ji1 ?_)|(refine al ?_;first|refine abl ?_|refine a1 ?_|refine a14 ?_|refine ai1 ?_)|(refine jc ?_;first|refine c1 ?_|refine c2 ?_|refine c5 ?_|refine c6 ?_|refine cqe 12 false ?_)|refine n1 ?_)|(refine c9 (fun h=>?_) (fun h=>?_)<;>((try simp only [Bool.or_eq_true, Bool.and_eq_true, Bool.or_eq_false_iff, Bool.and_eq_false_iff, Bool.not_eq_true', Bool.not_eq_false', decide_eq_true_eq, decide_eq_false_iff_not, Bool.false_eq_true, Bool.true_eq_false, reduceCtorEq] at h) <;> (try simp (disch := omega) only [sb_bt, w64, Int.reduceAdd, Int.reduceToNat, Int.toNat_natCast, not_true_eq_false, false_or] at h) <;> (try (exfalso; omega)))))
            rename_i b19 hb19
            refine acall (q_single y v now1 lkp (by omega)) (fun r σ' hr => ?_) (by rintro x σ' ⟨_, _, h, _⟩; cases h)
            obtain ⟨x, hx1, hx2, hx3⟩ := hr
            rcases x with _ | w2
            · dsimp only at hx1 hx2 hx3
              cases hx2
              subst hx3
              rw [hx1, if_neg (by simp)] at hg1
              repeat' (first|(first|(refine jl ?_;first|refine j1 ?_|refine j4 ?_|refine j6 ?_)|(refine al ?_;first|refine da_nil ?_|refine a1 ?_)|(refine bl ?_;first|refine b1 ?_|refine db_nil ?_)|refine al_nil ?_|(refine jc ?_;first|refine c1 ?_|refine c2 ?_|refine c6 ?_|refine c7 ?_|refine c8 ?_)|refine n1 ?_|refine n2 ?_|refine n3 ?_|refine n7 ?_|refine n8 ?_|refine n9 ?_|refine n10 ?_|refine n11 ?_)|(refine c9 (fun h=>?_) (fun h=>?_)<;>((try simp only [Bool.or_eq_true, Bool.and_eq_true, Bool.or_eq_false_iff, Bool.and_eq_false_iff, Bool.not_eq_true', Bool.not_eq_false', decide_eq_true_eq, decide_eq_false_iff_not, Bool.false_eq_true, Bool.true_eq_false, reduceCtorEq] at h) <;> (try simp (disch := omega) only [sb_bt, w64, Int.reduceAdd, Int.reduceToNat, Int.toNat_natCast, not_true_eq_false, false_or] at h) <;> (try (exfalso; omega)))))
              · rw [if_neg (by rw [h]; simp)] at hg1
                rw [← hg1] at hg
                rw [← hg]
                have h7 := St.le_trans hle hle1
                have h8 := St.le_any (x := .row 4 50 (now1.map bc)) h7 (St.none_le h7 hw1)
                exact gvs (fin_two (.wk (Wk.nil _ _ _ _)) (Fin.refl _ _ _)) (St.le_any h8 (St.none_le h8 hid))
              · exact absurd h (by rw [‹testB y v now1 = false›]; simp)
              · rw [if_pos h] at hg1
                exact nx_forS (k + 1, w1, now1) ⟨by dsimp only; omega, hw1, by dsimp only; rw [f2]; exact hg1, by dsimp only; omega⟩ (by dsimp only; omega) ⟨⟨_, rfl, wk1 (by omega)⟩, ⟨_, rfl, Wk.refl _⟩, ⟨_, rfl, Wk.of_eq (by rw [h])⟩, trivial⟩ (St.le_any (St.le_refl _) hid)
            · dsimp only at hx1 hx2 hx3
              cases hx2
              subst hx3
              rw [if_pos hx1.1] at hg1
              repeat' (first|(first|(refine jl ?_;first|refine j1 ?_|refine j4 ?_|refine j6 ?_)|(refine al ?_;first|refine da_nil ?_|refine a1 ?_)|(refine bl ?_;first|refine b1 ?_|refine db_nil ?_)|refine al_nil ?_|(refine jc ?_;first|refine c1 ?_|refine c2 ?_|refine c6 ?_)|refine n1 ?_|refine n10 ?_)|(refine c9 (fun h=>?_) (fun h=>?_)<;>((try simp only [Bool.or_eq_true, Bool.and_eq_true, Bool.or_eq_false_iff, Bool.and_eq_false_iff, Bool.not_eq_true', Bool.not_eq_false', decide_eq_true_eq, decide_eq_false_iff_not, Bool.false_eq_true, Bool.true_eq_false, reduceCtorEq] at h) <;> (try simp (disch := omega) only [sb_bt, w64, Int.reduceAdd, Int.reduceToNat, Int.toNat_natCast, not_true_eq_false, false_or] at h) <;> (try (exfalso; omega)))))
              have h7 : τ1 w2 = none := by
                have := hx1.2
                exact St.ns2 this
              refine nx_forS (k + 1, w2, now1 ++ [⟨y.v, v⟩]) ⟨by dsimp only; omega, h7, by dsimp only; rw [f2]; exact hg1, by dsimp only; rw [List.length_append, List.length_singleton]; omega⟩ (by dsimp only; omega) ⟨⟨_, rfl, wk1 (by omega)⟩, ⟨_, rfl, Wk.of_eq (by dsimp only; rw [List.length_append]; rfl)⟩, ⟨_, rfl, Wk.refl _⟩, trivial⟩ ?_
              exact St.le_setk (St.le_any (St.le_del (St.le_any (St.le_any (St.le_refl _) hw1) (St.ns1 hid)) hw1) h7) (St.set_same _ _ _)
      · rw [if_neg hat] at hg
        rw [Bool.not_eq_true] at hat
        have k3 := p_attr cl xn
        rw [hat] at k3
        repeat' (first|(first|(refine jl ?_;first|refine jbl ?_|refine j1 ?_|refine j4 ?_|refine j13 (fun id hid=>?_)|refine j14 ?_|refine j17t ?_|refine ji1 ?_|refine jp (k3) ?_)|(refine dl ?_;first|refine d7 ?_|refine d11 ?_|refine d1 ?_|refine d4 ?_|refine d9 ?_|refine d16 ?_|refine dff ?_)|(refine jc ?_;first|refine c1 ?_|refine c2 ?_|refine c5 ?_|refine c6 ?_|refine c7 ?_|refine c8 ?_|refine cq ?_)|refine n1 ?_|refine n2 ?_|refine n3 ?_|refine n7 ?_|refine n8 ?_|refine n9 ?_|refine n11 ?_)|(refine c9 (fun h=>?_) (fun h=>?_)<;>((try simp only [Bool.or_eq_true, Bool.and_eq_true, Bool.or_eq_false_iff, Bool.and_eq_false_iff, Bool.not_eq_true', Bool.not_eq_false', decide_eq_true_eq, decide_eq_false_iff_not, Bool.false_eq_true, Bool.true_eq_false, reduceCtorEq] at h) <;> (try simp (disch := omega) only [sb_bt, w64, Int.reduceAdd, Int.reduceToNat, Int.toNat_natCast, not_true_eq_false, false_or] at h) <;> (try (exfalso; omega)))))
        · rw [← hg]
          exact gvs (fin_two (.wk (Wk.nil _ _ _ _)) (Fin.refl _ _ _)) (St.le_any (St.le_any hle (St.none_le hle hw)) (St.none_le (St.le_any hle (St.none_le hle hw)) hid))
        · exact h.1.elim
end Go.Proofs.YtddljegbggncdaaDoor.Ab

/- A fact that is as a condition asks, by the document. -/
set_option linter.unusedVariables false
set_option linter.unusedSimpArgs false
set_option maxRecDepth 20000
namespace Go.Proofs.YtddljegbggncdaaDoor.Ab
open Go
attribute [local irreducible] thn inb endR CJ LJ OpJ DJ DA DB AllocK

set_option maxHeartbeats 1000000 in
theorem p_rmatch (nl nl' : Option Bool) (full full' : Bool) (l : List Cls) (c : Cnd) (f : Fc) (bd : List Bd) (hz : ∀ v ∈ f.vals, v.s.size ≤ 60) (h1 : c.attrs.length ≤ 12) (h2 : ∀ a ∈ c.attrs, a.tests.length ≤ 12) (h3 : bd.length ≤ 1000) : Pure Tryd.prog 18 [.sl nl full 2 (l.map cc), .agg (dc c), .agg (fc f), .sl nl' full' 4 (bd.map bc)] (mres (matchF l c f bd)) := by
  refine enterW Tryd.func18 rfl rfl rfl rfl (fun σ => ?_)
  obtain ⟨cg, cn, ats⟩ := c
  obtain ⟨ft, fn, vs⟩ := f
  dsimp only at h1 h2
  have hla : (ats.map ac).length = ats.length := List.length_map ..
  have hlv : (vs.map vc).length = vs.length := List.length_map ..
  have hlb : (bd.map bc).length = bd.length := List.length_map ..
  have k1 := p_rfind nl full l fn
  have k2 := p_rccheck nl full l ⟨ft, fn, vs⟩ hz
  repeat' (first|(first|(refine jl ?_;first|refine j7 ?_|refine j1 ?_|refine j4 ?_|refine j9 ?_|refine j12 (fun id hid=>?_)|refine j13 (fun id hid=>?_)|refine j14 ?_|refine j17t ?_|refine j16 ?_|refine jp (k1) ?_|refine jp (k2) ?_)|(refine jc ?_;first|refine c1 ?_|refine c2 ?_|refine c6 ?_|refine c7 ?_)|refine n1 ?_|refine n2 ?_|refine n11 ?_)|(refine c9 (fun h=>?_) (fun h=>?_)<;>(try simp only [Bool.or_eq_true, Bool.and_eq_true, Bool.or_eq_false_iff, Bool.and_eq_false_iff, Bool.not_eq_true', Bool.not_eq_false', decide_eq_true_eq, decide_eq_false_iff_not, Bool.false_eq_true, Bool.true_eq_false, reduceCtorEq] at h)))
  · rw [matchF, if_neg (by rintro ⟨e1, e2⟩; rcases h with h | h <;> exact h (by assumption))]
    exact gvs (fin_two (.wk (Wk.nil _ _ _ _)) (.wk (Wk.refl _)))
  · obtain ⟨hck, hfc⟩ := h
    obtain ⟨_, cl, hc1, _, hc3, _⟩ := checkF_zero hck
    dsimp only at hc1 hc3
    have hF : matchF l ⟨cg, cn, ats⟩ ⟨ft, fn, vs⟩ bd = goA cl.attrs vs ats bd := by
      rw [matchF, if_pos ⟨hfc, hck⟩]
      show goA ((findC fn l).getD noC).attrs vs ats bd = _
      rw [hc1]; rfl
    rw [hF]
    rw [hc1]
    first | refine cj_id 5 (fun b5 e => ?_) | refine lj_id 5 (fun b5 e => ?_)
    subst e
    first | refine cj_id 6 (fun b6 e => ?_) | refine lj_id 6 (fun b6 e => ?_)
    subst e
    first | refine cj_id 10 (fun b10 e => ?_) | refine lj_id 10 (fun b10 e => ?_)
    subst e
    refine lj_ghost (ghost_nil (t := 38) 4 50 rfl (fun w0 hw0 => ?_))
    refine japo (id := w0) (els := []) (n := 0) (m := bd.length) (news := bd.map bc) (all := bd.map bc) (fun w hw' => ?_) rfl (by omega) (hn := Nat.zero_le _) (hb := by omega)
    rw [St.del_set hw0]
    repeat (first|(refine jl ?_;first|refine j1 ?_|refine j4 ?_)|(refine jc ?_;first|refine c1 ?_|refine c2 ?_|refine c5 ?_))
    have hw0' := St.ns1 hw'
    refine cj_nameS (fun τ hτ => ?_)
    have hwτ : τ w = none := by rw [hτ]; exact hw0'
    have t5 : τ b5 = some (.row 3 25 [dc ⟨cg, cn, ats⟩]) := by rw [hτ]; exact lkp
    have t6 : τ b6 = some (.row 3 28 [fc ⟨ft, fn, vs⟩]) := by rw [hτ]; exact lkp
    have t10 : τ b10 = some (.row 2 95 [cc cl]) := by rw [hτ]; exact lkp
    have hle : σ.le τ := by rw [hτ]; repeat' (first | exact St.le_refl _ | refine St.le_any ?_)
    clear hτ hw0' hw' hw0
    refine cj_for (fun s : Nat × Nat × List Bd => s.1 ≤ ats.length ∧ τ s.2.1 = none ∧ goA cl.attrs vs (ats.drop s.1) s.2.2 = goA cl.attrs vs ats bd ∧ s.2.2.length ≤ bd.length + 12 * s.1) (fun s => [(13, .v (.int .i64 s.1)), (12, .osl s.2.1 4 0 s.2.2.length)]) (fun s => τ.set s.2.1 (.row 4 50 (s.2.2.map bc))) (fun s => ats.length - s.1) (0, w, bd) ⟨Nat.zero_le _, hwτ, rfl, Nat.le_add_right _ _⟩ ⟨⟨_, rfl, fun _ _ h => h⟩, ⟨_, rfl, fun _ _ h => h⟩, trivial⟩ (St.le_refl _) (fun s hs => ?_)
    obtain ⟨i, w, now⟩ := s
    obtain ⟨hi, hw, hg, hlen⟩ := hs
    dsimp only at hi hw hg hlen ⊢
    clear k1 k2
    rcases hd : ats.drop i with _ | ⟨x, r⟩
    · have h0 := dropn hd
      rw [hd, goA] at hg
      rw [← hg]
      repeat' (first|(first|(refine jl ?_;first|refine j1 ?_|refine j4 ?_|refine j14 ?_)|(refine jc ?_;first|refine c1 ?_|refine c2 ?_|refine c7 ?_|refine c8 ?_)|refine n1 ?_|refine n3 ?_|refine n7 ?_|refine n8 ?_|refine n11 ?_)|(refine c9 (fun h=>?_) (fun h=>?_)<;>((try simp only [Bool.or_eq_true, Bool.and_eq_true, Bool.or_eq_false_iff, Bool.and_eq_false_iff, Bool.not_eq_true', Bool.not_eq_false', decide_eq_true_eq, decide_eq_false_iff_not, Bool.false_eq_true, Bool.true_eq_false, reduceCtorEq] at h) <;> (try simp (disch := omega) only [sb_bt, w64, Int.reduceAdd, Int.reduceToNat, Int.toNat_natCast, not_true_eq_false, false_or] at h) <;> (try (exfalso; omega)))))
      exact gvs (fin_two (fin_fz (St.set_same _ _ _) (St.none_le hle hw) (by rw [List.length_map]; rfl) rfl (fun _ => rfl)) (Fin.refl _ _ _)) (St.le_any hle (St.none_le hle hw))
    · obtain ⟨g1, g2, g3⟩ := dropc hd
      obtain ⟨xn, xo, xt⟩ := x
      have h4 := get_map ac g3
      have hlo : (xo.map vc).length = xo.length := List.length_map ..
      have hlt : (xt.map tc).length = xt.length := List.length_map ..
      rw [hd, goA] at hg
      dsimp only at hg
      by_cases hat : attrB xn cl.attrs = true
      · obtain ⟨e1, e2⟩ := attrI_lt hat
        rw [← hc3] at e2
        obtain ⟨v, hv⟩ : ∃ v, vs[(attrN xn cl.attrs).toNat]? = some v := ⟨_, List.getElem?_eq_getElem (by omega)⟩
        have hel : (vs.map vc)[(attrN xn cl.attrs).toNat]? = some (vc v) := by rw [List.getElem?_map, hv]; rfl
        rw [if_pos hat, hv] at hg
        dsimp only at hg
        have k3 := p_rattr cl xn
        rw [hat] at k3
        have k4 := p_one none false xo v
        repeat' (first|(first|(refine jl ?_;first|refine j1 ?_|refine j4 ?_|refine j14 ?_)|(refine dl ?_;first|refine d7 ?_|refine d11 ?_|refine dbl ?_|refine d1 ?_|refine d4 ?_|refine d9 ?_|refine d14 ?_|refine d16 ?_|refine di1 ?_|refine di3 ?_|refine dp (k3) ?_|refine dpq (hp:=fun hc=>k4) ?_)|(refine jc ?_;first|refine c1 ?_|refine c2 ?_|refine c5 ?_|refine c6 ?_|refine c7 ?_|refine cq ?_)|refine n1 ?_|refine n2 ?_|refine n5 ?_|refine n6 ?_|refine n11 ?_)|(refine c9 (fun h=>?_) (fun h=>?_)<;>((try simp only [Bool.or_eq_true, Bool.and_eq_true, Bool.or_eq_false_iff, Bool.and_eq_false_iff, Bool.not_eq_true', Bool.not_eq_false', decide_eq_true_eq, decide_eq_false_iff_not, Bool.false_eq_true, Bool.true_eq_false, reduceCtorEq] at h) <;> (try simp (disch := omega) only [sb_bt, w64, Int.reduceAdd, Int.reduceToNat, Int.toNat_natCast, not_true_eq_false, false_or] at h) <;> (try (exfalso; omega)))))
        · have ho : ¬ onesB ⟨xn, xo, xt⟩ v = true := by
            have := h.2
            simp only [onesB, Bool.or_eq_true, Bool.not_eq_true', decide_eq_false_iff_not, not_or, Classical.not_not]
            exact ⟨by omega, by rw [this]; simp⟩
          rw [if_neg ho] at hg
          rw [← hg]
          exact gvs (fin_two (.wk (Wk.nil _ _ _ _)) (Fin.refl _ _ _)) (St.le_any hle (St.none_le hle hw))
        · have ho : onesB ⟨xn, xo, xt⟩ v = true := by
            simp only [onesB, Bool.or_eq_true, Bool.not_eq_true', decide_eq_false_iff_not]
            rcases h.2 with hh | hh
            · exact .inl (by omega)
            · exact .inr hh
          rw [if_pos ho] at hg
          have hx12 : xt.length ≤ 12 := h2 _ (List.mem_of_getElem? g3)
          refine cj_for (fun s : Nat × Nat × List Bd => s.1 ≤ xt.length ∧ τ s.2.1 = none ∧ goT v (xt.drop s.1) s.2.2 = goT v xt now ∧ s.2.2.length ≤ now.length + s.1) (fun s => [(16, .v (.int .i64 s.1)), (12, .osl s.2.1 4 0 s.2.2.length)]) (fun s => τ.set s.2.1 (.row 4 50 (s.2.2.map bc))) (fun s => xt.length - s.1) (0, w, now) ⟨Nat.zero_le _, hw, rfl, Nat.le_add_right _ _⟩ ⟨⟨_, rfl, fun _ _ h => h⟩, ⟨_, rfl, fun _ _ h => h⟩, trivial⟩ (St.le_refl _) (fun s hs => ?_)
          clear k3 k4 h
          obtain ⟨k, w1, now1⟩ := s
          obtain ⟨hk, hw1, hg1, hlen1⟩ := hs
          dsimp only at hk hw1 hg1 hlen1 ⊢
          rcases hd1 : xt.drop k with _ | ⟨y, r1⟩
          · have h0 := dropn hd1
            rw [hd1, goT] at hg1
            rw [← hg1] at hg
            repeat' (first|(first|(refine jl ?_;first|refine jbl ?_|refine j1 ?_|refine j4 ?_|refine j6 ?_|refine j14 ?_|refine ji1 ?_)|(refine jc ?_;first|refine c1 ?_|refine c2 ?_|refine c8 ?_)|refine n1 ?_|refine n3 ?_|refine n7 ?_|refine n8 ?_|refine n10 ?_)|(refine c9 (fun h=>?_) (fun h=>?_)<;>((try simp only [Bool.or_eq_true, Bool.and_eq_true, Bool.or_eq_false_iff, Bool.and_eq_false_iff, Bool.not_eq_true', Bool.not_eq_false', decide_eq_true_eq, decide_eq_false_iff_not, Bool.false_eq_true, Bool.true_eq_false, reduceCtorEq] at h) <;> (try simp (disch := omega) only [sb_bt, w64, Int.reduceAdd, Int.reduceToNat, Int.toNat_natCast, not_true_eq_false, false_or] at h) <;> (try (exfalso; omega)))))
            exact nx_forS (i + 1, w1, now1) ⟨by dsimp only; omega, hw1, by dsimp only; rw [g2]; exact hg, by dsimp only; omega⟩ (by dsimp only; omega) ⟨⟨_, rfl, wk1 (by omega)⟩, ⟨_, rfl, Wk.refl _⟩, trivial⟩ (St.le_refl _)
          · obtain ⟨f1, f2, f3⟩ := dropc hd1
            have h5 := get_map tc f3
            have hgn : ¬ bindsB y now1 = true → testB y v now1 = true → goT v r1 now1 = goT v xt now := fun e1 e2 => by rw [← hg1, hd1, goT, if_neg e1, if_pos e2]
            have hgx : ¬ bindsB y now1 = true → ¬ testB y v now1 = true → goA cl.attrs vs ats bd = none := fun e1 e2 => by rw [← hg, ← hg1, hd1, goT, if_neg e1, if_neg e2]; rfl
            have hgb : bindsB y now1 = true → goT v r1 (now1 ++ [⟨y.v, v⟩]) = goT v xt now := fun e1 => by rw [← hg1, hd1, goT, if_pos e1]
            clear hg1
            have hle1 : ∀ {b1 b2 : Nat} {o1 o2 : AObj}, (τ.set w1 (.row 4 50 (now1.map bc))) b1 = none → ((τ.set w1 (.row 4 50 (now1.map bc))).set b1 o1) b2 = none → σ.le (((τ.set w1 (.row 4 50 (now1.map bc))).set b1 o1).set b2 o2) := fun {b1 b2 o1 o2} h1 h2 => by
              have e1 := St.le_any (x := .row 4 50 (now1.map bc)) hle (St.none_le hle hw1)
              have e2 := St.le_any (x := o1) e1 (St.none_le e1 h1)
              exact St.le_any e2 (St.none_le e2 h2)
            obtain ⟨yp, yv, yl⟩ := y
            by_cases ht : yv = noS
            · have hb : ¬ bindsB ⟨yp, yv, yl⟩ now1 = true := by simp [bindsB, ht]
              have hgn := hgn hb
              have hgx := hgx hb
              rw [testB, if_pos ht] at hgn hgx
              clear hgb hb
              subst ht
              repeat' (first|(first|(refine jl ?_;first|refine j8 ?_|refine jbl ?_|refine j1 ?_|refine j4 ?_|refine j6 ?_|refine j9 ?_|refine j13 (fun id hid=>?_)|refine j14 ?_|refine j17t ?_|refine j16 ?_|refine ji1 ?_)|(refine dl ?_;first|refine d7 ?_|refine dbd ?_|refine dbl ?_|refine d1 ?_|refine d4 ?_|refine d9 ?_|refine d14 ?_|refine d16 ?_|refine di1 ?_|refine di3 ?_|refine dpq (hp:=fun hc=>p_rholds _ _ _ _ _ _ _) ?_)|(refine jc ?_;first|refine c1 ?_|refine c2 ?_|refine c5 ?_|refine c6 ?_|refine c7 ?_|refine cq ?_)|refine n1 ?_|refine n2 ?_|refine n5 ?_|refine n6 ?_|refine n10 ?_|refine n11 ?_)|(refine c9 (fun h=>?_) (fun h=>?_)<;>((try simp only [Bool.or_eq_true, Bool.and_eq_true, Bool.or_eq_false_iff, Bool.and_eq_false_iff, Bool.not_eq_true', Bool.not_eq_false', decide_eq_true_eq, decide_eq_false_iff_not, Bool.false_eq_true, Bool.true_eq_false, reduceCtorEq] at h) <;> (try simp (disch := omega) only [sb_bt, w64, Int.reduceAdd, Int.reduceToNat, Int.toNat_natCast, not_true_eq_false, false_or] at h) <;> (try (exfalso; omega)))))
              · exact absurd rfl h
              · exact h.1.elim
              · rw [hgx (by rw [h]; simp)]
                exact gvs (fin_two (.wk (Wk.nil _ _ _ _)) (Fin.refl _ _ _)) (hle1 (by assumption) (by assumption))
              · exact nx_forS (k + 1, w1, now1) ⟨by dsimp only; omega, hw1, by dsimp only; rw [f2]; exact hgn h.2, by dsimp only; omega⟩ (by dsimp only; omega) ⟨⟨_, rfl, wk1 (by omega)⟩, ⟨_, rfl, Wk.refl _⟩, trivial⟩ (St.le_any (St.le_any (St.le_refl _)))
            · have kq : ∀ {σ' : St}, σ' w1 = some (.row 4 50 (now1.map bc)) → ACalls Tryd.prog 20 [.osl w1 4 0 now1.length, .v (.string yv)] σ' (fun e σ2 => e = .ret (.tup [.agg (vc (lookV yv now1)), .v (.bool (lookB yv now1))]) ∧ σ2 = σ') := fun h => q_rlookup yv h
              by_cases hb : bindsB ⟨yp, yv, yl⟩ now1 = true
              · have hgb := hgb hb
                clear hgn hgx
                simp only [bindsB, Bool.and_eq_true, Bool.not_eq_true', decide_eq_true_eq, decide_eq_false_iff_not] at hb
                obtain ⟨_, hb1, hb2⟩ := hb
                subst hb2
                rw [hb1] at kq
                repeat' (first|(first|(refine jl ?_;first|refine j8 ?_|refine jbl ?_|refine j1 ?_|refine j4 ?_|refine j9 ?_|refine j13 (fun id hid=>?_)|refine j14 ?_|refine j17t ?_|refine j16 ?_|refine ji1 ?_|refine lj_to rfl rfl rfl (kq lkp) ?_)|(refine al ?_;first|refine da_nil ?_|refine abd ?_|refine abl ?_|refine a1 ?_|refine a9 ?_|refine a14 ?_|refine ai1 ?_|refine alit ?_)|refine al_nil ?_|(refine jc ?_;first|refine c1 ?_|refine c2 ?_|refine c5 ?_|refine c6 ?_|refine cqe 10 false ?_)|refine n1 ?_)|(refine c9 (fun h=>?_) (fun h=>?_)<;>((try simp only [Bool.or_eq_true, Bool.and_eq_true, Bool.or_eq_false_iff, Bool.and_eq_false_iff, Bool.not_eq_true', Bool.not_eq_false', decide_eq_true_eq, decide_eq_false_iff_not, Bool.false_eq_true, Bool.true_eq_false, reduceCtorEq] at h) <;> (try simp (disch := omega) only [sb_bt, w64, Int.reduceAdd, Int.reduceToNat, Int.toNat_natCast, not_true_eq_false, false_or] at h) <;> (try (exfalso; omega)))))
                · have hn1 : (now1.map bc).length = now1.length := List.length_map ..
                  have hall : (now1.map bc).take now1.length ++ [bc ⟨yv, v⟩] = (now1 ++ [(⟨yv, v⟩ : Bd)]).map bc := by rw [List.take_of_length_le (by omega), List.map_append]; rfl
                  refine bapo (n := now1.length) (m := now1.length + 1) (news := [bc ⟨yv, v⟩]) (fun w2 hw2 => ?_) hall rfl (hn := by omega) (hb := by dsimp only [List.length]; omega)
                  repeat (first|(refine jl ?_;first|refine j1 ?_|refine j6 ?_)|(refine bl ?_;first|refine b1 ?_|refine db_nil ?_)|(refine jc ?_;first|refine c2 ?_)|refine n1 ?_|refine n10 ?_)
                  refine nx_forS (k + 1, w2, now1 ++ [⟨yv, v⟩]) ⟨by dsimp only; omega, St.ns3 hw2, by dsimp only; rw [f2]; exact hgb, by dsimp only; rw [List.length_append, List.length_singleton]; omega⟩ (by dsimp only; omega) ⟨⟨_, rfl, wk1 (by omega)⟩, ⟨_, rfl, Wk.of_eq (by dsimp only; rw [List.length_append]; rfl)⟩, trivial⟩ ?_
                  exact St.le_setk (St.le_any (St.le_del (St.le_any (St.le_any (St.le_any (St.le_refl _) hw1))) hw1) (St.ns3 hw2)) (St.set_same _ _ _)
                · exact absurd ‹yv = { data := #[] }› ht
                · exact absurd ‹yv = { data := #[] }› ht
              · have hgn := hgn hb
                have hgx := hgx hb
                rw [testB, if_neg ht] at hgn hgx
                clear hgb
                repeat' (first|(first|(refine jl ?_;first|refine j8 ?_|refine jbl ?_|refine j1 ?_|refine j4 ?_|refine j6 ?_|refine j9 ?_|refine j13 (fun id hid=>?_)|refine j14 ?_|refine j17t ?_|refine j16 ?_|refine ji1 ?_|refine lj_to rfl rfl rfl (kq lkp) ?_)|(refine dl ?_;first|refine d7 ?_|refine dbd ?_|refine dbl ?_|refine d1 ?_|refine d4 ?_|refine d9 ?_|refine d14 ?_|refine d16 ?_|refine di1 ?_|refine di3 ?_|refine dpq (hp:=fun hc=>p_rholds _ _ _ _ _ _ _) ?_)|(refine jc ?_;first|refine c1 ?_|refine c2 ?_|refine c5 ?_|refine c6 ?_|refine c7 ?_|refine cq ?_)|refine n1 ?_|refine n2 ?_|refine n5 ?_|refine n6 ?_|refine n10 ?_|refine n11 ?_)|(refine c9 (fun h=>?_) (fun h=>?_)<;>((try simp only [Bool.or_eq_true, Bool.and_eq_true, Bool.or_eq_false_iff, Bool.and_eq_false_iff, Bool.not_eq_true', Bool.not_eq_false', decide_eq_true_eq, decide_eq_false_iff_not, Bool.false_eq_true, Bool.true_eq_false, reduceCtorEq] at h) <;> (try simp (disch := omega) only [sb_bt, w64, Int.reduceAdd, Int.reduceToNat, Int.toNat_natCast, not_true_eq_false, false_or] at h) <;> (try (exfalso; omega)))))
                · exact absurd (by simp [bindsB, h.1, h.2]; exact ht) hb
                · rw [hgx (by rcases h with h | h <;> simp [h])]
                  exact gvs (fin_two (.wk (Wk.nil _ _ _ _)) (Fin.refl _ _ _)) (hle1 (by assumption) (by assumption))
                · exact nx_forS (k + 1, w1, now1) ⟨by dsimp only; omega, hw1, by dsimp only; rw [f2]; exact hgn (by simp [h.1, h.2]), by dsimp only; omega⟩ (by dsimp only; omega) ⟨⟨_, rfl, wk1 (by omega)⟩, ⟨_, rfl, Wk.refl _⟩, trivial⟩ (St.le_any (St.le_any (St.le_refl _)))
                · exact h.1.elim
                · exact absurd ‹yv = { data := #[] }› ht
                · exact absurd ‹yv = { data := #[] }› ht
      · rw [if_neg hat] at hg
        rw [Bool.not_eq_true] at hat
        have k3 := p_rattr cl xn
        rw [hat] at k3
        repeat' (first|(first|(refine jl ?_;first|refine j1 ?_|refine j4 ?_|refine j14 ?_)|(refine dl ?_;first|refine d7 ?_|refine d11 ?_|refine dbl ?_|refine d1 ?_|refine d4 ?_|refine d9 ?_|refine d14 ?_|refine d16 ?_|refine di1 ?_|refine di3 ?_|refine dp (k3) ?_|refine dff ?_)|(refine jc ?_;first|refine c1 ?_|refine c2 ?_|refine c5 ?_|refine c6 ?_|refine c7 ?_|refine cq ?_)|refine n1 ?_|refine n2 ?_|refine n5 ?_|refine n6 ?_|refine n11 ?_)|(refine c9 (fun h=>?_) (fun h=>?_)<;>((try simp only [Bool.or_eq_true, Bool.and_eq_true, Bool.or_eq_false_iff, Bool.and_eq_false_iff, Bool.not_eq_true', Bool.not_eq_false', decide_eq_true_eq, decide_eq_false_iff_not, Bool.false_eq_true, Bool.true_eq_false, reduceCtorEq] at h) <;> (try simp (disch := omega) only [sb_bt, w64, Int.reduceAdd, Int.reduceToNat, Int.toNat_natCast, not_true_eq_false, false_or] at h) <;> (try (exfalso; omega)))))
        · rw [← hg]
          exact gvs (fin_two (.wk (Wk.nil _ _ _ _)) (Fin.refl _ _ _)) (St.le_any hle (St.none_le hle hw))
        · exact h.1.elim
end Go.Proofs.YtddljegbggncdaaDoor.Ab

/- Whether a fact passes; a condition is itself. -/
set_option linter.unusedVariables false
set_option linter.unusedSimpArgs false
set_option maxRecDepth 20000
namespace Go.Proofs.YtddljegbggncdaaDoor.Ab
open Go
attribute [local irreducible] thn inb endR CJ LJ OpJ DJ DA DB AllocK

def passF (l : List Cls) (c : Cnd) (f : Fc) : Bool := (matchF l (constsC c) f []).isSome
theorem consA_len : ∀ (l : List Atr), (consA l).length ≤ l.length
  | [] => Nat.le_refl _
  | a :: r => by
    have := consA_len r
    unfold consA
    split
    · simpa using this
    · exact Nat.le_succ_of_le this
theorem consA_mem : ∀ {l : List Atr} {a : Atr}, a ∈ consA l → ∃ b ∈ l, a = ⟨b.attr, b.ones, b.tests.filter keepT⟩
  | [], a, h => by cases h
  | b :: r, a, h => by
    unfold consA at h
    split at h
    · rcases List.mem_cons.1 h with rfl | h
      · exact ⟨b, .head _, rfl⟩
      · obtain ⟨x, hx, e⟩ := consA_mem h
        exact ⟨x, .tail _ hx, e⟩
    · obtain ⟨x, hx, e⟩ := consA_mem h
      exact ⟨x, .tail _ hx, e⟩
theorem litC.consts {c : Cnd} (h : litC c) : litC (constsC c) := by
  refine ⟨Nat.le_trans (consA_len _) h.1, fun a ha => ?_⟩
  obtain ⟨b, hb, rfl⟩ := consA_mem ha
  exact ⟨(h.2 b hb).1, Nat.le_trans (List.length_filter_le _ _) (h.2 b hb).2⟩
theorem p_passes (nl : Option Bool) (full : Bool) (l : List Cls) (c : Cnd) (f : Fc) (h : litC c) : Pure Tryd.prog 28 [.sl nl full 2 (l.map cc), .agg (dc c), .agg (fc f)] (.v (.bool (passF l c f))) := by
  refine enterW Tryd.func28 rfl rfl rfl rfl (fun σ => ?_)
  have k1 := p_consts c h
  have k2 : Pure Tryd.prog 17 [.sl nl full 2 (l.map cc), .agg (dc (constsC c)), .agg (fc f), .sl (some true) true 1 []] (mres (matchF l (constsC c) f [])) := (p_match nl none full false l (constsC c) f [] h.consts.1 (fun a ha => (h.consts.2 a ha).2) (by simp)).wka ⟨Wk.refl _, Wk.refl _, Wk.refl _, Wk.nil _ _ _ _, trivial⟩
  repeat (first|(refine jl ?_;first|refine j1 ?_|refine j4 ?_|refine j12 (fun id hid=>?_))|(refine dl ?_;first|refine d1 ?_|refine d4 ?_|refine d14 ?_|refine dp (k1) ?_|refine dp (k2) ?_)|(refine jc ?_;first|refine c1 ?_|refine c2 ?_|refine c7 ?_|refine cq ?_)|refine n1 ?_|refine n11 ?_)
  exact ge rfl
theorem p_rpasses (nl : Option Bool) (full : Bool) (l : List Cls) (c : Cnd) (f : Fc) (h : litC c) (hz : ∀ v ∈ f.vals, v.s.size ≤ 60) : Pure Tryd.prog 29 [.sl nl full 2 (l.map cc), .agg (dc c), .agg (fc f)] (.v (.bool (passF l c f))) := by
  refine enterW Tryd.func29 rfl rfl rfl rfl (fun σ => ?_)
  have k1 := p_rconsts c h
  have k2 : Pure Tryd.prog 18 [.sl nl full 2 (l.map cc), .agg (dc (constsC c)), .agg (fc f), .sl (some true) true 1 []] (mres (matchF l (constsC c) f [])) := (p_rmatch nl none full false l (constsC c) f [] hz h.consts.1 (fun a ha => (h.consts.2 a ha).2) (by simp)).wka ⟨Wk.refl _, Wk.refl _, Wk.refl _, Wk.nil _ _ _ _, trivial⟩
  repeat (first|(refine jl ?_;first|refine j1 ?_|refine j4 ?_|refine j12 (fun id hid=>?_))|(refine dl ?_;first|refine d1 ?_|refine d4 ?_|refine d14 ?_|refine dp (k1) ?_|refine dp (k2) ?_)|(refine jc ?_;first|refine c1 ?_|refine c2 ?_|refine c7 ?_|refine cq ?_)|refine n1 ?_|refine n11 ?_)
  exact ge rfl
theorem p_sameattr (a : Atr) : Pure Tryd.prog 68 [.agg (ac a), .agg (ac a)] (.v (.bool true)) := by
  refine enterW Tryd.func68 rfl rfl rfl rfl (fun σ => ?_)
  obtain ⟨xn, xo, xt⟩ := a
  have hlt : (xt.map tc).length = xt.length := List.length_map ..
  have hlo : (xo.map vc).length = xo.length := List.length_map ..
  refine cj_lenA 0 1 (fun hm : (xo.map vc).length ≤ _ => ?_)
  refine cj_lenA 0 2 (fun hm2 : (xt.map tc).length ≤ _ => ?_)
  repeat' (first|(first|(refine jl ?_;first|refine j7 ?_|refine j1 ?_|refine j4 ?_|refine j9 ?_|refine j12 (fun id hid=>?_)|refine j14 ?_|refine j16 ?_)|(refine jc ?_;first|refine c1 ?_|refine c2 ?_|refine c5 ?_|refine c6 ?_)|refine n1 ?_)|(refine c9 (fun h=>?_) (fun h=>?_)<;>((try simp only [Bool.or_eq_true, Bool.and_eq_true, Bool.or_eq_false_iff, Bool.and_eq_false_iff, Bool.not_eq_true', Bool.not_eq_false', decide_eq_true_eq, decide_eq_false_iff_not, Bool.false_eq_true, Bool.true_eq_false, reduceCtorEq] at h) <;> (try simp (disch := omega) only [sb_bt, w64, Int.reduceAdd, Int.reduceToNat, Int.toNat_natCast, not_true_eq_false, false_or] at h) <;> (try (exfalso; omega)))))
  refine cj_fors (fun i : Nat => True) (fun i => [(5, .v (.int .i64 i))]) (fun i => xo.length - i) 0 trivial ⟨⟨_, rfl, fun _ _ h => h⟩, trivial⟩ (fun i hi => ?_)
  rcases hd : xo.drop i with _ | ⟨x, r⟩
  · have h0 := dropn hd
    repeat' (first|(first|(refine jl ?_;first|refine j1 ?_|refine j4 ?_|refine j14 ?_)|(refine jc ?_;first|refine c1 ?_|refine c2 ?_|refine c5 ?_|refine c8 ?_)|refine n1 ?_|refine n3 ?_|refine n7 ?_|refine n8 ?_)|(refine c9 (fun h=>?_) (fun h=>?_)<;>((try simp only [Bool.or_eq_true, Bool.and_eq_true, Bool.or_eq_false_iff, Bool.and_eq_false_iff, Bool.not_eq_true', Bool.not_eq_false', decide_eq_true_eq, decide_eq_false_iff_not, Bool.false_eq_true, Bool.true_eq_false, reduceCtorEq] at h) <;> (try simp (disch := omega) only [sb_bt, w64, Int.reduceAdd, Int.reduceToNat, Int.toNat_natCast, not_true_eq_false, false_or] at h) <;> (try (exfalso; omega)))))
    refine cj_fors (fun i : Nat => True) (fun i => [(6, .v (.int .i64 i))]) (fun i => xt.length - i) 0 trivial ⟨⟨_, rfl, fun _ _ h => h⟩, trivial⟩ (fun i hi => ?_)
    rcases hd : xt.drop i with _ | ⟨x, r⟩
    · have h0 := dropn hd
      repeat' (first|(first|(refine jl ?_;first|refine j1 ?_|refine j4 ?_|refine j14 ?_)|(refine jc ?_;first|refine c1 ?_|refine c2 ?_|refine c7 ?_|refine c8 ?_)|refine n1 ?_|refine n3 ?_|refine n7 ?_|refine n8 ?_|refine n11 ?_)|(refine c9 (fun h=>?_) (fun h=>?_)<;>((try simp only [Bool.or_eq_true, Bool.and_eq_true, Bool.or_eq_false_iff, Bool.and_eq_false_iff, Bool.not_eq_true', Bool.not_eq_false', decide_eq_true_eq, decide_eq_false_iff_not, Bool.false_eq_true, Bool.true_eq_false, reduceCtorEq] at h) <;> (try simp (disch := omega) only [sb_bt, w64, Int.reduceAdd, Int.reduceToNat, Int.toNat_natCast, not_true_eq_false, false_or] at h) <;> (try (exfalso; omega)))))
      exact ge rfl
    · obtain ⟨g1, g2, g3⟩ := dropc hd
      have h4 := get_map tc g3
      repeat' (first|(first|(refine jl ?_;first|refine j1 ?_|refine j4 ?_|refine j6 ?_|refine j14 ?_)|(refine dl ?_;first|refine dbl ?_|refine d1 ?_|refine d4 ?_|refine d14 ?_|refine dne ?_|refine di1 ?_)|(refine jc ?_;first|refine c1 ?_|refine c2 ?_|refine c5 ?_|refine c6 ?_|refine cq ?_)|refine n1 ?_|refine n10 ?_)|(refine c9 (fun h=>?_) (fun h=>?_)<;>((try simp only [Bool.or_eq_true, Bool.and_eq_true, Bool.or_eq_false_iff, Bool.and_eq_false_iff, Bool.not_eq_true', Bool.not_eq_false', decide_eq_true_eq, decide_eq_false_iff_not, Bool.false_eq_true, Bool.true_eq_false, reduceCtorEq] at h) <;> (try simp (disch := omega) only [sb_bt, w64, Int.reduceAdd, Int.reduceToNat, Int.toNat_natCast, not_true_eq_false, false_or] at h) <;> (try (exfalso; omega)))))
      exact nx_for (i + 1) trivial (by omega) ⟨⟨_, rfl, wk1 (by omega)⟩, trivial⟩
  · obtain ⟨g1, g2, g3⟩ := dropc hd
    have h4 := get_map vc g3
    repeat' (first|(first|(refine jl ?_;first|refine j1 ?_|refine j4 ?_|refine j6 ?_|refine j14 ?_)|(refine dl ?_;first|refine dbl ?_|refine d1 ?_|refine d4 ?_|refine d14 ?_|refine dne ?_|refine di1 ?_)|(refine jc ?_;first|refine c1 ?_|refine c2 ?_|refine c5 ?_|refine c6 ?_|refine cq ?_)|refine n1 ?_|refine n10 ?_)|(refine c9 (fun h=>?_) (fun h=>?_)<;>((try simp only [Bool.or_eq_true, Bool.and_eq_true, Bool.or_eq_false_iff, Bool.and_eq_false_iff, Bool.not_eq_true', Bool.not_eq_false', decide_eq_true_eq, decide_eq_false_iff_not, Bool.false_eq_true, Bool.true_eq_false, reduceCtorEq] at h) <;> (try simp (disch := omega) only [sb_bt, w64, Int.reduceAdd, Int.reduceToNat, Int.toNat_natCast, not_true_eq_false, false_or] at h) <;> (try (exfalso; omega)))))
    exact nx_for (i + 1) trivial (by omega) ⟨⟨_, rfl, wk1 (by omega)⟩, trivial⟩
theorem p_samecond (c : Cnd) : Pure Tryd.prog 25 [.agg (dc c), .agg (dc c)] (.v (.bool true)) := by
  refine enterW Tryd.func25 rfl rfl rfl rfl (fun σ => ?_)
  obtain ⟨cg, cn, ats⟩ := c
  have hla : (ats.map ac).length = ats.length := List.length_map ..
  refine cj_lenA 0 2 (fun hm : (ats.map ac).length ≤ _ => ?_)
  repeat' (first|(first|(refine jl ?_;first|refine j7 ?_|refine j1 ?_|refine j4 ?_|refine j9 ?_|refine j12 (fun id hid=>?_)|refine j14 ?_|refine j16 ?_)|(refine jc ?_;first|refine c1 ?_|refine c2 ?_|refine c5 ?_|refine c6 ?_|refine c7 ?_)|refine n1 ?_|refine n2 ?_|refine n11 ?_)|(refine c9 (fun h=>?_) (fun h=>?_)<;>((try simp only [Bool.or_eq_true, Bool.and_eq_true, Bool.or_eq_false_iff, Bool.and_eq_false_iff, Bool.not_eq_true', Bool.not_eq_false', decide_eq_true_eq, decide_eq_false_iff_not, Bool.false_eq_true, Bool.true_eq_false, reduceCtorEq] at h) <;> (try simp (disch := omega) only [sb_bt, w64, Int.reduceAdd, Int.reduceToNat, Int.toNat_natCast, not_true_eq_false, false_or] at h) <;> (try (exfalso; omega)))))
  · simp at h
  refine cj_fors (fun i : Nat => True) (fun i => [(5, .v (.int .i64 i))]) (fun i => ats.length - i) 0 trivial ⟨⟨_, rfl, fun _ _ h => h⟩, trivial⟩ (fun i hi => ?_)
  rcases hd : ats.drop i with _ | ⟨x, r⟩
  · have h0 := dropn hd
    repeat' (first|(first|(refine jl ?_;first|refine j1 ?_|refine j4 ?_|refine j14 ?_)|(refine jc ?_;first|refine c1 ?_|refine c2 ?_|refine c7 ?_|refine c8 ?_)|refine n1 ?_|refine n3 ?_|refine n7 ?_|refine n8 ?_|refine n11 ?_)|(refine c9 (fun h=>?_) (fun h=>?_)<;>((try simp only [Bool.or_eq_true, Bool.and_eq_true, Bool.or_eq_false_iff, Bool.and_eq_false_iff, Bool.not_eq_true', Bool.not_eq_false', decide_eq_true_eq, decide_eq_false_iff_not, Bool.false_eq_true, Bool.true_eq_false, reduceCtorEq] at h) <;> (try simp (disch := omega) only [sb_bt, w64, Int.reduceAdd, Int.reduceToNat, Int.toNat_natCast, not_true_eq_false, false_or] at h) <;> (try (exfalso; omega)))))
    exact ge rfl
  · obtain ⟨g1, g2, g3⟩ := dropc hd
    have h4 := get_map ac g3
    have k1 := p_sameattr x
    repeat' (first|(first|(refine jl ?_;first|refine j1 ?_|refine j4 ?_|refine j6 ?_|refine j14 ?_)|(refine dl ?_;first|refine dbl ?_|refine d1 ?_|refine d4 ?_|refine d14 ?_|refine di1 ?_|refine dp (k1) ?_)|(refine jc ?_;first|refine c1 ?_|refine c2 ?_|refine c5 ?_|refine c6 ?_|refine cq ?_)|refine n1 ?_|refine n10 ?_)|(refine c9 (fun h=>?_) (fun h=>?_)<;>((try simp only [Bool.or_eq_true, Bool.and_eq_true, Bool.or_eq_false_iff, Bool.and_eq_false_iff, Bool.not_eq_true', Bool.not_eq_false', decide_eq_true_eq, decide_eq_false_iff_not, Bool.false_eq_true, Bool.true_eq_false, reduceCtorEq] at h) <;> (try simp (disch := omega) only [sb_bt, w64, Int.reduceAdd, Int.reduceToNat, Int.toNat_natCast, not_true_eq_false, false_or] at h) <;> (try (exfalso; omega)))))
    exact nx_for (i + 1) trivial (by omega) ⟨⟨_, rfl, wk1 (by omega)⟩, trivial⟩
end Go.Proofs.YtddljegbggncdaaDoor.Ab

/- One of some strings. -/
set_option linter.unusedVariables false
set_option linter.unusedSimpArgs false
set_option maxRecDepth 20000
namespace Go.Proofs.YtddljegbggncdaaDoor.Ab
open Go
attribute [local irreducible] thn inb endR CJ LJ OpJ DJ DA DB AllocK

theorem p_containss (nl : Option Bool) (full : Bool) (l : List ByteArray) (nm : ByteArray) : Pure Tryd.prog 66 [.sl nl full 1 (l.map str1), .v (.string nm)] (.v (.bool (l.any (isS nm)))) := by
  refine enterW Tryd.func66 rfl rfl rfl rfl (fun σ => ?_)
  repeat (first|(refine jl ?_;first|refine j1 ?_|refine j4 ?_|refine jp (p_indexs _ _ _ _) ?_)|(refine jc ?_;first|refine c1 ?_|refine c2 ?_|refine c7 ?_)|refine n11 ?_)
  rw [← idxG_any]
  exact ge rfl
theorem p_in17 (nl : Option Bool) (full : Bool) (l : List ByteArray) (nm : ByteArray) : Pure Tryd.prog 67 [.sl nl full 1 (l.map str1), .v (.string nm)] (.v (.bool (l.any (isS nm)))) := by
  refine enterW Tryd.func67 rfl rfl rfl rfl (fun σ => ?_)
  refine cj_len 0 (fun hm => ?_)
  have hn : (l.map str1).length = l.length := List.length_map ..
  repeat (first|(refine jl ?_;first|refine j1 ?_|refine j4 ?_)|(refine jc ?_;first|refine c1 ?_|refine c2 ?_|refine c5 ?_))
  refine cj_fors (fun i : Nat => (l.drop i).any (isS nm) = l.any (isS nm)) (fun i => [(5, .v (.int .i64 i))]) (fun i => l.length - i) 0 rfl ⟨⟨_, rfl, fun _ _ h => h⟩, trivial⟩ (fun i hi => ?_)
  rcases hd : l.drop i with _ | ⟨x, r⟩
  · have h0 := dropn hd
    repeat' (first|(first|(refine jl ?_;first|refine j1 ?_|refine j4 ?_)|(refine jc ?_;first|refine c1 ?_|refine c2 ?_|refine c7 ?_|refine c8 ?_)|refine n1 ?_|refine n3 ?_|refine n7 ?_|refine n8 ?_|refine n11 ?_)|(refine c9 (fun h=>?_) (fun h=>?_)<;>((try simp only [Bool.or_eq_true, Bool.and_eq_true, Bool.or_eq_false_iff, Bool.and_eq_false_iff, Bool.not_eq_true', Bool.not_eq_false', decide_eq_true_eq, decide_eq_false_iff_not, Bool.false_eq_true, Bool.true_eq_false, reduceCtorEq] at h) <;> (try simp (disch := omega) only [sb_bt, w64, Int.reduceAdd, Int.reduceToNat, Int.toNat_natCast, not_true_eq_false, false_or] at h) <;> (try (exfalso; omega)))))
    rw [← hi, hd]
    exact ge rfl
  · obtain ⟨h1, h2, h3⟩ := dropc hd
    have h4 := get_map str1 h3
    rw [hd, List.any_cons] at hi
    repeat' (first|(first|(refine jl ?_;first|refine jbl ?_|refine j1 ?_|refine j4 ?_|refine j6 ?_|refine ji1 ?_)|(refine jc ?_;first|refine c1 ?_|refine c2 ?_|refine c5 ?_|refine c6 ?_|refine c7 ?_)|refine n1 ?_|refine n2 ?_|refine n5 ?_|refine n6 ?_|refine n10 ?_|refine n11 ?_)|(refine c9 (fun h=>?_) (fun h=>?_)<;>((try simp only [Bool.or_eq_true, Bool.and_eq_true, Bool.or_eq_false_iff, Bool.and_eq_false_iff, Bool.not_eq_true', Bool.not_eq_false', decide_eq_true_eq, decide_eq_false_iff_not, Bool.false_eq_true, Bool.true_eq_false, reduceCtorEq] at h) <;> (try simp (disch := omega) only [sb_bt, w64, Int.reduceAdd, Int.reduceToNat, Int.toNat_natCast, not_true_eq_false, false_or] at h) <;> (try (exfalso; omega)))))
    · rw [← hi, show isS nm x = true by rw [isS]; exact decide_eq_true h]
      exact ge rfl
    · rw [show isS nm x = false by rw [isS]; exact decide_eq_false h, Bool.false_or] at hi
      exact nx_for (i + 1) (by rw [h2, ← hi]) (by omega) ⟨⟨_, rfl, wk1 (by omega)⟩, trivial⟩
end Go.Proofs.YtddljegbggncdaaDoor.Ab

/- A condition's variables. -/
set_option linter.unusedVariables false
set_option linter.unusedSimpArgs false
set_option maxRecDepth 20000
namespace Go.Proofs.YtddljegbggncdaaDoor.Ab
open Go
attribute [local irreducible] thn inb endR CJ LJ OpJ DJ DA DB AllocK

def varC (v : ByteArray) (out : List ByteArray) : Bool := !decide (v = noS) && !out.any (isS v)
def varT : List Tst → List ByteArray → List ByteArray
  | [], out => out
  | t :: r, out => varT r (if varC t.v out = true then out ++ [t.v] else out)
def varA : List Atr → List ByteArray → List ByteArray
  | [], out => out
  | a :: r, out => varA r (varT a.tests out)
theorem q_containss {σ : St} {w : Nat} {l : List ByteArray} (nm : ByteArray) (hw : σ w = some (.row 1 9 (l.map str1))) : ACalls Tryd.prog 66 [.osl w 1 0 l.length, .v (.string nm)] σ (fun e σ' => e = .ret (.v (.bool (l.any (isS nm)))) ∧ σ' = σ) :=
  (p_containss none false l nm).lend (indep_v _) ⟨fin_fz hw rfl (by rw [List.length_map]) rfl (fun _ => rfl), Fin.refl _ _ _, trivial⟩
theorem q_in17 {σ : St} {w : Nat} {l : List ByteArray} (nm : ByteArray) (hw : σ w = some (.row 1 9 (l.map str1))) : ACalls Tryd.prog 67 [.osl w 1 0 l.length, .v (.string nm)] σ (fun e σ' => e = .ret (.v (.bool (l.any (isS nm)))) ∧ σ' = σ) :=
  (p_in17 none false l nm).lend (indep_v _) ⟨fin_fz hw rfl (by rw [List.length_map]) rfl (fun _ => rfl), Fin.refl _ _ _, trivial⟩
theorem p_vars (c : Cnd) (h1 : c.attrs.length ≤ 12) (h2 : ∀ a ∈ c.attrs, a.tests.length ≤ 12) : Pure Tryd.prog 23 [.agg (dc c)] (.sl none false 1 ((varA c.attrs []).map str1)) := by
  refine enterW Tryd.func23 rfl rfl rfl rfl (fun σ => ?_)
  obtain ⟨cg, cn, ats⟩ := c
  dsimp only at h1 h2 ⊢
  have hla : (ats.map ac).length = ats.length := List.length_map ..
  repeat (first|(refine jl ?_;first|refine j1 ?_|refine j4 ?_|refine j12 (fun id hid=>?_)|refine j14 ?_)|(refine jc ?_;first|refine c1 ?_|refine c2 ?_|refine c5 ?_))
  first | refine cj_id 1 (fun b1 e => ?_) | refine lj_id 1 (fun b1 e => ?_)
  subst e
  have t1 : σ b1 = none := by assumption
  refine cj_ghost (ghost_nil (t := 3) 1 9 rfl (fun w0 hw0 => ?_))
  refine cj_nameS (fun τ hτ => ?_)
  have hw : τ w0 = none := by rw [hτ]; exact hw0
  have t1 : τ b1 = some (.row 3 25 [dc ⟨cg, cn, ats⟩]) := by rw [hτ]; exact lkp
  have hle : σ.le τ := by rw [hτ]; repeat' (first | exact St.le_refl _ | refine St.le_any ?_)
  clear hτ hw0
  refine cj_for (fun s : Nat × Nat × List ByteArray => s.1 ≤ ats.length ∧ τ s.2.1 = none ∧ varA (ats.drop s.1) s.2.2 = varA ats [] ∧ s.2.2.length ≤ 12 * s.1) (fun s => [(11, .v (.int .i64 s.1)), (3, .osl s.2.1 1 0 s.2.2.length)]) (fun s => τ.set s.2.1 (.row 1 9 (s.2.2.map str1))) (fun s => ats.length - s.1) (0, w0, []) ⟨Nat.zero_le _, hw, rfl, Nat.le_refl _⟩ ⟨⟨_, rfl, fun _ _ h => h⟩, ⟨_, rfl, fun _ _ h => h⟩, trivial⟩ (St.le_refl _) (fun s hs => ?_)
  obtain ⟨i, w, out⟩ := s
  obtain ⟨hi, hw, hg, hlen⟩ := hs
  dsimp only at hi hw hg hlen ⊢
  rcases hd : ats.drop i with _ | ⟨x, r⟩
  · have h0 := dropn hd
    rw [hd, varA] at hg
    rw [← hg]
    repeat' (first|(first|(refine jl ?_;first|refine j1 ?_|refine j4 ?_)|(refine jc ?_;first|refine c1 ?_|refine c2 ?_|refine c7 ?_|refine c8 ?_)|refine n1 ?_|refine n3 ?_|refine n7 ?_|refine n8 ?_|refine n11 ?_)|(refine c9 (fun h=>?_) (fun h=>?_)<;>((try simp only [Bool.or_eq_true, Bool.and_eq_true, Bool.or_eq_false_iff, Bool.and_eq_false_iff, Bool.not_eq_true', Bool.not_eq_false', decide_eq_true_eq, decide_eq_false_iff_not, Bool.false_eq_true, Bool.true_eq_false, reduceCtorEq] at h) <;> (try simp (disch := omega) only [sb_bt, w64, Int.reduceAdd, Int.reduceToNat, Int.toNat_natCast, not_true_eq_false, false_or] at h) <;> (try (exfalso; omega)))))
    exact gvs (fin_one (fin_fz (St.set_same _ _ _) (St.none_le hle hw) (by rw [List.length_map]) rfl (fun _ => rfl))) (St.le_any hle (St.none_le hle hw))
  · obtain ⟨g1, g2, g3⟩ := dropc hd
    have hx12 := h2 _ (List.mem_of_getElem? g3)
    obtain ⟨xn, xo, xt⟩ := x
    have h4 := get_map ac g3
    have hlt : (xt.map tc).length = xt.length := List.length_map ..
    rw [hd, varA] at hg
    dsimp only at hg hx12
    repeat' (first|(first|(refine jl ?_;first|refine jbl ?_|refine j1 ?_|refine j4 ?_|refine j13 (fun id hid=>?_)|refine j14 ?_|refine j17t ?_|refine ji1 ?_)|(refine jc ?_;first|refine c1 ?_|refine c2 ?_|refine c5 ?_|refine c6 ?_)|refine n1 ?_)|(refine c9 (fun h=>?_) (fun h=>?_)<;>((try simp only [Bool.or_eq_true, Bool.and_eq_true, Bool.or_eq_false_iff, Bool.and_eq_false_iff, Bool.not_eq_true', Bool.not_eq_false', decide_eq_true_eq, decide_eq_false_iff_not, Bool.false_eq_true, Bool.true_eq_false, reduceCtorEq] at h) <;> (try simp (disch := omega) only [sb_bt, w64, Int.reduceAdd, Int.reduceToNat, Int.toNat_natCast, not_true_eq_false, false_or] at h) <;> (try (exfalso; omega)))))
    first | refine cj_id 5 (fun b5 e => ?_) | refine lj_id 5 (fun b5 e => ?_)
    subst e
    have hid : (τ.set w (.row 1 9 (out.map str1))) b5 = none := by assumption
    have hwb : w ≠ b5 := fun e => by subst e; rw [St.set_same] at hid; cases hid
    have hb5 : τ b5 = none := by rw [St.set_ne' _ _ _ hwb] at hid; exact hid
    rw [St.swap hwb]
    obtain ⟨τ1, hτ1⟩ : ∃ τ1 : St, τ1 = τ.set b5 (.row 3 91 [ac ⟨xn, xo, xt⟩]) := ⟨_, rfl⟩
    have hle1 : τ.le τ1 := by rw [hτ1]; exact St.le_set _ hb5
    have u1 := hle1 _ _ t1
    have u5 : τ1 b5 = some (.row 3 91 [ac ⟨xn, xo, xt⟩]) := by rw [hτ1]; exact St.set_same _ _ _
    refine cj_for (fun s : Nat × Nat × List ByteArray => s.1 ≤ xt.length ∧ τ1 s.2.1 = none ∧ varT (xt.drop s.1) s.2.2 = varT xt out ∧ s.2.2.length ≤ out.length + s.1) (fun s => [(18, .v (.int .i64 s.1)), (3, .osl s.2.1 1 0 s.2.2.length)]) (fun s => τ1.set s.2.1 (.row 1 9 (s.2.2.map str1))) (fun s => xt.length - s.1) (0, w, out) ⟨Nat.zero_le _, (by rw [hτ1, St.set_ne _ _ _ hwb]; exact hw), rfl, Nat.le_add_right _ _⟩ ⟨⟨_, rfl, fun _ _ h => h⟩, ⟨_, rfl, fun _ _ h => h⟩, trivial⟩ (by rw [hτ1]; exact St.le_refl _) (fun s hs => ?_)
    clear hτ1
    obtain ⟨k, w1, out1⟩ := s
    obtain ⟨hk, hw1, hg1, hlen1⟩ := hs
    dsimp only at hk hw1 hg1 hlen1 ⊢
    rcases hd1 : xt.drop k with _ | ⟨y, r1⟩
    · have h0 := dropn hd1
      rw [hd1, varT] at hg1
      rw [← hg1] at hg
      repeat' (first|(first|(refine jl ?_;first|refine j1 ?_|refine j4 ?_|refine j6 ?_)|(refine jc ?_;first|refine c1 ?_|refine c2 ?_|refine c8 ?_)|refine n1 ?_|refine n3 ?_|refine n7 ?_|refine n8 ?_|refine n10 ?_)|(refine c9 (fun h=>?_) (fun h=>?_)<;>((try simp only [Bool.or_eq_true, Bool.and_eq_true, Bool.or_eq_false_iff, Bool.and_eq_false_iff, Bool.not_eq_true', Bool.not_eq_false', decide_eq_true_eq, decide_eq_false_iff_not, Bool.false_eq_true, Bool.true_eq_false, reduceCtorEq] at h) <;> (try simp (disch := omega) only [sb_bt, w64, Int.reduceAdd, Int.reduceToNat, Int.toNat_natCast, not_true_eq_false, false_or] at h) <;> (try (exfalso; omega)))))
      exact nx_forS (i + 1, w1, out1) ⟨by dsimp only; omega, St.none_le hle1 hw1, by dsimp only; rw [g2]; exact hg, by dsimp only; omega⟩ (by dsimp only; omega) ⟨⟨_, rfl, wk1 (by omega)⟩, ⟨_, rfl, Wk.refl _⟩, trivial⟩ (St.le_setk (St.le_any hle1 (St.none_le hle1 hw1)) (St.set_same _ _ _))
    · obtain ⟨f1, f2, f3⟩ := dropc hd1
      have h5 := get_map tc f3
      rw [hd1, varT] at hg1
      repeat' (first|(first|(refine jl ?_;first|refine j8 ?_|refine jbl ?_|refine j1 ?_|refine j4 ?_|refine j6 ?_|refine j9 ?_|refine j13 (fun id hid=>?_)|refine j14 ?_|refine j17t ?_|refine j16 ?_|refine ji1 ?_|refine jkq (fun _ => q_containss _ lkp) ?_|refine jlit ?_)|(refine jc ?_;first|refine c1 ?_|refine c2 ?_|refine c5 ?_|refine c6 ?_)|refine n1 ?_|refine n10 ?_)|(refine c9 (fun h=>?_) (fun h=>?_)<;>((try simp only [Bool.or_eq_true, Bool.and_eq_true, Bool.or_eq_false_iff, Bool.and_eq_false_iff, Bool.not_eq_true', Bool.not_eq_false', decide_eq_true_eq, decide_eq_false_iff_not, Bool.false_eq_true, Bool.true_eq_false, reduceCtorEq] at h) <;> (try simp (disch := omega) only [sb_bt, w64, Int.reduceAdd, Int.reduceToNat, Int.toNat_natCast, not_true_eq_false, false_or] at h) <;> (try (exfalso; omega)))))
      · have hc : varC y.v out1 = true := by rw [varC, h.2, decide_eq_false (show ¬ y.v = noS from h.1)]; rfl
        rw [if_pos hc] at hg1
        have hn1 : (out1.map str1).length = out1.length := List.length_map ..
        refine japo (id := w1) (els := out1.map str1) (n := out1.length) (m := out1.length + 1) (news := [str1 y.v]) (all := (out1 ++ [y.v]).map str1) (fun w2 hw2 => ?_) (by rw [List.take_of_length_le (by omega), List.map_append]; rfl) rfl (hb := by dsimp only [List.length]; omega)
        repeat (first|(refine jl ?_;first|refine j1 ?_|refine j6 ?_)|(refine jc ?_;first|refine c2 ?_)|refine n1 ?_|refine n10 ?_)
        refine nx_forS (k + 1, w2, out1 ++ [y.v]) ⟨by dsimp only; omega, St.ns2 hw2, by dsimp only; rw [f2]; exact hg1, by dsimp only; rw [List.length_append, List.length_singleton]; omega⟩ (by dsimp only; omega) ⟨⟨_, rfl, wk1 (by omega)⟩, ⟨_, rfl, Wk.of_eq (by dsimp only; rw [List.length_append]; rfl)⟩, trivial⟩ ?_
        exact St.le_setk (St.le_any (St.le_del (St.le_any (St.le_any (St.le_refl _) hw1) (St.ns1 hid)) hw1) (St.ns2 hw2)) (St.set_same _ _ _)
      · have hc : ¬ varC y.v out1 = true := by
          rcases h with h | h
          · simp [varC, noS, h]
          · simp [varC, h]
        rw [if_neg hc] at hg1
        exact nx_forS (k + 1, w1, out1) ⟨by dsimp only; omega, hw1, by dsimp only; rw [f2]; exact hg1, by dsimp only; omega⟩ (by dsimp only; omega) ⟨⟨_, rfl, wk1 (by omega)⟩, ⟨_, rfl, Wk.refl _⟩, trivial⟩ (St.le_any (St.le_refl _))
theorem p_rvars (c : Cnd) (h1 : c.attrs.length ≤ 12) (h2 : ∀ a ∈ c.attrs, a.tests.length ≤ 12) : Pure Tryd.prog 24 [.agg (dc c)] (.sl none false 1 ((varA c.attrs []).map str1)) := by
  refine enterW Tryd.func24 rfl rfl rfl rfl (fun σ => ?_)
  obtain ⟨cg, cn, ats⟩ := c
  dsimp only at h1 h2 ⊢
  have hla : (ats.map ac).length = ats.length := List.length_map ..
  repeat (first|(refine jl ?_;first|refine j1 ?_|refine j4 ?_|refine j12 (fun id hid=>?_))|(refine jc ?_;first|refine c1 ?_|refine c2 ?_|refine c5 ?_))
  first | refine cj_id 1 (fun b1 e => ?_) | refine lj_id 1 (fun b1 e => ?_)
  subst e
  have t1 : σ b1 = none := by assumption
  refine cj_ghost (ghost_nil (t := 3) 1 9 rfl (fun w0 hw0 => ?_))
  refine cj_nameS (fun τ hτ => ?_)
  have hw : τ w0 = none := by rw [hτ]; exact hw0
  have t1 : τ b1 = some (.row 3 25 [dc ⟨cg, cn, ats⟩]) := by rw [hτ]; exact lkp
  have hle : σ.le τ := by rw [hτ]; repeat' (first | exact St.le_refl _ | refine St.le_any ?_)
  clear hτ hw0
  refine cj_for (fun s : Nat × Nat × List ByteArray => s.1 ≤ ats.length ∧ τ s.2.1 = none ∧ varA (ats.drop s.1) s.2.2 = varA ats [] ∧ s.2.2.length ≤ 12 * s.1) (fun s => [(4, .v (.int .i64 s.1)), (3, .osl s.2.1 1 0 s.2.2.length)]) (fun s => τ.set s.2.1 (.row 1 9 (s.2.2.map str1))) (fun s => ats.length - s.1) (0, w0, []) ⟨Nat.zero_le _, hw, rfl, Nat.le_refl _⟩ ⟨⟨_, rfl, fun _ _ h => h⟩, ⟨_, rfl, fun _ _ h => h⟩, trivial⟩ (St.le_refl _) (fun s hs => ?_)
  obtain ⟨i, w, out⟩ := s
  obtain ⟨hi, hw, hg, hlen⟩ := hs
  dsimp only at hi hw hg hlen ⊢
  rcases hd : ats.drop i with _ | ⟨x, r⟩
  · have h0 := dropn hd
    rw [hd, varA] at hg
    rw [← hg]
    repeat' (first|(first|(refine jl ?_;first|refine j1 ?_|refine j4 ?_|refine j14 ?_)|(refine jc ?_;first|refine c1 ?_|refine c2 ?_|refine c7 ?_|refine c8 ?_)|refine n1 ?_|refine n3 ?_|refine n7 ?_|refine n8 ?_|refine n11 ?_)|(refine c9 (fun h=>?_) (fun h=>?_)<;>((try simp only [Bool.or_eq_true, Bool.and_eq_true, Bool.or_eq_false_iff, Bool.and_eq_false_iff, Bool.not_eq_true', Bool.not_eq_false', decide_eq_true_eq, decide_eq_false_iff_not, Bool.false_eq_true, Bool.true_eq_false, reduceCtorEq] at h) <;> (try simp (disch := omega) only [sb_bt, w64, Int.reduceAdd, Int.reduceToNat, Int.toNat_natCast, not_true_eq_false, false_or] at h) <;> (try (exfalso; omega)))))
    exact gvs (fin_one (fin_fz (St.set_same _ _ _) (St.none_le hle hw) (by rw [List.length_map]) rfl (fun _ => rfl))) (St.le_any hle (St.none_le hle hw))
  · obtain ⟨g1, g2, g3⟩ := dropc hd
    have hx12 := h2 _ (List.mem_of_getElem? g3)
    obtain ⟨xn, xo, xt⟩ := x
    have h4 := get_map ac g3
    have hlt : (xt.map tc).length = xt.length := List.length_map ..
    rw [hd, varA] at hg
    dsimp only at hg hx12
    repeat' (first|(first|(refine jl ?_;first|refine j1 ?_|refine j4 ?_|refine j14 ?_)|(refine jc ?_;first|refine c1 ?_|refine c2 ?_|refine c5 ?_|refine c6 ?_)|refine n1 ?_)|(refine c9 (fun h=>?_) (fun h=>?_)<;>((try simp only [Bool.or_eq_true, Bool.and_eq_true, Bool.or_eq_false_iff, Bool.and_eq_false_iff, Bool.not_eq_true', Bool.not_eq_false', decide_eq_true_eq, decide_eq_false_iff_not, Bool.false_eq_true, Bool.true_eq_false, reduceCtorEq] at h) <;> (try simp (disch := omega) only [sb_bt, w64, Int.reduceAdd, Int.reduceToNat, Int.toNat_natCast, not_true_eq_false, false_or] at h) <;> (try (exfalso; omega)))))
    refine cj_for (fun s : Nat × Nat × List ByteArray => s.1 ≤ xt.length ∧ τ s.2.1 = none ∧ varT (xt.drop s.1) s.2.2 = varT xt out ∧ s.2.2.length ≤ out.length + s.1) (fun s => [(5, .v (.int .i64 s.1)), (3, .osl s.2.1 1 0 s.2.2.length)]) (fun s => τ.set s.2.1 (.row 1 9 (s.2.2.map str1))) (fun s => xt.length - s.1) (0, w, out) ⟨Nat.zero_le _, hw, rfl, Nat.le_add_right _ _⟩ ⟨⟨_, rfl, fun _ _ h => h⟩, ⟨_, rfl, fun _ _ h => h⟩, trivial⟩ (St.le_refl _) (fun s hs => ?_)
    obtain ⟨k, w1, out1⟩ := s
    obtain ⟨hk, hw1, hg1, hlen1⟩ := hs
    dsimp only at hk hw1 hg1 hlen1 ⊢
    rcases hd1 : xt.drop k with _ | ⟨y, r1⟩
    · have h0 := dropn hd1
      rw [hd1, varT] at hg1
      rw [← hg1] at hg
      repeat' (first|(first|(refine jl ?_;first|refine jbl ?_|refine j1 ?_|refine j4 ?_|refine j6 ?_|refine j14 ?_|refine ji1 ?_)|(refine jc ?_;first|refine c1 ?_|refine c2 ?_|refine c8 ?_)|refine n1 ?_|refine n3 ?_|refine n7 ?_|refine n8 ?_|refine n10 ?_)|(refine c9 (fun h=>?_) (fun h=>?_)<;>((try simp only [Bool.or_eq_true, Bool.and_eq_true, Bool.or_eq_false_iff, Bool.and_eq_false_iff, Bool.not_eq_true', Bool.not_eq_false', decide_eq_true_eq, decide_eq_false_iff_not, Bool.false_eq_true, Bool.true_eq_false, reduceCtorEq] at h) <;> (try simp (disch := omega) only [sb_bt, w64, Int.reduceAdd, Int.reduceToNat, Int.toNat_natCast, not_true_eq_false, false_or] at h) <;> (try (exfalso; omega)))))
      exact nx_forS (i + 1, w1, out1) ⟨by dsimp only; omega, hw1, by dsimp only; rw [g2]; exact hg, by dsimp only; omega⟩ (by dsimp only; omega) ⟨⟨_, rfl, wk1 (by omega)⟩, ⟨_, rfl, Wk.refl _⟩, trivial⟩ (St.le_refl _)
    · obtain ⟨f1, f2, f3⟩ := dropc hd1
      have h5 := get_map tc f3
      rw [hd1, varT] at hg1
      repeat' (first|(first|(refine jl ?_;first|refine j8 ?_|refine jbl ?_|refine j1 ?_|refine j4 ?_|refine j6 ?_|refine j9 ?_|refine j14 ?_|refine ji1 ?_|refine jkq (fun _ => q_in17 _ lkp) ?_|refine jlit ?_)|(refine jc ?_;first|refine c1 ?_|refine c2 ?_|refine c5 ?_|refine c6 ?_)|refine n1 ?_|refine n10 ?_)|(refine c9 (fun h=>?_) (fun h=>?_)<;>((try simp only [Bool.or_eq_true, Bool.and_eq_true, Bool.or_eq_false_iff, Bool.and_eq_false_iff, Bool.not_eq_true', Bool.not_eq_false', decide_eq_true_eq, decide_eq_false_iff_not, Bool.false_eq_true, Bool.true_eq_false, reduceCtorEq] at h) <;> (try simp (disch := omega) only [sb_bt, w64, Int.reduceAdd, Int.reduceToNat, Int.toNat_natCast, not_true_eq_false, false_or] at h) <;> (try (exfalso; omega)))))
      · have hc : varC y.v out1 = true := by rw [varC, h.2, decide_eq_false (show ¬ y.v = noS from h.1)]; rfl
        rw [if_pos hc] at hg1
        have hn1 : (out1.map str1).length = out1.length := List.length_map ..
        refine japo (id := w1) (els := out1.map str1) (n := out1.length) (m := out1.length + 1) (news := [str1 y.v]) (all := (out1 ++ [y.v]).map str1) (fun w2 hw2 => ?_) (by rw [List.take_of_length_le (by omega), List.map_append]; rfl) rfl (hb := by dsimp only [List.length]; omega)
        repeat (first|(refine jl ?_;first|refine j1 ?_|refine j6 ?_)|(refine jc ?_;first|refine c2 ?_)|refine n1 ?_|refine n10 ?_)
        refine nx_forS (k + 1, w2, out1 ++ [y.v]) ⟨by dsimp only; omega, St.ns1 hw2, by dsimp only; rw [f2]; exact hg1, by dsimp only; rw [List.length_append, List.length_singleton]; omega⟩ (by dsimp only; omega) ⟨⟨_, rfl, wk1 (by omega)⟩, ⟨_, rfl, Wk.of_eq (by dsimp only; rw [List.length_append]; rfl)⟩, trivial⟩ ?_
        exact St.le_setk (St.le_any (St.le_del (St.le_any (St.le_refl _) hw1) hw1) (St.ns1 hw2)) (St.set_same _ _ _)
      · have hc : ¬ varC y.v out1 = true := by
          rcases h with h | h
          · simp [varC, noS, h]
          · simp [varC, h]
        rw [if_neg hc] at hg1
        exact nx_forS (k + 1, w1, out1) ⟨by dsimp only; omega, hw1, by dsimp only; rw [f2]; exact hg1, by dsimp only; omega⟩ (by dsimp only; omega) ⟨⟨_, rfl, wk1 (by omega)⟩, ⟨_, rfl, Wk.refl _⟩, trivial⟩ (St.le_refl _)
end Go.Proofs.YtddljegbggncdaaDoor.Ab

/- How many tests a condition has. -/
set_option linter.unusedVariables false
set_option linter.unusedSimpArgs false
set_option maxRecDepth 20000
namespace Go.Proofs.YtddljegbggncdaaDoor.Ab
open Go
attribute [local irreducible] thn inb endR CJ LJ OpJ DJ DA DB AllocK

def testsN : List Atr → Nat
  | [] => 0
  | a :: r => a.tests.length + (if 0 < a.ones.length then 1 else 0) + testsN r
theorem p_tests9 (c : Cnd) (h1 : c.attrs.length ≤ 12) (h2 : ∀ a ∈ c.attrs, a.tests.length ≤ 12) : Pure Tryd.prog 30 [.agg (dc c)] (.v (.int .i64 ((1 + testsN c.attrs : Nat) : Int))) := by
  refine enterW Tryd.func30 rfl rfl rfl rfl (fun σ => ?_)
  obtain ⟨cg, cn, ats⟩ := c
  dsimp only at h1 h2 ⊢
  have hla : (ats.map ac).length = ats.length := List.length_map ..
  repeat (first|(refine jl ?_;first|refine j1 ?_|refine j4 ?_|refine j12 (fun id hid=>?_)|refine j14 ?_)|(refine jc ?_;first|refine c1 ?_|refine c2 ?_|refine c5 ?_))
  refine cj_fors (fun s : Nat × Nat => s.1 ≤ ats.length ∧ s.2 + testsN (ats.drop s.1) = 1 + testsN ats ∧ s.2 ≤ 1 + 13 * s.1) (fun s => [(9, .v (.int .i64 s.1)), (3, .v (.int .i64 s.2))]) (fun s => ats.length - s.1) (0, 1) ⟨Nat.zero_le _, rfl, by omega⟩ ⟨⟨_, rfl, fun _ _ h => h⟩, ⟨_, rfl, fun _ _ h => h⟩, trivial⟩ (fun s hs => ?_)
  obtain ⟨i, n⟩ := s
  obtain ⟨hi, hs1, hs2⟩ := hs
  dsimp only at hi hs1 hs2 ⊢
  rcases hd : ats.drop i with _ | ⟨x, r⟩
  · have h0 := dropn hd
    rw [hd, testsN] at hs1
    repeat' (first|(first|(refine jl ?_;first|refine j1 ?_|refine j4 ?_)|(refine jc ?_;first|refine c1 ?_|refine c2 ?_|refine c7 ?_|refine c8 ?_)|refine n1 ?_|refine n3 ?_|refine n7 ?_|refine n8 ?_|refine n11 ?_)|(refine c9 (fun h=>?_) (fun h=>?_)<;>((try simp only [Bool.or_eq_true, Bool.and_eq_true, Bool.or_eq_false_iff, Bool.and_eq_false_iff, Bool.not_eq_true', Bool.not_eq_false', decide_eq_true_eq, decide_eq_false_iff_not, Bool.false_eq_true, Bool.true_eq_false, reduceCtorEq] at h) <;> (try simp (disch := omega) only [sb_bt, w64, Int.reduceAdd, Int.reduceToNat, Int.toNat_natCast, not_true_eq_false, false_or] at h) <;> (try (exfalso; omega)))))
    rw [← hs1]
    exact ge rfl
  · obtain ⟨g1, g2, g3⟩ := dropc hd
    have hx2 := h2 x (List.mem_of_getElem? g3)
    obtain ⟨xn, xo, xt⟩ := x
    have h4 := get_map ac g3
    have hlo : (xo.map vc).length = xo.length := List.length_map ..
    have hlt : (xt.map tc).length = xt.length := List.length_map ..
    rw [hd, testsN] at hs1
    dsimp only at hs1 hx2
    repeat' (first|(first|(refine jl ?_;first|refine jbl ?_|refine j1 ?_|refine j4 ?_|refine j6 ?_|refine j13 (fun id hid=>?_)|refine j14 ?_|refine j17t ?_|refine ji1 ?_)|(refine jc ?_;first|refine c1 ?_|refine c2 ?_|refine c5 ?_|refine c6 ?_)|refine n1 ?_|refine n10 ?_)|(refine c9 (fun h=>?_) (fun h=>?_)<;>((try simp only [Bool.or_eq_true, Bool.and_eq_true, Bool.or_eq_false_iff, Bool.and_eq_false_iff, Bool.not_eq_true', Bool.not_eq_false', decide_eq_true_eq, decide_eq_false_iff_not, Bool.false_eq_true, Bool.true_eq_false, reduceCtorEq] at h) <;> (try simp (disch := omega) only [sb_bt, w64, Int.reduceAdd, Int.reduceToNat, Int.toNat_natCast, not_true_eq_false, false_or] at h) <;> (try (exfalso; omega)))))
    · rw [if_pos (by omega)] at hs1
      exact nx_for (i + 1, n + xt.length + 1) ⟨by dsimp only; omega, by dsimp only; rw [g2]; omega, by dsimp only; omega⟩ (by dsimp only; omega) ⟨⟨_, rfl, wk1 (by omega)⟩, ⟨_, rfl, Wk.of_eq (by dsimp only; rw [w64 (n := (n : Int) + _) (by omega) (by omega), w64 (by omega) (by omega), hlt]; rfl)⟩, trivial⟩
    · rw [if_neg (by omega)] at hs1
      exact nx_for (i + 1, n + xt.length) ⟨by dsimp only; omega, by dsimp only; rw [g2]; omega, by dsimp only; omega⟩ (by dsimp only; omega) ⟨⟨_, rfl, wk1 (by omega)⟩, ⟨_, rfl, Wk.of_eq (by dsimp only; rw [w64 (by omega) (by omega), hlt]; rfl)⟩, trivial⟩
theorem p_tests4 (c : Cnd) (h1 : c.attrs.length ≤ 12) (h2 : ∀ a ∈ c.attrs, a.tests.length ≤ 12) : Pure Tryd.prog 31 [.agg (dc c)] (.v (.int .i64 ((1 + testsN c.attrs : Nat) : Int))) := by
  refine enterW Tryd.func31 rfl rfl rfl rfl (fun σ => ?_)
  obtain ⟨cg, cn, ats⟩ := c
  dsimp only at h1 h2 ⊢
  have hla : (ats.map ac).length = ats.length := List.length_map ..
  repeat (first|(refine jl ?_;first|refine j1 ?_|refine j4 ?_|refine j12 (fun id hid=>?_))|(refine jc ?_;first|refine c1 ?_|refine c2 ?_|refine c5 ?_))
  refine cj_fors (fun s : Nat × Nat => s.1 ≤ ats.length ∧ s.2 + testsN (ats.drop s.1) = 1 + testsN ats ∧ s.2 ≤ 1 + 13 * s.1) (fun s => [(4, .v (.int .i64 s.1)), (3, .v (.int .i64 s.2))]) (fun s => ats.length - s.1) (0, 1) ⟨Nat.zero_le _, rfl, by omega⟩ ⟨⟨_, rfl, fun _ _ h => h⟩, ⟨_, rfl, fun _ _ h => h⟩, trivial⟩ (fun s hs => ?_)
  obtain ⟨i, n⟩ := s
  obtain ⟨hi, hs1, hs2⟩ := hs
  dsimp only at hi hs1 hs2 ⊢
  rcases hd : ats.drop i with _ | ⟨x, r⟩
  · have h0 := dropn hd
    rw [hd, testsN] at hs1
    repeat' (first|(first|(refine jl ?_;first|refine j1 ?_|refine j4 ?_|refine j14 ?_)|(refine jc ?_;first|refine c1 ?_|refine c2 ?_|refine c7 ?_|refine c8 ?_)|refine n1 ?_|refine n3 ?_|refine n7 ?_|refine n8 ?_|refine n11 ?_)|(refine c9 (fun h=>?_) (fun h=>?_)<;>((try simp only [Bool.or_eq_true, Bool.and_eq_true, Bool.or_eq_false_iff, Bool.and_eq_false_iff, Bool.not_eq_true', Bool.not_eq_false', decide_eq_true_eq, decide_eq_false_iff_not, Bool.false_eq_true, Bool.true_eq_false, reduceCtorEq] at h) <;> (try simp (disch := omega) only [sb_bt, w64, Int.reduceAdd, Int.reduceToNat, Int.toNat_natCast, not_true_eq_false, false_or] at h) <;> (try (exfalso; omega)))))
    rw [← hs1]
    exact ge rfl
  · obtain ⟨g1, g2, g3⟩ := dropc hd
    have hx2 := h2 x (List.mem_of_getElem? g3)
    obtain ⟨xn, xo, xt⟩ := x
    have h4 := get_map ac g3
    have hlo : (xo.map vc).length = xo.length := List.length_map ..
    have hlt : (xt.map tc).length = xt.length := List.length_map ..
    rw [hd, testsN] at hs1
    dsimp only at hs1 hx2
    repeat' (first|(first|(refine jl ?_;first|refine jbl ?_|refine j1 ?_|refine j4 ?_|refine j6 ?_|refine j14 ?_|refine ji1 ?_)|(refine jc ?_;first|refine c1 ?_|refine c2 ?_|refine c5 ?_|refine c6 ?_)|refine n1 ?_|refine n10 ?_)|(refine c9 (fun h=>?_) (fun h=>?_)<;>((try simp only [Bool.or_eq_true, Bool.and_eq_true, Bool.or_eq_false_iff, Bool.and_eq_false_iff, Bool.not_eq_true', Bool.not_eq_false', decide_eq_true_eq, decide_eq_false_iff_not, Bool.false_eq_true, Bool.true_eq_false, reduceCtorEq] at h) <;> (try simp (disch := omega) only [sb_bt, w64, Int.reduceAdd, Int.reduceToNat, Int.toNat_natCast, not_true_eq_false, false_or] at h) <;> (try (exfalso; omega)))))
    · rw [if_pos (by omega)] at hs1
      exact nx_for (i + 1, n + xt.length + 1) ⟨by dsimp only; omega, by dsimp only; rw [g2]; omega, by dsimp only; omega⟩ (by dsimp only; omega) ⟨⟨_, rfl, wk1 (by omega)⟩, ⟨_, rfl, Wk.of_eq (by dsimp only; rw [w64 (n := (n : Int) + _) (by omega) (by omega), w64 (by omega) (by omega), hlt]; rfl)⟩, trivial⟩
    · rw [if_neg (by omega)] at hs1
      exact nx_for (i + 1, n + xt.length) ⟨by dsimp only; omega, by dsimp only; rw [g2]; omega, by dsimp only; omega⟩ (by dsimp only; omega) ⟨⟨_, rfl, wk1 (by omega)⟩, ⟨_, rfl, Wk.of_eq (by dsimp only; rw [w64 (by omega) (by omega), hlt]; rfl)⟩, trivial⟩
end Go.Proofs.YtddljegbggncdaaDoor.Ab

/- What every right program matches. -/
set_option linter.unusedVariables false
set_option linter.unusedSimpArgs false
set_option maxRecDepth 20000
namespace Go.Proofs.YtddljegbggncdaaDoor.Ab
open Go
attribute [local irreducible] thn inb endR CJ LJ OpJ DJ DA DB AllocK

def clsA : List Cls := [⟨⟨#[99]⟩, [⟨#[112]⟩, ⟨#[113]⟩]⟩]
def condA : Cnd := ⟨false, ⟨#[99]⟩, [⟨⟨#[112]⟩, [], [⟨0, ⟨#[120]⟩, ⟨0, 0, ⟨#[]⟩⟩⟩]⟩, ⟨⟨#[113]⟩, [], [⟨4, ⟨#[120]⟩, ⟨0, 0, ⟨#[]⟩⟩⟩]⟩]⟩
def madeA (p q : Int) : Fc := ⟨1, ⟨#[99]⟩, [⟨1, p, ⟨#[]⟩⟩, ⟨1, q, ⟨#[]⟩⟩]⟩
abbrev tst0 (p : Int) : List AV := [.v (.int .u8 p), .v (.string ⟨#[120]⟩), .v (.int .u8 0), .v (.int .i64 0), .v (.string ⟨#[]⟩)]
abbrev condX : List AV := [.v (.bool false), .v (.string ⟨#[99]⟩), .sl (some false) true 3 [[.v (.string ⟨#[112]⟩), .sl (some true) true 1 [], .sl (some false) true 5 [tst0 0]], [.v (.string ⟨#[113]⟩), .sl (some true) true 1 [], .sl (some false) true 5 [tst0 4]]]]
theorem wk_condX : Wk (.agg condX) (.agg (dc condA)) := Wk.agg ⟨Wk.refl _, Wk.refl _, Wk.els ⟨⟨Wk.refl _, Wk.nil _ _ _ _, Wk.sl _ _ _ _, trivial⟩, ⟨Wk.refl _, Wk.nil _ _ _ _, Wk.sl _ _ _ _, trivial⟩, trivial⟩, trivial⟩
theorem p_clsA : Pure Tryd.prog 51 [] (.sl none false 2 (clsA.map cc)) := by
  refine enterW Tryd.func51 rfl rfl rfl rfl (fun σ => ?_)
  repeat (first|(refine jl ?_;first|refine jb ?_|refine j1 ?_|refine j4 ?_|refine jlit ?_)|(refine jc ?_;first|refine c1 ?_|refine c2 ?_|refine c7 ?_)|refine n11 ?_)
  refine gvs (fin_sll ?_)
  repeat' (first | exact finll_nil | (apply finll_cons) | exact rfl | exact finl_nil | apply finl_cons | exact Fin.refl _ _ _ | exact fin_sl rfl)
theorem p_madeA (p q : Int) : Pure Tryd.prog 52 [.v (.int .i64 p), .v (.int .i64 q)] (.agg (fc (madeA p q))) := by
  refine enterW Tryd.func52 rfl rfl rfl rfl (fun σ => ?_)
  repeat (first|(refine jl ?_;first|refine jb ?_|refine j1 ?_|refine j4 ?_|refine j13 (fun id hid=>?_)|refine j17t ?_|refine jlit ?_)|(refine jc ?_;first|refine c1 ?_|refine c2 ?_|refine c7 ?_)|refine n14 ?_)
  refine gvs (fin_agg ?_)
  repeat' (first | exact finl_nil | apply finl_cons | exact Fin.refl _ _ _ | exact fin_sl rfl)
theorem litA : litC condA := by decide
theorem p_awake20 : Pure Tryd.prog 16 [] (.v (.bool true)) := by
  refine enterW Tryd.func16 rfl rfl rfl rfl (fun σ => ?_)
  have k1 := p_clsA
  have k2 := p_madeA 1 2
  have k3 := p_madeA 2 1
  have k4 : Pure Tryd.prog 17 [.sl none false 2 (clsA.map cc), .agg condX, .agg (fc (madeA 1 2)), .sl (some true) true 1 []] (mres (matchF clsA condA (madeA 1 2) [])) := (p_match none none false false clsA condA (madeA 1 2) [] (by decide) (by decide) (by decide)).wka ⟨Wk.refl _, wk_condX, Wk.refl _, Wk.nil _ _ _ _, trivial⟩
  have k5 : Pure Tryd.prog 17 [.sl none false 2 (clsA.map cc), .agg condX, .agg (fc (madeA 2 1)), .sl (some true) true 1 []] (mres (matchF clsA condA (madeA 2 1) [])) := (p_match none none false false clsA condA (madeA 2 1) [] (by decide) (by decide) (by decide)).wka ⟨Wk.refl _, wk_condX, Wk.refl _, Wk.nil _ _ _ _, trivial⟩
  rw [show matchF clsA condA (madeA 1 2) [] = some [⟨⟨#[120]⟩, ⟨1, 1, ⟨#[]⟩⟩⟩] by kernel_rfl] at k4
  rw [show matchF clsA condA (madeA 2 1) [] = none by kernel_rfl] at k5
  have k6 := p_lookup none false [⟨⟨#[120]⟩, ⟨1, 1, ⟨#[]⟩⟩⟩] ⟨#[120]⟩
  rw [show lookV ⟨#[120]⟩ [⟨⟨#[120]⟩, ⟨1, 1, ⟨#[]⟩⟩⟩] = ⟨1, 1, ⟨#[]⟩⟩ by kernel_rfl, show lookB ⟨#[120]⟩ [⟨⟨#[120]⟩, ⟨1, 1, ⟨#[]⟩⟩⟩] = true by kernel_rfl] at k6
  have k7 : Pure Tryd.prog 28 [.sl none false 2 (clsA.map cc), .agg condX, .agg (fc (madeA 2 1))] (.v (.bool true)) := by
    have := Pure.wka (bs := _) (p_passes none false clsA condA (madeA 2 1) litA) (show WkL [.sl none false 2 (clsA.map cc), .agg condX, .agg (fc (madeA 2 1))] _ from ⟨Wk.refl _, wk_condX, Wk.refl _, trivial⟩)
    rwa [show passF clsA condA (madeA 2 1) = true by kernel_rfl] at this
  have k8 : Pure Tryd.prog 26 [.agg condX] (.agg (dc ⟨false, ⟨#[99]⟩, []⟩)) := by
    have := Pure.wka (bs := _) (p_consts condA litA) (show WkL [.agg condX] _ from ⟨wk_condX, trivial⟩)
    rwa [show constsC condA = ⟨false, ⟨#[99]⟩, []⟩ by kernel_rfl] at this
  have k9 : Pure Tryd.prog 23 [.agg condX] (.sl none false 1 ([⟨#[120]⟩].map str1)) := by
    have := Pure.wka (bs := _) (p_vars condA (by decide) (by decide)) (show WkL [.agg condX] _ from ⟨wk_condX, trivial⟩)
    rwa [show varA condA.attrs [] = [⟨#[120]⟩] by kernel_rfl] at this
  have k10 : Pure Tryd.prog 30 [.agg condX] (.v (.int .i64 3)) := by
    have := Pure.wka (bs := _) (p_tests9 condA (by decide) (by decide)) (show WkL [.agg condX] _ from ⟨wk_condX, trivial⟩)
    rwa [show ((1 + testsN condA.attrs : Nat) : Int) = 3 by kernel_rfl] at this
  have k11 : Pure Tryd.prog 22 [.sl none false 4 ([⟨⟨#[120]⟩, ⟨1, 1, ⟨#[]⟩⟩⟩].map bc), .sl none false 4 ([⟨⟨#[120]⟩, ⟨1, 1, ⟨#[]⟩⟩⟩].map bc)] (.v (.bool true)) := by
    have := p_bsame none none false false [⟨⟨#[120]⟩, ⟨1, 1, ⟨#[]⟩⟩⟩] [⟨⟨#[120]⟩, ⟨1, 1, ⟨#[]⟩⟩⟩]
    rwa [decide_eq_true rfl] at this
  have k12 : Pure Tryd.prog 22 [.sl none false 4 ([⟨⟨#[120]⟩, ⟨1, 1, ⟨#[]⟩⟩⟩].map bc), .sl (some true) true 1 []] (.v (.bool false)) := by
    have := Pure.wka (bs := _) (p_bsame none none false false [⟨⟨#[120]⟩, ⟨1, 1, ⟨#[]⟩⟩⟩] []) (show WkL [.sl none false 4 ([⟨⟨#[120]⟩, ⟨1, 1, ⟨#[]⟩⟩⟩].map bc), .sl (some true) true 1 []] _ from ⟨Wk.refl _, Wk.nil _ _ _ _, trivial⟩)
    rwa [decide_eq_false (by simp)] at this
  repeat' (first|(first|(refine jl ?_;first|refine jb ?_|refine j1 ?_|refine j4 ?_|refine j13 (fun id hid=>?_)|refine j17t ?_|refine jp (k6) ?_|refine jlit ?_)|(refine dl ?_;first|refine d8 ?_|refine d1 ?_|refine d4 ?_|refine d9 ?_|refine d14 ?_|refine d16 ?_|refine dp (k1) ?_|refine dpq (hp:=fun hc=>k1) ?_|refine dp (k2) ?_|refine dp (k3) ?_|refine dpq (hp:=fun hc=>k3) ?_|refine dp (k4) ?_|refine dp (k5) ?_|refine dpq (hp:=fun hc=>k7) ?_|refine dpq (hp:=fun hc=>k8) ?_|refine dpq (hp:=fun hc=>k9) ?_|refine dpq (hp:=fun hc=>k10) ?_|refine dpq (hp:=fun hc=>k11) ?_|refine dpq (hp:=fun hc=>k12) ?_)|(refine jc ?_;first|refine c1 ?_|refine c2 ?_|refine c7 ?_|refine cq ?_)|refine n1 ?_|refine n11 ?_))
  refine ge (congrArg (fun b => AV.v (Value.bool b)) ?_)
  decide +kernel
end Go.Proofs.YtddljegbggncdaaDoor.Ab

/- Laws of conditions, by the document's answer. -/
set_option linter.unusedVariables false
set_option linter.unusedSimpArgs false
set_option maxRecDepth 20000
namespace Go.Proofs.YtddljegbggncdaaDoor.Ab
open Go
attribute [local irreducible] thn inb endR CJ LJ OpJ DJ DA DB AllocK

theorem askL_zero {l : List Cls} {c : Cnd} {f : Fc} {bd : List Bd} (h : askL l c f bd = 0) : (litC c ∧ bd.length ≤ 20) ∧ (∀ v ∈ f.vals, v.s.size ≤ 60) := by
  rw [askL] at h
  split at h
  · rename_i h0
    obtain ⟨⟨a1, a2, a3⟩, a4, a5⟩ := lightE_iff h0.2
    obtain ⟨_, _, g7, _⟩ := lightB_iff h0.1
    exact ⟨⟨⟨a1, fun a ha => ⟨(a4 a ha).1.1, (a4 a ha).1.2.1⟩⟩, a2⟩, fun v hv => g7 v hv⟩
  · exact absurd h (by decide)
theorem sameV_self (v : Vl) : sameV v.k v.n v.s v.k v.n v.s = true := by simp [sameV]
theorem l_testMatches (l : List Cls) (c : Cnd) (f : Fc) (bd : List Bd) (nm : ByteArray) : Pure Tryd.prog 3 [.sl none false 2 (l.map cc), .agg (askc c f bd), .v (.string nm)] (.v (.bool true)) := by
  refine enterW Tryd.func3 rfl rfl rfl rfl (fun σ => ?_)
  have k1 := p_asklight none false l c f bd
  have k0 := p_awake20
  by_cases h0 : askL l c f bd = 0
  · obtain ⟨⟨hc, hb20⟩, hz⟩ := askL_zero h0
    have hlb : (bd.map bc).length = bd.length := List.length_map ..
    have k2 := p_match none none false false l c f bd hc.1 (fun a ha => (hc.2 a ha).2) (by omega)
    have k3 := p_rmatch none none false false l c f bd hz hc.1 (fun a ha => (hc.2 a ha).2) (by omega)
    have k4 := p_lookup none false bd nm
    have k5 := p_rlookup none false bd nm
    have k6 := p_eqb5 none none false false ((matchF l c f bd).getD []) ((matchF l c f bd).getD [])
    have k7 := p_bsame none none false false ((matchF l c f bd).getD []) bd
    have k8 := p_eqb5 none none false false ((matchF l c f bd).getD []) bd
    rw [h0] at k1
    repeat' (first|(first|(refine jl ?_;first|refine j7 ?_|refine j1 ?_|refine j4 ?_|refine j9 ?_|refine j12 (fun id hid=>?_)|refine j13 (fun id hid=>?_)|refine j14 ?_|refine j17t ?_|refine jp (k1) ?_|refine jp (k0) ?_|refine jp (k3) ?_|refine jp (k4) ?_|refine jp (k5) ?_)|(refine dl ?_;first|refine d8 ?_|refine d1 ?_|refine d4 ?_|refine d9 ?_|refine d14 ?_|refine d16 ?_|refine deqq ?_|refine dpq (hp:=fun hc=>k0) ?_|refine dp (k2) ?_|refine dp (k6) ?_|refine dpq (hp:=fun hc=>k7) ?_|refine dpq (hp:=fun hc=>k8) ?_|refine dap0 48 ?_)|(refine jc ?_;first|refine c1 ?_|refine c2 ?_|refine c6 ?_|refine c7 ?_|refine cq ?_)|refine n1 ?_|refine n2 ?_|refine n11 ?_)|(refine c9 (fun h=>?_) (fun h=>?_)<;>(try simp only [Bool.or_eq_true, Bool.and_eq_true, Bool.or_eq_false_iff, Bool.and_eq_false_iff, Bool.not_eq_true', Bool.not_eq_false', decide_eq_true_eq, decide_eq_false_iff_not, Bool.false_eq_true, Bool.true_eq_false, reduceCtorEq] at h)))
    · first | exact ge rfl | exact gvs (by (repeat' (first | exact finl_nil | apply finl_cons | exact Fin.refl _ _ _ | apply fin_pk2 | apply fin_pk3 | apply fin_agg | apply fin_tup | exact fin_nil | exact fin_sl rfl | exact fin_fz (by exact lkp) (by first | assumption | exact St.ns1 (by assumption) | exact St.ns2 (by assumption) | exact St.ns3 (by assumption) | exact St.ns4 (by assumption) | exact St.ns5 (by assumption) | exact St.ns6 (by assumption) | exact St.ns7 (by assumption) | exact St.ns8 (by assumption) | exact St.ns9 (by assumption) | exact St.ns10 (by assumption) | exact St.ns11 (by assumption) | exact St.ns12 (by assumption) | exact St.ns13 (by assumption) | exact St.ns14 (by assumption) | exact St.ns10 (by assumption) | exact St.ns11 (by assumption) | exact St.ns12 (by assumption) | exact St.ns13 (by assumption) | exact St.ns14 (by assumption)) (by first | exact rfl | assumption | (simp only [List.length_map, List.length_append, List.length_cons, List.length_nil]; done) | (simp only [List.length_map, List.length_append, List.length_cons, List.length_nil]; omega)) rfl (fun _ => rfl) | exact fin_eq rfl)))
    · exact ge (congrArg (fun b => AV.v (Value.bool b)) (by simp))
  · repeat' (first|(first|(refine jl ?_;first|refine j7 ?_|refine j1 ?_|refine j4 ?_|refine j9 ?_|refine j12 (fun id hid=>?_)|refine j14 ?_|refine jp (k1) ?_|refine jp (k0) ?_)|(refine dl ?_;first|refine d1 ?_|refine d14 ?_)|(refine jc ?_;first|refine c1 ?_|refine c2 ?_|refine c6 ?_|refine c7 ?_|refine cq ?_)|refine n1 ?_|refine n2 ?_|refine n11 ?_)|(refine c9 (fun h=>?_) (fun h=>?_)<;>(try simp only [Bool.or_eq_true, Bool.and_eq_true, Bool.or_eq_false_iff, Bool.and_eq_false_iff, Bool.not_eq_true', Bool.not_eq_false', decide_eq_true_eq, decide_eq_false_iff_not, Bool.false_eq_true, Bool.true_eq_false, reduceCtorEq] at h)))
    · first | exact ge rfl | exact gvs (by (repeat' (first | exact finl_nil | apply finl_cons | exact Fin.refl _ _ _ | apply fin_pk2 | apply fin_pk3 | apply fin_agg | apply fin_tup | exact fin_nil | exact fin_sl rfl | exact fin_fz (by exact lkp) (by first | assumption | exact St.ns1 (by assumption) | exact St.ns2 (by assumption) | exact St.ns3 (by assumption) | exact St.ns4 (by assumption) | exact St.ns5 (by assumption) | exact St.ns6 (by assumption) | exact St.ns7 (by assumption) | exact St.ns8 (by assumption) | exact St.ns9 (by assumption) | exact St.ns10 (by assumption) | exact St.ns11 (by assumption) | exact St.ns12 (by assumption) | exact St.ns13 (by assumption) | exact St.ns14 (by assumption) | exact St.ns10 (by assumption) | exact St.ns11 (by assumption) | exact St.ns12 (by assumption) | exact St.ns13 (by assumption) | exact St.ns14 (by assumption)) (by first | exact rfl | assumption | (simp only [List.length_map, List.length_append, List.length_cons, List.length_nil]; done) | (simp only [List.length_map, List.length_append, List.length_cons, List.length_nil]; omega)) rfl (fun _ => rfl) | exact fin_eq rfl)))
    · exact absurd h.1 h0
theorem l_testConsts (l : List Cls) (c : Cnd) (f : Fc) (bd : List Bd) : Pure Tryd.prog 4 [.sl none false 2 (l.map cc), .agg (askc c f bd)] (.v (.bool true)) := by
  refine enterW Tryd.func4 rfl rfl rfl rfl (fun σ => ?_)
  have k1 := p_asklight none false l c f bd
  have k0 := p_awake20
  by_cases h0 : askL l c f bd = 0
  · obtain ⟨⟨hc, hb20⟩, hz⟩ := askL_zero h0
    have k2 := p_vars c hc.1 (fun a ha => (hc.2 a ha).2)
    have k3 := p_rvars c hc.1 (fun a ha => (hc.2 a ha).2)
    have k4 := p_consts c hc
    have k5 := p_rconsts c hc
    have k6 := p_samecond (constsC c)
    have k7 := p_passes none false l c f hc
    have k8 := p_rpasses none false l c f hc hz
    have k9 := p_tests9 c hc.1 (fun a ha => (hc.2 a ha).2)
    have k10 := p_tests4 c hc.1 (fun a ha => (hc.2 a ha).2)
    have hlv : ((varA c.attrs []).map str1).length = (varA c.attrs []).length := List.length_map ..
    rw [h0] at k1
    repeat' (first|(first|(refine jl ?_;first|refine j1 ?_|refine j4 ?_|refine j12 (fun id hid=>?_)|refine j14 ?_|refine jp (k1) ?_)|(refine dl ?_;first|refine d1 ?_|refine d4 ?_|refine d14 ?_|refine dp (k2) ?_|refine dp (k3) ?_)|(refine jc ?_;first|refine c1 ?_|refine c2 ?_|refine c5 ?_|refine c6 ?_|refine cq ?_)|refine n1 ?_)|(refine c9 (fun h=>?_) (fun h=>?_)<;>((try simp only [Bool.or_eq_true, Bool.and_eq_true, Bool.or_eq_false_iff, Bool.and_eq_false_iff, Bool.not_eq_true', Bool.not_eq_false', decide_eq_true_eq, decide_eq_false_iff_not, Bool.false_eq_true, Bool.true_eq_false, reduceCtorEq] at h) <;> (try simp (disch := omega) only [sb_bt, w64, Int.reduceAdd, Int.reduceToNat, Int.toNat_natCast, not_true_eq_false, false_or] at h) <;> (try (exfalso; omega)))))
    refine cj_len 5 (fun hm => ?_)
    refine cj_fors (fun i : Nat => True) (fun i => [(7, .v (.int .i64 i))]) (fun i => (varA c.attrs []).length - i) 0 trivial ⟨⟨_, rfl, fun _ _ h => h⟩, trivial⟩ (fun i hi => ?_)
    rcases hd : (varA c.attrs []).drop i with _ | ⟨x, r⟩
    · have h0 := dropn hd
      repeat' (first|(first|(refine jl ?_;first|refine j1 ?_|refine j4 ?_)|(refine dl ?_;first|refine d8 ?_|refine d1 ?_|refine d2 ?_|refine d4 ?_|refine d9 ?_|refine d14 ?_|refine d15 ?_|refine d16 ?_|refine dpq (hp:=fun hc=>k0) ?_|refine dp (k4) ?_|refine dp (k5) ?_|refine dp (k6) ?_|refine dpy (k7) ?_|refine dpy (k8) ?_|refine dpq (hp:=fun hc=>k9) ?_|refine dpq (hp:=fun hc=>k10) ?_)|(refine jc ?_;first|refine c1 ?_|refine c2 ?_|refine c7 ?_|refine c8 ?_|refine cq ?_)|refine n1 ?_|refine n3 ?_|refine n7 ?_|refine n8 ?_|refine n11 ?_)|(refine c9 (fun h=>?_) (fun h=>?_)<;>((try simp only [Bool.or_eq_true, Bool.and_eq_true, Bool.or_eq_false_iff, Bool.and_eq_false_iff, Bool.not_eq_true', Bool.not_eq_false', decide_eq_true_eq, decide_eq_false_iff_not, Bool.false_eq_true, Bool.true_eq_false, reduceCtorEq] at h) <;> (try simp (disch := omega) only [sb_bt, w64, Int.reduceAdd, Int.reduceToNat, Int.toNat_natCast, not_true_eq_false, false_or] at h) <;> (try (exfalso; omega)))))
      exact ge (congrArg (fun b => AV.v (Value.bool b)) (by simp))
    · obtain ⟨g1, g2, g3⟩ := dropc hd
      have h4 := get_map str1 g3
      repeat' (first|(first|(refine jl ?_;first|refine j1 ?_|refine j4 ?_|refine j6 ?_)|(refine dl ?_;first|refine dbl ?_|refine d1 ?_|refine d4 ?_|refine di1 ?_)|(refine jc ?_;first|refine c1 ?_|refine c2 ?_|refine c5 ?_|refine c6 ?_|refine cq ?_)|refine n1 ?_|refine n10 ?_)|(refine c9 (fun h=>?_) (fun h=>?_)<;>((try simp only [Bool.or_eq_true, Bool.and_eq_true, Bool.or_eq_false_iff, Bool.and_eq_false_iff, Bool.not_eq_true', Bool.not_eq_false', decide_eq_true_eq, decide_eq_false_iff_not, Bool.false_eq_true, Bool.true_eq_false, reduceCtorEq] at h) <;> (try simp (disch := omega) only [sb_bt, w64, Int.reduceAdd, Int.reduceToNat, Int.toNat_natCast, not_true_eq_false, false_or] at h) <;> (try (exfalso; omega)))))
      exact nx_for (i + 1) trivial (by omega) ⟨⟨_, rfl, wk1 (by omega)⟩, trivial⟩
  · repeat' (first|(first|(refine jl ?_;first|refine j1 ?_|refine j4 ?_|refine j12 (fun id hid=>?_)|refine j14 ?_|refine jp (k1) ?_|refine jp (k0) ?_)|(refine dl ?_;first|refine d1 ?_|refine d14 ?_)|(refine jc ?_;first|refine c1 ?_|refine c2 ?_|refine c6 ?_|refine c7 ?_|refine cq ?_)|refine n1 ?_|refine n2 ?_|refine n11 ?_)|(refine c9 (fun h=>?_) (fun h=>?_)<;>(try simp only [Bool.or_eq_true, Bool.and_eq_true, Bool.or_eq_false_iff, Bool.and_eq_false_iff, Bool.not_eq_true', Bool.not_eq_false', decide_eq_true_eq, decide_eq_false_iff_not, Bool.false_eq_true, Bool.true_eq_false, reduceCtorEq] at h)))
    · first | exact ge rfl | exact gvs (by (repeat' (first | exact finl_nil | apply finl_cons | exact Fin.refl _ _ _ | apply fin_pk2 | apply fin_pk3 | apply fin_agg | apply fin_tup | exact fin_nil | exact fin_sl rfl | exact fin_fz (by exact lkp) (by first | assumption | exact St.ns1 (by assumption) | exact St.ns2 (by assumption) | exact St.ns3 (by assumption) | exact St.ns4 (by assumption) | exact St.ns5 (by assumption) | exact St.ns6 (by assumption) | exact St.ns7 (by assumption) | exact St.ns8 (by assumption) | exact St.ns9 (by assumption) | exact St.ns10 (by assumption) | exact St.ns11 (by assumption) | exact St.ns12 (by assumption) | exact St.ns13 (by assumption) | exact St.ns14 (by assumption) | exact St.ns10 (by assumption) | exact St.ns11 (by assumption) | exact St.ns12 (by assumption) | exact St.ns13 (by assumption) | exact St.ns14 (by assumption)) (by first | exact rfl | assumption | (simp only [List.length_map, List.length_append, List.length_cons, List.length_nil]; done) | (simp only [List.length_map, List.length_append, List.length_cons, List.length_nil]; omega)) rfl (fun _ => rfl) | exact fin_eq rfl)))
    · exact absurd h h0
end Go.Proofs.YtddljegbggncdaaDoor.Ab

/- From a contract over abstract values to the row's own words. -/
set_option linter.unusedVariables false
set_option linter.unusedSimpArgs false
set_option maxRecDepth 20000
namespace Go.Proofs.YtddljegbggncdaaDoor.Ab
open Go Go.RowKit Go Go.RowKit

def k0 (w : World) : Cx := { ρ := fun _ => none, top := 0, σ := fun _ => none, base := w.heap.size, w := w }
theorem k0_ok {w : World} (hg : Ground w.heap.size w) : Ok (k0 w) := ⟨fun id h => absurd rfl h, fun id id' b h => absurd rfl h, fun id b h => absurd rfl h, Nat.le_refl _, (fun id o h => by cases h), hg⟩
theorem k0_live (w : World) (b : Nat) : ¬ (k0 w).live b := fun ⟨id, h, _⟩ => h rfl
theorem pure_start {P : Program} {f : FuncId} {args : List AV} {x : Value} (h : Pure P f args (.v x)) (w : World) (hg : Ground w.heap.size w) (vs : List Value) (hv : Reps (k0 w) args vs) : Calls P f vs.toArray w (fun e w' => e = .returned x ∧ Below w.heap.size w w') :=
  (h _ (k0 w) vs rfl (k0_ok hg) hv).mono fun e w' ⟨k', e', h1, h2, h3, h4, h5, h6⟩ => by
    subst h5; subst h1
    cases e with
    | returned v =>
      cases h4
      exact ⟨rfl, h3.os, h3.tape, h3.output, h3.size, fun b hb => (h3.frz b hb (k0_live w b)).1⟩
    | panicked ch => exact h4.elim
    | outgrown => exact h4.elim
theorem reps_nil (k : Cx) : Reps k [] [] := ⟨rfl, fun j a u h _ => by simp at h⟩
theorem reps_cons {k : Cx} {a : AV} {v : Value} {l : List AV} {vs : List Value} (h : Rep k a v) (h' : Reps k l vs) : Reps k (a :: l) (v :: vs) := by
  refine ⟨by simp [h'.1], fun j b u hb hu => ?_⟩
  cases j with
  | zero => simp at hb hu; subst hb; subst hu; exact h
  | succ j => exact h'.2 j b u (by simpa using hb) (by simpa using hu)

/-- What is told of a slice of integers that came in. -/
def IsRow (k : IntKind) (w : World) (a : Option Addr) (len cap : Nat) (zs : List Int) : Prop :=
  (a = none ∧ len = 0 ∧ cap = 0 ∧ zs = []) ∨
  ∃ x, a = some x ∧ len ≤ cap ∧ cap ≤ maxLen ∧ zs.length = cap ∧ (∀ i, i < zs.length → w.cell? (x.add i) = some (.int k (zs.getD i 0))) ∧ ∀ n ∈ zs, (Lit.int k n).wf = true
theorem okWide_spot {P : Program} {w : World} {base : Nat} {t e : TypeId} {a : Addr} {len cap : Nat} (ht : P.underlying t = some (.slice e)) (h : Value.okWide P w .any base t (.slice (some a) len cap)) : a.spot = none ∧ a.block < w.heap.size := by
  have h' : Cell.ok P w .any base t (.slice (some a) len cap) := by
    simpa [Value.okWide, Cell.okWide, ht] using h
  have h2 : len ≤ cap ∧ (cap : Int) ≤ IntKind.i64.max ∧ w.has P .any base a e cap := by simpa [Cell.ok, ht] using h'
  obtain ⟨_, _, _, h3, row, cells, h4, _⟩ := h2
  refine ⟨h3, ?_⟩
  unfold World.shape? at h4
  split at h4
  · rename_i h5; exact (Array.getElem?_eq_some_iff.1 h5).1
  · cases h4
theorem isrow_rep {P : Program} {w : World} {base : Nat} {t e : TypeId} {k : IntKind} {a : Option Addr} {len cap : Nat} {zs : List Int} (ht : P.underlying t = some (.slice e)) (hw : Value.okWide P w .any base t (.slice a len cap)) (h : IsRow k w a len cap zs) : Rep (k0 w) (.sl none false 1 ((zs.take len).map fun z => [.v (.int k z)])) (.slice a len cap) := by
  rcases h with ⟨rfl, rfl, rfl, rfl⟩ | ⟨x, rfl, h1, h2, h3, h4, h5⟩
  · exact .slnil (by simp)
  · obtain ⟨hs, hlt⟩ := okWide_spot ht hw
    obtain ⟨b, o, spot⟩ := x
    simp only at hs hlt
    subst hs
    have hl : ((zs.take len).map fun z => [AV.v (.int k z)]).length = len := by simp; omega
    have hgoal : Rep (k0 w) (.sl none false 1 ((zs.take len).map fun z => [AV.v (.int k z)])) (.slice (some ⟨b, o, none⟩) ((zs.take len).map fun z => [AV.v (.int k z)]).length cap) := by
      have hget : ∀ (i j : Nat) e a, ((zs.take len).map fun z => [AV.v (.int k z)])[i]? = some e → e[j]? = some a → j = 0 ∧ i < zs.length ∧ a = .v (.int k (zs.getD i 0)) := fun i j e a he ha => by
        simp only [List.getElem?_map, Option.map_eq_some_iff] at he
        obtain ⟨z, hz, rfl⟩ := he
        rw [List.getElem?_take] at hz
        split at hz
        · cases j with
          | zero =>
            have : zs.getD i 0 = z := by rw [List.getD_eq_getElem?_getD, hz]; rfl
            simp at ha
            exact ⟨rfl, (List.getElem?_eq_some_iff.1 hz).1, by rw [← ha, this]⟩
          | succ j => simp at ha
        · cases hz
      refine .sl (f := fun i j => .int k (zs.getD i 0)) (by simp) (by omega) (by omega) (by simp) (fun i e he => ?_) (fun _ => ⟨hlt, k0_live w b⟩) (fun i j e a he ha => ?_) (fun i j e a he ha => ?_)
      · simp only [List.getElem?_map, Option.map_eq_some_iff] at he
        obtain ⟨_, _, rfl⟩ := he
        rfl
      · obtain ⟨rfl, hi, _⟩ := hget i j e a he ha
        have := h4 i hi
        rw [Go.WideShapes.add_plain] at this
        refine ⟨?_, rfl⟩
        simpa [k0] using this
      · obtain ⟨rfl, hi, rfl⟩ := hget i j e a he ha
        exact .v rfl
    rw [hl] at hgoal
    exact hgoal
theorem isrow_mem {k : IntKind} {w : World} {a : Option Addr} {len cap : Nat} {zs : List Int} (h : IsRow k w a len cap zs) : ∀ n ∈ zs, (Lit.int k n).wf = true := by
  rcases h with ⟨_, _, _, rfl⟩ | ⟨_, _, _, _, _, _, h⟩
  · intro n hn; cases hn
  · exact h
theorem wf_u8 {n : Int} (h : (Lit.int .u8 n).wf = true) : 0 ≤ n ∧ n < 256 := by
  have := bounds_u8 h
  omega
theorem wf_i64 {n : Int} (h : (Lit.int .i64 n).wf = true) : -9223372036854775808 ≤ n ∧ n < 9223372036854775808 := by
  have := bounds_i64 h
  omega
theorem isrow_bytes {w : World} {a : Option Addr} {len cap : Nat} {zs : List Int} (h : IsRow .u8 w a len cap zs) : ((zs.take len).map fun z => [AV.v (.int .u8 z)]) = bys ((zs.take len).map fun z => UInt8.ofNat z.toNat) := by
  unfold bys
  rw [List.map_map]
  refine List.map_congr_left fun z hz => ?_
  obtain ⟨h0, h1⟩ := wf_u8 (isrow_mem h z (List.mem_of_mem_take hz))
  simp only [Function.comp_apply, List.cons.injEq, AV.v.injEq, Value.int.injEq, true_and, and_true]
  have : (UInt8.ofNat z.toNat).toNat = z.toNat := by simp; omega
  omega
end Go.Proofs.YtddljegbggncdaaDoor.Ab

/- What came in, opened: from the row's own reading to abstract values, for any type of numbers, strings, bools, structs, arrays and slices. -/
set_option linter.unusedVariables false
set_option linter.unusedSimpArgs false
set_option maxRecDepth 20000
namespace Go.Proofs.YtddljegbggncdaaDoor.Ab
open Go Go.RowKit

def inFields (P : Program) (R : TypeId → List AV → Prop) : List Field → List AV → Prop
  | [], cs => cs = []
  | f :: fs, cs => ∃ a b, cs = a ++ b ∧ a.length = P.cellsOf f.type ∧ R f.type a ∧ inFields P R fs b
def inElems (R : List AV → Prop) (sz : Nat) : Nat → List AV → Prop
  | 0, cs => cs = []
  | n + 1, cs => ∃ a b, cs = a ++ b ∧ a.length = sz ∧ R a ∧ inElems R sz n b
/-- The cells of a value of type t. -/
def isAV (P : Program) : Nat → TypeId → List AV → Prop
  | 0, _, _ => False
  | n + 1, t, cs => match P.underlying t with
    | some .bool => ∃ b, cs = [.v (.bool b)]
    | some (.int k) => ∃ m, cs = [.v (.int k m)] ∧ (Lit.int k m).wf = true
    | some .string => ∃ s, cs = [.v (.string s)] ∧ s.size ≤ maxLen
    | some (.slice e) => ∃ els, cs = [.sl none false (P.cellsOf e) els] ∧ els.length ≤ maxLen ∧ ∀ el ∈ els, el.length = P.cellsOf e ∧ isAV P n e el
    | some (.struct fs) => inFields P (isAV P n) fs.toList cs
    | some (.array m e) => inElems (isAV P n e) (P.cellsOf e) m cs
    | _ => False
def tile (P : Program) : List Field → Nat → Option Nat
  | [], o => some o
  | f :: fs, o => if f.offset = o then tile P fs (o + P.cellsOf f.type) else none
/-- Types that are opened so. -/
def plainT (P : Program) : Nat → TypeId → Bool
  | 0, _ => false
  | n + 1, t => match P.underlying t with
    | some .bool | some (.int _) | some .string => true
    | some (.slice e) => Nat.blt 0 (P.cellsOf e) && plainT P n e
    | some (.struct fs) => decide (tile P fs.toList 0 = some (P.cellsOf t)) && fs.toList.all (fun f => plainT P n f.type)
    | some (.array m e) => decide (m * P.cellsOf e = P.cellsOf t) && plainT P n e
    | _ => false
theorem CellsRep.append {k : Cx} {a b : List AV} {u v : List Value} (h : CellsRep k a u) (h' : CellsRep k b v) : CellsRep k (a ++ b) (u ++ v) := by
  refine ⟨by simp [h.1, h'.1], fun j x y hx hy => ?_⟩
  rcases Nat.lt_or_ge j a.length with hlt | hge
  · rw [List.getElem?_append_left hlt] at hx
    rw [List.getElem?_append_left (by rw [h.1]; exact hlt)] at hy
    exact h.2 j x y hx hy
  · rw [List.getElem?_append_right hge] at hx
    rw [List.getElem?_append_right (by rw [h.1]; exact hge), h.1] at hy
    exact h'.2 _ x y hx hy
theorem cellsRep_one {k : Cx} {a : AV} {u : Value} (h1 : u.oneCell' = true) (h : Rep k a u) : CellsRep k [a] [u] := by
  refine ⟨rfl, fun j x y hx hy => ?_⟩
  cases j with
  | zero => simp at hx hy; subst hx; subst hy; exact ⟨h1, h⟩
  | succ j => simp at hx
theorem cellsRep_nil (k : Cx) : CellsRep k [] [] := ⟨rfl, fun j x y hx => by simp at hx⟩
section
variable {H : Type} {enc : TypeId × Value → H} {P : Program} {w : World} {held : Bool}
theorem open_fields {n fuel : Nat} (ih : ∀ (t : TypeId) (cs : List Value) (x : DataW H × List MemPlace), plainT P n t = true → DataW.trod enc P w 0 (fun _ => true) held fuel t cs = some x → ∃ avs, isAV P n t avs ∧ CellsRep (k0 w) avs cs) :
    ∀ (fs : List Field) (o e : Nat) (cs : List Value), tile P fs o = some e → cs.length = e → fs.all (fun f => plainT P n f.type) = true →
      (∀ f ∈ fs, ∃ x, DataW.trod enc P w 0 (fun _ => true) held fuel f.type ((cs.drop f.offset).take (P.cellsOf f.type)) = some x) → ∃ avs, inFields P (isAV P n) fs avs ∧ CellsRep (k0 w) avs (cs.drop o) ∧ o ≤ e
  | [], o, e, cs, ht, hl, _, _ => by
    simp only [tile, Option.some.injEq] at ht
    exact ⟨[], rfl, by rw [List.drop_of_length_le (by omega)]; exact cellsRep_nil _, by omega⟩
  | f :: fs, o, e, cs, ht, hl, hp, hx => by
    unfold tile at ht
    split at ht
    · rename_i ho
      rw [List.all_cons, Bool.and_eq_true] at hp
      obtain ⟨avs, h1, h2, h3⟩ := open_fields ih fs _ e cs ht hl hp.2 (fun g hg => hx g (.tail _ hg))
      obtain ⟨x, hx1⟩ := hx f (.head _)
      obtain ⟨a, h4, h5⟩ := ih f.type _ x hp.1 hx1
      rw [ho] at h5
      refine ⟨a ++ avs, ⟨a, avs, rfl, ?_, h4, h1⟩, ?_, by omega⟩
      · rw [← h5.1, List.length_take, List.length_drop]; omega
      · have e1 : cs.drop o = (cs.drop o).take (P.cellsOf f.type) ++ cs.drop (o + P.cellsOf f.type) := by
          rw [← List.drop_drop, List.take_append_drop]
        rw [e1]
        exact h5.append h2
    · cases ht
theorem open_elems {n fuel : Nat} {e : TypeId} (ih : ∀ (cs : List Value) (x : DataW H × List MemPlace), DataW.trod enc P w 0 (fun _ => true) held fuel e cs = some x → ∃ avs, isAV P n e avs ∧ CellsRep (k0 w) avs cs) :
    ∀ (m : Nat) (cs : List Value), cs.length = m * P.cellsOf e → (∀ i, i < m → ∃ x, DataW.trod enc P w 0 (fun _ => true) held fuel e ((cs.drop (i * P.cellsOf e)).take (P.cellsOf e)) = some x) → ∃ avs, inElems (isAV P n e) (P.cellsOf e) m avs ∧ CellsRep (k0 w) avs cs
  | 0, cs, hl, _ => by
    have : cs = [] := List.eq_nil_of_length_eq_zero (by simpa using hl)
    subst this
    exact ⟨[], rfl, cellsRep_nil _⟩
  | m + 1, cs, hl, hx => by
    have hl' : cs.length = m * P.cellsOf e + P.cellsOf e := by rw [hl, Nat.add_mul, Nat.one_mul]
    obtain ⟨x, hx0⟩ := hx 0 (by omega)
    rw [Nat.zero_mul, List.drop_zero] at hx0
    obtain ⟨a, h1, h2⟩ := ih _ x hx0
    obtain ⟨b, h3, h4⟩ := open_elems ih m (cs.drop (P.cellsOf e)) (by rw [List.length_drop]; omega) (fun i hi => by
      obtain ⟨y, hy⟩ := hx (i + 1) (by omega)
      rw [Nat.add_mul, Nat.one_mul] at hy
      rw [List.drop_drop, Nat.add_comm (P.cellsOf e)]
      exact ⟨y, hy⟩)
    refine ⟨a ++ b, ⟨a, b, rfl, by rw [← h2.1, List.length_take]; omega, h1, h3⟩, ?_⟩
    rw [← List.take_append_drop (P.cellsOf e) cs]
    exact h2.append h4
theorem cells_get {a : Addr} {n : Nat} {cs : List Value} (h : w.cells? 0 a n = some cs) : cs.length = n ∧ ∀ j, j < n → ∃ u, cs[j]? = some u ∧ w.cell? (a.add j) = some u := by
  unfold World.cells? at h
  rw [if_pos (Nat.zero_le _)] at h
  refine ⟨by simpa using mapM_some_length h, fun j hj => ?_⟩
  have := mapM_some_get h j j (by simp [hj])
  have hl : j < cs.length := by rw [show cs.length = n by simpa using mapM_some_length h]; exact hj
  exact ⟨cs[j], List.getElem?_eq_getElem hl, by rw [this, List.getElem?_eq_getElem hl]⟩
theorem cell_plain {a : Addr} {u : Value} (h : w.cell? a = some u) : a.spot = none ∧ a.block < w.heap.size := by
  unfold World.cell? at h
  split at h
  · rename_i c t f hb
    split at h
    · cases h
    · rename_i hs
      exact ⟨by cases hh : a.spot <;> simp_all, (Array.getElem?_eq_some_iff.1 hb).1⟩
  · cases h
theorem choose_list {α : Type} {Q : Nat → α → Prop} : ∀ (n : Nat), (∀ i, i < n → ∃ x, Q i x) → ∃ l : List α, l.length = n ∧ ∀ i x, l[i]? = some x → Q i x
  | 0, _ => ⟨[], rfl, fun i x h => by simp at h⟩
  | n + 1, h => by
    obtain ⟨l, h1, h2⟩ := choose_list n (fun i hi => h i (by omega))
    obtain ⟨x, hx⟩ := h n (by omega)
    refine ⟨l ++ [x], by simp [h1], fun i y hy => ?_⟩
    rcases Nat.lt_or_ge i l.length with hlt | hge
    · rw [List.getElem?_append_left hlt] at hy
      exact h2 i y hy
    · rw [List.getElem?_append_right hge] at hy
      rcases Nat.eq_zero_or_pos (i - l.length) with h0 | h0
      · rw [h0] at hy
        simp at hy
        subst hy
        rwa [show i = n by omega]
      · rw [List.getElem?_eq_none (by simp; omega)] at hy
        cases hy
theorem open_cells : ∀ (n : Nat) (t : TypeId) (fuel : Nat) (cs : List Value) (x : DataW H × List MemPlace), plainT P n t = true → DataW.trod enc P w 0 (fun _ => true) held fuel t cs = some x → ∃ avs, isAV P n t avs ∧ CellsRep (k0 w) avs cs
  | 0, _, _, _, _, h, _ => by cases h
  | n + 1, t, fuel, cs, x, hp, h => by
    unfold plainT at hp
    split at hp
    · rename_i ht
      obtain ⟨b, rfl, _⟩ := DataW.trod_bool ht h
      exact ⟨_, by simp only [isAV, ht]; exact ⟨b, rfl⟩, cellsRep_one rfl (.v rfl)⟩
    · rename_i kk ht
      obtain ⟨m, rfl, _, hw⟩ := DataW.trod_int ht h
      exact ⟨_, by simp only [isAV, ht]; exact ⟨m, rfl, hw⟩, cellsRep_one rfl (.v rfl)⟩
    · rename_i ht
      obtain ⟨s, rfl, _, hs⟩ := DataW.trod_string ht h
      exact ⟨_, by simp only [isAV, ht]; exact ⟨s, rfl, hs⟩, cellsRep_one rfl (.v rfl)⟩
    · rename_i e ht
      rw [Bool.and_eq_true, Nat.blt_eq] at hp
      obtain ⟨hpos, hpe⟩ := hp
      rcases DataW.trod_slice ht h with ⟨rfl, _⟩ | ⟨a, len, cap, elems, rest, fu, rfl, rfl, _, _, hlc, hcm, hel, hget, hsp, _⟩
      · exact ⟨_, by simp only [isAV, ht]; exact ⟨[], rfl, by simp [maxLen], fun el h => by cases h⟩, cellsRep_one rfl (.slnil (by simp))⟩
      · obtain ⟨hrl, hrest⟩ := hsp rfl
        have hcell : ∀ i, i < len → ∃ (el : List AV × (Nat → Value)), (el.1.length = P.cellsOf e ∧ isAV P n e el.1) ∧ ∀ j b, el.1[j]? = some b → w.cell? ((a.add (i * P.cellsOf e)).add j) = some (el.2 j) ∧ (el.2 j).oneCell' = true ∧ Rep (k0 w) b (el.2 j) := fun i hi => by
          have h1 := hget i hi
          rw [List.getElem?_eq_getElem (show i < elems.length by omega), Option.bind_eq_some_iff] at h1
          obtain ⟨ci, h2, h3⟩ := h1
          obtain ⟨avs, h4, h5⟩ := open_cells n e fu ci _ hpe h3
          obtain ⟨h6, h7⟩ := cells_get h2
          refine ⟨(avs, fun j => (ci[j]?).getD undef), ⟨by rw [← h6, h5.1], h4⟩, fun j b hb => ?_⟩
          have hj : j < ci.length := by rw [h5.1]; exact (List.getElem?_eq_some_iff.1 hb).1
          obtain ⟨u, h8, h9⟩ := h7 j (by omega)
          simp only [h8, Option.getD_some]
          exact ⟨h9, h5.2 j b u hb h8⟩
        obtain ⟨els, hl, hels⟩ := choose_list len hcell
        have hav : isAV P (n + 1) t [.sl none false (P.cellsOf e) (els.map (·.1))] := by
          simp only [isAV, ht]
          refine ⟨els.map (·.1), rfl, by rw [List.length_map]; omega, fun el hm => ?_⟩
          obtain ⟨p, hpm, rfl⟩ := List.mem_map.1 hm
          obtain ⟨i, hi⟩ := List.mem_iff_getElem?.1 hpm
          exact (hels i p hi).1
        refine ⟨_, hav, cellsRep_one rfl ?_⟩
        by_cases hc0 : cap = 0
        · subst hc0
          have h0 : len = 0 := by omega
          subst h0
          rw [List.eq_nil_of_length_eq_zero hl]
          exact .sle (by simp)
        · have hplain : ∃ b o, a = ⟨b, o, none⟩ ∧ b < w.heap.size := by
            have hfirst : ∃ cs, w.cells? 0 a (P.cellsOf e) = some cs := by
              by_cases hl0 : 0 < len
              · have h1 := hget 0 hl0
                rw [List.getElem?_eq_getElem (show 0 < elems.length by omega), Option.bind_eq_some_iff] at h1
                obtain ⟨ci, h2, _⟩ := h1
                rw [Nat.zero_mul] at h2
                exact ⟨ci, by simpa [Addr.add] using h2⟩
              · have h1 := hrest 0 (by omega)
                rw [List.getElem?_eq_getElem (show 0 < rest.length by omega), Option.bind_eq_some_iff] at h1
                obtain ⟨ci, h2, _⟩ := h1
                rw [show len + 0 = 0 by omega, Nat.zero_mul] at h2
                exact ⟨ci, by simpa [Addr.add] using h2⟩
            obtain ⟨ci, h2⟩ := hfirst
            obtain ⟨_, h7⟩ := cells_get h2
            obtain ⟨u, _, h9⟩ := h7 0 hpos
            have := cell_plain h9
            simp only [Addr.add, if_true] at this
            obtain ⟨b, o, s⟩ := a
            obtain ⟨h10, h11⟩ := this
            simp only at h10 h11
            subst h10
            exact ⟨b, o, rfl, h11⟩
          obtain ⟨b, o, rfl, hb⟩ := hplain
          have hgoal : Rep (k0 w) (.sl none false (P.cellsOf e) (els.map (·.1))) (.slice (some ⟨b, o, none⟩) (els.map (·.1)).length cap) := by
            have hat : ∀ (i j : Nat) (q : List AV) (c : AV), (els.map (·.1))[i]? = some q → q[j]? = some c → ∃ p, els[i]? = some p ∧ p.1 = q ∧ w.cell? ⟨b, o + (i * P.cellsOf e + j), none⟩ = some (p.2 j) ∧ (p.2 j).oneCell' = true ∧ Rep (k0 w) c (p.2 j) := fun i j q c hq hc => by
              rw [List.getElem?_map, Option.map_eq_some_iff] at hq
              obtain ⟨p, hp1, rfl⟩ := hq
              obtain ⟨_, h12⟩ := hels i p hp1
              obtain ⟨h13, h14⟩ := h12 j c hc
              refine ⟨p, hp1, rfl, ?_, h14⟩
              have e1 : ((⟨b, o, none⟩ : Addr).add (i * P.cellsOf e)).add j = ⟨b, o + (i * P.cellsOf e + j), none⟩ := by
                rw [Addr.add_mid, Addr.add_mid, Nat.add_assoc]
              rwa [e1] at h13
            refine .sl (f := fun i j => ((els[i]?).map (fun p => p.2 j)).getD undef) (by simp) (by rw [List.length_map]; omega) (by rw [List.length_map]; omega) (by simp) (fun i q hq => ?_) (fun _ => ⟨hb, k0_live w b⟩) (fun i j q c hq hc => ?_) (fun i j q c hq hc => ?_)
            · rw [List.getElem?_map, Option.map_eq_some_iff] at hq
              obtain ⟨p, hp1, rfl⟩ := hq
              exact (hels i p hp1).1.1
            · obtain ⟨p, h15, _, h16, h17, _⟩ := hat i j q c hq hc
              simp only [h15, Option.map_some, Option.getD_some]
              exact ⟨h16, h17⟩
            · obtain ⟨p, h15, _, h16, h17, h18⟩ := hat i j q c hq hc
              simp only [h15, Option.map_some, Option.getD_some]
              exact h18
          rw [List.length_map, hl] at hgoal
          exact hgoal
    · rename_i fs ht
      rw [Bool.and_eq_true, decide_eq_true_eq] at hp
      obtain ⟨xs, fu, rfl, _, hl, hxl, hf⟩ := DataW.trod_struct ht h
      obtain ⟨avs, h1, h2, _⟩ := open_fields (fun t cs x => open_cells n t fu cs x) fs.toList 0 _ cs hp.1 hl hp.2 (fun f hfm => by
        obtain ⟨i, hi⟩ := List.mem_iff_getElem?.1 hfm
        have hi' : fs[i]? = some f := by simpa using hi
        have hlt : i < xs.length := by rw [hxl]; exact (Array.getElem?_eq_some_iff.1 hi').1
        exact ⟨xs[i], by rw [hf i f hi', List.getElem?_eq_getElem hlt]⟩)
      exact ⟨avs, by simp only [isAV, ht]; exact h1, by simpa using h2⟩
    · rename_i m e ht
      rw [Bool.and_eq_true, decide_eq_true_eq] at hp
      obtain ⟨xs, fu, rfl, _, hl, hxl, hf⟩ := DataW.trod_array ht h
      obtain ⟨avs, h1, h2⟩ := open_elems (fun cs x => open_cells n e fu cs x hp.2) m cs (by rw [hl, hp.1]) (fun i hi => ⟨xs[i], by rw [hf i hi, List.getElem?_eq_getElem (by omega)]⟩)
      exact ⟨avs, by simp only [isAV, ht]; exact h1, h2⟩
    · cases hp
/-- An argument. -/
def argAV (P : Program) (t : TypeId) (avs : List AV) : AV := match P.underlying t with
  | some (.struct _) | some (.array _ _) => .agg avs
  | _ => avs.headD (.tup [])
theorem open_arg {n base : Nat} {t : TypeId} {v : Value} {d : DataW H} {ps : List MemPlace} (hp : plainT P n t = true) (hv : Value.okWide P w .any base t v) (h : DataW.Trod enc P w 0 (fun _ => true) held t v d ps) : ∃ avs, isAV P n t avs ∧ Rep (k0 w) (argAV P t avs) v := by
  obtain ⟨fuel, hf⟩ := h
  obtain ⟨avs, h1, h2⟩ := open_cells n t fuel _ _ hp hf
  refine ⟨avs, h1, ?_⟩
  have hagg : (∃ cs, v = .agg cs) → Rep (k0 w) (.agg avs) v := by
    rintro ⟨cs, rfl⟩
    have h3 : (Value.agg cs).cells = cs := rfl
    rw [h3] at h2
    exact .agg (by simpa using h2.1) (fun j u hu => by
      have hj : j < avs.length := by rw [← h2.1]; simpa using (Array.getElem?_eq_some_iff.1 hu).1
      exact (h2.2 j _ u (List.getElem?_eq_getElem hj) (by simpa using hu)).1) (fun j a u ha hu => (h2.2 j a u ha (by simpa using hu)).2)
  have hone : v.cells.toList = [v] → Rep (k0 w) (avs.headD (.tup [])) v := fun h3 => by
    rw [h3] at h2
    obtain ⟨h4, h5⟩ := h2
    match avs, h4 with
    | [a], _ => exact (h5 0 a v rfl rfl).2
  cases n with
  | zero => cases hp
  | succ n =>
    unfold plainT at hp
    unfold argAV
    split at hp
    · rename_i ht
      rw [ht]
      simp only [Value.okWide, ht, Cell.okWide, Cell.ok] at hv
      exact hone (by cases v <;> first | rfl | (simp at hv))
    · rename_i kk ht
      rw [ht]
      simp only [Value.okWide, ht, Cell.okWide, Cell.ok] at hv
      exact hone (by cases v <;> first | rfl | (simp at hv))
    · rename_i ht
      rw [ht]
      simp only [Value.okWide, ht, Cell.okWide, Cell.ok] at hv
      exact hone (by cases v <;> first | rfl | (simp at hv))
    · rename_i e ht; rw [ht]; obtain ⟨a, l, c, rfl⟩ := Go.WideShapes.okWide_slice ht hv; exact hone rfl
    · rename_i fs ht; rw [ht]; obtain ⟨cs, rfl, _⟩ := Go.WideShapes.okWide_struct ht hv; exact hagg ⟨cs, rfl⟩
    · rename_i m e ht
      rw [ht]
      have : ∃ cs, v = .agg cs := by
        simp only [Value.okWide, ht] at hv
        obtain ⟨cs, h1, _⟩ := hv
        exact ⟨cs, h1⟩
      exact hagg this
    · cases hp
theorem list_of {α β : Type} {g : α → β} {Q : α → Prop} : ∀ (l : List β), (∀ b ∈ l, ∃ x, b = g x ∧ Q x) → ∃ xs : List α, l = xs.map g ∧ ∀ x ∈ xs, Q x
  | [], _ => ⟨[], rfl, fun x h => by cases h⟩
  | b :: l, h => by
    obtain ⟨x, rfl, hq⟩ := h b (.head _)
    obtain ⟨xs, rfl, h2⟩ := list_of l (fun c hc => h c (.tail _ hc))
    exact ⟨x :: xs, rfl, fun y hy => by
      rcases List.mem_cons.1 hy with rfl | hy
      · exact hq
      · exact h2 y hy⟩
end
end Go.Proofs.YtddljegbggncdaaDoor.Ab

/- Bytes that came in, opened. -/
set_option linter.unusedVariables false
set_option linter.unusedSimpArgs false
set_option maxRecDepth 20000
namespace Go.Proofs.YtddljegbggncdaaDoor.Ab
open Go Go.RowKit
theorem open_bytes {P : Program} {n : Nat} {t e : TypeId} {avs : List AV} (ht : P.underlying t = some (.slice e)) (he : P.underlying e = some (.int .u8)) (hc : P.cellsOf e = 1) (h : isAV P (n + 2) t avs) : ∃ l : List UInt8, avs = [.sl none false 1 (bys l)] ∧ l.length ≤ maxLen := by
  simp only [isAV, ht, he, hc] at h
  obtain ⟨els, rfl, hl, h⟩ := h
  obtain ⟨xs, rfl, _⟩ := list_of (g := fun b : UInt8 => [AV.v (.int .u8 b.toNat)]) (Q := fun _ => True) els (fun el hel => by
    obtain ⟨_, m, rfl, hm⟩ := h el hel
    obtain ⟨h0, h1⟩ := wf_u8 hm
    refine ⟨UInt8.ofNat m.toNat, ?_, trivial⟩
    have : (UInt8.ofNat m.toNat).toNat = m.toNat := by simp; omega
    simp only [this, List.cons.injEq, AV.v.injEq, Value.int.injEq, true_and, and_true]
    omega)
  exact ⟨xs, rfl, by simpa using hl⟩
end Go.Proofs.YtddljegbggncdaaDoor.Ab

/- Classes, facts and what changes them, that came in, opened. -/
set_option linter.unusedVariables false
set_option linter.unusedSimpArgs false
set_option maxRecDepth 20000
namespace Go.Proofs.YtddljegbggncdaaDoor.Ab
open Go Go.RowKit
theorem open_list {P : Program} {n : Nat} {t e : TypeId} {sz : Nat} {avs : List AV} {α : Type} (g : α → List AV) (Q : α → Prop) (ht : P.underlying t = some (.slice e)) (hc : P.cellsOf e = sz) (h : isAV P (n + 1) t avs) (he : ∀ el, isAV P n e el → ∃ x, el = g x ∧ Q x) : ∃ l : List α, avs = [.sl none false sz (l.map g)] ∧ (∀ x ∈ l, Q x) ∧ l.length ≤ maxLen := by
  simp only [isAV, ht, hc] at h
  obtain ⟨els, rfl, hl, h⟩ := h
  obtain ⟨xs, rfl, hq⟩ := list_of (g := g) (Q := Q) els (fun el hel => he el (h el hel).2)
  exact ⟨xs, rfl, hq, by simpa using hl⟩
theorem open_v {n : Nat} {avs : List AV} (h : isAV Tryd.prog (n + 2) 37 avs) : ∃ v : Vl, avs = vc v ∧ (0 ≤ v.k ∧ v.k < 256) ∧ (-9223372036854775808 ≤ v.n ∧ v.n < 9223372036854775808) := by
  obtain ⟨a, r1, rfl, _, ⟨k, rfl, hk⟩, b, r2, rfl, _, ⟨m, rfl, hm⟩, c, r3, rfl, _, ⟨s, rfl, hs⟩, rfl⟩ := h
  exact ⟨⟨k, m, s⟩, rfl, wf_u8 hk, wf_i64 hm⟩
theorem open_s {n : Nat} {avs : List AV} (h : isAV Tryd.prog (n + 1) 9 avs) : ∃ s : ByteArray, avs = str1 s ∧ True := by
  obtain ⟨s, rfl, _⟩ : ∃ s, avs = [AV.v (.string s)] ∧ s.size ≤ maxLen := h
  exact ⟨s, rfl, trivial⟩
theorem open_c {n : Nat} {avs : List AV} (h : isAV Tryd.prog (n + 3) 95 avs) : ∃ c : Cls, avs = cc c ∧ True := by
  obtain ⟨a, r1, rfl, _, ⟨s, rfl, _⟩, b, r2, rfl, _, hb, rfl⟩ := h
  obtain ⟨l, rfl, _, _⟩ := open_list (e := 9) (sz := 1) str1 (fun _ => True) (by kernel_rfl) (by kernel_rfl) hb (fun el hel => open_s hel)
  exact ⟨⟨s, l⟩, rfl, trivial⟩
theorem open_f {n : Nat} {avs : List AV} (h : isAV Tryd.prog (n + 4) 28 avs) : ∃ f : Fc, avs = fc f ∧ ∀ v ∈ f.vals, (0 ≤ v.k ∧ v.k < 256) ∧ (-9223372036854775808 ≤ v.n ∧ v.n < 9223372036854775808) := by
  obtain ⟨a, r1, rfl, _, ⟨m, rfl, hm⟩, b, r2, rfl, _, ⟨s, rfl, _⟩, c, r3, rfl, _, hc, rfl⟩ := h
  obtain ⟨l, rfl, hq, _⟩ := open_list (e := 37) (sz := 3) vc (fun v => (0 ≤ v.k ∧ v.k < 256) ∧ (-9223372036854775808 ≤ v.n ∧ v.n < 9223372036854775808)) (by kernel_rfl) (by kernel_rfl) hc (fun el hel => open_v hel)
  exact ⟨⟨m, s, l⟩, rfl, hq⟩
theorem open_b {n : Nat} {avs : List AV} (h : isAV Tryd.prog (n + 3) 50 avs) : ∃ b : Bd, avs = bc b ∧ (0 ≤ b.val.k ∧ b.val.k < 256) := by
  obtain ⟨a, r1, rfl, _, ⟨s, rfl, _⟩, b, r2, rfl, _, hb, rfl⟩ := h
  obtain ⟨v, rfl, hk, _⟩ := open_v hb
  exact ⟨⟨s, v⟩, rfl, hk⟩
theorem open_cs {n : Nat} {avs : List AV} (h : isAV Tryd.prog (n + 4) 22 avs) : ∃ l : List Cls, avs = [.sl none false 2 (l.map cc)] := by
  obtain ⟨l, rfl, _⟩ := open_list (e := 95) (sz := 2) cc (fun _ => True) (by kernel_rfl) (by kernel_rfl) h (fun el hel => open_c hel)
  exact ⟨l, rfl⟩
theorem open_bs {n : Nat} {avs : List AV} (h : isAV Tryd.prog (n + 4) 29 avs) : ∃ l : List Bd, avs = [.sl none false 4 (l.map bc)] := by
  obtain ⟨l, rfl, _⟩ := open_list (e := 50) (sz := 4) bc (fun b => 0 ≤ b.val.k ∧ b.val.k < 256) (by kernel_rfl) (by kernel_rfl) h (fun el hel => open_b hel)
  exact ⟨l, rfl⟩
end Go.Proofs.YtddljegbggncdaaDoor.Ab

/- Conditions, and what is asked of them, opened. -/
set_option linter.unusedVariables false
set_option linter.unusedSimpArgs false
set_option maxRecDepth 20000
namespace Go.Proofs.YtddljegbggncdaaDoor.Ab
open Go Go.RowKit
theorem open_tst {n : Nat} {avs : List AV} (h : isAV Tryd.prog (n + 3) 88 avs) : ∃ t : Tst, avs = tc t ∧ (0 ≤ t.p ∧ t.p < 256) := by
  obtain ⟨a, r1, rfl, _, ⟨m, rfl, hm⟩, b, r2, rfl, _, ⟨s, rfl, _⟩, c, r3, rfl, _, hc, rfl⟩ := h
  obtain ⟨v, rfl, hk, _⟩ := open_v hc
  exact ⟨⟨m, s, v⟩, rfl, wf_u8 hm⟩
theorem open_atr {n : Nat} {avs : List AV} (h : isAV Tryd.prog (n + 5) 91 avs) : ∃ a : Atr, avs = ac a ∧ True := by
  obtain ⟨a, r1, rfl, _, ⟨s, rfl, _⟩, b, r2, rfl, _, hb, c, r3, rfl, _, hc, rfl⟩ := h
  obtain ⟨o, rfl, _⟩ := open_list (e := 37) (sz := 3) vc (fun v => True) (by kernel_rfl) (by kernel_rfl) hb (fun el hel => by obtain ⟨v, h, _⟩ := open_v hel; exact ⟨v, h, trivial⟩)
  obtain ⟨t, rfl, _⟩ := open_list (e := 88) (sz := 5) tc (fun v => True) (by kernel_rfl) (by kernel_rfl) hc (fun el hel => by obtain ⟨v, h, _⟩ := open_tst hel; exact ⟨v, h, trivial⟩)
  exact ⟨⟨s, o, t⟩, rfl, trivial⟩
theorem open_cnd {n : Nat} {avs : List AV} (h : isAV Tryd.prog (n + 7) 25 avs) : ∃ c : Cnd, avs = dc c ∧ True := by
  obtain ⟨a, r1, rfl, _, ⟨b, rfl⟩, b, r2, rfl, _, ⟨s, rfl, _⟩, c, r3, rfl, _, hc, rfl⟩ := h
  obtain ⟨l, rfl, _⟩ := open_list (e := 91) (sz := 3) ac (fun v => True) (by kernel_rfl) (by kernel_rfl) hc (fun el hel => open_atr hel)
  exact ⟨⟨_, s, l⟩, rfl, trivial⟩
theorem open_ask {n : Nat} {avs : List AV} (h : isAV Tryd.prog (n + 8) 31 avs) : ∃ (c : Cnd) (f : Fc) (bd : List Bd), avs = askc c f bd := by
  obtain ⟨a, r1, rfl, _, ha, b, r2, rfl, _, hb, c, r3, rfl, _, hc, rfl⟩ := h
  obtain ⟨x, rfl, _⟩ := open_cnd ha
  obtain ⟨f, rfl, _⟩ := open_f hb
  obtain ⟨bd, rfl⟩ := open_bs hc
  exact ⟨x, f, bd, rfl⟩
end Go.Proofs.YtddljegbggncdaaDoor.Ab
