/- The texts R4, D2, D3, D4, D5, R5, R6, R7, C5, D6, one behind the other. -/
import Derived.Test.YtbpoeggmpjepfaaDoorM1
import Derived.Test.YtbpoeggmpjepfaaDoorM2
import Derived.Test.YtbpoeggmpjepfaaDoorM3
import Derived.Test.YtbpoeggmpjepfaaDoorM4
import Derived.Test.YtbpoeggmpjepfaaDoorM5
import Derived.Test.YtbpoeggmpjepfaaDoorM6
import Derived.Test.YtbpoeggmpjepfaaDoorM7
/- What a rule does: expressions. -/
set_option linter.unusedVariables false
set_option linter.unusedSimpArgs false
set_option maxRecDepth 20000
namespace Go.Proofs.YtbpoeggmpjepfaaDoor.Ab
open Go
attribute [local irreducible] thn inb endR CJ LJ OpJ DJ DA DB AllocK
def evalGo (bd : List Bd) : List Itm → List Vl → Vl × Int
  | [], pile => match pile with
    | [v] => (v, 0)
    | _ => (noV, 4)
  | x :: r, pile => if x.k = 0 then (if valE x.val = 0 then evalGo bd r (pile ++ [x.val]) else (noV, 4)) else if x.k = 1 then (if lookB x.var bd = true then evalGo bd r (pile ++ [lookV x.var bd]) else (noV, 20)) else match lastTwo pile with
    | none => (noV, 4)
    | some (pre, a, b) => if opE x.k a b = 0 then evalGo bd r (pre ++ [opV x.k a b]) else (noV, opE x.k a b)
theorem evalGo_const {bd : List Bd} {x : Itm} {r : List Itm} {pile : List Vl} (h : x.k = 0) : evalGo bd (x :: r) pile = if valE x.val = 0 then evalGo bd r (pile ++ [x.val]) else (noV, 4) := by
  show (if x.k = 0 then _ else _) = _
  rw [if_pos h]
theorem evalGo_var {bd : List Bd} {x : Itm} {r : List Itm} {pile : List Vl} (h : x.k = 1) : evalGo bd (x :: r) pile = if lookB x.var bd = true then evalGo bd r (pile ++ [lookV x.var bd]) else (noV, 20) := by
  show (if x.k = 0 then _ else if x.k = 1 then _ else _) = _
  rw [if_neg (by omega), if_pos h]
theorem evalGo_short {bd : List Bd} {x : Itm} {r : List Itm} {pile : List Vl} (h0 : x.k ≠ 0) (h1 : x.k ≠ 1) (h : pile.length < 2) : evalGo bd (x :: r) pile = (noV, 4) := by unfold evalGo; rw [if_neg h0, if_neg h1, lastTwo_short h]
theorem evalGo_op {bd : List Bd} {x : Itm} {r : List Itm} {pre : List Vl} {a b : Vl} (h0 : x.k ≠ 0) (h1 : x.k ≠ 1) : evalGo bd (x :: r) (pre ++ [a, b]) = if opE x.k a b = 0 then evalGo bd r (pre ++ [opV x.k a b]) else (noV, opE x.k a b) := by
  show (if x.k = 0 then _ else if x.k = 1 then _ else match lastTwo (pre ++ [a, b]) with | none => (noV, 4) | some (pre, a, b) => if opE x.k a b = 0 then evalGo bd r (pre ++ [opV x.k a b]) else (noV, opE x.k a b)) = _
  rw [if_neg h0, if_neg h1, lastTwo_some]
theorem evalGo_end {bd : List Bd} {pile : List Vl} (h : pile.length ≠ 1) : evalGo bd [] pile = (noV, 4) := by
  match pile, h with
  | [], _ => rfl
  | [_], h => exact absurd rfl h
  | _ :: _ :: _, _ => rfl
set_option maxHeartbeats 8000000 in
theorem p_eval (nl nl2 : Option Bool) (full full2 : Bool) (l : List Itm) (bd : List Bd) (hl : l.length ≤ 60000) : Pure Tryd.prog 8 [.sl nl full 5 (l.map itc), .sl nl2 full2 4 (bd.map bc)] (.tup [.agg (vc (evalGo bd l []).1), .v (.int .i64 (evalGo bd l []).2)]) := by
  refine enterW Tryd.func8 rfl rfl rfl rfl (fun σ => ?_)
  have hn : (l.map itc).length = l.length := List.length_map ..
  repeat' (first|(first|(refine jl ?_;first|refine j1 ?_|refine j4 ?_|refine j13 (fun id hid=>?_))|(refine jc ?_;first|refine c1 ?_|refine c2 ?_|refine c5 ?_)))
  first | refine cj_id 4 (fun b e => ?_) | refine lj_id 4 (fun b e => ?_)
  subst e
  refine cj_ghost (ghost_nil (t := 6) 3 30 rfl (fun w0 hw0 => ?_))
  have hb : σ b = none := hid
  refine cj_for (fun s : Nat × Nat × List Vl => s.1 ≤ l.length ∧ (σ.set b (.row 3 30 [vc noV])) s.2.1 = none ∧ evalGo bd (l.drop s.1) s.2.2 = evalGo bd l [] ∧ s.2.2.length ≤ s.1) (fun s => [(15, .v (.int .i64 s.1)), (6, .osl s.2.1 3 0 s.2.2.length)]) (fun s => (σ.set b (.row 3 30 [vc noV])).set s.2.1 (.row 3 30 (s.2.2.map vc))) (fun s => l.length - s.1) (0, w0, []) ⟨Nat.zero_le _, hw0, rfl, Nat.le_refl _⟩ ⟨⟨_, rfl, fun _ _ h => h⟩, ⟨_, rfl, fun _ _ h => h⟩, trivial⟩ (St.le_refl _) (fun s hs2 => ?_)
  obtain ⟨i, w, pile⟩ := s
  dsimp only at hs2 ⊢
  obtain ⟨h1, h2, h3, h4⟩ := hs2
  have hnp : (pile.map vc).length = pile.length := List.length_map ..
  have hwb : b ≠ w := St.ne_of_none h2
  have hw1 : σ w = none := St.none_set h2
  rcases hd : l.drop i with _ | ⟨x, r⟩
  · have z1 := dropn hd
    rw [hd] at h3
    by_cases hp : pile.length = 1
    · obtain ⟨v, rfl⟩ : ∃ v, pile = [v] := by
        match pile, hp with
        | [v], _ => exact ⟨v, rfl⟩
      rw [← h3]
      repeat' (first|(first|(refine jl ?_;first|refine j1 ?_|refine j4 ?_|refine j14 ?_|refine j17 ?_|refine ji4 ?_)|(refine jc ?_;first|refine c1 ?_|refine c2 ?_|refine c6 ?_|refine c7 ?_|refine c8 ?_)|refine n1 ?_|refine n3 ?_|refine n7 ?_|refine n8 ?_|refine n15 ?_)|(refine c9 (fun h=>?_) (fun h=>?_)<;>((try simp only [Bool.or_eq_true, Bool.and_eq_true, Bool.or_eq_false_iff, Bool.and_eq_false_iff, Bool.not_eq_true', Bool.not_eq_false', decide_eq_true_eq, decide_eq_false_iff_not, Bool.false_eq_true, Bool.true_eq_false, reduceCtorEq] at h) <;> (try simp (disch := omega) only [sb_bt, w64, Int.reduceAdd, Int.reduceToNat, Int.toNat_natCast, not_true_eq_false, false_or] at h) <;> (try (exfalso; omega)))))
      all_goals first
        | exact gives (by repeat' (first | exact St.le_refl _ | refine St.le_any ?_)) (Fin.refl _ _ _)
        | (exfalso; simp at h; done)
    · rw [← h3, evalGo_end hp]
      repeat' (first|(first|(refine jl ?_;first|refine jb ?_|refine j1 ?_|refine j4 ?_|refine j17 ?_)|(refine jc ?_;first|refine c1 ?_|refine c2 ?_|refine c7 ?_|refine c8 ?_)|refine n1 ?_|refine n2 ?_|refine n3 ?_|refine n7 ?_|refine n8 ?_|refine n15 ?_)|(refine c9 (fun h=>?_) (fun h=>?_)<;>((try simp only [Bool.or_eq_true, Bool.and_eq_true, Bool.or_eq_false_iff, Bool.and_eq_false_iff, Bool.not_eq_true', Bool.not_eq_false', decide_eq_true_eq, decide_eq_false_iff_not, Bool.false_eq_true, Bool.true_eq_false, reduceCtorEq] at h) <;> (try simp (disch := omega) only [sb_bt, w64, Int.reduceAdd, Int.reduceToNat, Int.toNat_natCast, not_true_eq_false, false_or] at h) <;> (try (exfalso; omega)))))
      all_goals first
        | exact gives (by repeat' (first | exact St.le_refl _ | refine St.le_any ?_)) (Fin.refl _ _ _)
        | (exfalso; omega)
  · obtain ⟨u1, u2, u3⟩ := dropc hd
    have u4 := get_map itc u3
    rw [hd] at h3
    obtain ⟨xk, ⟨vk, vn, vs⟩, xv⟩ := x
    have hap : ∀ v : Vl, (pile.map vc).take pile.length ++ [vc v] = (pile ++ [v]).map vc := fun v => by rw [List.take_of_length_le (by omega), List.map_append]; rfl
    by_cases hk : xk = 0
    · subst hk
      rw [evalGo_const rfl] at h3
      have k1 := p_check vk vn vs
      repeat' (first|(first|(refine jl ?_;first|refine jb ?_|refine jbl ?_|refine j1 ?_|refine j4 ?_|refine j13 (fun id hid=>?_)|refine j14 ?_|refine j17t ?_|refine j17 ?_|refine ji1 ?_|refine jp (k1) ?_|refine jlit ?_)|(refine jc ?_;first|refine c1 ?_|refine c2 ?_|refine c5 ?_|refine c6 ?_|refine c7 ?_)|refine n1 ?_|refine n2 ?_|refine n5 ?_|refine n6 ?_|refine n15 ?_)|(refine c9 (fun h=>?_) (fun h=>?_)<;>((try simp only [Bool.or_eq_true, Bool.and_eq_true, Bool.or_eq_false_iff, Bool.and_eq_false_iff, Bool.not_eq_true', Bool.not_eq_false', decide_eq_true_eq, decide_eq_false_iff_not, Bool.false_eq_true, Bool.true_eq_false, reduceCtorEq] at h) <;> (try simp (disch := omega) only [sb_bt, w64, Int.reduceAdd, Int.reduceToNat, Int.toNat_natCast, not_true_eq_false, false_or] at h) <;> (try (exfalso; omega)))))
      · rw [← h3, if_neg h]
        exact gives (by repeat' (first | exact St.le_refl _ | refine St.le_any ?_)) (Fin.refl _ _ _)
      · rw [if_pos h, ← u2] at h3
        refine japo (n := pile.length) (m := pile.length + 1) (news := [vc ⟨vk, vn, vs⟩]) (fun w2 hw2 => ?_) (hap _) rfl (hn := by omega) (hb := by dsimp only [List.length]; omega)
        repeat (first|(refine jl ?_;first|refine j1 ?_|refine j6 ?_)|(refine jc ?_;first|refine c2 ?_)|refine n1 ?_|refine n10 ?_)
        refine nx_forS (i + 1, w2, pile ++ [(⟨vk, vn, vs⟩ : Vl)]) ⟨by dsimp only; omega, St.ns2 hw2, h3, by dsimp only; rw [List.length_append, List.length_singleton]; omega⟩ (by dsimp only; omega) ⟨⟨_, rfl, wk1 (by omega)⟩, ⟨_, rfl, Wk.of_eq (by dsimp only; rw [List.length_append, List.length_singleton])⟩, trivial⟩ ?_
        exact St.le_set2 (St.leX_same (St.leX_del (St.leX_any (St.leX_any (St.leX_refl _ _) h2) (St.none_set hid)) h2)) (St.set_same _ _ _)
    · by_cases hk1 : xk = 1
      · subst hk1
        rw [evalGo_var rfl] at h3
        have k1 := p_lookup nl2 full2 bd xv
        repeat' (first|(first|(refine jl ?_;first|refine jb ?_|refine jbl ?_|refine j1 ?_|refine j4 ?_|refine j13 (fun id hid=>?_)|refine j14 ?_|refine j17t ?_|refine j17 ?_|refine ji1 ?_|refine jp (k1) ?_|refine jlit ?_)|(refine jc ?_;first|refine c1 ?_|refine c2 ?_|refine c5 ?_|refine c6 ?_|refine c7 ?_)|refine n1 ?_|refine n2 ?_|refine n5 ?_|refine n6 ?_|refine n15 ?_)|(refine c9 (fun h=>?_) (fun h=>?_)<;>((try simp only [Bool.or_eq_true, Bool.and_eq_true, Bool.or_eq_false_iff, Bool.and_eq_false_iff, Bool.not_eq_true', Bool.not_eq_false', decide_eq_true_eq, decide_eq_false_iff_not, Bool.false_eq_true, Bool.true_eq_false, reduceCtorEq] at h) <;> (try simp (disch := omega) only [sb_bt, w64, Int.reduceAdd, Int.reduceToNat, Int.toNat_natCast, not_true_eq_false, false_or] at h) <;> (try (exfalso; omega)))))
        all_goals first | (exfalso; simp at h; done) | skip
        · rw [← h3, if_neg (by rw [h]; exact Bool.false_ne_true)]
          exact gives (by repeat' (first | exact St.le_refl _ | refine St.le_any ?_)) (Fin.refl _ _ _)
        · skip
          rw [if_pos h, ← u2] at h3
          refine japo (n := pile.length) (m := pile.length + 1) (news := [vc (lookV xv bd)]) (fun w2 hw2 => ?_) (hap _) rfl (hn := by omega) (hb := by dsimp only [List.length]; omega)
          repeat (first|(refine jl ?_;first|refine j1 ?_|refine j6 ?_)|(refine jc ?_;first|refine c2 ?_)|refine n1 ?_|refine n10 ?_)
          refine nx_forS (i + 1, w2, pile ++ [lookV xv bd]) ⟨by dsimp only; omega, St.ns3 hw2, h3, by dsimp only; rw [List.length_append, List.length_singleton]; omega⟩ (by dsimp only; omega) ⟨⟨_, rfl, wk1 (by omega)⟩, ⟨_, rfl, Wk.of_eq (by dsimp only; rw [List.length_append, List.length_singleton])⟩, trivial⟩ ?_
          exact St.le_set2 (St.leX_same (St.leX_del (St.leX_any (St.leX_any (St.leX_any (St.leX_refl _ _) h2) (St.none_set (by assumption))) (St.none_set (St.none_set (by assumption)))) h2)) (St.set_same _ _ _)
      · by_cases hp : pile.length < 2
        · rw [evalGo_short hk hk1 hp] at h3
          repeat' (first|(first|(refine jl ?_;first|refine jb ?_|refine jbl ?_|refine j1 ?_|refine j4 ?_|refine j13 (fun id hid=>?_)|refine j14 ?_|refine j17t ?_|refine j17 ?_|refine ji1 ?_|refine lj_to rfl rfl rfl (q_operate_short xk pile lkp hp) ?_)|(refine jc ?_;first|refine c1 ?_|refine c2 ?_|refine c5 ?_|refine c6 ?_|refine c7 ?_)|refine n1 ?_|refine n2 ?_|refine n5 ?_|refine n6 ?_|refine n15 ?_)|(refine c9 (fun h=>?_) (fun h=>?_)<;>((try simp only [Bool.or_eq_true, Bool.and_eq_true, Bool.or_eq_false_iff, Bool.and_eq_false_iff, Bool.not_eq_true', Bool.not_eq_false', decide_eq_true_eq, decide_eq_false_iff_not, Bool.false_eq_true, Bool.true_eq_false, reduceCtorEq] at h) <;> (try simp (disch := omega) only [sb_bt, w64, Int.reduceAdd, Int.reduceToNat, Int.toNat_natCast, not_true_eq_false, false_or] at h) <;> (try (exfalso; omega)))))
          all_goals first | (exfalso; simp at h; done) | (exfalso; exact hk h) | (exfalso; exact hk1 h) | skip
          rw [← h3]
          exact gives (by repeat' (first | exact St.le_refl _ | refine St.le_any ?_)) (Fin.refl _ _ _)
        · obtain ⟨pre, a, c, rfl⟩ := two_of hp
          rw [evalGo_op hk hk1] at h3
          have e2 : (pre ++ [a, c]).length = pre.length + 2 := by rw [List.length_append]; rfl
          rw [e2] at h4 hnp ⊢
          by_cases ho : opE xk a c = 0
          · rw [if_pos ho, ← u2] at h3
            repeat' (first|(first|(refine jl ?_;first|refine jbl ?_|refine j1 ?_|refine j4 ?_|refine j13 (fun id hid=>?_)|refine j14 ?_|refine j17t ?_|refine ji1 ?_)|(refine jc ?_;first|refine c1 ?_|refine c2 ?_|refine c5 ?_|refine c6 ?_)|refine n1 ?_)|(refine c9 (fun h=>?_) (fun h=>?_)<;>((try simp only [Bool.or_eq_true, Bool.and_eq_true, Bool.or_eq_false_iff, Bool.and_eq_false_iff, Bool.not_eq_true', Bool.not_eq_false', decide_eq_true_eq, decide_eq_false_iff_not, Bool.false_eq_true, Bool.true_eq_false, reduceCtorEq] at h) <;> (try simp (disch := omega) only [sb_bt, w64, Int.reduceAdd, Int.reduceToNat, Int.toNat_natCast, not_true_eq_false, false_or] at h) <;> (try (exfalso; omega)))))
            all_goals first | (exfalso; simp at h; done) | (exfalso; exact hk h) | (exfalso; exact hk1 h) | skip
            refine lj_calls rfl rfl rfl (q_operate_ok xk pre a c lkp (by omega) ho) (fun r σ2 hr => ?_) (fun x σ2 ⟨_, _, h, _⟩ => by cases h)
            obtain ⟨w2, hw2, e, e3⟩ := hr
            cases e
            subst e3
            repeat' (first|(first|(refine jl ?_;first|refine j1 ?_|refine j4 ?_|refine j6 ?_)|(refine jc ?_;first|refine c1 ?_|refine c2 ?_|refine c6 ?_)|refine n1 ?_|refine n10 ?_)|(refine c9 (fun h=>?_) (fun h=>?_)<;>((try simp only [Bool.or_eq_true, Bool.and_eq_true, Bool.or_eq_false_iff, Bool.and_eq_false_iff, Bool.not_eq_true', Bool.not_eq_false', decide_eq_true_eq, decide_eq_false_iff_not, Bool.false_eq_true, Bool.true_eq_false, reduceCtorEq] at h) <;> (try simp (disch := omega) only [sb_bt, w64, Int.reduceAdd, Int.reduceToNat, Int.toNat_natCast, not_true_eq_false, false_or] at h) <;> (try (exfalso; omega)))))
            refine nx_forS (i + 1, w2, pre ++ [opV xk a c]) ⟨by dsimp only; omega, St.ns2 hw2, h3, by dsimp only; rw [List.length_append, List.length_singleton]; omega⟩ (by dsimp only; omega) ⟨⟨_, rfl, wk1 (by omega)⟩, ⟨_, rfl, Wk.of_eq (by dsimp only; rw [List.length_append, List.length_singleton])⟩, trivial⟩ ?_
            exact St.le_set2 (St.leX_same (St.leX_del (St.leX_any (St.leX_any (St.leX_refl _ _) h2) (St.none_set (by assumption))) h2)) (St.set_same _ _ _)
          · rw [if_neg ho] at h3
            repeat' (first|(first|(refine jl ?_;first|refine jb ?_|refine jbl ?_|refine j1 ?_|refine j4 ?_|refine j13 (fun id hid=>?_)|refine j14 ?_|refine j17t ?_|refine j17 ?_|refine ji1 ?_|refine lj_to rfl rfl rfl (q_operate_bad xk pre a c lkp (by omega) ho) ?_)|(refine jc ?_;first|refine c1 ?_|refine c2 ?_|refine c5 ?_|refine c6 ?_|refine c7 ?_)|refine n1 ?_|refine n2 ?_|refine n5 ?_|refine n6 ?_|refine n15 ?_)|(refine c9 (fun h=>?_) (fun h=>?_)<;>((try simp only [Bool.or_eq_true, Bool.and_eq_true, Bool.or_eq_false_iff, Bool.and_eq_false_iff, Bool.not_eq_true', Bool.not_eq_false', decide_eq_true_eq, decide_eq_false_iff_not, Bool.false_eq_true, Bool.true_eq_false, reduceCtorEq] at h) <;> (try simp (disch := omega) only [sb_bt, w64, Int.reduceAdd, Int.reduceToNat, Int.toNat_natCast, not_true_eq_false, false_or] at h) <;> (try (exfalso; omega)))))
            all_goals first | (exfalso; simp at h; done) | (exfalso; exact hk h) | (exfalso; exact hk1 h) | (exfalso; exact ho h) | skip
            rw [← h3]
            exact gives (by repeat' (first | exact St.le_refl _ | refine St.le_any ?_)) (Fin.refl _ _ _)
set_option maxHeartbeats 8000000 in
theorem p_reval (nl nl2 : Option Bool) (full full2 : Bool) (l : List Itm) (bd : List Bd) (hl : l.length ≤ 60000) (hz : ∀ x ∈ l, x.val.s.size ≤ 60) : Pure Tryd.prog 9 [.sl nl full 5 (l.map itc), .sl nl2 full2 4 (bd.map bc)] (.tup [.agg (vc (evalGo bd l []).1), .v (.int .i64 (evalGo bd l []).2)]) := by
  refine enterW Tryd.func9 rfl rfl rfl rfl (fun σ => ?_)
  have hn : (l.map itc).length = l.length := List.length_map ..
  repeat' (first|(first|(refine jl ?_;first|refine j1 ?_|refine j4 ?_|refine j13 (fun id hid=>?_))|(refine jc ?_;first|refine c1 ?_|refine c2 ?_|refine c5 ?_)))
  first | refine cj_id 4 (fun b e => ?_) | refine lj_id 4 (fun b e => ?_)
  subst e
  refine cj_ghost (ghost_nil (t := 6) 3 30 rfl (fun w0 hw0 => ?_))
  have hb : σ b = none := hid
  refine cj_for (fun s : Nat × Nat × List Vl => s.1 ≤ l.length ∧ (σ.set b (.row 3 30 [vc noV])) s.2.1 = none ∧ evalGo bd (l.drop s.1) s.2.2 = evalGo bd l [] ∧ s.2.2.length ≤ s.1) (fun s => [(7, .v (.int .i64 s.1)), (6, .osl s.2.1 3 0 s.2.2.length)]) (fun s => (σ.set b (.row 3 30 [vc noV])).set s.2.1 (.row 3 30 (s.2.2.map vc))) (fun s => l.length - s.1) (0, w0, []) ⟨Nat.zero_le _, hw0, rfl, Nat.le_refl _⟩ ⟨⟨_, rfl, fun _ _ h => h⟩, ⟨_, rfl, fun _ _ h => h⟩, trivial⟩ (St.le_refl _) (fun s hs2 => ?_)
  obtain ⟨i, w, pile⟩ := s
  dsimp only at hs2 ⊢
  obtain ⟨h1, h2, h3, h4⟩ := hs2
  have hnp : (pile.map vc).length = pile.length := List.length_map ..
  have hwb : b ≠ w := St.ne_of_none h2
  have hw1 : σ w = none := St.none_set h2
  rcases hd : l.drop i with _ | ⟨x, r⟩
  · have z1 := dropn hd
    rw [hd] at h3
    by_cases hp : pile.length = 1
    · obtain ⟨v, rfl⟩ : ∃ v, pile = [v] := by
        match pile, hp with
        | [v], _ => exact ⟨v, rfl⟩
      rw [← h3]
      repeat' (first|(first|(refine jl ?_;first|refine j1 ?_|refine j4 ?_|refine j14 ?_|refine j17 ?_|refine ji4 ?_)|(refine jc ?_;first|refine c1 ?_|refine c2 ?_|refine c6 ?_|refine c7 ?_|refine c8 ?_)|refine n1 ?_|refine n3 ?_|refine n7 ?_|refine n8 ?_|refine n15 ?_)|(refine c9 (fun h=>?_) (fun h=>?_)<;>((try simp only [Bool.or_eq_true, Bool.and_eq_true, Bool.or_eq_false_iff, Bool.and_eq_false_iff, Bool.not_eq_true', Bool.not_eq_false', decide_eq_true_eq, decide_eq_false_iff_not, Bool.false_eq_true, Bool.true_eq_false, reduceCtorEq] at h) <;> (try simp (disch := omega) only [sb_bt, w64, Int.reduceAdd, Int.reduceToNat, Int.toNat_natCast, not_true_eq_false, false_or] at h) <;> (try (exfalso; omega)))))
      all_goals first
        | exact gives (by repeat' (first | exact St.le_refl _ | refine St.le_any ?_)) (Fin.refl _ _ _)
        | (exfalso; simp at h; done)
    · rw [← h3, evalGo_end hp]
      repeat' (first|(first|(refine jl ?_;first|refine jb ?_|refine j1 ?_|refine j4 ?_|refine j17 ?_)|(refine jc ?_;first|refine c1 ?_|refine c2 ?_|refine c7 ?_|refine c8 ?_)|refine n1 ?_|refine n2 ?_|refine n3 ?_|refine n7 ?_|refine n8 ?_|refine n15 ?_)|(refine c9 (fun h=>?_) (fun h=>?_)<;>((try simp only [Bool.or_eq_true, Bool.and_eq_true, Bool.or_eq_false_iff, Bool.and_eq_false_iff, Bool.not_eq_true', Bool.not_eq_false', decide_eq_true_eq, decide_eq_false_iff_not, Bool.false_eq_true, Bool.true_eq_false, reduceCtorEq] at h) <;> (try simp (disch := omega) only [sb_bt, w64, Int.reduceAdd, Int.reduceToNat, Int.toNat_natCast, not_true_eq_false, false_or] at h) <;> (try (exfalso; omega)))))
      all_goals first
        | exact gives (by repeat' (first | exact St.le_refl _ | refine St.le_any ?_)) (Fin.refl _ _ _)
        | (exfalso; omega)
  · obtain ⟨u1, u2, u3⟩ := dropc hd
    have u4 := get_map itc u3
    have hzx := hz x (List.mem_of_getElem? u3)
    rw [hd] at h3
    obtain ⟨xk, ⟨vk, vn, vs⟩, xv⟩ := x
    dsimp only at hzx
    have hap : ∀ v : Vl, (pile.map vc).take pile.length ++ [vc v] = (pile ++ [v]).map vc := fun v => by rw [List.take_of_length_le (by omega), List.map_append]; rfl
    by_cases hk : xk = 0
    · subst hk
      rw [evalGo_const rfl] at h3
      have k1 := p_rcheck vk vn vs (by omega)
      repeat' (first|(first|(refine jl ?_;first|refine jb ?_|refine jbl ?_|refine j1 ?_|refine j4 ?_|refine j17 ?_|refine ji1 ?_|refine jp (k1) ?_|refine jlit ?_)|(refine jc ?_;first|refine c1 ?_|refine c2 ?_|refine c5 ?_|refine c6 ?_|refine c7 ?_)|refine n1 ?_|refine n2 ?_|refine n5 ?_|refine n6 ?_|refine n15 ?_)|(refine c9 (fun h=>?_) (fun h=>?_)<;>((try simp only [Bool.or_eq_true, Bool.and_eq_true, Bool.or_eq_false_iff, Bool.and_eq_false_iff, Bool.not_eq_true', Bool.not_eq_false', decide_eq_true_eq, decide_eq_false_iff_not, Bool.false_eq_true, Bool.true_eq_false, reduceCtorEq] at h) <;> (try simp (disch := omega) only [sb_bt, w64, Int.reduceAdd, Int.reduceToNat, Int.toNat_natCast, not_true_eq_false, false_or] at h) <;> (try (exfalso; omega)))))
      · rw [← h3, if_neg h]
        exact gives (by repeat' (first | exact St.le_refl _ | refine St.le_any ?_)) (Fin.refl _ _ _)
      · rw [if_pos h, ← u2] at h3
        refine japo (n := pile.length) (m := pile.length + 1) (news := [vc ⟨vk, vn, vs⟩]) (fun w2 hw2 => ?_) (hap _) rfl (hn := by omega) (hb := by dsimp only [List.length]; omega)
        repeat (first|(refine jl ?_;first|refine j1 ?_|refine j6 ?_)|(refine jc ?_;first|refine c2 ?_)|refine n1 ?_|refine n10 ?_)
        refine nx_forS (i + 1, w2, pile ++ [(⟨vk, vn, vs⟩ : Vl)]) ⟨by dsimp only; omega, St.ns1 hw2, h3, by dsimp only; rw [List.length_append, List.length_singleton]; omega⟩ (by dsimp only; omega) ⟨⟨_, rfl, wk1 (by omega)⟩, ⟨_, rfl, Wk.of_eq (by dsimp only; rw [List.length_append, List.length_singleton])⟩, trivial⟩ ?_
        exact St.le_set2 (St.leX_same (St.leX_del (St.leX_any (St.leX_refl _ _) h2) h2)) (St.set_same _ _ _)
    · by_cases hk1 : xk = 1
      · subst hk1
        rw [evalGo_var rfl] at h3
        have k1 := p_rlookup nl2 full2 bd xv
        repeat' (first|(first|(refine jl ?_;first|refine jb ?_|refine jbl ?_|refine j1 ?_|refine j4 ?_|refine j13 (fun id hid=>?_)|refine j14 ?_|refine j17t ?_|refine j17 ?_|refine ji1 ?_|refine jp (k1) ?_|refine jlit ?_)|(refine jc ?_;first|refine c1 ?_|refine c2 ?_|refine c5 ?_|refine c6 ?_|refine c7 ?_)|refine n1 ?_|refine n2 ?_|refine n5 ?_|refine n6 ?_|refine n15 ?_)|(refine c9 (fun h=>?_) (fun h=>?_)<;>((try simp only [Bool.or_eq_true, Bool.and_eq_true, Bool.or_eq_false_iff, Bool.and_eq_false_iff, Bool.not_eq_true', Bool.not_eq_false', decide_eq_true_eq, decide_eq_false_iff_not, Bool.false_eq_true, Bool.true_eq_false, reduceCtorEq] at h) <;> (try simp (disch := omega) only [sb_bt, w64, Int.reduceAdd, Int.reduceToNat, Int.toNat_natCast, not_true_eq_false, false_or] at h) <;> (try (exfalso; omega)))))
        all_goals first | (exfalso; simp at h; done) | skip
        · rw [← h3, if_neg (by rw [h]; exact Bool.false_ne_true)]
          exact gives (by repeat' (first | exact St.le_refl _ | refine St.le_any ?_)) (Fin.refl _ _ _)
        · rw [if_pos h, ← u2] at h3
          refine japo (n := pile.length) (m := pile.length + 1) (news := [vc (lookV xv bd)]) (fun w2 hw2 => ?_) (hap _) rfl (hn := by omega) (hb := by dsimp only [List.length]; omega)
          repeat (first|(refine jl ?_;first|refine j1 ?_|refine j6 ?_)|(refine jc ?_;first|refine c2 ?_)|refine n1 ?_|refine n10 ?_)
          refine nx_forS (i + 1, w2, pile ++ [lookV xv bd]) ⟨by dsimp only; omega, St.ns2 hw2, h3, by dsimp only; rw [List.length_append, List.length_singleton]; omega⟩ (by dsimp only; omega) ⟨⟨_, rfl, wk1 (by omega)⟩, ⟨_, rfl, Wk.of_eq (by dsimp only; rw [List.length_append, List.length_singleton])⟩, trivial⟩ ?_
          exact St.le_set2 (St.leX_same (St.leX_del (St.leX_any (St.leX_any (St.leX_refl _ _) h2) (St.none_set (by assumption))) h2)) (St.set_same _ _ _)
      · by_cases hp : pile.length < 2
        · rw [evalGo_short hk hk1 hp] at h3
          repeat' (first|(first|(refine jl ?_;first|refine jb ?_|refine jbl ?_|refine j1 ?_|refine j4 ?_|refine j17 ?_|refine ji1 ?_)|(refine jc ?_;first|refine c1 ?_|refine c2 ?_|refine c5 ?_|refine c6 ?_|refine c7 ?_)|refine n1 ?_|refine n2 ?_|refine n5 ?_|refine n6 ?_|refine n15 ?_)|(refine c9 (fun h=>?_) (fun h=>?_)<;>((try simp only [Bool.or_eq_true, Bool.and_eq_true, Bool.or_eq_false_iff, Bool.and_eq_false_iff, Bool.not_eq_true', Bool.not_eq_false', decide_eq_true_eq, decide_eq_false_iff_not, Bool.false_eq_true, Bool.true_eq_false, reduceCtorEq] at h) <;> (try simp (disch := omega) only [sb_bt, w64, Int.reduceAdd, Int.reduceToNat, Int.toNat_natCast, not_true_eq_false, false_or] at h) <;> (try (exfalso; omega)))))
          all_goals first | (exfalso; simp at h; done) | (exfalso; exact hk h) | (exfalso; exact hk1 h) | (exfalso; omega) | skip
          rw [← h3]
          exact gives (by repeat' (first | exact St.le_refl _ | refine St.le_any ?_)) (Fin.refl _ _ _)
        · obtain ⟨pre, a, c, rfl⟩ := two_of hp
          rw [evalGo_op hk hk1] at h3
          have hL : ((pre ++ [a, c]).map vc).length = pre.length + 2 := by rw [List.length_map, List.length_append]; rfl
          have e2 : (pre ++ [a, c]).length = pre.length + 2 := by rw [List.length_append]; rfl
          obtain ⟨e1, v1, v2⟩ := pre_ix pre a c (by omega)
          have g1 : ((pre ++ [a, c]).map vc)[(IntKind.i64.wrap ((((pre ++ [a, c]).map vc).length : Nat) - 2)).toNat]? = some (vc a) := by
            rw [hL]; rwa [Nat.zero_add] at v1
          have g2 : ((pre ++ [a, c]).map vc)[(IntKind.i64.wrap ((((pre ++ [a, c]).map vc).length : Nat) - 1)).toNat]? = some (vc c) := by
            rw [hL, show IntKind.i64.wrap (((pre.length + 2 : Nat) : Int) - 1) = IntKind.i64.wrap (IntKind.i64.wrap (((pre.length + 2 : Nat) : Int) - 2) + 1) from (by rw [e1, w64 (n := ((pre.length : Nat) : Int) + 1) (by omega) (by omega), w64 (by omega) (by omega)]; omega)]
            rwa [Nat.zero_add] at v2
          have g3 : (((pre ++ [a, c]).map vc).take (IntKind.i64.wrap ((((pre ++ [a, c]).map vc).length : Nat) - 2)).toNat).drop (0 : Int).toNat = pre.map vc := by
            rw [hL, e1, Int.toNat_natCast, Int.toNat_zero, List.drop_zero, List.map_append, List.take_append_of_le_length (by rw [List.length_map]; exact Nat.le_refl _), List.take_of_length_le (by rw [List.length_map]; exact Nat.le_refl _)]
          have e3 : IntKind.i64.wrap ((((pre ++ [a, c]).map vc).length : Nat) - 2) = ((pre.length : Nat) : Int) := by rw [hL]; exact e1
          refine cj_freeze 6 (els := (pre ++ [a, c]).map vc) rfl (St.set_same _ _ _) hnp.symm (by decide) ?_
          rw [St.del_set h2]
          have k1 := p_rop xk a c
          by_cases ho : opE xk a c = 0
          · rw [if_pos ho, ← u2] at h3
            rw [ho, if_pos rfl] at k1
            have hno : ∀ σ', srcOf σ' (.sl none false 3 (([] : List Vl).map vc)) = some (3, []) := fun _ => rfl
            cases pre with
            | nil =>
              repeat' (first|(first|(refine jl ?_;first|refine jbl ?_|refine j1 ?_|refine j4 ?_|refine ji1 ?_)|(refine al ?_;first|refine da_nil ?_|refine abl ?_|refine a1 ?_|refine ai1 ?_|refine ap (k1) ?_|refine da_skip ?_)|(refine yl ?_;first|refine y7 ?_|refine y8 ?_|refine y10 ?_|refine y11 ?_|refine ybd ?_|refine ybl ?_|refine y1 ?_|refine y2 ?_|refine y3 ?_|refine y3f ?_|refine y9 ?_|refine y14 ?_|refine y15 ?_|refine y16 ?_|refine y17 ?_|refine y18 ?_|refine y21 ?_|refine y25 ?_|refine yi1 ?_|refine yi2 ?_|refine yi3 ?_|refine yi4 ?_|refine yi4q ?_|refine yi6 ?_|refine ylit ?_|refine yp (k1) ?_|refine ypy (k1) ?_|refine ypq (hp:=fun hc=>k1) ?_|refine ycf (b := 0) (k := IntKind.i64.wrap (((([] ++ [a, c]).map vc).length : Nat) - 2)) g3 (by omega) (by rw [e3]; omega) (by rw [e3, hL]; omega) ?_|refine yap0 32 ?_ hno)|(refine bl ?_;first|refine b1 ?_|refine b17t ?_|refine db_nil ?_)|refine al_cons (fun id hid=>?_)|refine al_nil ?_|(refine jc ?_;first|refine c1 ?_|refine c2 ?_|refine c5 ?_|refine c6 ?_|refine cqy (id := 12) [8] [0, 1, 2, 3, 4, 5, 6, 7, 8, 9] ?_|refine cqk ?_)|refine n1 ?_)|(refine c9 (fun h=>?_) (fun h=>?_)<;>((try simp only [Bool.or_eq_true, Bool.and_eq_true, Bool.or_eq_false_iff, Bool.and_eq_false_iff, Bool.not_eq_true', Bool.not_eq_false', decide_eq_true_eq, decide_eq_false_iff_not, Bool.false_eq_true, Bool.true_eq_false, reduceCtorEq] at h) <;> (try simp (disch := omega) only [sb_bt, w64, Int.reduceAdd, Int.reduceToNat, Int.toNat_natCast, not_true_eq_false, false_or] at h) <;> (try (exfalso; omega)))))
              all_goals first | (exfalso; simp at h; done) | (exfalso; exact hk h) | (exfalso; exact hk1 h) | (exfalso; omega) | skip
              refine yapn 32 (news := [vc (opV xk a c)]) (all := [vc (opV xk a c)]) (n := 1) (fun w2 hw2 => ?_) (by simp)
              repeat (first|(refine yl ?_;first|refine y7 ?_|refine y8 ?_|refine y10 ?_|refine y11 ?_|refine ybd ?_|refine ybl ?_|refine y1 ?_|refine y2 ?_|refine y3 ?_|refine y3f ?_|refine y9 ?_|refine y14 ?_|refine y15 ?_|refine y16 ?_|refine y17 ?_|refine y18 ?_|refine y21 ?_|refine y25 ?_|refine yi1 ?_|refine yi2 ?_|refine yi3 ?_|refine yi4 ?_|refine yi4q ?_|refine yi6 ?_|refine ylit ?_))
              refine ynil ?_
              repeat (first|(refine jl ?_;first|refine j1 ?_|refine j6 ?_)|(refine jc ?_;first|refine c2 ?_)|refine n1 ?_|refine n10 ?_)
              refine nx_forS (i + 1, w2, [opV xk a c]) ⟨by dsimp only; omega, St.ns1 hw2, h3, by dsimp only [List.length]; omega⟩ (by dsimp only; omega) ⟨⟨_, rfl, wk1 (by omega)⟩, ⟨_, rfl, fun _ _ h => h⟩, trivial⟩ ?_
              exact St.le_set2 (St.leX_same (St.leX_any (St.leX_refl _ _) (by assumption))) (St.set_same _ _ _)
            | cons p pre =>
              repeat' (first|(first|(refine jl ?_;first|refine jbl ?_|refine j1 ?_|refine j4 ?_|refine ji1 ?_)|(refine al ?_;first|refine da_nil ?_|refine abl ?_|refine a1 ?_|refine ai1 ?_|refine ap (k1) ?_|refine da_skip ?_)|(refine yl ?_;first|refine y7 ?_|refine y8 ?_|refine y10 ?_|refine y11 ?_|refine ybd ?_|refine ybl ?_|refine y1 ?_|refine y2 ?_|refine y3 ?_|refine y3f ?_|refine y9 ?_|refine y14 ?_|refine y15 ?_|refine y16 ?_|refine y17 ?_|refine y18 ?_|refine y21 ?_|refine y25 ?_|refine yi1 ?_|refine yi2 ?_|refine yi3 ?_|refine yi4 ?_|refine yi4q ?_|refine yi6 ?_|refine ylit ?_|refine yp (k1) ?_|refine ypy (k1) ?_|refine ypq (hp:=fun hc=>k1) ?_|refine ycf (b := 0) (k := IntKind.i64.wrap ((((p :: pre ++ [a, c]).map vc).length : Nat) - 2)) g3 (by omega) (by rw [e3]; omega) (by rw [e3, hL]; omega) ?_)|(refine bl ?_;first|refine b1 ?_|refine b17t ?_|refine db_nil ?_)|refine al_cons (fun id hid=>?_)|refine al_nil ?_|(refine jc ?_;first|refine c1 ?_|refine c2 ?_|refine c5 ?_|refine c6 ?_|refine cj_fp 11 rfl (St.set_same _ _ _) (cqy (id := 12) [5, 8] [0, 1, 2, 3, 4, 6, 7, 5, 8, 9] ?_)|refine cqk ?_)|refine n1 ?_)|(refine c9 (fun h=>?_) (fun h=>?_)<;>((try simp only [Bool.or_eq_true, Bool.and_eq_true, Bool.or_eq_false_iff, Bool.and_eq_false_iff, Bool.not_eq_true', Bool.not_eq_false', decide_eq_true_eq, decide_eq_false_iff_not, Bool.false_eq_true, Bool.true_eq_false, reduceCtorEq] at h) <;> (try simp (disch := omega) only [sb_bt, w64, Int.reduceAdd, Int.reduceToNat, Int.toNat_natCast, not_true_eq_false, false_or] at h) <;> (try (exfalso; omega)))))
              all_goals first | (exfalso; simp at h; done) | (exfalso; exact hk h) | (exfalso; exact hk1 h) | (exfalso; omega) | skip
              rw [St.del_set (by assumption)]
              have hlp : ((p :: pre).map vc).length = pre.length + 1 := by rw [List.length_map]; rfl
              have e5 : (p :: pre ++ [a, c]).length = pre.length + 3 := by rw [List.length_append]; rfl
              refine yapn 32 (news := (p :: pre).map vc) (all := (p :: pre).map vc) (n := pre.length + 1) (fun w1 hw1 => ?_) (by simp) (hlen := by rw [hlp]; simp) (hb := by rw [hlp, List.length_nil]; omega)
              refine yapo (els := (p :: pre).map vc) (n := pre.length + 1) (news := [vc (opV xk a c)]) (all := (p :: pre ++ [opV xk a c]).map vc) (m := pre.length + 2) (fun w2 hw2 => ?_) (by rw [List.take_of_length_le (by omega), List.map_append]; rfl) rfl (hn := by omega) (hb := by dsimp only [List.length]; omega)
              rw [St.del_set hw1]
              repeat (first|(refine yl ?_;first|refine y7 ?_|refine y8 ?_|refine y10 ?_|refine y11 ?_|refine ybd ?_|refine ybl ?_|refine y1 ?_|refine y2 ?_|refine y3 ?_|refine y3f ?_|refine y9 ?_|refine y14 ?_|refine y15 ?_|refine y16 ?_|refine y17 ?_|refine y18 ?_|refine y21 ?_|refine y25 ?_|refine yi1 ?_|refine yi2 ?_|refine yi3 ?_|refine yi4 ?_|refine yi4q ?_|refine yi6 ?_|refine ylit ?_))
              refine ynil ?_
              repeat (first|(refine jl ?_;first|refine j1 ?_|refine j6 ?_)|(refine jc ?_;first|refine c2 ?_)|refine n1 ?_|refine n10 ?_)
              refine nx_forS (i + 1, w2, p :: pre ++ [opV xk a c]) ⟨by dsimp only; omega, St.ns1 hw2, h3, by dsimp only; rw [List.length_append, List.length_cons]; simp only [List.length_singleton]; omega⟩ (by dsimp only; omega) ⟨⟨_, rfl, wk1 (by omega)⟩, ⟨_, rfl, Wk.of_eq (by dsimp only; rw [List.length_append]; rfl)⟩, trivial⟩ (St.le_refl _)
          · rw [if_neg ho] at h3
            rw [if_neg ho] at k1
            repeat' (first|(first|(refine jl ?_;first|refine jb ?_|refine jbl ?_|refine j1 ?_|refine j4 ?_|refine j17 ?_|refine ji1 ?_)|(refine al ?_;first|refine da_nil ?_|refine abl ?_|refine a1 ?_|refine ai1 ?_|refine ap (k1) ?_|refine da_skip ?_)|(refine bl ?_;first|refine b1 ?_|refine b17t ?_|refine db_nil ?_)|refine al_cons (fun id hid=>?_)|refine al_nil ?_|(refine jc ?_;first|refine c1 ?_|refine c2 ?_|refine c5 ?_|refine c6 ?_|refine c7 ?_|refine cqk ?_)|refine n1 ?_|refine n2 ?_|refine n5 ?_|refine n6 ?_|refine n15 ?_)|(refine c9 (fun h=>?_) (fun h=>?_)<;>((try simp only [Bool.or_eq_true, Bool.and_eq_true, Bool.or_eq_false_iff, Bool.and_eq_false_iff, Bool.not_eq_true', Bool.not_eq_false', decide_eq_true_eq, decide_eq_false_iff_not, Bool.false_eq_true, Bool.true_eq_false, reduceCtorEq] at h) <;> (try simp (disch := omega) only [sb_bt, w64, Int.reduceAdd, Int.reduceToNat, Int.toNat_natCast, not_true_eq_false, false_or] at h) <;> (try (exfalso; omega)))))
            all_goals first | (exfalso; simp at h; done) | (exfalso; exact hk h) | (exfalso; exact hk1 h) | (exfalso; exact ho h) | (exfalso; omega) | skip
            rw [← h3]
            exact gives (by repeat' (first | exact St.le_refl _ | refine St.le_any ?_)) (Fin.refl _ _ _)
end Go.Proofs.YtbpoeggmpjepfaaDoor.Ab

/- One of some; what is bound, compared. -/
set_option linter.unusedVariables false
set_option linter.unusedSimpArgs false
set_option maxRecDepth 20000
namespace Go.Proofs.YtbpoeggmpjepfaaDoor.Ab
open Go
attribute [local irreducible] thn inb endR CJ LJ OpJ DJ DA DB AllocK

deriving instance DecidableEq for Bd
def isV (v : Vl) (w : Vl) : Bool := decide (w = v)
theorem p_indexv (nl : Option Bool) (full : Bool) (l : List Vl) (v : Vl) : Pure Tryd.prog 81 [.sl nl full 3 (l.map vc), .agg (vc v)] (.v (.int .i64 (idxG (isV v) l 0))) := by
  refine enterW Tryd.func81 rfl rfl rfl rfl (fun σ => ?_)
  obtain ⟨vk, vn, vs⟩ := v
  refine cj_len 0 (fun hm => ?_)
  have hn : (l.map vc).length = l.length := List.length_map ..
  repeat (first|(refine jl ?_;first|refine j1 ?_|refine j4 ?_|refine j12 (fun id hid=>?_))|(refine jc ?_;first|refine c1 ?_|refine c2 ?_|refine c5 ?_))
  refine cj_fors (fun i : Nat => idxG (isV ⟨vk, vn, vs⟩) (l.drop i) i = idxG (isV ⟨vk, vn, vs⟩) l 0) (fun i => [(8, .v (.int .i64 i))]) (fun i => l.length - i) 0 rfl ⟨⟨_, rfl, fun _ _ h => h⟩, trivial⟩ (fun i hi => ?_)
  rcases hd : l.drop i with _ | ⟨x, r⟩
  · have h0 := dropn hd
    rw [hd, idxG] at hi
    repeat' (first|(first|(refine jl ?_;first|refine j1 ?_|refine j4 ?_)|(refine jc ?_;first|refine c1 ?_|refine c2 ?_|refine c7 ?_|refine c8 ?_)|refine n1 ?_|refine n3 ?_|refine n7 ?_|refine n8 ?_|refine n11 ?_)|(refine c9 (fun h=>?_) (fun h=>?_)<;>((try simp only [Bool.or_eq_true, Bool.and_eq_true, Bool.or_eq_false_iff, Bool.and_eq_false_iff, Bool.not_eq_true', Bool.not_eq_false', decide_eq_true_eq, decide_eq_false_iff_not, Bool.false_eq_true, Bool.true_eq_false, reduceCtorEq] at h) <;> (try simp (disch := omega) only [sb_bt, w64, Int.reduceAdd, Int.reduceToNat, Int.toNat_natCast, not_true_eq_false, false_or] at h) <;> (try (exfalso; omega)))))
    rw [← hi]
    exact ge rfl
  · obtain ⟨h1, h2, h3⟩ := dropc hd
    have h4 := get_map vc h3
    rw [hd, idxG] at hi
    repeat' (first|(first|(refine jl ?_;first|refine j1 ?_|refine j4 ?_|refine j6 ?_)|(refine dl ?_;first|refine dbl ?_|refine d1 ?_|refine d4 ?_|refine d14 ?_|refine deq ?_|refine di1 ?_)|(refine jc ?_;first|refine c1 ?_|refine c2 ?_|refine c5 ?_|refine c6 ?_|refine c7 ?_|refine cq ?_)|refine n1 ?_|refine n2 ?_|refine n5 ?_|refine n6 ?_|refine n10 ?_|refine n11 ?_)|(refine c9 (fun h=>?_) (fun h=>?_)<;>((try simp only [Bool.or_eq_true, Bool.and_eq_true, Bool.or_eq_false_iff, Bool.and_eq_false_iff, Bool.not_eq_true', Bool.not_eq_false', decide_eq_true_eq, decide_eq_false_iff_not, Bool.false_eq_true, Bool.true_eq_false, reduceCtorEq] at h) <;> (try simp (disch := omega) only [sb_bt, w64, Int.reduceAdd, Int.reduceToNat, Int.toNat_natCast, not_true_eq_false, false_or] at h) <;> (try (exfalso; omega)))))
    · have : isV ⟨vk, vn, vs⟩ x = true := by cases x; simp_all [isV]
      rw [if_pos this] at hi
      rw [← hi]
      exact ge rfl
    · have : ¬ isV ⟨vk, vn, vs⟩ x = true := by cases x; simp only [isV, decide_eq_true_eq]; intro e; cases e; simp at h
      rw [if_neg this, ← h2] at hi
      exact nx_for (i + 1) hi (by omega) ⟨⟨_, rfl, wk1 (by omega)⟩, trivial⟩
theorem idxG_any {α : Type} (g : α → Bool) (l : List α) : decide (0 ≤ idxG g l 0) = l.any g := by
  have h5 := idxG_lt g l 0
  by_cases h : l.any g = true
  · rw [h, decide_eq_true]
    rw [List.any_eq_true] at h
    obtain ⟨x, hx, hg⟩ := h
    by_cases h6 : idxG g l 0 < 0
    · rw [h5.1 h6 x hx] at hg; cases hg
    · omega
  · rw [Bool.not_eq_true] at h
    rw [h, decide_eq_false]
    have := h5.2 (fun x hx => by
      rw [List.any_eq_false] at h
      simpa using h x hx)
    omega
theorem p_containsv (nl : Option Bool) (full : Bool) (l : List Vl) (v : Vl) : Pure Tryd.prog 67 [.sl nl full 3 (l.map vc), .agg (vc v)] (.v (.bool (l.any (isV v)))) := by
  refine enterW Tryd.func67 rfl rfl rfl rfl (fun σ => ?_)
  repeat (first|(refine jl ?_;first|refine j1 ?_|refine j4 ?_|refine j12 (fun id hid=>?_)|refine j14 ?_|refine jp (p_indexv _ _ _ _) ?_)|(refine jc ?_;first|refine c1 ?_|refine c2 ?_|refine c7 ?_)|refine n11 ?_)
  rw [← idxG_any]
  exact ge rfl
theorem p_eqb5 (nl nl' : Option Bool) (full full' : Bool) (a b : List Bd) : Pure Tryd.prog 10 [.sl nl full 4 (a.map bc), .sl nl' full' 4 (b.map bc)] (.v (.bool (decide (a = b)))) := by
  refine enterW Tryd.func10 rfl rfl rfl rfl (fun σ => ?_)
  refine cj_len 0 (fun hm => ?_)
  refine cj_len 1 (fun hm' => ?_)
  have hn : (a.map bc).length = a.length := List.length_map ..
  have hn' : (b.map bc).length = b.length := List.length_map ..
  repeat' (first|(first|(refine jl ?_;first|refine j1 ?_|refine j4 ?_)|(refine jc ?_;first|refine c1 ?_|refine c2 ?_|refine c5 ?_|refine c6 ?_|refine c7 ?_)|refine n1 ?_|refine n2 ?_|refine n11 ?_)|(refine c9 (fun h=>?_) (fun h=>?_)<;>((try simp only [Bool.or_eq_true, Bool.and_eq_true, Bool.or_eq_false_iff, Bool.and_eq_false_iff, Bool.not_eq_true', Bool.not_eq_false', decide_eq_true_eq, decide_eq_false_iff_not, Bool.false_eq_true, Bool.true_eq_false, reduceCtorEq] at h) <;> (try simp (disch := omega) only [sb_bt, w64, Int.reduceAdd, Int.reduceToNat, Int.toNat_natCast, not_true_eq_false, false_or] at h) <;> (try (exfalso; omega)))))
  · rw [decide_eq_false (fun e => by rw [e] at h; exact h rfl)]
    exact ge rfl
  · refine cj_fors (fun i : Nat => decide (a.drop i = b.drop i) = decide (a = b)) (fun i => [(5, .v (.int .i64 i))]) (fun i => a.length - i) 0 rfl ⟨⟨_, rfl, fun _ _ h => h⟩, trivial⟩ (fun i hi => ?_)
    rcases hd : a.drop i with _ | ⟨x, r⟩
    · have h0 := dropn hd
      have hd' : b.drop i = [] := List.drop_of_length_le (by omega)
      rw [hd, hd', decide_eq_true rfl] at hi
      repeat' (first|(first|(refine jl ?_;first|refine j1 ?_|refine j4 ?_)|(refine jc ?_;first|refine c1 ?_|refine c2 ?_|refine c7 ?_|refine c8 ?_)|refine n1 ?_|refine n3 ?_|refine n7 ?_|refine n8 ?_|refine n11 ?_)|(refine c9 (fun h=>?_) (fun h=>?_)<;>((try simp only [Bool.or_eq_true, Bool.and_eq_true, Bool.or_eq_false_iff, Bool.and_eq_false_iff, Bool.not_eq_true', Bool.not_eq_false', decide_eq_true_eq, decide_eq_false_iff_not, Bool.false_eq_true, Bool.true_eq_false, reduceCtorEq] at h) <;> (try simp (disch := omega) only [sb_bt, w64, Int.reduceAdd, Int.reduceToNat, Int.toNat_natCast, not_true_eq_false, false_or] at h) <;> (try (exfalso; omega)))))
      rw [← hi]
      exact ge rfl
    · obtain ⟨h1, h2, h3⟩ := dropc hd
      rcases hd' : b.drop i with _ | ⟨y, r'⟩
      · have := dropn hd'; omega
      obtain ⟨h1', h2', h3'⟩ := dropc hd'
      have h4 := get_map bc h3
      have h4' := get_map bc h3'
      rw [hd, hd'] at hi
      repeat' (first|(first|(refine jl ?_;first|refine j1 ?_|refine j4 ?_|refine j6 ?_)|(refine dl ?_;first|refine dbl ?_|refine d1 ?_|refine d4 ?_|refine dxn ?_|refine di1 ?_)|(refine jc ?_;first|refine c1 ?_|refine c2 ?_|refine c5 ?_|refine c6 ?_|refine c7 ?_|refine cq ?_)|refine n1 ?_|refine n2 ?_|refine n5 ?_|refine n6 ?_|refine n10 ?_|refine n11 ?_)|(refine c9 (fun h=>?_) (fun h=>?_)<;>((try simp only [Bool.or_eq_true, Bool.and_eq_true, Bool.or_eq_false_iff, Bool.and_eq_false_iff, Bool.not_eq_true', Bool.not_eq_false', decide_eq_true_eq, decide_eq_false_iff_not, Bool.false_eq_true, Bool.true_eq_false, reduceCtorEq] at h) <;> (try simp (disch := omega) only [sb_bt, w64, Int.reduceAdd, Int.reduceToNat, Int.toNat_natCast, not_true_eq_false, false_or] at h) <;> (try (exfalso; omega)))))
      · rw [← hi, decide_eq_false (fun e => by have := (List.cons.inj e).1; subst this; simp at h)]
        exact ge rfl
      · have e : x = y := by obtain ⟨xn, xk, xi, xs⟩ := x; obtain ⟨yn, yk, yi, ys⟩ := y; simp_all
        have e2 : decide (x :: r = y :: r') = decide (r = r') := decide_eq_decide.2 (by rw [e]; simp)
        rw [e2, ← h2, ← h2'] at hi
        exact nx_for (i + 1) hi (by omega) ⟨⟨_, rfl, wk1 (by omega)⟩, trivial⟩
end Go.Proofs.YtbpoeggmpjepfaaDoor.Ab

/- Conditions that are small enough. -/
set_option linter.unusedVariables false
set_option linter.unusedSimpArgs false
set_option maxRecDepth 20000
namespace Go.Proofs.YtbpoeggmpjepfaaDoor.Ab
open Go
attribute [local irreducible] thn inb endR CJ LJ OpJ DJ DA DB AllocK

abbrev smallT (t : Tst) : Prop := t.v.size ≤ 60 ∧ t.val.s.size ≤ 60
abbrev smallA (a : Atr) : Prop := (a.ones.length ≤ 12 ∧ a.tests.length ≤ 12 ∧ a.attr.size ≤ 60) ∧ (∀ v ∈ a.ones, smallV v) ∧ ∀ t ∈ a.tests, smallT t
def lightD (c : Cnd) (bd : List Bd) : Prop := (c.attrs.length ≤ 12 ∧ bd.length ≤ 20 ∧ c.cls.size ≤ 60) ∧ (∀ a ∈ c.attrs, smallA a) ∧ ∀ b ∈ bd, smallB b
noncomputable def lightE (c : Cnd) (bd : List Bd) : Bool := @decide (lightD c bd) (Classical.propDecidable _)
theorem lightE_false {c : Cnd} {bd : List Bd} (h : ¬ lightD c bd) : lightE c bd = false := @decide_eq_false _ (Classical.propDecidable _) h
theorem lightE_true {c : Cnd} {bd : List Bd} (h : lightD c bd) : lightE c bd = true := @decide_eq_true _ (Classical.propDecidable _) h
theorem lightE_iff {c : Cnd} {bd : List Bd} (h : lightE c bd = true) : lightD c bd := @of_decide_eq_true _ (Classical.propDecidable _) h
theorem p_light20 (nl : Option Bool) (full : Bool) (c : Cnd) (bd : List Bd) : Pure Tryd.prog 6 [.agg (dc c), .sl nl full 4 (bd.map bc)] (.v (.bool (lightE c bd))) := by
  refine enterW Tryd.func6 rfl rfl rfl rfl (fun σ => ?_)
  obtain ⟨cg, cn, l⟩ := c
  have hn : (l.map ac).length = l.length := List.length_map ..
  have hn3 : (bd.map bc).length = bd.length := List.length_map ..
  repeat' (first|(first|(refine jl ?_;first|refine j7 ?_|refine j1 ?_|refine j4 ?_|refine j9 ?_|refine j12 (fun id hid=>?_)|refine j14 ?_|refine j16 ?_)|(refine jc ?_;first|refine c1 ?_|refine c2 ?_|refine c5 ?_|refine c6 ?_|refine c7 ?_)|refine n1 ?_|refine n2 ?_|refine n11 ?_)|(refine c9 (fun h=>?_) (fun h=>?_)<;>((try simp only [Bool.or_eq_true, Bool.and_eq_true, Bool.or_eq_false_iff, Bool.and_eq_false_iff, Bool.not_eq_true', Bool.not_eq_false', decide_eq_true_eq, decide_eq_false_iff_not, Bool.false_eq_true, Bool.true_eq_false, reduceCtorEq] at h) <;> (try simp (disch := omega) only [sb_bt, w64, Int.reduceAdd, Int.reduceToNat, Int.toNat_natCast, not_true_eq_false, false_or] at h) <;> (try (exfalso; omega)))))
  · rw [lightE_false (fun e => by obtain ⟨⟨e1, e2, e3⟩, _⟩ := e; dsimp only at e1 e3; omega)]
    exact ge rfl
  have hc : l.length ≤ 12 ∧ bd.length ≤ 20 ∧ cn.size ≤ 60 := by omega
  refine cj_fors (fun i : Nat => ∀ a ∈ l.take i, smallA a) (fun i => [(5, .v (.int .i64 i))]) (fun i => l.length - i) 0 (by simp) ⟨⟨_, rfl, fun _ _ h => h⟩, trivial⟩ (fun i hi => ?_)
  rcases hd : l.drop i with _ | ⟨x, r⟩
  · have h0 := dropn hd
    have hl := take_all hi h0
    clear hi
    repeat' (first|(first|(refine jl ?_;first|refine j1 ?_|refine j4 ?_|refine j14 ?_)|(refine jc ?_;first|refine c1 ?_|refine c2 ?_|refine c5 ?_|refine c8 ?_)|refine n1 ?_|refine n3 ?_|refine n7 ?_|refine n8 ?_)|(refine c9 (fun h=>?_) (fun h=>?_)<;>((try simp only [Bool.or_eq_true, Bool.and_eq_true, Bool.or_eq_false_iff, Bool.and_eq_false_iff, Bool.not_eq_true', Bool.not_eq_false', decide_eq_true_eq, decide_eq_false_iff_not, Bool.false_eq_true, Bool.true_eq_false, reduceCtorEq] at h) <;> (try simp (disch := omega) only [sb_bt, w64, Int.reduceAdd, Int.reduceToNat, Int.toNat_natCast, not_true_eq_false, false_or] at h) <;> (try (exfalso; omega)))))
    refine cj_fors (fun i : Nat => ∀ b ∈ bd.take i, smallB b) (fun i => [(8, .v (.int .i64 i))]) (fun i => bd.length - i) 0 (by simp) ⟨⟨_, rfl, fun _ _ h => h⟩, trivial⟩ (fun k hi => ?_)
    rcases hd'' : bd.drop k with _ | ⟨x, r⟩
    · have h0 := dropn hd''
      have hs := take_all hi h0
      repeat' (first|(first|(refine jl ?_;first|refine j1 ?_|refine j4 ?_)|(refine jc ?_;first|refine c1 ?_|refine c2 ?_|refine c7 ?_|refine c8 ?_)|refine n1 ?_|refine n3 ?_|refine n7 ?_|refine n8 ?_|refine n11 ?_)|(refine c9 (fun h=>?_) (fun h=>?_)<;>((try simp only [Bool.or_eq_true, Bool.and_eq_true, Bool.or_eq_false_iff, Bool.and_eq_false_iff, Bool.not_eq_true', Bool.not_eq_false', decide_eq_true_eq, decide_eq_false_iff_not, Bool.false_eq_true, Bool.true_eq_false, reduceCtorEq] at h) <;> (try simp (disch := omega) only [sb_bt, w64, Int.reduceAdd, Int.reduceToNat, Int.toNat_natCast, not_true_eq_false, false_or] at h) <;> (try (exfalso; omega)))))
      rw [lightE_true ⟨hc, hl, hs⟩]
      exact ge rfl
    · obtain ⟨h1, h2, h3⟩ := dropc hd''
      have h4 := get_map bc h3
      repeat' (first|(first|(refine jl ?_;first|refine j7 ?_|refine jbl ?_|refine j1 ?_|refine j4 ?_|refine j6 ?_|refine j9 ?_|refine ji1 ?_|refine ji3 ?_)|(refine jc ?_;first|refine c1 ?_|refine c2 ?_|refine c5 ?_|refine c6 ?_|refine c7 ?_)|refine n1 ?_|refine n2 ?_|refine n5 ?_|refine n6 ?_|refine n10 ?_|refine n11 ?_)|(refine c9 (fun h=>?_) (fun h=>?_)<;>((try simp only [Bool.or_eq_true, Bool.and_eq_true, Bool.or_eq_false_iff, Bool.and_eq_false_iff, Bool.not_eq_true', Bool.not_eq_false', decide_eq_true_eq, decide_eq_false_iff_not, Bool.false_eq_true, Bool.true_eq_false, reduceCtorEq] at h) <;> (try simp (disch := omega) only [sb_bt, w64, Int.reduceAdd, Int.reduceToNat, Int.toNat_natCast, not_true_eq_false, false_or] at h) <;> (try (exfalso; omega)))))
      · rw [lightE_false (fun e => by have := e.2.2 x (List.mem_of_getElem? h3); unfold smallB at this; omega)]
        exact ge rfl
      · exact nx_for (k + 1) (take_succ_all hi h3 (by unfold smallB; omega)) (by omega) ⟨⟨_, rfl, wk1 (by omega)⟩, trivial⟩
  · obtain ⟨h1, h2, h3⟩ := dropc hd
    have h4 := get_map ac h3
    obtain ⟨xn, xo, xt⟩ := x
    have hn4 : (xo.map vc).length = xo.length := List.length_map ..
    have hn5 : (xt.map tc).length = xt.length := List.length_map ..
    repeat' (first|(first|(refine jl ?_;first|refine j7 ?_|refine jbl ?_|refine j1 ?_|refine j4 ?_|refine j9 ?_|refine j14 ?_|refine j16 ?_|refine ji1 ?_|refine ji3 ?_)|(refine jc ?_;first|refine c1 ?_|refine c2 ?_|refine c5 ?_|refine c6 ?_|refine c7 ?_)|refine n1 ?_|refine n2 ?_|refine n5 ?_|refine n6 ?_|refine n11 ?_)|(refine c9 (fun h=>?_) (fun h=>?_)<;>((try simp only [Bool.or_eq_true, Bool.and_eq_true, Bool.or_eq_false_iff, Bool.and_eq_false_iff, Bool.not_eq_true', Bool.not_eq_false', decide_eq_true_eq, decide_eq_false_iff_not, Bool.false_eq_true, Bool.true_eq_false, reduceCtorEq] at h) <;> (try simp (disch := omega) only [sb_bt, w64, Int.reduceAdd, Int.reduceToNat, Int.toNat_natCast, not_true_eq_false, false_or] at h) <;> (try (exfalso; omega)))))
    · rw [lightE_false (fun e => by have := (e.2.1 _ (List.mem_of_getElem? h3)).1; dsimp only at *; omega)]
      exact ge rfl
    have ha : xo.length ≤ 12 ∧ xt.length ≤ 12 ∧ xn.size ≤ 60 := by omega
    refine cj_fors (fun i : Nat => ∀ v ∈ xo.take i, smallV v) (fun i => [(6, .v (.int .i64 i))]) (fun i => xo.length - i) 0 (by simp) ⟨⟨_, rfl, fun _ _ h => h⟩, trivial⟩ (fun j hj => ?_)
    rcases hd' : xo.drop j with _ | ⟨y, r'⟩
    · have h0 := dropn hd'
      have ho := take_all hj h0
      clear hj
      repeat' (first|(first|(refine jl ?_;first|refine jbl ?_|refine j1 ?_|refine j4 ?_|refine j14 ?_|refine ji1 ?_)|(refine jc ?_;first|refine c1 ?_|refine c2 ?_|refine c5 ?_|refine c8 ?_)|refine n1 ?_|refine n3 ?_|refine n7 ?_|refine n8 ?_)|(refine c9 (fun h=>?_) (fun h=>?_)<;>((try simp only [Bool.or_eq_true, Bool.and_eq_true, Bool.or_eq_false_iff, Bool.and_eq_false_iff, Bool.not_eq_true', Bool.not_eq_false', decide_eq_true_eq, decide_eq_false_iff_not, Bool.false_eq_true, Bool.true_eq_false, reduceCtorEq] at h) <;> (try simp (disch := omega) only [sb_bt, w64, Int.reduceAdd, Int.reduceToNat, Int.toNat_natCast, not_true_eq_false, false_or] at h) <;> (try (exfalso; omega)))))
      refine cj_fors (fun i : Nat => ∀ v ∈ xt.take i, smallT v) (fun i => [(7, .v (.int .i64 i))]) (fun i => xt.length - i) 0 (by simp) ⟨⟨_, rfl, fun _ _ h => h⟩, trivial⟩ (fun k hk => ?_)
      rcases hd'' : xt.drop k with _ | ⟨y, r'⟩
      · have h0 := dropn hd''
        have ht := take_all hk h0
        repeat' (first|(first|(refine jl ?_;first|refine jbl ?_|refine j1 ?_|refine j4 ?_|refine j6 ?_|refine j14 ?_|refine ji1 ?_)|(refine jc ?_;first|refine c1 ?_|refine c2 ?_|refine c8 ?_)|refine n1 ?_|refine n3 ?_|refine n7 ?_|refine n8 ?_|refine n10 ?_)|(refine c9 (fun h=>?_) (fun h=>?_)<;>((try simp only [Bool.or_eq_true, Bool.and_eq_true, Bool.or_eq_false_iff, Bool.and_eq_false_iff, Bool.not_eq_true', Bool.not_eq_false', decide_eq_true_eq, decide_eq_false_iff_not, Bool.false_eq_true, Bool.true_eq_false, reduceCtorEq] at h) <;> (try simp (disch := omega) only [sb_bt, w64, Int.reduceAdd, Int.reduceToNat, Int.toNat_natCast, not_true_eq_false, false_or] at h) <;> (try (exfalso; omega)))))
        exact nx_for (i + 1) (take_succ_all hi h3 ⟨ha, ho, ht⟩) (by omega) ⟨⟨_, rfl, wk1 (by omega)⟩, trivial⟩
      · obtain ⟨h1', h2', h3'⟩ := dropc hd''
        have h4' := get_map tc h3'
        repeat' (first|(first|(refine jl ?_;first|refine j7 ?_|refine jbl ?_|refine j1 ?_|refine j4 ?_|refine j6 ?_|refine j9 ?_|refine j14 ?_|refine j16 ?_|refine ji1 ?_|refine ji3 ?_)|(refine jc ?_;first|refine c1 ?_|refine c2 ?_|refine c5 ?_|refine c6 ?_|refine c7 ?_)|refine n1 ?_|refine n2 ?_|refine n5 ?_|refine n6 ?_|refine n10 ?_|refine n11 ?_)|(refine c9 (fun h=>?_) (fun h=>?_)<;>((try simp only [Bool.or_eq_true, Bool.and_eq_true, Bool.or_eq_false_iff, Bool.and_eq_false_iff, Bool.not_eq_true', Bool.not_eq_false', decide_eq_true_eq, decide_eq_false_iff_not, Bool.false_eq_true, Bool.true_eq_false, reduceCtorEq] at h) <;> (try simp (disch := omega) only [sb_bt, w64, Int.reduceAdd, Int.reduceToNat, Int.toNat_natCast, not_true_eq_false, false_or] at h) <;> (try (exfalso; omega)))))
        · rw [lightE_false (fun e => by have := (e.2.1 _ (List.mem_of_getElem? h3)).2.2 y (List.mem_of_getElem? h3'); unfold smallT at this; omega)]
          exact ge rfl
        · exact nx_for (k + 1) (take_succ_all hk h3' (by unfold smallT; omega)) (by omega) ⟨⟨_, rfl, wk1 (by omega)⟩, trivial⟩
    · obtain ⟨h1', h2', h3'⟩ := dropc hd'
      have h4' := get_map vc h3'
      repeat' (first|(first|(refine jl ?_;first|refine jbl ?_|refine j1 ?_|refine j4 ?_|refine j6 ?_|refine j14 ?_|refine ji1 ?_)|(refine jc ?_;first|refine c1 ?_|refine c2 ?_|refine c5 ?_|refine c6 ?_|refine c7 ?_)|refine n1 ?_|refine n2 ?_|refine n5 ?_|refine n6 ?_|refine n10 ?_|refine n11 ?_)|(refine c9 (fun h=>?_) (fun h=>?_)<;>((try simp only [Bool.or_eq_true, Bool.and_eq_true, Bool.or_eq_false_iff, Bool.and_eq_false_iff, Bool.not_eq_true', Bool.not_eq_false', decide_eq_true_eq, decide_eq_false_iff_not, Bool.false_eq_true, Bool.true_eq_false, reduceCtorEq] at h) <;> (try simp (disch := omega) only [sb_bt, w64, Int.reduceAdd, Int.reduceToNat, Int.toNat_natCast, not_true_eq_false, false_or] at h) <;> (try (exfalso; omega)))))
      · rw [lightE_false (fun e => by have := (e.2.1 _ (List.mem_of_getElem? h3)).2.1 y (List.mem_of_getElem? h3'); unfold smallV at this; omega)]
        exact ge rfl
      · exact nx_for (j + 1) (take_succ_all hj h3' (by unfold smallV; omega)) (by omega) ⟨⟨_, rfl, wk1 (by omega)⟩, trivial⟩
noncomputable def askL (l : List Cls) (c : Cnd) (f : Fc) (bd : List Bd) : Int := if lightB l f [] = true ∧ lightE c bd = true then 0 else 1
abbrev askc (c : Cnd) (f : Fc) (bd : List Bd) : List AV := dc c ++ (fc f ++ [.sl none false 4 (bd.map bc)])
end Go.Proofs.YtbpoeggmpjepfaaDoor.Ab

/- One test of a value. -/
set_option linter.unusedVariables false
set_option linter.unusedSimpArgs false
set_option maxRecDepth 20000
namespace Go.Proofs.YtbpoeggmpjepfaaDoor.Ab
open Go
attribute [local irreducible] thn inb endR CJ LJ OpJ DJ DA DB AllocK

def bindsB (t : Tst) (now : List Bd) : Bool := !decide (t.v = noS) && (!lookB t.v now && decide (t.p = 0))
def testB (t : Tst) (v : Vl) (now : List Bd) : Bool := if t.v = noS then holdsV t.p v.k v.n v.s t.val.k t.val.n t.val.s else lookB t.v now && holdsV t.p v.k v.n v.s (lookV t.v now).k (lookV t.v now).n (lookV t.v now).s
theorem q_lookup {σ : St} {w : Nat} {l : List Bd} (nm : ByteArray) (hw : σ w = some (.row 4 73 (l.map bc))) : ACalls Tryd.prog 21 [.osl w 4 0 l.length, .v (.string nm)] σ (fun e σ' => e = .ret (.tup [.agg (vc (lookV nm l)), .v (.bool (lookB nm l))]) ∧ σ' = σ) :=
  (p_lookup none false l nm).lend (indep_tup (by intro a ha; simp at ha; rcases ha with rfl | rfl; exact indep_agg (by intro a ha; simp at ha; rcases ha with rfl | rfl | rfl <;> exact indep_v _); exact indep_v _)) ⟨fin_fz hw rfl (by rw [List.length_map]) rfl (fun _ => rfl), Fin.refl _ _ _, trivial⟩
theorem q_rlookup {σ : St} {w : Nat} {l : List Bd} (nm : ByteArray) (hw : σ w = some (.row 4 73 (l.map bc))) : ACalls Tryd.prog 24 [.osl w 4 0 l.length, .v (.string nm)] σ (fun e σ' => e = .ret (.tup [.agg (vc (lookV nm l)), .v (.bool (lookB nm l))]) ∧ σ' = σ) :=
  (p_rlookup none false l nm).lend (indep_tup (by intro a ha; simp at ha; rcases ha with rfl | rfl; exact indep_agg (by intro a ha; simp at ha; rcases ha with rfl | rfl | rfl <;> exact indep_v _); exact indep_v _)) ⟨fin_fz hw rfl (by rw [List.length_map]) rfl (fun _ => rfl), Fin.refl _ _ _, trivial⟩
theorem q_single {σ : St} {w : Nat} (t : Tst) (v : Vl) (now : List Bd) (hw : σ w = some (.row 4 73 (now.map bc))) (hl : now.length ≤ 65536) : ACalls Tryd.prog 68 [.agg (tc t), .agg (vc v), .osl w 4 0 now.length] σ (fun e σ' => ∃ x : Option Nat, (match x with | none => bindsB t now = false | some w' => bindsB t now = true ∧ σ w' = none) ∧
    e = .ret (match x with | none => .tup [.osl w 4 0 now.length, .v (.bool (testB t v now))] | some w' => .tup [.osl w' 4 0 (now.length + 1), .v (.bool true)]) ∧
    σ' = (match x with | none => σ | some w' => (σ.del w).set w' (.row 4 73 ((now ++ [(⟨t.v, v⟩ : Bd)]).map bc)))) := by
  refine acalls_gives_ex ?_
  refine enter Tryd.func68 rfl rfl rfl rfl ?_
  obtain ⟨tp, tv, tk, tn, ts⟩ := t
  obtain ⟨vk, vn, vs⟩ := v
  have hn : (now.map bc).length = now.length := List.length_map ..
  repeat' (first|(first|(refine jl ?_;first|refine j8 ?_|refine jb ?_|refine j1 ?_|refine j4 ?_|refine j9 ?_|refine j12 (fun id hid=>?_)|refine j13 (fun id hid=>?_)|refine j14 ?_|refine j17t ?_|refine j16 ?_|refine jp (p_holds _ _ _ _ _ _ _) ?_|refine jcq (hp:=fun hc=>p_holds _ _ _ _ _ _ _) ?_|refine lj_to rfl rfl rfl (q_lookup _ lkp) ?_|refine jlit ?_)|(refine jc ?_;first|refine c1 ?_|refine c2 ?_|refine c6 ?_|refine c7 ?_)|refine n1 ?_|refine n2 ?_|refine n11 ?_)|(refine c9 (fun h=>?_) (fun h=>?_)<;>(try simp only [Bool.or_eq_true, Bool.and_eq_true, Bool.or_eq_false_iff, Bool.and_eq_false_iff, Bool.not_eq_true', Bool.not_eq_false', decide_eq_true_eq, decide_eq_false_iff_not, Bool.false_eq_true, Bool.true_eq_false, reduceCtorEq] at h)))
  · refine ⟨none, by simp [bindsB, noS, h], ?_⟩
    dsimp only
    rw [testB, if_pos (by exact h)]
    exact ge rfl
  · refine japo (id := w) (els := now.map bc) (n := now.length) (m := now.length + 1) (news := [bc ⟨tv, ⟨vk, vn, vs⟩⟩]) (all := (now ++ [(⟨tv, ⟨vk, vn, vs⟩⟩ : Bd)]).map bc) (fun w' hw' => ?_) (by rw [List.take_of_length_le (by omega), List.map_append]; rfl) rfl (hb := by dsimp only [List.length]; omega)
    repeat (first|(refine jl ?_;first|refine j1 ?_|refine j4 ?_)|(refine jc ?_;first|refine c7 ?_)|refine n2 ?_|refine n11 ?_)
    refine ⟨some w', ⟨by simp [bindsB, noS, h.1, h.2]; exact decide_eq_false (by assumption), St.ns3 hw'⟩, ?_⟩
    exact ge rfl (St.le_setk (St.le_any (St.le_del2 (St.le_any (St.le_any (St.le_any (St.le_refl _))))) (St.none_del (St.ns3 hw'))) (St.set_same _ _ _))
  · refine ⟨none, ?_, ?_⟩
    · rcases h with h | h <;> simp [bindsB, noS, h]
    dsimp only
    rw [testB, if_neg (by assumption)]
    exact ge rfl
end Go.Proofs.YtbpoeggmpjepfaaDoor.Ab

/- What is bound, cloned: a row of our own. -/
set_option linter.unusedVariables false
set_option linter.unusedSimpArgs false
set_option maxRecDepth 20000
namespace Go.Proofs.YtbpoeggmpjepfaaDoor.Ab
open Go
attribute [local irreducible] thn inb endR CJ LJ OpJ DJ DA DB AllocK

theorem q_cloneb (nl : Option Bool) (full : Bool) (l : List Bd) (hl : l.length ≤ 65536) (σ : St) : ACalls Tryd.prog 26 [.sl nl full 4 (l.map bc)] σ (fun e σ' => ∃ id, σ id = none ∧ e = .ret (.osl id 4 0 l.length) ∧ σ' = σ.set id (.row 4 73 (l.map bc))) := by
  refine enter Tryd.func26 rfl rfl rfl rfl ?_
  have hn : (l.map bc).length = l.length := List.length_map ..
  repeat (first|(refine jl ?_;first|refine j1 ?_|refine j4 ?_)|(refine jc ?_;first|refine c1 ?_|refine c2 ?_))
  refine lj_v_any rfl (fun R hR => opj_isnil_sl rfl rfl rfl rfl hR) (fun b hb => ?_)
  cases b
  · repeat (first|(refine jl ?_;first|refine j4 ?_)|(refine jc ?_;first|refine c1 ?_|refine c2 ?_|refine c4 ?_|refine c6 ?_)|refine n1 ?_)
    refine jlito (fun a ha => ?_)
    repeat (first|(refine jl ?_;first|refine j1 ?_))
    refine japo (id := a) (els := []) (n := 0) (m := l.length) (news := l.map bc) (all := l.map bc) (fun w' hw' => ?_) rfl (by omega) (hn := Nat.zero_le _) (hb := by omega)
    rw [St.del_set ha]
    repeat (first|(refine jl ?_;first|refine j1 ?_|refine j4 ?_)|(refine jc ?_;first|refine c7 ?_)|refine n11 ?_)
    exact ⟨w', St.ns1 hw', rfl, rfl⟩
  · have h0 : l = [] := List.map_eq_nil_iff.1 (hb rfl)
    subst h0
    (first|(refine jl ?_;first|refine j4 ?_))
    (first|(refine jc ?_;first|refine c3 ?_))
    (first|(refine jc ?_;first|refine c1 ?_))
    (first|(refine jc ?_;first|refine c2 ?_))
    (first|(refine jl ?_;first|refine j1 ?_))
    (first|(refine jl ?_;first|refine j4 ?_))
    refine cj_ghost (ghost_nil (t := 2) 4 73 rfl (fun w hw => ?_))
    repeat (first|(refine jc ?_;first|refine c7 ?_)|refine n2 ?_|refine n11 ?_)
    exact ⟨w, hw, rfl, rfl⟩
end Go.Proofs.YtbpoeggmpjepfaaDoor.Ab

/- What a rule does: a variable bound. -/
set_option linter.unusedVariables false
set_option linter.unusedSimpArgs false
set_option maxRecDepth 20000
namespace Go.Proofs.YtbpoeggmpjepfaaDoor.Ab
open Go
theorem Pure.at_ {P : Program} {f : FuncId} {args : List AV} {r : AV} {σ : St} (h : Pure P f args r) : ACalls P f args σ (fun e σ' => e = .ret r ∧ σ' = σ) :=
  acalls_gives ((h σ).mono fun e σ' ⟨h1, h2⟩ => h1 ▸ gives h2 (Fin.refl _ _ _))
theorem St.fp2 {σ : St} {a b : Nat} {x y : AObj} (ha : σ a = none) (hb : (σ.set a x) b = none) : (((σ.set a x).set b y).del a).del b = σ := by
  have hab : a ≠ b := St.ne_of_none hb
  have hb' : σ b = none := St.none_set hb
  funext z
  unfold St.set St.del
  dsimp only
  by_cases e1 : z = b
  · simp [e1, hb']
  · by_cases e2 : z = a
    · simp [e2, ha]
    · simp [e1, e2]
attribute [local irreducible] thn inb endR CJ LJ OpJ DJ DA DB AllocK
def bindF (nm : ByteArray) (v : Vl) : List Bd → List Bd
  | [] => [⟨nm, v⟩]
  | x :: r => if isB nm x = true then ⟨x.name, v⟩ :: r else x :: bindF nm v r
theorem bindF_none {nm : ByteArray} {v : Vl} : ∀ {bd : List Bd}, (∀ x ∈ bd, isB nm x = false) → bindF nm v bd = bd ++ [⟨nm, v⟩]
  | [], _ => rfl
  | x :: r, h => by
    unfold bindF
    rw [if_neg (by rw [h x (List.mem_cons_self ..)]; simp), bindF_none (fun y hy => h y (List.mem_cons_of_mem _ hy))]
    rfl
theorem bindF_at {nm : ByteArray} {v : Vl} : ∀ (bd : List Bd) (i j : Nat) (x : Bd), idxG (isB nm) bd i = ((i + j : Nat) : Int) → bd[j]? = some x → bindF nm v bd = bd.set j ⟨x.name, v⟩
  | [], i, j, x, h, hx => by simp at hx
  | y :: r, i, j, x, h, hx => by
    unfold idxG at h
    unfold bindF
    by_cases hy : isB nm y = true
    · rw [if_pos hy] at h ⊢
      have : j = 0 := by omega
      subst this
      cases hx
      rfl
    · rw [if_neg hy] at h ⊢
      cases j with
      | zero =>
        exfalso
        have : 0 ≤ idxG (isB nm) r (i + 1) ∨ idxG (isB nm) r (i + 1) < 0 := by omega
        rcases this with h1 | h1
        · obtain ⟨m, z, e, _⟩ := idxG_get (isB nm) r (i + 1) h1
          omega
        · omega
      | succ j => rw [bindF_at r (i + 1) j x (by rw [h]; congr 1; omega) hx]; rfl
theorem bindF_len (nm : ByteArray) (v : Vl) : ∀ bd : List Bd, (bindF nm v bd).length ≤ bd.length + 1
  | [] => Nat.le_refl _
  | x :: r => by
    unfold bindF
    split
    · rw [List.length_cons, List.length_cons]; omega
    · have := bindF_len nm v r
      rw [List.length_cons, List.length_cons]; omega
theorem p_bind1 (nm : ByteArray) (x : Bd) : Pure Tryd.prog 28 [.agg (bc x), .fp [.v (.string nm)]] (.v (.bool (isB nm x))) := by
  refine enterW Tryd.func28 rfl rfl rfl rfl (fun σ => ?_)
  repeat (first|(refine jl ?_;first|refine jbl ?_|refine j1 ?_|refine j4 ?_|refine j12 (fun id hid=>?_)|refine j14 ?_)|(refine jc ?_;first|refine c1 ?_|refine c2 ?_|refine c7 ?_)|refine n11 ?_)
  exact ge rfl
theorem p_bindix (nm : ByteArray) (bd : List Bd) : Pure Tryd.prog 27 [.sl none false 4 (bd.map bc), .fn 28 [.fp [.v (.string nm)]]] (.v (.int .i64 (idxG (isB nm) bd 0))) := fun σ =>
  (q_index_bounds (isB nm) rfl none false bd (fun x => (p_bind1 nm x).at_)).mono fun e σ' ⟨h1, h2⟩ => ⟨h1, h2 ▸ St.le_refl _⟩
theorem q_bindix {σ : St} {w : Nat} (nm : ByteArray) (bd : List Bd) (hw : σ w = some (.row 4 73 (bd.map bc))) : ACalls Tryd.prog 27 [.osl w 4 0 bd.length, .fn 28 [.fp [.v (.string nm)]]] σ (fun e σ' => e = .ret (.v (.int .i64 (idxG (isB nm) bd 0))) ∧ σ' = σ) :=
  (p_bindix nm bd).lend (indep_v _) ⟨fin_fz hw rfl (by rw [List.length_map]) rfl (fun _ => rfl), Fin.refl _ _ _, trivial⟩
set_option maxHeartbeats 4000000 in
theorem p_bind (nl : Option Bool) (full : Bool) (bd : List Bd) (nm : ByteArray) (v : Vl) (hl : bd.length ≤ 60000) : Pure Tryd.prog 11 [.sl nl full 4 (bd.map bc), .v (.string nm), .agg (vc v)] (.sl none false 4 ((bindF nm v bd).map bc)) := by
  refine enterW Tryd.func11 rfl rfl rfl rfl (fun σ => ?_)
  have hn : (bd.map bc).length = bd.length := List.length_map ..
  have h5 := idxG_lt (isB nm) bd 0
  have h6 := idxG_get (isB nm) bd 0
  repeat (first|(refine jl ?_;first|refine j1 ?_|refine j4 ?_|refine j12 (fun id hid=>?_))|(refine jc ?_;first|refine c1 ?_|refine c2 ?_))
  first | refine cj_id 4 (fun b1 e => ?_) | refine lj_id 4 (fun b1 e => ?_)
  subst e
  first | refine cj_id 5 (fun b2 e => ?_) | refine lj_id 5 (fun b2 e => ?_)
  subst e
  refine lj_fp 4 rfl lkp ?_
  refine lj_fp 5 rfl (by unfold St.del; rw [if_neg (Ne.symm (St.ne_of_none (by assumption)))]; exact St.set_same _ _ _) ?_
  rw [St.fp2 (by assumption) (by assumption)]
  repeat (first|fail)
  refine lj_calls rfl rfl rfl (q_cloneb nl full bd (by omega) _) (fun r σ' hr => ?_) (fun x σ' ⟨_, _, h, _⟩ => by cases h)
  obtain ⟨w, hw, e, e3⟩ := hr
  cases e
  subst e3
  have ha : (bd.map bc).take bd.length ++ [bc ⟨nm, v⟩] = (bd ++ [(⟨nm, v⟩ : Bd)]).map bc := by rw [List.take_of_length_le (by omega), List.map_append]; rfl
  by_cases hix : idxG (isB nm) bd 0 < 0
  · rw [bindF_none (h5.1 hix)]
    repeat' (first|(first|(refine jl ?_;first|refine jb ?_|refine jbl ?_|refine j1 ?_|refine j4 ?_|refine lj_to rfl rfl rfl (q_bindix nm bd lkp) ?_|refine jlit ?_)|(refine jc ?_;first|refine c1 ?_|refine c2 ?_))|(refine c9 (fun h=>?_) (fun h=>?_)<;>((try simp only [Bool.or_eq_true, Bool.and_eq_true, Bool.or_eq_false_iff, Bool.and_eq_false_iff, Bool.not_eq_true', Bool.not_eq_false', decide_eq_true_eq, decide_eq_false_iff_not, Bool.false_eq_true, Bool.true_eq_false, reduceCtorEq] at h) <;> (try simp (disch := omega) only [sb_bt, w64, Int.reduceAdd, Int.reduceToNat, Int.toNat_natCast, not_true_eq_false, false_or] at h) <;> (try (exfalso; omega)))))
    all_goals first | (exfalso; exact h hix) | skip
    refine japo (n := bd.length) (m := bd.length + 1) (news := [bc ⟨nm, v⟩]) (fun w2 hw2 => ?_) ha rfl (hn := by omega) (hb := by dsimp only [List.length]; omega)
    have hw3 := St.ns1 hw2
    rw [St.del_set hw]
    repeat (first|(refine jl ?_;first|refine j1 ?_|refine j4 ?_)|(refine jc ?_;first|refine c7 ?_)|refine n2 ?_|refine n11 ?_)
    exact gvs (fin_fz (St.set_same _ _ _) hw3 (by rw [List.length_map, List.length_append]; rfl) rfl (fun _ => rfl))
  · obtain ⟨j, x, e1, e2, e3, e4⟩ := h6 (by omega)
    rw [bindF_at bd 0 j x e1 e2]
    rw [Nat.zero_add] at e1
    have hlt := (List.getElem?_eq_some_iff.1 e2).1
    have hg : (bd.map bc)[0 + ((j : Nat) : Int).toNat]? = some (bc x) := by rw [Nat.zero_add]; exact get_map bc e2
    have hst : (bd.map bc).set (0 + ((j : Nat) : Int).toNat) (bc ⟨x.name, v⟩) = (bd.set j ⟨x.name, v⟩).map bc := by rw [Nat.zero_add, Int.toNat_natCast, List.map_set]
    have k1 := fun {τ : St} (h : τ w = some (.row 4 73 (bd.map bc))) => q_bindix (σ := τ) nm bd h
    rw [e1] at k1 hix
    obtain ⟨xn, xv⟩ := x
    repeat' (first|(first|(refine jl ?_;first|refine jbl ?_|refine j1 ?_|refine j4 ?_|refine ji4 ?_|refine lj_to rfl rfl rfl (k1 lkp) ?_|refine jse hg hst ?_)|(refine jc ?_;first|refine c1 ?_|refine c2 ?_|refine c6 ?_|refine c7 ?_)|refine n1 ?_|refine n11 ?_)|(refine c9 (fun h=>?_) (fun h=>?_)<;>((try simp only [Bool.or_eq_true, Bool.and_eq_true, Bool.or_eq_false_iff, Bool.and_eq_false_iff, Bool.not_eq_true', Bool.not_eq_false', decide_eq_true_eq, decide_eq_false_iff_not, Bool.false_eq_true, Bool.true_eq_false, reduceCtorEq] at h) <;> (try simp (disch := omega) only [sb_bt, w64, Int.reduceAdd, Int.reduceToNat, Int.toNat_natCast, not_true_eq_false, false_or] at h) <;> (try (exfalso; omega)))))
    all_goals first | (exfalso; omega) | skip
    exact gvs (fin_fz (St.set_same _ _ _) hw (by rw [List.length_map, List.length_set]) rfl (fun _ => rfl))
set_option maxHeartbeats 4000000 in
theorem p_rbind (nl : Option Bool) (full : Bool) (bd : List Bd) (nm : ByteArray) (v : Vl) (hl : bd.length ≤ 60000) : Pure Tryd.prog 12 [.sl nl full 4 (bd.map bc), .v (.string nm), .agg (vc v)] (.sl none false 4 ((bindF nm v bd).map bc)) := by
  refine enterW Tryd.func12 rfl rfl rfl rfl (fun σ => ?_)
  have hn : (bd.map bc).length = bd.length := List.length_map ..
  repeat (first|(refine jl ?_;first|refine j1 ?_|refine j4 ?_|refine j12 (fun id hid=>?_))|(refine jc ?_;first|refine c1 ?_|refine c2 ?_|refine c5 ?_))
  first | refine cj_id 5 (fun b2 e => ?_) | refine lj_id 5 (fun b2 e => ?_)
  subst e
  refine cj_fp 5 rfl (St.set_same _ _ _) ?_
  rw [St.del_set (by assumption)]
  refine cj_ghost (ghost_nil (t := 7) 4 73 rfl (fun w0 hw0 => ?_))
  refine cj_for (fun s : Nat × Nat × List Bd × Bool => s.1 ≤ bd.length ∧ σ s.2.1 = none ∧ s.2.2.1 ++ (if s.2.2.2 = true then bd.drop s.1 else bindF nm v (bd.drop s.1)) = bindF nm v bd ∧ s.2.2.1.length = s.1) (fun s => [(9, .v (.int .i64 s.1)), (7, .osl s.2.1 4 0 s.2.2.1.length), (8, .v (.bool s.2.2.2))]) (fun s => σ.set s.2.1 (.row 4 73 (s.2.2.1.map bc))) (fun s => bd.length - s.1) (0, w0, [], false) ⟨Nat.zero_le _, hw0, rfl, rfl⟩ ⟨⟨_, rfl, fun _ _ h => h⟩, ⟨_, rfl, fun _ _ h => h⟩, ⟨_, rfl, fun _ _ h => h⟩, trivial⟩ (St.le_refl _) (fun s hs2 => ?_)
  obtain ⟨i, w, out, done⟩ := s
  dsimp only at hs2 ⊢
  obtain ⟨h1, h2, h3, h4⟩ := hs2
  have hno : (out.map bc).length = out.length := List.length_map ..
  have hap : ∀ y : Bd, (out.map bc).take out.length ++ [bc y] = (out ++ [y]).map bc := fun y => by rw [List.take_of_length_le (by omega), List.map_append]; rfl
  rcases hd : bd.drop i with _ | ⟨x, r⟩
  · have z1 := dropn hd
    rw [hd] at h3
    cases done with
    | true =>
      rw [if_pos rfl, List.append_nil] at h3
      rw [← h3]
      repeat' (first|(first|(refine jl ?_;first|refine j1 ?_|refine j4 ?_)|(refine jc ?_;first|refine c1 ?_|refine c2 ?_|refine c6 ?_|refine c7 ?_|refine c8 ?_)|refine n1 ?_|refine n3 ?_|refine n7 ?_|refine n8 ?_|refine n11 ?_)|(refine c9 (fun h=>?_) (fun h=>?_)<;>((try simp only [Bool.or_eq_true, Bool.and_eq_true, Bool.or_eq_false_iff, Bool.and_eq_false_iff, Bool.not_eq_true', Bool.not_eq_false', decide_eq_true_eq, decide_eq_false_iff_not, Bool.false_eq_true, Bool.true_eq_false, reduceCtorEq] at h) <;> (try simp (disch := omega) only [sb_bt, w64, Int.reduceAdd, Int.reduceToNat, Int.toNat_natCast, not_true_eq_false, false_or] at h) <;> (try (exfalso; omega)))))
      all_goals first | (exfalso; simp at h; done) | skip
      exact gvs (fin_fz (St.set_same _ _ _) h2 hno.symm rfl (fun _ => rfl))
    | false =>
      rw [if_neg (by simp)] at h3
      rw [← h3]
      repeat' (first|(first|(refine jl ?_;first|refine jb ?_|refine jbl ?_|refine j1 ?_|refine j4 ?_|refine jlit ?_)|(refine jc ?_;first|refine c1 ?_|refine c2 ?_|refine c8 ?_)|refine n1 ?_|refine n3 ?_|refine n7 ?_|refine n8 ?_)|(refine c9 (fun h=>?_) (fun h=>?_)<;>((try simp only [Bool.or_eq_true, Bool.and_eq_true, Bool.or_eq_false_iff, Bool.and_eq_false_iff, Bool.not_eq_true', Bool.not_eq_false', decide_eq_true_eq, decide_eq_false_iff_not, Bool.false_eq_true, Bool.true_eq_false, reduceCtorEq] at h) <;> (try simp (disch := omega) only [sb_bt, w64, Int.reduceAdd, Int.reduceToNat, Int.toNat_natCast, not_true_eq_false, false_or] at h) <;> (try (exfalso; omega)))))
      all_goals first | (exfalso; simp at h; done) | skip
      refine japo (n := out.length) (m := out.length + 1) (news := [bc ⟨nm, v⟩]) (fun w2 hw2 => ?_) (hap _) rfl (hn := by omega) (hb := by dsimp only [List.length]; omega)
      have hw3 := St.ns1 hw2
      rw [St.del_set h2]
      repeat (first|(refine jl ?_;first|refine j1 ?_|refine j4 ?_)|(refine jc ?_;first|refine c1 ?_|refine c2 ?_|refine c7 ?_)|refine n11 ?_)
      exact gvs (fin_fz (St.set_same _ _ _) hw3 (by rw [List.length_map, List.length_append]; rfl) rfl (fun _ => rfl))
  · obtain ⟨u1, u2, u3⟩ := dropc hd
    have u4 := get_map bc u3
    rw [hd] at h3
    cases done with
    | true =>
      rw [if_pos rfl, ← u2] at h3
      repeat' (first|(first|(refine jl ?_;first|refine j8 ?_|refine jbl ?_|refine j1 ?_|refine j4 ?_|refine j9 ?_|refine j13 (fun id hid=>?_)|refine j14 ?_|refine j17t ?_|refine ji1 ?_|refine jlit ?_)|(refine jc ?_;first|refine c1 ?_|refine c2 ?_|refine c5 ?_|refine c6 ?_)|refine n1 ?_)|(refine c9 (fun h=>?_) (fun h=>?_)<;>((try simp only [Bool.or_eq_true, Bool.and_eq_true, Bool.or_eq_false_iff, Bool.and_eq_false_iff, Bool.not_eq_true', Bool.not_eq_false', decide_eq_true_eq, decide_eq_false_iff_not, Bool.false_eq_true, Bool.true_eq_false, reduceCtorEq] at h) <;> (try simp (disch := omega) only [sb_bt, w64, Int.reduceAdd, Int.reduceToNat, Int.toNat_natCast, not_true_eq_false, false_or] at h) <;> (try (exfalso; omega)))))
      all_goals first | (exfalso; simp at h; done) | skip
      refine japo (n := out.length) (m := out.length + 1) (news := [bc x]) (fun w2 hw2 => ?_) (hap x) rfl (hn := by omega) (hb := by dsimp only [List.length]; omega)
      repeat (first|(refine jl ?_;first|refine j1 ?_|refine j6 ?_)|(refine jc ?_;first|refine c2 ?_)|refine n1 ?_|refine n10 ?_)
      refine nx_forS (i + 1, w2, out ++ [(x : Bd)], true) ⟨by dsimp only; omega, St.ns2 hw2, by dsimp only; rw [List.append_assoc]; exact h3, by dsimp only; rw [List.length_append, List.length_singleton]; omega⟩ (by dsimp only; omega) ⟨⟨_, rfl, wk1 (by omega)⟩, ⟨_, rfl, Wk.of_eq (by dsimp only; rw [List.length_append, List.length_singleton])⟩, ⟨_, rfl, fun _ _ h => h⟩, trivial⟩ (St.le_set2 (St.leX_same (St.leX_del (St.leX_any (St.leX_any (St.leX_refl _ _) h2) (St.none_set hid)) h2)) (St.set_same _ _ _))
    | false =>
      rw [if_neg (by simp)] at h3
      rw [show bindF nm v (x :: r) = if isB nm x = true then ⟨x.name, v⟩ :: r else x :: bindF nm v r from rfl] at h3
      by_cases hx : x.name = nm
      · rw [if_pos (show isB nm x = true from decide_eq_true hx), ← u2] at h3
        repeat' (first|(first|(refine jl ?_;first|refine j8 ?_|refine jbl ?_|refine j1 ?_|refine j4 ?_|refine j9 ?_|refine j13 (fun id hid=>?_)|refine j14 ?_|refine j17t ?_|refine ji1 ?_|refine jlit ?_)|(refine jc ?_;first|refine c1 ?_|refine c2 ?_|refine c5 ?_|refine c6 ?_)|refine n1 ?_)|(refine c9 (fun h=>?_) (fun h=>?_)<;>((try simp only [Bool.or_eq_true, Bool.and_eq_true, Bool.or_eq_false_iff, Bool.and_eq_false_iff, Bool.not_eq_true', Bool.not_eq_false', decide_eq_true_eq, decide_eq_false_iff_not, Bool.false_eq_true, Bool.true_eq_false, reduceCtorEq] at h) <;> (try simp (disch := omega) only [sb_bt, w64, Int.reduceAdd, Int.reduceToNat, Int.toNat_natCast, not_true_eq_false, false_or] at h) <;> (try (exfalso; omega)))))
        all_goals first | (exfalso; rcases h with h | h; exact h hx; exact h.elim) | skip
        refine japo (n := out.length) (m := out.length + 1) (news := [bc ⟨x.name, v⟩]) (fun w2 hw2 => ?_) (hap ⟨x.name, v⟩) rfl (hn := by omega) (hb := by dsimp only [List.length]; omega)
        repeat (first|(refine jl ?_;first|refine j1 ?_|refine j6 ?_)|(refine jc ?_;first|refine c2 ?_)|refine n1 ?_|refine n10 ?_)
        refine nx_forS (i + 1, w2, out ++ [(⟨x.name, v⟩ : Bd)], true) ⟨by dsimp only; omega, by first | exact St.ns2 hw2 | exact St.ns3 hw2, by dsimp only; rw [List.append_assoc]; exact h3, by dsimp only; rw [List.length_append, List.length_singleton]; omega⟩ (by dsimp only; omega) ⟨⟨_, rfl, wk1 (by omega)⟩, ⟨_, rfl, Wk.of_eq (by dsimp only; rw [List.length_append, List.length_singleton])⟩, ⟨_, rfl, fun _ _ h => h⟩, trivial⟩ (St.le_set2 (St.leX_same (St.leX_del (by first | exact St.leX_any (St.leX_any (St.leX_any (St.leX_refl _ _) h2) (St.none_set hid)) (St.none_set hid) | exact St.leX_any (St.leX_any (St.leX_refl _ _) h2) (St.none_set hid)) h2)) (St.set_same _ _ _))
      · rw [if_neg (show ¬ isB nm x = true from fun e => hx (of_decide_eq_true e)), ← u2] at h3
        repeat' (first|(first|(refine jl ?_;first|refine j8 ?_|refine jbl ?_|refine j1 ?_|refine j4 ?_|refine j9 ?_|refine j13 (fun id hid=>?_)|refine j14 ?_|refine j17t ?_|refine ji1 ?_|refine jlit ?_)|(refine jc ?_;first|refine c1 ?_|refine c2 ?_|refine c5 ?_|refine c6 ?_)|refine n1 ?_)|(refine c9 (fun h=>?_) (fun h=>?_)<;>((try simp only [Bool.or_eq_true, Bool.and_eq_true, Bool.or_eq_false_iff, Bool.and_eq_false_iff, Bool.not_eq_true', Bool.not_eq_false', decide_eq_true_eq, decide_eq_false_iff_not, Bool.false_eq_true, Bool.true_eq_false, reduceCtorEq] at h) <;> (try simp (disch := omega) only [sb_bt, w64, Int.reduceAdd, Int.reduceToNat, Int.toNat_natCast, not_true_eq_false, false_or] at h) <;> (try (exfalso; omega)))))
        all_goals first | (exfalso; exact hx h.1) | skip
        refine japo (n := out.length) (m := out.length + 1) (news := [bc x]) (fun w2 hw2 => ?_) (hap x) rfl (hn := by omega) (hb := by dsimp only [List.length]; omega)
        repeat (first|(refine jl ?_;first|refine j1 ?_|refine j6 ?_)|(refine jc ?_;first|refine c2 ?_)|refine n1 ?_|refine n10 ?_)
        refine nx_forS (i + 1, w2, out ++ [(x : Bd)], false) ⟨by dsimp only; omega, by first | exact St.ns2 hw2 | exact St.ns3 hw2, by dsimp only; rw [List.append_assoc]; exact h3, by dsimp only; rw [List.length_append, List.length_singleton]; omega⟩ (by dsimp only; omega) ⟨⟨_, rfl, wk1 (by omega)⟩, ⟨_, rfl, Wk.of_eq (by dsimp only; rw [List.length_append, List.length_singleton])⟩, ⟨_, rfl, fun _ _ h => h⟩, trivial⟩ (St.le_set2 (St.leX_same (St.leX_del (St.leX_any (St.leX_any (St.leX_refl _ _) h2) (St.none_set hid)) h2)) (St.set_same _ _ _))
end Go.Proofs.YtbpoeggmpjepfaaDoor.Ab

/- What a rule does: three rows of our own; effects put out. -/
set_option linter.unusedVariables false
set_option linter.unusedSimpArgs false
set_option maxRecDepth 20000
namespace Go.Proofs.YtbpoeggmpjepfaaDoor.Ab
open Go
/-- Three rows of our own, on top of what was. -/
structure W3 (σ : St) (r h o : Nat) : Prop where
  nr : σ r = none
  nh : σ h = none
  no : σ o = none
  rh : r ≠ h
  ro : r ≠ o
  ho : h ≠ o
def r3 (σ : St) (r h o : Nat) (R H O : AObj) : St := ((σ.set r R).set h H).set o O
section
variable {σ : St} {r h o : Nat} {R H O : AObj}
theorem r3_r (w : W3 σ r h o) : r3 σ r h o R H O r = some R := by
  unfold r3
  rw [St.set_ne _ _ _ w.ro, St.set_ne _ _ _ w.rh]
  exact St.set_same _ _ _
theorem r3_h (w : W3 σ r h o) : r3 σ r h o R H O h = some H := by
  unfold r3
  rw [St.set_ne _ _ _ w.ho]
  exact St.set_same _ _ _
theorem r3_o : r3 σ r h o R H O o = some O := St.set_same _ _ _
theorem r3_set_r (w : W3 σ r h o) {R' : AObj} : (r3 σ r h o R H O).set r R' = r3 σ r h o R' H O := by
  have h1 := w.rh
  have h2 := w.ro
  unfold r3
  funext x
  unfold St.set
  by_cases e : x = r
  · subst e; simp [h1, h2]
  · simp [e]
theorem r3_set_h (w : W3 σ r h o) {H' : AObj} : (r3 σ r h o R H O).set h H' = r3 σ r h o R H' O := by
  have h1 := w.ho
  unfold r3
  funext x
  unfold St.set
  by_cases e : x = h
  · subst e; simp [h1]
  · simp [e]
theorem r3_set_o {O' : AObj} : (r3 σ r h o R H O).set o O' = r3 σ r h o R H O' := St.set_set _ _ _ _
theorem r3_mv_o (w : W3 σ r h o) {o' : Nat} {O' : AObj} : ((r3 σ r h o R H O).del o).set o' O' = r3 σ r h o' R H O' := by
  unfold r3
  rw [St.del_set (by rw [St.set_ne _ _ _ w.ho.symm, St.set_ne _ _ _ w.ro.symm]; exact w.no)]
theorem r3_none (w : W3 σ r h o) {x : Nat} (hx : r3 σ r h o R H O x = none) : σ x = none ∧ x ≠ r ∧ x ≠ h ∧ x ≠ o := by
  refine ⟨St.none_set (St.none_set (St.none_set hx)), fun e => ?_, fun e => ?_, fun e => ?_⟩
  · rw [e, r3_r w] at hx; cases hx
  · rw [e, r3_h w] at hx; cases hx
  · rw [e, r3_o] at hx; cases hx
theorem W3.mv (w : W3 σ r h o) {x : Nat} (hx : r3 σ r h o R H O x = none) : W3 σ r h x := by
  obtain ⟨h1, h2, h3, h4⟩ := r3_none w hx
  exact ⟨w.nr, w.nh, h1, w.rh, h2.symm, h3.symm⟩
theorem W3.le (w : W3 σ r h o) : σ.le (r3 σ r h o R H O) := St.le_trans (St.le_set _ w.nr) (St.le_trans (St.le_set _ (by rw [St.set_ne _ _ _ w.rh.symm]; exact w.nh)) (St.le_set _ (by rw [St.set_ne _ _ _ w.ho.symm, St.set_ne _ _ _ w.ro.symm]; exact w.no)))
end
attribute [local irreducible] thn inb endR CJ LJ OpJ DJ DA DB AllocK r3
/-- Effects. -/
inductive Eff where
  | made (f : Fc)
  | removed (t : Int)
  | wrote (s : ByteArray)
  | halted
abbrev zeroFc : List AV := [.v (.int .i64 0), .v (.string ⟨#[]⟩), .sl (some true) true 1 []]
def efc : Eff → List AV
  | .made f => [.v (.int .u8 0), .v (.int .i64 f.tag), .v (.string f.cls), .sl none false 3 (f.vals.map vc), .v (.int .i64 0), .v (.string ⟨#[]⟩)]
  | .removed t => [.v (.int .u8 1), .v (.int .i64 0), .v (.string ⟨#[]⟩), .sl (some true) true 1 [], .v (.int .i64 t), .v (.string ⟨#[]⟩)]
  | .wrote s => [.v (.int .u8 2), .v (.int .i64 0), .v (.string ⟨#[]⟩), .sl (some true) true 1 [], .v (.int .i64 0), .v (.string s)]
  | .halted => [.v (.int .u8 3), .v (.int .i64 0), .v (.string ⟨#[]⟩), .sl (some true) true 1 [], .v (.int .i64 0), .v (.string ⟨#[]⟩)]
abbrev runC (l : List Cls) (bd : List Bd) (h m o n : Nat) (nx : Int) : AObj := .row 5 91 [[.sl none false 2 (l.map cc), .sl none false 4 (bd.map bc), .osl h 3 0 m, .osl o 6 0 n, .v (.int .i64 nx)]]
abbrev facR (l : List Fc) : AObj := .row 3 52 (l.map fc)
abbrev effR (l : List Eff) : AObj := .row 6 61 (l.map efc)
/-- A run's store. -/
abbrev rst (σ : St) (r h o : Nat) (l : List Cls) (bd : List Bd) (hv : List Fc) (out : List Eff) (nx : Int) : St := r3 σ r h o (runC l bd h hv.length o out.length nx) (facR hv) (effR out)
set_option maxHeartbeats 4000000 in
theorem q_made {σ : St} {r h o : Nat} (w : W3 σ r h o) (l : List Cls) (bd : List Bd) (hv : List Fc) (out : List Eff) (nx : Int) (f : Fc) (hl : out.length ≤ 100000) (hx : -4611686018427387904 ≤ nx ∧ nx ≤ 4611686018427387904) : ACalls Tryd.prog 71 [.ptr r 5 0 0, .agg (fc f)] (rst σ r h o l bd hv out nx) (fun e σ' => ∃ o', W3 σ r h o' ∧ e = .ret (.tup []) ∧ σ' = rst σ r h o' l bd hv (out ++ [.made f]) (nx + 1)) := by
  refine acalls_gives_ex ?_
  refine enter Tryd.func71 rfl rfl rfl rfl ?_
  have hr := r3_r (R := runC l bd h hv.length o out.length nx) (H := facR hv) (O := effR out) w
  have ho : r3 σ r h o (runC l bd h hv.length o out.length nx) (facR hv) (effR out) o = some (effR out) := r3_o
  have hm : (out.map efc).length = out.length := List.length_map ..
  have ha : (out.map efc).take out.length ++ [efc (.made f)] = (out ++ [Eff.made f]).map efc := by rw [List.take_of_length_le (by omega), List.map_append]; rfl
  have hw : IntKind.i64.wrap (nx + 1) = nx + 1 := w64 (by omega) (by omega)
  obtain ⟨ft, fn, fv⟩ := f
  (first|(refine jc ?_;first|refine c1 ?_))
  (first|(refine jc ?_;first|refine c2 ?_))
  (first|(refine jl ?_;first|refine j12 (fun id hid=>?_)))
  (first|(refine jl ?_;first|refine j4 ?_))
  first | refine cj_id 3 (fun b e => ?_) | refine lj_id 3 (fun b e => ?_)
  subst e
  refine cj_fp 3 rfl (St.set_same _ _ _) ?_
  rw [St.del_set (by assumption)]
  repeat (first|(refine yl ?_;first|refine y7 ?_|refine y8 ?_|refine y10 ?_|refine y11 ?_|refine ybd ?_|refine ybl ?_|refine y1 ?_|refine y2 ?_|refine y3 ?_|refine y3f ?_|refine y9 ?_|refine y14 ?_|refine y15 ?_|refine y16 ?_|refine y17 ?_|refine y18 ?_|refine y21 ?_|refine y25 ?_|refine yi1 ?_|refine yi2 ?_|refine yi3 ?_|refine yi4 ?_|refine yi4q ?_|refine yi6 ?_|refine ylit ?_)|(refine jc ?_;first|refine c1 ?_|refine cqy (id := 1) [8, 11] [0, 1, 2, 3, 4, 5, 6, 7, 8, 9, 10, 11] ?_))
  refine yapo (els := out.map efc) (n := out.length) (m := out.length + 1) (news := [efc (.made ⟨ft, fn, fv⟩)]) (fun o' ho' => ?_) ha rfl (hσ := ho) (hn := by omega) (hb := by dsimp only [List.length]; omega)
  have w' := w.mv ho'
  rw [r3_mv_o w]
  have hr2 := r3_r (R := runC l bd h hv.length o out.length nx) (H := facR hv) (O := effR (out ++ [Eff.made ⟨ft, fn, fv⟩])) w'
  repeat (first|(refine yl ?_;first|refine y7 ?_|refine y8 ?_|refine y10 ?_|refine y11 ?_|refine ybd ?_|refine ybl ?_|refine y1 ?_|refine y2 ?_|refine y3 ?_|refine y3f ?_|refine y9 ?_|refine y14 ?_|refine y15 ?_|refine y16 ?_|refine y17 ?_|refine y18 ?_|refine y21 ?_|refine y25 ?_|refine yi1 ?_|refine yi2 ?_|refine yi3 ?_|refine yi4 ?_|refine yi4q ?_|refine yi6 ?_|refine ylit ?_))
  refine ynil ?_
  rw [r3_set_r w']
  have hr3 := fun R => r3_r (R := R) (H := facR hv) (O := effR (out ++ [Eff.made ⟨ft, fn, fv⟩])) w'
  have hr4 := hr3 (.row 5 91 [[.sl none false 2 (l.map cc), .sl none false 4 (bd.map bc), .osl h 3 0 hv.length, .osl o' 6 0 (out.length + 1), .v (.int .i64 nx)]])
  repeat (first|(refine jl ?_;first|refine j1 ?_|refine j6 ?_|refine j14 ?_|refine j17 ?_)|(refine jc ?_;first|refine c2 ?_)|refine n1 ?_|refine n12 ?_)
  refine ⟨o', w', ?_⟩
  rw [r3_set_r w', hw, show out.length + 1 = (out ++ [Eff.made ⟨ft, fn, fv⟩]).length by rw [List.length_append]; rfl]
  exact ge rfl
set_option maxHeartbeats 4000000 in
theorem q_removed {σ : St} {r h o : Nat} (w : W3 σ r h o) (l : List Cls) (bd : List Bd) (hv : List Fc) (out : List Eff) (nx : Int) (f : Fc) (hl : out.length ≤ 100000) : ACalls Tryd.prog 74 [.ptr r 5 0 0, .agg (fc f)] (rst σ r h o l bd hv out nx) (fun e σ' => ∃ o', W3 σ r h o' ∧ e = .ret (.tup []) ∧ σ' = rst σ r h o' l bd hv (out ++ [.removed f.tag]) nx) := by
  refine acalls_gives_ex ?_
  refine enter Tryd.func74 rfl rfl rfl rfl ?_
  have hr := r3_r (R := runC l bd h hv.length o out.length nx) (H := facR hv) (O := effR out) w
  have ho : r3 σ r h o (runC l bd h hv.length o out.length nx) (facR hv) (effR out) o = some (effR out) := r3_o
  have hm : (out.map efc).length = out.length := List.length_map ..
  obtain ⟨ft, fn, fv⟩ := f
  have ha : (out.map efc).take out.length ++ [efc (.removed ft)] = (out ++ [Eff.removed ft]).map efc := by rw [List.take_of_length_le (by omega), List.map_append]; rfl
  (first|(refine jc ?_;first|refine c1 ?_))
  (first|(refine jc ?_;first|refine c2 ?_))
  (first|(refine jl ?_;first|refine j12 (fun id hid=>?_)))
  (first|(refine jl ?_;first|refine j4 ?_))
  first | refine cj_id 3 (fun b e => ?_) | refine lj_id 3 (fun b e => ?_)
  subst e
  refine cj_fp 3 rfl (St.set_same _ _ _) ?_
  rw [St.del_set (by assumption)]
  repeat (first|(refine yl ?_;first|refine y7 ?_|refine y8 ?_|refine y10 ?_|refine y11 ?_|refine ybd ?_|refine ybl ?_|refine y1 ?_|refine y2 ?_|refine y3 ?_|refine y3f ?_|refine y9 ?_|refine y14 ?_|refine y15 ?_|refine y16 ?_|refine y17 ?_|refine y18 ?_|refine y21 ?_|refine y25 ?_|refine yi1 ?_|refine yi2 ?_|refine yi3 ?_|refine yi4 ?_|refine yi4q ?_|refine yi6 ?_|refine ylit ?_)|(refine jc ?_;first|refine cqy (id := 1) [9, 12] [0, 1, 2, 3, 4, 5, 6, 7, 8, 9, 10, 11, 12] ?_))
  refine yapo (els := out.map efc) (n := out.length) (m := out.length + 1) (news := [efc (.removed ft)]) (fun o' ho' => ?_) ha rfl (hσ := ho) (hn := by omega) (hb := by dsimp only [List.length]; omega)
  have w' := w.mv ho'
  rw [r3_mv_o w]
  have hr2 := r3_r (R := runC l bd h hv.length o out.length nx) (H := facR hv) (O := effR (out ++ [Eff.removed ft])) w'
  repeat (first|(refine yl ?_;first|refine y7 ?_|refine y8 ?_|refine y10 ?_|refine y11 ?_|refine ybd ?_|refine ybl ?_|refine y1 ?_|refine y2 ?_|refine y3 ?_|refine y3f ?_|refine y9 ?_|refine y14 ?_|refine y15 ?_|refine y16 ?_|refine y17 ?_|refine y18 ?_|refine y21 ?_|refine y25 ?_|refine yi1 ?_|refine yi2 ?_|refine yi3 ?_|refine yi4 ?_|refine yi4q ?_|refine yi6 ?_|refine ylit ?_))
  refine ynil ?_
  rw [r3_set_r w']
  repeat (first|refine n12 ?_)
  refine ⟨o', w', ?_⟩
  rw [show out.length + 1 = (out ++ [Eff.removed ft]).length by rw [List.length_append]; rfl]
  exact ge rfl
end Go.Proofs.YtbpoeggmpjepfaaDoor.Ab

/- What a rule does: a condition's fact. -/
set_option linter.unusedVariables false
set_option linter.unusedSimpArgs false
set_option maxRecDepth 20000
namespace Go.Proofs.YtbpoeggmpjepfaaDoor.Ab
open Go
attribute [local irreducible] thn inb endR CJ LJ OpJ DJ DA DB AllocK r3
theorem efc_len (e : Eff) : (efc e).length = 6 := by cases e <;> rfl
theorem p_index_effects {f : FuncId} {caps : List AV} (g : Eff → Bool) (hent : entered Tryd.prog f = true) (nl : Option Bool) (full : Bool) (l : List Eff) (hf : ∀ x ∈ l, Pure Tryd.prog f ([.agg (efc x)] ++ caps) (.v (.bool (g x)))) : Pure Tryd.prog 92 [.sl nl full 6 (l.map efc), .fn f caps] (.v (.int .i64 (idxG g l 0))) := by
  refine enterW Tryd.func92 rfl rfl rfl rfl (fun σ => ?_)
  refine cj_len 0 (fun hm => ?_)
  have hn : (l.map efc).length = l.length := List.length_map ..
  repeat (first|(refine jl ?_;first|refine j1 ?_|refine j4 ?_)|(refine jc ?_;first|refine c1 ?_|refine c2 ?_|refine c5 ?_))
  refine cj_fors (fun i : Nat => idxG g (l.drop i) i = idxG g l 0) (fun i => [(8, .v (.int .i64 i))]) (fun i => l.length - i) 0 rfl ⟨⟨_, rfl, fun _ _ h => h⟩, trivial⟩ (fun i hi => ?_)
  rcases hd : l.drop i with _ | ⟨x, r⟩
  · have h0 := dropn hd
    rw [hd, idxG] at hi
    repeat' (first|(first|(refine jl ?_;first|refine j1 ?_|refine j4 ?_)|(refine jc ?_;first|refine c1 ?_|refine c2 ?_|refine c7 ?_|refine c8 ?_)|refine n1 ?_|refine n3 ?_|refine n7 ?_|refine n8 ?_|refine n11 ?_)|(refine c9 (fun h=>?_) (fun h=>?_)<;>((try simp only [Bool.or_eq_true, Bool.and_eq_true, Bool.or_eq_false_iff, Bool.and_eq_false_iff, Bool.not_eq_true', Bool.not_eq_false', decide_eq_true_eq, decide_eq_false_iff_not, Bool.false_eq_true, Bool.true_eq_false, reduceCtorEq] at h) <;> (try simp (disch := omega) only [sb_bt, w64, Int.reduceAdd, Int.reduceToNat, Int.toNat_natCast, not_true_eq_false, false_or] at h) <;> (try (exfalso; omega)))))
    rw [← hi]
    exact ge rfl
  · obtain ⟨h1, h2, h3⟩ := dropc hd
    have h4 := get_map efc h3
    rw [hd, idxG] at hi
    have hfx := hf x (List.mem_of_getElem? h3)
    cases x
    all_goals
      repeat' (first|(first|(refine jl ?_;first|refine jbl ?_|refine j1 ?_|refine j4 ?_|refine j6 ?_|refine ji1 ?_|refine jcs hent hfx.at_ ?_)|(refine jc ?_;first|refine c1 ?_|refine c2 ?_|refine c5 ?_|refine c6 ?_|refine c7 ?_)|refine n1 ?_|refine n2 ?_|refine n5 ?_|refine n6 ?_|refine n10 ?_|refine n11 ?_)|(refine c9 (fun h=>?_) (fun h=>?_)<;>((try simp only [Bool.or_eq_true, Bool.and_eq_true, Bool.or_eq_false_iff, Bool.and_eq_false_iff, Bool.not_eq_true', Bool.not_eq_false', decide_eq_true_eq, decide_eq_false_iff_not, Bool.false_eq_true, Bool.true_eq_false, reduceCtorEq] at h) <;> (try simp (disch := omega) only [sb_bt, w64, Int.reduceAdd, Int.reduceToNat, Int.toNat_natCast, not_true_eq_false, false_or] at h) <;> (try (exfalso; omega)))))
      · rw [if_pos h] at hi
        rw [← hi]
        exact ge rfl
      · rw [if_neg (by rw [h]; simp), ← h2] at hi
        exact nx_for (i + 1) hi (by omega) ⟨⟨_, rfl, wk1 (by omega)⟩, trivial⟩
theorem p_index_facts {f : FuncId} {caps : List AV} (g : Fc → Bool) (hent : entered Tryd.prog f = true) (nl : Option Bool) (full : Bool) (l : List Fc) (hf : ∀ x ∈ l, Pure Tryd.prog f ([.agg (fc x)] ++ caps) (.v (.bool (g x)))) : Pure Tryd.prog 48 [.sl nl full 3 (l.map fc), .fn f caps] (.v (.int .i64 (idxG g l 0))) := by
  refine enterW Tryd.func48 rfl rfl rfl rfl (fun σ => ?_)
  refine cj_len 0 (fun hm => ?_)
  have hn : (l.map fc).length = l.length := List.length_map ..
  repeat (first|(refine jl ?_;first|refine j1 ?_|refine j4 ?_)|(refine jc ?_;first|refine c1 ?_|refine c2 ?_|refine c5 ?_))
  refine cj_fors (fun i : Nat => idxG g (l.drop i) i = idxG g l 0) (fun i => [(8, .v (.int .i64 i))]) (fun i => l.length - i) 0 rfl ⟨⟨_, rfl, fun _ _ h => h⟩, trivial⟩ (fun i hi => ?_)
  rcases hd : l.drop i with _ | ⟨x, r⟩
  · have h0 := dropn hd
    rw [hd, idxG] at hi
    repeat' (first|(first|(refine jl ?_;first|refine j1 ?_|refine j4 ?_)|(refine jc ?_;first|refine c1 ?_|refine c2 ?_|refine c7 ?_|refine c8 ?_)|refine n1 ?_|refine n3 ?_|refine n7 ?_|refine n8 ?_|refine n11 ?_)|(refine c9 (fun h=>?_) (fun h=>?_)<;>((try simp only [Bool.or_eq_true, Bool.and_eq_true, Bool.or_eq_false_iff, Bool.and_eq_false_iff, Bool.not_eq_true', Bool.not_eq_false', decide_eq_true_eq, decide_eq_false_iff_not, Bool.false_eq_true, Bool.true_eq_false, reduceCtorEq] at h) <;> (try simp (disch := omega) only [sb_bt, w64, Int.reduceAdd, Int.reduceToNat, Int.toNat_natCast, not_true_eq_false, false_or] at h) <;> (try (exfalso; omega)))))
    rw [← hi]
    exact ge rfl
  · obtain ⟨h1, h2, h3⟩ := dropc hd
    have h4 := get_map fc h3
    rw [hd, idxG] at hi
    have hfx := hf x (List.mem_of_getElem? h3)
    cases x
    all_goals
      repeat' (first|(first|(refine jl ?_;first|refine jbl ?_|refine j1 ?_|refine j4 ?_|refine j6 ?_|refine ji1 ?_|refine jcs hent hfx.at_ ?_)|(refine jc ?_;first|refine c1 ?_|refine c2 ?_|refine c5 ?_|refine c6 ?_|refine c7 ?_)|refine n1 ?_|refine n2 ?_|refine n5 ?_|refine n6 ?_|refine n10 ?_|refine n11 ?_)|(refine c9 (fun h=>?_) (fun h=>?_)<;>((try simp only [Bool.or_eq_true, Bool.and_eq_true, Bool.or_eq_false_iff, Bool.and_eq_false_iff, Bool.not_eq_true', Bool.not_eq_false', decide_eq_true_eq, decide_eq_false_iff_not, Bool.false_eq_true, Bool.true_eq_false, reduceCtorEq] at h) <;> (try simp (disch := omega) only [sb_bt, w64, Int.reduceAdd, Int.reduceToNat, Int.toNat_natCast, not_true_eq_false, false_or] at h) <;> (try (exfalso; omega)))))
      · rw [if_pos h] at hi
        rw [← hi]
        exact ge rfl
      · rw [if_neg (by rw [h]; simp), ← h2] at hi
        exact nx_for (i + 1) hi (by omega) ⟨⟨_, rfl, wk1 (by omega)⟩, trivial⟩
def isRem (t : Int) : Eff → Bool
  | .removed u => decide (u = t)
  | _ => false
def goneB (out : List Eff) (t : Int) : Bool := out.any (isRem t)
theorem p_fact1 (f : Fc) (e : Eff) : Pure Tryd.prog 84 [.agg (efc e), .fp (fc f)] (.v (.bool (isRem f.tag e))) := by
  refine enterW Tryd.func84 rfl rfl rfl rfl (fun σ => ?_)
  cases e
  all_goals
    repeat' (first|(first|(refine jl ?_;first|refine j8 ?_|refine j1 ?_|refine j4 ?_|refine j9 ?_|refine j12 (fun id hid=>?_)|refine j14 ?_|refine j16 ?_)|(refine jc ?_;first|refine c1 ?_|refine c2 ?_|refine c7 ?_)|refine n11 ?_))
    refine gives (by repeat' (first | exact St.le_refl _ | refine St.le_any ?_)) (fin_one (.wk (Wk.of_eq ?_)))
    simp [isRem]
theorem p_gone (out : List Eff) (f : Fc) : Pure Tryd.prog 83 [.sl none false 6 (out.map efc), .fn 84 [.fp (fc f)]] (.v (.bool (goneB out f.tag))) := by
  refine enterW Tryd.func83 rfl rfl rfl rfl (fun σ => ?_)
  have k1 := p_index_effects (f := 84) (caps := [.fp (fc f)]) (isRem f.tag) rfl none false out (fun e _ => p_fact1 f e)
  repeat' (first|(first|(refine jl ?_;first|refine j1 ?_|refine j4 ?_|refine jp (k1) ?_)|(refine jc ?_;first|refine c1 ?_|refine c2 ?_|refine c7 ?_)|refine n11 ?_))
  refine gives (St.le_refl _) (fin_one (.wk (Wk.of_eq ?_)))
  rw [show decide (0 ≤ idxG (isRem f.tag) out 0) = goneB out f.tag from idxG_any _ _]
theorem q_gone {σ : St} {o : Nat} (out : List Eff) (f : Fc) (ho : σ o = some (effR out)) : ACalls Tryd.prog 83 [.osl o 6 0 out.length, .fn 84 [.fp (fc f)]] σ (fun e σ' => e = .ret (.v (.bool (goneB out f.tag))) ∧ σ' = σ) :=
  (p_gone out f).lend (indep_v _) ⟨fin_fz ho rfl (by rw [List.length_map]) rfl efc_len, Fin.refl _ _ _, trivial⟩
def noFc : Fc := ⟨0, ⟨#[]⟩, []⟩
def factR (hv : List Fc) (out : List Eff) (n : Int) : Fc × Int := if n < 1 ∨ (hv.length : Int) < n then (noFc, 22) else match hv[(n - 1).toNat]? with
  | none => (noFc, 22)
  | some f => if f.tag = 0 ∨ goneB out f.tag = true then (noFc, 22) else (f, 0)
set_option maxHeartbeats 4000000 in
theorem q_fact {σ : St} {r h o : Nat} (w : W3 σ r h o) (l : List Cls) (bd : List Bd) (hv : List Fc) (out : List Eff) (nx : Int) (n : Int) (hl : hv.length ≤ 100000) : ACalls Tryd.prog 72 [.ptr r 5 0 0, .v (.int .i64 n)] (rst σ r h o l bd hv out nx) (fun e σ' => e = .ret (.tup [.agg (fc (factR hv out n).1), .v (.int .i64 (factR hv out n).2)]) ∧ σ' = rst σ r h o l bd hv out nx) := by
  refine enterS Tryd.func72 rfl rfl rfl rfl ?_
  have hr := r3_r (R := runC l bd h hv.length o out.length nx) (H := facR hv) (O := effR out) w
  have ho : r3 σ r h o (runC l bd h hv.length o out.length nx) (facR hv) (effR out) o = some (effR out) := r3_o
  have hh := r3_h (R := runC l bd h hv.length o out.length nx) (H := facR hv) (O := effR out) w
  by_cases hn : n < 1
  · have e : factR hv out n = (noFc, 22) := by unfold factR; rw [if_pos (.inl hn)]
    rw [e]
    iterate 11 (first|(refine jl ?_;first|refine j1 ?_|refine j4 ?_|refine j13 (fun id hid=>?_))|(refine jc ?_;first|refine c1 ?_|refine c2 ?_))
    rw [show decide (n < 1) = true from decide_eq_true hn]
    repeat' (first|(first|(refine jl ?_;first|refine jb ?_|refine j1 ?_|refine j3f ?_|refine j4 ?_|refine j17t ?_)|(refine jc ?_;first|refine c1 ?_|refine c2 ?_|refine c3 ?_|refine c7 ?_)|refine n2 ?_|refine n15 ?_))
    exact gives (by repeat' (first | exact St.le_refl _ | refine St.le_any ?_)) (fin_two (.wk (Wk.agg ⟨Wk.refl _, Wk.refl _, Wk.nil _ _ _ _, trivial⟩)) (Fin.refl _ _ _))
  · by_cases hn2 : (hv.length : Int) < n
    · have e : factR hv out n = (noFc, 22) := by unfold factR; rw [if_pos (.inr hn2)]
      rw [e]
      iterate 11 (first|(refine jl ?_;first|refine j1 ?_|refine j4 ?_|refine j13 (fun id hid=>?_))|(refine jc ?_;first|refine c1 ?_|refine c2 ?_))
      rw [show decide (n < 1) = false from decide_eq_false hn]
      iterate 9 (first|(refine jl ?_;first|refine j1 ?_|refine j2 ?_|refine j15 ?_))
      rw [show decide ((hv.length : Int) < n) = true from decide_eq_true hn2]
      repeat' (first|(first|(refine jl ?_;first|refine jb ?_|refine j1 ?_|refine j3f ?_|refine j4 ?_|refine j17t ?_)|(refine jc ?_;first|refine c1 ?_|refine c2 ?_|refine c3 ?_|refine c7 ?_)|refine n2 ?_|refine n15 ?_))
      exact gives (by repeat' (first | exact St.le_refl _ | refine St.le_any ?_)) (fin_two (.wk (Wk.agg ⟨Wk.refl _, Wk.refl _, Wk.nil _ _ _ _, trivial⟩)) (Fin.refl _ _ _))
    · obtain ⟨f, hf⟩ : ∃ f, hv[(n - 1).toNat]? = some f := ⟨_, List.getElem?_eq_getElem (by omega)⟩
      have hw : IntKind.i64.wrap (n - 1) = n - 1 := w64 (by omega) (by omega)
      have hg : (hv.map fc)[0 + (IntKind.i64.wrap (n - 1)).toNat]? = some (fc f) := by rw [hw, Nat.zero_add, List.getElem?_map, hf]; rfl
      have e : factR hv out n = if f.tag = 0 ∨ goneB out f.tag = true then (noFc, 22) else (f, 0) := by
        unfold factR
        rw [if_neg (by omega), hf]
      rw [e]
      obtain ⟨ft, fn, fv⟩ := f
      dsimp only
      iterate 11 (first|(refine jl ?_;first|refine j1 ?_|refine j4 ?_|refine j13 (fun id hid=>?_))|(refine jc ?_;first|refine c1 ?_|refine c2 ?_))
      rw [show decide (n < 1) = false from decide_eq_false hn]
      iterate 9 (first|(refine jl ?_;first|refine j1 ?_|refine j2 ?_|refine j15 ?_))
      rw [show decide ((hv.length : Int) < n) = false from decide_eq_false hn2]
      repeat' (first|(first|(refine jl ?_;first|refine jb ?_|refine j1 ?_|refine j2 ?_|refine j4 ?_|refine j14 ?_|refine j15 ?_|refine j17t ?_|refine ji4 ?_|refine ji5 ?_|refine jug (jle hg ?_))|(refine jc ?_;first|refine c1 ?_|refine c2 ?_|refine c6 ?_|refine c7 ?_)|refine n1 ?_|refine n2 ?_|refine n15 ?_)|(refine c9 (fun h=>?_) (fun h=>?_)<;>((try simp only [Bool.or_eq_true, Bool.and_eq_true, Bool.or_eq_false_iff, Bool.and_eq_false_iff, Bool.not_eq_true', Bool.not_eq_false', decide_eq_true_eq, decide_eq_false_iff_not, Bool.false_eq_true, Bool.true_eq_false, reduceCtorEq] at h) <;> (try simp (disch := omega) only [sb_bt, w64, Int.reduceAdd, Int.reduceToNat, Int.toNat_natCast, not_true_eq_false, false_or] at h) <;> (try (exfalso; omega)))))
      · rw [if_pos (.inl h)]
        exact gives (by repeat' (first | exact St.le_refl _ | refine St.le_any ?_)) (fin_two (.wk (Wk.agg ⟨Wk.refl _, Wk.refl _, Wk.nil _ _ _ _, trivial⟩)) (Fin.refl _ _ _))
      · refine jle hg ?_
        (first|(refine jl ?_;first|refine j13 (fun id hid=>?_)))
        (first|(refine jl ?_;first|refine j17t ?_))
        (first|(refine jl ?_;first|refine j4 ?_))
        refine cj_fp 6 rfl (St.set_same _ _ _) ?_
        rw [St.del_set (by assumption)]
        repeat' (first|(first|(refine jl ?_;first|refine jb ?_|refine jbl ?_|refine j1 ?_|refine j4 ?_|refine j14 ?_|refine j17t ?_|refine lj_to rfl rfl rfl (q_gone out ⟨ft, fn, fv⟩ lkp) ?_)|(refine jc ?_;first|refine c1 ?_|refine c2 ?_|refine c6 ?_|refine c7 ?_)|refine n1 ?_|refine n2 ?_|refine n15 ?_)|(refine c9 (fun h=>?_) (fun h=>?_)<;>((try simp only [Bool.or_eq_true, Bool.and_eq_true, Bool.or_eq_false_iff, Bool.and_eq_false_iff, Bool.not_eq_true', Bool.not_eq_false', decide_eq_true_eq, decide_eq_false_iff_not, Bool.false_eq_true, Bool.true_eq_false, reduceCtorEq] at h) <;> (try simp (disch := omega) only [sb_bt, w64, Int.reduceAdd, Int.reduceToNat, Int.toNat_natCast, not_true_eq_false, false_or] at h) <;> (try (exfalso; omega)))))
        · rw [if_pos (.inr (by assumption))]
          exact gives (by repeat' (first | exact St.le_refl _ | refine St.le_any ?_)) (fin_two (.wk (Wk.agg ⟨Wk.refl _, Wk.refl _, Wk.nil _ _ _ _, trivial⟩)) (Fin.refl _ _ _))
        · rename_i h0
          rw [if_neg (by rintro (h1 | h1); exact h0 h1; rw [h] at h1; cases h1)]
          exact gives (by repeat' (first | exact St.le_refl _ | refine St.le_any ?_)) (Fin.refl _ _ _)
end Go.Proofs.YtbpoeggmpjepfaaDoor.Ab

/- Facts changed: the call itself. -/
set_option linter.unusedVariables false
set_option linter.unusedSimpArgs false
set_option maxRecDepth 20000
namespace Go.Proofs.YtbpoeggmpjepfaaDoor.Ab
open Go
attribute [local irreducible] thn inb endR CJ LJ OpJ DJ DA DB AllocK

def withGo (ns : List ByteArray) : List Bd → List Bd → List Vl → Int × List Vl
  | _, [], vs => (0, vs)
  | d, b :: r, vs => if attrB b.name ns = false then (19, []) else if d.any (isB b.name) = true then (7, []) else if valE b.val = 0 then withGo ns (d ++ [b]) r (vs.set (attrN b.name ns).toNat b.val) else (valE b.val, [])
def withR (l : List Cls) (f : Fc) (n : Int) (sets : List Bd) : Int × List Vl := if checkF l f ≠ 0 then (checkF l f, []) else if tagB n = false then (22, []) else withGo (ofC l f).attrs [] sets f.vals
def noF : Fc := ⟨0, ⟨#[]⟩, []⟩
def withF (l : List Cls) (f : Fc) (n : Int) (sets : List Bd) : Fc := if (withR l f n sets).1 = 0 then ⟨n, f.cls, (withR l f n sets).2⟩ else noF
theorem firstE_zero : ∀ {l : List Vl}, firstE l = 0 → ∀ v ∈ l, valE v = 0
  | [], _, v, h => by cases h
  | x :: r, h, v, hv => by
    rw [firstE] at h
    by_cases hx : valE x = 0
    · rw [if_pos hx] at h
      rcases List.mem_cons.1 hv with rfl | hv
      · exact hx
      · exact firstE_zero h v hv
    · rw [if_neg hx] at h; exact absurd h hx
theorem firstE_of : ∀ {l : List Vl}, (∀ v ∈ l, valE v = 0) → firstE l = 0
  | [], _ => rfl
  | x :: r, h => by rw [firstE, if_pos (h x (.head _))]; exact firstE_of fun v hv => h v (.tail _ hv)
theorem checkF_zero {l : List Cls} {f : Fc} (h : checkF l f = 0) : tagB f.tag = true ∧ ∃ c, findC f.cls l = some c ∧ ofC l f = c ∧ f.vals.length = c.attrs.length ∧ ∀ v ∈ f.vals, valE v = 0 := by
  unfold checkF at h
  by_cases ht : tagB f.tag = false
  · rw [if_pos ht] at h; cases h
  · rw [if_neg ht] at h
    rw [Bool.not_eq_false] at ht
    cases hc : findC f.cls l with
    | none => rw [hc] at h; cases h
    | some c =>
      rw [hc] at h
      dsimp only at h
      by_cases hl : f.vals.length ≠ c.attrs.length
      · rw [if_pos hl] at h; cases h
      · rw [if_neg hl] at h
        refine ⟨ht, c, rfl, ?_, by omega, firstE_zero h⟩
        rw [ofC, if_neg (by simp [ht]), hc]; rfl
theorem attrI_lt {nm : ByteArray} {l : List ByteArray} (h : attrB nm l = true) : 0 ≤ attrN nm l ∧ attrN nm l < l.length := by
  unfold attrB at h
  rw [decide_eq_true_eq] at h
  unfold attrN
  rw [if_neg (by omega)]
  refine ⟨h, ?_⟩
  obtain ⟨j, x, h1, h2, _⟩ := idxG_get (isS nm) l 0 h
  have := (List.getElem?_eq_some_iff.1 h2).1
  unfold attrI
  rw [h1]
  omega
theorem map_set {α β : Type} (f : α → β) (l : List α) (i : Nat) (x : α) : (l.set i x).map f = (l.map f).set i (f x) := by
  rw [List.map_set]
theorem p_with0 (nl nl' : Option Bool) (full full' : Bool) (l : List Cls) (f : Fc) (n : Int) (sets : List Bd) (hv : f.vals = []) : Pure Tryd.prog 73 [.sl nl full 2 (l.map cc), .agg (fc f), .v (.int .i64 n), .sl nl' full' 4 (sets.map bc)] (.tup [.agg (fc (withF l f n sets)), .v (.int .i64 (withR l f n sets).1)]) := by
  refine enterW Tryd.func73 rfl rfl rfl rfl (fun σ => ?_)
  obtain ⟨ft, fn, vs⟩ := f
  dsimp only at hv
  subst hv
  refine cj_len 3 (fun hm => ?_)
  have hn : (sets.map bc).length = sets.length := List.length_map ..
  repeat' (first|(first|(refine jl ?_;first|refine jb ?_|refine j1 ?_|refine j4 ?_|refine j12 (fun id hid=>?_)|refine j13 (fun id hid=>?_)|refine j14 ?_|refine j17t ?_|refine j17 ?_|refine jp (p_of _ _ _ _) ?_|refine jp (p_tag _) ?_|refine jp (p_clonev _ _ [] (by decide)) ?_)|(refine jc ?_;first|refine c1 ?_|refine c2 ?_|refine c5 ?_|refine c6 ?_|refine c7 ?_)|refine n1 ?_|refine n2 ?_|refine n6 ?_|refine n10 ?_|refine n15 ?_)|(refine c9 (fun h=>?_) (fun h=>?_)<;>(try simp only [Bool.or_eq_true, Bool.and_eq_true, Bool.or_eq_false_iff, Bool.and_eq_false_iff, Bool.not_eq_true', Bool.not_eq_false', decide_eq_true_eq, decide_eq_false_iff_not, Bool.false_eq_true, Bool.true_eq_false, reduceCtorEq] at h)))
  · have hR : withR l ⟨ft, fn, []⟩ n sets = (checkF l ⟨ft, fn, []⟩, []) := by rw [withR, if_pos h]
    rw [withF, hR, if_neg h]
    exact gvs (fin_two (.wk (Wk.agg ⟨Wk.refl _, Wk.refl _, Wk.nil _ _ _ _, trivial⟩)) (Fin.refl _ _ _))
  · have hc0 : checkF l ⟨ft, fn, []⟩ = 0 := by assumption
    have hR : withR l ⟨ft, fn, []⟩ n sets = (22, []) := by rw [withR, if_neg (fun e => e hc0), if_pos h]
    rw [withF, hR, if_neg (by decide)]
    exact gvs (fin_two (.wk (Wk.agg ⟨Wk.refl _, Wk.refl _, Wk.nil _ _ _ _, trivial⟩)) (Fin.refl _ _ _))
  · have hR : withR l ⟨ft, fn, []⟩ n sets = withGo (ofC l ⟨ft, fn, []⟩).attrs [] sets [] := by
      rw [withR, if_neg (fun e => e (by assumption)), if_neg (by simp [h])]
    obtain ⟨_, c, _, hc2, hc3, _⟩ := checkF_zero (by assumption : checkF l ⟨ft, fn, []⟩ = 0)
    have hat : (ofC l ⟨ft, fn, []⟩).attrs = [] := by rw [hc2]; exact List.length_eq_zero_iff.1 hc3.symm
    have hab : ∀ nm, attrB nm (ofC l ⟨ft, fn, []⟩).attrs = false := fun nm => by rw [hat]; rfl
    refine cj_fors (fun i : Nat => i = 0) (fun i => [(41, .v (.int .i64 i))]) (fun i => 0) 0 rfl ⟨⟨_, rfl, fun _ _ h => h⟩, trivial⟩ (fun i hi => ?_)
    subst hi
    rcases sets with _ | ⟨b, r⟩
    · rw [withGo] at hR
      have hn0 : (([] : List Bd).map bc).length = 0 := rfl
      repeat' (first|(first|(refine jl ?_;first|refine j1 ?_|refine j4 ?_|refine j14 ?_|refine j17 ?_)|(refine jc ?_;first|refine c1 ?_|refine c2 ?_|refine c7 ?_|refine c8 ?_)|refine n1 ?_|refine n3 ?_|refine n7 ?_|refine n8 ?_|refine n15 ?_)|(refine c9 (fun h=>?_) (fun h=>?_)<;>((try simp only [Bool.or_eq_true, Bool.and_eq_true, Bool.or_eq_false_iff, Bool.and_eq_false_iff, Bool.not_eq_true', Bool.not_eq_false', decide_eq_true_eq, decide_eq_false_iff_not, Bool.false_eq_true, Bool.true_eq_false, reduceCtorEq] at h) <;> (try simp (disch := omega) only [sb_bt, w64, Int.reduceAdd, Int.reduceToNat, Int.toNat_natCast, not_true_eq_false, false_or] at h) <;> (try (exfalso; omega)))))
      rw [withF, hR, if_pos rfl]
      exact gvs (fin_two (.wk (Wk.agg ⟨Wk.refl _, Wk.refl _, Wk.nil _ _ _ _, trivial⟩)) (Fin.refl _ _ _))
    · rw [withGo, if_pos (hab b.name)] at hR
      have h4 : ((b :: r).map bc)[((0 : Nat) : Int).toNat]? = some (bc b) := rfl
      have hn0 : ((b :: r).map bc).length = r.length + 1 := by simp
      repeat' (first|(first|(refine jl ?_;first|refine jb ?_|refine jbl ?_|refine j1 ?_|refine j4 ?_|refine j13 (fun id hid=>?_)|refine j14 ?_|refine j17t ?_|refine j17 ?_|refine ji1 ?_|refine jp (p_attr _ _) ?_)|(refine jc ?_;first|refine c1 ?_|refine c2 ?_|refine c5 ?_|refine c6 ?_|refine c7 ?_)|refine n1 ?_|refine n2 ?_|refine n5 ?_|refine n6 ?_|refine n15 ?_)|(refine c9 (fun h=>?_) (fun h=>?_)<;>((try simp only [Bool.or_eq_true, Bool.and_eq_true, Bool.or_eq_false_iff, Bool.and_eq_false_iff, Bool.not_eq_true', Bool.not_eq_false', decide_eq_true_eq, decide_eq_false_iff_not, Bool.false_eq_true, Bool.true_eq_false, reduceCtorEq] at h) <;> (try simp (disch := omega) only [sb_bt, w64, Int.reduceAdd, Int.reduceToNat, Int.toNat_natCast, not_true_eq_false, false_or] at h) <;> (try (exfalso; omega)))))
      · rw [withF, hR, if_neg (by decide)]
        exact gvs (fin_two (.wk (Wk.agg ⟨Wk.refl _, Wk.refl _, Wk.nil _ _ _ _, trivial⟩)) (Fin.refl _ _ _))
      · rw [hab] at h; cases h
/-- What a fact is changed to: with a row of its own, if it has values. -/
theorem p_with (nl nl' : Option Bool) (full full' : Bool) (l : List Cls) (f : Fc) (n : Int) (sets : List Bd) (hv : f.vals ≠ []) (hz : f.vals.length ≤ 65536) (σ : St) : ACalls Tryd.prog 73 [.sl nl full 2 (l.map cc), .agg (fc f), .v (.int .i64 n), .sl nl' full' 4 (sets.map bc)] σ (fun e σ' => ∃ x : Option Nat, (match x with | none => (withR l f n sets).1 ≠ 0 | some id => (withR l f n sets).1 = 0 ∧ σ id = none) ∧
    e = .ret (match x with | none => .tup [.agg (fc (withF l f n sets)), .v (.int .i64 (withR l f n sets).1)] | some id => .tup [.agg [.v (.int .i64 n), .v (.string f.cls), .osl id 3 0 f.vals.length], .v (.int .i64 0)]) ∧
    σ' = (match x with | none => σ | some id => σ.set id (.row 3 30 ((withR l f n sets).2.map vc)))) := by
  refine acalls_gives_ex ?_
  refine enter Tryd.func73 rfl rfl rfl rfl ?_
  obtain ⟨ft, fn, vs⟩ := f
  dsimp only at hv hz
  refine cj_len 3 (fun hm => ?_)
  have hn : (sets.map bc).length = sets.length := List.length_map ..
  repeat' (first|(first|(refine jl ?_;first|refine jb ?_|refine j1 ?_|refine j4 ?_|refine j12 (fun id hid=>?_)|refine j13 (fun id hid=>?_)|refine j14 ?_|refine j17t ?_|refine j17 ?_|refine jp (p_of _ _ _ _) ?_|refine jp (p_tag _) ?_)|(refine jc ?_;first|refine c1 ?_|refine c2 ?_|refine c5 ?_|refine c6 ?_|refine c7 ?_)|refine n1 ?_|refine n2 ?_|refine n6 ?_|refine n10 ?_|refine n15 ?_)|(refine c9 (fun h=>?_) (fun h=>?_)<;>(try simp only [Bool.or_eq_true, Bool.and_eq_true, Bool.or_eq_false_iff, Bool.and_eq_false_iff, Bool.not_eq_true', Bool.not_eq_false', decide_eq_true_eq, decide_eq_false_iff_not, Bool.false_eq_true, Bool.true_eq_false, reduceCtorEq] at h)))
  · have hR : withR l ⟨ft, fn, vs⟩ n sets = (checkF l ⟨ft, fn, vs⟩, []) := by rw [withR, if_pos h]
    refine ⟨none, by rw [hR]; exact h, ?_⟩
    dsimp only
    rw [withF, hR, if_neg h]
    exact gvs (fin_two (.wk (Wk.agg ⟨Wk.refl _, Wk.refl _, Wk.nil _ _ _ _, trivial⟩)) (Fin.refl _ _ _))
  · have hc0 : checkF l ⟨ft, fn, vs⟩ = 0 := by assumption
    have hR : withR l ⟨ft, fn, vs⟩ n sets = (22, []) := by rw [withR, if_neg (fun e => e hc0), if_pos h]
    refine ⟨none, by rw [hR]; exact (by decide : (22 : Int) ≠ 0), ?_⟩
    dsimp only
    rw [withF, hR, if_neg (by decide)]
    exact gvs (fin_two (.wk (Wk.agg ⟨Wk.refl _, Wk.refl _, Wk.nil _ _ _ _, trivial⟩)) (Fin.refl _ _ _))
  · have hc0 : checkF l ⟨ft, fn, vs⟩ = 0 := by assumption
    have hR : withR l ⟨ft, fn, vs⟩ n sets = withGo (ofC l ⟨ft, fn, vs⟩).attrs [] sets vs := by
      rw [withR, if_neg (fun e => e hc0), if_neg (by simp [h])]
    obtain ⟨_, c, _, hc2, hc3, _⟩ := checkF_zero hc0
    rename_i a0 ha0 a1 ha1 _ _ _ _
    refine lj_calls rfl rfl rfl (q_clonev none false vs hz hv _) (fun r σ' hr => ?_) (fun x σ' ⟨_, _, h, _⟩ => by cases h)
    obtain ⟨w, hw, hr1, rfl⟩ := hr
    cases hr1
    repeat (first|(refine jl ?_;first|refine j1 ?_|refine j4 ?_|refine j17t ?_|refine j17 ?_)|(refine jc ?_;first|refine c1 ?_|refine c2 ?_|refine c5 ?_))
    have hw0 : σ w = none := by first | exact St.ns5 (by assumption) | exact St.ns6 (by assumption) | exact St.ns7 (by assumption) | exact St.ns4 (by assumption) | exact St.ns3 (by assumption)
    refine cj_name (fun τ hτ => ?_)
    have hX : St.leX w σ τ := by rw [hτ]; repeat' (first | exact St.leX_refl _ _ | refine St.leX_same ?_ | refine St.leX_any ?_)
    have t0 : τ a0 = some (.row 3 52 [[.v (.int .i64 n), .v (.string fn), .osl w 3 0 vs.length]]) := by rw [hτ]; exact lkp
    have t1 : τ a1 = some (.row 3 52 [[.v (.int .i64 0), .v (.string ⟨#[]⟩), .sl (some true) true 1 []]]) := by rw [hτ]; exact lkp
    have t2 : τ id = some (.row 2 100 [cc c]) := by rw [hτ, ← hc2]; exact lkp
    have tw : τ w = some (.row 3 30 (vs.map vc)) := by rw [hτ]; exact lkp
    clear hτ
    have s0 : σ a0 = none := ha0
    have s1 : σ a1 = none := St.ns1 ha1
    have s2 : σ id = none := by first | exact St.ns2 (by assumption) | exact St.ns3 (by assumption)
    refine cj_forr (fun s : Nat × List Vl => withGo c.attrs (sets.take s.1) (sets.drop s.1) s.2 = withR l ⟨ft, fn, vs⟩ n sets ∧ s.2.length = vs.length) (fun s => [(41, .v (.int .i64 s.1))]) (fun s => sets.length - s.1) (0, vs) w (fun s => .row 3 30 (s.2.map vc)) tw ⟨by rw [← hc2]; exact hR.symm, rfl⟩ ⟨⟨_, rfl, fun _ _ h => h⟩, trivial⟩ (fun s hs => ?_)
    obtain ⟨i, us⟩ := s
    obtain ⟨hs1, hs2⟩ := hs
    dsimp only at hs1 hs2 ⊢
    have ne0 : a0 ≠ w := fun e => by rw [e, tw] at t0; cases t0
    have ne1 : a1 ≠ w := fun e => by rw [e, tw] at t1; cases t1
    have ne2 : id ≠ w := fun e => by rw [e, tw] at t2; cases t2
    rcases hd : sets.drop i with _ | ⟨b, r⟩
    · have h0 := dropn hd
      rw [hd, withGo] at hs1
      repeat' (first|(first|(refine jl ?_;first|refine j1 ?_|refine j4 ?_|refine j14 ?_|refine j17 ?_)|(refine jc ?_;first|refine c1 ?_|refine c2 ?_|refine c7 ?_|refine c8 ?_)|refine n1 ?_|refine n3 ?_|refine n7 ?_|refine n8 ?_|refine n15 ?_)|(refine c9 (fun h=>?_) (fun h=>?_)<;>((try simp only [Bool.or_eq_true, Bool.and_eq_true, Bool.or_eq_false_iff, Bool.and_eq_false_iff, Bool.not_eq_true', Bool.not_eq_false', decide_eq_true_eq, decide_eq_false_iff_not, Bool.false_eq_true, Bool.true_eq_false, reduceCtorEq] at h) <;> (try simp (disch := omega) only [sb_bt, w64, Int.reduceAdd, Int.reduceToNat, Int.toNat_natCast, not_true_eq_false, false_or] at h) <;> (try (exfalso; omega)))))
      refine ⟨some w, ⟨by rw [← hs1], hw0⟩, ?_⟩
      dsimp only
      rw [← hs1]
      exact ge rfl (St.le_set2 (by repeat' (first | exact hX | refine St.leX_same ?_ | refine St.leX_any ?_ (by assumption) | refine St.leX_any ?_ (St.none_X hX hw0 (by first | assumption | exact St.ns1 (by assumption) | exact St.ns2 (by assumption) | exact St.ns3 (by assumption))))) lkp)
    · obtain ⟨h1, h2, h3⟩ := dropc hd
      have h4 := get_map bc h3
      rw [hd, withGo] at hs1
      repeat' (first|(first|(refine jl ?_;first|refine jb ?_|refine jbl ?_|refine j1 ?_|refine j4 ?_|refine j13 (fun id hid=>?_)|refine j14 ?_|refine j17t ?_|refine j17 ?_|refine ji1 ?_|refine jp (p_attr _ _) ?_)|(refine jc ?_;first|refine c1 ?_|refine c2 ?_|refine c5 ?_|refine c6 ?_|refine c7 ?_)|refine n1 ?_|refine n2 ?_|refine n5 ?_|refine n6 ?_|refine n15 ?_)|(refine c9 (fun h=>?_) (fun h=>?_)<;>((try simp only [Bool.or_eq_true, Bool.and_eq_true, Bool.or_eq_false_iff, Bool.and_eq_false_iff, Bool.not_eq_true', Bool.not_eq_false', decide_eq_true_eq, decide_eq_false_iff_not, Bool.false_eq_true, Bool.true_eq_false, reduceCtorEq] at h) <;> (try simp (disch := omega) only [sb_bt, w64, Int.reduceAdd, Int.reduceToNat, Int.toNat_natCast, not_true_eq_false, false_or] at h) <;> (try (exfalso; omega)))))
      · rw [if_pos h] at hs1
        refine ⟨none, by rw [← hs1]; exact (by decide : (19 : Int) ≠ 0), ?_⟩
        dsimp only
        rw [withF, ← hs1, if_neg (by decide)]
        exact gvs (fin_two (.wk (Wk.agg ⟨Wk.refl _, Wk.refl _, Wk.nil _ _ _ _, trivial⟩)) (Fin.refl _ _ _)) (St.leX_le (by repeat' (first | exact hX | refine St.leX_same ?_ | refine St.leX_any ?_ (by assumption) | refine St.leX_any ?_ (St.none_X hX hw0 (by first | assumption | exact St.ns1 (by assumption) | exact St.ns2 (by assumption) | exact St.ns3 (by assumption))))) hw0)
      · obtain ⟨ha1, ha2⟩ := attrI_lt h
        rw [← hc3] at ha2
        rw [if_neg (by simp [h])] at hs1
        dsimp only at ha1 ha2 h
        refine lj_v rfl (av := .sl nl' false 4 ((sets.take i).map bc)) (fun R hR => opj_cut_sl (l := 0) (h := (i : Int)) rfl rfl rfl rfl rfl rfl (by omega) (by omega) (by omega) (by simpa [List.map_take] using hR)) ?_
        repeat' (first|(first|(refine jl ?_;first|refine jb ?_|refine j1 ?_|refine j4 ?_|refine j14 ?_|refine j17 ?_|refine ji4 ?_|refine lj_to rfl rfl rfl (q_containsb (isB b.name) rfl _ _ (sets.take i) (fun x => q_with1 (b := b) lkp x)) ?_|refine jp (p_check _ _ _) ?_)|(refine jc ?_;first|refine c1 ?_|refine c2 ?_|refine c6 ?_|refine c7 ?_)|refine n1 ?_|refine n2 ?_|refine n5 ?_|refine n6 ?_|refine n15 ?_)|(refine c9 (fun h=>?_) (fun h=>?_)<;>(try simp only [Bool.or_eq_true, Bool.and_eq_true, Bool.or_eq_false_iff, Bool.and_eq_false_iff, Bool.not_eq_true', Bool.not_eq_false', decide_eq_true_eq, decide_eq_false_iff_not, Bool.false_eq_true, Bool.true_eq_false, reduceCtorEq] at h)))
        · rw [if_pos h] at hs1
          refine ⟨none, by rw [← hs1]; exact (by decide : (7 : Int) ≠ 0), ?_⟩
          dsimp only
          rw [withF, ← hs1, if_neg (by decide)]
          exact gvs (fin_two (.wk (Wk.agg ⟨Wk.refl _, Wk.refl _, Wk.nil _ _ _ _, trivial⟩)) (Fin.refl _ _ _)) (St.leX_le (by repeat' (first | exact hX | refine St.leX_same ?_ | refine St.leX_any ?_ (by assumption) | refine St.leX_any ?_ (St.none_X hX hw0 (by first | assumption | exact St.ns1 (by assumption) | exact St.ns2 (by assumption) | exact St.ns3 (by assumption))))) hw0)
        · have hb : (sets.take i).any (isB b.name) = false := by assumption
          rw [if_neg (by rw [hb]; decide), if_neg h] at hs1
          refine ⟨none, by rw [← hs1]; exact h, ?_⟩
          dsimp only
          rw [withF, ← hs1, if_neg h]
          exact gvs (fin_two (.wk (Wk.agg ⟨Wk.refl _, Wk.refl _, Wk.nil _ _ _ _, trivial⟩)) (Fin.refl _ _ _)) (St.leX_le (by repeat' (first | exact hX | refine St.leX_same ?_ | refine St.leX_any ?_ (by assumption) | refine St.leX_any ?_ (St.none_X hX hw0 (by first | assumption | exact St.ns1 (by assumption) | exact St.ns2 (by assumption) | exact St.ns3 (by assumption))))) hw0)
        · have hb : (sets.take i).any (isB b.name) = false := by assumption
          rw [if_neg (by rw [hb]; decide), if_pos h] at hs1
          obtain ⟨u, hu⟩ : ∃ u, us[(attrN b.name c.attrs).toNat]? = some u := ⟨_, List.getElem?_eq_getElem (by omega)⟩
          have hel : (us.map vc)[0 + (attrN b.name c.attrs).toNat]? = some (vc u) := by rw [Nat.zero_add, List.getElem?_map, hu]; rfl
          have hrow : ((us.map vc).set (0 + (attrN b.name c.attrs).toNat) (vc b.val)) = (us.set (attrN b.name c.attrs).toNat b.val).map vc := by rw [map_set, Nat.zero_add]
          refine j17 (he := hel) (hn2 := hrow) ?_
          repeat (first|(refine jl ?_;first|refine j1 ?_|refine j6 ?_)|(refine jc ?_;first|refine c2 ?_)|refine n1 ?_|refine n10 ?_)
          refine nx_forr (i + 1, us.set (attrN b.name c.attrs).toNat b.val) ⟨?_, by rw [List.length_set]; exact hs2⟩ (by dsimp only; omega) ⟨⟨_, rfl, wk1 (by omega)⟩, trivial⟩ lkp
          dsimp only
          rw [h2, List.take_add_one, h3]
          exact hs1
end Go.Proofs.YtbpoeggmpjepfaaDoor.Ab

/- A fact that is as a condition asks. -/
set_option linter.unusedVariables false
set_option linter.unusedSimpArgs false
set_option maxRecDepth 20000
namespace Go.Proofs.YtbpoeggmpjepfaaDoor.Ab
open Go
attribute [local irreducible] thn inb endR CJ LJ OpJ DJ DA DB AllocK

/-- What is bound behind a value's tests, if it is as they ask. -/
def goT (v : Vl) : List Tst → List Bd → Option (List Bd)
  | [], now => some now
  | t :: r, now => if bindsB t now = true then goT v r (now ++ [⟨t.v, v⟩]) else if testB t v now = true then goT v r now else none
def onesB (a : Atr) (v : Vl) : Bool := !decide (0 < a.ones.length) || a.ones.any (isV v)
def goA (ns : List ByteArray) (vs : List Vl) : List Atr → List Bd → Option (List Bd)
  | [], now => some now
  | a :: r, now => if attrB a.attr ns = true then
      match vs[(attrN a.attr ns).toNat]? with
      | none => none
      | some v => if onesB a v = true then (goT v a.tests now).bind (goA ns vs r) else none
    else none
def matchF (l : List Cls) (c : Cnd) (f : Fc) (bd : List Bd) : Option (List Bd) := if f.cls = c.cls ∧ checkF l f = 0 then goA ((findC f.cls l).getD noC).attrs f.vals c.attrs bd else none
abbrev mres (r : Option (List Bd)) : AV := .tup [.sl none false 4 ((r.getD []).map bc), .v (.bool r.isSome)]
theorem p_match (nl nl' : Option Bool) (full full' : Bool) (l : List Cls) (c : Cnd) (f : Fc) (bd : List Bd) (h1 : c.attrs.length ≤ 12) (h2 : ∀ a ∈ c.attrs, a.tests.length ≤ 12) (h3 : bd.length ≤ 1000) : Pure Tryd.prog 50 [.sl nl full 2 (l.map cc), .agg (dc c), .agg (fc f), .sl nl' full' 4 (bd.map bc)] (mres (matchF l c f bd)) := by
  refine enterW Tryd.func50 rfl rfl rfl rfl (fun σ => ?_)
  obtain ⟨cg, cn, ats⟩ := c
  obtain ⟨ft, fn, vs⟩ := f
  dsimp only at h1 h2
  have hla : (ats.map ac).length = ats.length := List.length_map ..
  have hlv : (vs.map vc).length = vs.length := List.length_map ..
  have hlb : (bd.map bc).length = bd.length := List.length_map ..
  have k1 := p_find nl full l fn
  have k2 := p_ccheck nl full l ⟨ft, fn, vs⟩
  repeat' (first|(first|(refine jl ?_;first|refine j7 ?_|refine j1 ?_|refine j4 ?_|refine j9 ?_|refine j12 (fun id hid=>?_)|refine j13 (fun id hid=>?_)|refine j14 ?_|refine j17t ?_|refine j16 ?_|refine jp (k1) ?_|refine jcq (hp:=fun hc=>k2) ?_)|(refine jc ?_;first|refine c1 ?_|refine c2 ?_|refine c6 ?_|refine c7 ?_|refine csc ?_)|refine n1 ?_|refine n2 ?_|refine n11 ?_)|(refine c9 (fun h=>?_) (fun h=>?_)<;>(try simp only [Bool.or_eq_true, Bool.and_eq_true, Bool.or_eq_false_iff, Bool.and_eq_false_iff, Bool.not_eq_true', Bool.not_eq_false', decide_eq_true_eq, decide_eq_false_iff_not, Bool.false_eq_true, Bool.true_eq_false, reduceCtorEq] at h)))
  · rw [matchF, if_neg (by rintro ⟨e1, e2⟩; rcases h with h | h <;> exact h (by assumption))]
    exact gvs (fin_two (.wk (Wk.nil _ _ _ _)) (Fin.refl _ _ _))
  · obtain ⟨hfc, hck⟩ := h
    obtain ⟨_, cl, hc1, _, hc3, _⟩ := checkF_zero hck
    dsimp only at hc1 hc3
    have hF : matchF l ⟨cg, cn, ats⟩ ⟨ft, fn, vs⟩ bd = goA cl.attrs vs ats bd := by
      rw [matchF, if_pos ⟨hfc, hck⟩]
      show goA ((findC fn l).getD noC).attrs vs ats bd = _
      rw [hc1]; rfl
    rw [hF]
    rw [hc1]
    first | refine cj_id 5 (fun b5 e => ?_) | refine lj_id 5 (fun b5 e => ?_)
    subst e
    first | refine cj_id 6 (fun b6 e => ?_) | refine lj_id 6 (fun b6 e => ?_)
    subst e
    first | refine cj_id 10 (fun b10 e => ?_) | refine lj_id 10 (fun b10 e => ?_)
    subst e
    refine lj_calls rfl rfl rfl (q_cloneb nl' full' bd (by omega) _) (fun r σ' hr => ?_) (fun x σ' ⟨_, _, h, _⟩ => by cases h)
    obtain ⟨w0, hw0, hr1, hr2⟩ := hr
    obtain ⟨τ, hτ, hw, hr3⟩ : ∃ τ : St, τ = _ ∧ τ w0 = none ∧ σ' = τ.set w0 (.row 4 73 (bd.map bc)) := ⟨_, rfl, hw0, hr2⟩
    cases hr1
    subst hr3
    have t5 : τ b5 = some (.row 3 27 [dc ⟨cg, cn, ats⟩]) := by rw [hτ]; exact lkp
    have t6 : τ b6 = some (.row 3 52 [fc ⟨ft, fn, vs⟩]) := by rw [hτ]; exact lkp
    have t10 : τ b10 = some (.row 2 100 [cc cl]) := by rw [hτ]; exact lkp
    have hle : σ.le τ := by rw [hτ]; repeat' (first | exact St.le_refl _ | refine St.le_any ?_)
    clear hτ hr2 hw0
    repeat (first|(refine jl ?_;first|refine j1 ?_|refine j4 ?_|refine j14 ?_)|(refine jc ?_;first|refine c1 ?_|refine c2 ?_|refine c5 ?_|refine clb ?_)|refine n1 ?_)
    refine cj_for (fun s : Nat × Nat × List Bd => s.1 ≤ ats.length ∧ τ s.2.1 = none ∧ goA cl.attrs vs (ats.drop s.1) s.2.2 = goA cl.attrs vs ats bd ∧ s.2.2.length ≤ bd.length + 12 * s.1) (fun s => [(43, .v (.int .i64 s.1)), (12, .osl s.2.1 4 0 s.2.2.length), (13, .v (.bool true))]) (fun s => τ.set s.2.1 (.row 4 73 (s.2.2.map bc))) (fun s => ats.length - s.1) (0, w0, bd) ⟨Nat.zero_le _, hw, rfl, Nat.le_add_right _ _⟩ ⟨⟨_, rfl, fun _ _ h => h⟩, ⟨_, rfl, fun _ _ h => h⟩, ⟨_, rfl, fun _ _ h => h⟩, trivial⟩ (St.le_refl _) (fun s hs => ?_)
    obtain ⟨i, w, now⟩ := s
    obtain ⟨hi, hw, hg, hlen⟩ := hs
    dsimp only at hi hw hg hlen ⊢
    clear k1 k2
    rcases hd : ats.drop i with _ | ⟨x, r⟩
    · have h0 := dropn hd
      rw [hd, goA] at hg
      rw [← hg]
      repeat' (first|(first|(refine jl ?_;first|refine j1 ?_|refine j4 ?_)|(refine jc ?_;first|refine c1 ?_|refine c2 ?_|refine c6 ?_|refine c7 ?_|refine c8 ?_)|refine n1 ?_|refine n3 ?_|refine n7 ?_|refine n8 ?_|refine n11 ?_)|(refine c9 (fun h=>?_) (fun h=>?_)<;>((try simp only [Bool.or_eq_true, Bool.and_eq_true, Bool.or_eq_false_iff, Bool.and_eq_false_iff, Bool.not_eq_true', Bool.not_eq_false', decide_eq_true_eq, decide_eq_false_iff_not, Bool.false_eq_true, Bool.true_eq_false, reduceCtorEq] at h) <;> (try simp (disch := omega) only [sb_bt, w64, Int.reduceAdd, Int.reduceToNat, Int.toNat_natCast, not_true_eq_false, false_or] at h) <;> (try (exfalso; omega)))))
      exact gvs (fin_two (fin_fz (St.set_same _ _ _) (St.none_le hle hw) (by rw [List.length_map]; rfl) rfl (fun _ => rfl)) (Fin.refl _ _ _)) (St.le_any hle (St.none_le hle hw))
    · obtain ⟨g1, g2, g3⟩ := dropc hd
      obtain ⟨xn, xo, xt⟩ := x
      have h4 := get_map ac g3
      have hlo : (xo.map vc).length = xo.length := List.length_map ..
      have hlt : (xt.map tc).length = xt.length := List.length_map ..
      rw [hd, goA] at hg
      dsimp only at hg
      by_cases hat : attrB xn cl.attrs = true
      · obtain ⟨e1, e2⟩ := attrI_lt hat
        rw [← hc3] at e2
        obtain ⟨v, hv⟩ : ∃ v, vs[(attrN xn cl.attrs).toNat]? = some v := ⟨_, List.getElem?_eq_getElem (by omega)⟩
        have hel : (vs.map vc)[(attrN xn cl.attrs).toNat]? = some (vc v) := by rw [List.getElem?_map, hv]; rfl
        rw [if_pos hat, hv] at hg
        dsimp only at hg
        have k3 := p_attr cl xn
        rw [hat] at k3
        have k4 := p_containsv none false xo v
        repeat' (first|(first|(refine jl ?_;first|refine jbl ?_|refine j1 ?_|refine j4 ?_|refine j13 (fun id hid=>?_)|refine j14 ?_|refine j17t ?_|refine ji1 ?_|refine jp (k3) ?_)|(refine dl ?_;first|refine d7 ?_|refine d11 ?_|refine d1 ?_|refine d4 ?_|refine d9 ?_|refine d16 ?_|refine di3 ?_|refine dpq (hp:=fun hc=>k4) ?_)|(refine jc ?_;first|refine c1 ?_|refine c2 ?_|refine c5 ?_|refine c6 ?_|refine c7 ?_|refine c8 ?_|refine cq ?_)|refine n1 ?_|refine n2 ?_|refine n3 ?_|refine n7 ?_|refine n8 ?_|refine n9 ?_|refine n11 ?_)|(refine c9 (fun h=>?_) (fun h=>?_)<;>((try simp only [Bool.or_eq_true, Bool.and_eq_true, Bool.or_eq_false_iff, Bool.and_eq_false_iff, Bool.not_eq_true', Bool.not_eq_false', decide_eq_true_eq, decide_eq_false_iff_not, Bool.false_eq_true, Bool.true_eq_false, reduceCtorEq] at h) <;> (try simp (disch := omega) only [sb_bt, w64, Int.reduceAdd, Int.reduceToNat, Int.toNat_natCast, not_true_eq_false, false_or] at h) <;> (try (exfalso; omega)))))
        · have ho : ¬ onesB ⟨xn, xo, xt⟩ v = true := by
            rename_i hh
            have := hh.2
            simp only [onesB, Bool.or_eq_true, Bool.not_eq_true', decide_eq_false_iff_not, not_or, Classical.not_not]
            exact ⟨by omega, by rw [this]; simp⟩
          rw [if_neg ho] at hg
          rw [← hg]
          exact gvs (fin_two (.wk (Wk.nil _ _ _ _)) (Fin.refl _ _ _)) (St.le_any (St.le_any hle (St.none_le hle hw)) (St.none_le (St.le_any hle (St.none_le hle hw)) hid))
        · have ho : onesB ⟨xn, xo, xt⟩ v = true := by
            simp only [onesB, Bool.or_eq_true, Bool.not_eq_true', decide_eq_false_iff_not]
            rcases h.2 with hh | hh
            · exact .inl (by omega)
            · exact .inr hh
          rw [if_pos ho] at hg
          first | refine cj_id 15 (fun b15 e => ?_) | refine lj_id 15 (fun b15 e => ?_)
          subst e
          have hwb : w ≠ b15 := fun e => by subst e; rw [St.set_same] at hid; cases hid
          have hb15 : τ b15 = none := by rw [St.set_ne' _ _ _ hwb] at hid; exact hid
          rw [St.swap hwb]
          obtain ⟨τ1, hτ1⟩ : ∃ τ1 : St, τ1 = τ.set b15 (.row 3 69 [ac ⟨xn, xo, xt⟩]) := ⟨_, rfl⟩
          have hle1 : τ.le τ1 := by rw [hτ1]; exact St.le_set _ hb15
          have u5 := hle1 _ _ t5
          have u6 := hle1 _ _ t6
          have u10 := hle1 _ _ t10
          have u15 : τ1 b15 = some (.row 3 69 [ac ⟨xn, xo, xt⟩]) := by rw [hτ1]; exact St.set_same _ _ _
          have hx12 : xt.length ≤ 12 := h2 _ (List.mem_of_getElem? g3)
          refine cj_for (fun s : Nat × Nat × List Bd => s.1 ≤ xt.length ∧ τ1 s.2.1 = none ∧ goT v (xt.drop s.1) s.2.2 = goT v xt now ∧ s.2.2.length ≤ now.length + s.1) (fun s => [(76, .v (.int .i64 s.1)), (12, .osl s.2.1 4 0 s.2.2.length), (13, .v (.bool true))]) (fun s => τ1.set s.2.1 (.row 4 73 (s.2.2.map bc))) (fun s => xt.length - s.1) (0, w, now) ⟨Nat.zero_le _, (by rw [hτ1, St.set_ne _ _ _ hwb]; exact hw), rfl, Nat.le_add_right _ _⟩ ⟨⟨_, rfl, fun _ _ h => h⟩, ⟨_, rfl, fun _ _ h => h⟩, ⟨_, rfl, fun _ _ h => h⟩, trivial⟩ (by rw [hτ1]; exact St.le_refl _) (fun s hs => ?_)
          clear hτ1 k3 k4 h hid
          obtain ⟨k, w1, now1⟩ := s
          obtain ⟨hk, hw1, hg1, hlen1⟩ := hs
          dsimp only at hk hw1 hg1 hlen1 ⊢
          rcases hd1 : xt.drop k with _ | ⟨y, r1⟩
          · have h0 := dropn hd1
            rw [hd1, goT] at hg1
            rw [← hg1] at hg
            repeat' (first|(first|(refine jl ?_;first|refine j1 ?_|refine j4 ?_|refine j6 ?_)|(refine jc ?_;first|refine c1 ?_|refine c2 ?_|refine c8 ?_)|refine n1 ?_|refine n3 ?_|refine n7 ?_|refine n8 ?_|refine n10 ?_)|(refine c9 (fun h=>?_) (fun h=>?_)<;>((try simp only [Bool.or_eq_true, Bool.and_eq_true, Bool.or_eq_false_iff, Bool.and_eq_false_iff, Bool.not_eq_true', Bool.not_eq_false', decide_eq_true_eq, decide_eq_false_iff_not, Bool.false_eq_true, Bool.true_eq_false, reduceCtorEq] at h) <;> (try simp (disch := omega) only [sb_bt, w64, Int.reduceAdd, Int.reduceToNat, Int.toNat_natCast, not_true_eq_false, false_or] at h) <;> (try (exfalso; omega)))))
            exact nx_forS (i + 1, w1, now1) ⟨by dsimp only; omega, St.none_le hle1 hw1, by dsimp only; rw [g2]; exact hg, by dsimp only; omega⟩ (by dsimp only; omega) ⟨⟨_, rfl, wk1 (by omega)⟩, ⟨_, rfl, Wk.refl _⟩, ⟨_, rfl, Wk.refl _⟩, trivial⟩ (St.le_setk (St.le_any hle1 (St.none_le hle1 hw1)) (St.set_same _ _ _))
          · obtain ⟨f1, f2, f3⟩ := dropc hd1
            have h5 := get_map tc f3
            rw [hd1, goT] at hg1
            repeat' (first|(first|(refine jl ?_;first|refine jbl ?_|refine j1 ?_|refine j4 ?_|refine j13 (fun id hid=>?_)|refine j17t ?_|refine ji1 ?_)|(refine al ?_;first|refine abl ?_|refine a1 ?_|refine a14 ?_|refine ai1 ?_)|(refine jc ?_;first|refine c1 ?_|refine c2 ?_|refine c5 ?_|refine c6 ?_|refine cqe 12 false ?_)|refine n1 ?_)|(refine c9 (fun h=>?_) (fun h=>?_)<;>((try simp only [Bool.or_eq_true, Bool.and_eq_true, Bool.or_eq_false_iff, Bool.and_eq_false_iff, Bool.not_eq_true', Bool.not_eq_false', decide_eq_true_eq, decide_eq_false_iff_not, Bool.false_eq_true, Bool.true_eq_false, reduceCtorEq] at h) <;> (try simp (disch := omega) only [sb_bt, w64, Int.reduceAdd, Int.reduceToNat, Int.toNat_natCast, not_true_eq_false, false_or] at h) <;> (try (exfalso; omega)))))
            rename_i b19 hb19
            refine acall (q_single y v now1 lkp (by omega)) (fun r σ' hr => ?_) (by rintro x σ' ⟨_, _, h, _⟩; cases h)
            obtain ⟨x, hx1, hx2, hx3⟩ := hr
            rcases x with _ | w2
            · dsimp only at hx1 hx2 hx3
              cases hx2
              subst hx3
              rw [hx1, if_neg (by simp)] at hg1
              repeat' (first|(first|(refine jl ?_;first|refine j1 ?_|refine j4 ?_|refine j6 ?_)|(refine al ?_;first|refine da_nil ?_|refine a1 ?_)|(refine bl ?_;first|refine b1 ?_|refine db_nil ?_)|refine al_nil ?_|(refine jc ?_;first|refine c1 ?_|refine c2 ?_|refine c6 ?_|refine c7 ?_|refine c8 ?_)|refine n1 ?_|refine n2 ?_|refine n3 ?_|refine n7 ?_|refine n8 ?_|refine n9 ?_|refine n10 ?_|refine n11 ?_)|(refine c9 (fun h=>?_) (fun h=>?_)<;>((try simp only [Bool.or_eq_true, Bool.and_eq_true, Bool.or_eq_false_iff, Bool.and_eq_false_iff, Bool.not_eq_true', Bool.not_eq_false', decide_eq_true_eq, decide_eq_false_iff_not, Bool.false_eq_true, Bool.true_eq_false, reduceCtorEq] at h) <;> (try simp (disch := omega) only [sb_bt, w64, Int.reduceAdd, Int.reduceToNat, Int.toNat_natCast, not_true_eq_false, false_or] at h) <;> (try (exfalso; omega)))))
              · rw [if_neg (by rw [h]; simp)] at hg1
                rw [← hg1] at hg
                rw [← hg]
                have h7 := St.le_trans hle hle1
                have h8 := St.le_any (x := .row 4 73 (now1.map bc)) h7 (St.none_le h7 hw1)
                exact gvs (fin_two (.wk (Wk.nil _ _ _ _)) (Fin.refl _ _ _)) (St.le_any h8 (St.none_le h8 hid))
              · exact absurd h (by rw [‹testB y v now1 = false›]; simp)
              · rw [if_pos h] at hg1
                exact nx_forS (k + 1, w1, now1) ⟨by dsimp only; omega, hw1, by dsimp only; rw [f2]; exact hg1, by dsimp only; omega⟩ (by dsimp only; omega) ⟨⟨_, rfl, wk1 (by omega)⟩, ⟨_, rfl, Wk.refl _⟩, ⟨_, rfl, Wk.of_eq (by rw [h])⟩, trivial⟩ (St.le_any (St.le_refl _) hid)
            · dsimp only at hx1 hx2 hx3
              cases hx2
              subst hx3
              rw [if_pos hx1.1] at hg1
              repeat' (first|(first|(refine jl ?_;first|refine j1 ?_|refine j4 ?_|refine j6 ?_)|(refine al ?_;first|refine da_nil ?_|refine a1 ?_)|(refine bl ?_;first|refine b1 ?_|refine db_nil ?_)|refine al_nil ?_|(refine jc ?_;first|refine c1 ?_|refine c2 ?_|refine c6 ?_)|refine n1 ?_|refine n10 ?_)|(refine c9 (fun h=>?_) (fun h=>?_)<;>((try simp only [Bool.or_eq_true, Bool.and_eq_true, Bool.or_eq_false_iff, Bool.and_eq_false_iff, Bool.not_eq_true', Bool.not_eq_false', decide_eq_true_eq, decide_eq_false_iff_not, Bool.false_eq_true, Bool.true_eq_false, reduceCtorEq] at h) <;> (try simp (disch := omega) only [sb_bt, w64, Int.reduceAdd, Int.reduceToNat, Int.toNat_natCast, not_true_eq_false, false_or] at h) <;> (try (exfalso; omega)))))
              have h7 : τ1 w2 = none := by
                have := hx1.2
                exact St.ns2 this
              refine nx_forS (k + 1, w2, now1 ++ [⟨y.v, v⟩]) ⟨by dsimp only; omega, h7, by dsimp only; rw [f2]; exact hg1, by dsimp only; rw [List.length_append, List.length_singleton]; omega⟩ (by dsimp only; omega) ⟨⟨_, rfl, wk1 (by omega)⟩, ⟨_, rfl, Wk.of_eq (by dsimp only; rw [List.length_append]; rfl)⟩, ⟨_, rfl, Wk.refl _⟩, trivial⟩ ?_
              exact St.le_setk (St.le_any (St.le_del (St.le_any (St.le_any (St.le_refl _) hw1) (St.ns1 hid)) hw1) h7) (St.set_same _ _ _)
      · rw [if_neg hat] at hg
        rw [Bool.not_eq_true] at hat
        have k3 := p_attr cl xn
        rw [hat] at k3
        repeat' (first|(first|(refine jl ?_;first|refine jbl ?_|refine j1 ?_|refine j4 ?_|refine j13 (fun id hid=>?_)|refine j14 ?_|refine j17t ?_|refine ji1 ?_|refine jp (k3) ?_)|(refine dl ?_;first|refine d7 ?_|refine d11 ?_|refine d1 ?_|refine d4 ?_|refine d9 ?_|refine d16 ?_|refine dff ?_)|(refine jc ?_;first|refine c1 ?_|refine c2 ?_|refine c5 ?_|refine c6 ?_|refine c7 ?_|refine c8 ?_|refine cq ?_)|refine n1 ?_|refine n2 ?_|refine n3 ?_|refine n7 ?_|refine n8 ?_|refine n9 ?_|refine n11 ?_)|(refine c9 (fun h=>?_) (fun h=>?_)<;>((try simp only [Bool.or_eq_true, Bool.and_eq_true, Bool.or_eq_false_iff, Bool.and_eq_false_iff, Bool.not_eq_true', Bool.not_eq_false', decide_eq_true_eq, decide_eq_false_iff_not, Bool.false_eq_true, Bool.true_eq_false, reduceCtorEq] at h) <;> (try simp (disch := omega) only [sb_bt, w64, Int.reduceAdd, Int.reduceToNat, Int.toNat_natCast, not_true_eq_false, false_or] at h) <;> (try (exfalso; omega)))))
        · rw [← hg]
          exact gvs (fin_two (.wk (Wk.nil _ _ _ _)) (Fin.refl _ _ _)) (St.le_any (St.le_any hle (St.none_le hle hw)) (St.none_le (St.le_any hle (St.none_le hle hw)) hid))
        · exact h.1.elim
end Go.Proofs.YtbpoeggmpjepfaaDoor.Ab
