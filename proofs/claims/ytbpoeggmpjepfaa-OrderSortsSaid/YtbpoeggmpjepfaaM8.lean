/- The texts WI, G1, G2, G3, V1, C1, O1, O7, one behind the other. -/
import Derived.Test.YtbpoeggmpjepfaaM1
import Derived.Test.YtbpoeggmpjepfaaM2
import Derived.Test.YtbpoeggmpjepfaaM3
import Derived.Test.YtbpoeggmpjepfaaM4
import Derived.Test.YtbpoeggmpjepfaaM5
import Derived.Test.YtbpoeggmpjepfaaM6
import Derived.Test.YtbpoeggmpjepfaaM7
import Derived.Test.YtbpoeggmpjepfaaRows
import Derived.WalkKit
import Derived.ProofKit
import Derived.OpenShut
import Derived.ChangeOld
import Derived.Below
import Derived.Lib.SmallJoins
import Derived.Test.YtbpoeggmpjepfaaProg
/- Law 26: OrderFirst. -/
set_option linter.unusedVariables false
set_option linter.unusedSimpArgs false
set_option maxRecDepth 20000
namespace Go.Proofs.Ytbpoeggmpjepfaa.Ab
open Go
attribute [local irreducible] thn inb endR CJ LJ OpJ DJ DA DB AllocK
theorem sorts_head {α : Type} {c : α → α → Int} (h : Cmp c) (hz : ∀ a b, c a b = 0 → a = b) (x : α) (l : List α) : (sorts (fun a b => decide (c a b < 0)) (x :: l))[0]? = some (minB (fun a b => decide (c a b < 0)) x l) := by
  obtain ⟨m1, m2, m3⟩ := minB_le h l x
  have hp := sorts_perm (fun a b => decide (c a b < 0)) (x :: l)
  have hf := srtB_fall h (x :: l) [] List.Pairwise.nil
  generalize hm : minB (fun a b => decide (c a b < 0)) x l = m at m1 m2 m3 ⊢
  have hmem : m ∈ sorts (fun a b => decide (c a b < 0)) (x :: l) := hp.mem_iff.2 (by
    rcases m3 with e | e
    · rw [e]; exact List.mem_cons_self ..
    · exact List.mem_cons_of_mem _ e)
  have hpw : (sorts (fun a b => decide (c a b < 0)) (x :: l)).Pairwise (fun a b => c a b ≤ 0) := by
    unfold sorts
    rw [List.pairwise_reverse]
    exact hf
  have hall : ∀ y ∈ sorts (fun a b => decide (c a b < 0)) (x :: l), c m y ≤ 0 := fun y hy => by
    rcases List.mem_cons.1 (hp.mem_iff.1 hy) with e | e
    · rw [e]; exact m2
    · exact m1 y e
  revert hmem hpw hall
  cases sorts (fun a b => decide (c a b < 0)) (x :: l) with
  | nil => intro hmem; cases hmem
  | cons a t =>
    intro hmem hpw hall
    have h1 := hall a (List.mem_cons_self ..)
    rcases List.mem_cons.1 hmem with e | e
    · rw [e]; rfl
    · have h2 := (List.pairwise_cons.1 hpw).1 m e
      have h3 := h.anti a m
      rw [hz m a (by omega)]
      rfl
theorem leftE_open (l : List Ins) : leftE (l.map (fun x => ⟨x, false⟩)) = l := by
  induction l with
  | nil => rfl
  | cons x l ih => rw [List.map_cons, leftE_cons, ih]; rfl
theorem leftE_done (l : List Ins) : leftE (l.map (fun x => ⟨x, true⟩)) = [] := by
  induction l with
  | nil => rfl
  | cons x l ih => rw [List.map_cons, leftE_cons, ih]; rfl
theorem St.le3 {τ : St} {a b c a' b' c' : Nat} {A B C A' B' C' : AObj} (ha : τ a = none) (hb : τ b = none) (hc : τ c = none) (h1 : a' ≠ b) (h2 : a' ≠ c) (h3 : b' ≠ c) (h4 : a' ≠ b') (h5 : a' ≠ c') (h6 : b' ≠ c') : (((τ.set a' A').set b' B').set c' C').le ((((((((τ.set a A).set b B).set c C).del a).set a' A').del b).set b' B' |>.del c).set c' C') := fun x o h => by
  unfold St.set St.del at *
  dsimp only at *
  by_cases e1 : x = c'
  · simpa [e1] using h
  · by_cases e2 : x = b'
    · subst e2; simpa [e1, h3] using h
    · by_cases e3 : x = a'
      · subst e3; simpa [e1, e2, h1, h2] using h
      · simp only [e1, e2, e3, if_false] at h
        have n1 : x ≠ a := fun e => by rw [e, ha] at h; cases h
        have n2 : x ≠ b := fun e => by rw [e, hb] at h; cases h
        have n3 : x ≠ c := fun e => by rw [e, hc] at h; cases h
        simpa [e1, e2, e3, n1, n2, n3] using h
theorem St.del3 {τ : St} {a b c : Nat} {A B C : AObj} (ha : τ a = none) (hb : τ b = none) (hc : τ c = none) (h1 : a ≠ b) (h2 : a ≠ c) (h3 : b ≠ c) : (((((τ.set a A).set b B).set c C).del a).del b).del c = τ := by
  funext x
  unfold St.set St.del
  dsimp only
  by_cases e3 : x = c
  · simp [e3, hc]
  · by_cases e2 : x = b
    · simp [e2, hb]
    · by_cases e1 : x = a
      · simp [e1, ha]
      · simp [e1, e2, e3]
theorem St.n3a {τ : St} {a b c a' x : Nat} {A B C A' : AObj} (ha : τ a = none) (h1 : a ≠ b) (h2 : a ≠ c) (h : (((((τ.set a A).set b B).set c C).del a).set a' A') x = none) : x ≠ a' ∧ x ≠ b ∧ x ≠ c ∧ τ x = none := by
  unfold St.set St.del at h
  dsimp only at h
  by_cases e0 : x = a'
  · simp [e0] at h
  · refine ⟨e0, ?_⟩
    rw [if_neg e0] at h
    by_cases e1 : x = a
    · subst e1; exact ⟨h1, h2, ha⟩
    · rw [if_neg e1] at h
      by_cases e3 : x = c
      · rw [if_pos e3] at h; cases h
      · rw [if_neg e3] at h
        by_cases e2 : x = b
        · rw [if_pos e2] at h; cases h
        · rw [if_neg e2, if_neg e1] at h
          exact ⟨e2, e3, h⟩
theorem St.n3b {τ : St} {a b c a' b' x : Nat} {A B C A' B' : AObj} (ha : τ a = none) (hb : τ b = none) (h1 : a ≠ b) (h2 : a ≠ c) (h3 : b ≠ c) (h4 : a' ≠ b) (h : (((((((τ.set a A).set b B).set c C).del a).set a' A').del b).set b' B') x = none) : x ≠ a' ∧ x ≠ b' ∧ x ≠ c ∧ τ x = none := by
  unfold St.set St.del at h
  dsimp only at h
  by_cases e0 : x = b'
  · simp [e0] at h
  · rw [if_neg e0] at h
    by_cases e1 : x = b
    · subst e1; exact ⟨h4.symm, e0, h3, hb⟩
    · rw [if_neg e1] at h
      by_cases e2 : x = a'
      · rw [if_pos e2] at h; cases h
      · rw [if_neg e2] at h
        by_cases e3 : x = a
        · subst e3; exact ⟨e2, e0, h2, ha⟩
        · rw [if_neg e3] at h
          by_cases e4 : x = c
          · rw [if_pos e4] at h; cases h
          · rw [if_neg e4, if_neg e1, if_neg e3] at h
            exact ⟨e2, e0, e4, h⟩
structure Fi3 (τ : St) (l : List Ins) (i a b c : Nat) (t : List Ins) : Prop where
  hi : i ≤ l.length
  ht : t.reverse = l.drop (l.length - i)
  na : τ a = none
  nb : τ b = none
  nc : τ c = none
  ab : a ≠ b
  ac : a ≠ c
  bc : b ≠ c
set_option maxHeartbeats 8000000 in
theorem l_orderFirst (p : Prg) (how : Int) (l : List Ins) : Pure Try.prog 6 [.agg (pgc p), .v (.int .u8 how), .sl none false 2 (l.map inc)] (.v (.bool true)) := by
  refine enterW Try.func6 rfl rfl rfl rfl (fun σ => ?_)
  refine cj_len 2 (fun hm0 => ?_)
  have hn : (l.map inc).length = l.length := List.length_map ..
  have k0 := p_awake26
  have k1 := p_light26 none false p l
  cases hb : ltB26 p l with
  | false =>
    rw [hb] at k1
    obtain ⟨pc, pr⟩ := p
    repeat' (first|(first|(refine jl ?_;first|refine j7 ?_|refine j1 ?_|refine j4 ?_|refine j9 ?_|refine j12 (fun id hid=>?_)|refine j14 ?_|refine jp (k0) ?_|refine jp (k1) ?_)|(refine jc ?_;first|refine c1 ?_|refine c2 ?_|refine c5 ?_|refine c6 ?_|refine c7 ?_)|refine n1 ?_|refine n2 ?_|refine n11 ?_)|(refine c9 (fun h=>?_) (fun h=>?_)<;>((try simp only [Bool.or_eq_true, Bool.and_eq_true, Bool.or_eq_false_iff, Bool.and_eq_false_iff, Bool.not_eq_true', Bool.not_eq_false', decide_eq_true_eq, decide_eq_false_iff_not, Bool.false_eq_true, Bool.true_eq_false, reduceCtorEq] at h) <;> (try simp (disch := omega) only [sb_bt, w64, Int.reduceAdd, Int.reduceToNat, Int.toNat_natCast, not_true_eq_false, false_or] at h) <;> (try (exfalso; omega)))))
    all_goals first
      | (exfalso; simp at h; done)
      | exact gives (by repeat' (first | exact St.le_refl _ | refine St.le_any ?_)) (Fin.refl _ _ _)
  | true =>
    rw [hb] at k1
    obtain ⟨h1, h2, h3, h4⟩ := ltB26_of hb
    obtain ⟨pc, pr⟩ := p
    dsimp only at h4
    have hs : shortI l := fun x hx => Nat.le_trans (h3 x hx) (by decide)
    by_cases h8 : 8 < l.length
    · repeat' (first|(first|(refine jl ?_;first|refine j7 ?_|refine j1 ?_|refine j4 ?_|refine j9 ?_|refine j12 (fun id hid=>?_)|refine j14 ?_|refine jp (k0) ?_|refine jp (k1) ?_)|(refine jc ?_;first|refine c1 ?_|refine c2 ?_|refine c7 ?_)|refine n2 ?_|refine n11 ?_)|(refine c9 (fun h=>?_) (fun h=>?_)<;>((try simp only [Bool.or_eq_true, Bool.and_eq_true, Bool.or_eq_false_iff, Bool.and_eq_false_iff, Bool.not_eq_true', Bool.not_eq_false', decide_eq_true_eq, decide_eq_false_iff_not, Bool.false_eq_true, Bool.true_eq_false, reduceCtorEq] at h) <;> (try simp (disch := omega) only [sb_bt, w64, Int.reduceAdd, Int.reduceToNat, Int.toNat_natCast, not_true_eq_false, false_or] at h) <;> (try (exfalso; omega)))))
      all_goals first
        | exact gives (by repeat' (first | exact St.le_refl _ | refine St.le_any ?_)) (Fin.refl _ _ _)
        | (exfalso; simp at h; omega)
    · repeat' (first|(first|(refine jl ?_;first|refine j7 ?_|refine j1 ?_|refine j4 ?_|refine j9 ?_|refine j12 (fun id hid=>?_)|refine j14 ?_|refine jp (k1) ?_)|(refine jc ?_;first|refine c1 ?_|refine c2 ?_|refine c5 ?_|refine c6 ?_)|refine n1 ?_)|(refine c9 (fun h=>?_) (fun h=>?_)<;>((try simp only [Bool.or_eq_true, Bool.and_eq_true, Bool.or_eq_false_iff, Bool.and_eq_false_iff, Bool.not_eq_true', Bool.not_eq_false', decide_eq_true_eq, decide_eq_false_iff_not, Bool.false_eq_true, Bool.true_eq_false, reduceCtorEq] at h) <;> (try simp (disch := omega) only [sb_bt, w64, Int.reduceAdd, Int.reduceToNat, Int.toNat_natCast, not_true_eq_false, false_or] at h) <;> (try (exfalso; omega)))))
      all_goals first | (exfalso; simp at h; omega) | skip
      first | refine cj_id 3 (fun bp e => ?_) | refine lj_id 3 (fun bp e => ?_)
      subst e
      refine cj_name (fun τ hτ => ?_)
      have hbp : τ bp = some (.row 2 25 [pgc ⟨pc, pr⟩]) := by rw [hτ]; exact St.set_same _ _ _
      have hle : σ.le τ := by rw [hτ]; exact St.le_set _ hid
      clear hτ
      refine cj_ghost (ghost_nil (t := 7) 3 38 rfl (fun w0 hw0 => ?_))
      refine cj_ghost (ghost_nil (t := 8) 3 38 rfl (fun w1 hw1 => ?_))
      refine cj_ghost (ghost_nil (t := 9) 2 32 rfl (fun w2 hw2 => ?_))
      refine cj_for (fun s : Nat × (Nat × Nat × Nat) × List Ins => Fi3 τ l s.1 s.2.1.1 s.2.1.2.1 s.2.1.2.2 s.2.2) (fun s => [(10, .v (.int .i64 s.1)), (7, .osl s.2.1.1 3 0 s.1), (8, .osl s.2.1.2.1 3 0 s.1), (9, .osl s.2.1.2.2 2 0 s.2.2.length)]) (fun s => ((τ.set s.2.1.1 (.row 3 38 ((l.take s.1).map (fun x => enc ⟨x, false⟩)))).set s.2.1.2.1 (.row 3 38 ((l.take s.1).map (fun x => enc ⟨x, true⟩)))).set s.2.1.2.2 (.row 2 32 (s.2.2.map inc))) (fun s => l.length - s.1) (0, (w0, w1, w2), []) ⟨Nat.zero_le _, by simp, hw0, St.none_set hw1, St.none_set (St.none_set hw2), St.ne_of_none hw1, St.nn1 hw2, St.ne_of_none hw2⟩ ⟨⟨_, rfl, fun _ _ h => h⟩, ⟨_, rfl, fun _ _ h => h⟩, ⟨_, rfl, fun _ _ h => h⟩, ⟨_, rfl, fun _ _ h => h⟩, trivial⟩ (St.le_refl _) (fun s hs2 => ?_)
      obtain ⟨i, ⟨a, b, c⟩, t⟩ := s
      dsimp only at hs2 ⊢
      obtain ⟨hi, ht, na, nb, nc, ab, ac, bc⟩ := hs2
      have htl : t.length = i := by
        have := congrArg List.length ht
        rw [List.length_reverse, List.length_drop] at this
        omega
      rcases hd : l.drop i with _ | ⟨x, r⟩
      · have z1 := dropn hd
        have htk : l.take i = l := List.take_of_length_le z1
        have htr : t = l.reverse := by
          rw [show l.length - i = 0 by omega, List.drop_zero] at ht
          rw [← ht, List.reverse_reverse]
        rw [htk]
        have hm7 : (l.map (fun x => enc ⟨x, false⟩)).length = i := by rw [List.length_map]; omega
        have hm8 : (l.map (fun x => enc ⟨x, true⟩)).length = i := by rw [List.length_map]; omega
        have hm9 : (t.map inc).length = t.length := List.length_map ..
        refine cj_freeze 7 (els := l.map (fun x => enc ⟨x, false⟩)) rfl (by rw [St.set_ne _ _ _ ac, St.set_ne _ _ _ ab]; exact St.set_same _ _ _) hm7.symm (by decide) ?_
        refine cj_freeze 8 (els := l.map (fun x => enc ⟨x, true⟩)) rfl (by unfold St.del; rw [if_neg ab.symm, St.set_ne _ _ _ bc]; exact St.set_same _ _ _) hm8.symm (by decide) ?_
        refine cj_freeze 9 (els := t.map inc) rfl (by unfold St.del; rw [if_neg bc.symm, if_neg ac.symm]; exact St.set_same _ _ _) hm9.symm (by decide) ?_
        rw [St.del3 na nb nc ab ac bc]
        have hts : shortI t := fun x hx => hs x (by rw [htr] at hx; exact List.mem_reverse.1 hx)
        have hso : sorts (lessX (stR pr) how) t = sorts (lessX (stR pr) how) l := sorts_same (cmpX_cmp (stR pr) how) (fun _ _ h => cmpX_zero h) (by rw [htr]; exact List.reverse_perm l)
        have e7 : l.map (fun x => enc ⟨x, false⟩) = (l.map (fun x => (⟨x, false⟩ : Ent))).map enc := by rw [List.map_map]; rfl
        have e8 : l.map (fun x => enc ⟨x, true⟩) = (l.map (fun x => (⟨x, true⟩ : Ent))).map enc := by rw [List.map_map]; rfl
        rw [e7, e8]
        have k2 := p_sort none none false false pr h4 how l hs h2
        have k3 := p_sort none none false false pr h4 how t hts (by omega)
        rw [hso] at k3
        have k4 := p_select none none false false pr h4 how (l.map (fun x => (⟨x, false⟩ : Ent))) (fun e he => by obtain ⟨x, hx, rfl⟩ := List.mem_map.1 he; exact hs x hx) (by rw [List.length_map]; omega)
        have k5 := p_select none none false false pr h4 how (l.map (fun x => (⟨x, true⟩ : Ent))) (fun e he => by obtain ⟨x, hx, rfl⟩ := List.mem_map.1 he; exact hs x hx) (by rw [List.length_map]; omega)
        rw [leftE_open] at k4
        rw [leftE_done] at k5
        have k6 := p_lsame none none false false (sorts (lessX (stR pr) how) l) (sorts (lessX (stR pr) how) l)
        rw [sameL_self] at k6
        have hsl : ((sorts (lessX (stR pr) how) l).map inc).length = l.length := by rw [List.length_map, (sorts_perm (lessX (stR pr) how) l).length_eq]
        cases l with
        | nil =>
          repeat' (first|(first|(refine jl ?_;first|refine jtf ?_|refine j1 ?_|refine j4 ?_|refine j13 (fun id hid=>?_)|refine j14 ?_|refine j17t ?_|refine jpy (k0) ?_|refine jp (k2) ?_|refine jp (k3) ?_|refine jp (k4) ?_|refine jp (k6) ?_)|(refine dl ?_;first|refine d7 ?_|refine d11 ?_|refine d1 ?_|refine d4 ?_|refine d9 ?_|refine d16 ?_|refine dff ?_)|(refine jc ?_;first|refine c1 ?_|refine c2 ?_|refine c6 ?_|refine c7 ?_|refine c8 ?_|refine cq ?_)|refine n1 ?_|refine n2 ?_|refine n3 ?_|refine n7 ?_|refine n8 ?_|refine n11 ?_)|(refine c9 (fun h=>?_) (fun h=>?_)<;>((try simp only [Bool.or_eq_true, Bool.and_eq_true, Bool.or_eq_false_iff, Bool.and_eq_false_iff, Bool.not_eq_true', Bool.not_eq_false', decide_eq_true_eq, decide_eq_false_iff_not, Bool.false_eq_true, Bool.true_eq_false, reduceCtorEq] at h) <;> (try simp (disch := omega) only [sb_bt, w64, Int.reduceAdd, Int.reduceToNat, Int.toNat_natCast, not_true_eq_false, false_or] at h) <;> (try (exfalso; omega)))))
          all_goals first
            | exact gives (St.le_trans hle (by repeat' (first | exact St.le_refl _ | refine St.le_any ?_))) (Fin.refl _ _ _)
            | (exfalso; rw [hsl] at h; simp [selX] at h; done)
            | trace_state
        | cons x l =>
          have hh := sorts_head (cmpX_cmp (stR pr) how) (fun _ _ h => cmpX_zero h) x l
          have hs0 : ((sorts (lessX (stR pr) how) (x :: l)).map inc)[(0 : Int).toNat]? = some (inc (minB (lessX (stR pr) how) x l)) := by
            rw [Int.toNat_zero, List.getElem?_map]
            exact congrArg (Option.map inc) hh
          have k7 := p_sameInst (minB (lessX (stR pr) how) x l) (minB (lessX (stR pr) how) x l)
          rw [sameN_self] at k7
          repeat' (first|(first|(refine jl ?_;first|refine jtf ?_|refine j1 ?_|refine j4 ?_|refine j13 (fun id hid=>?_)|refine j14 ?_|refine j17t ?_|refine jpy (k0) ?_|refine jp (k2) ?_|refine jp (k3) ?_|refine jp (k4) ?_|refine jp (k5) ?_|refine jp (k6) ?_)|(refine dl ?_;first|refine d7 ?_|refine d11 ?_|refine d1 ?_|refine d4 ?_|refine d9 ?_|refine d16 ?_|refine di3 ?_|refine dpq (hp:=fun hc=>k7) ?_)|(refine jc ?_;first|refine c1 ?_|refine c2 ?_|refine c6 ?_|refine c7 ?_|refine c8 ?_|refine cq ?_)|refine n1 ?_|refine n2 ?_|refine n3 ?_|refine n7 ?_|refine n8 ?_|refine n11 ?_)|(refine c9 (fun h=>?_) (fun h=>?_)<;>((try simp only [Bool.or_eq_true, Bool.and_eq_true, Bool.or_eq_false_iff, Bool.and_eq_false_iff, Bool.not_eq_true', Bool.not_eq_false', decide_eq_true_eq, decide_eq_false_iff_not, Bool.false_eq_true, Bool.true_eq_false, reduceCtorEq] at h) <;> (try simp (disch := omega) only [sb_bt, w64, Int.reduceAdd, Int.reduceToNat, Int.toNat_natCast, not_true_eq_false, false_or] at h) <;> (try (exfalso; omega)))))
          all_goals first
            | exact gives (St.le_trans hle (by repeat' (first | exact St.le_refl _ | refine St.le_any ?_))) (Fin.refl _ _ _)
            | (exfalso; rw [hsl] at h; simp [selX] at h; done)
            | trace_state
      · obtain ⟨u1, u2, u3⟩ := dropc hd
        have u4 := get_map inc u3
        have htk : l.take (i + 1) = l.take i ++ [x] := by rw [List.take_add_one, u3]; rfl
        have hwt : IntKind.i64.wrap (IntKind.i64.wrap (((l.map inc).length : Nat) - 1) - (i : Int)) = ((l.length - 1 - i : Nat) : Int) := by
          rw [w64 (n := ((l.map inc).length : Nat) - 1) (by omega) (by omega), w64 (by omega) (by omega)]
          omega
        obtain ⟨y, hy⟩ : ∃ y, l[l.length - 1 - i]? = some y := ⟨_, List.getElem?_eq_getElem (by omega)⟩
        have u5 : (l.map inc)[(IntKind.i64.wrap (IntKind.i64.wrap (((l.map inc).length : Nat) - 1) - (i : Int))).toNat]? = some (inc y) := by
          rw [hwt]; exact get_map inc hy
        have hm7 : ((l.take i).map (fun x => enc ⟨x, false⟩)).length = i := by rw [List.length_map, List.length_take]; omega
        have hm8 : ((l.take i).map (fun x => enc ⟨x, true⟩)).length = i := by rw [List.length_map, List.length_take]; omega
        have hm9 : (t.map inc).length = i := by rw [List.length_map]; exact htl
        have ha7 : ((l.take i).map (fun x => enc ⟨x, false⟩)).take i ++ [enc ⟨x, false⟩] = (l.take (i + 1)).map (fun x => enc ⟨x, false⟩) := by rw [List.take_of_length_le (by omega), htk, List.map_append]; rfl
        have ha8 : ((l.take i).map (fun x => enc ⟨x, true⟩)).take i ++ [enc ⟨x, true⟩] = (l.take (i + 1)).map (fun x => enc ⟨x, true⟩) := by rw [List.take_of_length_le (by omega), htk, List.map_append]; rfl
        have ha9 : (t.map inc).take t.length ++ [inc y] = (t ++ [y]).map inc := by rw [List.take_of_length_le (by omega), List.map_append]; rfl
        repeat' (first|(first|(refine jl ?_;first|refine jb ?_|refine jbl ?_|refine j1 ?_|refine j4 ?_|refine ji1 ?_|refine jlit ?_)|(refine jc ?_;first|refine c1 ?_|refine c2 ?_|refine c5 ?_|refine c6 ?_)|refine n1 ?_)|(refine c9 (fun h=>?_) (fun h=>?_)<;>((try simp only [Bool.or_eq_true, Bool.and_eq_true, Bool.or_eq_false_iff, Bool.and_eq_false_iff, Bool.not_eq_true', Bool.not_eq_false', decide_eq_true_eq, decide_eq_false_iff_not, Bool.false_eq_true, Bool.true_eq_false, reduceCtorEq] at h) <;> (try simp (disch := omega) only [sb_bt, w64, Int.reduceAdd, Int.reduceToNat, Int.toNat_natCast, not_true_eq_false, false_or] at h) <;> (try (exfalso; omega)))))
        refine japo (n := i) (m := i + 1) (news := [enc ⟨x, false⟩]) (fun a' ha' => ?_) ha7 rfl (hσ := by rw [St.set_ne _ _ _ ac, St.set_ne _ _ _ ab]; exact St.set_same _ _ _) (hn := by omega) (hb := by dsimp only [List.length]; omega)
        have q1 := St.ne_of_none ha'
        have q2 := St.nn1 ha'
        have q3 : τ a' = none := St.none_set (St.none_set (St.none_set ha'))
        repeat (first|(refine jl ?_;first|refine jb ?_|refine jbl ?_|refine j1 ?_|refine j4 ?_|refine ji1 ?_|refine jlit ?_)|(refine jc ?_;first|refine c1 ?_|refine c2 ?_))
        refine japo (n := i) (m := i + 1) (news := [enc ⟨x, true⟩]) (fun b' hb' => ?_) ha8 rfl (hσ := by rw [St.set_ne _ _ _ q2]; unfold St.del; rw [if_neg ab.symm, St.set_ne _ _ _ bc]; exact St.set_same _ _ _) (hn := by omega) (hb := by dsimp only [List.length]; omega)
        obtain ⟨q4, q5, q6, q7⟩ := St.n3a na ab ac hb'
        repeat (first|(refine jl ?_;first|refine jbl ?_|refine j1 ?_|refine j4 ?_|refine ji1 ?_|refine jlit ?_)|(refine jc ?_;first|refine c2 ?_))
        refine japo (n := t.length) (m := t.length + 1) (news := [inc y]) (fun c' hc' => ?_) ha9 rfl (hσ := by rw [St.set_ne _ _ _ (Ne.symm q6)]; unfold St.del; rw [if_neg bc.symm, St.set_ne _ _ _ q1, if_neg ac.symm]; exact St.set_same _ _ _) (hn := by omega) (hb := by dsimp only [List.length]; omega)
        obtain ⟨q8, q9, q10, q11⟩ := St.n3b na nb ab ac bc (Ne.symm q2) hc'
        repeat (first|(refine jl ?_;first|refine j1 ?_|refine j6 ?_)|(refine jc ?_;first|refine c2 ?_)|refine n1 ?_|refine n10 ?_)
        refine nx_forS (i + 1, (a', b', c'), t ++ [y]) ⟨by dsimp only; omega, ?_, q3, q7, q11, Ne.symm q4, Ne.symm q8, Ne.symm q9⟩ (by dsimp only; omega) ⟨⟨_, rfl, wk1 (by omega)⟩, ⟨_, rfl, fun _ _ h => h⟩, ⟨_, rfl, fun _ _ h => h⟩, ⟨_, rfl, Wk.of_eq (by dsimp only; rw [List.length_append, List.length_singleton])⟩, trivial⟩ ?_
        · dsimp only
          rw [List.reverse_append, List.reverse_singleton, ht, show l.length - (i + 1) = l.length - 1 - i by omega, List.drop_eq_getElem_cons (show l.length - 1 - i < l.length by omega), (List.getElem?_eq_some_iff.1 hy).2, show l.length - 1 - i + 1 = l.length - i by omega]
          rfl
        · exact St.le3 na nb nc (Ne.symm q2) (Ne.symm q1) q6 (Ne.symm q4) (Ne.symm q8) (Ne.symm q9)
end Go.Proofs.Ytbpoeggmpjepfaa.Ab

/- From a contract over abstract values to the row's own words. -/
set_option linter.unusedVariables false
set_option linter.unusedSimpArgs false
set_option maxRecDepth 20000
namespace Go.Proofs.Ytbpoeggmpjepfaa.Ab
open Go Go.RowKit Go Go.RowKit

def k0 (w : World) : Cx := { ρ := fun _ => none, top := 0, σ := fun _ => none, base := w.heap.size, w := w }
theorem k0_ok {w : World} (hg : Ground w.heap.size w) : Ok (k0 w) := ⟨fun id h => absurd rfl h, fun id id' b h => absurd rfl h, fun id b h => absurd rfl h, Nat.le_refl _, (fun id o h => by cases h), hg⟩
theorem k0_live (w : World) (b : Nat) : ¬ (k0 w).live b := fun ⟨id, h, _⟩ => h rfl
theorem pure_start {P : Program} {f : FuncId} {args : List AV} {x : Value} (h : Pure P f args (.v x)) (w : World) (hg : Ground w.heap.size w) (vs : List Value) (hv : Reps (k0 w) args vs) : Calls P f vs.toArray w (fun e w' => e = .returned x ∧ Below w.heap.size w w') :=
  (h _ (k0 w) vs rfl (k0_ok hg) hv).mono fun e w' ⟨k', e', h1, h2, h3, h4, h5, h6⟩ => by
    subst h5; subst h1
    cases e with
    | returned v =>
      cases h4
      exact ⟨rfl, h3.os, h3.tape, h3.output, h3.size, fun b hb => (h3.frz b hb (k0_live w b)).1⟩
    | panicked ch => exact h4.elim
    | outgrown => exact h4.elim
theorem reps_nil (k : Cx) : Reps k [] [] := ⟨rfl, fun j a u h _ => by simp at h⟩
theorem reps_cons {k : Cx} {a : AV} {v : Value} {l : List AV} {vs : List Value} (h : Rep k a v) (h' : Reps k l vs) : Reps k (a :: l) (v :: vs) := by
  refine ⟨by simp [h'.1], fun j b u hb hu => ?_⟩
  cases j with
  | zero => simp at hb hu; subst hb; subst hu; exact h
  | succ j => exact h'.2 j b u (by simpa using hb) (by simpa using hu)

/-- What is told of a slice of integers that came in. -/
def IsRow (k : IntKind) (w : World) (a : Option Addr) (len cap : Nat) (zs : List Int) : Prop :=
  (a = none ∧ len = 0 ∧ cap = 0 ∧ zs = []) ∨
  ∃ x, a = some x ∧ len ≤ cap ∧ cap ≤ maxLen ∧ zs.length = cap ∧ (∀ i, i < zs.length → w.cell? (x.add i) = some (.int k (zs.getD i 0))) ∧ ∀ n ∈ zs, (Lit.int k n).wf = true
theorem okWide_spot {P : Program} {w : World} {base : Nat} {t e : TypeId} {a : Addr} {len cap : Nat} (ht : P.underlying t = some (.slice e)) (h : Value.okWide P w .any base t (.slice (some a) len cap)) : a.spot = none ∧ a.block < w.heap.size := by
  have h' : Cell.ok P w .any base t (.slice (some a) len cap) := by
    simpa [Value.okWide, Cell.okWide, ht] using h
  have h2 : len ≤ cap ∧ (cap : Int) ≤ IntKind.i64.max ∧ w.has P .any base a e cap := by simpa [Cell.ok, ht] using h'
  obtain ⟨_, _, _, h3, row, cells, h4, _⟩ := h2
  refine ⟨h3, ?_⟩
  unfold World.shape? at h4
  split at h4
  · rename_i h5; exact (Array.getElem?_eq_some_iff.1 h5).1
  · cases h4
theorem isrow_rep {P : Program} {w : World} {base : Nat} {t e : TypeId} {k : IntKind} {a : Option Addr} {len cap : Nat} {zs : List Int} (ht : P.underlying t = some (.slice e)) (hw : Value.okWide P w .any base t (.slice a len cap)) (h : IsRow k w a len cap zs) : Rep (k0 w) (.sl none false 1 ((zs.take len).map fun z => [.v (.int k z)])) (.slice a len cap) := by
  rcases h with ⟨rfl, rfl, rfl, rfl⟩ | ⟨x, rfl, h1, h2, h3, h4, h5⟩
  · exact .slnil (by simp)
  · obtain ⟨hs, hlt⟩ := okWide_spot ht hw
    obtain ⟨b, o, spot⟩ := x
    simp only at hs hlt
    subst hs
    have hl : ((zs.take len).map fun z => [AV.v (.int k z)]).length = len := by simp; omega
    have hgoal : Rep (k0 w) (.sl none false 1 ((zs.take len).map fun z => [AV.v (.int k z)])) (.slice (some ⟨b, o, none⟩) ((zs.take len).map fun z => [AV.v (.int k z)]).length cap) := by
      have hget : ∀ (i j : Nat) e a, ((zs.take len).map fun z => [AV.v (.int k z)])[i]? = some e → e[j]? = some a → j = 0 ∧ i < zs.length ∧ a = .v (.int k (zs.getD i 0)) := fun i j e a he ha => by
        simp only [List.getElem?_map, Option.map_eq_some_iff] at he
        obtain ⟨z, hz, rfl⟩ := he
        rw [List.getElem?_take] at hz
        split at hz
        · cases j with
          | zero =>
            have : zs.getD i 0 = z := by rw [List.getD_eq_getElem?_getD, hz]; rfl
            simp at ha
            exact ⟨rfl, (List.getElem?_eq_some_iff.1 hz).1, by rw [← ha, this]⟩
          | succ j => simp at ha
        · cases hz
      refine .sl (f := fun i j => .int k (zs.getD i 0)) (by simp) (by omega) (by omega) (by simp) (fun i e he => ?_) (fun _ => ⟨hlt, k0_live w b⟩) (fun i j e a he ha => ?_) (fun i j e a he ha => ?_)
      · simp only [List.getElem?_map, Option.map_eq_some_iff] at he
        obtain ⟨_, _, rfl⟩ := he
        rfl
      · obtain ⟨rfl, hi, _⟩ := hget i j e a he ha
        have := h4 i hi
        rw [Go.WideShapes.add_plain] at this
        refine ⟨?_, rfl⟩
        simpa [k0] using this
      · obtain ⟨rfl, hi, rfl⟩ := hget i j e a he ha
        exact .v rfl
    rw [hl] at hgoal
    exact hgoal
theorem isrow_mem {k : IntKind} {w : World} {a : Option Addr} {len cap : Nat} {zs : List Int} (h : IsRow k w a len cap zs) : ∀ n ∈ zs, (Lit.int k n).wf = true := by
  rcases h with ⟨_, _, _, rfl⟩ | ⟨_, _, _, _, _, _, h⟩
  · intro n hn; cases hn
  · exact h
theorem wf_u8 {n : Int} (h : (Lit.int .u8 n).wf = true) : 0 ≤ n ∧ n < 256 := by
  have := bounds_u8 h
  omega
theorem wf_i64 {n : Int} (h : (Lit.int .i64 n).wf = true) : -9223372036854775808 ≤ n ∧ n < 9223372036854775808 := by
  have := bounds_i64 h
  omega
theorem isrow_bytes {w : World} {a : Option Addr} {len cap : Nat} {zs : List Int} (h : IsRow .u8 w a len cap zs) : ((zs.take len).map fun z => [AV.v (.int .u8 z)]) = bys ((zs.take len).map fun z => UInt8.ofNat z.toNat) := by
  unfold bys
  rw [List.map_map]
  refine List.map_congr_left fun z hz => ?_
  obtain ⟨h0, h1⟩ := wf_u8 (isrow_mem h z (List.mem_of_mem_take hz))
  simp only [Function.comp_apply, List.cons.injEq, AV.v.injEq, Value.int.injEq, true_and, and_true]
  have : (UInt8.ofNat z.toNat).toNat = z.toNat := by simp; omega
  omega
end Go.Proofs.Ytbpoeggmpjepfaa.Ab

/- What came in, opened: from the row's own reading to abstract values, for any type of numbers, strings, bools, structs, arrays and slices. -/
set_option linter.unusedVariables false
set_option linter.unusedSimpArgs false
set_option maxRecDepth 20000
namespace Go.Proofs.Ytbpoeggmpjepfaa.Ab
open Go Go.RowKit

def inFields (P : Program) (R : TypeId → List AV → Prop) : List Field → List AV → Prop
  | [], cs => cs = []
  | f :: fs, cs => ∃ a b, cs = a ++ b ∧ a.length = P.cellsOf f.type ∧ R f.type a ∧ inFields P R fs b
def inElems (R : List AV → Prop) (sz : Nat) : Nat → List AV → Prop
  | 0, cs => cs = []
  | n + 1, cs => ∃ a b, cs = a ++ b ∧ a.length = sz ∧ R a ∧ inElems R sz n b
/-- The cells of a value of type t. -/
def isAV (P : Program) : Nat → TypeId → List AV → Prop
  | 0, _, _ => False
  | n + 1, t, cs => match P.underlying t with
    | some .bool => ∃ b, cs = [.v (.bool b)]
    | some (.int k) => ∃ m, cs = [.v (.int k m)] ∧ (Lit.int k m).wf = true
    | some .string => ∃ s, cs = [.v (.string s)] ∧ s.size ≤ maxLen
    | some (.slice e) => ∃ els, cs = [.sl none false (P.cellsOf e) els] ∧ els.length ≤ maxLen ∧ ∀ el ∈ els, el.length = P.cellsOf e ∧ isAV P n e el
    | some (.struct fs) => inFields P (isAV P n) fs.toList cs
    | some (.array m e) => inElems (isAV P n e) (P.cellsOf e) m cs
    | _ => False
def tile (P : Program) : List Field → Nat → Option Nat
  | [], o => some o
  | f :: fs, o => if f.offset = o then tile P fs (o + P.cellsOf f.type) else none
/-- Types that are opened so. -/
def plainT (P : Program) : Nat → TypeId → Bool
  | 0, _ => false
  | n + 1, t => match P.underlying t with
    | some .bool | some (.int _) | some .string => true
    | some (.slice e) => Nat.blt 0 (P.cellsOf e) && plainT P n e
    | some (.struct fs) => decide (tile P fs.toList 0 = some (P.cellsOf t)) && fs.toList.all (fun f => plainT P n f.type)
    | some (.array m e) => decide (m * P.cellsOf e = P.cellsOf t) && plainT P n e
    | _ => false
theorem CellsRep.append {k : Cx} {a b : List AV} {u v : List Value} (h : CellsRep k a u) (h' : CellsRep k b v) : CellsRep k (a ++ b) (u ++ v) := by
  refine ⟨by simp [h.1, h'.1], fun j x y hx hy => ?_⟩
  rcases Nat.lt_or_ge j a.length with hlt | hge
  · rw [List.getElem?_append_left hlt] at hx
    rw [List.getElem?_append_left (by rw [h.1]; exact hlt)] at hy
    exact h.2 j x y hx hy
  · rw [List.getElem?_append_right hge] at hx
    rw [List.getElem?_append_right (by rw [h.1]; exact hge), h.1] at hy
    exact h'.2 _ x y hx hy
theorem cellsRep_one {k : Cx} {a : AV} {u : Value} (h1 : u.oneCell' = true) (h : Rep k a u) : CellsRep k [a] [u] := by
  refine ⟨rfl, fun j x y hx hy => ?_⟩
  cases j with
  | zero => simp at hx hy; subst hx; subst hy; exact ⟨h1, h⟩
  | succ j => simp at hx
theorem cellsRep_nil (k : Cx) : CellsRep k [] [] := ⟨rfl, fun j x y hx => by simp at hx⟩
section
variable {H : Type} {enc : TypeId × Value → H} {P : Program} {w : World} {held : Bool}
theorem open_fields {n fuel : Nat} (ih : ∀ (t : TypeId) (cs : List Value) (x : DataW H × List MemPlace), plainT P n t = true → DataW.trod enc P w 0 (fun _ => true) held fuel t cs = some x → ∃ avs, isAV P n t avs ∧ CellsRep (k0 w) avs cs) :
    ∀ (fs : List Field) (o e : Nat) (cs : List Value), tile P fs o = some e → cs.length = e → fs.all (fun f => plainT P n f.type) = true →
      (∀ f ∈ fs, ∃ x, DataW.trod enc P w 0 (fun _ => true) held fuel f.type ((cs.drop f.offset).take (P.cellsOf f.type)) = some x) → ∃ avs, inFields P (isAV P n) fs avs ∧ CellsRep (k0 w) avs (cs.drop o) ∧ o ≤ e
  | [], o, e, cs, ht, hl, _, _ => by
    simp only [tile, Option.some.injEq] at ht
    exact ⟨[], rfl, by rw [List.drop_of_length_le (by omega)]; exact cellsRep_nil _, by omega⟩
  | f :: fs, o, e, cs, ht, hl, hp, hx => by
    unfold tile at ht
    split at ht
    · rename_i ho
      rw [List.all_cons, Bool.and_eq_true] at hp
      obtain ⟨avs, h1, h2, h3⟩ := open_fields ih fs _ e cs ht hl hp.2 (fun g hg => hx g (.tail _ hg))
      obtain ⟨x, hx1⟩ := hx f (.head _)
      obtain ⟨a, h4, h5⟩ := ih f.type _ x hp.1 hx1
      rw [ho] at h5
      refine ⟨a ++ avs, ⟨a, avs, rfl, ?_, h4, h1⟩, ?_, by omega⟩
      · rw [← h5.1, List.length_take, List.length_drop]; omega
      · have e1 : cs.drop o = (cs.drop o).take (P.cellsOf f.type) ++ cs.drop (o + P.cellsOf f.type) := by
          rw [← List.drop_drop, List.take_append_drop]
        rw [e1]
        exact h5.append h2
    · cases ht
theorem open_elems {n fuel : Nat} {e : TypeId} (ih : ∀ (cs : List Value) (x : DataW H × List MemPlace), DataW.trod enc P w 0 (fun _ => true) held fuel e cs = some x → ∃ avs, isAV P n e avs ∧ CellsRep (k0 w) avs cs) :
    ∀ (m : Nat) (cs : List Value), cs.length = m * P.cellsOf e → (∀ i, i < m → ∃ x, DataW.trod enc P w 0 (fun _ => true) held fuel e ((cs.drop (i * P.cellsOf e)).take (P.cellsOf e)) = some x) → ∃ avs, inElems (isAV P n e) (P.cellsOf e) m avs ∧ CellsRep (k0 w) avs cs
  | 0, cs, hl, _ => by
    have : cs = [] := List.eq_nil_of_length_eq_zero (by simpa using hl)
    subst this
    exact ⟨[], rfl, cellsRep_nil _⟩
  | m + 1, cs, hl, hx => by
    have hl' : cs.length = m * P.cellsOf e + P.cellsOf e := by rw [hl, Nat.add_mul, Nat.one_mul]
    obtain ⟨x, hx0⟩ := hx 0 (by omega)
    rw [Nat.zero_mul, List.drop_zero] at hx0
    obtain ⟨a, h1, h2⟩ := ih _ x hx0
    obtain ⟨b, h3, h4⟩ := open_elems ih m (cs.drop (P.cellsOf e)) (by rw [List.length_drop]; omega) (fun i hi => by
      obtain ⟨y, hy⟩ := hx (i + 1) (by omega)
      rw [Nat.add_mul, Nat.one_mul] at hy
      rw [List.drop_drop, Nat.add_comm (P.cellsOf e)]
      exact ⟨y, hy⟩)
    refine ⟨a ++ b, ⟨a, b, rfl, by rw [← h2.1, List.length_take]; omega, h1, h3⟩, ?_⟩
    rw [← List.take_append_drop (P.cellsOf e) cs]
    exact h2.append h4
theorem cells_get {a : Addr} {n : Nat} {cs : List Value} (h : w.cells? 0 a n = some cs) : cs.length = n ∧ ∀ j, j < n → ∃ u, cs[j]? = some u ∧ w.cell? (a.add j) = some u := by
  unfold World.cells? at h
  rw [if_pos (Nat.zero_le _)] at h
  refine ⟨by simpa using mapM_some_length h, fun j hj => ?_⟩
  have := mapM_some_get h j j (by simp [hj])
  have hl : j < cs.length := by rw [show cs.length = n by simpa using mapM_some_length h]; exact hj
  exact ⟨cs[j], List.getElem?_eq_getElem hl, by rw [this, List.getElem?_eq_getElem hl]⟩
theorem cell_plain {a : Addr} {u : Value} (h : w.cell? a = some u) : a.spot = none ∧ a.block < w.heap.size := by
  unfold World.cell? at h
  split at h
  · rename_i c t f hb
    split at h
    · cases h
    · rename_i hs
      exact ⟨by cases hh : a.spot <;> simp_all, (Array.getElem?_eq_some_iff.1 hb).1⟩
  · cases h
theorem choose_list {α : Type} {Q : Nat → α → Prop} : ∀ (n : Nat), (∀ i, i < n → ∃ x, Q i x) → ∃ l : List α, l.length = n ∧ ∀ i x, l[i]? = some x → Q i x
  | 0, _ => ⟨[], rfl, fun i x h => by simp at h⟩
  | n + 1, h => by
    obtain ⟨l, h1, h2⟩ := choose_list n (fun i hi => h i (by omega))
    obtain ⟨x, hx⟩ := h n (by omega)
    refine ⟨l ++ [x], by simp [h1], fun i y hy => ?_⟩
    rcases Nat.lt_or_ge i l.length with hlt | hge
    · rw [List.getElem?_append_left hlt] at hy
      exact h2 i y hy
    · rw [List.getElem?_append_right hge] at hy
      rcases Nat.eq_zero_or_pos (i - l.length) with h0 | h0
      · rw [h0] at hy
        simp at hy
        subst hy
        rwa [show i = n by omega]
      · rw [List.getElem?_eq_none (by simp; omega)] at hy
        cases hy
theorem open_cells : ∀ (n : Nat) (t : TypeId) (fuel : Nat) (cs : List Value) (x : DataW H × List MemPlace), plainT P n t = true → DataW.trod enc P w 0 (fun _ => true) held fuel t cs = some x → ∃ avs, isAV P n t avs ∧ CellsRep (k0 w) avs cs
  | 0, _, _, _, _, h, _ => by cases h
  | n + 1, t, fuel, cs, x, hp, h => by
    unfold plainT at hp
    split at hp
    · rename_i ht
      obtain ⟨b, rfl, _⟩ := DataW.trod_bool ht h
      exact ⟨_, by simp only [isAV, ht]; exact ⟨b, rfl⟩, cellsRep_one rfl (.v rfl)⟩
    · rename_i kk ht
      obtain ⟨m, rfl, _, hw⟩ := DataW.trod_int ht h
      exact ⟨_, by simp only [isAV, ht]; exact ⟨m, rfl, hw⟩, cellsRep_one rfl (.v rfl)⟩
    · rename_i ht
      obtain ⟨s, rfl, _, hs⟩ := DataW.trod_string ht h
      exact ⟨_, by simp only [isAV, ht]; exact ⟨s, rfl, hs⟩, cellsRep_one rfl (.v rfl)⟩
    · rename_i e ht
      rw [Bool.and_eq_true, Nat.blt_eq] at hp
      obtain ⟨hpos, hpe⟩ := hp
      rcases DataW.trod_slice ht h with ⟨rfl, _⟩ | ⟨a, len, cap, elems, rest, fu, rfl, rfl, _, _, hlc, hcm, hel, hget, hsp, _⟩
      · exact ⟨_, by simp only [isAV, ht]; exact ⟨[], rfl, by simp [maxLen], fun el h => by cases h⟩, cellsRep_one rfl (.slnil (by simp))⟩
      · obtain ⟨hrl, hrest⟩ := hsp rfl
        have hcell : ∀ i, i < len → ∃ (el : List AV × (Nat → Value)), (el.1.length = P.cellsOf e ∧ isAV P n e el.1) ∧ ∀ j b, el.1[j]? = some b → w.cell? ((a.add (i * P.cellsOf e)).add j) = some (el.2 j) ∧ (el.2 j).oneCell' = true ∧ Rep (k0 w) b (el.2 j) := fun i hi => by
          have h1 := hget i hi
          rw [List.getElem?_eq_getElem (show i < elems.length by omega), Option.bind_eq_some_iff] at h1
          obtain ⟨ci, h2, h3⟩ := h1
          obtain ⟨avs, h4, h5⟩ := open_cells n e fu ci _ hpe h3
          obtain ⟨h6, h7⟩ := cells_get h2
          refine ⟨(avs, fun j => (ci[j]?).getD undef), ⟨by rw [← h6, h5.1], h4⟩, fun j b hb => ?_⟩
          have hj : j < ci.length := by rw [h5.1]; exact (List.getElem?_eq_some_iff.1 hb).1
          obtain ⟨u, h8, h9⟩ := h7 j (by omega)
          simp only [h8, Option.getD_some]
          exact ⟨h9, h5.2 j b u hb h8⟩
        obtain ⟨els, hl, hels⟩ := choose_list len hcell
        have hav : isAV P (n + 1) t [.sl none false (P.cellsOf e) (els.map (·.1))] := by
          simp only [isAV, ht]
          refine ⟨els.map (·.1), rfl, by rw [List.length_map]; omega, fun el hm => ?_⟩
          obtain ⟨p, hpm, rfl⟩ := List.mem_map.1 hm
          obtain ⟨i, hi⟩ := List.mem_iff_getElem?.1 hpm
          exact (hels i p hi).1
        refine ⟨_, hav, cellsRep_one rfl ?_⟩
        by_cases hc0 : cap = 0
        · subst hc0
          have h0 : len = 0 := by omega
          subst h0
          rw [List.eq_nil_of_length_eq_zero hl]
          exact .sle (by simp)
        · have hplain : ∃ b o, a = ⟨b, o, none⟩ ∧ b < w.heap.size := by
            have hfirst : ∃ cs, w.cells? 0 a (P.cellsOf e) = some cs := by
              by_cases hl0 : 0 < len
              · have h1 := hget 0 hl0
                rw [List.getElem?_eq_getElem (show 0 < elems.length by omega), Option.bind_eq_some_iff] at h1
                obtain ⟨ci, h2, _⟩ := h1
                rw [Nat.zero_mul] at h2
                exact ⟨ci, by simpa [Addr.add] using h2⟩
              · have h1 := hrest 0 (by omega)
                rw [List.getElem?_eq_getElem (show 0 < rest.length by omega), Option.bind_eq_some_iff] at h1
                obtain ⟨ci, h2, _⟩ := h1
                rw [show len + 0 = 0 by omega, Nat.zero_mul] at h2
                exact ⟨ci, by simpa [Addr.add] using h2⟩
            obtain ⟨ci, h2⟩ := hfirst
            obtain ⟨_, h7⟩ := cells_get h2
            obtain ⟨u, _, h9⟩ := h7 0 hpos
            have := cell_plain h9
            simp only [Addr.add, if_true] at this
            obtain ⟨b, o, s⟩ := a
            obtain ⟨h10, h11⟩ := this
            simp only at h10 h11
            subst h10
            exact ⟨b, o, rfl, h11⟩
          obtain ⟨b, o, rfl, hb⟩ := hplain
          have hgoal : Rep (k0 w) (.sl none false (P.cellsOf e) (els.map (·.1))) (.slice (some ⟨b, o, none⟩) (els.map (·.1)).length cap) := by
            have hat : ∀ (i j : Nat) (q : List AV) (c : AV), (els.map (·.1))[i]? = some q → q[j]? = some c → ∃ p, els[i]? = some p ∧ p.1 = q ∧ w.cell? ⟨b, o + (i * P.cellsOf e + j), none⟩ = some (p.2 j) ∧ (p.2 j).oneCell' = true ∧ Rep (k0 w) c (p.2 j) := fun i j q c hq hc => by
              rw [List.getElem?_map, Option.map_eq_some_iff] at hq
              obtain ⟨p, hp1, rfl⟩ := hq
              obtain ⟨_, h12⟩ := hels i p hp1
              obtain ⟨h13, h14⟩ := h12 j c hc
              refine ⟨p, hp1, rfl, ?_, h14⟩
              have e1 : ((⟨b, o, none⟩ : Addr).add (i * P.cellsOf e)).add j = ⟨b, o + (i * P.cellsOf e + j), none⟩ := by
                rw [Addr.add_mid, Addr.add_mid, Nat.add_assoc]
              rwa [e1] at h13
            refine .sl (f := fun i j => ((els[i]?).map (fun p => p.2 j)).getD undef) (by simp) (by rw [List.length_map]; omega) (by rw [List.length_map]; omega) (by simp) (fun i q hq => ?_) (fun _ => ⟨hb, k0_live w b⟩) (fun i j q c hq hc => ?_) (fun i j q c hq hc => ?_)
            · rw [List.getElem?_map, Option.map_eq_some_iff] at hq
              obtain ⟨p, hp1, rfl⟩ := hq
              exact (hels i p hp1).1.1
            · obtain ⟨p, h15, _, h16, h17, _⟩ := hat i j q c hq hc
              simp only [h15, Option.map_some, Option.getD_some]
              exact ⟨h16, h17⟩
            · obtain ⟨p, h15, _, h16, h17, h18⟩ := hat i j q c hq hc
              simp only [h15, Option.map_some, Option.getD_some]
              exact h18
          rw [List.length_map, hl] at hgoal
          exact hgoal
    · rename_i fs ht
      rw [Bool.and_eq_true, decide_eq_true_eq] at hp
      obtain ⟨xs, fu, rfl, _, hl, hxl, hf⟩ := DataW.trod_struct ht h
      obtain ⟨avs, h1, h2, _⟩ := open_fields (fun t cs x => open_cells n t fu cs x) fs.toList 0 _ cs hp.1 hl hp.2 (fun f hfm => by
        obtain ⟨i, hi⟩ := List.mem_iff_getElem?.1 hfm
        have hi' : fs[i]? = some f := by simpa using hi
        have hlt : i < xs.length := by rw [hxl]; exact (Array.getElem?_eq_some_iff.1 hi').1
        exact ⟨xs[i], by rw [hf i f hi', List.getElem?_eq_getElem hlt]⟩)
      exact ⟨avs, by simp only [isAV, ht]; exact h1, by simpa using h2⟩
    · rename_i m e ht
      rw [Bool.and_eq_true, decide_eq_true_eq] at hp
      obtain ⟨xs, fu, rfl, _, hl, hxl, hf⟩ := DataW.trod_array ht h
      obtain ⟨avs, h1, h2⟩ := open_elems (fun cs x => open_cells n e fu cs x hp.2) m cs (by rw [hl, hp.1]) (fun i hi => ⟨xs[i], by rw [hf i hi, List.getElem?_eq_getElem (by omega)]⟩)
      exact ⟨avs, by simp only [isAV, ht]; exact h1, h2⟩
    · cases hp
/-- An argument. -/
def argAV (P : Program) (t : TypeId) (avs : List AV) : AV := match P.underlying t with
  | some (.struct _) | some (.array _ _) => .agg avs
  | _ => avs.headD (.tup [])
theorem open_arg {n base : Nat} {t : TypeId} {v : Value} {d : DataW H} {ps : List MemPlace} (hp : plainT P n t = true) (hv : Value.okWide P w .any base t v) (h : DataW.Trod enc P w 0 (fun _ => true) held t v d ps) : ∃ avs, isAV P n t avs ∧ Rep (k0 w) (argAV P t avs) v := by
  obtain ⟨fuel, hf⟩ := h
  obtain ⟨avs, h1, h2⟩ := open_cells n t fuel _ _ hp hf
  refine ⟨avs, h1, ?_⟩
  have hagg : (∃ cs, v = .agg cs) → Rep (k0 w) (.agg avs) v := by
    rintro ⟨cs, rfl⟩
    have h3 : (Value.agg cs).cells = cs := rfl
    rw [h3] at h2
    exact .agg (by simpa using h2.1) (fun j u hu => by
      have hj : j < avs.length := by rw [← h2.1]; simpa using (Array.getElem?_eq_some_iff.1 hu).1
      exact (h2.2 j _ u (List.getElem?_eq_getElem hj) (by simpa using hu)).1) (fun j a u ha hu => (h2.2 j a u ha (by simpa using hu)).2)
  have hone : v.cells.toList = [v] → Rep (k0 w) (avs.headD (.tup [])) v := fun h3 => by
    rw [h3] at h2
    obtain ⟨h4, h5⟩ := h2
    match avs, h4 with
    | [a], _ => exact (h5 0 a v rfl rfl).2
  cases n with
  | zero => cases hp
  | succ n =>
    unfold plainT at hp
    unfold argAV
    split at hp
    · rename_i ht
      rw [ht]
      simp only [Value.okWide, ht, Cell.okWide, Cell.ok] at hv
      exact hone (by cases v <;> first | rfl | (simp at hv))
    · rename_i kk ht
      rw [ht]
      simp only [Value.okWide, ht, Cell.okWide, Cell.ok] at hv
      exact hone (by cases v <;> first | rfl | (simp at hv))
    · rename_i ht
      rw [ht]
      simp only [Value.okWide, ht, Cell.okWide, Cell.ok] at hv
      exact hone (by cases v <;> first | rfl | (simp at hv))
    · rename_i e ht; rw [ht]; obtain ⟨a, l, c, rfl⟩ := Go.WideShapes.okWide_slice ht hv; exact hone rfl
    · rename_i fs ht; rw [ht]; obtain ⟨cs, rfl, _⟩ := Go.WideShapes.okWide_struct ht hv; exact hagg ⟨cs, rfl⟩
    · rename_i m e ht
      rw [ht]
      have : ∃ cs, v = .agg cs := by
        simp only [Value.okWide, ht] at hv
        obtain ⟨cs, h1, _⟩ := hv
        exact ⟨cs, h1⟩
      exact hagg this
    · cases hp
theorem list_of {α β : Type} {g : α → β} {Q : α → Prop} : ∀ (l : List β), (∀ b ∈ l, ∃ x, b = g x ∧ Q x) → ∃ xs : List α, l = xs.map g ∧ ∀ x ∈ xs, Q x
  | [], _ => ⟨[], rfl, fun x h => by cases h⟩
  | b :: l, h => by
    obtain ⟨x, rfl, hq⟩ := h b (.head _)
    obtain ⟨xs, rfl, h2⟩ := list_of l (fun c hc => h c (.tail _ hc))
    exact ⟨x :: xs, rfl, fun y hy => by
      rcases List.mem_cons.1 hy with rfl | hy
      · exact hq
      · exact h2 y hy⟩
end
end Go.Proofs.Ytbpoeggmpjepfaa.Ab

/- Bytes that came in, opened. -/
set_option linter.unusedVariables false
set_option linter.unusedSimpArgs false
set_option maxRecDepth 20000
namespace Go.Proofs.Ytbpoeggmpjepfaa.Ab
open Go Go.RowKit
theorem open_bytes {P : Program} {n : Nat} {t e : TypeId} {avs : List AV} (ht : P.underlying t = some (.slice e)) (he : P.underlying e = some (.int .u8)) (hc : P.cellsOf e = 1) (h : isAV P (n + 2) t avs) : ∃ l : List UInt8, avs = [.sl none false 1 (bys l)] ∧ l.length ≤ maxLen := by
  simp only [isAV, ht, he, hc] at h
  obtain ⟨els, rfl, hl, h⟩ := h
  obtain ⟨xs, rfl, _⟩ := list_of (g := fun b : UInt8 => [AV.v (.int .u8 b.toNat)]) (Q := fun _ => True) els (fun el hel => by
    obtain ⟨_, m, rfl, hm⟩ := h el hel
    obtain ⟨h0, h1⟩ := wf_u8 hm
    refine ⟨UInt8.ofNat m.toNat, ?_, trivial⟩
    have : (UInt8.ofNat m.toNat).toNat = m.toNat := by simp; omega
    simp only [this, List.cons.injEq, AV.v.injEq, Value.int.injEq, true_and, and_true]
    omega)
  exact ⟨xs, rfl, by simpa using hl⟩
end Go.Proofs.Ytbpoeggmpjepfaa.Ab

/- Values: what two of them are asked; how they are made. -/
set_option linter.unusedVariables false
set_option linter.unusedSimpArgs false
set_option maxRecDepth 20000
namespace Go.Proofs.Ytbpoeggmpjepfaa.Ab
open Go
attribute [local irreducible] thn inb endR CJ LJ OpJ DJ

theorem St.le_set2' {σ : St} {a b : Nat} {x y : AObj} (ha : σ a = none) (hb : (σ.set a x) b = none) : σ.le ((σ.set a x).set b y) := St.le_trans (St.le_set _ ha) (St.le_set _ hb)
abbrev vv (k n : Int) (s : ByteArray) : AV := .agg [.v (.int .u8 k), .v (.int .i64 n), .v (.string s)]
def sameV (k n : Int) (s : ByteArray) (k' n' : Int) (s' : ByteArray) : Bool := decide (k = k') && (decide (n = n') && (decide (s = s') && true))
def holdsV (p k n : Int) (s : ByteArray) (k' n' : Int) (s' : ByteArray) : Bool :=
  if p = 0 then sameV k n s k' n' s' else if p = 1 then !sameV k n s k' n' s' else if k ≠ 1 ∨ k' ≠ 1 then false else
  if p = 2 then decide (n < n') else if p = 3 then decide (n ≤ n') else if p = 4 then decide (n' < n) else if p = 5 then decide (n' ≤ n) else false
theorem guard_vv : Try.prog.eqGuardType Try.prog.depth 110 = false := by kernel_rfl
theorem eq_vv (k n : Int) (s : ByteArray) (k' n' : Int) (s' : ByteArray) : eqV Try.prog 5 110 (vv k n s) (vv k' n' s') = some (sameV k n s k' n' s') := by rfl
def signS (p : Int) : ByteArray := if p = 0 then ⟨#[61]⟩ else if p = 1 then ⟨#[60, 62]⟩ else if p = 2 then ⟨#[60]⟩ else if p = 3 then ⟨#[60, 61]⟩ else if p = 4 then ⟨#[62]⟩ else if p = 5 then ⟨#[62, 61]⟩ else ⟨#[]⟩
end Go.Proofs.Ytbpoeggmpjepfaa.Ab

/- Classes and facts: data, and what is found. -/
set_option linter.unusedVariables false
set_option linter.unusedSimpArgs false
set_option maxRecDepth 20000
namespace Go.Proofs.Ytbpoeggmpjepfaa.Ab
open Go
attribute [local irreducible] thn inb endR CJ LJ OpJ DJ

def noS : ByteArray := ⟨#[]⟩
def noC : Cls := ⟨⟨#[]⟩, []⟩
def noV : Vl := ⟨0, 0, ⟨#[]⟩⟩
def isC (nm : ByteArray) (c : Cls) : Bool := decide (c.name = nm)
def isS (nm : ByteArray) (s : ByteArray) : Bool := decide (s = nm)
def isB (nm : ByteArray) (b : Bd) : Bool := decide (b.name = nm)
def findC (nm : ByteArray) (l : List Cls) : Option Cls := l.find? (isC nm)
def attrI (nm : ByteArray) (l : List ByteArray) : Int := idxG (isS nm) l 0
def attrN (nm : ByteArray) (l : List ByteArray) : Int := if attrI nm l < 0 then 0 else attrI nm l
def attrB (nm : ByteArray) (l : List ByteArray) : Bool := decide (0 ≤ attrI nm l)
end Go.Proofs.Ytbpoeggmpjepfaa.Ab

/- Classes, facts and what changes them, that came in, opened. -/
set_option linter.unusedVariables false
set_option linter.unusedSimpArgs false
set_option maxRecDepth 20000
namespace Go.Proofs.Ytbpoeggmpjepfaa.Ab
open Go Go.RowKit
theorem open_list {P : Program} {n : Nat} {t e : TypeId} {sz : Nat} {avs : List AV} {α : Type} (g : α → List AV) (Q : α → Prop) (ht : P.underlying t = some (.slice e)) (hc : P.cellsOf e = sz) (h : isAV P (n + 1) t avs) (he : ∀ el, isAV P n e el → ∃ x, el = g x ∧ Q x) : ∃ l : List α, avs = [.sl none false sz (l.map g)] ∧ (∀ x ∈ l, Q x) ∧ l.length ≤ maxLen := by
  simp only [isAV, ht, hc] at h
  obtain ⟨els, rfl, hl, h⟩ := h
  obtain ⟨xs, rfl, hq⟩ := list_of (g := g) (Q := Q) els (fun el hel => he el (h el hel).2)
  exact ⟨xs, rfl, hq, by simpa using hl⟩
theorem open_v {n : Nat} {avs : List AV} (h : isAV Try.prog (n + 2) 110 avs) : ∃ v : Vl, avs = vc v ∧ (0 ≤ v.k ∧ v.k < 256) ∧ (-9223372036854775808 ≤ v.n ∧ v.n < 9223372036854775808) := by
  obtain ⟨a, r1, rfl, _, ⟨k, rfl, hk⟩, b, r2, rfl, _, ⟨m, rfl, hm⟩, c, r3, rfl, _, ⟨s, rfl, hs⟩, rfl⟩ := h
  exact ⟨⟨k, m, s⟩, rfl, wf_u8 hk, wf_i64 hm⟩
theorem open_s {n : Nat} {avs : List AV} (h : isAV Try.prog (n + 1) 9 avs) : ∃ s : ByteArray, avs = str1 s ∧ True := by
  obtain ⟨s, rfl, _⟩ : ∃ s, avs = [AV.v (.string s)] ∧ s.size ≤ maxLen := h
  exact ⟨s, rfl, trivial⟩
theorem open_c {n : Nat} {avs : List AV} (h : isAV Try.prog (n + 3) 70 avs) : ∃ c : Cls, avs = cc c ∧ True := by
  obtain ⟨a, r1, rfl, _, ⟨s, rfl, _⟩, b, r2, rfl, _, hb, rfl⟩ := h
  obtain ⟨l, rfl, _, _⟩ := open_list (e := 9) (sz := 1) str1 (fun _ => True) (by kernel_rfl) (by kernel_rfl) hb (fun el hel => open_s hel)
  exact ⟨⟨s, l⟩, rfl, trivial⟩
theorem open_cs {n : Nat} {avs : List AV} (h : isAV Try.prog (n + 4) 22 avs) : ∃ l : List Cls, avs = [.sl none false 2 (l.map cc)] := by
  obtain ⟨l, rfl, _⟩ := open_list (e := 70) (sz := 2) cc (fun _ => True) (by kernel_rfl) (by kernel_rfl) h (fun el hel => open_c hel)
  exact ⟨l, rfl⟩
end Go.Proofs.Ytbpoeggmpjepfaa.Ab

/- Instantiations and entries that came in, opened. -/
set_option linter.unusedVariables false
set_option linter.unusedSimpArgs false
set_option maxRecDepth 20000
namespace Go.Proofs.Ytbpoeggmpjepfaa.Ab
open Go Go.RowKit
theorem o7_tst {n : Nat} {avs : List AV} (h : isAV Try.prog (n + 3) 112 avs) : ∃ t : Tst, avs = tc t ∧ (0 ≤ t.p ∧ t.p < 256) := by
  obtain ⟨a, r1, rfl, _, ⟨m, rfl, hm⟩, b, r2, rfl, _, ⟨s, rfl, _⟩, c, r3, rfl, _, hc, rfl⟩ := h
  obtain ⟨v, rfl, hk, _⟩ := open_v hc
  exact ⟨⟨m, s, v⟩, rfl, wf_u8 hm⟩
theorem o7_atr {n : Nat} {avs : List AV} (h : isAV Try.prog (n + 5) 84 avs) : ∃ a : Atr, avs = ac a ∧ True := by
  obtain ⟨a, r1, rfl, _, ⟨s, rfl, _⟩, b, r2, rfl, _, hb, c, r3, rfl, _, hc, rfl⟩ := h
  obtain ⟨o, rfl, _⟩ := open_list (e := 110) (sz := 3) vc (fun v => True) (by kernel_rfl) (by kernel_rfl) hb (fun el hel => by obtain ⟨v, h, _⟩ := open_v hel; exact ⟨v, h, trivial⟩)
  obtain ⟨t, rfl, _⟩ := open_list (e := 112) (sz := 5) tc (fun v => True) (by kernel_rfl) (by kernel_rfl) hc (fun el hel => by obtain ⟨v, h, _⟩ := o7_tst hel; exact ⟨v, h, trivial⟩)
  exact ⟨⟨s, o, t⟩, rfl, trivial⟩
theorem o7_cnd {n : Nat} {avs : List AV} (h : isAV Try.prog (n + 7) 65 avs) : ∃ c : Cnd, avs = dc c ∧ True := by
  obtain ⟨a, r1, rfl, _, ⟨b, rfl⟩, b, r2, rfl, _, ⟨s, rfl, _⟩, c, r3, rfl, _, hc, rfl⟩ := h
  obtain ⟨l, rfl, _⟩ := open_list (e := 84) (sz := 3) ac (fun v => True) (by kernel_rfl) (by kernel_rfl) hc (fun el hel => o7_atr hel)
  exact ⟨⟨_, s, l⟩, rfl, trivial⟩
theorem o7_itm {n : Nat} {avs : List AV} (h : isAV Try.prog (n + 3) 114 avs) : ∃ x : Itm, avs = itc x ∧ True := by
  obtain ⟨a, r1, rfl, _, ⟨k, rfl, hk⟩, b, r2, rfl, _, hb, c, r3, rfl, _, ⟨s, rfl, _⟩, rfl⟩ := h
  obtain ⟨v, rfl, _, _⟩ := open_v hb
  exact ⟨⟨k, v, s⟩, rfl, trivial⟩
theorem o7_itl {n : Nat} {avs : List AV} (h : isAV Try.prog (n + 4) 90 avs) : ∃ l : List Itm, avs = itl l ∧ True := by
  obtain ⟨l, rfl, _⟩ := open_list (e := 114) (sz := 5) itc (fun _ => True) (by kernel_rfl) (by kernel_rfl) h (fun el hel => o7_itm hel)
  exact ⟨l, rfl, trivial⟩
theorem o7_sgl {n : Nat} {avs : List AV} (h : isAV Try.prog (n + 5) 92 avs) : ∃ s : Sgl, avs = sgc s ∧ True := by
  obtain ⟨a, r1, rfl, _, ⟨s, rfl, _⟩, b, r2, rfl, _, hb, rfl⟩ := h
  obtain ⟨l, rfl, _⟩ := o7_itl hb
  exact ⟨⟨s, l⟩, rfl, trivial⟩
theorem o7_acn {n : Nat} {avs : List AV} (h : isAV Try.prog (n + 7) 89 avs) : ∃ a : Acn, avs = anc a ∧ True := by
  obtain ⟨a, r1, rfl, _, ⟨k, rfl, hk⟩, b, r2, rfl, _, ⟨s, rfl, _⟩, c, r3, rfl, _, ⟨m, rfl, hm⟩, d, r4, rfl, _, ⟨v, rfl, _⟩, e, r5, rfl, _, he, f, r6, rfl, _, hf, rfl⟩ := h
  obtain ⟨ss, rfl, _⟩ := open_list (e := 92) (sz := 2) sgc (fun _ => True) (by kernel_rfl) (by kernel_rfl) he (fun el hel => o7_sgl hel)
  obtain ⟨es, rfl, _⟩ := open_list (e := 90) (sz := 1) itl (fun _ => True) (by kernel_rfl) (by kernel_rfl) hf (fun el hel => o7_itl hel)
  exact ⟨⟨k, s, m, v, ss, es⟩, rfl, trivial⟩
theorem o7_rul {n : Nat} {avs : List AV} (h : isAV Try.prog (n + 9) 45 avs) : ∃ r : Rul, avs = ruc r ∧ True := by
  obtain ⟨a, r1, rfl, _, ⟨s, rfl, _⟩, b, r2, rfl, _, hb, c, r3, rfl, _, hc, rfl⟩ := h
  obtain ⟨cs, rfl, hcs, _⟩ := open_list (e := 65) (sz := 3) dc (fun _ => True) (by kernel_rfl) (by kernel_rfl) hb (fun el hel => o7_cnd hel)
  obtain ⟨ns, rfl, _⟩ := open_list (e := 89) (sz := 6) anc (fun _ => True) (by kernel_rfl) (by kernel_rfl) hc (fun el hel => o7_acn hel)
  exact ⟨⟨s, cs, ns⟩, rfl, trivial⟩
theorem o7_prg {n : Nat} {avs : List AV} (h : isAV Try.prog (n + 11) 25 avs) : ∃ p : Prg, avs = pgc p ∧ True := by
  obtain ⟨a, r1, rfl, _, ha, b, r2, rfl, _, hb, rfl⟩ := h
  obtain ⟨cs, rfl, _⟩ := open_list (e := 70) (sz := 2) cc (fun _ => True) (by kernel_rfl) (by kernel_rfl) ha (fun el hel => open_c hel)
  obtain ⟨rs, rfl, hrs, _⟩ := open_list (e := 45) (sz := 3) ruc (fun _ => True) (by kernel_rfl) (by kernel_rfl) hb (fun el hel => o7_rul hel)
  exact ⟨⟨cs, rs⟩, rfl, trivial⟩
theorem open_i1 {n : Nat} {avs : List AV} (h : isAV Try.prog (n + 1) 3 avs) : ∃ m : Int, avs = int1 m ∧ True := by
  obtain ⟨m, rfl, _⟩ : ∃ m, avs = [AV.v (.int .i64 m)] ∧ (Lit.int .i64 m).wf = true := h
  exact ⟨m, rfl, trivial⟩
theorem open_u8 {n : Nat} {avs : List AV} (h : isAV Try.prog (n + 1) 5 avs) : ∃ m : Int, avs = [.v (.int .u8 m)] ∧ 0 ≤ m ∧ m < 256 := by
  obtain ⟨m, rfl, hm⟩ : ∃ m, avs = [AV.v (.int .u8 m)] ∧ (Lit.int .u8 m).wf = true := h
  exact ⟨m, rfl, wf_u8 hm⟩
theorem open_ins {n : Nat} {avs : List AV} (h : isAV Try.prog (n + 3) 32 avs) : ∃ x : Ins, avs = inc x ∧ True := by
  obtain ⟨a, r1, rfl, _, ⟨m, rfl, _⟩, b, r2, rfl, _, hb, rfl⟩ := h
  obtain ⟨l, rfl, _⟩ := open_list (e := 3) (sz := 1) int1 (fun _ => True) (by kernel_rfl) (by kernel_rfl) hb (fun el hel => open_i1 hel)
  exact ⟨⟨m, l⟩, rfl, trivial⟩
theorem open_insl {n : Nat} {avs : List AV} (h : isAV Try.prog (n + 4) 26 avs) : ∃ l : List Ins, avs = [.sl none false 2 (l.map inc)] := by
  obtain ⟨l, rfl, _⟩ := open_list (e := 32) (sz := 2) inc (fun _ => True) (by kernel_rfl) (by kernel_rfl) h (fun el hel => open_ins hel)
  exact ⟨l, rfl⟩
theorem open_ent {n : Nat} {avs : List AV} (h : isAV Try.prog (n + 4) 38 avs) : ∃ e : Ent, avs = enc e ∧ True := by
  obtain ⟨a, r1, rfl, _, ha, b, r2, rfl, _, ⟨f, rfl⟩, rfl⟩ := h
  obtain ⟨x, rfl, _⟩ := open_ins ha
  exact ⟨⟨x, _⟩, rfl, trivial⟩
theorem open_entl {n : Nat} {avs : List AV} (h : isAV Try.prog (n + 5) 36 avs) : ∃ l : List Ent, avs = [.sl none false 3 (l.map enc)] := by
  obtain ⟨l, rfl, _⟩ := open_list (e := 38) (sz := 3) enc (fun _ => True) (by kernel_rfl) (by kernel_rfl) h (fun el hel => open_ent hel)
  exact ⟨l, rfl⟩
end Go.Proofs.Ytbpoeggmpjepfaa.Ab
