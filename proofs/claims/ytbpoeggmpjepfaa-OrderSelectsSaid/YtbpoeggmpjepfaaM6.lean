/- The texts W2, W3, W4, W5, W6, AbLy, AbLz, W7, one behind the other. -/
import Derived.Test.YtbpoeggmpjepfaaM1
import Derived.Test.YtbpoeggmpjepfaaM2
import Derived.Test.YtbpoeggmpjepfaaM3
import Derived.Test.YtbpoeggmpjepfaaM4
import Derived.Test.YtbpoeggmpjepfaaM5
import Derived.Test.YtbpoeggmpjepfaaProg
/- Tags above nothing. -/
set_option linter.unusedVariables false
set_option linter.unusedSimpArgs false
set_option maxRecDepth 20000
namespace Go.Proofs.Ytbpoeggmpjepfaa.Ab
open Go
attribute [local irreducible] thn inb endR CJ LJ OpJ DJ DA DB AllocK

abbrev int1 (n : Int) : List AV := [.v (.int .i64 n)]
def keepI (t : Int) : Bool := decide (0 < t)
def delI (t : Int) : Bool := !keepI t
theorem q_clonei (nl : Option Bool) (full : Bool) (l : List Int) (hl : l.length ≤ 65536) (σ : St) : ACalls Try.prog 33 [.sl nl full 1 (l.map int1)] σ (fun e σ' => ∃ id, σ id = none ∧ e = .ret (.osl id 1 0 l.length) ∧ σ' = σ.set id (.row 1 3 (l.map int1))) := by
  refine enter Try.func33 rfl rfl rfl rfl ?_
  have hn : (l.map int1).length = l.length := List.length_map ..
  repeat (first|(refine jl ?_;first|refine j1 ?_|refine j4 ?_)|(refine jc ?_;first|refine c1 ?_|refine c2 ?_))
  refine lj_v_any rfl (fun R hR => opj_isnil_sl rfl rfl rfl rfl hR) (fun b hb => ?_)
  cases b
  · repeat (first|(refine jl ?_;first|refine j4 ?_)|(refine jc ?_;first|refine c1 ?_|refine c2 ?_|refine c4 ?_|refine c6 ?_)|refine n1 ?_)
    refine jlito (fun a ha => ?_)
    repeat (first|(refine jl ?_;first|refine j1 ?_))
    refine japo (id := a) (els := []) (n := 0) (m := l.length) (news := l.map int1) (all := l.map int1) (fun w' hw' => ?_) rfl (by omega) (hn := Nat.zero_le _) (hb := by omega)
    rw [St.del_set ha]
    repeat (first|(refine jl ?_;first|refine j1 ?_|refine j4 ?_)|(refine jc ?_;first|refine c7 ?_)|refine n11 ?_)
    exact ⟨w', St.ns1 hw', rfl, rfl⟩
  · have h0 : l = [] := List.map_eq_nil_iff.1 (hb rfl)
    subst h0
    (first|(refine jl ?_;first|refine j4 ?_))
    (first|(refine jc ?_;first|refine c3 ?_))
    (first|(refine jc ?_;first|refine c1 ?_))
    (first|(refine jc ?_;first|refine c2 ?_))
    (first|(refine jl ?_;first|refine j1 ?_))
    (first|(refine jl ?_;first|refine j4 ?_))
    refine cj_ghost (ghost_nil (t := 2) 1 3 rfl (fun w hw => ?_))
    repeat (first|(refine jc ?_;first|refine c7 ?_)|refine n2 ?_|refine n11 ?_)
    exact ⟨w, hw, rfl, rfl⟩
theorem p_deli (x : Int) : Pure Try.prog 34 [.v (.int .i64 x)] (.v (.bool (delI x))) := by
  refine enterW Try.func34 rfl rfl rfl rfl (fun σ => ?_)
  repeat (first|(refine jl ?_;first|refine j1 ?_|refine j4 ?_)|(refine jc ?_;first|refine c1 ?_|refine c2 ?_|refine c7 ?_)|refine n11 ?_)
  refine gives (St.le_refl _) (fin_one (.wk (Wk.of_eq ?_)))
  unfold delI keepI
  by_cases hx : x ≤ 0
  · rw [decide_eq_true hx, decide_eq_false (by omega)]; rfl
  · rw [decide_eq_false hx, decide_eq_true (by omega)]; rfl
theorem p_index_ints (nl : Option Bool) (full : Bool) (l : List Int) : Pure Try.prog 47 [.sl nl full 1 (l.map int1), .fn 34 []] (.v (.int .i64 (idxG delI l 0))) := by
  refine enterW Try.func47 rfl rfl rfl rfl (fun σ => ?_)
  refine cj_len 0 (fun hm => ?_)
  have hn : (l.map int1).length = l.length := List.length_map ..
  repeat (first|(refine jl ?_;first|refine j1 ?_|refine j4 ?_)|(refine jc ?_;first|refine c1 ?_|refine c2 ?_|refine c5 ?_))
  refine cj_fors (fun i : Nat => idxG delI (l.drop i) i = idxG delI l 0) (fun i => [(8, .v (.int .i64 i))]) (fun i => l.length - i) 0 rfl ⟨⟨_, rfl, fun _ _ h => h⟩, trivial⟩ (fun i hi => ?_)
  rcases hd : l.drop i with _ | ⟨x, r⟩
  · have h0 := dropn hd
    rw [hd, idxG] at hi
    repeat' (first|(first|(refine jl ?_;first|refine j1 ?_|refine j4 ?_)|(refine jc ?_;first|refine c1 ?_|refine c2 ?_|refine c7 ?_|refine c8 ?_)|refine n1 ?_|refine n3 ?_|refine n7 ?_|refine n8 ?_|refine n11 ?_)|(refine c9 (fun h=>?_) (fun h=>?_)<;>((try simp only [Bool.or_eq_true, Bool.and_eq_true, Bool.or_eq_false_iff, Bool.and_eq_false_iff, Bool.not_eq_true', Bool.not_eq_false', decide_eq_true_eq, decide_eq_false_iff_not, Bool.false_eq_true, Bool.true_eq_false, reduceCtorEq] at h) <;> (try simp (disch := omega) only [sb_bt, w64, Int.reduceAdd, Int.reduceToNat, Int.toNat_natCast, not_true_eq_false, false_or] at h) <;> (try (exfalso; omega)))))
    rw [← hi]
    exact ge rfl
  · obtain ⟨h1, h2, h3⟩ := dropc hd
    have h4 := get_map int1 h3
    rw [hd, idxG] at hi
    repeat' (first|(first|(refine jl ?_;first|refine jbl ?_|refine j1 ?_|refine j4 ?_|refine j6 ?_|refine ji1 ?_|refine jcl (p_deli x) ?_)|(refine jc ?_;first|refine c1 ?_|refine c2 ?_|refine c5 ?_|refine c6 ?_|refine c7 ?_)|refine n1 ?_|refine n2 ?_|refine n5 ?_|refine n6 ?_|refine n10 ?_|refine n11 ?_)|(refine c9 (fun h=>?_) (fun h=>?_)<;>((try simp only [Bool.or_eq_true, Bool.and_eq_true, Bool.or_eq_false_iff, Bool.and_eq_false_iff, Bool.not_eq_true', Bool.not_eq_false', decide_eq_true_eq, decide_eq_false_iff_not, Bool.false_eq_true, Bool.true_eq_false, reduceCtorEq] at h) <;> (try simp (disch := omega) only [sb_bt, w64, Int.reduceAdd, Int.reduceToNat, Int.toNat_natCast, not_true_eq_false, false_or] at h) <;> (try (exfalso; omega)))))
    · rw [if_pos h] at hi
      rw [← hi]
      exact ge rfl
    · rw [if_neg (by rw [h]; simp), ← h2] at hi
      exact nx_for (i + 1) hi (by omega) ⟨⟨_, rfl, wk1 (by omega)⟩, trivial⟩
theorem idxG_firstI {α : Type} (g : α → Bool) : ∀ (l : List α) (i : Nat), 0 ≤ idxG g l i → ∃ j x, idxG g l i = ((i + j : Nat) : Int) ∧ l[j]? = some x ∧ g x = true ∧ ∀ y ∈ l.take j, g y = false
  | [], i, h => by simp [idxG] at h
  | x :: r, i, h => by
    unfold idxG at h ⊢
    by_cases hx : g x = true
    · exact ⟨0, x, by rw [if_pos hx]; rfl, rfl, hx, by simp⟩
    · rw [if_neg hx] at h ⊢
      obtain ⟨j, y, h1, h2, h3, h4⟩ := idxG_firstI g r (i + 1) h
      refine ⟨j + 1, y, by rw [h1]; congr 1; omega, by simpa using h2, h3, fun z hz => ?_⟩
      rw [List.take_succ_cons] at hz
      rcases List.mem_cons.1 hz with rfl | hz
      · exact Bool.not_eq_true _ ▸ hx
      · exact h4 z hz
theorem idxG_negI {α : Type} (g : α → Bool) : ∀ (l : List α) (i : Nat), idxG g l i < 0 → idxG g l i = -1
  | [], i, h => rfl
  | x :: r, i, h => by
    unfold idxG at h ⊢
    by_cases hx : g x = true
    · rw [if_pos hx] at h; omega
    · rw [if_neg hx] at h ⊢
      exact idxG_negI g r (i + 1) h
def keptI (l : List Int) (j : Nat) : Nat := ((l.take j).filter keepI).length
theorem keptI_le (l : List Int) (j : Nat) : keptI l j ≤ j := Nat.le_trans (List.length_filter_le _ _) (by rw [List.length_take]; omega)
theorem keptI_succ {l : List Int} {j : Nat} {x : Int} (h : l[j]? = some x) : keptI l (j + 1) = keptI l j + (if keepI x = true then 1 else 0) := by
  unfold keptI
  rw [List.take_add_one, h, List.filter_append, List.length_append]
  by_cases hx : keepI x = true <;> simp [hx]
structure DlI (l C : List Int) (j : Nat) : Prop where
  len : C.length = l.length
  hj : j ≤ l.length
  lt : keptI l j < j
  tk : C.take (keptI l j) = (l.take j).filter keepI
  dr : C.drop j = l.drop j
theorem DlI.skip {l C : List Int} {j : Nat} {x : Int} (h : DlI l C j) (hx : l[j]? = some x) (hk : keepI x = false) : DlI l C (j + 1) ∧ keptI l (j + 1) = keptI l j := by
  have e := keptI_succ hx
  rw [hk] at e
  have e : keptI l (j + 1) = keptI l j := by simpa using e
  have hj := (List.getElem?_eq_some_iff.1 hx).1
  refine ⟨⟨h.len, by omega, by rw [e]; have := h.lt; omega, ?_, ?_⟩, e⟩
  · rw [e, h.tk, List.take_add_one, hx, List.filter_append]
    simp [hk]
  · rw [← List.drop_drop, h.dr, List.drop_drop]
theorem DlI.keep {l C : List Int} {j : Nat} {x : Int} (h : DlI l C j) (hx : l[j]? = some x) (hk : keepI x = true) : DlI l (C.set (keptI l j) x) (j + 1) ∧ keptI l (j + 1) = keptI l j + 1 := by
  have e := keptI_succ hx
  rw [hk] at e
  have e : keptI l (j + 1) = keptI l j + 1 := by simpa using e
  have hj := (List.getElem?_eq_some_iff.1 hx).1
  have hlt := h.lt
  have hcl := h.len
  refine ⟨⟨by rw [List.length_set]; exact h.len, by omega, by omega, ?_, ?_⟩, e⟩
  · rw [e, List.take_add_one, List.getElem?_set_self (by omega), List.take_set_of_le (Nat.le_refl _), h.tk, List.take_add_one, hx, List.filter_append]
    simp [hk]
  · rw [List.drop_set_of_lt (by omega), ← List.drop_drop, h.dr, List.drop_drop]
theorem q_deletei {σ : St} {id : Nat} {l : List Int} (hid : σ id = some (.row 1 3 (l.map int1))) (hl : l.length ≤ 65536) : ACalls Try.prog 32 [.osl id 1 0 l.length, .fn 34 []] σ (fun e σ' => e = .ret (.osl id 1 0 (l.filter keepI).length) ∧ σ' = σ.set id (.row 1 3 ((l.filter keepI).map int1))) := by
  refine acalls_gives ?_
  refine enter Try.func32 rfl rfl rfl rfl ?_
  have h5 := idxG_lt delI l 0
  have h6 := idxG_firstI delI l 0
  have k1 : ACalls Try.prog 47 [.osl id 1 0 l.length, .fn 34 []] σ (fun e σ' => e = .ret (.v (.int .i64 (idxG delI l 0))) ∧ σ' = σ) :=
    (p_index_ints none false l).lend (indep_v _) ⟨fin_fz hid rfl (by rw [List.length_map]) rfl (fun _ => rfl), Fin.refl _ _ _, trivial⟩
  repeat' (first|(first|(refine jl ?_;first|refine j1 ?_|refine j4 ?_|refine lj_to rfl rfl rfl k1 ?_)|(refine jc ?_;first|refine c1 ?_|refine c2 ?_|refine c5 ?_|refine c6 ?_|refine c7 ?_)|refine n1 ?_|refine n2 ?_|refine n11 ?_)|(refine c9 (fun h=>?_) (fun h=>?_)<;>(try simp only [Bool.or_eq_true, Bool.and_eq_true, Bool.or_eq_false_iff, Bool.and_eq_false_iff, Bool.not_eq_true', Bool.not_eq_false', decide_eq_true_eq, decide_eq_false_iff_not, Bool.false_eq_true, Bool.true_eq_false, reduceCtorEq] at h)))
  · have h7 := h5.1 (by omega)
    have hk : l.filter keepI = l := List.filter_eq_self.2 fun x hx => by have := h7 x hx; simpa [delI] using this
    rw [hk]
    exact ge rfl (St.le_setk (St.le_refl _) hid)
  · have h0 : 0 ≤ idxG delI l 0 := by
      by_cases h0 : 0 ≤ idxG delI l 0
      · exact h0
      · exact absurd (idxG_negI _ _ _ (by omega)) h
    obtain ⟨j0, x0, e1, e2, e3, e4⟩ := h6 h0
    rw [Nat.zero_add] at e1
    have hj0 := (List.getElem?_eq_some_iff.1 e2).1
    have hN0 : keptI l j0 = j0 := by
      have : (l.take j0).filter keepI = l.take j0 := List.filter_eq_self.2 fun x hx => by have := e4 x hx; simpa [delI] using this
      rw [keptI, this, List.length_take]; omega
    have hx0 : keepI x0 = false := by simpa [delI] using e3
    have hN1 : keptI l (j0 + 1) = j0 := by rw [keptI_succ e2, hx0, hN0]; rfl
    have hI0 : DlI l l (j0 + 1) := ⟨rfl, by omega, by omega, by rw [hN1, List.take_add_one, e2, List.filter_append]; simp [hx0]; exact (List.filter_eq_self.2 fun x hx => by have := e4 x hx; simpa [delI] using this).symm, rfl⟩
    rw [e1]
    clear h5 h6 k1 h
    refine cj_forr (fun s : Nat × List Int => DlI l s.2 s.1) (fun s => [(6, .v (.int .i64 s.1)), (5, .v (.int .i64 (keptI l s.1 : Nat)))]) (fun s => l.length - s.1) (j0 + 1, l) id (fun s => .row 1 3 (s.2.map int1)) hid hI0 ⟨⟨_, rfl, wk1 (by omega)⟩, ⟨_, rfl, Wk.of_eq (by dsimp only; rw [hN1])⟩, trivial⟩ (fun s hs => ?_)
    obtain ⟨j, C⟩ := s
    dsimp only at hs ⊢
    have hn := hs.len
    have hcl : (C.map int1).length = C.length := List.length_map ..
    rcases hd : l.drop j with _ | ⟨x, r⟩
    · have hjl := dropn hd
      have hjl2 : j = l.length := by have := hs.hj; omega
      subst hjl2
      have hlt := hs.lt
      have htk := hs.tk
      rw [List.take_length] at htk
      have hkn : keptI l l.length = (l.filter keepI).length := by rw [keptI, List.take_length]
      repeat' (first|(first|(refine jl ?_;first|refine j1 ?_|refine j4 ?_)|(refine jc ?_;first|refine c1 ?_|refine c2 ?_|refine c8 ?_)|refine n1 ?_|refine n3 ?_|refine n7 ?_|refine n8 ?_)|(refine c9 (fun h=>?_) (fun h=>?_)<;>((try simp only [Bool.or_eq_true, Bool.and_eq_true, Bool.or_eq_false_iff, Bool.and_eq_false_iff, Bool.not_eq_true', Bool.not_eq_false', decide_eq_true_eq, decide_eq_false_iff_not, Bool.false_eq_true, Bool.true_eq_false, reduceCtorEq] at h) <;> (try simp (disch := omega) only [sb_bt, w64, Int.reduceAdd, Int.reduceToNat, Int.toNat_natCast, not_true_eq_false, false_or] at h) <;> (try (exfalso; omega)))))
      refine jco (o2 := keptI l l.length) (n2 := l.length - keptI l l.length) ?_
      repeat (first|fail)
      refine jclr (off := keptI l l.length) (len := l.length - keptI l l.length) (els := C.map int1) (id := id) (all := (l.filter keepI).map int1) ?_ (by rw [← List.map_take, htk]) (by omega) (by omega)
      repeat (first|(refine jl ?_;first|refine j1 ?_|refine j4 ?_)|(refine jc ?_;first|refine c1 ?_|refine c2 ?_))
      refine jco (o2 := 0) (n2 := (l.filter keepI).length) ?_
      repeat (first|(refine jl ?_;first|refine j1 ?_|refine j4 ?_)|(refine jc ?_;first|refine c7 ?_)|refine n11 ?_)
      exact ge rfl (St.le_of_eq (St.set_set _ _ _ _).symm)
    · obtain ⟨f1, f2, f3⟩ := dropc hd
      have hCx : C[j]? = some x := by
        have := hs.dr
        rw [hd] at this
        exact (dropc this).2.2
      have h4 : (C.map int1)[0 + ((j : Nat) : Int).toNat]? = some (int1 x) := by rw [Nat.zero_add]; exact get_map int1 hCx
      have hlt := hs.lt
      obtain ⟨z, hz⟩ : ∃ z, C[keptI l j]? = some z := ⟨_, List.getElem?_eq_getElem (by omega)⟩
      have h5 : (C.map int1)[0 + ((keptI l j : Nat) : Int).toNat]? = some (int1 z) := by rw [Nat.zero_add]; exact get_map int1 hz
      have h6 : (C.map int1).set (0 + ((keptI l j : Nat) : Int).toNat) (int1 x) = (C.set (keptI l j) x).map int1 := by rw [List.map_set, Nat.zero_add]; rfl
      repeat' (first|(first|(refine jl ?_;first|refine j1 ?_|refine j4 ?_|refine j6 ?_|refine ji4 ?_|refine jcl (p_deli x) ?_|refine jle h4 ?_|refine jse h5 h6 ?_)|(refine jc ?_;first|refine c1 ?_|refine c2 ?_|refine c5 ?_|refine c6 ?_)|refine n1 ?_|refine n10 ?_)|(refine c9 (fun h=>?_) (fun h=>?_)<;>((try simp only [Bool.or_eq_true, Bool.and_eq_true, Bool.or_eq_false_iff, Bool.and_eq_false_iff, Bool.not_eq_true', Bool.not_eq_false', decide_eq_true_eq, decide_eq_false_iff_not, Bool.false_eq_true, Bool.true_eq_false, reduceCtorEq] at h) <;> (try simp (disch := omega) only [sb_bt, w64, Int.reduceAdd, Int.reduceToNat, Int.toNat_natCast, not_true_eq_false, false_or] at h) <;> (try (exfalso; omega)))))
      · have hk : keepI x = true := by simpa [delI] using h
        obtain ⟨g1, g2⟩ := hs.keep f3 hk
        refine nx_forr (j + 1, C.set (keptI l j) x) g1 (by dsimp only; omega) ⟨⟨_, rfl, wk1 (by omega)⟩, ⟨_, rfl, Wk.of_eq (by dsimp only; rw [g2, w64 (by omega) (by omega)]; rfl)⟩, trivial⟩ ?_
        dsimp only
        exact lkp
      · have hk : keepI x = false := by simpa [delI] using h
        obtain ⟨g1, g2⟩ := hs.skip f3 hk
        refine nx_forr (j + 1, C) g1 (by dsimp only; omega) ⟨⟨_, rfl, wk1 (by omega)⟩, ⟨_, rfl, Wk.of_eq (by dsimp only; rw [g2])⟩, trivial⟩ ?_
        dsimp only
        exact lkp
end Go.Proofs.Ytbpoeggmpjepfaa.Ab

/- Orders: plain laws of recency and of what comes ahead. -/
set_option linter.unusedVariables false
set_option linter.unusedSimpArgs false
set_option maxRecDepth 20000
namespace Go.Proofs.Ytbpoeggmpjepfaa.Ab
open Go
structure Ins where
  rule : Int
  tags : List Int
abbrev inc (x : Ins) : List AV := [.v (.int .i64 x.rule), .sl none false 1 (x.tags.map int1)]
def ltInt (a b : Int) : Bool := decide (a < b)
def recP (l : List Int) : List Int := srtB ltInt [] (l.filter keepI)
def insR (x : Int) : List Int → List Int
  | [] => [x]
  | y :: l => if x ≤ y then y :: insR x l else x :: y :: l
def recR : List Int → List Int → List Int
  | acc, [] => acc
  | acc, x :: l => recR (if 0 < x then insR x acc else acc) l
def fallI (l : List Int) : Prop := l.Pairwise (fun x y => y ≤ x)
theorem insR_top {x : Int} : ∀ {l : List Int}, (∀ y ∈ l, y ≤ x) → insR x l = insB ltInt x l
  | [], _ => rfl
  | y :: l, h => by
    have hy := h y (List.mem_cons_self ..)
    have ih := insR_top (x := x) (l := l) (fun z hz => h z (List.mem_cons_of_mem _ hz))
    unfold insR insB ltInt
    by_cases e : x ≤ y
    · obtain rfl : x = y := by omega
      rw [if_pos e, if_neg (by simp), ih]
      cases l with
      | nil => rfl
      | cons z l =>
        have hz := h z (List.mem_cons_of_mem _ (List.mem_cons_self ..))
        unfold insB ltInt
        rw [if_neg (by simp; omega)]
    · rw [if_neg e, if_neg (by simp; omega)]
theorem insR_eq {x : Int} : ∀ {l : List Int}, fallI l → insR x l = insB ltInt x l
  | [], _ => rfl
  | y :: l, h => by
    obtain ⟨h1, h2⟩ := List.pairwise_cons.1 h
    by_cases e : x < y
    · unfold insR insB ltInt
      rw [if_pos (by omega), if_pos (decide_eq_true e), insR_eq h2]
      rfl
    · refine insR_top fun z hz => ?_
      rcases List.mem_cons.1 hz with rfl | hz
      · omega
      · have := h1 z hz
        omega
theorem insB_fallI (x : Int) : ∀ l : List Int, fallI l → fallI (insB ltInt x l)
  | [], _ => List.pairwise_singleton _ _
  | y :: l, hl => by
    obtain ⟨h1, h2⟩ := List.pairwise_cons.1 hl
    unfold insB ltInt
    by_cases e : x < y
    · rw [if_pos (decide_eq_true e)]
      refine List.pairwise_cons.2 ⟨fun z hz => ?_, insB_fallI x l h2⟩
      rcases List.mem_cons.1 ((insB_perm _ x l).mem_iff.1 hz) with rfl | hz
      · omega
      · exact h1 z hz
    · rw [if_neg (by rw [decide_eq_false e]; simp)]
      refine List.pairwise_cons.2 ⟨fun z hz => ?_, hl⟩
      rcases List.mem_cons.1 hz with rfl | hz
      · omega
      · have := h1 z hz
        omega
theorem recR_eq : ∀ (l acc : List Int), fallI acc → recR acc l = srtB ltInt acc (l.filter keepI)
  | [], _, _ => rfl
  | x :: l, acc, h => by
    unfold recR
    by_cases e : 0 < x
    · rw [if_pos e, List.filter_cons, if_pos (show keepI x = true from decide_eq_true e), insR_eq h, recR_eq l _ (insB_fallI x acc h)]
      rfl
    · rw [if_neg e, List.filter_cons, if_neg (by rw [show keepI x = false from decide_eq_false e]; simp), recR_eq l acc h]
theorem recR_recP (l : List Int) : recR [] l = recP l := recR_eq l [] List.Pairwise.nil
theorem recP_len (l : List Int) : (recP l).length ≤ l.length := by
  have := (srtB_perm ltInt (l.filter keepI) []).length_eq
  rw [List.append_nil] at this
  unfold recP
  rw [this]
  exact List.length_filter_le _ _
/-! ### What comes ahead -/
def firstT (l : List Int) : Int := l.headD 0
/-- How two stand, by the program's own way. -/
def cmpX (st : Int → Int) (how : Int) : Ins → Ins → Int :=
  orC (fun a b => if how = 1 then cmpI (firstT b.tags) (firstT a.tags) else 0)
    (orC (fun a b => cmpL (recP b.tags) (recP a.tags)) (orC (fun a b => cmpI (st b.rule) (st a.rule)) (orC (fun a b => cmpI a.rule b.rule) (fun a b => cmpL a.tags b.tags))))
theorem Cmp.none {α : Type} : Cmp (fun (_ _ : α) => 0) := ⟨fun _ _ => rfl, fun _ _ _ _ => rfl, fun _ _ _ h _ => absurd h (by decide)⟩
theorem cmpX_cmp (st : Int → Int) (how : Int) : Cmp (cmpX st how) := by
  have h1 : Cmp (fun a b : Ins => cmpL (recP b.tags) (recP a.tags)) := Cmp.flip (Cmp.pull Cmp.L (fun x : Ins => recP x.tags))
  have h2 : Cmp (fun a b : Ins => cmpI (st b.rule) (st a.rule)) := Cmp.flip (Cmp.pull Cmp.I (fun x : Ins => st x.rule))
  have h3 : Cmp (fun a b : Ins => cmpI a.rule b.rule) := Cmp.pull Cmp.I (fun x : Ins => x.rule)
  have h4 : Cmp (fun a b : Ins => cmpL a.tags b.tags) := Cmp.pull Cmp.L (fun x : Ins => x.tags)
  have h0 : Cmp (fun a b : Ins => if how = 1 then cmpI (firstT b.tags) (firstT a.tags) else 0) := by
    by_cases h : how = 1
    · simp only [h, if_true]
      exact Cmp.flip (Cmp.pull Cmp.I (fun x : Ins => firstT x.tags))
    · simp only [h, if_false]
      exact Cmp.none
  exact Cmp.or h0 (Cmp.or h1 (Cmp.or h2 (Cmp.or h3 h4)))
theorem orC_zero {α : Type} {c1 c2 : α → α → Int} {a b : α} (h : orC c1 c2 a b = 0) : c2 a b = 0 := by
  unfold orC at h
  split at h
  · exact h
  · rename_i e; exact absurd h e
theorem orC_one {α : Type} {c1 c2 : α → α → Int} {a b : α} (h : orC c1 c2 a b = 0) : c1 a b = 0 := by
  unfold orC at h
  split at h
  · assumption
  · rename_i e; exact absurd h e
theorem cmpX_zero {st : Int → Int} {how : Int} {a b : Ins} (h : cmpX st how a b = 0) : a = b := by
  have h3 := orC_zero (orC_zero (orC_zero h))
  have e1 : cmpI a.rule b.rule = 0 := by have := orC_one h3; exact this
  have e2 : cmpL a.tags b.tags = 0 := by have := orC_zero h3; exact this
  have e1 := cmpI_zero.1 e1
  have e2 := cmpL_zero e2
  obtain ⟨x, y⟩ := a
  obtain ⟨x', y'⟩ := b
  dsimp only at e1 e2
  rw [e1, e2]
def lessX (st : Int → Int) (how : Int) (a b : Ins) : Bool := decide (cmpX st how a b < 0)
/-- By the document's way. -/
def lessR (st : Int → Int) (how : Int) (a b : Ins) : Bool :=
  if how = 1 ∧ ¬ firstT a.tags = firstT b.tags then decide (firstT b.tags < firstT a.tags)
  else if ¬ cmpL (recP a.tags) (recP b.tags) = 0 then decide (0 < cmpL (recP a.tags) (recP b.tags))
  else if ¬ st a.rule = st b.rule then decide (st b.rule < st a.rule)
  else if ¬ a.rule = b.rule then decide (a.rule < b.rule)
  else decide (0 < - cmpL a.tags b.tags)
theorem lessR_eq (st : Int → Int) (how : Int) (a b : Ins) : lessR st how a b = lessX st how a b := by
  have s1 := cmpI_spec (firstT b.tags) (firstT a.tags)
  have s2 := cmpI_spec (st b.rule) (st a.rule)
  have s3 := cmpI_spec a.rule b.rule
  have l1 := cmpL_anti (recP a.tags) (recP b.tags)
  unfold lessR lessX cmpX
  simp only [orC]
  repeat' split
  all_goals first
    | exact decide_eq_decide.2 (by omega)
    | (exfalso; omega)
end Go.Proofs.Ytbpoeggmpjepfaa.Ab

/- Orders: plain laws of sorting in place. -/
set_option linter.unusedVariables false
set_option linter.unusedSimpArgs false
set_option maxRecDepth 20000
namespace Go.Proofs.Ytbpoeggmpjepfaa.Ab
open Go
theorem insB_done {α : Type} (lt : α → α → Bool) (x : α) : ∀ (d t : List α), (∀ y ∈ d, lt x y = true) → insB lt x (d ++ t) = d ++ insB lt x t
  | [], t, _ => rfl
  | y :: d, t, h => by
    rw [List.cons_append]
    show (if lt x y then y :: insB lt x (d ++ t) else x :: y :: (d ++ t)) = _
    rw [if_pos (h y (List.mem_cons_self ..)), insB_done lt x d t (fun z hz => h z (List.mem_cons_of_mem _ hz))]
    rfl
theorem srtB_snoc {α : Type} (lt : α → α → Bool) (x : α) : ∀ (l acc : List α), srtB lt acc (l ++ [x]) = insB lt x (srtB lt acc l)
  | [], acc => rfl
  | y :: l, acc => srtB_snoc lt x l _
/-- The list when i of it are sorted. -/
def partS {α : Type} (lt : α → α → Bool) (l : List α) (i : Nat) : List α := (srtB lt [] (l.take i)).reverse ++ l.drop i
theorem partS_all {α : Type} (lt : α → α → Bool) (l : List α) : partS lt l l.length = sorts lt l := by
  unfold partS sorts
  rw [List.take_length, List.drop_length, List.append_nil]
theorem partS_one {α : Type} (lt : α → α → Bool) (l : List α) {i : Nat} (h : i ≤ 1) : partS lt l i = l := by
  unfold partS
  cases l with
  | nil => simp [srtB]
  | cons x l =>
    rcases (by omega : i = 0 ∨ i = 1) with rfl | rfl
    · rfl
    · simp [srtB, insB]
theorem partS_len {α : Type} (lt : α → α → Bool) (l : List α) (i : Nat) : (partS lt l i).length = l.length := by
  unfold partS
  have := (srtB_perm lt (l.take i) []).length_eq
  rw [List.append_nil] at this
  rw [List.length_append, List.length_reverse, this, List.length_take, List.length_drop]
  omega
/-- One more is put in: what is passed, what is left. -/
structure InsI {α : Type} (lt : α → α → Bool) (l : List α) (i : Nat) (x : α) (d t : List α) : Prop where
  pt : srtB lt [] (l.take i) = d ++ t
  ok : ∀ y ∈ d, lt x y = true
def insC {α : Type} (l : List α) (i : Nat) (x : α) (d t : List α) : List α := t.reverse ++ x :: (d.reverse ++ l.drop (i + 1))
theorem InsI.start {α : Type} {lt : α → α → Bool} {l : List α} {i : Nat} {x : α} (h : l[i]? = some x) : InsI lt l i x [] (srtB lt [] (l.take i)) ∧ partS lt l i = insC l i x [] (srtB lt [] (l.take i)) ∧ (srtB lt [] (l.take i)).length = i := by
  have hi := (List.getElem?_eq_some_iff.1 h).1
  refine ⟨⟨rfl, fun y hy => by cases hy⟩, ?_, ?_⟩
  · unfold partS insC
    rw [List.drop_eq_getElem_cons hi, (List.getElem?_eq_some_iff.1 h).2]
    rfl
  · have := (srtB_perm lt (l.take i) []).length_eq
    rw [List.append_nil, List.length_take] at this
    omega
theorem InsI.step {α : Type} {lt : α → α → Bool} {l : List α} {i : Nat} {x y : α} {d t : List α} (h : InsI lt l i x d (y :: t)) (hy : lt x y = true) : InsI lt l i x (d ++ [y]) t ∧ (insC l i x d (y :: t))[t.length]? = some y ∧ (insC l i x d (y :: t))[t.length + 1]? = some x ∧ ((insC l i x d (y :: t)).set (t.length + 1) y).set t.length x = insC l i x (d ++ [y]) t := by
  have e : insC l i x d (y :: t) = t.reverse ++ (y :: x :: (d.reverse ++ l.drop (i + 1))) := by
    unfold insC
    rw [List.reverse_cons, List.append_assoc]
    rfl
  have hl : t.reverse.length = t.length := List.length_reverse
  refine ⟨⟨by rw [h.pt, List.append_assoc]; rfl, fun z hz => ?_⟩, ?_, ?_, ?_⟩
  · rcases List.mem_append.1 hz with hz | hz
    · exact h.ok z hz
    · rw [List.mem_singleton.1 hz]; exact hy
  · rw [e, List.getElem?_append_right (by omega), hl, Nat.sub_self]; rfl
  · rw [e, List.getElem?_append_right (by omega), hl, Nat.add_sub_cancel_left]; rfl
  · rw [e, List.set_append_right _ _ (by omega), List.set_append_right _ _ (by omega), hl, Nat.sub_self, Nat.add_sub_cancel_left]
    unfold insC
    rw [List.reverse_append]
    rfl
theorem insC_get {α : Type} {l : List α} {i : Nat} {x y : α} {d t : List α} : (insC l i x d (y :: t))[t.length]? = some y ∧ (insC l i x d (y :: t))[t.length + 1]? = some x := by
  have e : insC l i x d (y :: t) = t.reverse ++ (y :: x :: (d.reverse ++ l.drop (i + 1))) := by
    unfold insC
    rw [List.reverse_cons, List.append_assoc]
    rfl
  have hl : t.reverse.length = t.length := List.length_reverse
  refine ⟨?_, ?_⟩
  · rw [e, List.getElem?_append_right (by omega), hl, Nat.sub_self]; rfl
  · rw [e, List.getElem?_append_right (by omega), hl, Nat.add_sub_cancel_left]; rfl
theorem insC_len {α : Type} {lt : α → α → Bool} {l : List α} {i : Nat} {x : α} {d t : List α} (h : InsI lt l i x d t) (hx : l[i]? = some x) : (insC l i x d t).length = l.length ∧ d.length + t.length = i := by
  have hi := (List.getElem?_eq_some_iff.1 hx).1
  have h1 := (srtB_perm lt (l.take i) []).length_eq
  rw [List.append_nil, List.length_take, h.pt, List.length_append] at h1
  unfold insC
  rw [List.length_append, List.length_cons, List.length_append, List.length_reverse, List.length_reverse, List.length_drop]
  omega
theorem InsI.stop {α : Type} {lt : α → α → Bool} {l : List α} {i : Nat} {x : α} {d t : List α} (h : InsI lt l i x d t) (hx : l[i]? = some x) (ht : t = [] ∨ ∃ y r, t = y :: r ∧ lt x y = false) : insC l i x d t = partS lt l (i + 1) := by
  have e : insB lt x t = x :: t := by
    rcases ht with rfl | ⟨y, r, rfl, hy⟩
    · rfl
    · show (if lt x y then _ else _) = _
      rw [hy]; rfl
  unfold partS insC
  rw [List.take_add_one, hx, Option.toList_some, srtB_snoc, h.pt, insB_done lt x d t h.ok, e, List.reverse_append, List.reverse_cons, List.append_assoc, List.append_assoc]
  rfl
end Go.Proofs.Ytbpoeggmpjepfaa.Ab

/- Orders: comparing; sorting of tags. -/
set_option linter.unusedVariables false
set_option linter.unusedSimpArgs false
set_option maxRecDepth 20000
namespace Go.Proofs.Ytbpoeggmpjepfaa.Ab
open Go
section
variable {P : Program} {l : List Oper} {c : List (List Nat)} {m nt : Nat} {σ σ0 σ1 : St} {K : Fr → Prop} {i : Nat} {fr : Fr} {rest : List Oper} {t : Tmp} {ty : TypeId} {pos : String} {aft : Array Edge}
/-- A place in a row of our own, under a guard. -/
theorem di4q {it et : TypeId} {x ix : Operand} {id sz off len : Nat} {kk : IntKind} {n : Int} {j u : Nat} {w cc : Bool} {a : AV} (h : DJ P l c m σ0 σ1 K (i + 1) rest ((t, .mb cc (.ptr id sz (off + n.toNat) 0)) :: fr)) (him : Nat.beq i m = false := by exact rfl) (hj : dstOf l j = some u := by exact rfl) (hl : lk fr u = some a := by exact rfl) (hg : gc a w = some cc := by exact rfl) (ht : P.underlying it = some (.slice et) := by exact rfl) (hs : sizeIs P et = some sz := by exact rfl) (hx : ev (strip fr) x = some (.osl id sz off len) := by exact rfl) (hi : ev (strip fr) ix = some (.v (.int kk n)) := by exact rfl) (h0 : cc = true → 0 ≤ n := by (intro hc; first | omega | (simp only [decide_eq_true_eq] at hc; omega))) (h1 : cc = true → n < len := by (intro hc; first | omega | (simp only [decide_eq_true_eq] at hc; omega))) (hn : Needs cc fr (Op.indexAddr it x ix).operands.toList := by repeat' (first | exact True.intro | refine And.intro ?_ ?_ | exact nd0 rfl | exact nd1 rfl | exact nd2 rfl | exact nd3 rfl | exact nd4 rfl)) : DJ P l c m σ0 σ1 K i (⟨some t, .indexAddr it x ix, ty, pos, aft, some (j, w)⟩ :: rest) fr :=
  dj_q him hj hl hg hn (fun hc R hR => opj_indexAddr_osl rfl ht hs hx hi (h0 hc) (h1 hc) hR) (fun hc R hR => opj_indexAddr_osl rfl ht hs hx hi (h0 hc) (h1 hc) hR) h
/-- A region with late edges of which the last part begins where it is said. -/
theorem cqeL {c : List (List Nat)} {l : List Oper} {fr : Fr} {σ : St} (n0 : Nat) (kp : Bool) {rest : List Oper} {id : Nat} {Q : Post} {A : List (Nat × Nat × List AV × TypeId)} (h : DA P l c n0 kp (A.map (·.1)) σ (fun F s => AllocK (fun F s' => DB P l kp s (fun F s => Q .normal F s) n0 rest F s') A F s) 0 l fr) (hlate : lateB l = true := by exact rfl) (hA : alO P 0 n0 l [] = some A := by exact rfl) (hr : dropO n0 l = some rest := by exact rfl) (hn1 : Nat.blt n0 l.length = true := by exact rfl) (hmix : P.follows .mixedOrders = true := by kernel_rfl) (hc : clo l [] = c := by exact rfl) (hp : planB l nt c = true := by kernel_rfl) (hch : chainB l c n0 (A.map (·.1)) = true := by kernel_rfl) : CJ P nt (.region id l.toArray true) Q fr σ :=
  cqe n0 kp h hA hr hn1 hmix hc hp hch
/-- A place in a row of our own, in the last part. -/
theorem bi4 {kp : Bool} {σb : St} {K2 : Fr → St → Prop} {it et : TypeId} {x ix : Operand} {id sz off len : Nat} {kk : IntKind} {n : Int} (h : DB P l kp σb K2 (i + 1) rest ((t, .ptr id sz (off + n.toNat) 0) :: fr) σ) (ht : P.underlying it = some (.slice et) := by exact rfl) (hs : sizeIs P et = some sz := by exact rfl) (hx : ev fr x = some (.osl id sz off len) := by exact rfl) (hi : ev fr ix = some (.v (.int kk n)) := by exact rfl) (h0 : 0 ≤ n := by first | omega | (simp (disch := omega) only [w64, sb_bt, Int.toNat_zero, Int.toNat_one]; omega)) (h1 : n < len := by first | omega | (simp (disch := omega) only [w64, sb_bt, Int.toNat_zero, Int.toNat_one]; omega)) : DB P l kp σb K2 i (⟨some t, .indexAddr it x ix, ty, pos, aft, none⟩ :: rest) fr σ :=
  db_cons rfl (opw_of (r := some _) fun R hR => opj_indexAddr_osl rfl ht hs hx hi h0 h1 hR) (fun _ h => h) h
end
attribute [local irreducible] thn inb endR CJ LJ OpJ DJ DA DB AllocK
theorem p_nan (n : Int) : Pure Try.prog 52 [.v (.int .i64 n)] (.v (.bool false)) := by
  refine enterW Try.func52 rfl rfl rfl rfl (fun σ => ?_)
  repeat' (first|(first|(refine jl ?_;first|refine j1 ?_|refine j4 ?_)|(refine jc ?_;first|refine c1 ?_|refine c2 ?_|refine c7 ?_)|refine n11 ?_))
  refine gives (St.le_refl _) (fin_one (.wk (Wk.of_eq ?_)))
  simp
theorem p_cmpI (a b : Int) : Pure Try.prog 41 [.v (.int .i64 a), .v (.int .i64 b)] (.v (.int .i64 (cmpI a b))) := by
  refine enterW Try.func41 rfl rfl rfl rfl (fun σ => ?_)
  have s1 := cmpI_spec a b
  repeat' (first|(first|(refine jl ?_;first|refine j1 ?_|refine j4 ?_|refine jp (p_nan a) ?_|refine jp (p_nan b) ?_)|(refine jc ?_;first|refine c1 ?_|refine c2 ?_|refine c4 ?_|refine c6 ?_|refine c7 ?_)|refine n1 ?_|refine n2 ?_|refine n11 ?_)|(refine c9 (fun h=>?_) (fun h=>?_)<;>((try simp only [Bool.or_eq_true, Bool.and_eq_true, Bool.or_eq_false_iff, Bool.and_eq_false_iff, Bool.not_eq_true', Bool.not_eq_false', decide_eq_true_eq, decide_eq_false_iff_not, Bool.false_eq_true, Bool.true_eq_false, reduceCtorEq] at h) <;> (try simp (disch := omega) only [sb_bt, w64, Int.reduceAdd, Int.reduceToNat, Int.toNat_natCast, not_true_eq_false, false_or] at h) <;> (try (exfalso; omega)))))
  all_goals
    refine gives (St.le_refl _) (fin_one (.wk (Wk.of_eq ?_)))
    simp only [ofLeaf, AV.v.injEq, Value.int.injEq, true_and]
    omega
theorem p_ltI (a b : Int) : Pure Try.prog 61 [.v (.int .i64 a), .v (.int .i64 b)] (.v (.bool (ltInt a b))) := by
  refine enterW Try.func61 rfl rfl rfl rfl (fun σ => ?_)
  repeat' (first|(first|(refine jl ?_;first|refine j1 ?_|refine j2 ?_|refine j3 ?_|refine j4 ?_|refine jp (p_nan a) ?_)|(refine jc ?_;first|refine c1 ?_|refine c2 ?_|refine c7 ?_)|refine n11 ?_))
  refine gives (St.le_refl _) (fin_one (.wk (Wk.of_eq ?_)))
  simp [ltInt]
theorem p_first (x : Ins) : Pure Try.prog 42 [.agg (inc x)] (.v (.int .i64 (firstT x.tags))) := by
  refine enterW Try.func42 rfl rfl rfl rfl (fun σ => ?_)
  obtain ⟨xr, xt⟩ := x
  have hn : (xt.map int1).length = xt.length := List.length_map ..
  cases xt with
  | nil =>
    have h0 : ([] : List Int).length = 0 := rfl
    repeat' (first|(first|(refine jl ?_;first|refine j1 ?_|refine j4 ?_|refine j12 (fun id hid=>?_)|refine j14 ?_)|(refine jc ?_;first|refine c1 ?_|refine c2 ?_|refine c7 ?_)|refine n2 ?_|refine n11 ?_)|(refine c9 (fun h=>?_) (fun h=>?_)<;>((try simp only [Bool.or_eq_true, Bool.and_eq_true, Bool.or_eq_false_iff, Bool.and_eq_false_iff, Bool.not_eq_true', Bool.not_eq_false', decide_eq_true_eq, decide_eq_false_iff_not, Bool.false_eq_true, Bool.true_eq_false, reduceCtorEq] at h) <;> (try simp (disch := omega) only [sb_bt, w64, Int.reduceAdd, Int.reduceToNat, Int.toNat_natCast, not_true_eq_false, false_or] at h) <;> (try (exfalso; omega)))))
    exact gives (by repeat' (first | exact St.le_refl _ | refine St.le_any ?_)) (Fin.refl _ _ _)
  | cons a l =>
    have h0 : (a :: l).length = l.length + 1 := rfl
    repeat' (first|(first|(refine jl ?_;first|refine jbl ?_|refine j1 ?_|refine j4 ?_|refine j12 (fun id hid=>?_)|refine j14 ?_|refine ji1 ?_)|(refine jc ?_;first|refine c1 ?_|refine c2 ?_|refine c6 ?_|refine c7 ?_)|refine n1 ?_|refine n11 ?_)|(refine c9 (fun h=>?_) (fun h=>?_)<;>((try simp only [Bool.or_eq_true, Bool.and_eq_true, Bool.or_eq_false_iff, Bool.and_eq_false_iff, Bool.not_eq_true', Bool.not_eq_false', decide_eq_true_eq, decide_eq_false_iff_not, Bool.false_eq_true, Bool.true_eq_false, reduceCtorEq] at h) <;> (try simp (disch := omega) only [sb_bt, w64, Int.reduceAdd, Int.reduceToNat, Int.toNat_natCast, not_true_eq_false, false_or] at h) <;> (try (exfalso; omega)))))
    exact gives (by repeat' (first | exact St.le_refl _ | refine St.le_any ?_)) (Fin.refl _ _ _)
theorem p_cmpL (nla nlb : Option Bool) (fla flb : Bool) (a b : List Int) (ha : a.length ≤ 1000) (hb : b.length ≤ 1000) : Pure Try.prog 44 [.sl nla fla 1 (a.map int1), .sl nlb flb 1 (b.map int1)] (.v (.int .i64 (cmpL a b))) := by
  refine enterW Try.func44 rfl rfl rfl rfl (fun σ => ?_)
  have hn1 : (a.map int1).length = a.length := List.length_map ..
  have hn2 : (b.map int1).length = b.length := List.length_map ..
  repeat' (first|(first|(refine jl ?_;first|refine j1 ?_|refine j4 ?_)|(refine jc ?_;first|refine c1 ?_|refine c2 ?_|refine c5 ?_)))
  refine cj_for (fun i : Nat => i ≤ a.length ∧ i ≤ b.length ∧ cmpL (a.drop i) (b.drop i) = cmpL a b) (fun i => [(11, .v (.int .i64 i))]) (fun _ => σ) (fun i => a.length - i) 0 ⟨Nat.zero_le _, Nat.zero_le _, rfl⟩ ⟨⟨_, rfl, fun _ _ h => h⟩, trivial⟩ (St.le_refl _) (fun i hi => ?_)
  obtain ⟨h1, h2, h3⟩ := hi
  rcases hd : a.drop i with _ | ⟨x, r⟩
  · have z1 := dropn hd
    rw [hd] at h3
    rcases hd2 : b.drop i with _ | ⟨y, r2⟩
    · have z2 := dropn hd2
      rw [hd2] at h3
      repeat' (first|(first|(refine jl ?_;first|refine j1 ?_|refine j4 ?_)|(refine jc ?_;first|refine c1 ?_|refine c2 ?_|refine c6 ?_|refine c7 ?_|refine c8 ?_)|refine n1 ?_|refine n3 ?_|refine n7 ?_|refine n8 ?_|refine n11 ?_)|(refine c9 (fun h=>?_) (fun h=>?_)<;>((try simp only [Bool.or_eq_true, Bool.and_eq_true, Bool.or_eq_false_iff, Bool.and_eq_false_iff, Bool.not_eq_true', Bool.not_eq_false', decide_eq_true_eq, decide_eq_false_iff_not, Bool.false_eq_true, Bool.true_eq_false, reduceCtorEq] at h) <;> (try simp (disch := omega) only [sb_bt, w64, Int.reduceAdd, Int.reduceToNat, Int.toNat_natCast, not_true_eq_false, false_or] at h) <;> (try (exfalso; omega)))))
      refine gives (St.le_refl _) (fin_one (.wk (Wk.of_eq ?_)))
      rw [← h3]; rfl
    · obtain ⟨u1, _, _⟩ := dropc hd2
      rw [hd2] at h3
      repeat' (first|(first|(refine jl ?_;first|refine j1 ?_|refine j4 ?_)|(refine jc ?_;first|refine c1 ?_|refine c2 ?_|refine c7 ?_|refine c8 ?_)|refine n1 ?_|refine n2 ?_|refine n3 ?_|refine n7 ?_|refine n8 ?_|refine n11 ?_)|(refine c9 (fun h=>?_) (fun h=>?_)<;>((try simp only [Bool.or_eq_true, Bool.and_eq_true, Bool.or_eq_false_iff, Bool.and_eq_false_iff, Bool.not_eq_true', Bool.not_eq_false', decide_eq_true_eq, decide_eq_false_iff_not, Bool.false_eq_true, Bool.true_eq_false, reduceCtorEq] at h) <;> (try simp (disch := omega) only [sb_bt, w64, Int.reduceAdd, Int.reduceToNat, Int.toNat_natCast, not_true_eq_false, false_or] at h) <;> (try (exfalso; omega)))))
      refine gives (St.le_refl _) (fin_one (.wk (Wk.of_eq ?_)))
      rw [← h3]; rfl
  · obtain ⟨u1, u2, u3⟩ := dropc hd
    have u4 := get_map int1 u3
    rw [hd] at h3
    rcases hd2 : b.drop i with _ | ⟨y, r2⟩
    · have z2 := dropn hd2
      rw [hd2] at h3
      repeat' (first|(first|(refine jl ?_;first|refine jbl ?_|refine j1 ?_|refine j4 ?_|refine ji1 ?_)|(refine jc ?_;first|refine c1 ?_|refine c2 ?_|refine c5 ?_|refine c6 ?_|refine c7 ?_)|refine n1 ?_|refine n2 ?_|refine n5 ?_|refine n6 ?_|refine n11 ?_)|(refine c9 (fun h=>?_) (fun h=>?_)<;>((try simp only [Bool.or_eq_true, Bool.and_eq_true, Bool.or_eq_false_iff, Bool.and_eq_false_iff, Bool.not_eq_true', Bool.not_eq_false', decide_eq_true_eq, decide_eq_false_iff_not, Bool.false_eq_true, Bool.true_eq_false, reduceCtorEq] at h) <;> (try simp (disch := omega) only [sb_bt, w64, Int.reduceAdd, Int.reduceToNat, Int.toNat_natCast, not_true_eq_false, false_or] at h) <;> (try (exfalso; omega)))))
      refine gives (St.le_refl _) (fin_one (.wk (Wk.of_eq ?_)))
      rw [← h3]; rfl
    · obtain ⟨v1, v2, v3⟩ := dropc hd2
      have v4 := get_map int1 v3
      rw [hd2] at h3
      have s1 := cmpI_spec x y
      rw [show cmpL (x :: r) (y :: r2) = if cmpI x y = 0 then cmpL r r2 else cmpI x y from rfl] at h3
      repeat' (first|(first|(refine jl ?_;first|refine jbl ?_|refine j1 ?_|refine j4 ?_|refine j6 ?_|refine ji1 ?_|refine jp (p_cmpI x y) ?_)|(refine jc ?_;first|refine c1 ?_|refine c2 ?_|refine c5 ?_|refine c6 ?_|refine c7 ?_)|refine n1 ?_|refine n2 ?_|refine n5 ?_|refine n6 ?_|refine n10 ?_|refine n11 ?_)|(refine c9 (fun h=>?_) (fun h=>?_)<;>((try simp only [Bool.or_eq_true, Bool.and_eq_true, Bool.or_eq_false_iff, Bool.and_eq_false_iff, Bool.not_eq_true', Bool.not_eq_false', decide_eq_true_eq, decide_eq_false_iff_not, Bool.false_eq_true, Bool.true_eq_false, reduceCtorEq] at h) <;> (try simp (disch := omega) only [sb_bt, w64, Int.reduceAdd, Int.reduceToNat, Int.toNat_natCast, not_true_eq_false, false_or] at h) <;> (try (exfalso; omega)))))
      · rw [if_neg (by omega)] at h3
        refine gives (St.le_refl _) (fin_one (.wk (Wk.of_eq ?_)))
        rw [← h3]
      · rw [if_pos (by omega), ← u2, ← v2] at h3
        exact nx_forS (i + 1) ⟨by omega, by omega, h3⟩ (by omega) ⟨⟨_, rfl, wk1 (by omega)⟩, trivial⟩ (St.le_refl _)
theorem p_orI (a b c d e : Int) : Pure Try.prog 43 [.sl (some false) true 1 [int1 a, int1 b, int1 c, int1 d, int1 e]] (.v (.int .i64 (if a = 0 then if b = 0 then if c = 0 then if d = 0 then e else d else c else b else a))) := by
  refine enterW Try.func43 rfl rfl rfl rfl (fun σ => ?_)
  repeat' (first|(first|(refine jl ?_;first|refine j1 ?_|refine j4 ?_)|(refine jc ?_;first|refine c1 ?_|refine c2 ?_|refine c5 ?_)))
  refine cj_for (fun i : Nat => i ≤ 5 ∧ (0 < i → a = 0) ∧ (1 < i → b = 0) ∧ (2 < i → c = 0) ∧ (3 < i → d = 0) ∧ (4 < i → e = 0)) (fun i => [(8, .v (.int .i64 i))]) (fun _ => σ) (fun i => 5 - i) 0 ⟨by omega, by omega, by omega, by omega, by omega, by omega⟩ ⟨⟨_, rfl, fun _ _ h => h⟩, trivial⟩ (St.le_refl _) (fun i hi => ?_)
  obtain ⟨h0, h1, h2, h3, h4, h5⟩ := hi
  rcases (by omega : i = 0 ∨ i = 1 ∨ i = 2 ∨ i = 3 ∨ i = 4 ∨ i = 5) with rfl | rfl | rfl | rfl | rfl | rfl
  all_goals
    repeat' (first|(first|(refine jl ?_;first|refine jbl ?_|refine j1 ?_|refine j4 ?_|refine j6 ?_|refine ji1 ?_)|(refine jc ?_;first|refine c1 ?_|refine c2 ?_|refine c5 ?_|refine c6 ?_|refine c7 ?_|refine c8 ?_)|refine n1 ?_|refine n2 ?_|refine n3 ?_|refine n5 ?_|refine n6 ?_|refine n7 ?_|refine n8 ?_|refine n10 ?_|refine n11 ?_)|(refine c9 (fun h=>?_) (fun h=>?_)<;>((try simp only [Bool.or_eq_true, Bool.and_eq_true, Bool.or_eq_false_iff, Bool.and_eq_false_iff, Bool.not_eq_true', Bool.not_eq_false', decide_eq_true_eq, decide_eq_false_iff_not, Bool.false_eq_true, Bool.true_eq_false, reduceCtorEq] at h) <;> (try simp (disch := omega) only [sb_bt, w64, Int.reduceAdd, Int.reduceToNat, Int.toNat_natCast, not_true_eq_false, false_or] at h) <;> (try (exfalso; omega)))))
  all_goals first
    | (exfalso; simp at h; done)
    | exact nx_forS 1 ⟨by omega, by omega, by omega, by omega, by omega, by omega⟩ (by omega) ⟨⟨_, rfl, fun _ _ h => h⟩, trivial⟩ (St.le_refl _)
    | exact nx_forS 2 ⟨by omega, by omega, by omega, by omega, by omega, by omega⟩ (by omega) ⟨⟨_, rfl, fun _ _ h => h⟩, trivial⟩ (St.le_refl _)
    | exact nx_forS 3 ⟨by omega, by omega, by omega, by omega, by omega, by omega⟩ (by omega) ⟨⟨_, rfl, fun _ _ h => h⟩, trivial⟩ (St.le_refl _)
    | exact nx_forS 4 ⟨by omega, by omega, by omega, by omega, by omega, by omega⟩ (by omega) ⟨⟨_, rfl, fun _ _ h => h⟩, trivial⟩ (St.le_refl _)
    | exact nx_forS 5 ⟨by omega, by omega, by omega, by omega, by omega, by omega⟩ (by omega) ⟨⟨_, rfl, fun _ _ h => h⟩, trivial⟩ (St.le_refl _)
    | (refine gives (St.le_refl _) (fin_one (.wk (Wk.of_eq ?_)))
       simp only [ofLeaf, AV.v.injEq, Value.int.injEq, true_and]
       repeat' split
       all_goals omega)
/-! ### Sorting in place -/
theorem len64_any (n : Nat) (hn : n ≤ 12) : ∃ r : Int, Pure Try.prog 65 [.v (.int .u64 n)] (.v (.int .i64 r)) := by
  rcases (by omega : n = 0 ∨ n = 1 ∨ n = 2 ∨ n = 3 ∨ n = 4 ∨ n = 5 ∨ n = 6 ∨ n = 7 ∨ n = 8 ∨ n = 9 ∨ n = 10 ∨ n = 11 ∨ n = 12) with rfl | rfl | rfl | rfl | rfl | rfl | rfl | rfl | rfl | rfl | rfl | rfl | rfl
  all_goals
    apply Exists.intro
    apply enterW Try.func65 rfl rfl rfl rfl
    intro σ
    repeat' (first|(first|(refine jl ?_;first|refine j1 ?_|refine j4 ?_|refine j18 (h0 := by decide) (h1 := by decide +kernel) ?_)|(refine jc ?_;first|refine c1 ?_|refine c2 ?_|refine c6 ?_|refine c7 ?_)|refine n1 ?_|refine n11 ?_)|(refine c9 (fun h=>?_) (fun h=>?_)<;>((try simp only [Bool.or_eq_true, Bool.and_eq_true, Bool.or_eq_false_iff, Bool.and_eq_false_iff, Bool.not_eq_true', Bool.not_eq_false', decide_eq_true_eq, decide_eq_false_iff_not, Bool.false_eq_true, Bool.true_eq_false, reduceCtorEq] at h) <;> (try simp (disch := omega) only [sb_bt, w64, Int.reduceAdd, Int.reduceToNat, Int.toNat_natCast, not_true_eq_false, false_or] at h) <;> (try (exfalso; omega)))))
    exact gives (St.le_refl _) (Fin.refl _ _ _)
theorem len_any (n : Nat) (hn : n ≤ 12) : ∃ r : Int, Pure Try.prog 49 [.v (.int .u64 n)] (.v (.int .i64 r)) := by
  obtain ⟨r, k1⟩ := len64_any n hn
  refine ⟨r, enterW Try.func49 rfl rfl rfl rfl (fun σ => ?_)⟩
  repeat' (first|(first|(refine jl ?_;first|refine j1 ?_|refine j4 ?_|refine jp (k1) ?_)|(refine jc ?_;first|refine c1 ?_|refine c2 ?_|refine c4 ?_|refine c6 ?_|refine c7 ?_)|refine n1 ?_|refine n11 ?_))
  exact gives (St.le_refl _) (Fin.refl _ _ _)
set_option maxHeartbeats 2000000 in
theorem q_insI {σ : St} {w : Nat} {l : List Int} (hw : σ w = some (.row 1 3 (l.map int1))) (hl : l.length ≤ 12) : ACalls Try.prog 55 [.osl w 1 0 l.length, .v (.int .i64 0), .v (.int .i64 l.length)] σ (fun e σ' => e = .ret (.tup []) ∧ σ' = σ.set w (.row 1 3 ((sorts ltInt l).map int1))) := by
  refine acalls_gives ?_
  refine enter Try.func55 rfl rfl rfl rfl ?_
  repeat' (first|(first|(refine jl ?_;first|refine j1 ?_|refine j4 ?_)|(refine jc ?_;first|refine c1 ?_|refine c2 ?_|refine c5 ?_)))
  refine cj_for (fun i : Nat => 1 ≤ i ∧ (i ≤ l.length ∨ i = 1)) (fun i => [(6, .v (.int .i64 i))]) (fun i => σ.set w (.row 1 3 ((partS ltInt l i).map int1))) (fun i => l.length - i) 1 ⟨Nat.le_refl _, .inr rfl⟩ ⟨⟨_, rfl, fun _ _ h => h⟩, trivial⟩ (by rw [partS_one ltInt l (Nat.le_refl 1)]; exact St.le_setk (St.le_refl _) hw) (fun i hi => ?_)
  by_cases hlt : i < l.length
  · obtain ⟨x, hx⟩ : ∃ x, l[i]? = some x := ⟨_, List.getElem?_eq_getElem hlt⟩
    obtain ⟨hI, hC, hlen⟩ := InsI.start (lt := ltInt) hx
    rw [hC]
    repeat' (first|(first|(refine jl ?_;first|refine j1 ?_|refine j4 ?_)|(refine jc ?_;first|refine c1 ?_|refine c2 ?_|refine c5 ?_|refine c6 ?_)|refine n1 ?_)|(refine c9 (fun h=>?_) (fun h=>?_)<;>((try simp only [Bool.or_eq_true, Bool.and_eq_true, Bool.or_eq_false_iff, Bool.and_eq_false_iff, Bool.not_eq_true', Bool.not_eq_false', decide_eq_true_eq, decide_eq_false_iff_not, Bool.false_eq_true, Bool.true_eq_false, reduceCtorEq] at h) <;> (try simp (disch := omega) only [sb_bt, w64, Int.reduceAdd, Int.reduceToNat, Int.toNat_natCast, not_true_eq_false, false_or] at h) <;> (try (exfalso; omega)))))
    refine cj_for (fun s : List Int × List Int => InsI ltInt l i x s.1 s.2) (fun s => [(7, .v (.int .i64 s.2.length))]) (fun s => σ.set w (.row 1 3 ((insC l i x s.1 s.2).map int1))) (fun s => s.2.length) ([], srtB ltInt [] (l.take i)) hI ⟨⟨_, rfl, Wk.of_eq (by rw [hlen])⟩, trivial⟩ (St.le_refl _) (fun s hs => ?_)
    obtain ⟨d, t⟩ := s
    dsimp only at hs ⊢
    obtain ⟨hcl, hdt⟩ := insC_len hs hx
    cases t with
    | nil =>
      have h0 : ([] : List Int).length = 0 := rfl
      repeat' (first|(first|(refine jl ?_;first|refine j1 ?_|refine j6 ?_)|(refine dl ?_;first|refine d8 ?_|refine d1 ?_|refine d4 ?_|refine d9 ?_|refine dff ?_)|(refine jc ?_;first|refine c1 ?_|refine c2 ?_|refine c8 ?_|refine cq ?_)|refine n1 ?_|refine n3 ?_|refine n7 ?_|refine n8 ?_|refine n10 ?_)|(refine c9 (fun h=>?_) (fun h=>?_)<;>((try simp only [Bool.or_eq_true, Bool.and_eq_true, Bool.or_eq_false_iff, Bool.and_eq_false_iff, Bool.not_eq_true', Bool.not_eq_false', decide_eq_true_eq, decide_eq_false_iff_not, Bool.false_eq_true, Bool.true_eq_false, reduceCtorEq] at h) <;> (try simp (disch := omega) only [sb_bt, w64, Int.reduceAdd, Int.reduceToNat, Int.toNat_natCast, not_true_eq_false, false_or] at h) <;> (try (exfalso; omega)))))
      · rw [hs.stop hx (.inl rfl)]
        exact nx_forS (i + 1) ⟨by omega, .inl (by omega)⟩ (by omega) ⟨⟨_, rfl, wk1 (by omega)⟩, trivial⟩ (St.le_refl _)
    | cons y t =>
      have h0 : (y :: t).length = t.length + 1 := rfl
      obtain ⟨gy, gx⟩ := @insC_get Int l i x y d t
      have w1 : IntKind.i64.wrap (((y :: t).length : Int) - 1) = ((t.length : Nat) : Int) := by rw [w64 (by omega) (by omega)]; omega
      have ex : ((insC l i x d (y :: t)).map int1)[0 + (((y :: t).length : Nat) : Int).toNat]? = some (int1 x) := by rw [Nat.zero_add]; exact get_map int1 gx
      have ey : ((insC l i x d (y :: t)).map int1)[0 + (IntKind.i64.wrap (((y :: t).length : Int) - 1)).toNat]? = some (int1 y) := by rw [w1, Nat.zero_add]; exact get_map int1 gy
      have k1 := p_ltI x y
      have s1 : ((insC l i x d (y :: t)).map int1).set (0 + (((y :: t).length : Nat) : Int).toNat) (int1 y) = ((insC l i x d (y :: t)).set (t.length + 1) y).map int1 := by rw [Nat.zero_add, Int.toNat_natCast, h0, List.map_set]
      have e1 : (((insC l i x d (y :: t)).set (t.length + 1) y).map int1)[0 + (IntKind.i64.wrap (((y :: t).length : Int) - 1)).toNat]? = some (int1 y) := by
        rw [w1, Nat.zero_add]
        refine get_map int1 ?_
        rw [List.getElem?_set_ne (by omega)]
        exact gy
      have s2 : (((insC l i x d (y :: t)).set (t.length + 1) y).map int1).set (0 + (IntKind.i64.wrap (((y :: t).length : Int) - 1)).toNat) (int1 x) = (((insC l i x d (y :: t)).set (t.length + 1) y).set t.length x).map int1 := by rw [w1, Nat.zero_add, Int.toNat_natCast, ← List.map_set]
      repeat' (first|(first|(refine jl ?_;first|refine j1 ?_|refine j6 ?_)|(refine dl ?_;first|refine d8 ?_|refine d1 ?_|refine d4 ?_|refine d9 ?_|refine dpq (hp:=fun hc=>k1) ?_|refine di4q ?_|refine d16 (he := ex) (he' := ex) ?_|refine d16 (he := ey) (he' := ey) ?_)|(refine al ?_;first|refine da_nil ?_|refine a1 ?_|refine ai4 ?_|refine a14 (he := ex) ?_|refine a14 (he := ey) ?_)|(refine bl ?_;first|refine db_nil ?_|refine b17 (he := ex) (hn2 := s1) ?_|refine b17 (he := e1) (hn2 := s2) ?_|refine bi4 ?_)|refine al_nil ?_|(refine jc ?_;first|refine c1 ?_|refine c2 ?_|refine c5 ?_|refine c6 ?_|refine cqeL 14 false ?_|refine c8 ?_|refine cq ?_)|refine n1 ?_|refine n3 ?_|refine n7 ?_|refine n8 ?_|refine n10 ?_)|(refine c9 (fun h=>?_) (fun h=>?_)<;>((try simp only [Bool.or_eq_true, Bool.and_eq_true, Bool.or_eq_false_iff, Bool.and_eq_false_iff, Bool.not_eq_true', Bool.not_eq_false', decide_eq_true_eq, decide_eq_false_iff_not, Bool.false_eq_true, Bool.true_eq_false, reduceCtorEq] at h) <;> (try simp (disch := omega) only [sb_bt, w64, Int.reduceAdd, Int.reduceToNat, Int.toNat_natCast, not_true_eq_false, false_or] at h) <;> (try (exfalso; omega)))))
      · obtain ⟨q1, q2, q3, q4⟩ := hs.step (by obtain ⟨_, h⟩ := h; exact h)
        rw [show t.length + 1 = (y :: t).length from rfl] at q4
        refine nx_forS (d ++ [y], t) q1 (by dsimp only; omega) ⟨⟨_, rfl, Wk.of_eq (congrArg (fun v => AV.v (Value.int .i64 v)) w1)⟩, trivial⟩ ?_
        rw [St.set_set, St.set_set, ← q4, h0]
        exact St.le_refl _
      · rw [hs.stop hx (.inr ⟨y, t, rfl, by
          rcases h with h | h
          · exfalso; omega
          · exact h⟩)]
        exact nx_forS (i + 1) ⟨by omega, .inl (by omega)⟩ (by omega) ⟨⟨_, rfl, wk1 (by omega)⟩, trivial⟩ (St.le_refl _)
  · repeat' (first|(first|(refine jl ?_;first|refine j1 ?_|refine j4 ?_)|(refine jc ?_;first|refine c1 ?_|refine c2 ?_|refine c8 ?_)|refine n3 ?_|refine n7 ?_|refine n8 ?_|refine n12 ?_)|(refine c9 (fun h=>?_) (fun h=>?_)<;>((try simp only [Bool.or_eq_true, Bool.and_eq_true, Bool.or_eq_false_iff, Bool.and_eq_false_iff, Bool.not_eq_true', Bool.not_eq_false', decide_eq_true_eq, decide_eq_false_iff_not, Bool.false_eq_true, Bool.true_eq_false, reduceCtorEq] at h) <;> (try simp (disch := omega) only [sb_bt, w64, Int.reduceAdd, Int.reduceToNat, Int.toNat_natCast, not_true_eq_false, false_or] at h) <;> (try (exfalso; omega)))))
    have e : partS ltInt l i = sorts ltInt l := by
      by_cases h1 : i ≤ 1
      · rw [partS_one ltInt l h1, ← partS_all, partS_one ltInt l (by omega)]
      · obtain ⟨_, h2⟩ := hi
        rw [show i = l.length by omega, partS_all]
    rw [e]
    exact gives (St.le_refl _) (Fin.refl _ _ _)
end Go.Proofs.Ytbpoeggmpjepfaa.Ab

/- Orders: an instantiation's tags, falling. -/
set_option linter.unusedVariables false
set_option linter.unusedSimpArgs false
set_option maxRecDepth 20000
namespace Go.Proofs.Ytbpoeggmpjepfaa.Ab
open Go
/-- A list turned in place, up to the k-th of it. -/
structure RevI (l C : List Int) (k : Nat) : Prop where
  len : C.length = l.length
  hk : 2 * k ≤ l.length
  get : ∀ p, p < l.length → C[p]? = if p < k ∨ l.length ≤ p + k then l[l.length - 1 - p]? else l[p]?
theorem RevI.start (l : List Int) : RevI l l 0 := ⟨rfl, by omega, fun p hp => by rw [if_neg (by omega)]⟩
theorem RevI.ends {l C : List Int} {k : Nat} (h : RevI l C k) (he : l.length ≤ 2 * k + 1) : C = l.reverse := by
  refine List.ext_getElem? fun p => ?_
  by_cases hp : p < l.length
  · rw [h.get p hp, List.getElem?_reverse hp]
    split
    · rfl
    · congr 1; omega
  · rw [List.getElem?_eq_none (by rw [h.len]; omega), List.getElem?_eq_none (by rw [List.length_reverse]; omega)]
theorem RevI.step {l C : List Int} {k : Nat} {x y : Int} (h : RevI l C k) (hlt : 2 * k + 1 < l.length) (hx : l[k]? = some x) (hy : l[l.length - 1 - k]? = some y) : C[k]? = some x ∧ C[l.length - 1 - k]? = some y ∧ RevI l ((C.set k y).set (l.length - 1 - k) x) (k + 1) := by
  have hl := h.len
  refine ⟨by rw [h.get k (by omega), if_neg (by omega)]; exact hx, by rw [h.get _ (by omega), if_neg (by omega)]; exact hy, ⟨by rw [List.length_set, List.length_set]; exact hl, by omega, fun p hp => ?_⟩⟩
  by_cases e1 : p = l.length - 1 - k
  · subst e1
    rw [List.getElem?_set_self (by rw [List.length_set]; omega), if_pos (by omega), ← hx]
    congr 1; omega
  · rw [List.getElem?_set_ne (by omega)]
    by_cases e2 : p = k
    · subst e2
      rw [List.getElem?_set_self (by omega), if_pos (by omega), ← hy]
    · rw [List.getElem?_set_ne (by omega), h.get p hp]
      by_cases e3 : p < k ∨ l.length ≤ p + k
      · rw [if_pos e3, if_pos (by omega)]
      · rw [if_neg e3, if_neg (by omega)]
theorem wu64 {n : Int} (h0 : 0 ≤ n) (h1 : n < 18446744073709551616) : IntKind.u64.wrap n = n := by
  have e : IntKind.u64.wrap n = n % 18446744073709551616 := by simp [IntKind.wrap, IntKind.signed, IntKind.bits]
  omega
attribute [local irreducible] thn inb endR CJ LJ OpJ DJ DA DB AllocK
set_option maxHeartbeats 2000000 in
theorem q_reverse {σ : St} {w : Nat} {l : List Int} (hw : σ w = some (.row 1 3 (l.map int1))) (hl : l.length ≤ 65536) : ACalls Try.prog 36 [.osl w 1 0 l.length] σ (fun e σ' => e = .ret (.tup []) ∧ σ' = σ.set w (.row 1 3 (l.reverse.map int1))) := by
  refine acalls_gives ?_
  refine enter Try.func36 rfl rfl rfl rfl ?_
  repeat' (first|(first|(refine jl ?_;first|refine j1 ?_|refine j4 ?_)|(refine jc ?_;first|refine c1 ?_|refine c2 ?_|refine c5 ?_)))
  refine cj_for (fun s : Nat × List Int => RevI l s.2 s.1) (fun s => [(2, .v (.int .i64 s.1)), (3, .v (.int .i64 ((l.length : Int) - 1 - s.1)))]) (fun s => σ.set w (.row 1 3 (s.2.map int1))) (fun s => l.length - s.1) (0, l) (RevI.start l) ⟨⟨_, rfl, fun _ _ h => h⟩, ⟨_, rfl, Wk.of_eq (by dsimp only; rw [w64 (by omega) (by omega)]; simp)⟩, trivial⟩ (St.le_setk (St.le_refl _) hw) (fun s hs => ?_)
  obtain ⟨k, C⟩ := s
  dsimp only at hs ⊢
  have hcl := hs.len
  have hk := hs.hk
  by_cases hlt : 2 * k + 1 < l.length
  · obtain ⟨x, hx⟩ : ∃ x, l[k]? = some x := ⟨_, List.getElem?_eq_getElem (by omega)⟩
    obtain ⟨y, hy⟩ : ∃ y, l[l.length - 1 - k]? = some y := ⟨_, List.getElem?_eq_getElem (by omega)⟩
    obtain ⟨gx, gy, hn⟩ := hs.step hlt hx hy
    have ei : (k : Int).toNat = k := Int.toNat_natCast _
    have ej : ((l.length : Int) - 1 - k).toNat = l.length - 1 - k := by omega
    have ex : (C.map int1)[0 + (k : Int).toNat]? = some (int1 x) := by rw [Nat.zero_add, ei]; exact get_map int1 gx
    have ey : (C.map int1)[0 + ((l.length : Int) - 1 - k).toNat]? = some (int1 y) := by rw [Nat.zero_add, ej]; exact get_map int1 gy
    have s1 : (C.map int1).set (0 + (k : Int).toNat) (int1 y) = (C.set k y).map int1 := by rw [Nat.zero_add, ei, List.map_set]
    have e1 : ((C.set k y).map int1)[0 + ((l.length : Int) - 1 - k).toNat]? = some (int1 y) := by
      rw [ej, Nat.zero_add]
      refine get_map int1 ?_
      rw [List.getElem?_set_ne (by omega)]
      exact gy
    have s2 : ((C.set k y).map int1).set (0 + ((l.length : Int) - 1 - k).toNat) (int1 x) = ((C.set k y).set (l.length - 1 - k) x).map int1 := by rw [ej, Nat.zero_add, ← List.map_set]
    repeat' (first|(first|(refine jl ?_;first|refine j1 ?_|refine j4 ?_|refine j6 ?_)|(refine al ?_;first|refine da_nil ?_|refine a1 ?_|refine ai4 ?_|refine a14 (he := ex) ?_|refine a14 (he := ey) ?_)|(refine bl ?_;first|refine db_nil ?_|refine b17 (he := ex) (hn2 := s1) ?_|refine b17 (he := e1) (hn2 := s2) ?_|refine bi4 ?_)|refine al_nil ?_|(refine jc ?_;first|refine c1 ?_|refine c2 ?_|refine c5 ?_|refine c6 ?_|refine cqeL 12 false ?_)|refine n1 ?_|refine n10 ?_)|(refine c9 (fun h=>?_) (fun h=>?_)<;>((try simp only [Bool.or_eq_true, Bool.and_eq_true, Bool.or_eq_false_iff, Bool.and_eq_false_iff, Bool.not_eq_true', Bool.not_eq_false', decide_eq_true_eq, decide_eq_false_iff_not, Bool.false_eq_true, Bool.true_eq_false, reduceCtorEq] at h) <;> (try simp (disch := omega) only [sb_bt, w64, Int.reduceAdd, Int.reduceToNat, Int.toNat_natCast, not_true_eq_false, false_or] at h) <;> (try (exfalso; omega)))))
    refine nx_forS (k + 1, (C.set k y).set (l.length - 1 - k) x) hn (by dsimp only; omega) ⟨⟨_, rfl, wk1 (by omega)⟩, ⟨_, rfl, Wk.of_eq (by dsimp only; rw [w64 (by omega) (by omega)]; congr 2; omega)⟩, trivial⟩ ?_
    rw [St.set_set, St.set_set]
    exact St.le_refl _
  · repeat' (first|(first|(refine jl ?_;first|refine j1 ?_|refine j4 ?_)|(refine jc ?_;first|refine c1 ?_|refine c2 ?_|refine c8 ?_)|refine n3 ?_|refine n7 ?_|refine n8 ?_|refine n12 ?_)|(refine c9 (fun h=>?_) (fun h=>?_)<;>((try simp only [Bool.or_eq_true, Bool.and_eq_true, Bool.or_eq_false_iff, Bool.and_eq_false_iff, Bool.not_eq_true', Bool.not_eq_false', decide_eq_true_eq, decide_eq_false_iff_not, Bool.false_eq_true, Bool.true_eq_false, reduceCtorEq] at h) <;> (try simp (disch := omega) only [sb_bt, w64, Int.reduceAdd, Int.reduceToNat, Int.toNat_natCast, not_true_eq_false, false_or] at h) <;> (try (exfalso; omega)))))
    rw [← hs.ends (by omega)]
    exact gives (St.le_refl _) (Fin.refl _ _ _)
theorem q_pdq {σ : St} {w : Nat} {l : List Int} {r : Int} (hw : σ w = some (.row 1 3 (l.map int1))) (hl : l.length ≤ 12) : ACalls Try.prog 48 [.osl w 1 0 l.length, .v (.int .i64 0), .v (.int .i64 l.length), .v (.int .i64 r)] σ (fun e σ' => e = .ret (.tup []) ∧ σ' = σ.set w (.row 1 3 ((sorts ltInt l).map int1))) := by
  refine acalls_gives ?_
  refine enter Try.func48 rfl rfl rfl rfl ?_
  repeat' (first|(first|(refine jl ?_;first|refine j1 ?_|refine j4 ?_)|(refine jc ?_;first|refine c1 ?_|refine c2 ?_|refine c5 ?_)))
  refine cj_for (fun _ : Unit => True) (fun _ => [(1, .v (.int .i64 0)), (2, .v (.int .i64 l.length))]) (fun _ => σ) (fun _ => 0) () trivial ⟨⟨_, rfl, fun _ _ h => h⟩, ⟨_, rfl, fun _ _ h => h⟩, trivial⟩ (St.le_refl _) (fun _ _ => ?_)
  repeat' (first|(first|(refine jl ?_;first|refine j1 ?_|refine j4 ?_|refine lj_to rfl rfl rfl (q_insI hw hl) ?_)|(refine jc ?_;first|refine c1 ?_|refine c2 ?_|refine c5 ?_|refine c7 ?_)|refine n2 ?_|refine n5 ?_|refine n6 ?_|refine n11 ?_)|(refine c9 (fun h=>?_) (fun h=>?_)<;>((try simp only [Bool.or_eq_true, Bool.and_eq_true, Bool.or_eq_false_iff, Bool.and_eq_false_iff, Bool.not_eq_true', Bool.not_eq_false', decide_eq_true_eq, decide_eq_false_iff_not, Bool.false_eq_true, Bool.true_eq_false, reduceCtorEq] at h) <;> (try simp (disch := omega) only [sb_bt, w64, Int.reduceAdd, Int.reduceToNat, Int.toNat_natCast, not_true_eq_false, false_or] at h) <;> (try (exfalso; omega)))))
  exact gives (St.le_refl _) (Fin.refl _ _ _)
theorem q_sort {σ : St} {w : Nat} {l : List Int} (hw : σ w = some (.row 1 3 (l.map int1))) (hl : l.length ≤ 12) : ACalls Try.prog 35 [.osl w 1 0 l.length] σ (fun e σ' => e = .ret (.tup []) ∧ σ' = σ.set w (.row 1 3 ((sorts ltInt l).map int1))) := by
  refine acalls_gives ?_
  refine enter Try.func35 rfl rfl rfl rfl ?_
  obtain ⟨r, k1⟩ := len_any l.length hl
  rw [← wu64 (n := (l.length : Int)) (by omega) (by omega)] at k1
  repeat' (first|(first|(refine jl ?_;first|refine j1 ?_|refine j4 ?_|refine j6 ?_|refine jp (k1) ?_|refine lj_to rfl rfl rfl (q_pdq hw hl) ?_)|(refine jc ?_;first|refine c1 ?_|refine c2 ?_)|refine n12 ?_))
  exact gives (St.le_refl _) (Fin.refl _ _ _)
theorem p_recency (nl : Option Bool) (full : Bool) (l : List Int) (hl : l.length ≤ 12) : Pure Try.prog 15 [.sl nl full 1 (l.map int1)] (.sl none false 1 ((recP l).map int1)) := by
  refine enterW Try.func15 rfl rfl rfl rfl (fun σ => ?_)
  have hf : (l.filter keepI).length ≤ 12 := Nat.le_trans (List.length_filter_le _ _) hl
  have hs : (sorts ltInt (l.filter keepI)).length = (l.filter keepI).length := by
    have := (srtB_perm ltInt (l.filter keepI) []).length_eq
    rw [List.append_nil] at this
    unfold sorts
    rw [List.length_reverse, this]
  have hr : (sorts ltInt (l.filter keepI)).reverse = recP l := List.reverse_reverse _
  have hq : (recP l).length = (l.filter keepI).length := by rw [← hr, List.length_reverse, hs]
  repeat (first|(refine jl ?_;first|refine j1 ?_|refine j4 ?_)|(refine jc ?_;first|refine c1 ?_|refine c2 ?_))
  refine lj_calls rfl rfl rfl (q_clonei nl full l (by omega) _) (fun r σ' hr => ?_) (by rintro x σ' ⟨_, _, h, _⟩; cases h)
  obtain ⟨w, hw, hr1, hr2⟩ := hr
  cases hr1
  subst hr2
  refine lj_to rfl rfl rfl (q_deletei (St.set_same _ _ _) (by omega)) ?_
  rw [St.set_set]
  have q1 := q_sort (σ := σ.set w (.row 1 3 ((l.filter keepI).map int1))) (St.set_same _ _ _) hf
  rw [St.set_set] at q1
  have q2 := q_reverse (σ := σ.set w (.row 1 3 ((sorts ltInt (l.filter keepI)).map int1))) (St.set_same _ _ _) (by omega)
  rw [St.set_set, hr, hs] at q2
  repeat' (first|(first|(refine jl ?_;first|refine j1 ?_|refine j4 ?_|refine lj_to rfl rfl rfl q1 ?_|refine lj_to rfl rfl rfl q2 ?_)|(refine jc ?_;first|refine c1 ?_|refine c2 ?_|refine c7 ?_)|refine n11 ?_))
  have hm : ((recP l).map int1).length = (l.filter keepI).length := by rw [List.length_map, hq]
  exact gvs (by (repeat' (first | exact finl_nil | apply finl_cons | exact Fin.refl _ _ _ | apply fin_pk2 | apply fin_pk3 | apply fin_agg | apply fin_tup | exact fin_nil | exact fin_sl rfl | exact fin_fz (by exact lkp) (by first | assumption | exact St.ns1 (by assumption) | exact St.ns2 (by assumption) | exact St.ns3 (by assumption) | exact St.ns4 (by assumption) | exact St.ns5 (by assumption) | exact St.ns6 (by assumption) | exact St.ns7 (by assumption) | exact St.ns8 (by assumption) | exact St.ns9 (by assumption) | exact St.ns10 (by assumption) | exact St.ns11 (by assumption) | exact St.ns12 (by assumption) | exact St.ns13 (by assumption) | exact St.ns14 (by assumption) | exact St.ns10 (by assumption) | exact St.ns11 (by assumption) | exact St.ns12 (by assumption) | exact St.ns13 (by assumption) | exact St.ns14 (by assumption)) (by first | exact rfl | assumption | (simp only [List.length_map, List.length_append, List.length_cons, List.length_nil]; done) | (simp only [List.length_map, List.length_append, List.length_cons, List.length_nil]; omega)) rfl (fun _ => rfl) | exact fin_eq rfl))) (St.le_any (St.le_refl _))
end Go.Proofs.Ytbpoeggmpjepfaa.Ab

/- Abstract values over the model's memory: regions that draw their order, in which some operations turn the store, one behind the other, and all else stands where it may. -/
set_option linter.unusedVariables false
set_option linter.unusedSimpArgs false
set_option maxRecDepth 20000
namespace Go.Proofs.Ytbpoeggmpjepfaa.Ab
open Go
/-- An operation in the walk: its place; whether it turns the store; whether the next one that does, if there is one, stands behind it. -/
structure WO where
  i : Nat
  eff : Bool
  ex : Bool
  o : Oper
def nextE (es : List Nat) : List Nat → Option Nat
  | [] => none
  | i :: r => bif inN i es then some i else nextE es r
def exB (c : List (List Nat)) (i : Nat) : Option Nat → Bool
  | some e => inN i (c.getD e [])
  | none => true
def wos (l : List Oper) (c : List (List Nat)) (es : List Nat) : List Nat → List WO
  | [] => []
  | i :: r => match l[i]? with
    | some o => ⟨i, inN i es, exB c i (nextE es r), o⟩ :: wos l c es r
    | none => wos l c es r
/-- How many of some stand ahead of it. -/
def cntE (c : List (List Nat)) (j : Nat) : List Nat → Nat
  | [] => 0
  | e :: r => bif inN e (c.getD j []) then cntE c j r + 1 else cntE c j r
def layE (c : List (List Nat)) (es : List Nat) (k : Nat) : List Nat → List Nat
  | [] => []
  | j :: r => bif inN j es || !Nat.beq (cntE c j es) k then layE c es k r else j :: layE c es k r
def ordE (n : Nat) (c : List (List Nat)) (es : List Nat) : Nat → List Nat → List Nat
  | k, [] => layE c es k (List.range n)
  | k, e :: r => layE c es k (List.range n) ++ e :: ordE n c es (k + 1) r
def subN : List Nat → List Nat → Bool
  | [], _ => true
  | j :: r, d => bif inN j d then subN r d else false
def allAn (c : List (List Nat)) (e : Nat) : List Nat → Bool
  | [] => true
  | j :: r => bif inN e (c.getD j []) then allAn c e r else false
def chkL (c : List (List Nat)) (es : List Nat) (n : Nat) : List Nat → List Nat → Bool
  | d, [] => true
  | d, i :: r => bif Nat.blt i n then bif subN (c.getD i []) d then bif inN i d then false else bif (bif inN i es then allAn c i r else true) then chkL c es n (i :: d) r else false else false else false
theorem subN_iff : ∀ {l d : List Nat}, subN l d = true → ∀ j ∈ l, j ∈ d
  | [], d, _, j, h => by cases h
  | x :: r, d, h, j, hj => by
    unfold subN at h
    cases hx : inN x d with
    | false => rw [hx] at h; cases h
    | true =>
      rw [hx, cond_true] at h
      rcases List.mem_cons.1 hj with rfl | hj
      · exact (inN_iff _ _).1 hx
      · exact subN_iff h j hj
theorem memB_iff {c : List (List Nat)} {i j : Nat} : memB c i j = true ↔ j ∈ c.getD i [] := by
  unfold memB
  rw [List.contains_iff_mem]
theorem allAn_iff {c : List (List Nat)} {e : Nat} : ∀ {l : List Nat}, allAn c e l = true → ∀ j ∈ l, memB c j e = true
  | [], _, j, h => by cases h
  | x :: r, h, j, hj => by
    unfold allAn at h
    cases hx : inN e (c.getD x []) with
    | false => rw [hx] at h; cases h
    | true =>
      rw [hx, cond_true] at h
      rcases List.mem_cons.1 hj with rfl | hj
      · exact memB_iff.2 ((inN_iff _ _).1 hx)
      · exact allAn_iff h j hj
theorem chkL_cons {c : List (List Nat)} {es : List Nat} {n i : Nat} {d r : List Nat} (h : chkL c es n d (i :: r) = true) : i < n ∧ (∀ j, memB c i j = true → j ∈ d) ∧ i ∉ d ∧ (i ∈ es → ∀ j ∈ r, memB c j i = true) ∧ chkL c es n (i :: d) r = true := by
  unfold chkL at h
  cases h1 : Nat.blt i n with
  | false => rw [h1] at h; cases h
  | true =>
    rw [h1, cond_true] at h
    cases h2 : subN (c.getD i []) d with
    | false => rw [h2] at h; cases h
    | true =>
      rw [h2, cond_true] at h
      cases h3 : inN i d with
      | true => rw [h3] at h; cases h
      | false =>
        rw [h3, cond_false] at h
        have h3' : i ∉ d := fun hm => by rw [(inN_iff _ _).2 hm] at h3; cases h3
        cases h4 : (bif inN i es then allAn c i r else true) with
        | false => rw [h4] at h; cases h
        | true =>
          rw [h4, cond_true] at h
          refine ⟨Nat.blt_eq.mp h1, fun j hj => subN_iff h2 j (memB_iff.1 hj), h3', fun hi => ?_, h⟩
          rw [(inN_iff _ _).2 hi, cond_true] at h4
          exact allAn_iff h4
theorem chkL_notin {c : List (List Nat)} {es : List Nat} {n : Nat} : ∀ {r d : List Nat}, chkL c es n d r = true → ∀ j ∈ r, j ∉ d
  | [], d, _, j, h => by cases h
  | i :: r, d, h, j, hj => by
    obtain ⟨_, _, h3, _, h5⟩ := chkL_cons h
    rcases List.mem_cons.1 hj with rfl | hj
    · exact h3
    · exact fun hd => chkL_notin h5 j hj (List.mem_cons_of_mem _ hd)
section
variable {P : Program} {l : List Oper} {c : List (List Nat)} {es : List Nat} {nt : Nat} {fr : Fr} {K : Fr → St → Prop}
theorem FrameOk.src2 {F : Fr} {X : Nat → Prop} {val : Nat → AV} (hp : PlanL l nt c) (hF : FrameOk l fr X val F) {i : Nat} {o : Oper} (ho : l[i]? = some o) (hX : ∀ j, memB c i j = true → X j) (hX2 : ∀ j, X j → j ≠ i ∧ memB c j i = false) :
    ∀ t a, t ∈ o.looksAt l.toArray → lk F t = some a → Src l.toArray fr val i t a := fun t a ht hta => by
  have := hp.src i o ho t ht
  simp only [srcB, Bool.or_eq_true, List.any_eq_true, List.all_eq_true, List.mem_range, Bool.and_eq_true, beq_iff_eq, Bool.not_eq_true', beq_eq_false_iff_ne] at this
  rcases this with ⟨j, hj, ⟨hjt, hij⟩, hji⟩ | hall
  · obtain ⟨oj, hoj, hojt⟩ := dstOf_some hjt
    have hxj := hX j hij
    rcases hF t a hta with ⟨j', h1, h2, h3⟩ | ⟨h1, h2⟩
    · have := hp.dist j j' t hjt h2
      subst this
      exact .inl ⟨j', oj, by simpa using hoj, hojt, hp.dep i j' hij, h3⟩
    · exact absurd hjt (h1 j hxj)
  · have hw : ∀ j, dstOf l j = some t → memB c j i = true ∨ j = i := fun j hj => by
      obtain ⟨oj, hoj, _⟩ := dstOf_some hj
      rcases hall j (List.getElem?_eq_some_iff.1 hoj).1 with (h' | h') | h'
      · exact absurd hj h'
      · exact .inl h'
      · exact .inr (by simpa using h')
    rcases hF t a hta with ⟨j', h1, h2, h3⟩ | ⟨h1, h2⟩
    · obtain ⟨h4, h5⟩ := hX2 j' h1
      rcases hw j' h2 with h6 | h6
      · rw [h5] at h6; cases h6
      · exact absurd h6 h4
    · exact .inr ⟨fun j oj hoj hjt => (hw j (dstOf_of (by simpa using hoj) hjt)).imp (hp.dep j i) id, h2⟩
def OnL (P : Program) (ex : Bool) (σ : St) (o : Oper) (E : Operand → Option AV) (r : AV) : Prop :=
  (∀ σ', OpW P o E σ' (fun r' σ2 => r' = r ∧ σ2 = σ')) ∨ (ex = true ∧ OpW P o E σ (fun r' σ2 => r' = r ∧ σ2 = σ))
def FactY (P : Program) (l : List Oper) (ex : Bool) (σ : St) (F : Fr) (o : Oper) (r : AV) : Prop :=
  match o.guard with
  | none => OnL P ex σ o (ev F) r
  | some (g, want) => ∃ t b cc, dstOf l g = some t ∧ lk F t = some b ∧ gc b want = some cc ∧ ((cc = true → OnL P ex σ o (ev F) r) ∧ (cc = false → ∀ k, Rep k r undef))
theorem FactY.any {ex : Bool} {σ σ' : St} {F : Fr} {o : Oper} {r : AV} (h : FactY P l ex σ F o r) (he : ex = false) : FactY P l false σ' F o r := by
  have hon : OnL P ex σ o (ev F) r → OnL P false σ' o (ev F) r := fun h => by
    rcases h with h | ⟨h1, h2⟩
    · exact .inl h
    · rw [he] at h1; cases h1
  unfold FactY at h ⊢
  cases hg : o.guard with
  | none => rw [hg] at h; exact hon h
  | some p =>
    obtain ⟨g, want⟩ := p
    rw [hg] at h
    obtain ⟨t, b, cc, h1, h2, h3, h4, h5⟩ := h
    exact ⟨t, b, cc, h1, h2, h3, fun e => hon (h4 e), h5⟩
def EffG (l : List Oper) (F : Fr) (o : Oper) : Prop := o.guard = none ∨ ∃ g want t b, o.guard = some (g, want) ∧ dstOf l g = some t ∧ lk F t = some b ∧ gc b want = some true
/-- The walk. -/
inductive LY (P : Program) (l : List Oper) (K : Fr → St → Prop) : List WO → Fr → St → Prop
  | nil {F : Fr} {σ : St} (h : K F σ) : LY P l K [] F σ
  | pure {w : WO} {rest : List WO} {F : Fr} {σ : St} {r : AV} (he : w.eff = false) (hf : FactY P l w.ex σ F w.o r) (h : LY P l K rest (Ab.put F w.o.dst (some r)) σ) : LY P l K (w :: rest) F σ
  | eff {w : WO} {rest : List WO} {F : Fr} {σ : St} {R : AV → St → Prop} (he : w.eff = true) (hg : EffG l F w.o) (hw : OpW P w.o (ev F) σ R) (h : ∀ r σ1, R r σ1 → LY P l K rest (Ab.put F w.o.dst (some r)) σ1) : LY P l K (w :: rest) F σ
def FactsL (P : Program) (l : List Oper) (c : List (List Nat)) (es : List Nat) (fr : Fr) (done todo : List Nat) (val : Nat → AV) (listed : Array Bool) (cur : St) : Prop :=
  ∀ x ∈ done, listed.getD x false = false → ∀ o, l[x]? = some o → ∃ (F' : Fr) (D : Nat → Prop) (ex : Bool), FrameOk l fr D val F' ∧ (∀ j, D j → j ∈ done ∧ j ≠ x ∧ memB c j x = false) ∧ (∀ j, memB c x j = true → D j) ∧ FactY P l ex cur F' o (val x) ∧ (ex = true → nextE es todo = none ∨ ∃ e, nextE es todo = some e ∧ memB c e x = true)
structure GoodS (P : Program) (l : List Oper) (c : List (List Nat)) (es : List Nat) (fr : Fr) (K : Fr → St → Prop) (val : Nat → AV) (listed : Array Bool) (cur : St) (done todo : List Nat) (F : Fr) : Prop where
  chk : chkL c es l.length done todo = true
  all : ∀ j, j < l.length → j ∈ done ∨ j ∈ todo
  cl : ∀ x ∈ done, ∀ y, memB c x y = true → y ∈ done
  fo : FrameOk l fr (· ∈ done) val F
  ly : LY P l K (wos l c es todo) F cur
  facts : FactsL P l c es fr done todo val listed cur
  unl : ∀ x ∈ todo, listed.getD x false = false
def GoodL (P : Program) (l : List Oper) (c : List (List Nat)) (es : List Nat) (fr : Fr) (K : Fr → St → Prop) (val : Nat → AV) (listed : Array Bool) (cur : St) : Prop :=
  ∃ done todo F, GoodS P l c es fr K val listed cur done todo F ∧ (todo = [] ∨ ∃ e r, todo = e :: r ∧ e ∈ es)
theorem wos_cons {i : Nat} {r : List Nat} {o : Oper} (h : l[i]? = some o) : wos l c es (i :: r) = ⟨i, inN i es, exB c i (nextE es r), o⟩ :: wos l c es r := by
  rw [wos, h]
theorem advL {listed : Array Bool} {cur : St} : ∀ (todo done : List Nat) (F : Fr) (val : Nat → AV), GoodS P l c es fr K val listed cur done todo F → ∃ val' : Nat → AV, (∀ j, j ∉ todo → val' j = val j) ∧ GoodL P l c es fr K val' listed cur
  | [], done, F, val, h => ⟨val, fun _ _ => rfl, done, [], F, h, .inl rfl⟩
  | i :: r, done, F, val, h => by
    by_cases hi : i ∈ es
    · exact ⟨val, fun _ _ => rfl, done, i :: r, F, h, .inr ⟨i, r, rfl, hi⟩⟩
    · obtain ⟨c1, c2, c3, _, c5⟩ := chkL_cons h.chk
      obtain ⟨o, ho⟩ : ∃ o, l[i]? = some o := ⟨_, List.getElem?_eq_getElem c1⟩
      have hie : inN i es = false := by
        cases hh : inN i es with
        | false => rfl
        | true => exact absurd ((inN_iff _ _).1 hh) hi
      have hly := h.ly
      rw [wos_cons ho] at hly
      cases hly with
      | eff he _ _ _ => dsimp only at he; rw [hie] at he; cases he
      | @pure _ _ _ _ v he hf hr =>
        dsimp only at hf hr
        have hne : ∀ j, j ∈ done → (fun j => if j = i then v else val j) j = val j := fun j hj => if_neg fun e : j = i => c3 (e ▸ hj)
        have hd : dstOf l i = o.dst := by unfold dstOf; rw [ho]
        have hF : FrameOk l fr (· ∈ i :: done) (fun j => if j = i then v else val j) (Ab.put F o.dst (some v)) := by
          have h6 := ((h.fo.congr (val' := fun j => if j = i then v else val j) (fun _ => Iff.rfl) hne).put i).congr (X' := (· ∈ i :: done)) (val' := fun j => if j = i then v else val j) (fun j => by rw [List.mem_cons]; exact or_comm) (fun _ _ => rfl)
          rw [hd] at h6
          simpa using h6
        have hnx : nextE es (i :: r) = nextE es r := by rw [nextE, hie, cond_false]
        obtain ⟨val', g1, g2⟩ := advL r (i :: done) (Ab.put F o.dst (some v)) (fun j => if j = i then v else val j) ⟨c5, fun j hj => by
            rcases h.all j hj with h | h
            · exact .inl (List.mem_cons_of_mem _ h)
            · rcases List.mem_cons.1 h with rfl | h
              · exact .inl (List.mem_cons_self ..)
              · exact .inr h, fun x hx y hy => by
            rcases List.mem_cons.1 hx with rfl | hx
            · exact List.mem_cons_of_mem _ (c2 y hy)
            · exact List.mem_cons_of_mem _ (h.cl x hx y hy), hF, hr, fun x hx hxl o' ho' => by
            rcases List.mem_cons.1 hx with rfl | hx
            · rw [ho] at ho'; cases ho'
              refine ⟨F, (· ∈ done), _, h.fo.congr (fun _ => Iff.rfl) hne, fun j hj => ⟨List.mem_cons_of_mem _ hj, fun e => c3 (e ▸ hj), ?_⟩, c2, by rw [if_pos rfl]; exact hf, fun he => ?_⟩
              · cases hm : memB c j x with
                | false => rfl
                | true => exact absurd (h.cl j hj x hm) c3
              · cases hn : nextE es r with
                | none => exact .inl rfl
                | some e =>
                  rw [hn] at he
                  exact .inr ⟨e, rfl, memB_iff.2 ((inN_iff _ _).1 he)⟩
            · obtain ⟨F', D, ex, f1, f2, f3, f4, f5⟩ := h.facts x hx hxl o' ho'
              refine ⟨F', D, ex, f1.congr (fun _ => Iff.rfl) (fun j hj => hne j (f2 j hj).1), fun j hj => ⟨List.mem_cons_of_mem _ (f2 j hj).1, (f2 j hj).2⟩, f3, by have e := hne x hx; dsimp only at e; rw [e]; exact f4, fun he => by rw [← hnx]; exact f5 he⟩, fun x hx => h.unl x (List.mem_cons_of_mem _ hx)⟩
        refine ⟨val', fun j hj => ?_, g2⟩
        rw [g1 j (fun hm => hj (List.mem_cons_of_mem _ hm))]
        exact if_neg fun e : j = i => hj (e ▸ List.mem_cons_self ..)
theorem stepL (hpl : PlanL l nt c) {val : Nat → AV} {listed : Array Bool} {cur : St} {i : Nat} {o : Oper} (hsz : listed.size = l.toArray.size) (hgood : GoodL P l c es fr K val listed cur) (hcl : ∀ x y, depT l.toArray x y → listed.getD x false = true → listed.getD y false = true) (hdeps : ∀ y, depT l.toArray i y → listed.getD y false = true) (hun : listed.getD i false = false) (ho : l.toArray[i]? = some o) : StepG P l.toArray fr (GoodL P l c es fr K) val listed cur i o := by
  obtain ⟨done, todo, F, h, htop⟩ := hgood
  have ho' : l[i]? = some o := by simpa using ho
  have hil : i < l.length := (List.getElem?_eq_some_iff.1 ho').1
  have hlt : i < listed.size := by rw [hsz]; simpa using hil
  have hgn : ∀ j, j ≠ i → (listed.setIfInBounds i true).getD j false = listed.getD j false := fun j hj => getD_set_ne false (Ne.symm hj)
  by_cases hid : i ∈ done
  · obtain ⟨F', D, ex, f1, f2, f3, f4, f5⟩ := h.facts i hid hun o ho'
    have hgood : GoodL P l c es fr K val (listed.setIfInBounds i true) cur := by
      refine ⟨done, todo, F, ⟨h.chk, h.all, h.cl, h.fo, h.ly, fun x hx hxl o' ho' => h.facts x hx (set_false hxl hlt).2 o' ho', fun x hx => ?_⟩, htop⟩
      rw [hgn x fun e => chkL_notin h.chk x hx (e ▸ hid)]
      exact h.unl x hx
    have hon : ∀ {E : Operand → Option AV}, OnL P ex cur o E (val i) → OpW P o E cur (fun r σ' => ∃ val' : Nat → AV, (∀ j, listed.getD j false = true → val' j = val j) ∧ r = val' i ∧ GoodL P l c es fr K val' (listed.setIfInBounds i true) σ') := fun {E} hO => by
      have hO' : OpW P o E cur (fun r' σ2 => r' = val i ∧ σ2 = cur) := by
        rcases hO with h | ⟨_, h⟩
        · exact h cur
        · exact h
      exact hO'.mono fun r σ' ⟨e1, e2⟩ => ⟨val, fun _ _ => rfl, e1, e2 ▸ hgood⟩
    refine ⟨F', f1.src2 hpl ho' f3 fun j hj => (f2 j hj).2, ?_⟩
    unfold FactY at f4
    cases hg : o.guard with
    | none => rw [hg] at f4; exact .inl ⟨rfl, hon f4⟩
    | some p =>
      obtain ⟨g, want⟩ := p
      rw [hg] at f4
      obtain ⟨t, b, cc, h1, h2, h3, h4, h5⟩ := f4
      obtain ⟨og, hog, hogt⟩ := dstOf_some h1
      exact .inr ⟨g, want, t, b, cc, rfl, by simp [hog, hogt], h2, h3, fun e => hon (h4 e), fun e => ⟨hgood, fun k => h5 e k⟩⟩
  · rcases htop with rfl | ⟨e, r, rfl, hee⟩
    · rcases h.all i hil with h | h
      · exact absurd h hid
      · cases h
    · obtain ⟨c1, c2, c3, c4, c5⟩ := chkL_cons h.chk
      have hie : i = e := by
        rcases h.all i hil with h1 | h1
        · exact absurd h1 hid
        · rcases List.mem_cons.1 h1 with h1 | h1
          · exact h1
          · have := hdeps e (hpl.dep _ _ (c4 hee i h1))
            rw [h.unl e (List.mem_cons_self ..)] at this; cases this
      subst hie
      have hly := h.ly
      rw [wos_cons ho'] at hly
      cases hly with
      | pure he _ _ => dsimp only at he; rw [(inN_iff _ _).2 hee] at he; cases he
      | @eff _ _ _ _ R he hg hw hr =>
        dsimp only at hg hw hr
        have key : OpW P o (ev F) cur (fun r σ' => ∃ val' : Nat → AV, (∀ j, listed.getD j false = true → val' j = val j) ∧ r = val' i ∧ GoodL P l c es fr K val' (listed.setIfInBounds i true) σ') := by
          refine hw.mono fun v σ1 hR => ?_
          have hne : ∀ j, j ∈ done → (fun j => if j = i then v else val j) j = val j := fun j hj => if_neg fun e : j = i => c3 (e ▸ hj)
          have hd : dstOf l i = o.dst := by unfold dstOf; rw [ho']
          have hF : FrameOk l fr (· ∈ i :: done) (fun j => if j = i then v else val j) (Ab.put F o.dst (some v)) := by
            have h6 := ((h.fo.congr (val' := fun j => if j = i then v else val j) (fun _ => Iff.rfl) hne).put i).congr (X' := (· ∈ i :: done)) (val' := fun j => if j = i then v else val j) (fun j => by rw [List.mem_cons]; exact or_comm) (fun _ _ => rfl)
            rw [hd] at h6
            simpa using h6
          obtain ⟨val', g1, g2⟩ := advL (P := P) (K := K) (es := es) (fr := fr) (listed := listed.setIfInBounds i true) (cur := σ1) r (i :: done) (Ab.put F o.dst (some v)) (fun j => if j = i then v else val j) ⟨c5, fun j hj => by
              rcases h.all j hj with h | h
              · exact .inl (List.mem_cons_of_mem _ h)
              · rcases List.mem_cons.1 h with rfl | h
                · exact .inl (List.mem_cons_self ..)
                · exact .inr h, fun x hx y hy => by
              rcases List.mem_cons.1 hx with rfl | hx
              · exact List.mem_cons_of_mem _ (c2 y hy)
              · exact List.mem_cons_of_mem _ (h.cl x hx y hy), hF, hr v σ1 hR, fun x hx hxl o' ho2 => by
              obtain ⟨k1, k2⟩ := set_false hxl hlt
              rcases List.mem_cons.1 hx with e | hx
              · exact absurd e k1
              · obtain ⟨F', D, ex, f1, f2, f3, f4, f5⟩ := h.facts x hx k2 o' ho2
                have hex : ex = false := by
                  cases hex : ex with
                  | false => rfl
                  | true =>
                    have f5 := f5 hex
                    rw [nextE, (inN_iff _ _).2 hee, cond_true] at f5
                    obtain ⟨e', q1, q2⟩ := f5.resolve_left (by simp)
                    cases q1
                    have := hdeps x (hpl.dep _ _ q2)
                    rw [k2] at this; cases this
                exact ⟨F', D, false, f1.congr (fun _ => Iff.rfl) (fun j hj => hne j (f2 j hj).1), fun j hj => ⟨List.mem_cons_of_mem _ (f2 j hj).1, (f2 j hj).2⟩, f3, by have e := hne x hx; dsimp only at e; rw [e]; exact f4.any hex, fun he => by cases he⟩, fun x hx => by
              have hxi : x ≠ i := fun e => chkL_notin c5 x hx (e ▸ List.mem_cons_self ..)
              rw [hgn x hxi]
              exact h.unl x (List.mem_cons_of_mem _ hx)⟩
          have hir : i ∉ r := fun hm => chkL_notin c5 i hm (List.mem_cons_self ..)
          refine ⟨val', fun j hj => ?_, ?_, g2⟩
          · have hji : j ≠ i := fun e => by rw [e, hun] at hj; cases hj
            rw [g1 j fun hm => by rw [h.unl j (List.mem_cons_of_mem _ hm)] at hj; cases hj]
            exact if_neg hji
          · rw [g1 i hir]
            exact (if_pos rfl).symm
        refine ⟨F, h.fo.src2 hpl ho' c2 fun j hj => ⟨fun e => c3 (e ▸ hj), ?_⟩, ?_⟩
        · cases hm : memB c j i with
          | false => rfl
          | true => exact absurd (h.cl j hj i hm) c3
        · rcases hg with hg | ⟨g, want, t, b, hg, h1, h2, h3⟩
          · exact .inl ⟨hg, key⟩
          · obtain ⟨og, hog, hogt⟩ := dstOf_some h1
            exact .inr ⟨g, want, t, b, true, hg, by simp [hog, hogt], h2, h3, fun _ => key, fun e => by cases e⟩
theorem cj_lay {id : Nat} {Q : Post} {σ : St} {ord : List Nat} (hmix : P.follows .mixedOrders = true) (hc : clo l [] = c) (hp : planB l nt c = true) (hch : chkL c es l.length [] ord = true) (hall : (List.range l.length).all (fun j => inN j ord) = true) (hly : LY P l (fun F s => Q .normal F s) (wos l c es ord) fr σ) : CJ P nt (.region id l.toArray true) Q fr σ := fun k a hσ hk hz hf => by
  have hpl := planL hc hp
  have hstep : ∀ (val : Nat → AV) (listed : Array Bool) (cur : St) (i : Nat) (o : Oper), listed.size = l.toArray.size → GoodL P l c es fr (fun F s => Q .normal F s) val listed cur → (∀ x y, depT l.toArray x y → listed.getD x false = true → listed.getD y false = true) → (∀ y, depT l.toArray i y → listed.getD y false = true) → listed.getD i false = false → l.toArray[i]? = some o → StepG P l.toArray fr (GoodL P l c es fr (fun F s => Q .normal F s)) val listed cur i o :=
    fun val listed cur i o hsz hg hcl hdeps hun ho => stepL hpl hsz hg hcl hdeps hun ho
  obtain ⟨hok', hst'⟩ := hk.drawn (k.w.drawn + 1)
  refine wp_region_any hmix ?_
  have hrepl : ∀ x, (Array.replicate l.toArray.size false).getD x false = false := fun x => by
    rw [Array.getD_eq_getD_getElem?, Array.getElem?_replicate]
    split <;> rfl
  obtain ⟨val0, _, hgood0⟩ := advL (P := P) (c := c) (es := es) (fr := fr) (K := fun F s => Q .normal F s) (listed := Array.replicate l.toArray.size false) (cur := σ) ord [] fr (fun _ => .tup []) ⟨hch, fun j hj => .inr ((inN_iff _ _).1 (List.all_eq_true.1 hall j (List.mem_range.2 hj))), fun x hx => (by cases hx), (FrameOk.start l fr _).congr (fun j => by simp) (fun _ _ => rfl), hly, fun x hx => (by cases hx), fun x _ => hrepl x⟩
  have := run_planG (fr := fr) (Q := Q) (k0 := k) (a0 := a) hpl.plan hstep (fun val listed cur k' a' hsz hg hall hs hdf hσ' hok hz' hnew hold => ?_) l.toArray.size (Array.replicate l.toArray.size false) { k with w := { k.w with drawn := k.w.drawn + 1 } } a val0 σ (by simp) (by simp) hgood0
    ⟨hσ, hok', hz, (fun i j hi => by rw [hrepl] at hi; cases hi), fun j oj t _ _ h => (by rw [hrepl] at h; cases h), fun t av h _ => (hf.step hst') t av h⟩ hst' rfl
  · exact this
  · obtain ⟨done, todo, F, h, htop⟩ := hg
    have ht : todo = [] := by
      rcases htop with h | ⟨e, r, rfl, _⟩
      · exact h
      · obtain ⟨c1, _⟩ := chkL_cons h.chk
        have := hall e (by simpa using c1)
        rw [h.unl e (List.mem_cons_self ..)] at this; cases this
    subst ht
    have hly := h.ly
    cases hly with
    | nil hK =>
      refine ⟨hdf, hz'.trans hz.symm, k', .normal, F, rfl, hok, hs, fun t av ht => ?_, trivial, by rw [hσ']; exact hK⟩
      rcases h.fo t av ht with ⟨j, h1, h2, rfl⟩ | ⟨h1, h2⟩
      · obtain ⟨oj, hoj, hojt⟩ := dstOf_some h2
        exact hnew j oj t (by simpa using hoj) hojt
      · exact hold t av h2 fun j oj hoj hojt => h1 j (by
          have hj := (List.getElem?_eq_some_iff.1 (show l[j]? = some oj by simpa using hoj)).1
          rcases h.all j hj with h | h
          · exact h
          · cases h) (dstOf_of (by simpa using hoj) hojt)
end
end Go.Proofs.Ytbpoeggmpjepfaa.Ab

/- Abstract values over the model's memory: the steps of AbLy's regions. -/
set_option linter.unusedVariables false
set_option linter.unusedSimpArgs false
set_option maxRecDepth 20000
namespace Go.Proofs.Ytbpoeggmpjepfaa.Ab
open Go
def wosO (l : List Oper) (c : List (List Nat)) (es : List Nat) : List Nat → Option (List WO)
  | [] => some []
  | i :: r => match l[i]?, wosO l c es r with
    | some o, some ws => some (⟨i, inN i es, exB c i (nextE es r), o⟩ :: ws)
    | _, _ => none
theorem wosO_eq {l : List Oper} {c : List (List Nat)} {es : List Nat} : ∀ {ord : List Nat} {ws : List WO}, wosO l c es ord = some ws → wos l c es ord = ws
  | [], ws, h => by cases h; rfl
  | i :: r, ws, h => by
    unfold wosO at h
    unfold wos
    cases ho : l[i]? with
    | none => rw [ho] at h; cases h
    | some o =>
      cases hr : wosO l c es r with
      | none => rw [ho, hr] at h; cases h
      | some w =>
        rw [ho, hr] at h
        cases h
        dsimp only
        rw [wosO_eq hr]
/-- A nil slice, whatever its kind. -/
theorem Wk.nilk {f : Bool} {s : Nat} (sz : Nat) : Wk (.sl (some true) f s []) (.sl none false sz []) := fun k u h => Wk.sl _ _ _ _ k u (reNil_rep (r := some (.sl (some true) f s [])) (sz := sz) (fun b hb => by cases hb; exact h) rfl)
/-- A nil slice that is made is a row of our own. -/
theorem opw_ghostnil {P : Program} {o : Oper} {E : Operand → Option AV} {σ : St} {f : Bool} {s : Nat} (sz : Nat) (et : TypeId) (h : OpW P o E σ (fun r σ' => r = .sl (some true) f s [] ∧ σ' = σ)) : OpW P o E σ (fun r σ' => ∃ id, σ id = none ∧ r = .osl id sz 0 0 ∧ σ' = σ.set id (.row sz et [])) := fun k a K Q hσ hk hr hK => h k a K Q hσ hk hr fun k' v r hok hst hR hrep => by
  obtain ⟨rfl, hσ'⟩ := hR
  obtain ⟨hok2, hst2⟩ := hok.nilRow sz et
  have hv : v = .slice none 0 0 := by
    cases hrep with
    | slnil => rfl
    | sle hn => exact absurd rfl hn
    | sl hn => exact absurd rfl hn
  subst hv
  exact hK { k' with ρ := fun x => if x = k'.top then none else k'.ρ x, top := k'.top + 1, σ := k'.σ.set k'.top (.row sz et []) } _ (.osl k'.top sz 0 0) hok2 (hst.trans hst2) ⟨k'.top, hσ' ▸ hok.fresh, rfl, by rw [hσ']⟩ (.oslnil (by simp) (by simp))
/-- A method's value is called. -/
theorem opw_callb {P : Program} {dst : Option Tmp} {ty : TypeId} {pos : String} {aft : Array Edge} {gd : Option (Nat × Bool)} {f : FuncId} {x : Operand} {xs : Array Operand} {ts : Array TypeId} {fr : Fr} {pre us : List AV} {σ : St} {r : AV} (hx : ev fr x = some (.bf f pre)) (has : evs fr xs.toList = some us) (hent : entered P f = true) (hp : Pure P f (pre ++ us) r) : OpW P ⟨dst, .call { callee := .value x, args := xs, argTypes := ts }, ty, pos, aft, gd⟩ (ev fr) σ (fun r' σ' => r' = r ∧ σ' = σ) :=
  OpW.forget fun k a K Q hσ hk hr hK => by
    have hargs := evs_reps_on hr xs.toList us (fun x hx => by simp [Op.operands, Call.operands]; exact .inr (by simpa using hx)) (evs_mapM fr _ _ has)
    have hxr := hr x (by simp [Op.operands, Call.operands]) _ hx
    generalize hu : a.eval x = u at hxr
    cases hxr with
    | bf hl hcap =>
      rename_i vs
      have hcaps : Reps k pre vs.toList := ⟨by simp [hl], fun j b v hj hv => hcap j b v hj (by simpa using hv)⟩
      have hrun : (execOp a.eval ⟨dst, .call { callee := .value x, args := xs, argTypes := ts }, ty, pos, aft, gd⟩).run P k.w = .ok (.enter f (vs ++ xs.map a.eval)) k.w := by
        unfold execOp
        simp only [resolve, hu, Deferred.ofValue, invoke, Sem.run_bind, Sem.run_pure, Result.andThen_ok, run_callFunc hent]
        simp
      unfold Oper.wp
      rw [hrun]
      simp only [Oper.upon]
      have hvs : (vs ++ xs.map a.eval) = (vs.toList ++ xs.toList.map a.eval).toArray := by simp
      rw [hvs]
      refine (hp σ k _ hσ hk (hcaps.append hargs)).mono fun e w' ⟨k', e', h1, h2, h3, h4, h5⟩ => ?_
      subst h1
      obtain ⟨h5, h6⟩ := h5
      subst h5
      cases e with
      | returned v => exact hK k' v r h2 h3 ⟨rfl, h6⟩ h4
      | panicked ch => exact h4.elim
      | outgrown => exact h4.elim
section
variable {P : Program} {l : List Oper} {c : List (List Nat)} {es : List Nat} {nt : Nat} {ef ex : Bool} {σ : St} {K : Fr → St → Prop} {i : Nat} {fr : Fr} {rest : List WO} {t : Tmp} {op : Op} {ty : TypeId} {pos : String} {aft : Array Edge} {av : AV} {dst : Option Tmp}
/-- A region that draws its order; the operations that turn the store, and the order of the walk. -/
theorem cqy (es ord : List Nat) {ws : List WO} {id : Nat} {Q : Post} (h : LY P l (fun F s => Q .normal F s) ws fr σ) (hc : clo l [] = c := by exact rfl) (hw : wosO l c es ord = some ws := by exact rfl) (hmix : P.follows .mixedOrders = true := by kernel_rfl) (hp : planB l nt c = true := by kernel_rfl) (hch : chkL c es l.length [] ord = true := by kernel_rfl) (hall : (List.range l.length).all (fun j => inN j ord) = true := by kernel_rfl) : CJ P nt (.region id l.toArray true) Q fr σ :=
  cj_lay hmix hc hp hch hall (by rw [wosO_eq hw]; exact h)
theorem yl {ws : List WO} (h : LY P l K ws fr σ) : LY P l K ws fr σ := h
theorem ynil (h : K fr σ) : LY P l K [] fr σ := .nil h
theorem fy_none {o : Oper} {r : AV} (hg : o.guard = none) (h : OnL P ex σ o (ev fr) r) : FactY P l ex σ fr o r := by
  unfold FactY; rw [hg]; exact h
theorem fy_yes {o : Oper} {r : AV} {g u : Nat} {b : Bool} (hg : o.guard = some (g, b)) (hj : dstOf l g = some u) (hl : lk fr u = some (.v (.bool b))) (h : OnL P ex σ o (ev fr) r) : FactY P l ex σ fr o r := by
  unfold FactY; rw [hg]
  cases b with
  | true => exact ⟨_, _, true, hj, hl, rfl, fun _ => h, fun e => by cases e⟩
  | false => exact ⟨_, _, true, hj, hl, rfl, fun _ => h, fun e => by cases e⟩
theorem fy_q {o : Oper} {r b : AV} {g u : Nat} {w cc : Bool} (hg : o.guard = some (g, w)) (hj : dstOf l g = some u) (hl : lk fr u = some b) (hgc : gc b w = some cc) (h : cc = true → OnL P ex σ o (ev fr) (.mb cc r)) : FactY P l ex σ fr o (.mb cc r) := by
  unfold FactY; rw [hg]
  exact ⟨_, b, cc, hj, hl, hgc, h, fun e k => Rep.mb_false e⟩
theorem ly_n {j u : Nat} {b w : Bool} (he : ef = false) (hj : dstOf l j = some u) (hl : lk fr u = some (.v (.bool b))) (hne : (b == w) = false) (h : LY P l K rest (put fr dst (some (.tup []))) σ) : LY P l K (⟨i, ef, ex, ⟨dst, op, ty, pos, aft, some (j, w)⟩⟩ :: rest) fr σ :=
  .pure he (r := .tup []) (by
    unfold FactY
    have hu : ∀ k, Rep k (.tup []) undef := fun k => .tup (by simp [undef]) (fun j a u h _ => by simp at h)
    cases b <;> cases w <;> first | (cases hne; done) | exact ⟨_, _, false, hj, hl, rfl, (fun e => by cases e), fun _ => hu⟩) h
theorem ly_v (he : ef = false) (hJ : ∀ (σ' : St) (R : Option AV → St → Prop), R (some av) σ' → OpJ P ⟨some t, op, ty, pos, aft, none⟩ (ev fr) σ' R) (h : LY P l K rest ((t, av) :: fr) σ) : LY P l K (⟨i, ef, ex, ⟨some t, op, ty, pos, aft, none⟩⟩ :: rest) fr σ :=
  .pure he (fy_none rfl (.inl fun σ' => opw_of (r := some av) (hJ σ'))) h
theorem ly_vy {j u : Nat} {b : Bool} (he : ef = false) (hj : dstOf l j = some u) (hl : lk fr u = some (.v (.bool b))) (hJ : ∀ (σ' : St) (R : Option AV → St → Prop), R (some av) σ' → OpJ P ⟨some t, op, ty, pos, aft, some (j, b)⟩ (ev fr) σ' R) (h : LY P l K rest ((t, av) :: fr) σ) : LY P l K (⟨i, ef, ex, ⟨some t, op, ty, pos, aft, some (j, b)⟩⟩ :: rest) fr σ :=
  .pure he (fy_yes rfl hj hl (.inl fun σ' => opw_of (r := some av) (hJ σ'))) h
theorem ly_vq {j u : Nat} {w cc : Bool} {b : AV} (he : ef = false) (hj : dstOf l j = some u) (hl : lk fr u = some b) (hgc : gc b w = some cc) (hn : Needs cc fr op.operands.toList) (hJ : cc = true → ∀ (σ' : St) (R : Option AV → St → Prop), R (some av) σ' → OpJ P ⟨some t, op, ty, pos, aft, some (j, w)⟩ (ev (strip fr)) σ' R) (h : LY P l K rest ((t, .mb cc av) :: fr) σ) : LY P l K (⟨i, ef, ex, ⟨some t, op, ty, pos, aft, some (j, w)⟩⟩ :: rest) fr σ :=
  .pure he (fy_q rfl hj hl hgc fun hc => .inl fun σ' => (OpW.strip (o := ⟨some t, op, ty, pos, aft, some (j, w)⟩) hn hc (opw_of (r := some av) (hJ hc σ'))).mb hc) h
theorem ly_vq0 {j u : Nat} {w cc : Bool} {b : AV} (he : ef = false) (hj : dstOf l j = some u) (hl : lk fr u = some b) (hgc : gc b w = some cc) (hJ : cc = true → ∀ (σ' : St) (R : Option AV → St → Prop), R (some av) σ' → OpJ P ⟨some t, op, ty, pos, aft, some (j, w)⟩ (ev fr) σ' R) (h : LY P l K rest ((t, .mb cc av) :: fr) σ) : LY P l K (⟨i, ef, ex, ⟨some t, op, ty, pos, aft, some (j, w)⟩⟩ :: rest) fr σ :=
  .pure he (fy_q rfl hj hl hgc fun hc => .inl fun σ' => (opw_of (r := some av) (hJ hc σ')).mb hc) h
/-- One that reads what is there now. -/
theorem ly_l (he : ef = false) (hm : ex = true) (hJ : ∀ (R : Option AV → St → Prop), R (some av) σ → OpJ P ⟨some t, op, ty, pos, aft, none⟩ (ev fr) σ R) (h : LY P l K rest ((t, av) :: fr) σ) : LY P l K (⟨i, ef, ex, ⟨some t, op, ty, pos, aft, none⟩⟩ :: rest) fr σ :=
  .pure he (fy_none rfl (.inr ⟨hm, opw_of (r := some av) hJ⟩)) h
theorem ly_ly {j u : Nat} {b : Bool} (he : ef = false) (hm : ex = true) (hj : dstOf l j = some u) (hl : lk fr u = some (.v (.bool b))) (hJ : ∀ (R : Option AV → St → Prop), R (some av) σ → OpJ P ⟨some t, op, ty, pos, aft, some (j, b)⟩ (ev fr) σ R) (h : LY P l K rest ((t, av) :: fr) σ) : LY P l K (⟨i, ef, ex, ⟨some t, op, ty, pos, aft, some (j, b)⟩⟩ :: rest) fr σ :=
  .pure he (fy_yes rfl hj hl (.inr ⟨hm, opw_of (r := some av) hJ⟩)) h
theorem ly_lq {j u : Nat} {w cc : Bool} {b : AV} (he : ef = false) (hm : ex = true) (hj : dstOf l j = some u) (hl : lk fr u = some b) (hgc : gc b w = some cc) (hn : Needs cc fr op.operands.toList) (hJ : cc = true → ∀ (R : Option AV → St → Prop), R (some av) σ → OpJ P ⟨some t, op, ty, pos, aft, some (j, w)⟩ (ev (strip fr)) σ R) (h : LY P l K rest ((t, .mb cc av) :: fr) σ) : LY P l K (⟨i, ef, ex, ⟨some t, op, ty, pos, aft, some (j, w)⟩⟩ :: rest) fr σ :=
  .pure he (fy_q rfl hj hl hgc fun hc => .inr ⟨hm, (OpW.strip (o := ⟨some t, op, ty, pos, aft, some (j, w)⟩) hn hc (opw_of (r := some av) (hJ hc))).mb hc⟩) h
/-- One that turns the store. -/
theorem ly_e {o : Oper} {R : AV → St → Prop} (he : ef = true) (hg : o.guard = none) (hw : OpW P o (ev fr) σ R) (h : ∀ r σ1, R r σ1 → LY P l K rest (put fr o.dst (some r)) σ1) : LY P l K (⟨i, ef, ex, o⟩ :: rest) fr σ :=
  .eff he (.inl hg) hw h
theorem ybd {bt : TypeId} {parts : Array (Nat × Operand)} {av0 : AV} (h : LY P l K rest ((t, av) :: fr) σ) (hbs : ef = false := by exact rfl) (hv : valOp P fr (.build bt parts) = some av0 := by exact rfl) (hn : av0 = av := by (first | (apply nf_agg; (repeat' (first | exact nf_nil | apply nf_cons | exact nf_v | exact nf_sl | exact nf_osl | exact nf_ptr | exact nf_fp | exact nf_mp | exact nf_fn | exact nf_ifc | exact nf_it | exact nf_mb | exact rfl))) | exact nf_v | exact nf_sl | exact nf_osl | exact nf_ptr | exact nf_fp | exact nf_mp | exact nf_fn | exact nf_ifc | exact nf_it | exact nf_mb | exact rfl)) : LY P l K (⟨i, ef, ex, ⟨some t, .build bt parts, ty, pos, aft, none⟩⟩ :: rest) fr σ := ly_v hbs (fun _ R hR => opj_valOp (hn ▸ hv) hR) h
theorem ybl {lt : TypeId} {x : Operand} {av0 : AV} (h : LY P l K rest ((t, av) :: fr) σ) (hbs : ef = false := by exact rfl) (hv : valOp P fr (.load lt x) = some av0 := by exact rfl) (hn : av0 = av := by (first | (apply nf_agg; (repeat' (first | exact nf_nil | apply nf_cons | exact nf_v | exact nf_sl | exact nf_osl | exact nf_ptr | exact nf_fp | exact nf_mp | exact nf_fn | exact nf_ifc | exact nf_it | exact nf_mb | exact rfl))) | exact nf_v | exact nf_sl | exact nf_osl | exact nf_ptr | exact nf_fp | exact nf_mp | exact nf_fn | exact nf_ifc | exact nf_it | exact nf_mb | exact rfl)) : LY P l K (⟨i, ef, ex, ⟨some t, .load lt x, ty, pos, aft, none⟩⟩ :: rest) fr σ := ly_v hbs (fun _ R hR => opj_valOp (hn ▸ hv) hR) h
theorem y1 (h : LY P l K rest ((t, av) :: fr) σ) (hbs : ef = false := by exact rfl) (hv : valOp P fr op = some av := by exact rfl) : LY P l K (⟨i, ef, ex, ⟨some t, op, ty, pos, aft, none⟩⟩ :: rest) fr σ := ly_v hbs (fun _ R hR => opj_valOp hv hR) h
theorem y2 {j u : Nat} {b : Bool} {a : AV} (h : LY P l K rest ((t, av) :: fr) σ) (hbs : ef = false := by exact rfl) (hj : dstOf l j = some u := by exact rfl) (hl : lk fr u = some a := by exact rfl) (hb : a = .v (.bool b) := by with_reducible rfl) (hv : valOp P fr op = some av := by exact rfl) : LY P l K (⟨i, ef, ex, ⟨some t, op, ty, pos, aft, some (j, b)⟩⟩ :: rest) fr σ := ly_vy hbs hj (hb ▸ hl) (fun _ R hR => opj_valOp hv hR) h
theorem y3 {j u : Nat} {a : AV} (h : LY P l K rest ((t, .tup []) :: fr) σ) (hbs : ef = false := by exact rfl) (hj : dstOf l j = some u := by exact rfl) (hl : lk fr u = some a := by exact rfl) (hb : a = .v (.bool false) := by with_reducible rfl) : LY P l K (⟨i, ef, ex, ⟨some t, op, ty, pos, aft, some (j, true)⟩⟩ :: rest) fr σ := ly_n (dst := some t) hbs hj (hb ▸ hl) rfl h
theorem y3f {j u : Nat} {a : AV} (h : LY P l K rest ((t, .tup []) :: fr) σ) (hbs : ef = false := by exact rfl) (hj : dstOf l j = some u := by exact rfl) (hl : lk fr u = some a := by exact rfl) (hb : a = .v (.bool true) := by with_reducible rfl) : LY P l K (⟨i, ef, ex, ⟨some t, op, ty, pos, aft, some (j, false)⟩⟩ :: rest) fr σ := ly_n (dst := some t) hbs hj (hb ▸ hl) rfl h
theorem y7 {x y z : Operand} {b vy : Bool} (h : LY P l K rest ((t, .v (.bool (b || vy))) :: fr) σ) (hbs : ef = false := by exact rfl) (hc : ev fr x = some (.v (.bool b)) := by exact rfl) (hx : ev fr y = some (.v (.bool true)) := by exact rfl) (hy : ev fr z = some (.mb (!b) (.v (.bool vy))) := by exact rfl) : LY P l K (⟨i, ef, ex, ⟨some t, .pick x y z, ty, pos, aft, none⟩⟩ :: rest) fr σ := ly_v hbs (fun _ R hR => opj_or rfl hc hx hy hR) h
theorem y8 {x y z : Operand} {b vy : Bool} (h : LY P l K rest ((t, .v (.bool (b && vy))) :: fr) σ) (hbs : ef = false := by exact rfl) (hc : ev fr x = some (.v (.bool b)) := by exact rfl) (hx : ev fr y = some (.mb b (.v (.bool vy))) := by exact rfl) (hy : ev fr z = some (.v (.bool false)) := by exact rfl) : LY P l K (⟨i, ef, ex, ⟨some t, .pick x y z, ty, pos, aft, none⟩⟩ :: rest) fr σ := ly_v hbs (fun _ R hR => opj_and rfl hc hx hy hR) h
theorem y9 {j u : Nat} {w cc : Bool} {a : AV} (h : LY P l K rest ((t, .mb cc av) :: fr) σ) (hbs : ef = false := by exact rfl) (hj : dstOf l j = some u := by exact rfl) (hl : lk fr u = some a := by exact rfl) (hg : gc a w = some cc := by exact rfl) (hv : valOp P (strip fr) op = some av := by exact rfl) (hn : Needs cc fr op.operands.toList := by repeat' (first | exact True.intro | refine And.intro ?_ ?_ | exact nd0 rfl | exact nd1 rfl | exact nd2 rfl | exact nd3 rfl | exact nd4 rfl)) : LY P l K (⟨i, ef, ex, ⟨some t, op, ty, pos, aft, some (j, w)⟩⟩ :: rest) fr σ := ly_vq hbs hj hl hg hn (fun _ _ R hR => opj_valOp hv hR) h
theorem y10 {j u : Nat} {w cc : Bool} {a : AV} {x y z : Operand} {b vy : Bool} (h : LY P l K rest ((t, .mb cc (.v (.bool (b || vy)))) :: fr) σ) (hbs : ef = false := by exact rfl) (hj : dstOf l j = some u := by exact rfl) (hl : lk fr u = some a := by exact rfl) (hg : gc a w = some cc := by exact rfl) (hc : ev fr x = some (.mb cc (.v (.bool b))) := by exact rfl) (hx : ev fr y = some (.v (.bool true)) := by exact rfl) (hy : ev fr z = some (.mb (cc && !b) (.v (.bool vy))) := by exact rfl) : LY P l K (⟨i, ef, ex, ⟨some t, .pick x y z, ty, pos, aft, some (j, w)⟩⟩ :: rest) fr σ := ly_vq0 hbs hj hl hg (fun h σ R hR => opj_orq rfl hc hx hy h hR) h
theorem y11 {j u : Nat} {w cc : Bool} {a : AV} {x y z : Operand} {b vy : Bool} (h : LY P l K rest ((t, .mb cc (.v (.bool (b && vy)))) :: fr) σ) (hbs : ef = false := by exact rfl) (hj : dstOf l j = some u := by exact rfl) (hl : lk fr u = some a := by exact rfl) (hg : gc a w = some cc := by exact rfl) (hc : ev fr x = some (.mb cc (.v (.bool b))) := by exact rfl) (hx : ev fr y = some (.mb (cc && b) (.v (.bool vy))) := by exact rfl) (hy : ev fr z = some (.v (.bool false)) := by exact rfl) : LY P l K (⟨i, ef, ex, ⟨some t, .pick x y z, ty, pos, aft, some (j, w)⟩⟩ :: rest) fr σ := ly_vq0 hbs hj hl hg (fun h σ R hR => opj_andq rfl hc hx hy h hR) h
theorem y14 {lt : TypeId} {x : Operand} {q : Option Nat} {id sz ii jj : Nat} {elem : TypeId} {els : List (List AV)} {el : List AV} {av0 : AV} (h : LY P l K rest ((t, av) :: fr) σ) (hbs : ef = false := by exact rfl) (hx : ev fr x = some (.ptr id sz ii jj) := by exact rfl) (hq : shapeOf P lt = some q := by exact rfl) (hσ : σ id = some (.row sz elem els) := by first | exact St.set_same _ _ _ | assumption | (repeat' (first | exact St.set_same _ _ _ | assumption | refine St.set_keep (by assumption) ?_ | refine St.set_ne2 (by first | assumption | exact St.nn0 (by assumption) | exact St.nn1 (by assumption) | exact St.nn2 (by assumption) | exact St.nn3 (by assumption) | exact St.nn4 (by assumption) | exact St.nn5 (by assumption) | exact St.nn6 (by assumption) | exact St.nn7 (by assumption) | exact St.nn8 (by assumption) | exact St.nn9 (by assumption) | exact St.nn10 (by assumption) | exact St.nn11 (by assumption) | exact St.nn12 (by assumption) | exact St.nn13 (by assumption) | exact Ne.symm (St.nn0 (by assumption)) | exact Ne.symm (St.nn1 (by assumption)) | exact Ne.symm (St.nn2 (by assumption)) | exact Ne.symm (St.nn3 (by assumption)) | exact Ne.symm (St.nn4 (by assumption)) | exact Ne.symm (St.nn5 (by assumption)) | exact Ne.symm (St.nn6 (by assumption)) | exact Ne.symm (St.nn7 (by assumption)) | exact Ne.symm (St.nn8 (by assumption)) | exact Ne.symm (St.nn9 (by assumption)) | exact Ne.symm (St.nn10 (by assumption)) | exact Ne.symm (St.nn11 (by assumption)) | exact Ne.symm (St.nn12 (by assumption)) | exact Ne.symm (St.nn13 (by assumption)) | exact St.ne_ns (by assumption) (by repeat' (first | exact St.sn_of (by assumption) | refine St.setn ?_))) ?_))) (he : els[ii]? = some el := by exact rfl) (hp : load? (el.drop jj) q = some av0 := by exact rfl) (hnn : av0 = av := by (first | (apply nf_agg; (repeat' (first | exact nf_nil | apply nf_cons | exact nf_v | exact nf_sl | exact nf_osl | exact nf_ptr | exact nf_fp | exact nf_mp | exact nf_fn | exact nf_ifc | exact nf_it | exact nf_mb | exact rfl))) | exact nf_v | exact nf_sl | exact nf_osl | exact nf_ptr | exact nf_fp | exact nf_mp | exact nf_fn | exact nf_ifc | exact nf_it | exact nf_mb | exact rfl)) (hm : ex = true := by kernel_rfl) : LY P l K (⟨i, ef, ex, ⟨some t, .load lt x, ty, pos, aft, none⟩⟩ :: rest) fr σ := ly_l hbs hm (fun R hR => opj_load_ptr rfl hq hx hσ he (hnn ▸ hp) hR) h
theorem y15 {lt : TypeId} {x : Operand} {q : Option Nat} {id sz ii jj : Nat} {elem : TypeId} {els : List (List AV)} {el : List AV} {av0 : AV} {j u : Nat} {b : Bool} {a : AV} (h : LY P l K rest ((t, av) :: fr) σ) (hbs : ef = false := by exact rfl) (hj : dstOf l j = some u := by exact rfl) (hl : lk fr u = some a := by exact rfl) (hb : a = .v (.bool b) := by with_reducible rfl) (hx : ev fr x = some (.ptr id sz ii jj) := by exact rfl) (hq : shapeOf P lt = some q := by exact rfl) (hσ : σ id = some (.row sz elem els) := by first | exact St.set_same _ _ _ | assumption | (repeat' (first | exact St.set_same _ _ _ | assumption | refine St.set_keep (by assumption) ?_ | refine St.set_ne2 (by first | assumption | exact St.nn0 (by assumption) | exact St.nn1 (by assumption) | exact St.nn2 (by assumption) | exact St.nn3 (by assumption) | exact St.nn4 (by assumption) | exact St.nn5 (by assumption) | exact St.nn6 (by assumption) | exact St.nn7 (by assumption) | exact St.nn8 (by assumption) | exact St.nn9 (by assumption) | exact St.nn10 (by assumption) | exact St.nn11 (by assumption) | exact St.nn12 (by assumption) | exact St.nn13 (by assumption) | exact Ne.symm (St.nn0 (by assumption)) | exact Ne.symm (St.nn1 (by assumption)) | exact Ne.symm (St.nn2 (by assumption)) | exact Ne.symm (St.nn3 (by assumption)) | exact Ne.symm (St.nn4 (by assumption)) | exact Ne.symm (St.nn5 (by assumption)) | exact Ne.symm (St.nn6 (by assumption)) | exact Ne.symm (St.nn7 (by assumption)) | exact Ne.symm (St.nn8 (by assumption)) | exact Ne.symm (St.nn9 (by assumption)) | exact Ne.symm (St.nn10 (by assumption)) | exact Ne.symm (St.nn11 (by assumption)) | exact Ne.symm (St.nn12 (by assumption)) | exact Ne.symm (St.nn13 (by assumption)) | exact St.ne_ns (by assumption) (by repeat' (first | exact St.sn_of (by assumption) | refine St.setn ?_))) ?_))) (he : els[ii]? = some el := by exact rfl) (hp : load? (el.drop jj) q = some av0 := by exact rfl) (hnn : av0 = av := by (first | (apply nf_agg; (repeat' (first | exact nf_nil | apply nf_cons | exact nf_v | exact nf_sl | exact nf_osl | exact nf_ptr | exact nf_fp | exact nf_mp | exact nf_fn | exact nf_ifc | exact nf_it | exact nf_mb | exact rfl))) | exact nf_v | exact nf_sl | exact nf_osl | exact nf_ptr | exact nf_fp | exact nf_mp | exact nf_fn | exact nf_ifc | exact nf_it | exact nf_mb | exact rfl)) (hm : ex = true := by kernel_rfl) : LY P l K (⟨i, ef, ex, ⟨some t, .load lt x, ty, pos, aft, some (j, b)⟩⟩ :: rest) fr σ := ly_ly hbs hm hj (hb ▸ hl) (fun R hR => opj_load_ptr rfl hq hx hσ he (hnn ▸ hp) hR) h
theorem y16 {lt : TypeId} {x : Operand} {q : Option Nat} {id sz ii jj : Nat} {elem : TypeId} {els : List (List AV)} {el : List AV} {av0 : AV} {j u : Nat} {w cc : Bool} {a : AV} (h : LY P l K rest ((t, .mb cc av) :: fr) σ) (hbs : ef = false := by exact rfl) (hj : dstOf l j = some u := by exact rfl) (hl : lk fr u = some a := by exact rfl) (hg : gc a w = some cc := by exact rfl) (hx : ev (strip fr) x = some (.ptr id sz ii jj) := by exact rfl) (hq : shapeOf P lt = some q := by exact rfl) (hσ : σ id = some (.row sz elem els) := by first | exact St.set_same _ _ _ | assumption | (repeat' (first | exact St.set_same _ _ _ | assumption | refine St.set_keep (by assumption) ?_ | refine St.set_ne2 (by first | assumption | exact St.nn0 (by assumption) | exact St.nn1 (by assumption) | exact St.nn2 (by assumption) | exact St.nn3 (by assumption) | exact St.nn4 (by assumption) | exact St.nn5 (by assumption) | exact St.nn6 (by assumption) | exact St.nn7 (by assumption) | exact St.nn8 (by assumption) | exact St.nn9 (by assumption) | exact St.nn10 (by assumption) | exact St.nn11 (by assumption) | exact St.nn12 (by assumption) | exact St.nn13 (by assumption) | exact Ne.symm (St.nn0 (by assumption)) | exact Ne.symm (St.nn1 (by assumption)) | exact Ne.symm (St.nn2 (by assumption)) | exact Ne.symm (St.nn3 (by assumption)) | exact Ne.symm (St.nn4 (by assumption)) | exact Ne.symm (St.nn5 (by assumption)) | exact Ne.symm (St.nn6 (by assumption)) | exact Ne.symm (St.nn7 (by assumption)) | exact Ne.symm (St.nn8 (by assumption)) | exact Ne.symm (St.nn9 (by assumption)) | exact Ne.symm (St.nn10 (by assumption)) | exact Ne.symm (St.nn11 (by assumption)) | exact Ne.symm (St.nn12 (by assumption)) | exact Ne.symm (St.nn13 (by assumption)) | exact St.ne_ns (by assumption) (by repeat' (first | exact St.sn_of (by assumption) | refine St.setn ?_))) ?_))) (he : els[ii]? = some el := by exact rfl) (hp : load? (el.drop jj) q = some av0 := by exact rfl) (hnn : av0 = av := by (first | (apply nf_agg; (repeat' (first | exact nf_nil | apply nf_cons | exact nf_v | exact nf_sl | exact nf_osl | exact nf_ptr | exact nf_fp | exact nf_mp | exact nf_fn | exact nf_ifc | exact nf_it | exact nf_mb | exact rfl))) | exact nf_v | exact nf_sl | exact nf_osl | exact nf_ptr | exact nf_fp | exact nf_mp | exact nf_fn | exact nf_ifc | exact nf_it | exact nf_mb | exact rfl)) (hm : ex = true := by kernel_rfl) (hn : Needs cc fr (Op.load lt x).operands.toList := by repeat' (first | exact True.intro | refine And.intro ?_ ?_ | exact nd0 rfl | exact nd1 rfl | exact nd2 rfl | exact nd3 rfl | exact nd4 rfl)) : LY P l K (⟨i, ef, ex, ⟨some t, .load lt x, ty, pos, aft, some (j, w)⟩⟩ :: rest) fr σ := ly_lq hbs hm hj hl hg hn (fun _ R hR => opj_load_ptr rfl hq hx hσ he (hnn ▸ hp) hR) h
theorem y18 {st : TypeId} {x ix : Operand} {s : ByteArray} {kk : IntKind} {n : Int} (h : LY P l K rest ((t, .v (.int .u8 (sb s n))) :: fr) σ) (hbs : ef = false := by exact rfl) (ht : P.underlying st = some .string := by exact rfl) (hx : ev fr x = some (.v (.string s)) := by exact rfl) (hi : ev fr ix = some (.v (.int kk n)) := by exact rfl) (h0 : 0 ≤ n := by first | omega | (simp (disch := omega) only [w64, sb_bt, Int.toNat_zero, Int.toNat_one]; omega)) (h1 : n < s.size := by first | omega | (simp (disch := omega) only [w64, sb_bt, Int.toNat_zero, Int.toNat_one]; omega)) : LY P l K (⟨i, ef, ex, ⟨some t, .index st x ix, ty, pos, aft, none⟩⟩ :: rest) fr σ := ly_v hbs (fun _ R hR => opj_index_str rfl ht hx hi h0 h1 hR) h
theorem y21 {st : TypeId} {x : Operand} {lo hi : Option Operand} {s : ByteArray} {b k : Int} (h : LY P l K rest ((t, .v (.string (s.extract b.toNat k.toNat))) :: fr) σ) (hbs : ef = false := by exact rfl) (ht : P.underlying st = some .string := by exact rfl) (hx : ev fr x = some (.v (.string s)) := by exact rfl) (hlo : bound (ev fr) 0 lo = some b := by exact rfl) (hhi : bound (ev fr) s.size hi = some k := by exact rfl) (h0 : 0 ≤ b := by first | omega | (simp (disch := omega) only [w64, sb_bt, Int.toNat_zero, Int.toNat_one]; omega)) (h1 : b ≤ k := by first | omega | (simp (disch := omega) only [w64, sb_bt, Int.toNat_zero, Int.toNat_one]; omega)) (h2 : k ≤ s.size := by first | omega | (simp (disch := omega) only [w64, sb_bt, Int.toNat_zero, Int.toNat_one]; omega)) : LY P l K (⟨i, ef, ex, ⟨some t, .slice st x lo hi none, ty, pos, aft, none⟩⟩ :: rest) fr σ := ly_v hbs (fun _ R hR => opj_slice_str rfl ht hx hlo hhi h0 h1 h2 hR) h
theorem yi1 {it et : TypeId} {x ix : Operand} {nl : Option Bool} {full : Bool} {sz : Nat} {els : List (List AV)} {kk : IntKind} {n : Int} {el : List AV} (h : LY P l K rest ((t, .fp el) :: fr) σ) (hbs : ef = false := by exact rfl) (ht : P.underlying it = some (.slice et) := by exact rfl) (hs : sizeIs P et = some sz := by exact rfl) (hx : ev fr x = some (.sl nl full sz els) := by exact rfl) (hi : ev fr ix = some (.v (.int kk n)) := by exact rfl) (h0 : 0 ≤ n := by first | omega | (simp (disch := omega) only [w64, sb_bt, Int.toNat_zero, Int.toNat_one]; omega)) (hel : els[n.toNat]? = some el := by first | assumption | exact rfl) : LY P l K (⟨i, ef, ex, ⟨some t, .indexAddr it x ix, ty, pos, aft, none⟩⟩ :: rest) fr σ := ly_v hbs (fun _ R hR => opj_indexAddr_sl rfl ht hs hx hi h0 hel hR) h
theorem yi2 {it et : TypeId} {x ix : Operand} {nl : Option Bool} {full : Bool} {sz : Nat} {els : List (List AV)} {kk : IntKind} {n : Int} {el : List AV} {j u : Nat} {b : Bool} {a : AV} (h : LY P l K rest ((t, .fp el) :: fr) σ) (hbs : ef = false := by exact rfl) (hj : dstOf l j = some u := by exact rfl) (hl : lk fr u = some a := by exact rfl) (hb : a = .v (.bool b) := by with_reducible rfl) (ht : P.underlying it = some (.slice et) := by exact rfl) (hs : sizeIs P et = some sz := by exact rfl) (hx : ev fr x = some (.sl nl full sz els) := by exact rfl) (hi : ev fr ix = some (.v (.int kk n)) := by exact rfl) (h0 : 0 ≤ n := by first | omega | (simp (disch := omega) only [w64, sb_bt, Int.toNat_zero, Int.toNat_one]; omega)) (hel : els[n.toNat]? = some el := by first | assumption | exact rfl) : LY P l K (⟨i, ef, ex, ⟨some t, .indexAddr it x ix, ty, pos, aft, some (j, b)⟩⟩ :: rest) fr σ := ly_vy hbs hj (hb ▸ hl) (fun _ R hR => opj_indexAddr_sl rfl ht hs hx hi h0 hel hR) h
theorem yi3 {it et : TypeId} {x ix : Operand} {nl : Option Bool} {full : Bool} {sz : Nat} {els : List (List AV)} {kk : IntKind} {n : Int} {el : List AV} {j u : Nat} {w cc : Bool} {a : AV} (h : LY P l K rest ((t, .mb cc (.fp el)) :: fr) σ) (hbs : ef = false := by exact rfl) (hj : dstOf l j = some u := by exact rfl) (hl : lk fr u = some a := by exact rfl) (hg : gc a w = some cc := by exact rfl) (ht : P.underlying it = some (.slice et) := by exact rfl) (hs : sizeIs P et = some sz := by exact rfl) (hx : ev (strip fr) x = some (.sl nl full sz els) := by exact rfl) (hi : ev (strip fr) ix = some (.v (.int kk n)) := by exact rfl) (h0 : cc = true → 0 ≤ n := by intro h; first | omega | (simp only [Bool.and_eq_true, decide_eq_true_eq, Bool.not_eq_true', decide_eq_false_iff_not] at h; omega) | (simp only [Bool.and_eq_true, decide_eq_true_eq, Bool.not_eq_true', decide_eq_false_iff_not] at h; simp (disch := omega) only [w64, sb_bt, Int.toNat_zero, Int.toNat_one] at h ⊢; omega)) (hel : cc = true → els[n.toNat]? = some el := by intro h; first | assumption | exact rfl) (hn : Needs cc fr (Op.indexAddr it x ix).operands.toList := by repeat' (first | exact True.intro | refine And.intro ?_ ?_ | exact nd0 rfl | exact nd1 rfl | exact nd2 rfl | exact nd3 rfl | exact nd4 rfl)) : LY P l K (⟨i, ef, ex, ⟨some t, .indexAddr it x ix, ty, pos, aft, some (j, w)⟩⟩ :: rest) fr σ := ly_vq hbs hj hl hg hn (fun hc _ R hR => opj_indexAddr_sl rfl ht hs hx hi (h0 hc) (hel hc) hR) h
theorem yi6 {it et : TypeId} {x ix : Operand} {id sz sz' n ii j : Nat} {kk : IntKind} {m : Int} (h : LY P l K rest ((t, .ptr id sz ii (j + m.toNat * sz')) :: fr) σ) (hbs : ef = false := by exact rfl) (ht : P.underlying it = some (.array n et) := by exact rfl) (hs : sizeIs P et = some sz' := by exact rfl) (hx : ev fr x = some (.ptr id sz ii j) := by exact rfl) (hi : ev fr ix = some (.v (.int kk m)) := by exact rfl) (h0 : 0 ≤ m := by first | omega | (simp (disch := omega) only [w64, sb_bt, Int.toNat_zero, Int.toNat_one]; omega)) (h1 : m < n := by first | omega | (simp (disch := omega) only [w64, sb_bt, Int.toNat_zero, Int.toNat_one]; omega)) : LY P l K (⟨i, ef, ex, ⟨some t, .indexAddr it x ix, ty, pos, aft, none⟩⟩ :: rest) fr σ := ly_v hbs (fun _ R hR => opj_indexAddr_arr rfl ht hs hx hi h0 h1 hR) h
theorem y25 {x y : Operand} {a b : ByteArray} {t1 t2 : TypeId} (h : LY P l K rest ((t, .v (.string (a ++ b))) :: fr) σ) (hbs : ef = false := by exact rfl) (hx : ev fr x = some (.v (.string a)) := by exact rfl) (hy : ev fr y = some (.v (.string b)) := by exact rfl) (hb : a.size + b.size ≤ 9223372036854775807 := by (first | omega | (simp only [bsz, ByteArray.size_append, List.length_cons, List.length_nil, List.length_append, Nat.reduceAdd]; omega) | (simp only [bsz, ByteArray.size_append, List.length_cons, List.length_nil, List.length_append, Nat.reduceAdd] at *; omega))) : LY P l K (⟨i, ef, ex, ⟨some t, .binOp .add t1 x y t2, ty, pos, aft, none⟩⟩ :: rest) fr σ := ly_v hbs (fun _ R hR => opj_concat rfl hx hy hb hR) h
theorem yi4 {it et : TypeId} {x ix : Operand} {id sz off len : Nat} {kk : IntKind} {n : Int} (h : LY P l K rest ((t, .ptr id sz (off + n.toNat) 0) :: fr) σ) (hbs : ef = false := by exact rfl) (ht : P.underlying it = some (.slice et) := by exact rfl) (hs : sizeIs P et = some sz := by exact rfl) (hx : ev fr x = some (.osl id sz off len) := by exact rfl) (hi : ev fr ix = some (.v (.int kk n)) := by exact rfl) (h0 : 0 ≤ n := by first | omega | (simp (disch := omega) only [w64, sb_bt, Int.toNat_zero, Int.toNat_one]; omega)) (h1 : n < len := by first | omega | (simp (disch := omega) only [w64, sb_bt, Int.toNat_zero, Int.toNat_one]; omega)) : LY P l K (⟨i, ef, ex, ⟨some t, .indexAddr it x ix, ty, pos, aft, none⟩⟩ :: rest) fr σ := ly_v hbs (fun _ R hR => opj_indexAddr_osl rfl ht hs hx hi h0 h1 hR) h
theorem yff {j u : Nat} {w cc : Bool} {a : AV} (h : LY P l K rest ((t, .mb cc (.v (.bool false))) :: fr) σ) (hbs : ef = false := by exact rfl) (hj : dstOf l j = some u := by exact rfl) (hl : lk fr u = some a := by exact rfl) (hg : gc a w = some cc := by exact rfl) (hf : cc = false := by exact rfl) : LY P l K (⟨i, ef, ex, ⟨some t, op, ty, pos, aft, some (j, w)⟩⟩ :: rest) fr σ := LY.pure hbs (fy_q rfl hj hl hg fun hc => by rw [hf] at hc; cases hc) h
theorem ycf {lt et : TypeId} {x : Operand} {lo hi : Option Operand} {nl : Option Bool} {full : Bool} {sz : Nat} {els all : List (List AV)} {b k : Int} (hall : (els.take k.toNat).drop b.toNat = all) (h0 : 0 ≤ b) (h1 : b ≤ k) (h2 : k ≤ els.length) (h : LY P l K rest ((t, .sl nl false sz all) :: fr) σ) (hbs : ef = false := by exact rfl) (ht : P.underlying lt = some (.slice et) := by exact rfl) (hs : sizeIs P et = some sz := by exact rfl) (hx : ev fr x = some (.sl nl full sz els) := by exact rfl) (hlo : bound (ev fr) 0 lo = some b := by exact rfl) (hhi : bound (ev fr) els.length hi = some k := by exact rfl) : LY P l K (⟨i, ef, ex, ⟨some t, .slice lt x lo hi none, ty, pos, aft, none⟩⟩ :: rest) fr σ := by
  subst hall
  exact ly_v hbs (fun _ R hR => opj_cut_sl rfl ht hs hx hlo hhi h0 h1 h2 hR) h
theorem yp {f : FuncId} {xs : Array Operand} {ts : Array TypeId} {us : List AV} {r : AV} (hp : Pure P f us r) (h : LY P l K rest ((t, r) :: fr) σ) (hbs : ef = false := by exact rfl) (has : evs fr xs.toList = some us := by exact rfl) (hent : entered P f = true := by exact rfl) : LY P l K (⟨i, ef, ex, ⟨some t, .call { callee := .value (.func f), args := xs, argTypes := ts }, ty, pos, aft, none⟩⟩ :: rest) fr σ := LY.pure hbs (fy_none rfl (.inl fun _ => opw_pure has hent hp)) h
theorem ypw {f : FuncId} {xs : Array Operand} {ts : Array TypeId} {us : List AV} {r : AV} {bb : List AV} (hp : Pure P f bb r) (hw : WkL us bb) (h : LY P l K rest ((t, r) :: fr) σ) (hbs : ef = false := by exact rfl) (has : evs fr xs.toList = some us := by exact rfl) (hent : entered P f = true := by exact rfl) : LY P l K (⟨i, ef, ex, ⟨some t, .call { callee := .value (.func f), args := xs, argTypes := ts }, ty, pos, aft, none⟩⟩ :: rest) fr σ := LY.pure hbs (fy_none rfl (.inl fun _ => opw_pure has hent (hp.wka hw))) h
theorem ypy {f : FuncId} {xs : Array Operand} {ts : Array TypeId} {us : List AV} {r : AV} {j u : Nat} {b : Bool} {a : AV} (hp : Pure P f us r) (h : LY P l K rest ((t, r) :: fr) σ) (hbs : ef = false := by exact rfl) (hj : dstOf l j = some u := by exact rfl) (hl : lk fr u = some a := by exact rfl) (hb : a = .v (.bool b) := by with_reducible rfl) (has : evs fr xs.toList = some us := by exact rfl) (hent : entered P f = true := by exact rfl) : LY P l K (⟨i, ef, ex, ⟨some t, .call { callee := .value (.func f), args := xs, argTypes := ts }, ty, pos, aft, some (j, b)⟩⟩ :: rest) fr σ := LY.pure hbs (fy_yes rfl hj (hb ▸ hl) (.inl fun _ => opw_pure has hent hp)) h
theorem ypq {f : FuncId} {xs : Array Operand} {ts : Array TypeId} {us : List AV} {r : AV} {j u : Nat} {w cc : Bool} {a : AV} (hp : cc = true → Pure P f us r) (h : LY P l K rest ((t, .mb cc r) :: fr) σ) (hbs : ef = false := by exact rfl) (hj : dstOf l j = some u := by exact rfl) (hl : lk fr u = some a := by exact rfl) (hg : gc a w = some cc := by exact rfl) (has : evs (strip fr) xs.toList = some us := by exact rfl) (hent : entered P f = true := by exact rfl) (hn : Needs cc fr (Op.call { callee := .value (.func f), args := xs, argTypes := ts }).operands.toList := by repeat' (first | exact True.intro | refine And.intro ?_ ?_ | exact nd0 rfl | exact nd1 rfl | exact nd2 rfl | exact nd3 rfl | exact nd4 rfl)) : LY P l K (⟨i, ef, ex, ⟨some t, .call { callee := .value (.func f), args := xs, argTypes := ts }, ty, pos, aft, some (j, w)⟩⟩ :: rest) fr σ := LY.pure hbs (fy_q rfl hj hl hg fun hc => .inl fun σ' => (OpW.strip (o := ⟨some t, .call { callee := .value (.func f), args := xs, argTypes := ts }, ty, pos, aft, some (j, w)⟩) hn hc (opw_pure has hent (hp hc))).mb hc) h
theorem yclb {f : FuncId} {xs : Array Operand} {ts : Array TypeId} {us : List AV} {r : AV} {x : Operand} {pre bb : List AV} (hp : Pure P f bb r) (h : LY P l K rest ((t, r) :: fr) σ) (hbs : ef = false := by exact rfl) (hx : ev fr x = some (.bf f pre) := by exact rfl) (has : evs fr xs.toList = some us := by exact rfl) (hbb : pre ++ us = bb := by exact rfl) (hent : entered P f = true := by exact rfl) : LY P l K (⟨i, ef, ex, ⟨some t, .call { callee := .value x, args := xs, argTypes := ts }, ty, pos, aft, none⟩⟩ :: rest) fr σ := LY.pure hbs (fy_none rfl (.inl fun _ => opw_callb hx has hent (hbb ▸ hp))) h
theorem yclbq {f : FuncId} {xs : Array Operand} {ts : Array TypeId} {us : List AV} {r : AV} {x : Operand} {pre bb : List AV} {j u : Nat} {w cc : Bool} {a : AV} (hp : cc = true → Pure P f bb r) (h : LY P l K rest ((t, .mb cc r) :: fr) σ) (hbs : ef = false := by exact rfl) (hj : dstOf l j = some u := by exact rfl) (hl : lk fr u = some a := by exact rfl) (hg : gc a w = some cc := by exact rfl) (hx : ev (strip fr) x = some (.bf f pre) := by exact rfl) (has : evs (strip fr) xs.toList = some us := by exact rfl) (hbb : pre ++ us = bb := by exact rfl) (hent : entered P f = true := by exact rfl) (hn : Needs cc fr (Op.call { callee := .value x, args := xs, argTypes := ts }).operands.toList := by repeat' (first | exact True.intro | refine And.intro ?_ ?_ | exact nd0 rfl | exact nd1 rfl | exact nd2 rfl | exact nd3 rfl | exact nd4 rfl)) : LY P l K (⟨i, ef, ex, ⟨some t, .call { callee := .value x, args := xs, argTypes := ts }, ty, pos, aft, some (j, w)⟩⟩ :: rest) fr σ := LY.pure hbs (fy_q rfl hj hl hg fun hc => .inl fun σ' => (OpW.strip (o := ⟨some t, .call { callee := .value x, args := xs, argTypes := ts }, ty, pos, aft, some (j, w)⟩) hn hc (opw_callb hx has hent (hbb ▸ hp hc))).mb hc) h
theorem yi4q {it et : TypeId} {x ix : Operand} {id sz off len : Nat} {kk : IntKind} {n : Int} {j u : Nat} {w cc : Bool} {a : AV} (h : LY P l K rest ((t, .mb cc (.ptr id sz (off + n.toNat) 0)) :: fr) σ) (hbs : ef = false := by exact rfl) (hj : dstOf l j = some u := by exact rfl) (hl : lk fr u = some a := by exact rfl) (hg : gc a w = some cc := by exact rfl) (ht : P.underlying it = some (.slice et) := by exact rfl) (hs : sizeIs P et = some sz := by exact rfl) (hx : ev (strip fr) x = some (.osl id sz off len) := by exact rfl) (hi : ev (strip fr) ix = some (.v (.int kk n)) := by exact rfl) (h0 : cc = true → 0 ≤ n := by intro h; first | omega | (simp only [Bool.and_eq_true, decide_eq_true_eq, Bool.not_eq_true', decide_eq_false_iff_not] at h; omega) | (simp only [Bool.and_eq_true, decide_eq_true_eq, Bool.not_eq_true', decide_eq_false_iff_not] at h; simp (disch := omega) only [w64, sb_bt, Int.toNat_zero, Int.toNat_one] at h ⊢; omega)) (h1 : cc = true → n < len := by intro h; first | omega | (simp only [Bool.and_eq_true, decide_eq_true_eq, Bool.not_eq_true', decide_eq_false_iff_not] at h; omega) | (simp only [Bool.and_eq_true, decide_eq_true_eq, Bool.not_eq_true', decide_eq_false_iff_not] at h; simp (disch := omega) only [w64, sb_bt, Int.toNat_zero, Int.toNat_one] at h ⊢; omega)) (hn : Needs cc fr (Op.indexAddr it x ix).operands.toList := by repeat' (first | exact True.intro | refine And.intro ?_ ?_ | exact nd0 rfl | exact nd1 rfl | exact nd2 rfl | exact nd3 rfl | exact nd4 rfl)) : LY P l K (⟨i, ef, ex, ⟨some t, .indexAddr it x ix, ty, pos, aft, some (j, w)⟩⟩ :: rest) fr σ := ly_vq hbs hj hl hg hn (fun hc _ R hR => opj_indexAddr_osl rfl ht hs hx hi (h0 hc) (h1 hc) hR) h
theorem ylit {lt et : TypeId} {n sz : Nat} {parts : Array (Nat × Operand)} {zs out : List AV} {qs : List (Nat × AV)} {els : List (List AV)} (h : LY P l K rest ((t, .sl (some false) true sz els) :: fr) σ) (hbs : ef = false := by exact rfl) (ht : P.underlying lt = some (.slice et) := by exact rfl) (hs : sizeIs P et = some sz := by exact rfl) (hz : zeroIs P et = some zs := by exact rfl) (hzl : zs.length = sz := by exact rfl) (hpos : Nat.blt 0 sz = true := by exact rfl) (hn : Nat.ble (n * sz) 16777216 = true := by exact rfl) (hq : evParts (ev fr) parts.toList = some qs := by exact rfl) (hf : afill (fun i => some (i * sz, sz)) ((List.replicate n zs).flatten) qs = some out := by exact rfl) (hol : out.length = n * sz := by exact rfl) (hnn : chunk sz n out = els := by (repeat' (first | exact nfl_nil | apply nfl_cons | exact nf_nil | apply nf_cons | exact nf_v | exact nf_sl | exact nf_osl | exact nf_ptr | exact nf_fp | exact nf_mp | exact nf_fn | exact nf_ifc | exact nf_it | exact nf_mb | exact rfl))) : LY P l K (⟨i, ef, ex, ⟨some t, .buildSlice lt n parts, ty, pos, aft, none⟩⟩ :: rest) fr σ := by
  subst hnn
  exact ly_v hbs (fun _ R hR => opj_lit rfl ht hs hz hzl (Nat.blt_eq.mp hpos) (Nat.le_of_ble_eq_true hn) hq hf hol hR) h
theorem yapp (by_ : Nat) {lt et : TypeId} {sz : Nat} {x y : Operand} {nl : Option Bool} {full : Bool} {els news : List (List AV)} {ts : Array TypeId} {a : AV} {all : List (List AV)} (h : LY P l K rest ((t, .sl none false sz all) :: fr) σ) (hbs : ef = false := by exact rfl) (hts : ts = #[lt, lt] := by exact rfl) (ht : P.underlying lt = some (.slice et) := by exact rfl) (hsz : sizeIs P et = some sz := by exact rfl) (hz : (zeroIs P et).map (·.length) = some sz := by exact rfl) (hpos : Nat.blt 0 sz = true := by exact rfl) (hby : bytesIs P et = some by_ := by exact rfl) (hb1 : Nat.blt 0 by_ = true := by exact rfl) (hx : ev fr x = some (.sl nl full sz els) := by exact rfl) (hfull : full = true ∨ nl = some true := by first | exact .inl rfl | exact .inr rfl) (hy : ev fr y = some a := by exact rfl) (hs : ∀ σ', srcOf σ' a = some (sz, news) := by exact fun _ => rfl) (hb : (els.length + news.length) * by_ ≤ 140737488355328 := by first | omega | (simp only [length_bys, length_chunk, List.length_nil, List.length_cons, List.length_map, Nat.mul_one]; omega)) (hall : els ++ news = all := by (first | exact List.nil_append _ | exact rfl)) : LY P l K (⟨i, ef, ex, ⟨some t, .call { callee := .builtin .append, args := #[x, y], argTypes := ts }, ty, pos, aft, none⟩⟩ :: rest) fr σ := by
  subst hall
  exact ly_v hbs (fun σ' R hR => OpJ.weak (opj_append_sl rfl hts (elem_of ht hsz hz hpos) hby hx hfull hy (hs σ') hb (Nat.blt_eq.mp hb1) (fun h0 => ⟨rfl, _, rfl, by rw [h0, List.append_nil]; exact Wk.sl _ _ _ _⟩) (fun _ => ⟨rfl, _, rfl, Wk.sl _ _ _ _⟩)) hR) h
theorem y17 {st elem : TypeId} {x y : Operand} {id sz ii jj k : Nat} {els : List (List AV)} {el cs nel : List AV} {els' : List (List AV)} {a : AV} (h : LY P l K rest fr (σ.set id (.row sz elem els'))) (hx : ev fr x = some (.ptr id sz ii jj) := by exact rfl) (hy : ev fr y = some a := by exact rfl) (hm : sizeIs P st = some k := by exact rfl) (hσ : σ id = some (.row sz elem els) := by first | exact St.set_same _ _ _ | assumption | (repeat' (first | exact St.set_same _ _ _ | assumption | refine St.set_keep (by assumption) ?_ | refine St.set_ne2 (by first | assumption | exact St.nn0 (by assumption) | exact St.nn1 (by assumption) | exact St.nn2 (by assumption) | exact St.nn3 (by assumption) | exact St.nn4 (by assumption) | exact St.nn5 (by assumption) | exact St.nn6 (by assumption) | exact St.nn7 (by assumption) | exact St.nn8 (by assumption) | exact St.nn9 (by assumption) | exact St.nn10 (by assumption) | exact St.nn11 (by assumption) | exact St.nn12 (by assumption) | exact St.nn13 (by assumption) | exact Ne.symm (St.nn0 (by assumption)) | exact Ne.symm (St.nn1 (by assumption)) | exact Ne.symm (St.nn2 (by assumption)) | exact Ne.symm (St.nn3 (by assumption)) | exact Ne.symm (St.nn4 (by assumption)) | exact Ne.symm (St.nn5 (by assumption)) | exact Ne.symm (St.nn6 (by assumption)) | exact Ne.symm (St.nn7 (by assumption)) | exact Ne.symm (St.nn8 (by assumption)) | exact Ne.symm (St.nn9 (by assumption)) | exact Ne.symm (St.nn10 (by assumption)) | exact Ne.symm (St.nn11 (by assumption)) | exact Ne.symm (St.nn12 (by assumption)) | exact Ne.symm (St.nn13 (by assumption)) | exact St.ne_ns (by assumption) (by repeat' (first | exact St.sn_of (by assumption) | refine St.setn ?_))) ?_))) (he : els[ii]? = some el := by exact rfl) (hc : cellsOf a = some cs := by exact rfl) (hl : cs.length = k := by exact rfl) (hj : Nat.ble (jj + cs.length) el.length = true := by exact rfl) (hn1 : el.take jj ++ cs ++ el.drop (jj + cs.length) = nel := by (repeat' (first | exact nf_nil | apply nf_cons | exact nf_v | exact nf_sl | exact nf_osl | exact nf_ptr | exact nf_fp | exact nf_mp | exact nf_fn | exact nf_ifc | exact nf_it | exact nf_mb | exact rfl))) (hn2 : els.set ii nel = els' := by (first | exact nf_set0 | exact rfl)) (hbs : ef = true := by exact rfl) : LY P l K (⟨i, ef, ex, ⟨none, .store st x y, ty, pos, aft, none⟩⟩ :: rest) fr σ := by
  subst hn1
  subst hn2
  exact ly_e (R := fun r σ1 => r = .tup [] ∧ σ1 = σ.set id (.row sz elem (els.set ii (el.take jj ++ cs ++ el.drop (jj + cs.length))))) hbs rfl (opw_of (r := none) fun R hR => opj_store rfl hm hx hy hσ he hc hl (Nat.le_of_ble_eq_true hj) hR) fun r σ1 ⟨e1, e2⟩ => by subst e1; subst e2; exact h
theorem y12 {et : TypeId} {us us' : List AV} {k : Nat} (h : ∀ id, σ id = none → LY P l K rest ((t, .ptr id k 0 0) :: fr) (σ.set id (.row k et [us']))) (hz : zeroIs P et = some us := by exact rfl) (hn : us = us' := by (repeat' (first | exact nf_nil | apply nf_cons | exact nf_v | exact nf_sl | exact nf_osl | exact nf_ptr | exact nf_fp | exact nf_mp | exact nf_fn | exact nf_ifc | exact nf_it | exact nf_mb | exact rfl))) (hk : us.length = k := by exact rfl) (hbs : ef = true := by exact rfl) : LY P l K (⟨i, ef, ex, ⟨some t, .alloc et, ty, pos, aft, none⟩⟩ :: rest) fr σ := by
  subst hn
  subst hk
  exact ly_e (R := fun r σ1 => ∃ id, σ id = none ∧ r = .ptr id us.length 0 0 ∧ σ1 = σ.set id (.row us.length et [us])) hbs rfl (.of_opj (opj_alloc rfl hz fun id hid => ⟨id, hid, rfl, rfl⟩)) fun r σ1 ⟨id, h1, h2, h3⟩ => by subst h2; subst h3; exact h id h1
theorem yapn (by_ : Nat) {lt et : TypeId} {sz : Nat} {x y : Operand} {nl : Option Bool} {full : Bool} {els news : List (List AV)} {ts : Array TypeId} {a : AV} {all : List (List AV)} {n : Nat} (h : ∀ id, σ id = none → LY P l K rest ((t, .osl id sz 0 n) :: fr) (σ.set id (.row sz et all))) (hne : news ≠ []) (hall : els ++ news = all := by (first | exact List.nil_append _ | exact rfl)) (hlen : els.length + news.length = n := by (first | exact Nat.zero_add _ | exact rfl)) (hts : ts = #[lt, lt] := by exact rfl) (ht : P.underlying lt = some (.slice et) := by exact rfl) (hsz : sizeIs P et = some sz := by exact rfl) (hz : (zeroIs P et).map (·.length) = some sz := by exact rfl) (hpos : Nat.blt 0 sz = true := by exact rfl) (hby : bytesIs P et = some by_ := by exact rfl) (hb1 : Nat.blt 0 by_ = true := by exact rfl) (hx : ev fr x = some (.sl nl full sz els) := by exact rfl) (hfull : full = true ∨ nl = some true := by first | exact .inl rfl | exact .inr rfl) (hy : ev fr y = some a := by exact rfl) (hs : ∀ σ', srcOf σ' a = some (sz, news) := by exact fun _ => rfl) (hb : (els.length + news.length) * by_ ≤ 140737488355328 := by first | omega | (simp only [length_bys, length_chunk, List.length_nil, List.length_cons, List.length_map, Nat.mul_one]; omega)) (hbs : ef = true := by exact rfl) : LY P l K (⟨i, ef, ex, ⟨some t, .call { callee := .builtin .append, args := #[x, y], argTypes := ts }, ty, pos, aft, none⟩⟩ :: rest) fr σ := by
  subst hall
  subst hlen
  exact ly_e (R := fun r σ1 => ∃ id, σ id = none ∧ r = .osl id sz 0 (els.length + news.length) ∧ σ1 = σ.set id (.row sz et (els ++ news))) hbs rfl (.of_opj (opj_append_new rfl hts (elem_of ht hsz hz hpos) hby hx hfull hy (hs σ) hne hb (Nat.blt_eq.mp hb1) fun id hid => ⟨id, hid, rfl, rfl⟩)) fun r σ1 ⟨id, h1, h2, h3⟩ => by subst h2; subst h3; exact h id h1
theorem yapo {lt et : TypeId} {sz by_ n m : Nat} {x y : Operand} {id : Nat} {els news all : List (List AV)} {ts : Array TypeId} {a : AV} (h : ∀ id', σ id' = none → LY P l K rest ((t, .osl id' sz 0 m) :: fr) ((σ.del id).set id' (.row sz et all))) (hall : els.take n ++ news = all) (hm : n + news.length = m) (hts : ts = #[lt, lt] := by exact rfl) (ht : P.underlying lt = some (.slice et) := by exact rfl) (hsz : sizeIs P et = some sz := by exact rfl) (hz : (zeroIs P et).map (·.length) = some sz := by exact rfl) (hpos : Nat.blt 0 sz = true := by exact rfl) (hby : bytesIs P et = some by_ := by exact rfl) (hb1 : Nat.blt 0 by_ = true := by exact rfl) (hble : Nat.ble by_ 1024 = true := by exact rfl) (hx : ev fr x = some (.osl id sz 0 n) := by exact rfl) (hσ : σ id = some (.row sz et els) := by first | exact St.set_same _ _ _ | assumption | (repeat' (first | exact St.set_same _ _ _ | assumption | refine St.set_keep (by assumption) ?_ | refine St.set_ne2 (by first | assumption | exact St.nn0 (by assumption) | exact St.nn1 (by assumption) | exact St.nn2 (by assumption) | exact St.nn3 (by assumption) | exact St.nn4 (by assumption) | exact St.nn5 (by assumption) | exact St.nn6 (by assumption) | exact St.nn7 (by assumption) | exact St.nn8 (by assumption) | exact St.nn9 (by assumption) | exact St.nn10 (by assumption) | exact St.nn11 (by assumption) | exact St.nn12 (by assumption) | exact St.nn13 (by assumption) | exact Ne.symm (St.nn0 (by assumption)) | exact Ne.symm (St.nn1 (by assumption)) | exact Ne.symm (St.nn2 (by assumption)) | exact Ne.symm (St.nn3 (by assumption)) | exact Ne.symm (St.nn4 (by assumption)) | exact Ne.symm (St.nn5 (by assumption)) | exact Ne.symm (St.nn6 (by assumption)) | exact Ne.symm (St.nn7 (by assumption)) | exact Ne.symm (St.nn8 (by assumption)) | exact Ne.symm (St.nn9 (by assumption)) | exact Ne.symm (St.nn10 (by assumption)) | exact Ne.symm (St.nn11 (by assumption)) | exact Ne.symm (St.nn12 (by assumption)) | exact Ne.symm (St.nn13 (by assumption)) | exact St.ne_ns (by assumption) (by repeat' (first | exact St.sn_of (by assumption) | refine St.setn ?_))) ?_))) (hn : n ≤ els.length := by omega) (hy : ev fr y = some a := by exact rfl) (hs : srcOf σ a = some (sz, news) := by exact rfl) (hb : (n + news.length) * 1024 ≤ 140737488355328 := by omega) (hbs : ef = true := by exact rfl) : LY P l K (⟨i, ef, ex, ⟨some t, .call { callee := .builtin .append, args := #[x, y], argTypes := ts }, ty, pos, aft, none⟩⟩ :: rest) fr σ := by
  subst hall
  subst hm
  exact ly_e (R := fun r σ1 => ∃ id', σ id' = none ∧ r = .osl id' sz 0 (n + news.length) ∧ σ1 = (σ.del id).set id' (.row sz et (els.take n ++ news))) hbs rfl (.of_opj (opj_append_osl rfl hts (elem_of ht hsz hz hpos) hby hx hσ hn hy hs (Nat.le_trans (Nat.mul_le_mul_left _ (Nat.le_of_ble_eq_true hble)) hb) (Nat.blt_eq.mp hb1) fun id' hid => ⟨id', hid, rfl, rfl⟩)) fun r σ1 ⟨id', h1, h2, h3⟩ => by subst h2; subst h3; exact h id' h1
theorem ycall {f : FuncId} {xs : Array Operand} {ts : Array TypeId} {us : List AV} {C : AEnd → St → Prop} (hp : ACalls P f us σ C) (h : ∀ r σ', C (.ret r) σ' → LY P l K rest ((t, r) :: fr) σ') (hnp : ∀ x σ', ¬ C (.panic x) σ') (has : evs fr xs.toList = some us := by exact rfl) (hent : entered P f = true := by exact rfl) (hbs : ef = true := by exact rfl) : LY P l K (⟨i, ef, ex, ⟨some t, .call { callee := .value (.func f), args := xs, argTypes := ts }, ty, pos, aft, none⟩⟩ :: rest) fr σ := ly_e (R := fun r σ' => C (.ret r) σ') hbs rfl (OpW.of_calls (R := fun r σ' => C (.ret r) σ') has hent hp (fun e σ' he => by
  cases e with
  | ret r => exact ⟨r, rfl, he⟩
  | panic x => exact absurd he (hnp x σ'))) h
theorem yapg {lt et : TypeId} {sz by_ m : Nat} {x y : Operand} {f : Bool} {news : List (List AV)} {ts : Array TypeId} {a : AV} (h : ∀ id, σ id = none → LY P l K rest ((t, .osl id sz 0 m) :: fr) (σ.set id (.row sz et news))) (hm : news.length = m) (hts : ts = #[lt, lt] := by exact rfl) (ht : P.underlying lt = some (.slice et) := by exact rfl) (hsz : sizeIs P et = some sz := by exact rfl) (hz : (zeroIs P et).map (·.length) = some sz := by exact rfl) (hpos : Nat.blt 0 sz = true := by exact rfl) (hby : bytesIs P et = some by_ := by exact rfl) (hb1 : Nat.blt 0 by_ = true := by exact rfl) (hble : Nat.ble by_ 1024 = true := by exact rfl) (hx : reNil sz (ev fr x) = some (.sl (some true) f sz []) := by exact rfl) (hy : reNil sz (ev fr y) = some a := by exact rfl) (hs : srcOf σ a = some (sz, news) := by exact rfl) (hb : news.length * 1024 ≤ 140737488355328 := by omega) (hbs : ef = true := by exact rfl) : LY P l K (⟨i, ef, ex, ⟨some t, .call { callee := .builtin .append, args := #[x, y], argTypes := ts }, ty, pos, aft, none⟩⟩ :: rest) fr σ := by
  subst hm
  have hb2 : (([] : List (List AV)).length + news.length) * by_ ≤ 140737488355328 := by
    rw [List.length_nil, Nat.zero_add]
    exact Nat.le_trans (Nat.mul_le_mul_left _ (Nat.le_of_ble_eq_true hble)) hb
  refine ly_e (R := fun r σ1 => ∃ id, σ id = none ∧ r = .osl id sz 0 news.length ∧ σ1 = σ.set id (.row sz et news)) hbs rfl ?_ fun r σ1 ⟨id, h1, h2, h3⟩ => by subst h2; subst h3; exact h id h1
  by_cases h0 : news = []
  · subst h0
    exact opw_ghostnil sz et (f := f) (s := sz) (.of_opj (OpJ.renil sz (opj_append_sl rfl hts (elem_of ht hsz hz hpos) hby hx (.inr rfl) hy hs hb2 (Nat.blt_eq.mp hb1) (fun _ => ⟨rfl, rfl⟩) (fun h => absurd rfl h))))
  · exact .of_opj (OpJ.renil sz (opj_append_new rfl hts (elem_of ht hsz hz hpos) hby hx (.inr rfl) hy hs h0 hb2 (Nat.blt_eq.mp hb1) fun id hid => ⟨id, hid, by rw [List.length_nil, Nat.zero_add]; rfl, by rw [List.nil_append]⟩))
end
end Go.Proofs.Ytbpoeggmpjepfaa.Ab

/- Orders: the document's recency. -/
set_option linter.unusedVariables false
set_option linter.unusedSimpArgs false
set_option maxRecDepth 20000
namespace Go.Proofs.Ytbpoeggmpjepfaa.Ab
open Go
attribute [local irreducible] thn inb endR CJ LJ OpJ DJ DA DB AllocK
set_option maxHeartbeats 2000000 in
theorem p_rrec (nl : Option Bool) (full : Bool) (l : List Int) (hl : l.length ≤ 1000) : Pure Try.prog 16 [.sl nl full 1 (l.map int1)] (.sl none false 1 ((recP l).map int1)) := by
  refine enterW Try.func16 rfl rfl rfl rfl (fun σ => ?_)
  have hn : (l.map int1).length = l.length := List.length_map ..
  repeat' (first|(first|(refine jl ?_;first|refine j1 ?_|refine j4 ?_)|(refine jc ?_;first|refine c1 ?_|refine c2 ?_|refine c5 ?_)))
  refine cj_for (fun s : Nat × List Int => s.1 ≤ l.length ∧ s.2.length ≤ s.1 ∧ recR s.2 (l.drop s.1) = recP l) (fun s => [(4, .v (.int .i64 s.1)), (3, .sl none false 1 (s.2.map int1))]) (fun _ => σ) (fun s => l.length - s.1) (0, []) ⟨Nat.zero_le _, Nat.le_refl _, recR_recP l⟩ ⟨⟨_, rfl, fun _ _ h => h⟩, ⟨_, rfl, Wk.sl _ _ _ _⟩, trivial⟩ (St.le_refl _) (fun s hs => ?_)
  obtain ⟨i, out⟩ := s
  dsimp only at hs ⊢
  obtain ⟨h1, h2, h3⟩ := hs
  have hn2 : (out.map int1).length = out.length := List.length_map ..
  rcases hd : l.drop i with _ | ⟨x, r⟩
  · have z1 := dropn hd
    rw [hd] at h3
    repeat' (first|(first|(refine jl ?_;first|refine j1 ?_|refine j4 ?_)|(refine jc ?_;first|refine c1 ?_|refine c2 ?_|refine c7 ?_|refine c8 ?_)|refine n1 ?_|refine n3 ?_|refine n7 ?_|refine n8 ?_|refine n11 ?_)|(refine c9 (fun h=>?_) (fun h=>?_)<;>((try simp only [Bool.or_eq_true, Bool.and_eq_true, Bool.or_eq_false_iff, Bool.and_eq_false_iff, Bool.not_eq_true', Bool.not_eq_false', decide_eq_true_eq, decide_eq_false_iff_not, Bool.false_eq_true, Bool.true_eq_false, reduceCtorEq] at h) <;> (try simp (disch := omega) only [sb_bt, w64, Int.reduceAdd, Int.reduceToNat, Int.toNat_natCast, not_true_eq_false, false_or] at h) <;> (try (exfalso; omega)))))
    rw [← h3]
    exact gvs (by (repeat' (first | exact finl_nil | apply finl_cons | exact Fin.refl _ _ _ | apply fin_pk2 | apply fin_pk3 | apply fin_agg | apply fin_tup | exact fin_nil | exact fin_sl rfl | exact fin_fz (by exact lkp) (by first | assumption | exact St.ns1 (by assumption) | exact St.ns2 (by assumption) | exact St.ns3 (by assumption) | exact St.ns4 (by assumption) | exact St.ns5 (by assumption) | exact St.ns6 (by assumption) | exact St.ns7 (by assumption) | exact St.ns8 (by assumption) | exact St.ns9 (by assumption) | exact St.ns10 (by assumption) | exact St.ns11 (by assumption) | exact St.ns12 (by assumption) | exact St.ns13 (by assumption) | exact St.ns14 (by assumption) | exact St.ns10 (by assumption) | exact St.ns11 (by assumption) | exact St.ns12 (by assumption) | exact St.ns13 (by assumption) | exact St.ns14 (by assumption)) (by first | exact rfl | assumption | (simp only [List.length_map, List.length_append, List.length_cons, List.length_nil]; done) | (simp only [List.length_map, List.length_append, List.length_cons, List.length_nil]; omega)) rfl (fun _ => rfl) | exact fin_eq rfl))) (St.le_refl _)
  · obtain ⟨u1, u2, u3⟩ := dropc hd
    have u4 := get_map int1 u3
    rw [hd] at h3
    repeat' (first|(first|(refine jl ?_;first|refine jbl ?_|refine j1 ?_|refine j4 ?_|refine j6 ?_|refine ji1 ?_)|(refine jc ?_;first|refine c1 ?_|refine c2 ?_|refine c5 ?_|refine c6 ?_|refine c8 ?_)|refine n1 ?_|refine n3 ?_|refine n8 ?_)|(refine c9 (fun h=>?_) (fun h=>?_)<;>((try simp only [Bool.or_eq_true, Bool.and_eq_true, Bool.or_eq_false_iff, Bool.and_eq_false_iff, Bool.not_eq_true', Bool.not_eq_false', decide_eq_true_eq, decide_eq_false_iff_not, Bool.false_eq_true, Bool.true_eq_false, reduceCtorEq] at h) <;> (try simp (disch := omega) only [sb_bt, w64, Int.reduceAdd, Int.reduceToNat, Int.toNat_natCast, not_true_eq_false, false_or] at h) <;> (try (exfalso; omega)))))
    · rw [recR, if_neg (by omega), ← u2] at h3
      exact nx_forS (i + 1, out) ⟨by dsimp only; omega, by dsimp only; omega, h3⟩ (by dsimp only; omega) ⟨⟨_, rfl, wk1 (by omega)⟩, ⟨_, rfl, fun _ _ h => h⟩, trivial⟩ (St.le_refl _)
    · rw [recR, if_pos (by omega), ← u2] at h3
      refine cj_for (fun k : Nat => k ≤ out.length ∧ insR x out = out.take k ++ insR x (out.drop k)) (fun k => [(5, .v (.int .i64 k))]) (fun _ => σ) (fun k => out.length - k) 0 ⟨Nat.zero_le _, rfl⟩ ⟨⟨_, rfl, fun _ _ h => h⟩, trivial⟩ (St.le_refl _) (fun k hk => ?_)
      obtain ⟨k1, k2⟩ := hk
      have hc1 : ((out.map int1).take ((k : Nat) : Int).toNat).drop (0 : Int).toNat = (out.take k).map int1 := by rw [Int.toNat_natCast, ← List.map_take]; rfl
      have hc2 : ((out.map int1).take (((out.map int1).length : Nat) : Int).toNat).drop ((k : Nat) : Int).toNat = (out.drop k).map int1 := by rw [Int.toNat_natCast, Int.toNat_natCast, List.take_length, ← List.map_drop]
      have hm1 : ((out.take k).map int1).length = k := by rw [List.length_map, List.length_take]; omega
      have ha1 : ((out.take k).map int1).take k ++ [int1 x] = (out.take k ++ [x]).map int1 := by rw [List.take_of_length_le (by omega), List.map_append]; rfl
      have hd1 : ((out.drop k).map int1).length = out.length - k := by rw [List.length_map, List.length_drop]
      have hm2 : ((out.take k ++ [x]).map int1).length = k + 1 := by rw [List.length_map, List.length_append, List.length_take]; show min k out.length + 1 = _; omega
      have fin : insR x (out.drop k) = x :: out.drop k → ((out.take k ++ [x]).map int1).take (k + 1) ++ (out.drop k).map int1 = (insR x out).map int1 := fun e => by
        rw [List.take_of_length_le (by omega), ← List.map_append, k2, e, List.append_assoc]
        rfl
      have hlen : insR x (out.drop k) = x :: out.drop k → ((insR x out).map int1).length = out.length + 1 := fun e => by
        rw [List.length_map, k2, e, List.length_append, List.length_cons, List.length_take, List.length_drop]
        omega
      by_cases hgo : ∃ y r2, out.drop k = y :: r2 ∧ x ≤ y
      · obtain ⟨y, r2, hd2, hxy⟩ := hgo
        obtain ⟨v1, v2, v3⟩ := dropc hd2
        have v4 := get_map int1 v3
        repeat' (first|(first|(refine jl ?_;first|refine j1 ?_|refine j6 ?_)|(refine dl ?_;first|refine d8 ?_|refine d1 ?_|refine d4 ?_|refine d9 ?_|refine di3 ?_)|(refine jc ?_;first|refine c1 ?_|refine c2 ?_|refine c5 ?_|refine c6 ?_|refine cq ?_)|refine n1 ?_|refine n10 ?_)|(refine c9 (fun h=>?_) (fun h=>?_)<;>((try simp only [Bool.or_eq_true, Bool.and_eq_true, Bool.or_eq_false_iff, Bool.and_eq_false_iff, Bool.not_eq_true', Bool.not_eq_false', decide_eq_true_eq, decide_eq_false_iff_not, Bool.false_eq_true, Bool.true_eq_false, reduceCtorEq] at h) <;> (try simp (disch := omega) only [sb_bt, w64, Int.reduceAdd, Int.reduceToNat, Int.toNat_natCast, not_true_eq_false, false_or] at h) <;> (try (exfalso; omega)))))
        all_goals first
          | exact nx_forS (k + 1) ⟨by omega, by rw [k2, hd2, insR, if_pos hxy, List.take_add_one, v3, v2, List.append_assoc]; rfl⟩ (by omega) ⟨⟨_, rfl, wk1 (by omega)⟩, trivial⟩ (St.le_refl _)
          | (exfalso; omega)
      · have e : insR x (out.drop k) = x :: out.drop k := by
          rcases hd2 : out.drop k with _ | ⟨y, r2⟩
          · rfl
          · rw [insR, if_neg fun hxy => hgo ⟨y, r2, hd2, hxy⟩]
        have fin := fin e
        have hlen := hlen e
        rcases hd2 : out.drop k with _ | ⟨y, r2⟩
        · have v1 := dropn hd2
          repeat' (first|(first|(refine jl ?_;first|refine j1 ?_|refine j4 ?_)|(refine dl ?_;first|refine d8 ?_|refine d1 ?_|refine d4 ?_|refine d9 ?_|refine di3 ?_|refine di3 (el := int1 0) (hel := fun hc => absurd (of_decide_eq_true hc) (by omega)) ?_)|(refine yl ?_;first|refine y7 ?_|refine y8 ?_|refine y10 ?_|refine y11 ?_|refine ybd ?_|refine ybl ?_|refine y1 ?_|refine y2 ?_|refine y3 ?_|refine y3f ?_|refine y9 ?_|refine y14 ?_|refine y15 ?_|refine y16 ?_|refine y17 ?_|refine y18 ?_|refine y21 ?_|refine y25 ?_|refine yi1 ?_|refine yi2 ?_|refine yi3 ?_|refine yi4 ?_|refine yi4q ?_|refine yi6 ?_|refine ylit ?_|refine ycf (b := 0) (k := ((k : Nat) : Int)) hc1 (by omega) (by omega) (by omega) ?_|refine ycf (b := ((k : Nat) : Int)) (k := (((out.map int1).length : Nat) : Int)) hc2 (by omega) (by omega) (by omega) ?_|refine yapg (m := k) (fun w1 hw1 => ?_) hm1 (hb := by omega))|(refine jc ?_;first|refine c1 ?_|refine c2 ?_|refine cqy [4, 10, 14] [0, 1, 2, 3, 5, 6, 7, 8, 9, 11, 12, 13, 4, 10, 14, 15] ?_|refine c8 ?_|refine cq ?_)|refine n1 ?_|refine n3 ?_|refine n7 ?_|refine n8 ?_)|(refine c9 (fun h=>?_) (fun h=>?_)<;>((try simp only [Bool.or_eq_true, Bool.and_eq_true, Bool.or_eq_false_iff, Bool.and_eq_false_iff, Bool.not_eq_true', Bool.not_eq_false', decide_eq_true_eq, decide_eq_false_iff_not, Bool.false_eq_true, Bool.true_eq_false, reduceCtorEq] at h) <;> (try simp (disch := omega) only [sb_bt, w64, Int.reduceAdd, Int.reduceToNat, Int.toNat_natCast, not_true_eq_false, false_or] at h) <;> (try (exfalso; omega)))))
          all_goals try (exfalso; omega)
          refine yapo (els := (out.take k).map int1) (n := k) (news := [int1 x]) (all := (out.take k ++ [x]).map int1) (m := k + 1) (fun w2 hw2 => ?_) ha1 rfl (hn := by omega) (hb := by dsimp only [List.length]; omega)
          have hw2' : σ w2 = none := St.ns1 hw2
          rw [St.del_set hw1]
          refine yapo (els := (out.take k ++ [x]).map int1) (n := k + 1) (news := (out.drop k).map int1) (all := (insR x out).map int1) (m := out.length + 1) (fun w3 hw3 => ?_) fin (by omega) (hn := by omega) (hb := by omega)
          have hw3' : σ w3 = none := St.ns1 hw3
          rw [St.del_set hw2']
          repeat (first|(refine yl ?_;first|refine y7 ?_|refine y8 ?_|refine y10 ?_|refine y11 ?_|refine ybd ?_|refine ybl ?_|refine y1 ?_|refine y2 ?_|refine y3 ?_|refine y3f ?_|refine y9 ?_|refine y14 ?_|refine y15 ?_|refine y16 ?_|refine y17 ?_|refine y18 ?_|refine y21 ?_|refine y25 ?_|refine yi1 ?_|refine yi2 ?_|refine yi3 ?_|refine yi4 ?_|refine yi4q ?_|refine yi6 ?_|refine ylit ?_))
          refine ynil ?_
          (first|refine n10 ?_)
          (first|refine n1 ?_)
          refine cj_freeze 3 (els := (insR x out).map int1) rfl (St.set_same _ _ _) hlen.symm (by decide) ?_
          rw [St.del_set hw3']
          repeat (first|(refine jl ?_;first|refine j1 ?_|refine j6 ?_)|(refine jc ?_;first|refine c2 ?_))
          have hli : (insR x out).length = out.length + 1 := by rw [← hlen, List.length_map]
          exact nx_forS (i + 1, insR x out) ⟨by dsimp only; omega, by dsimp only; omega, h3⟩ (by dsimp only; omega) ⟨⟨_, rfl, wk1 (by omega)⟩, ⟨_, rfl, fun _ _ h => h⟩, trivial⟩ (St.le_refl _)
        · obtain ⟨v1, v2, v3⟩ := dropc hd2; have v4 := get_map int1 v3; have hxy : ¬ x ≤ y := fun hxy => hgo ⟨y, r2, hd2, hxy⟩
          repeat' (first|(first|(refine jl ?_;first|refine j1 ?_|refine j4 ?_)|(refine dl ?_;first|refine d8 ?_|refine d1 ?_|refine d4 ?_|refine d9 ?_|refine di3 ?_)|(refine yl ?_;first|refine y7 ?_|refine y8 ?_|refine y10 ?_|refine y11 ?_|refine ybd ?_|refine ybl ?_|refine y1 ?_|refine y2 ?_|refine y3 ?_|refine y3f ?_|refine y9 ?_|refine y14 ?_|refine y15 ?_|refine y16 ?_|refine y17 ?_|refine y18 ?_|refine y21 ?_|refine y25 ?_|refine yi1 ?_|refine yi2 ?_|refine yi3 ?_|refine yi4 ?_|refine yi4q ?_|refine yi6 ?_|refine ylit ?_|refine ycf (b := 0) (k := ((k : Nat) : Int)) hc1 (by omega) (by omega) (by omega) ?_|refine ycf (b := ((k : Nat) : Int)) (k := (((out.map int1).length : Nat) : Int)) hc2 (by omega) (by omega) (by omega) ?_|refine yapg (m := k) (fun w1 hw1 => ?_) hm1 (hb := by omega))|(refine jc ?_;first|refine c1 ?_|refine c2 ?_|refine cqy [4, 10, 14] [0, 1, 2, 3, 5, 6, 7, 8, 9, 11, 12, 13, 4, 10, 14, 15] ?_|refine c8 ?_|refine cq ?_)|refine n1 ?_|refine n3 ?_|refine n7 ?_|refine n8 ?_)|(refine c9 (fun h=>?_) (fun h=>?_)<;>((try simp only [Bool.or_eq_true, Bool.and_eq_true, Bool.or_eq_false_iff, Bool.and_eq_false_iff, Bool.not_eq_true', Bool.not_eq_false', decide_eq_true_eq, decide_eq_false_iff_not, Bool.false_eq_true, Bool.true_eq_false, reduceCtorEq] at h) <;> (try simp (disch := omega) only [sb_bt, w64, Int.reduceAdd, Int.reduceToNat, Int.toNat_natCast, not_true_eq_false, false_or] at h) <;> (try (exfalso; omega)))))
          all_goals try (exfalso; omega)
          refine yapo (els := (out.take k).map int1) (n := k) (news := [int1 x]) (all := (out.take k ++ [x]).map int1) (m := k + 1) (fun w2 hw2 => ?_) ha1 rfl (hn := by omega) (hb := by dsimp only [List.length]; omega)
          have hw2' : σ w2 = none := St.ns1 hw2
          rw [St.del_set hw1]
          refine yapo (els := (out.take k ++ [x]).map int1) (n := k + 1) (news := (out.drop k).map int1) (all := (insR x out).map int1) (m := out.length + 1) (fun w3 hw3 => ?_) fin (by omega) (hn := by omega) (hb := by omega)
          have hw3' : σ w3 = none := St.ns1 hw3
          rw [St.del_set hw2']
          repeat (first|(refine yl ?_;first|refine y7 ?_|refine y8 ?_|refine y10 ?_|refine y11 ?_|refine ybd ?_|refine ybl ?_|refine y1 ?_|refine y2 ?_|refine y3 ?_|refine y3f ?_|refine y9 ?_|refine y14 ?_|refine y15 ?_|refine y16 ?_|refine y17 ?_|refine y18 ?_|refine y21 ?_|refine y25 ?_|refine yi1 ?_|refine yi2 ?_|refine yi3 ?_|refine yi4 ?_|refine yi4q ?_|refine yi6 ?_|refine ylit ?_))
          refine ynil ?_
          (first|refine n10 ?_)
          (first|refine n1 ?_)
          refine cj_freeze 3 (els := (insR x out).map int1) rfl (St.set_same _ _ _) hlen.symm (by decide) ?_
          rw [St.del_set hw3']
          repeat (first|(refine jl ?_;first|refine j1 ?_|refine j6 ?_)|(refine jc ?_;first|refine c2 ?_))
          have hli : (insR x out).length = out.length + 1 := by rw [← hlen, List.length_map]
          exact nx_forS (i + 1, insR x out) ⟨by dsimp only; omega, by dsimp only; omega, h3⟩ (by dsimp only; omega) ⟨⟨_, rfl, wk1 (by omega)⟩, ⟨_, rfl, fun _ _ h => h⟩, trivial⟩ (St.le_refl _)
end Go.Proofs.Ytbpoeggmpjepfaa.Ab
