/- The texts H1, H2, H3, V8, V9, VA, H4, H5, H6, H7, H8, H9, HA, HB, HC, HD, one behind the other. -/
import Derived.Test.YtfaaokekgljnbaaDoorM1
import Derived.Test.YtfaaokekgljnbaaDoorM2
import Derived.Test.YtfaaokekgljnbaaDoorM3
import Derived.Test.YtfaaokekgljnbaaDoorM4
import Derived.Test.YtfaaokekgljnbaaDoorM5
import Derived.Test.YtfaaokekgljnbaaDoorM6
import Derived.Lib.MapLaws
import Derived.Lib.Bytealg
/- The lexer: beginnings, and where a byte stands. -/
set_option linter.unusedVariables false
set_option linter.unusedSimpArgs false
set_option maxRecDepth 20000
namespace Go.Proofs.YtfaaokekgljnbaaDoor.Ab
open Go
section
variable {P : Program} {o : Oper} {E : Operand → Option AV} {σ : St} {R : Option AV → St → Prop}
/-- A function without a body, of two plain arguments. -/
theorem opj_extern2 {f : FuncId} {fn : Func} {ext : Array Value → Sem Value} {x y : Operand} {ts : Array TypeId} {vx vy r : Value} (ho : o.op = .call { callee := .value (.func f), args := #[x, y], argTypes := ts }) (hf : P.funcs[f]? = some fn) (hname : (fn.name == "runtime.NumGoroutine") = false) (hb : fn.body.isNone = true) (hn : Extern.findNext fn = none) (he : Extern.find fn = some ext) (hE : E (.func f) = some (.fn f [])) (hx : E x = some (.v vx)) (hy : E y = some (.v vy)) (hr1 : r.oneCell' = true) (hrun : ∀ (w : World), (ext #[vx, vy]).run P w = .ok r w) (hR : R (some (.v r)) σ) : OpJ P o E σ R :=
  opj_quiet _ (fun k e hk1 hk hr => by
    have hxr := hr x (by rw [ho]; simp [Op.operands, Call.operands]) _ hx
    have hyr := hr y (by rw [ho]; simp [Op.operands, Call.operands]) _ hy
    have hfr := hr (.func f) (by rw [ho]; simp [Op.operands, Call.operands]) _ hE
    generalize hu : e (.func f) = u at hfr
    cases hfr with
    | fn hl hcap =>
      rename_i vs
      have hvs : vs = #[] := Array.eq_empty_of_size_eq_zero (by simpa using hl)
      subst hvs
      refine ⟨r, ?_, .v hr1⟩
      generalize hux : e x = ux at hxr
      generalize huy : e y = uy at hyr
      cases hxr
      cases hyr
      unfold execOp
      simp only [ho, resolve, hu, Deferred.ofValue, invoke, Sem.run_bind, Sem.run_pure, Result.andThen_ok, List.map_toArray, List.map_cons, List.map_nil]
      have := run_callFunc_extern hf hname hb hn he #[vx, vy] k.w
      rw [hrun] at this
      simpa [hux, huy] using this) hR
end
section
variable {P : Program} {nt : Nat} {ops : Array Oper} {Q : Post} {σ : St} {fr : Fr} {rest : List Oper} {t : Tmp} {ty : TypeId} {pos : String} {aft : Array Edge}
theorem jcr {s d : TypeId} {x : Operand} {k : IntKind} {n : Int} {u : TypeDesc} (h : LJ P nt ops Q rest ((t, .v (.string (Utf8.encode n))) :: fr) σ) (hs : P.underlying s = some u := by exact rfl) (hd : P.underlying d = some .string := by exact rfl) (hx : ev fr x = some (.v (.int k n)) := by exact rfl) (hd2 : fits nt (some t) = true := by exact rfl) :
    LJ P nt ops Q (⟨some t, .convert s d x, ty, pos, aft, none⟩ :: rest) fr σ := lj_v hd2 (fun R hR => opj_conv_rune rfl hs hd hx hR) h
theorem jixb {f : FuncId} {fn : Func} {x y : Operand} {ts : Array TypeId} {s : ByteArray} {c : Int} (h : LJ P nt ops Q rest ((t, .v (.int .i64 (Lib.indexByte s.data.toList c.toNat.toUInt8))) :: fr) σ) (hf : P.funcs[f]? = some fn := by exact rfl) (hname : (fn.name == "runtime.NumGoroutine") = false := by kernel_rfl) (hb : fn.body.isNone = true := by kernel_rfl) (hn : Extern.findNext fn = none := by kernel_rfl) (he : Extern.find fn = some Extern.BytealgIndexByte.indexByte := by kernel_rfl) (hx : ev fr x = some (.v (.string s)) := by exact rfl) (hy : ev fr y = some (.v (.int .u8 c)) := by exact rfl) (hd2 : fits nt (some t) = true := by exact rfl) :
    LJ P nt ops Q (⟨some t, .call { callee := .value (.func f), args := #[x, y], argTypes := ts }, ty, pos, aft, none⟩ :: rest) fr σ := lj_v hd2 (fun R hR => opj_extern2 rfl hf hname hb hn he rfl hx hy rfl (fun w => Lib.run_indexByteString s c w) hR) h
end
attribute [local irreducible] thn inb endR CJ LJ OpJ DJ

theorem p_ixb0 (s : ByteArray) (c : Int) : Pure Tryd.prog 109 [.v (.string s), .v (.int .u8 c)] (.v (.int .i64 (Lib.indexByte s.data.toList c.toNat.toUInt8))) := by
  refine enterW Tryd.func109 rfl rfl rfl rfl (fun σ => ?_)
  repeat' (first|(first|(refine jl ?_;first|refine j1 ?_|refine j4 ?_|refine jixb ?_)|(refine jc ?_;first|refine c1 ?_|refine c2 ?_|refine c7 ?_)|refine n11 ?_))
  exact gives (St.le_refl _) (Fin.refl _ _ _)
theorem p_ixb (s : ByteArray) (c : Int) : Pure Tryd.prog 79 [.v (.string s), .v (.int .u8 c)] (.v (.int .i64 (Lib.indexByte s.data.toList c.toNat.toUInt8))) := by
  refine enterW Tryd.func79 rfl rfl rfl rfl (fun σ => ?_)
  repeat' (first|(first|(refine jl ?_;first|refine j1 ?_|refine j4 ?_|refine jp (p_ixb0 _ _) ?_)|(refine jc ?_;first|refine c1 ?_|refine c2 ?_|refine c7 ?_)|refine n11 ?_))
  exact gives (St.le_refl _) (Fin.refl _ _ _)
/-- The one text begins with the other. -/
def hasPre (s p : ByteArray) : Bool := decide (p.size ≤ s.size) && decide (s.extract 0 p.size = p)
theorem p_hpre0 (s p : ByteArray) : Pure Tryd.prog 142 [.v (.string s), .v (.string p)] (.v (.bool (hasPre s p))) := by
  refine enterW Tryd.func142 rfl rfl rfl rfl (fun σ => ?_)
  repeat' (first|(first|(refine jl ?_;first|refine j8 ?_|refine j1 ?_|refine j4 ?_|refine j9 ?_|refine jsq (b := 0) (k := p.size) (s := s) (cc := decide ((p.size : Int) ≤ s.size)) (by simp) ?_)|(refine jc ?_;first|refine c1 ?_|refine c2 ?_|refine c7 ?_)|refine n11 ?_))
  refine gives (St.le_refl _) (fin_one (.wk (Wk.of_eq ?_)))
  simp [hasPre]
theorem p_hpre (s p : ByteArray) : Pure Tryd.prog 110 [.v (.string s), .v (.string p)] (.v (.bool (hasPre s p))) := by
  refine enterW Tryd.func110 rfl rfl rfl rfl (fun σ => ?_)
  repeat' (first|(first|(refine jl ?_;first|refine j1 ?_|refine j4 ?_|refine jp (p_hpre0 _ _) ?_)|(refine jc ?_;first|refine c1 ?_|refine c2 ?_|refine c7 ?_)|refine n11 ?_))
  exact gives (St.le_refl _) (Fin.refl _ _ _)
theorem p_rbegins (s p : ByteArray) : Pure Tryd.prog 128 [.v (.string s), .v (.string p)] (.v (.bool (hasPre s p))) := by
  refine enterW Tryd.func128 rfl rfl rfl rfl (fun σ => ?_)
  repeat' (first|(first|(refine jl ?_;first|refine j8 ?_|refine j1 ?_|refine j4 ?_|refine j9 ?_|refine jsq (b := 0) (k := p.size) (s := s) (cc := decide ((p.size : Int) ≤ s.size)) (by simp) ?_)|(refine jc ?_;first|refine c1 ?_|refine c2 ?_|refine c7 ?_)|refine n11 ?_))
  refine gives (St.le_refl _) (fin_one (.wk (Wk.of_eq ?_)))
  simp [hasPre]
theorem exl (s : ByteArray) (i j : Nat) : (s.extract i j).data.toList = (s.data.toList.take j).drop i := by
  rw [ByteArray.data_extract]
  simp [List.drop_take]
theorem hasPre_iff (s p : ByteArray) : hasPre s p = true ↔ s.data.toList.take p.size = p.data.toList := by
  have h1 := bl_len s
  have h2 := bl_len p
  unfold hasPre
  simp only [Bool.and_eq_true, decide_eq_true_eq]
  constructor
  · rintro ⟨h, e⟩
    have := exl s 0 p.size
    rw [e, List.drop_zero] at this
    exact this.symm
  · intro e
    have := congrArg List.length e
    rw [List.length_take] at this
    refine ⟨by omega, ?_⟩
    apply ByteArray.ext
    apply Array.toList_inj.1
    rw [exl, List.drop_zero, e]
/-! ### Code points -/
theorem dec_valid (l : List UInt8) : (Lib.decodeL l).1 ≤ 1114111 ∧ ¬ (55296 ≤ (Lib.decodeL l).1 ∧ (Lib.decodeL l).1 ≤ 57343) := by
  have k0 := (l.getD 0 0).toNat_lt
  rw [Lib.decodeL_N]
  rcases Lib.decodeN_shape l.length (l.getD 0 0).toNat (l.getD 1 0).toNat (l.getD 2 0).toNat (l.getD 3 0).toNat with ⟨c, e⟩ | ⟨c1, c2, c3, cv, e⟩ | ⟨c1, c2, c3, c4, cv, cs, e⟩ | ⟨c1, c2, c3, c4, c5, cv, cw, e⟩ | e
  all_goals rw [e]; dsimp only; omega
theorem dec_enc (c : Nat) (hc : c ≤ 1114111) (hs : ¬ (55296 ≤ c ∧ c ≤ 57343)) : Lib.decodeL (Utf8.encode (c : Int)).data.toList = (c, (Utf8.encode (c : Int)).size) := by
  have v : Utf8.valid (c : Int) = true := by simp [Utf8.valid]; omega
  have n := Int.toNat_natCast c
  unfold Utf8.encode
  rw [if_pos v, n]
  dsimp only
  repeat' split
  all_goals
    rw [Lib.decodeL_N]
    simp only [List.length_cons, List.length_nil, List.getD_cons_zero, List.getD_cons_succ, List.getD_nil, UInt8.toNat_ofNat', ByteArray.size, List.size_toArray, Lib.decodeN]
    repeat' split
  all_goals first | (exfalso; omega) | (refine Prod.ext ?_ ?_ <;> dsimp only <;> first | omega | rfl)
theorem enc_size (c : Nat) : 1 ≤ (Utf8.encode (c : Int)).size ∧ (Utf8.encode (c : Int)).size ≤ 4 := by
  unfold Utf8.encode
  dsimp only
  repeat' split
  all_goals simp [ByteArray.size]
theorem word_enc (c : Nat) (hc : c ≤ 1114111) (hs : ¬ (55296 ≤ c ∧ c ≤ 57343)) : wordB (Utf8.encode (c : Int)) = decide (inP (c : Int)) := by
  have hz := enc_size c
  have hl := bl_len (Utf8.encode (c : Int))
  have hd := dec_enc c hc hs
  have hne : (Utf8.encode (c : Int)).data.toList ≠ [] := fun e => by rw [e] at hl; simp at hl; omega
  have hn : ¬ (c = 65533 ∧ (Utf8.encode (c : Int)).size = 1) := fun h => by
    have h2 := h.2
    rw [h.1] at h2
    simp [Utf8.encode, Utf8.valid, ByteArray.size] at h2
  generalize Utf8.encode (c : Int) = e at *
  unfold wordB
  rw [decide_eq_true (by omega), decide_eq_true (by omega : e.size ≤ 24), Bool.true_and, Bool.true_and, wordL_step _ hne, hd]
  dsimp only
  rw [if_neg hn, List.drop_of_length_le (by omega), wordL_nil, Bool.and_true]
theorem fffd (l : List UInt8) (hne : l ≠ []) (h : (Lib.decodeL l).1 = 65533) : l.take 3 = [239, 191, 189] ↔ ¬ (Lib.decodeL l).2 = 1 := by
  constructor
  · intro e
    have hk : ∀ i, i < 3 → l.getD i 0 = ([239, 191, 189] : List UInt8).getD i 0 := fun i hi => by
      rw [← e]
      simp [List.getD, List.getElem?_take, hi]
    have hlen := congrArg List.length e
    rw [List.length_take] at hlen
    simp only [List.length_cons, List.length_nil] at hlen
    rw [Lib.decodeL_N, hk 0 (by omega), hk 1 (by omega), hk 2 (by omega)]
    generalize l.length = n at *
    generalize (l.getD 3 0).toNat = z
    simp [Lib.decodeN, show 1 < n by omega, show 2 < n by omega]
  · intro hw
    have he := Lib.encode_decode l hne (fun x => hw x.2)
    have hle := Lib.decodeL_le l hne
    rw [h] at he
    have h3 : Lib.encodeRune ((65533 : Nat) : Int) = [239, 191, 189] := by decide
    rw [h3] at he
    have hlen := congrArg List.length he
    rw [List.length_take] at hlen
    simp only [List.length_cons, List.length_nil] at hlen
    rw [he, show (3 : Nat) = (Lib.decodeL l).2 by omega]
/-- How many bytes a word has at the beginning of a text. -/
def runF : Nat → List UInt8 → Nat
  | 0, _ => 0
  | n + 1, l => if l = [] then 0 else if ((Lib.decodeL l).1 = 65533 ∧ (Lib.decodeL l).2 = 1) ∨ ¬ inP (Lib.decodeL l).1 then 0 else (Lib.decodeL l).2 + runF n (l.drop (Lib.decodeL l).2)
theorem runF_nil (n : Nat) : runF n [] = 0 := by cases n <;> rfl
theorem runF_fuel : ∀ (n m : Nat) (l : List UInt8), l.length ≤ n → l.length ≤ m → runF n l = runF m l
  | 0, m, l, hn, _ => by
    have : l = [] := List.eq_nil_of_length_eq_zero (by omega)
    subst this
    rw [runF_nil, runF_nil]
  | n + 1, 0, l, _, hm => by
    have : l = [] := List.eq_nil_of_length_eq_zero (by omega)
    subst this
    rw [runF_nil, runF_nil]
  | n + 1, m + 1, l, hn, hm => by
    unfold runF
    by_cases hne : l = []
    · simp [hne]
    · have hw := Lib.decodeL_width l
      have hl : 0 < l.length := List.length_pos_iff.2 hne
      rw [if_neg hne, if_neg hne, runF_fuel n m (l.drop (Lib.decodeL l).2) (by rw [List.length_drop]; omega) (by rw [List.length_drop]; omega)]
def runL (l : List UInt8) : Nat := runF l.length l
theorem runL_nil : runL [] = 0 := rfl
theorem runL_step (l : List UInt8) (hne : l ≠ []) : runL l = if ((Lib.decodeL l).1 = 65533 ∧ (Lib.decodeL l).2 = 1) ∨ ¬ inP (Lib.decodeL l).1 then 0 else (Lib.decodeL l).2 + runL (l.drop (Lib.decodeL l).2) := by
  have hl : 0 < l.length := List.length_pos_iff.2 hne
  have hw := Lib.decodeL_width l
  obtain ⟨n, hn⟩ : ∃ n, l.length = n + 1 := ⟨l.length - 1, by omega⟩
  unfold runL
  rw [hn]
  show (if l = [] then 0 else _) = _
  rw [if_neg hne, runF_fuel n (l.drop (Lib.decodeL l).2).length _ (by rw [List.length_drop]; omega) (Nat.le_refl _)]
theorem runF_le : ∀ (n : Nat) (l : List UInt8), runF n l ≤ l.length
  | 0, _ => Nat.zero_le _
  | n + 1, l => by
    unfold runF
    split
    · exact Nat.zero_le _
    · rename_i hne
      split
      · exact Nat.zero_le _
      · have h1 := Lib.decodeL_le l hne
        have h2 := runF_le n (l.drop (Lib.decodeL l).2)
        rw [List.length_drop] at h2
        omega
theorem runL_le (l : List UInt8) : runL l ≤ l.length := runF_le _ _
def fffdS : ByteArray := ⟨#[239, 191, 189]⟩
set_option maxHeartbeats 1000000 in
theorem p_run (s : ByteArray) : Pure Tryd.prog 112 [.v (.string s)] (.v (.int .i64 (runL s.data.toList))) := by
  refine enterW Tryd.func112 rfl rfl rfl rfl (fun σ => ?_)
  repeat (first|(refine jl ?_;first|refine j1 ?_|refine j4 ?_|refine j22 (fun id hid=>?_))|(refine jc ?_;first|refine c1 ?_|refine c2 ?_|refine c5 ?_))
  have hlen := bl_len s
  refine cj_head (fun p : Nat => p ≤ s.size ∧ p + runL (s.data.toList.drop p) = runL s.data.toList) (fun p => [(0, .v (.string s)), (6, .it id)]) (fun p => σ.set id (.siter s p)) (fun p => s.size - p) 0 ⟨Nat.zero_le _, Nat.zero_add _⟩ ⟨rfl, rfl, trivial⟩ (St.le_refl _) (fun p hp => ?_)
  obtain ⟨hp1, hp2⟩ := hp
  by_cases hlt : p < s.size
  · have hne : s.data.toList.drop p ≠ [] := by
      intro e
      have := congrArg List.length e
      simp at this
      omega
    have hstep := runL_step _ hne
    have hdw := Lib.decodeL_width (s.data.toList.drop p)
    have hdl := Lib.decodeL_le _ hne
    have hdv := dec_valid (s.data.toList.drop p)
    have hww := word_enc _ hdv.1 hdv.2
    rw [← decodeL_rune'] at hww
    rw [List.drop_drop] at hstep
    rw [List.length_drop, hlen] at hdl
    repeat' (first|(first|(refine jl ?_;first|refine j7 ?_|refine j11 ?_|refine j1 ?_|refine j4 ?_|refine j9 ?_|refine j23 ?_|refine jp (p_word _) ?_|refine jcq (hp:=fun hc=>p_hpre _ _) ?_|refine jsq (b := p) (k := s.size) (s := s) (fun _ => ⟨by omega, by omega, by omega⟩) ?_)|(refine jc ?_;first|refine c1 ?_|refine c2 ?_|refine c3 ?_|refine c5 ?_|refine c6 ?_|refine c7 ?_)|refine n1 ?_|refine n2 ?_|refine n5 ?_|refine n6 ?_|refine n10 ?_|refine n11 ?_)|(refine c9 (fun h=>?_) (fun h=>?_)<;>(try simp only [Bool.or_eq_true, Bool.and_eq_true, Bool.or_eq_false_iff, Bool.and_eq_false_iff, Bool.not_eq_true', Bool.not_eq_false', decide_eq_true_eq, decide_eq_false_iff_not, Bool.false_eq_true, Bool.true_eq_false, reduceCtorEq] at h)))
    all_goals
      have hx : hasPre (s.extract (p : Int).toNat (s.size : Int).toNat) ⟨#[239, 191, 189]⟩ = true ↔ (s.data.toList.drop p).take 3 = [239, 191, 189] := by
        rw [hasPre_iff, exl, Int.toNat_natCast, Int.toNat_natCast, ← hlen, List.take_length]
        exact Iff.rfl
      rw [hww] at h
      simp only [decodeL_rune', decide_eq_false_iff_not, decide_eq_true_eq] at h hstep hdw hdl hx ⊢
    · have h0 : runL (s.data.toList.drop p) = 0 := by
        rw [hstep, if_pos]
        rcases h with h | ⟨h, h2⟩
        · exact Or.inr h
        · refine Or.inl ⟨by omega, ?_⟩
          have := fffd _ hne (by omega)
          rw [← hx, h2] at this
          simpa using this
      refine gives (by (try rw [St.set_set]); exact St.le_set _ hid) (fin_one (.wk (Wk.of_eq ?_)))
      rw [← hp2, h0]
      rfl
    · have h1 : runL (s.data.toList.drop p) = (Lib.decodeL (s.data.toList.drop p)).2 + runL (s.data.toList.drop (p + (Lib.decodeL (s.data.toList.drop p)).2)) := by
        rw [hstep, if_neg]
        rintro (⟨h3, h4⟩ | h3)
        · rcases h.2 with h5 | h5
          · omega
          · have := (fffd _ hne h3).1 (hx.1 h5)
            exact this h4
        · exact h3 h.1
      exact nx_thn ⟨p + (Lib.decodeL (s.data.toList.drop p)).2, ⟨by omega, by omega⟩, by omega, ⟨rfl, rfl, trivial⟩, by (try rw [St.set_set]); exact St.le_refl _⟩
  · have hnil : s.data.toList.drop p = [] := List.drop_of_length_le (by omega)
    repeat' (first|(first|(refine jl ?_;first|refine j1 ?_|refine j4 ?_|refine j24 ?_)|(refine jc ?_;first|refine c1 ?_|refine c2 ?_|refine c4 ?_|refine c7 ?_|refine c8 ?_)|refine n1 ?_|refine n3 ?_|refine n7 ?_|refine n8 ?_|refine n11 ?_))
    refine gives (St.le_set _ hid) (fin_one (.wk (Wk.of_eq ?_)))
    rw [hnil, runL_nil] at hp2
    rw [← hp2, show p = s.size by omega]
    rfl
theorem p_rrun (s : ByteArray) (hz : s.size ≤ 9223372036854775807) : Pure Tryd.prog 127 [.v (.string s)] (.v (.string (s.extract 0 (runL s.data.toList)))) := by
  refine enterW Tryd.func127 rfl rfl rfl rfl (fun σ => ?_)
  repeat (first|(refine jl ?_;first|refine j1 ?_|refine j4 ?_)|(refine jc ?_;first|refine c1 ?_|refine c2 ?_|refine c5 ?_))
  have hlen := bl_len s
  refine cj_head (fun p : Nat => p ≤ s.size ∧ p + runL (s.data.toList.drop p) = runL s.data.toList) (fun p => [(0, .v (.string s)), (3, .v (.int .i64 p))]) (fun p => σ) (fun p => s.size - p) 0 ⟨Nat.zero_le _, Nat.zero_add _⟩ ⟨rfl, rfl, trivial⟩ (St.le_refl _) (fun p hp => ?_)
  obtain ⟨hp1, hp2⟩ := hp
  by_cases hlt : p < s.size
  · have hne : s.data.toList.drop p ≠ [] := by
      intro e
      have := congrArg List.length e
      simp at this
      omega
    have hstep := runL_step _ hne
    have hdw := Lib.decodeL_width (s.data.toList.drop p)
    have hdl := Lib.decodeL_le _ hne
    rw [List.drop_drop] at hstep
    rw [List.length_drop, hlen] at hdl
    have hr : runeS (s.extract p s.size) = _ := runeS_dec _
    rw [Lib.ext_list] at hr
    repeat' (first|(first|(refine jl ?_;first|refine j7 ?_|refine j1 ?_|refine j4 ?_|refine j6 ?_|refine j9 ?_|refine j21 ?_|refine jp (p_rrune (s.extract p s.size) (by rw [Lib.ext_size]; omega)) ?_|refine jcq (hp:=fun hc=>p_rinword _) ?_)|(refine jc ?_;first|refine c1 ?_|refine c2 ?_|refine c5 ?_|refine c6 ?_|refine c7 ?_|refine c8 ?_)|refine n1 ?_|refine n3 ?_|refine n7 ?_|refine n8 ?_|refine n9 ?_|refine n10 ?_|refine n11 ?_)|(refine c9 (fun h=>?_) (fun h=>?_)<;>((try simp only [Bool.or_eq_true, Bool.and_eq_true, Bool.or_eq_false_iff, Bool.and_eq_false_iff, Bool.not_eq_true', Bool.not_eq_false', decide_eq_true_eq, decide_eq_false_iff_not, Bool.false_eq_true, Bool.true_eq_false, reduceCtorEq] at h) <;> (try simp (disch := omega) only [sb_bt, w64, Int.reduceAdd, Int.reduceToNat, Int.toNat_natCast, not_true_eq_false, false_or] at h) <;> (try (exfalso; omega)))))
    · have h0 : runL (s.data.toList.drop p) = 0 := by
        rw [hstep]
        rw [hr] at h
        split at h
        · rename_i hc
          rw [if_pos (Or.inl hc)]
        · rename_i hc
          rw [if_pos]
          rcases h with h | h
          · omega
          · exact Or.inr h
      refine gives (St.le_refl _) (fin_one (.wk (Wk.of_eq ?_)))
      rw [← hp2, h0]
      rfl
    · rw [hr] at h ⊢
      split at h
      · exact absurd rfl h.1
      · rename_i hc
        rw [if_neg hc]
        have h1 : runL (s.data.toList.drop p) = (Lib.decodeL (s.data.toList.drop p)).2 + runL (s.data.toList.drop (p + (Lib.decodeL (s.data.toList.drop p)).2)) := by
          rw [hstep, if_neg]
          rintro (h3 | h3)
          · exact hc h3
          · exact h3 h.2
        refine nx_thn ⟨p + (Lib.decodeL (s.data.toList.drop p)).2, ⟨by omega, by omega⟩, by omega, ⟨rfl, ?_, trivial⟩, St.le_refl _⟩
        show some (AV.v (.int .i64 (IntKind.i64.wrap ((p : Int) + ((Lib.decodeL (s.data.toList.drop p)).2 : Nat))))) = _
        rw [w64 (by omega) (by omega)]
        rfl
  · have hnil : s.data.toList.drop p = [] := List.drop_of_length_le (by omega)
    repeat' (first|(first|(refine jl ?_;first|refine j1 ?_|refine j4 ?_|refine j21 ?_)|(refine jc ?_;first|refine c1 ?_|refine c2 ?_|refine c7 ?_|refine c8 ?_)|refine n1 ?_|refine n3 ?_|refine n7 ?_|refine n8 ?_|refine n11 ?_)|(refine c9 (fun h=>?_) (fun h=>?_)<;>((try simp only [Bool.or_eq_true, Bool.and_eq_true, Bool.or_eq_false_iff, Bool.and_eq_false_iff, Bool.not_eq_true', Bool.not_eq_false', decide_eq_true_eq, decide_eq_false_iff_not, Bool.false_eq_true, Bool.true_eq_false, reduceCtorEq] at h) <;> (try simp (disch := omega) only [sb_bt, w64, Int.reduceAdd, Int.reduceToNat, Int.toNat_natCast, not_true_eq_false, false_or] at h) <;> (try (exfalso; omega)))))
    refine gives (St.le_refl _) (fin_one (.wk (Wk.of_eq ?_)))
    rw [hnil, runL_nil] at hp2
    rw [← hp2]
    rfl
end Go.Proofs.YtfaaokekgljnbaaDoor.Ab

/- The lexer: the scanner puts a token. -/
set_option linter.unusedVariables false
set_option linter.unusedSimpArgs false
set_option maxRecDepth 20000
namespace Go.Proofs.YtfaaokekgljnbaaDoor.Ab
open Go
attribute [local irreducible] thn inb endR CJ LJ OpJ DJ DA DB AllocK

/-- A token. -/
structure Tk where
  k : Int
  nm : ByteArray
  p : Int
  v : Vl
  pl : Int
  deriving DecidableEq
def tkc (t : Tk) : List AV := [.v (.int .u8 t.k), .v (.string t.nm), .v (.int .u8 t.p), .v (.int .u8 t.v.k), .v (.int .i64 t.v.n), .v (.string t.v.s), .v (.int .i64 t.pl)]
abbrev scS (τ : St) (id w : Nat) (s : ByteArray) (a : Nat) (ts : List Tk) : St := (τ.set w (.row 7 31 (ts.map tkc))).set id (.row 3 74 [[.v (.string s), .v (.int .i64 a), .osl w 7 0 ts.length]])
def plO (a : Nat) : Option (Tk × Nat) → Nat
  | none => a
  | some (_, n) => a + n
def tsO (a : Nat) (ts : List Tk) : Option (Tk × Nat) → List Tk
  | none => ts
  | some (t, _) => ts ++ [{ t with pl := a }]
set_option maxHeartbeats 1000000 in
theorem q_put {τ : St} {id0 w a : Nat} {s : ByteArray} {ts : List Tk} {o : AObj} (t : Tk) (n : Nat) (hw : τ w = none) (hi : τ id0 = some o) (hl : ts.length ≤ 16384) (hb : a + n ≤ 65536) : ACalls Tryd.prog 111 [.ptr id0 3 0 0, .agg (tkc t), .v (.int .i64 n)] (scS τ id0 w s a ts) (fun e σ' => ∃ w', τ w' = none ∧ e = .ret (.v (.bool true)) ∧ σ' = scS τ id0 w' s (a + n) (ts ++ [{ t with pl := a }])) := by
  refine acalls_gives_ex ?_
  refine enter Tryd.func111 rfl rfl rfl rfl ?_
  obtain ⟨tk, tn, tp, ⟨vk, vn, vs⟩, tl⟩ := t
  have hn : (ts.map tkc).length = ts.length := List.length_map ..
  have nwi : w ≠ id0 := St.ne_some hw hi
  repeat' (first|(first|(refine jl ?_;first|refine j1 ?_|refine j4 ?_|refine j12 (fun id hid=>?_)|refine j14 ?_|refine j17t ?_)|(refine al ?_;first|refine da_nil ?_|refine a1 ?_|refine a14 ?_|refine alit ?_)|refine al_nil ?_|(refine jc ?_;first|refine c1 ?_|refine c2 ?_|refine cqe 7 false ?_)))
  have hid4 := hid
  have hi4 : τ id = none := St.ns2 hid
  have hall : (ts.map tkc).take ts.length ++ [tkc ⟨tk, tn, tp, ⟨vk, vn, vs⟩, a⟩] = (ts ++ [(⟨tk, tn, tp, ⟨vk, vn, vs⟩, a⟩ : Tk)]).map tkc := by rw [List.take_of_length_le (by omega), List.map_append]; rfl
  refine bapo (n := ts.length) (m := ts.length + 1) (news := [tkc ⟨tk, tn, tp, ⟨vk, vn, vs⟩, a⟩]) (fun w2 hw2 => ?_) hall rfl (hn := by omega) (hb := by dsimp only [List.length]; omega)
  have hw2' : τ w2 = none := St.ns3 hw2
  have n2i : w2 ≠ id0 := St.ne_some hw2' hi
  have n3i : id0 ≠ id := St.nn0 hid4
  refine b1 ?_
  refine b1 ?_
  refine b17 (hσ := by rw [St.set_ne' _ _ _ n2i, St.del_ne nwi, St.set_ne _ _ _ n3i]; exact St.set_same _ _ _) ?_
  repeat (first|(refine jl ?_;first|refine j1 ?_|refine j4 ?_|refine j14 ?_|refine j17t ?_)|(refine bl ?_;first|refine db_nil ?_)|(refine jc ?_;first|refine c1 ?_|refine c2 ?_|refine c7 ?_)|refine n1 ?_|refine n11 ?_)
  refine ⟨w2, hw2', ?_⟩
  refine gives ?_ (Fin.refl _ _ _)
  rw [w64 (by omega) (by omega), ← Int.natCast_add]
  dsimp only [scS]
  rw [List.length_append, List.length_singleton]
  exact St.le_set2 (St.leX_same (St.leX_setk (St.leX_del (St.leX_any (St.leX_same (St.leX_any (St.leX_refl _ _) hw)) hi4) hw))) (St.set_same _ _ _)
end Go.Proofs.YtfaaokekgljnbaaDoor.Ab

/- The lexer: fixed signs. -/
set_option linter.unusedVariables false
set_option linter.unusedSimpArgs false
set_option maxRecDepth 20000
namespace Go.Proofs.YtfaaokekgljnbaaDoor.Ab
open Go
section
variable {P : Program} {o : Oper} {E : Operand → Option AV} {σ : St} {R : Option AV → St → Prop}
/-- An element of an array's value. -/
theorem opj_index_arr {t et : TypeId} {x ix : Operand} {n sz : Nat} {q : Option Nat} {cs : List AV} {kk : IntKind} {m : Int} {av : AV} (ho : o.op = .index t x ix) (ht : P.underlying t = some (.array n et)) (hs : sizeIs P et = some sz) (hq : shapeOf P et = some q) (hx : E x = some (.agg cs)) (hi : E ix = some (.v (.int kk m))) (h0 : 0 ≤ m) (h1 : m < n) (hp : part? cs (m.toNat * sz) q = some av) (hR : R (some av) σ) : OpJ P o E σ R :=
  opj_quiet av (fun k e hσ hk hr => by
    have h := hr x (by rw [ho]; simp [Op.operands]) _ hx
    have h2 := rep_v (hr ix (by rw [ho]; simp [Op.operands]) _ hi)
    generalize hu : e x = u at h
    cases h with
    | agg hl h3 hc =>
      obtain ⟨v, h4, h5⟩ := run_part (P := P) hq hl h3 hc hp k.w
      refine ⟨v, ?_, h5⟩
      unfold execOp
      simp only [ho, hu, h2, Instr.index, asIntOf, Sem.run_bind, Sem.run_pure, Result.andThen_ok, run_underlying ht]
      rw [if_pos ⟨h0, h1⟩]
      simp only [Sem.run_bind, run_sizeIs hs, Result.andThen_ok, h4]) hR
end
section
variable {P : Program} {nt : Nat} {ops : Array Oper} {Q : Post} {σ : St} {fr : Fr} {rest : List Oper} {t : Tmp} {ty : TypeId} {pos : String} {aft : Array Edge}
theorem jia {st et : TypeId} {x ix : Operand} {n sz : Nat} {q : Option Nat} {cs : List AV} {kk : IntKind} {m : Int} (av : AV) (h : LJ P nt ops Q rest ((t, av) :: fr) σ) (ht : P.underlying st = some (.array n et) := by exact rfl) (hs : sizeIs P et = some sz := by exact rfl) (hq : shapeOf P et = some q := by exact rfl) (hx : ev fr x = some (.agg cs) := by exact rfl) (hi : ev fr ix = some (.v (.int kk m)) := by exact rfl) (h0 : 0 ≤ m := by omega) (h1 : m < n := by omega) (hp : part? cs (m.toNat * sz) q = some av) (hd2 : fits nt (some t) = true := by exact rfl) :
    LJ P nt ops Q (⟨some t, .index st x ix, ty, pos, aft, none⟩ :: rest) fr σ := lj_v hd2 (fun R hR => opj_index_arr rfl ht hs hq hx hi h0 h1 hp hR) h
end
attribute [local irreducible] thn inb endR CJ LJ OpJ DJ DA DB AllocK

def tkS (k : Int) : Tk := ⟨k, ⟨#[]⟩, 0, ⟨0, 0, ⟨#[]⟩⟩, 0⟩
def tkP (p : Int) : Tk := ⟨10, ⟨#[]⟩, p, ⟨0, 0, ⟨#[]⟩⟩, 0⟩
def tkN (k : Int) (nm : ByteArray) : Tk := ⟨k, nm, 0, ⟨0, 0, ⟨#[]⟩⟩, 0⟩
def tkV (v : Vl) : Tk := ⟨11, ⟨#[]⟩, 0, v, 0⟩
def signs : List ByteArray := [⟨#[40]⟩, ⟨#[41]⟩, ⟨#[123]⟩, ⟨#[125]⟩, ⟨#[60, 60]⟩, ⟨#[62, 62]⟩, ⟨#[45, 45, 62]⟩]
def signL (r : ByteArray) : Nat → List ByteArray → Option (Tk × Nat)
  | _, [] => if hasPre r ⟨#[45, 40]⟩ then some (tkS 7, 1) else none
  | k, p :: ps => if hasPre r p then some (tkS k, p.size) else signL r (k + 1) ps
def signF (r : ByteArray) : Option (Tk × Nat) := signL r 0 signs
set_option maxHeartbeats 1000000 in
theorem q_sign {τ : St} {id0 w a : Nat} {s : ByteArray} {ts : List Tk} {o : AObj} (hw : τ w = none) (hi : τ id0 = some o) (hl : ts.length ≤ 16384) (ha : a ≤ s.size) (hb : s.size ≤ 16384) : ACalls Tryd.prog 80 [.ptr id0 3 0 0] (scS τ id0 w s a ts) (fun e σ' => ∃ w', τ w' = none ∧ e = .ret (.v (.bool (signF (s.extract a s.size)).isSome)) ∧ σ' = scS τ id0 w' s (plO a (signF (s.extract a s.size))) (tsO a ts (signF (s.extract a s.size)))) := by
  refine acalls_gives_ex ?_
  refine enter Tryd.func80 rfl rfl rfl rfl ?_
  have nwi : w ≠ id0 := St.ne_some hw hi
  repeat (first|(refine jl ?_;first|refine j1 ?_|refine j4 ?_)|(refine dl ?_;first|refine d1 ?_|refine d4 ?_|refine d14 ?_|refine d21 ?_)|(refine jc ?_;first|refine c1 ?_|refine c2 ?_|refine cq ?_)|refine n1 ?_)
  refine lj_v rfl (fun R hR => opj_build_arr (n := 7) rfl rfl rfl rfl rfl rfl hR) ?_
  repeat (first|(refine jl ?_;first|refine j1 ?_|refine j4 ?_)|(refine jc ?_;first|refine c5 ?_))
  generalize hr : s.extract (a : Int).toNat (s.size : Int).toNat = r at *
  have hr' : s.extract a s.size = r := hr
  rw [hr']
  refine cj_for (fun i : Nat => i ≤ 7 ∧ signL r i (signs.drop i) = signF r) (fun i => [(16, .v (.int .i64 i))]) (fun i => scS τ id0 w s a ts) (fun i => 7 - i) 0 ⟨Nat.zero_le _, rfl⟩ ⟨⟨_, rfl, fun _ _ h => h⟩, trivial⟩ (St.le_refl _) (fun i hii => ?_)
  obtain ⟨h7, hs⟩ := hii
  rcases hd : signs.drop i with _ | ⟨p, ps⟩
  · have h0 : 7 ≤ i := by simpa [signs] using hd
    obtain rfl : i = 7 := by omega
    rw [hd, signL] at hs
    repeat' (first|(first|(refine jl ?_;first|refine jb ?_|refine j1 ?_|refine j4 ?_|refine jp (p_hpre _ _) ?_)|(refine jc ?_;first|refine c1 ?_|refine c2 ?_|refine c6 ?_|refine c7 ?_|refine c8 ?_)|refine n1 ?_|refine n3 ?_|refine n7 ?_|refine n8 ?_|refine n11 ?_)|(refine c9 (fun h=>?_) (fun h=>?_)<;>((try simp only [Bool.or_eq_true, Bool.and_eq_true, Bool.or_eq_false_iff, Bool.and_eq_false_iff, Bool.not_eq_true', Bool.not_eq_false', decide_eq_true_eq, decide_eq_false_iff_not, Bool.false_eq_true, Bool.true_eq_false, reduceCtorEq] at h) <;> (try simp (disch := omega) only [sb_bt, w64, Int.reduceAdd, Int.reduceToNat, Int.toNat_natCast, not_true_eq_false, false_or] at h) <;> (try (exfalso; omega)))))
    · rw [if_pos h] at hs
      refine lj_calls rfl rfl rfl (q_put (tkS 7) 1 hw hi hl (by omega)) (fun x σ' hx => ?_) (by rintro x σ' ⟨_, _, h, _⟩; cases h)
      obtain ⟨w', hw', hx1, hx2⟩ := hx
      cases hx1
      subst hx2
      repeat (first|(refine jl ?_;first|refine j1 ?_|refine j4 ?_)|(refine jc ?_;first|refine c7 ?_)|refine n2 ?_|refine n11 ?_)
      refine ⟨w', hw', ?_⟩
      rw [← hs]
      exact gives (St.le_refl _) (Fin.refl _ _ _)
    · rw [if_neg (by rw [h]; simp)] at hs
      refine ⟨w, hw, ?_⟩
      rw [← hs]
      exact gives (St.le_refl _) (Fin.refl _ _ _)
  · obtain ⟨g1, g2, g3⟩ := dropc hd
    have g1' : i < 7 := g1
    rw [hd, signL] at hs
    have hp3 : p.size ≤ 3 := by
      have : ∀ q ∈ signs, q.size ≤ 3 := by decide
      exact this p (List.mem_of_getElem? g3)
    have hidx : part? ([.v (.string ⟨#[40]⟩), .v (.string ⟨#[41]⟩), .v (.string ⟨#[123]⟩), .v (.string ⟨#[125]⟩), .v (.string ⟨#[60, 60]⟩), .v (.string ⟨#[62, 62]⟩), .v (.string ⟨#[45, 45, 62]⟩)] : List AV) ((i : Int).toNat * 1) none = some (.v (.string p)) := by
      have := get_map (fun q => AV.v (.string q)) g3
      rw [Nat.mul_one]
      exact this
    repeat' (first|(first|(refine jl ?_;first|refine jb ?_|refine j1 ?_|refine j4 ?_|refine j6 ?_|refine jp (p_hpre _ _) ?_|refine jia (.v (.string p)) ?_ (hp := hidx))|(refine jc ?_;first|refine c1 ?_|refine c2 ?_|refine c5 ?_|refine c6 ?_)|refine n1 ?_|refine n10 ?_)|(refine c9 (fun h=>?_) (fun h=>?_)<;>((try simp only [Bool.or_eq_true, Bool.and_eq_true, Bool.or_eq_false_iff, Bool.and_eq_false_iff, Bool.not_eq_true', Bool.not_eq_false', decide_eq_true_eq, decide_eq_false_iff_not, Bool.false_eq_true, Bool.true_eq_false, reduceCtorEq] at h) <;> (try simp (disch := omega) only [sb_bt, w64, Int.reduceAdd, Int.reduceToNat, Int.toNat_natCast, not_true_eq_false, false_or] at h) <;> (try (exfalso; omega)))))
    · rw [if_pos h] at hs
      refine lj_calls rfl rfl rfl (q_put (tkS (IntKind.u8.wrap i)) p.size hw hi hl (by omega)) (fun x σ' hx => ?_) (by rintro x σ' ⟨_, _, h, _⟩; cases h)
      obtain ⟨w', hw', hx1, hx2⟩ := hx
      cases hx1
      subst hx2
      rw [wu8 (by omega) (by omega)]
      repeat (first|(refine jl ?_;first|refine j1 ?_|refine j4 ?_)|(refine jc ?_;first|refine c7 ?_)|refine n2 ?_|refine n5 ?_|refine n6 ?_|refine n11 ?_)
      refine ⟨w', hw', ?_⟩
      rw [← hs]
      exact gives (St.le_refl _) (Fin.refl _ _ _)
    · rw [if_neg (by rw [h]; simp)] at hs
      exact nx_forS (i + 1) ⟨by omega, by rw [g2]; exact hs⟩ (by omega) ⟨⟨_, rfl, wk1 (by omega)⟩, trivial⟩ (St.le_refl _)
def preds : List ByteArray := [⟨#[61]⟩, ⟨#[60, 62]⟩, ⟨#[60]⟩, ⟨#[60, 61]⟩, ⟨#[62]⟩, ⟨#[62, 61]⟩]
def predL (r : ByteArray) (n : Nat) : Nat → List ByteArray → Option (Tk × Nat)
  | _, [] => none
  | k, p :: ps => if p.size = n ∧ hasPre r p = true then some (tkP k, n) else predL r n (k + 1) ps
def predF (r : ByteArray) (n : Nat) : Option (Tk × Nat) := predL r n 0 preds
theorem sign_pred {i : Nat} {p : ByteArray} (h : preds[i]? = some p) : signS (i : Int) = p := by
  have hi : i < 6 := (List.getElem?_eq_some_iff.1 h).1
  have : i = 0 ∨ i = 1 ∨ i = 2 ∨ i = 3 ∨ i = 4 ∨ i = 5 := by omega
  rcases this with rfl | rfl | rfl | rfl | rfl | rfl <;> (cases h; rfl)
set_option maxHeartbeats 1000000 in
theorem q_pred {τ : St} {id0 w a : Nat} {s : ByteArray} {ts : List Tk} {o : AObj} (n : Nat) (hn : n ≤ 2) (hw : τ w = none) (hi : τ id0 = some o) (hl : ts.length ≤ 16384) (ha : a ≤ s.size) (hb : s.size ≤ 16384) : ACalls Tryd.prog 81 [.ptr id0 3 0 0, .v (.int .i64 n)] (scS τ id0 w s a ts) (fun e σ' => ∃ w', τ w' = none ∧ e = .ret (.v (.bool (predF (s.extract a s.size) n).isSome)) ∧ σ' = scS τ id0 w' s (plO a (predF (s.extract a s.size) n)) (tsO a ts (predF (s.extract a s.size) n))) := by
  refine acalls_gives_ex ?_
  refine enter Tryd.func81 rfl rfl rfl rfl ?_
  have nwi : w ≠ id0 := St.ne_some hw hi
  repeat (first|(refine jl ?_;first|refine j1 ?_|refine j4 ?_)|(refine dl ?_;first|refine d1 ?_|refine d4 ?_|refine d14 ?_|refine d21 ?_)|(refine jc ?_;first|refine c1 ?_|refine c2 ?_|refine c5 ?_|refine cq ?_)|refine n1 ?_)
  generalize hr : s.extract (a : Int).toNat (s.size : Int).toNat = r at *
  have hr' : s.extract a s.size = r := hr
  rw [hr']
  refine cj_for (fun i : Nat => i ≤ 6 ∧ predL r n i (preds.drop i) = predF r n) (fun i => [(6, .v (.int .u8 i))]) (fun i => scS τ id0 w s a ts) (fun i => 6 - i) 0 ⟨Nat.zero_le _, rfl⟩ ⟨⟨_, rfl, fun _ _ h => h⟩, trivial⟩ (St.le_refl _) (fun i hii => ?_)
  obtain ⟨h7, hs⟩ := hii
  rcases hd : preds.drop i with _ | ⟨p, ps⟩
  · have h0 : 6 ≤ i := by simpa [preds] using hd
    obtain rfl : i = 6 := by omega
    rw [hd, predL] at hs
    repeat' (first|(first|(refine jl ?_;first|refine j1 ?_|refine j4 ?_)|(refine jc ?_;first|refine c1 ?_|refine c2 ?_|refine c7 ?_|refine c8 ?_)|refine n1 ?_|refine n3 ?_|refine n7 ?_|refine n8 ?_|refine n11 ?_)|(refine c9 (fun h=>?_) (fun h=>?_)<;>((try simp only [Bool.or_eq_true, Bool.and_eq_true, Bool.or_eq_false_iff, Bool.and_eq_false_iff, Bool.not_eq_true', Bool.not_eq_false', decide_eq_true_eq, decide_eq_false_iff_not, Bool.false_eq_true, Bool.true_eq_false, reduceCtorEq] at h) <;> (try simp (disch := omega) only [sb_bt, w64, Int.reduceAdd, Int.reduceToNat, Int.toNat_natCast, not_true_eq_false, false_or] at h) <;> (try (exfalso; omega)))))
    refine ⟨w, hw, ?_⟩
    rw [← hs]
    exact gives (St.le_refl _) (Fin.refl _ _ _)
  · obtain ⟨g1, g2, g3⟩ := dropc hd
    have g1' : i < 6 := g1
    rw [hd, predL] at hs
    have hsp := sign_pred g3
    have k1 := p_signv (i : Int) (by omega) (by omega)
    rw [hsp] at k1
    repeat' (first|(first|(refine jl ?_;first|refine j8 ?_|refine jb ?_|refine j1 ?_|refine j4 ?_|refine j6 ?_|refine j9 ?_|refine jcq (hp:=fun hc=>p_hpre _ _) ?_|refine jp (k1) ?_)|(refine jc ?_;first|refine c1 ?_|refine c2 ?_|refine c5 ?_|refine c6 ?_)|refine n1 ?_|refine n10 ?_)|(refine c9 (fun h=>?_) (fun h=>?_)<;>((try simp only [Bool.or_eq_true, Bool.and_eq_true, Bool.or_eq_false_iff, Bool.and_eq_false_iff, Bool.not_eq_true', Bool.not_eq_false', decide_eq_true_eq, decide_eq_false_iff_not, Bool.false_eq_true, Bool.true_eq_false, reduceCtorEq] at h) <;> (try simp (disch := omega) only [sb_bt, w64, Int.reduceAdd, Int.reduceToNat, Int.toNat_natCast, not_true_eq_false, false_or] at h) <;> (try (exfalso; omega)))))
    · rw [if_pos ⟨by omega, h.2⟩] at hs
      refine lj_calls rfl rfl rfl (q_put (tkP i) n hw hi hl (by omega)) (fun x σ' hx => ?_) (by rintro x σ' ⟨_, _, h, _⟩; cases h)
      obtain ⟨w', hw', hx1, hx2⟩ := hx
      cases hx1
      subst hx2
      repeat (first|(refine jl ?_;first|refine j1 ?_|refine j4 ?_)|(refine jc ?_;first|refine c7 ?_)|refine n2 ?_|refine n5 ?_|refine n6 ?_|refine n11 ?_)
      refine ⟨w', hw', ?_⟩
      rw [← hs]
      exact gives (St.le_refl _) (Fin.refl _ _ _)
    · rw [if_neg (by rintro ⟨h1, h2⟩; rcases h with h | h; exact h (by omega); rw [h] at h2; cases h2)] at hs
      exact nx_forS (i + 1) ⟨by omega, by rw [g2]; exact hs⟩ (by omega) ⟨⟨_, rfl, Wk.of_eq (by rw [wu8 (by omega) (by omega)]; rfl)⟩, trivial⟩ (St.le_refl _)
end Go.Proofs.YtfaaokekgljnbaaDoor.Ab

/- Values: numbers read; what may be. -/
set_option linter.unusedVariables false
set_option linter.unusedSimpArgs false
set_option maxRecDepth 20000
namespace Go.Proofs.YtfaaokekgljnbaaDoor.Ab
open Go
attribute [local irreducible] thn inb endR CJ LJ OpJ DJ

/-! ### The reference's number -/
def capN : Nat := 1099511627777
theorem p_rnumber (s : ByteArray) (hn : isNumB s = true) (hz : s.size ≤ 9223372036854775807) : Pure Tryd.prog 154 [.v (.string s)] (.v (.int .i64 (if minusB s then -(min (numOf s) capN : Nat) else (min (numOf s) capN : Nat)))) := by
  refine enterW Tryd.func154 rfl rfl rfl rfl (fun σ => ?_)
  obtain ⟨hd, hpos⟩ : allD s = true ∧ 0 < (bodyS s).size := by simpa [isNumB] using hn
  obtain ⟨k, hk, hbd, hk1, hsz⟩ : ∃ k, k ≤ 1 ∧ (bodyS s).data.toList = s.data.toList.drop k ∧ (0 < k → bt s 0 = 45 ∨ bt s 0 = 43) ∧ k < s.size := by
    unfold bodyS at hpos ⊢
    split
    · rename_i h
      rw [if_pos h, Lib.ext_size] at hpos
      exact ⟨1, by omega, Lib.ext_list s 1, fun _ => ((sgnB_iff s).1 h).2, by omega⟩
    · rename_i h
      rw [if_neg h] at hpos
      exact ⟨0, by omega, rfl, fun h => by omega, hpos⟩
  have hdig : ∀ i, k ≤ i → i < s.size → dig (bt s i) := by
    intro i h1 h2
    have h3 : digB (s.data.toList.drop k) = true := by rw [← hbd]; exact hd
    exact digB_get s i k h3 h1 h2
  have hnum : numOf s = valN 0 (s.data.toList.drop k) := by rw [numOf, hbd]
  repeat' (first|(first|(refine jl ?_;first|refine j1 ?_|refine j4 ?_)|(refine jc ?_;first|refine c1 ?_|refine c2 ?_|refine c5 ?_)))
  refine cj_head (fun x : Nat × Nat => x.1 ≤ s.size ∧ x.2 ≤ capN ∧ (x.1 < k → x.2 = 0) ∧ (k ≤ x.1 → min (valN x.2 (s.data.toList.drop x.1)) capN = min (numOf s) capN)) (fun x => [(0, .v (.string s)), (4, .v (.int .i64 x.1)), (3, .v (.int .i64 x.2))]) (fun _ => σ) (fun x => s.size - x.1) (0, 0) ⟨Nat.zero_le _, Nat.zero_le _, fun _ => rfl, fun h => by have : k = 0 := by { simp only at h; omega }; subst this; rw [hnum]⟩ ⟨rfl, rfl, rfl, trivial⟩ (St.le_refl _) (fun x hx => ?_)
  obtain ⟨i, a⟩ := x
  obtain ⟨hi1, hi2, hi3, hi4⟩ := hx
  simp only at hi1 hi2 hi3 hi4
  have hb := bt_lt s i
  repeat' (first|(first|(refine jl ?_;first|refine j8 ?_|refine j1 ?_|refine j4 ?_|refine j6 ?_|refine j9 ?_|refine j18 ?_|refine j20 ?_)|(refine jc ?_;first|refine c1 ?_|refine c2 ?_|refine c5 ?_|refine c6 ?_|refine c7 ?_|refine c8 ?_)|refine n1 ?_|refine n2 ?_|refine n3 ?_|refine n7 ?_|refine n8 ?_|refine n10 ?_|refine n11 ?_)|(refine c9 (fun h=>?_) (fun h=>?_)<;>((try simp only [Bool.or_eq_true, Bool.and_eq_true, Bool.or_eq_false_iff, Bool.and_eq_false_iff, Bool.not_eq_true', Bool.not_eq_false', decide_eq_true_eq, decide_eq_false_iff_not, Bool.false_eq_true, Bool.true_eq_false, reduceCtorEq] at h) <;> (try simp (disch := omega) only [sb_bt, w64, Int.reduceAdd, Int.reduceToNat, Int.toNat_natCast, not_true_eq_false, false_or] at h) <;> (try (exfalso; omega)))))
  · have hki : k ≤ i := by
      rcases Nat.lt_or_ge i k with h1 | h1
      · have h0 : i = 0 := by omega
        subst h0
        have := hk1 (by omega)
        omega
      · exact h1
    have hg := hdig i hki (by omega)
    obtain ⟨e1, e2⟩ := drop_bt s i (by omega)
    have h4 := hi4 hki
    rw [e1, valN_cons, e2, ← valN_cap] at h4
    unfold capN at hi2
    refine nx_thn ⟨(i + 1, min (10 * a + (bt s i - 48)) capN), ⟨by simp only; omega, by simp only; omega, fun h => by simp only at h; omega, fun _ => h4⟩, by simp only; omega, ⟨rfl, ?_, ?_, trivial⟩, St.le_refl _⟩
    · show some (AV.v (.int .i64 (IntKind.i64.wrap ((i : Int) + 1)))) = _
      rw [w64 (by omega) (by omega)]; rfl
    · show some (AV.v (.int .i64 (if (1099511627777 : Int) < IntKind.i64.wrap (IntKind.i64.wrap (10 * (a : Int)) + IntKind.i64.wrap (IntKind.u8.wrap (sb s i - 48))) then 1099511627777 else IntKind.i64.wrap (IntKind.i64.wrap (10 * (a : Int)) + IntKind.i64.wrap (IntKind.u8.wrap (sb s i - 48)))))) = some (AV.v (.int .i64 ((min (10 * a + (bt s i - 48)) capN : Nat) : Int)))
      have e3 : sb s i = (bt s i : Int) := rfl
      rw [e3, wu8 (by omega) (by omega), w64 (n := (bt s i : Int) - 48) (by omega) (by omega), w64 (n := 10 * (a : Int)) (by omega) (by omega), w64 (by omega) (by omega)]
      congr 3
      unfold capN
      split <;> omega
  · have hki : i < k := by
      rcases Nat.lt_or_ge i k with h1 | h1
      · exact h1
      · have := hdig i h1 (by omega)
        omega
    have ha := hi3 hki
    subst ha
    refine nx_thn ⟨(i + 1, 0), ⟨by simp only; omega, Nat.zero_le _, fun _ => rfl, fun _ => ?_⟩, by simp only; omega, ⟨rfl, ?_, rfl, trivial⟩, St.le_refl _⟩
    · simp only
      have : k = i + 1 := by omega
      subst this
      rw [← hnum]
    · show some (AV.v (.int .i64 (IntKind.i64.wrap ((i : Int) + 1)))) = _
      rw [w64 (by omega) (by omega)]; rfl
  all_goals
    have hil : i = s.size := by omega
    have h4 := hi4 (by omega)
    rw [hil, List.drop_of_length_le (by rw [bl_len]; omega), valN_nil] at h4
    unfold capN at hi2
    have hm : min (numOf s) capN = a := by unfold capN at h4 ⊢; omega
    rw [hm]
  · have hmn : minusB s = true := by
      unfold minusB
      rw [(sgnB_iff s).2 ⟨by omega, .inl (by omega)⟩, decide_eq_true (by omega)]; rfl
    rw [hmn, if_pos rfl]
    exact gives (St.le_refl _) (fin_one (.wk (Wk.of_eq (by show AV.v (.int .i64 (IntKind.i64.wrap (0 - (a : Int)))) = _; rw [w64 (by omega) (by omega)]; congr 2; omega))))
  · have hmn : minusB s = false := by
      unfold minusB
      rw [decide_eq_false (by omega), Bool.and_false]
    rw [hmn]
    exact gives (St.le_refl _) (Fin.refl _ _ _)
/-! ### Check -/
def nilS : ByteArray := ⟨#[110, 105, 108]⟩
def checkE (k n : Int) (s : ByteArray) : Int :=
  if 2 < k then 9 else if (¬ k = 1 ∧ ¬ n = 0) ∨ (¬ k = 2 ∧ ¬ s = ⟨#[]⟩) then 4 else if n < -1099511627776 ∨ 1099511627776 < n then 12 else if k = 2 ∧ (isNumB s = true ∨ wordB s = false ∨ s = nilS) then 6 else 0
theorem St.le_new {σ : St} {a : Nat} {x : AObj} (ha : σ a = none) : σ.le (σ.set a x) := St.le_set _ ha
theorem p_check (k n : Int) (s : ByteArray) : Pure Tryd.prog 84 [vv k n s] (.v (.int .i64 (checkE k n s))) := by
  refine enterW Tryd.func84 rfl rfl rfl rfl (fun σ => ?_)
  repeat' (first|(first|(refine jl ?_;first|refine j7 ?_|refine j8 ?_|refine j1 ?_|refine j4 ?_|refine j9 ?_|refine j12 (fun id hid=>?_)|refine j14 ?_|refine j16 ?_|refine jp (p_digits _) ?_|refine jcq (hp:=fun hc=>p_word _) ?_)|(refine jc ?_;first|refine c1 ?_|refine c2 ?_|refine c3 ?_|refine c5 ?_|refine c6 ?_|refine c7 ?_)|refine n1 ?_|refine n2 ?_|refine n6 ?_|refine n10 ?_|refine n11 ?_)|(refine c9 (fun h=>?_) (fun h=>?_)<;>(try simp only [Bool.or_eq_true, Bool.and_eq_true, Bool.or_eq_false_iff, Bool.and_eq_false_iff, Bool.not_eq_true', Bool.not_eq_false', decide_eq_true_eq, decide_eq_false_iff_not, Bool.false_eq_true, Bool.true_eq_false, reduceCtorEq] at h)))
  all_goals refine gives (St.le_set _ hid) (fin_one (.wk (Wk.of_eq ?_)))
  all_goals simp only [ofLeaf, AV.v.injEq, Value.int.injEq, true_and]
  all_goals unfold checkE nilS
  all_goals grind
theorem p_rcheck (k n : Int) (s : ByteArray) (hz : s.size ≤ 9223372036854775807) : Pure Tryd.prog 87 [vv k n s] (.v (.int .i64 (checkE k n s))) := by
  refine enterW Tryd.func87 rfl rfl rfl rfl (fun σ => ?_)
  repeat' (first|(first|(refine jl ?_;first|refine j7 ?_|refine j8 ?_|refine j10 ?_|refine j11 ?_|refine j1 ?_|refine j4 ?_|refine j9 ?_|refine j12 (fun id hid=>?_)|refine j14 ?_|refine j16 ?_|refine jcq (hp:=fun hc=>p_risnum _ hz) ?_|refine jcq (hp:=fun hc=>p_rword _) ?_)|(refine jc ?_;first|refine c1 ?_|refine c2 ?_|refine c5 ?_|refine c6 ?_|refine c7 ?_)|refine n1 ?_|refine n2 ?_|refine n6 ?_|refine n10 ?_|refine n11 ?_)|(refine c9 (fun h=>?_) (fun h=>?_)<;>(try simp only [Bool.or_eq_true, Bool.and_eq_true, Bool.or_eq_false_iff, Bool.and_eq_false_iff, Bool.not_eq_true', Bool.not_eq_false', decide_eq_true_eq, decide_eq_false_iff_not, Bool.false_eq_true, Bool.true_eq_false, reduceCtorEq] at h)))
  all_goals refine gives (St.le_set _ hid) (fin_one (.wk (Wk.of_eq ?_)))
  all_goals simp only [ofLeaf, AV.v.injEq, Value.int.injEq, true_and]
  all_goals unfold checkE nilS
  all_goals grind
end Go.Proofs.YtfaaokekgljnbaaDoor.Ab

/- Values: a number's text. -/
set_option linter.unusedVariables false
set_option linter.unusedSimpArgs false
set_option maxRecDepth 20000
namespace Go.Proofs.YtfaaokekgljnbaaDoor.Ab
open Go
attribute [local irreducible] thn inb endR CJ LJ OpJ DJ

def dch (n : Nat) : UInt8 := UInt8.ofNat (48 + n % 10)
theorem dch_toNat (n : Nat) : (dch n).toNat = 48 + n % 10 := by
  unfold dch
  rw [UInt8.toNat_ofNat']
  omega
/-- A number's digits. -/
def decF : Nat → Nat → List UInt8
  | 0, _ => []
  | f + 1, n => if n < 10 then [dch n] else decF f (n / 10) ++ [dch n]
theorem decF_fuel : ∀ (f g n : Nat), n < 10 ^ f → n < 10 ^ g → 0 < f → 0 < g → decF f n = decF g n
  | 0, _, _, _, _, h, _ => absurd h (by omega)
  | _, 0, _, _, _, _, h => absurd h (by omega)
  | f + 1, g + 1, n, h1, h2, _, _ => by
    unfold decF
    by_cases h : n < 10
    · rw [if_pos h, if_pos h]
    · rw [if_neg h, if_neg h]
      have hf : 0 < f := by
        rcases Nat.eq_zero_or_pos f with h0 | h0
        · subst h0; simp at h1; omega
        · exact h0
      have hg : 0 < g := by
        rcases Nat.eq_zero_or_pos g with h0 | h0
        · subst h0; simp at h2; omega
        · exact h0
      rw [decF_fuel f g (n / 10) (by rw [Nat.pow_succ] at h1; omega) (by rw [Nat.pow_succ] at h2; omega) hf hg]
def dec (n : Nat) : List UInt8 := decF 19 n
theorem dec_small (n : Nat) (h : n < 10) : dec n = [dch n] := by
  show (if n < 10 then _ else _) = _
  rw [if_pos h]
theorem dec_step (n : Nat) (h : 10 ≤ n) (h' : n < 10000000000000000000) : dec n = dec (n / 10) ++ [dch n] := by
  show (if n < 10 then _ else _) = _
  rw [if_neg (by omega), decF_fuel 18 19 (n / 10) (by simp only [Nat.reducePow]; omega) (by simp only [Nat.reducePow]; omega) (by omega) (by omega)]
  rfl
theorem decF_len : ∀ (f n : Nat), (decF f n).length ≤ f
  | 0, _ => Nat.le_refl _
  | f + 1, n => by
    unfold decF
    split
    · simp
    · have := decF_len f (n / 10)
      simp only [List.length_append, List.length_cons, List.length_nil]
      omega
theorem dec_len (n : Nat) : (dec n).length ≤ 19 := decF_len 19 n
/-- What the loop still lays ahead. -/
def outD (m : Nat) (acc : List UInt8) : List UInt8 := if m = 0 ∧ acc ≠ [] then acc else dec m ++ acc
theorem outD_step (m : Nat) (acc : List UInt8) (h : 0 < m ∨ acc = []) (hm : m < 10000000000000000000) : outD (m / 10) (dch m :: acc) = outD m acc := by
  unfold outD
  rw [if_neg (c := m = 0 ∧ acc ≠ []) (by rintro ⟨h1, h2⟩; rcases h with h | h; omega; exact h2 h)]
  by_cases h10 : m < 10
  · rw [if_pos ⟨by omega, by simp⟩, dec_small m h10]; rfl
  · rw [if_neg (by rintro ⟨h1, _⟩; omega), dec_step m (by omega) hm]
    simp
theorem outD_end (acc : List UInt8) (h : acc ≠ []) : outD 0 acc = acc := by rw [outD, if_pos ⟨rfl, h⟩]
theorem outD_nil (m : Nat) : outD m [] = dec m := by
  rw [outD, if_neg (by simp), List.append_nil]
theorem outD_len (m : Nat) (acc : List UInt8) : acc.length ≤ (outD m acc).length := by
  unfold outD
  split
  · exact Nat.le_refl _
  · simp
def toldS (n : Int) : ByteArray := if n < 0 then ⟨(45 :: dec (-n).toNat).toArray⟩ else ⟨(dec n.toNat).toArray⟩
theorem u8_add (m : Nat) : IntKind.u8.wrap (IntKind.i64.wrap (48 + (m : Int).tmod 10)) = ((dch m).toNat : Int) := by
  have h1 : (m : Int).tmod 10 = ((m % 10 : Nat) : Int) := by rw [Int.tmod_eq_emod_of_nonneg (by omega)]; rfl
  rw [h1, w64 (by omega) (by omega), wu8 (by omega) (by omega), dch_toNat]
  omega
theorem p_told (n : Int) (hn : -1099511627776 ≤ n ∧ n ≤ 1099511627776) : Pure Tryd.prog 85 [.v (.int .i64 n)] (.v (.string (toldS n))) := by
  refine enterW Tryd.func85 rfl rfl rfl rfl (fun σ => ?_)
  obtain ⟨m0, mi, hm0, hmi, hlt⟩ : ∃ (m0 : Nat) (mi : Bool), (if mi then (IntKind.i64.wrap (0 - n)) else n) = (m0 : Int) ∧ decide (n < 0) = mi ∧ m0 ≤ 1099511627776 ∧ toldS n = (if mi then ⟨(45 :: dec m0).toArray⟩ else ⟨(dec m0).toArray⟩) := by
    by_cases h : n < 0
    · refine ⟨(-n).toNat, true, ?_, decide_eq_true h, by omega, ?_⟩
      · rw [if_pos rfl, w64 (by omega) (by omega)]; omega
      · rw [toldS, if_pos h, if_pos rfl]
    · refine ⟨n.toNat, false, ?_, decide_eq_false h, by omega, ?_⟩
      · rw [if_neg (by simp)]; omega
      · rw [toldS, if_neg h, if_neg (by simp)]
  obtain ⟨hm1, hm2⟩ := hlt
  rw [hm2]
  repeat (first|(refine jl ?_;first|refine j1 ?_|refine j4 ?_)|(refine jc ?_;first|refine c1 ?_|refine c2 ?_))
  rw [hmi]
  repeat' (first|(first|(refine jl ?_;first|refine j1 ?_|refine j4 ?_)|(refine jc ?_;first|refine c1 ?_|refine c2 ?_|refine c5 ?_|refine c6 ?_)|refine n1 ?_)|(refine c9 (fun h=>?_) (fun h=>?_)<;>(try simp only [Bool.or_eq_true, Bool.and_eq_true, Bool.or_eq_false_iff, Bool.and_eq_false_iff, Bool.not_eq_true', Bool.not_eq_false', decide_eq_true_eq, decide_eq_false_iff_not, Bool.false_eq_true, Bool.true_eq_false, reduceCtorEq] at h)))
  all_goals
    rw [h] at hm0
    simp only [Bool.false_eq_true, if_true, if_false] at hm0
    rw [hm0]
    refine cj_headW (fun x : Nat × List UInt8 => x.1 ≤ 1099511627776 ∧ outD x.1 x.2 = dec m0) (fun x => [(0, .v (.int .i64 x.1)), (4, .sl none false 1 (bys x.2)), (3, .v (.bool mi))]) (fun _ => σ) (fun x => 2 * x.1 + (if x.2 = [] then 1 else 0)) (m0, []) ⟨hm1, outD_nil m0⟩ ⟨⟨_, rfl, Wk.refl _⟩, ⟨_, rfl, Wk.sl _ _ _ _⟩, ⟨_, rfl, Wk.refl _⟩, trivial⟩ (St.le_refl _) (fun x hx => ?_)
    obtain ⟨m, acc⟩ := x
    obtain ⟨hx1, hx2⟩ := hx
    simp only at hx1 hx2
    have hlen : acc.length ≤ 19 := Nat.le_trans (outD_len m acc) (by rw [hx2]; exact dec_len m0)
    clear h
    dsimp only
  repeat' (first|(first|(refine jl ?_;first|refine j7 ?_|refine j1 ?_|refine j4 ?_|refine j9 ?_|refine j25 ?_|refine j26 ?_)|(refine jc ?_;first|refine c1 ?_|refine c2 ?_|refine c5 ?_|refine c6 ?_|refine c7 ?_|refine c8 ?_)|refine n1 ?_|refine n2 ?_|refine n3 ?_|refine n7 ?_|refine n8 ?_|refine n11 ?_)|(refine c9 (fun h=>?_) (fun h=>?_)<;>(try simp only [Bool.or_eq_true, Bool.and_eq_true, Bool.or_eq_false_iff, Bool.and_eq_false_iff, Bool.not_eq_true', Bool.not_eq_false', decide_eq_true_eq, decide_eq_false_iff_not, Bool.false_eq_true, Bool.true_eq_false, reduceCtorEq] at h)))
  all_goals try rw [length_bys] at *
  all_goals try
    have hm0' : m = 0 := by omega
    have hne0 : acc.length ≠ 0 := by omega
    have hne : acc ≠ [] := fun e => hne0 (by rw [e]; rfl)
    rw [hm0', outD_end acc hne] at hx2
    rw [h, ← hx2]
    exact gives (St.le_refl _) (fin_one (.wk (Wk.of_eq rfl)))
  all_goals
    rw [u8_add]
    refine lj_v rfl (fun R hR => opj_lit (sz := 1) (zs := [.v (.int .u8 0)]) (out := [.v (.int .u8 (dch m).toNat)]) rfl rfl rfl rfl rfl (by decide) (by decide) rfl rfl rfl hR) ?_
    repeat (first|(refine jl ?_;first|refine j1 ?_))
    have hst : outD (m / 10) (dch m :: acc) = dec m0 := by
      rw [← hx2]
      refine outD_step m acc ?_ (by omega)
      rcases h with h | h
      · exact .inl (by omega)
      · exact .inr (List.eq_nil_of_length_eq_zero (by omega))
    have hq : IntKind.i64.wrap ((m : Int).tdiv 10) = ((m / 10 : Nat) : Int) := by
      rw [Int.tdiv_eq_ediv_of_nonneg (by omega), w64 (by omega) (by omega)]; rfl
    refine lj_ite rfl trivial (fun R hR0 hR1 => opj_append_sl (sz := 1) (by_ := 1) (news := bys acc) rfl rfl ⟨rfl, rfl, rfl, by decide⟩ rfl rfl (.inl rfl) rfl rfl (by simp [length_bys, chunk]; omega) (by decide) hR0 hR1) (fun h0 => ?_) (fun h0 => ?_)
  all_goals
    repeat (first|(refine jl ?_;first|refine j1 ?_|refine j4 ?_|refine j6 ?_)|(refine jc ?_;first|refine c2 ?_)|refine n10 ?_)
    rw [hq]
    refine nx_thn ⟨(m / 10, dch m :: acc), ⟨by simp only; omega, hst⟩, ?_, ⟨⟨_, rfl, Wk.refl _⟩, ⟨_, rfl, ?_⟩, ⟨_, rfl, Wk.refl _⟩, trivial⟩, St.le_refl _⟩
  all_goals first
    | (simp only [reduceCtorEq, if_false]
       rcases h with h | h
       · split <;> omega
       · rw [if_pos (List.eq_nil_of_length_eq_zero (by omega))]; omega)
    | (have h1 : acc = [] := by
         cases acc with
         | nil => rfl
         | cons a l => simp [bys] at h0
       subst h1
       exact Wk.sl _ _ _ _)
    | exact Wk.sl _ _ _ _
theorem toldS_size (n : Int) : (toldS n).size ≤ 20 := by
  unfold toldS
  split
  · rw [bsz, List.length_cons]; have := dec_len (-n).toNat; omega
  · rw [bsz]; have := dec_len n.toNat; omega
/-! ### The reference -/
def digitsS : ByteArray := ⟨#[48, 49, 50, 51, 52, 53, 54, 55, 56, 57]⟩
theorem digitsS_at (k : Nat) (h : k < 10) : digitsS.extract k (k + 1) = ⟨#[UInt8.ofNat (48 + k)]⟩ := by
  have : k = 0 ∨ k = 1 ∨ k = 2 ∨ k = 3 ∨ k = 4 ∨ k = 5 ∨ k = 6 ∨ k = 7 ∨ k = 8 ∨ k = 9 := by omega
  rcases this with rfl | rfl | rfl | rfl | rfl | rfl | rfl | rfl | rfl | rfl <;> decide
theorem bconcat (a b : List UInt8) : (⟨a.toArray⟩ : ByteArray) ++ ⟨b.toArray⟩ = ⟨(a ++ b).toArray⟩ := by
  apply ByteArray.ext
  rw [ByteArray.data_append]
  exact List.append_toArray ..
theorem p_rtold0 (n : Nat) (hn : n ≤ 1099511627776) : Pure Tryd.prog 60 [.v (.int .i64 n)] (.v (.string (toldS n))) := by
  refine enterW Tryd.func60 rfl rfl rfl rfl (fun σ => ?_)
  have ht : toldS n = ⟨(dec n).toArray⟩ := by rw [toldS, if_neg (by omega)]; rfl
  rw [ht]
  repeat' (first|(first|(refine jl ?_;first|refine j1 ?_|refine j4 ?_)|(refine jc ?_;first|refine c1 ?_|refine c2 ?_|refine c5 ?_|refine c6 ?_)|refine n1 ?_)|(refine c9 (fun h=>?_) (fun h=>?_)<;>((try simp only [Bool.or_eq_true, Bool.and_eq_true, Bool.or_eq_false_iff, Bool.and_eq_false_iff, Bool.not_eq_true', Bool.not_eq_false', decide_eq_true_eq, decide_eq_false_iff_not, Bool.false_eq_true, Bool.true_eq_false, reduceCtorEq] at h) <;> (try simp (disch := omega) only [sb_bt, w64, Int.reduceAdd, Int.reduceToNat, Int.toNat_natCast, not_true_eq_false, false_or] at h) <;> (try (exfalso; omega)))))
  refine cj_head (fun x : Nat × List UInt8 => x.1 ≤ 1099511627776 ∧ outD x.1 x.2 = dec n) (fun x => [(0, .v (.int .i64 x.1)), (3, .v (.string ⟨x.2.toArray⟩))]) (fun _ => σ) (fun x => 2 * x.1 + (if x.2 = [] then 1 else 0)) (n, []) ⟨hn, outD_nil n⟩ ⟨rfl, rfl, trivial⟩ (St.le_refl _) (fun x hx => ?_)
  obtain ⟨m, acc⟩ := x
  obtain ⟨hx1, hx2⟩ := hx
  simp only at hx1 hx2
  have hlen : acc.length ≤ 19 := Nat.le_trans (outD_len m acc) (by rw [hx2]; exact dec_len n)
  dsimp only
  have hm10 : (m : Int).tmod 10 = ((m % 10 : Nat) : Int) := by rw [Int.tmod_eq_emod_of_nonneg (by omega)]; rfl
  repeat' (first|(first|(refine jl ?_;first|refine j7 ?_|refine j1 ?_|refine j4 ?_|refine j9 ?_)|(refine jc ?_;first|refine c1 ?_|refine c2 ?_|refine c5 ?_|refine c6 ?_|refine c7 ?_|refine c8 ?_)|refine n1 ?_|refine n3 ?_|refine n7 ?_|refine n8 ?_|refine n11 ?_)|(refine c9 (fun h=>?_) (fun h=>?_)<;>(try simp only [Bool.or_eq_true, Bool.and_eq_true, Bool.or_eq_false_iff, Bool.and_eq_false_iff, Bool.not_eq_true', Bool.not_eq_false', decide_eq_true_eq, decide_eq_false_iff_not, Bool.false_eq_true, Bool.true_eq_false, reduceCtorEq] at h)))
  · have hst : outD (m / 10) (dch m :: acc) = dec n := by
      rw [← hx2]
      refine outD_step m acc ?_ (by omega)
      rcases h with h | h
      · exact .inl (by omega)
      · have e := congrArg (fun b : ByteArray => b.data.toList) h
        exact .inr (by simpa using e)
    have hq : IntKind.i64.wrap ((m : Int).tdiv 10) = ((m / 10 : Nat) : Int) := by
      rw [Int.tdiv_eq_ediv_of_nonneg (by omega), w64 (by omega) (by omega)]; rfl
    rw [hm10, w64 (n := ((m % 10 : Nat) : Int) + 1) (by omega) (by omega)]
    have hz : ByteArray.size ⟨#[48, 49, 50, 51, 52, 53, 54, 55, 56, 57]⟩ = 10 := rfl
    refine j21 ?_ (h2 := by rw [hz]; omega)
    have hd : digitsS.extract (((m % 10 : Nat) : Int)).toNat (((m % 10 : Nat) : Int) + 1).toNat = ⟨[dch m].toArray⟩ := by
      rw [show (((m % 10 : Nat) : Int)).toNat = m % 10 from rfl, show (((m % 10 : Nat) : Int) + 1).toNat = m % 10 + 1 by omega, digitsS_at _ (by omega)]
      rfl
    show LJ _ _ _ _ _ ((31, .v (.string (digitsS.extract (((m % 10 : Nat) : Int)).toNat (((m % 10 : Nat) : Int) + 1).toNat))) :: _) _
    rw [hd]
    repeat (first|(refine jl ?_;first|refine j1 ?_|refine j4 ?_|refine j6 ?_|refine j25 ?_)|(refine jc ?_;first|refine c2 ?_)|refine n10 ?_)
    rw [bconcat, hq]
    refine nx_thn ⟨(m / 10, dch m :: acc), ⟨by simp only; omega, hst⟩, ?_, ⟨rfl, rfl, trivial⟩, St.le_refl _⟩
    simp only [reduceCtorEq, if_false]
    rcases h with h | h
    · split <;> omega
    · have e := congrArg (fun b : ByteArray => b.data.toList) h
      have e' : acc = [] := by simpa using e
      rw [if_pos e']; omega
  · have hm0' : m = 0 := by omega
    have hne : acc ≠ [] := fun e => h.2 (by rw [e])
    rw [hm0', outD_end acc hne] at hx2
    rw [← hx2]
    exact gives (St.le_refl _) (fin_one (.wk (Wk.of_eq rfl)))
theorem p_rtold : ∀ (k : Nat) (n : Int), (-1099511627776 ≤ n ∧ n ≤ 1099511627776) → (-n).toNat ≤ k → Pure Tryd.prog 60 [.v (.int .i64 n)] (.v (.string (toldS n))) := by
  intro k
  induction k with
  | zero =>
    intro n hn hk
    obtain ⟨m, rfl⟩ := Int.eq_ofNat_of_zero_le (show 0 ≤ n by omega)
    exact p_rtold0 m (by omega)
  | succ k ih =>
    intro n hn hk
    by_cases h0 : 0 ≤ n
    · obtain ⟨m, rfl⟩ := Int.eq_ofNat_of_zero_le h0
      exact p_rtold0 m (by omega)
    · refine enterW Tryd.func60 rfl rfl rfl rfl (fun σ => ?_)
      obtain ⟨m, hm⟩ := Int.eq_ofNat_of_zero_le (show 0 ≤ -n by omega)
      have hw1 : IntKind.i64.wrap (0 - n) = (m : Int) := by rw [w64 (by omega) (by omega)]; omega
      have hq : IntKind.i64.wrap (n.tdiv 10) = -((m / 10 : Nat) : Int) := by
        rw [show n = -(m : Int) by omega, Int.neg_tdiv, Int.tdiv_eq_ediv_of_nonneg (by omega), w64 (by omega) (by omega)]; rfl
      have hr : IntKind.i64.wrap (0 - n.tmod 10) = ((m % 10 : Nat) : Int) := by
        rw [show n = -(m : Int) by omega, Int.neg_tmod, Int.tmod_eq_emod_of_nonneg (by omega), w64 (by omega) (by omega)]; first | done | omega
      repeat' (first|(first|(refine jl ?_;first|refine j1 ?_|refine j4 ?_)|(refine jc ?_;first|refine c1 ?_|refine c2 ?_|refine c6 ?_)|refine n1 ?_)|(refine c9 (fun h=>?_) (fun h=>?_)<;>((try simp only [Bool.or_eq_true, Bool.and_eq_true, Bool.or_eq_false_iff, Bool.and_eq_false_iff, Bool.not_eq_true', Bool.not_eq_false', decide_eq_true_eq, decide_eq_false_iff_not, Bool.false_eq_true, Bool.true_eq_false, reduceCtorEq] at h) <;> (try simp (disch := omega) only [sb_bt, w64, Int.reduceAdd, Int.reduceToNat, Int.toNat_natCast, not_true_eq_false, false_or] at h) <;> (try (exfalso; omega)))))
      · rw [hq]
        have hz1 := toldS_size (-((m / 10 : Nat) : Int))
        have hz2 := toldS_size ((m % 10 : Nat) : Int)
        refine jp (ih (-((m / 10 : Nat) : Int)) ⟨by omega, by omega⟩ (by omega)) ?_
        repeat (first|(refine jl ?_;first|refine j1 ?_))
        rw [hr]
        refine jp (p_rtold0 (m % 10) (by omega)) ?_
        repeat (first|(refine jl ?_;first|refine j1 ?_|refine j4 ?_|refine j25 ?_)|(refine jc ?_;first|refine c7 ?_)|refine n2 ?_|refine n11 ?_)
        refine gives (St.le_refl _) (fin_one (.wk (Wk.of_eq ?_)))
        have e1 : toldS (-((m / 10 : Nat) : Int)) = ⟨(45 :: dec (m / 10)).toArray⟩ := by
          rw [toldS, if_pos (by omega)]
          congr 4; omega
        have e2 : toldS ((m % 10 : Nat) : Int) = ⟨[dch m].toArray⟩ := by
          rw [toldS, if_neg (by omega), show (((m % 10 : Nat) : Int)).toNat = m % 10 from rfl, dec_small _ (by omega)]
          unfold dch
          rw [Nat.mod_mod]
        have e3 : toldS n = ⟨(45 :: dec m).toArray⟩ := by
          rw [toldS, if_pos (by omega)]
          congr 4; omega
        rw [e1, e2, e3, bconcat, dec_step m (by omega) (by omega)]
        rfl
      · rw [hw1]
        have hz1 := toldS_size (m : Int)
        refine jp (p_rtold0 m (by omega)) ?_
        have hz : ByteArray.size ⟨#[45]⟩ = 1 := rfl
        repeat (first|(refine jl ?_;first|refine j1 ?_|refine j4 ?_|refine j25 ?_)|(refine jc ?_;first|refine c7 ?_)|refine n2 ?_|refine n11 ?_)
        refine gives (St.le_refl _) (fin_one (.wk (Wk.of_eq ?_)))
        have e3 : toldS n = ⟨(45 :: dec m).toArray⟩ := by
          rw [toldS, if_pos (by omega)]
          congr 4; omega
        have e1 : toldS (m : Int) = ⟨(dec m).toArray⟩ := by
          rw [toldS, if_neg (by omega)]; rfl
        rw [e1, e3]
        show AV.v (.string ((⟨[45].toArray⟩ : ByteArray) ++ _)) = _
        rw [bconcat]
        rfl
end Go.Proofs.YtfaaokekgljnbaaDoor.Ab

/- Values: texts, and what texts tell. -/
set_option linter.unusedVariables false
set_option linter.unusedSimpArgs false
set_option maxRecDepth 20000
namespace Go.Proofs.YtfaaokekgljnbaaDoor.Ab
open Go
attribute [local irreducible] thn inb endR CJ LJ OpJ DJ

def textV (k n : Int) (s : ByteArray) : ByteArray := if ¬ checkE k n s = 0 then nilS else if k = 1 then toldS n else if k = 2 then s else nilS
theorem checkE_ok {k n : Int} {s : ByteArray} (h : checkE k n s = 0) : (-1099511627776 ≤ n ∧ n ≤ 1099511627776) := by
  unfold checkE at h
  grind
theorem p_textv (k n : Int) (s : ByteArray) : Pure Tryd.prog 41 [vv k n s] (.v (.string (textV k n s))) := by
  refine enterW Tryd.func41 rfl rfl rfl rfl (fun σ => ?_)
  repeat' (first|(first|(refine jl ?_;first|refine j1 ?_|refine j4 ?_|refine j12 (fun id hid=>?_)|refine j14 ?_|refine jp (p_check _ _ _) ?_|refine jp (p_told n (checkE_ok (by omega))) ?_)|(refine jc ?_;first|refine c1 ?_|refine c2 ?_|refine c5 ?_|refine c6 ?_|refine c7 ?_)|refine n1 ?_|refine n2 ?_|refine n6 ?_|refine n10 ?_|refine n11 ?_)|(refine c9 (fun h=>?_) (fun h=>?_)<;>(try simp only [Bool.or_eq_true, Bool.and_eq_true, Bool.or_eq_false_iff, Bool.and_eq_false_iff, Bool.not_eq_true', Bool.not_eq_false', decide_eq_true_eq, decide_eq_false_iff_not, Bool.false_eq_true, Bool.true_eq_false, reduceCtorEq] at h)))
  all_goals refine gives (St.le_set _ hid) (fin_one (.wk (Wk.of_eq ?_)))
  all_goals simp only [ofLeaf, AV.v.injEq, Value.string.injEq, true_and]
  all_goals unfold textV nilS
  all_goals grind
theorem p_rtextv (k n : Int) (s : ByteArray) (hz : s.size ≤ 9223372036854775807) : Pure Tryd.prog 45 [vv k n s] (.v (.string (textV k n s))) := by
  refine enterW Tryd.func45 rfl rfl rfl rfl (fun σ => ?_)
  repeat' (first|(first|(refine jl ?_;first|refine j1 ?_|refine j4 ?_|refine j12 (fun id hid=>?_)|refine j14 ?_|refine jp (p_rcheck _ _ _ hz) ?_|refine jp (p_rtold _ n (checkE_ok (by omega)) (Nat.le_refl _)) ?_)|(refine jc ?_;first|refine c1 ?_|refine c2 ?_|refine c5 ?_|refine c6 ?_|refine c7 ?_)|refine n1 ?_|refine n2 ?_|refine n6 ?_|refine n10 ?_|refine n11 ?_)|(refine c9 (fun h=>?_) (fun h=>?_)<;>(try simp only [Bool.or_eq_true, Bool.and_eq_true, Bool.or_eq_false_iff, Bool.and_eq_false_iff, Bool.not_eq_true', Bool.not_eq_false', decide_eq_true_eq, decide_eq_false_iff_not, Bool.false_eq_true, Bool.true_eq_false, reduceCtorEq] at h)))
  all_goals refine gives (St.le_set _ hid) (fin_one (.wk (Wk.of_eq ?_)))
  all_goals simp only [ofLeaf, AV.v.injEq, Value.string.injEq, true_and]
  all_goals unfold textV nilS
  all_goals grind
def parseV (s : ByteArray) : Int × Int × ByteArray × Int :=
  if wordB s = false then (0, 0, ⟨#[]⟩, 6) else if s = nilS then (0, 0, ⟨#[]⟩, 0) else if isNumB s = false then (2, 0, s, 0)
  else if 1099511627776 < numOf s then (0, 0, ⟨#[]⟩, 12) else (1, if minusB s then -(numOf s : Int) else numOf s, ⟨#[]⟩, 0)
theorem wordB_size {s : ByteArray} (h : wordB s = true) : s.size ≤ 24 := by
  unfold wordB at h
  simp only [Bool.and_eq_true, decide_eq_true_eq] at h
  exact h.2.1
theorem p_rparse (s : ByteArray) (hz : s.size ≤ 9223372036854775807) : Pure Tryd.prog 130 [.v (.string s)] (.tup [vv (parseV s).1 (parseV s).2.1 (parseV s).2.2.1, .v (.int .i64 (parseV s).2.2.2)]) := by
  refine enterW Tryd.func130 rfl rfl rfl rfl (fun σ => ?_)
  repeat' (first|(first|(refine jl ?_;first|refine j7 ?_|refine jb ?_|refine j1 ?_|refine j4 ?_|refine j9 ?_|refine j13 (fun id hid=>?_)|refine j17t ?_|refine jp (p_rword _) ?_|refine jp (p_risnum _ hz) ?_|refine jp (p_rnumber _ (by simp_all) hz) ?_)|(refine jc ?_;first|refine c1 ?_|refine c2 ?_|refine c5 ?_|refine c6 ?_|refine c7 ?_)|refine n1 ?_|refine n2 ?_|refine n6 ?_|refine n10 ?_|refine n15 ?_)|(refine c9 (fun h=>?_) (fun h=>?_)<;>(try simp only [Bool.or_eq_true, Bool.and_eq_true, Bool.or_eq_false_iff, Bool.and_eq_false_iff, Bool.not_eq_true', Bool.not_eq_false', decide_eq_true_eq, decide_eq_false_iff_not, Bool.false_eq_true, Bool.true_eq_false, reduceCtorEq] at h)))
  · have e : parseV s = (0, 0, ⟨#[]⟩, 6) := by simp [parseV, h]
    rw [e]
    exact gives (by (try rw [St.set_set]); exact St.le_set _ hid) (Fin.refl _ _ _)
  · have e : parseV s = (0, 0, ⟨#[]⟩, 0) := by simp_all [parseV, nilS]
    rw [e]
    exact gives (by (try rw [St.set_set]); exact St.le_set _ hid) (Fin.refl _ _ _)
  · have e : parseV s = (2, 0, s, 0) := by simp_all [parseV, nilS]
    rw [e]
    exact gives (by (try rw [St.set_set]); exact St.le_set _ hid) (Fin.refl _ _ _)
  · have e : parseV s = (0, 0, ⟨#[]⟩, 12) := by
      have : 1099511627776 < numOf s := by
        unfold capN at h
        cases hm : minusB s <;> rw [hm] at h <;> simp only [Bool.false_eq_true, if_true, if_false] at h <;> omega
      simp_all [parseV, nilS]
    rw [e]
    exact gives (by (try rw [St.set_set]); exact St.le_set _ hid) (Fin.refl _ _ _)
  · have hlt : ¬ 1099511627776 < numOf s := by
      unfold capN at h
      cases hm : minusB s <;> rw [hm] at h <;> simp only [Bool.false_eq_true, if_true, if_false] at h <;> omega
    have e : parseV s = (1, if minusB s then -(numOf s : Int) else numOf s, ⟨#[]⟩, 0) := by simp_all [parseV, nilS]
    have e2 : min (numOf s) capN = numOf s := by unfold capN; omega
    rw [e, e2]
    exact gives (by (try rw [St.set_set]); exact St.le_set _ hid) (Fin.refl _ _ _)
theorem allD_get {s : ByteArray} (h : allD s = true) (i : Nat) (hi : i < (bodyS s).size) : dig (bt (bodyS s) i) := digB_get (bodyS s) i 0 h (Nat.zero_le _) hi
theorem p_parse (s : ByteArray) : Pure Tryd.prog 113 [.v (.string s)] (.tup [vv (parseV s).1 (parseV s).2.1 (parseV s).2.2.1, .v (.int .i64 (parseV s).2.2.2)]) := by
  refine enterW Tryd.func113 rfl rfl rfl rfl (fun σ => ?_)
  repeat' (first|(first|(refine jl ?_;first|refine jb ?_|refine j1 ?_|refine j4 ?_|refine j13 (fun id hid=>?_)|refine j17t ?_|refine j22 (fun id hid=>?_)|refine jp (p_word _) ?_|refine jp (p_digits _) ?_|refine jp (p_symbol _) ?_)|(refine jc ?_;first|refine c1 ?_|refine c2 ?_|refine c5 ?_|refine c6 ?_|refine c7 ?_)|refine n1 ?_|refine n2 ?_|refine n15 ?_)|(refine c9 (fun h=>?_) (fun h=>?_)<;>(try simp only [Bool.or_eq_true, Bool.and_eq_true, Bool.or_eq_false_iff, Bool.and_eq_false_iff, Bool.not_eq_true', Bool.not_eq_false', decide_eq_true_eq, decide_eq_false_iff_not, Bool.false_eq_true, Bool.true_eq_false, reduceCtorEq] at h)))
  · have e : parseV s = (0, 0, ⟨#[]⟩, 6) := by simp [parseV, h]
    rw [e]
    exact gives (by (try rw [St.set_set]); exact St.le_set _ hid) (Fin.refl _ _ _)
  · have e : parseV s = (0, 0, ⟨#[]⟩, 0) := by simp_all [parseV, nilS]
    rw [e]
    exact gives (by (try rw [St.set_set]); exact St.le_set _ hid) (Fin.refl _ _ _)
  · have e : parseV s = (2, 0, s, 0) := by simp_all [parseV, nilS]
    rw [e]
    exact gives (by (try rw [St.set_set]); exact St.le_set _ hid) (Fin.refl _ _ _)
  rename_i ir hir _ _
  have hsz := wordB_size ‹wordB s = true›
  obtain ⟨hd, hpos⟩ : allD s = true ∧ 0 < (bodyS s).size := by simpa [isNumB] using h
  have hbz : (bodyS s).size ≤ s.size := by
    unfold bodyS; split
    · rw [Lib.ext_size]; omega
    · exact Nat.le_refl _
  have hir2 : ir ≠ id := fun e => by subst e; simp [St.set_same] at hid
  have hv : ∀ n : Nat, numOf s = n → n ≤ 1099511627776 → parseV s = (1, if minusB s then -(n : Int) else n, ⟨#[]⟩, 0) := fun n hn hle => by
    have h1 : ¬ 1099511627776 < numOf s := by omega
    simp_all [parseV, nilS]
  have hbad : 1099511627776 < numOf s → parseV s = (0, 0, ⟨#[]⟩, 12) := fun h1 => by simp_all [parseV, nilS]
  rw [hd]
  simp only [if_true, Bool.true_and]
  refine cj_head (fun x : Nat × Nat => x.1 ≤ (bodyS s).size ∧ x.2 ≤ 1099511627776 ∧ valN x.2 ((bodyS s).data.toList.drop x.1) = numOf s) (fun x => [(28, .it id), (7, .v (.int .i64 x.2)), (2, .ptr ir 3 0 0), (5, .v (.bool (minusB s)))]) (fun x => (σ.set ir (.row 3 29 [[.v (.int .u8 0), .v (.int .i64 0), .v (.string ⟨#[]⟩)]])).set id (.siter (bodyS s) x.1)) (fun x => (bodyS s).size - x.1) (0, 0) ⟨Nat.zero_le _, Nat.zero_le _, rfl⟩ ⟨rfl, rfl, rfl, rfl, trivial⟩ (St.le_refl _) (fun x hx => ?_)
  obtain ⟨p, a⟩ := x
  obtain ⟨hp1, hp2, hp3⟩ := hx
  dsimp only at hp1 hp2 hp3 ⊢
  by_cases hlt : p < (bodyS s).size
  · obtain ⟨e1, e2⟩ := drop_bt (bodyS s) p hlt
    have hdg := allD_get hd p hlt
    have hdec : Utf8.decode (bodyS s) p = (bt (bodyS s) p, 1) := by
      rw [decodeL_rune', e1, Lib.decodeL_ascii _ _ (by omega), e2]
    rw [e1, valN_cons, e2] at hp3
    have hv2 := valN_le ((bodyS s).data.toList.drop (p + 1)) (10 * a + (bt (bodyS s) p - 48))
    have hw : IntKind.i64.wrap (IntKind.i64.wrap ((a : Int) * 10) + IntKind.i64.wrap (IntKind.i32.wrap (((bt (bodyS s) p : Nat) : Int) - 48))) = ((10 * a + (bt (bodyS s) p - 48) : Nat) : Int) := by
      rw [w32 (by omega) (by omega), w64 (n := ((bt (bodyS s) p : Nat) : Int) - 48) (by omega) (by omega), w64 (n := (a : Int) * 10) (by omega) (by omega), w64 (by omega) (by omega)]
      omega
    repeat (first|(refine jl ?_;first|refine j1 ?_|refine j4 ?_|refine j23 ?_)|(refine jc ?_;first|refine c1 ?_|refine c2 ?_|refine c3 ?_|refine c5 ?_|refine c6 ?_)|refine n1 ?_)
    rw [hdec]
    dsimp only
    rw [hw]
    repeat' (first|(first|(refine jl ?_;first|refine jb ?_|refine j1 ?_|refine j4 ?_|refine j17 ?_)|(refine jc ?_;first|refine c1 ?_|refine c2 ?_|refine c6 ?_|refine c7 ?_)|refine n2 ?_|refine n5 ?_|refine n6 ?_|refine n10 ?_|refine n15 ?_)|(refine c9 (fun h=>?_) (fun h=>?_)<;>(try simp only [Bool.or_eq_true, Bool.and_eq_true, Bool.or_eq_false_iff, Bool.and_eq_false_iff, Bool.not_eq_true', Bool.not_eq_false', decide_eq_true_eq, decide_eq_false_iff_not, Bool.false_eq_true, Bool.true_eq_false, reduceCtorEq] at h)))
    · rw [hbad (by omega)]
      exact ge rfl
    · exact nx_thn ⟨(p + 1, 10 * a + (bt (bodyS s) p - 48)), ⟨by simp only; omega, by simp only; omega, hp3⟩, by simp only; omega, ⟨rfl, rfl, rfl, rfl, trivial⟩, by (try rw [St.set_set]); exact St.le_refl _⟩
  · rw [List.drop_of_length_le (by rw [bl_len]; omega), valN_nil] at hp3
    have hpv := hv a hp3.symm hp2
    rw [hpv]
    repeat' (first|(first|(refine jl ?_;first|refine j1 ?_|refine j4 ?_|refine j17 ?_|refine j24 ?_|refine jp (p_number _) ?_)|(refine jc ?_;first|refine c1 ?_|refine c2 ?_|refine c4 ?_|refine c6 ?_|refine c7 ?_|refine c8 ?_)|refine n1 ?_|refine n3 ?_|refine n7 ?_|refine n8 ?_|refine n15 ?_)|(refine c9 (fun h=>?_) (fun h=>?_)<;>(try simp only [Bool.or_eq_true, Bool.and_eq_true, Bool.or_eq_false_iff, Bool.and_eq_false_iff, Bool.not_eq_true', Bool.not_eq_false', decide_eq_true_eq, decide_eq_false_iff_not, Bool.false_eq_true, Bool.true_eq_false, reduceCtorEq] at h)))
    · rw [h, if_pos rfl]
      refine ge ?_
      rw [w64 (by omega) (by omega), Int.zero_sub]
      rfl
    · rw [h]
      exact ge rfl
end Go.Proofs.YtfaaokekgljnbaaDoor.Ab

/- The lexer: names, words. -/
set_option linter.unusedVariables false
set_option linter.unusedSimpArgs false
set_option maxRecDepth 20000
namespace Go.Proofs.YtfaaokekgljnbaaDoor.Ab
open Go
attribute [local irreducible] thn inb endR CJ LJ OpJ DJ DA DB AllocK

def runS (r : ByteArray) : Nat := runL r.data.toList
theorem runS_le (r : ByteArray) : runS r ≤ r.size := by
  have := runL_le r.data.toList
  rw [bl_len] at this
  exact this
theorem hasPre_size {s p : ByteArray} (h : hasPre s p = true) : p.size ≤ s.size := by
  unfold hasPre at h
  simp only [Bool.and_eq_true, decide_eq_true_eq] at h
  exact h.1
def namedF (k : Int) (op cl r : ByteArray) : Option (Tk × Nat) × Bool :=
  if hasPre r op = true then
    if runS (r.extract op.size r.size) = 0 ∨ hasPre (r.extract (op.size + runS (r.extract op.size r.size)) r.size) cl = false then (none, false)
    else if 24 < runS (r.extract op.size r.size) then (none, true)
    else (some (tkN k (r.extract op.size (op.size + runS (r.extract op.size r.size))), op.size + runS (r.extract op.size r.size) + cl.size), false)
  else (none, false)
set_option maxHeartbeats 1000000 in
theorem q_named {τ : St} {id0 w a : Nat} {s : ByteArray} {ts : List Tk} {o : AObj} (k : Int) (op cl : ByteArray) (hk : 0 ≤ k ∧ k < 256) (ho : op.size ≤ 1) (hc : cl.size ≤ 1) (hw : τ w = none) (hi : τ id0 = some o) (hl : ts.length ≤ 16384) (ha : a ≤ s.size) (hb : s.size ≤ 16384) : ACalls Tryd.prog 82 [.ptr id0 3 0 0, .v (.int .u8 k), .v (.string op), .v (.string cl)] (scS τ id0 w s a ts) (fun e σ' => ∃ w', τ w' = none ∧ e = .ret (.tup [.v (.bool (namedF k op cl (s.extract a s.size)).1.isSome), .v (.bool (namedF k op cl (s.extract a s.size)).2)]) ∧ σ' = scS τ id0 w' s (plO a (namedF k op cl (s.extract a s.size)).1) (tsO a ts (namedF k op cl (s.extract a s.size)).1)) := by
  refine acalls_gives_ex ?_
  refine enter Tryd.func82 rfl rfl rfl rfl ?_
  have nwi : w ≠ id0 := St.ne_some hw hi
  repeat (first|(refine jl ?_;first|refine j1 ?_|refine j4 ?_)|(refine dl ?_;first|refine d1 ?_|refine d4 ?_|refine d14 ?_|refine d21 ?_)|(refine jc ?_;first|refine c1 ?_|refine c2 ?_|refine cq ?_)|refine n1 ?_)
  have hz : (s.extract (a : Int).toNat (s.size : Int).toNat).size ≤ 16384 := by
    show (s.extract a s.size).size ≤ _
    rw [Lib.ext_size]; omega
  generalize hr : s.extract (a : Int).toNat (s.size : Int).toNat = r at *
  have hr' : s.extract a s.size = r := hr
  rw [hr']
  by_cases hp : hasPre r op = true
  · have hps := hasPre_size hp
    have hn1 := runS_le (r.extract op.size r.size)
    rw [Lib.ext_size] at hn1
    have k1 := p_run (r.extract op.size r.size)
    rw [show runL (r.extract op.size r.size).data.toList = runS (r.extract op.size r.size) from rfl] at k1
    have hF : namedF k op cl r = (if runS (r.extract op.size r.size) = 0 ∨ hasPre (r.extract (op.size + runS (r.extract op.size r.size)) r.size) cl = false then (none, false) else if 24 < runS (r.extract op.size r.size) then (none, true) else (some (tkN k (r.extract op.size (op.size + runS (r.extract op.size r.size))), op.size + runS (r.extract op.size r.size) + cl.size), false)) := by unfold namedF; rw [if_pos hp]
    generalize hnn : runS (r.extract op.size r.size) = n at *
    have hwr : IntKind.i64.wrap ((op.size : Int) + (n : Int)) = ((op.size + n : Nat) : Int) := by rw [w64 (by omega) (by omega)]; omega
    have k0 := p_hpre r op
    rw [hp] at k0
    repeat' (first|(first|(refine jl ?_;first|refine j7 ?_|refine jb ?_|refine j1 ?_|refine j4 ?_|refine j9 ?_|refine j21 ?_|refine jp (k0) ?_|refine jcq (hp:=fun hc=>p_hpre _ _) ?_|refine jp (k1) ?_|refine jsq (b := IntKind.i64.wrap ((op.size : Int) + (n : Int))) (k := r.size) (s := r) (fun _ => by rw [hwr]; omega) ?_)|(refine jc ?_;first|refine c1 ?_|refine c2 ?_|refine c6 ?_|refine c7 ?_)|refine n1 ?_|refine n2 ?_|refine n11 ?_)|(refine c9 (fun h=>?_) (fun h=>?_)<;>((try simp only [Bool.or_eq_true, Bool.and_eq_true, Bool.or_eq_false_iff, Bool.and_eq_false_iff, Bool.not_eq_true', Bool.not_eq_false', decide_eq_true_eq, decide_eq_false_iff_not, Bool.false_eq_true, Bool.true_eq_false, reduceCtorEq] at h) <;> (try simp (disch := omega) only [sb_bt, w64, Int.reduceAdd, Int.reduceToNat, Int.toNat_natCast, not_true_eq_false, false_or] at h) <;> (try (exfalso; omega)))))
    · rw [show ((op.size : Int) + (n : Int)).toNat = op.size + n by omega] at h
      rw [if_pos (by rcases h with h | h; exact Or.inl (by omega); exact Or.inr h)] at hF
      rw [hF]
      refine ⟨w, hw, ?_⟩
      exact gives (St.le_refl _) (Fin.refl _ _ _)
    · rename_i h1
      rw [show ((op.size : Int) + (n : Int)).toNat = op.size + n by omega] at h1
      rw [if_neg (by rintro (h2 | h2); exact h1.1 (by omega); rw [h1.2] at h2; cases h2), if_pos (by omega)] at hF
      rw [hF]
      refine ⟨w, hw, ?_⟩
      exact gives (St.le_refl _) (Fin.refl _ _ _)
    · rename_i h1
      rw [show ((op.size : Int) + (n : Int)).toNat = op.size + n by omega] at h1
      rw [if_neg (by rintro (h2 | h2); exact h1.1 (by omega); rw [h1.2] at h2; cases h2), if_neg (by omega)] at hF
      rw [hF]
      have hrs : r.size = s.size - a := by rw [← hr', Lib.ext_size]
      have hcs := hasPre_size h1.2
      rw [Lib.ext_size] at hcs
      have hw2 : IntKind.i64.wrap (IntKind.i64.wrap ((op.size : Int) + (n : Int)) + (cl.size : Int)) = ((op.size + n + cl.size : Nat) : Int) := by rw [hwr, w64 (by omega) (by omega)]; omega
      have hw3 : r.extract op.size (IntKind.i64.wrap ((op.size : Int) + (n : Int))).toNat = r.extract op.size (op.size + n) := by rw [hwr, Int.toNat_natCast]
      have q := q_put (a := a) (s := s) (tkN k (r.extract op.size (IntKind.i64.wrap ((op.size : Int) + (n : Int))).toNat)) (op.size + n + cl.size) hw hi hl (by omega)
      rw [← hw2] at q
      refine lj_calls rfl rfl rfl q (fun x σ' hx => ?_) (by rintro x σ' ⟨_, _, h, _⟩; cases h)
      rw [hw3] at hx
      obtain ⟨w', hw', hx1, hx2⟩ := hx
      cases hx1
      subst hx2
      repeat (first|(refine jl ?_;first|refine j1 ?_|refine j4 ?_)|(refine jc ?_;first|refine c7 ?_)|refine n11 ?_)
      refine ⟨w', hw', ?_⟩
      exact gives (St.le_refl _) (Fin.refl _ _ _)
  · have hF : namedF k op cl r = (none, false) := by unfold namedF; rw [if_neg hp]
    rw [hF]
    have k0 := p_hpre r op
    rw [Bool.eq_false_iff.2 hp] at k0
    repeat' (first|(first|(refine jl ?_;first|refine j1 ?_|refine j4 ?_|refine jp (k0) ?_)|(refine jc ?_;first|refine c1 ?_|refine c2 ?_|refine c7 ?_)|refine n2 ?_|refine n11 ?_)|(refine c9 (fun h=>?_) (fun h=>?_)<;>((try simp only [Bool.or_eq_true, Bool.and_eq_true, Bool.or_eq_false_iff, Bool.and_eq_false_iff, Bool.not_eq_true', Bool.not_eq_false', decide_eq_true_eq, decide_eq_false_iff_not, Bool.false_eq_true, Bool.true_eq_false, reduceCtorEq] at h) <;> (try simp (disch := omega) only [sb_bt, w64, Int.reduceAdd, Int.reduceToNat, Int.toNat_natCast, not_true_eq_false, false_or] at h) <;> (try (exfalso; omega)))))
    refine ⟨w, hw, ?_⟩
    exact gives (St.le_refl _) (Fin.refl _ _ _)
def wordR (r : ByteArray) : Option (Tk × Nat) :=
  if (parseV (r.extract 0 (runS r))).2.2.2 = 0 then some (tkV ⟨(parseV (r.extract 0 (runS r))).1, (parseV (r.extract 0 (runS r))).2.1, (parseV (r.extract 0 (runS r))).2.2.1⟩, runS r) else none
theorem ext_in (s : ByteArray) (a n : Nat) : s.extract a (a + n) = (s.extract a s.size).extract 0 n := by
  apply ByteArray.ext
  apply Array.toList_inj.1
  rw [exl, exl, exl, List.drop_zero, List.take_of_length_le (Nat.le_of_eq (bl_len s)), List.drop_take, Nat.add_sub_cancel_left]
theorem scS_swap {τ : St} {id0 w a id : Nat} {s : ByteArray} {ts : List Tk} {R : AObj} (h0 : id0 ≠ id) (h1 : w ≠ id) : (scS τ id0 w s a ts).set id R = scS (τ.set id R) id0 w s a ts := by
  unfold scS
  rw [St.swap h0, St.swap h1]
theorem scS_le {σ τ : St} {id0 w a : Nat} {s : ByteArray} {ts : List Tk} (h : σ.le τ) : (scS σ id0 w s a ts).le (scS τ id0 w s a ts) := fun y v hv => by
  unfold scS at hv ⊢
  unfold St.set at hv ⊢
  split at hv
  · rename_i hc
    rw [if_pos hc]
    exact hv
  · rename_i hc
    rw [if_neg hc]
    split at hv
    · rename_i hd
      rw [if_pos hd]
      exact hv
    · rename_i hd
      rw [if_neg hd]
      exact h y v hv
set_option maxHeartbeats 1000000 in
theorem q_word {τ : St} {id0 w a : Nat} {s : ByteArray} {ts : List Tk} {o : AObj} (hw : τ w = none) (hi : τ id0 = some o) (hl : ts.length ≤ 16384) (ha : a ≤ s.size) (hb : s.size ≤ 16384) : ACalls Tryd.prog 83 [.ptr id0 3 0 0] (scS τ id0 w s a ts) (fun e σ' => ∃ w', τ w' = none ∧ e = .ret (.v (.bool (wordR (s.extract a s.size)).isSome)) ∧ σ' = scS τ id0 w' s (plO a (wordR (s.extract a s.size))) (tsO a ts (wordR (s.extract a s.size)))) := by
  refine acalls_gives_ex ?_
  refine enter Tryd.func83 rfl rfl rfl rfl ?_
  have nwi : w ≠ id0 := St.ne_some hw hi
  have hn1 := runS_le (s.extract a s.size)
  rw [Lib.ext_size] at hn1
  have k1 := p_run (s.extract a s.size)
  rw [show runL (s.extract a s.size).data.toList = runS (s.extract a s.size) from rfl] at k1
  generalize hn : runS (s.extract a s.size) = n at *
  have hwr : IntKind.i64.wrap ((a : Int) + (n : Int)) = ((a + n : Nat) : Int) := by rw [w64 (by omega) (by omega)]; omega
  have hF : wordR (s.extract a s.size) = if (parseV (s.extract a (a + n))).2.2.2 = 0 then some (tkV ⟨(parseV (s.extract a (a + n))).1, (parseV (s.extract a (a + n))).2.1, (parseV (s.extract a (a + n))).2.2.1⟩, n) else none := by
    unfold wordR
    rw [hn, ← ext_in]
  rw [hF]
  have hw3 : s.extract a (IntKind.i64.wrap ((a : Int) + (n : Int))).toNat = s.extract a (a + n) := by rw [hwr, Int.toNat_natCast]
  repeat' (first|(first|(refine jl ?_;first|refine jb ?_|refine j1 ?_|refine j4 ?_|refine j14 ?_)|(refine dl ?_;first|refine d1 ?_|refine d4 ?_|refine d14 ?_|refine d21 ?_|refine dp (k1) ?_)|(refine al ?_;first|refine da_nil ?_|refine a1 ?_|refine a14 ?_|refine a21 ?_|refine ap (p_parse _) ?_|refine da_skip ?_)|(refine bl ?_;first|refine b1 ?_|refine b17t ?_|refine db_nil ?_)|refine al_cons (fun id hid=>?_)|refine al_nil ?_|(refine jc ?_;first|refine c1 ?_|refine c2 ?_|refine c6 ?_|refine c7 ?_|refine cqk ?_|refine cq ?_)|refine n1 ?_|refine n2 ?_|refine n11 ?_)|(refine c9 (fun h=>?_) (fun h=>?_)<;>((try simp only [Bool.or_eq_true, Bool.and_eq_true, Bool.or_eq_false_iff, Bool.and_eq_false_iff, Bool.not_eq_true', Bool.not_eq_false', decide_eq_true_eq, decide_eq_false_iff_not, Bool.false_eq_true, Bool.true_eq_false, reduceCtorEq] at h) <;> (try simp (disch := omega) only [sb_bt, w64, Int.reduceAdd, Int.reduceToNat, Int.toNat_natCast, not_true_eq_false, false_or] at h) <;> (try (exfalso; omega)))))
  · rw [show ((a : Int) + (n : Int)).toNat = a + n by omega] at h
    rw [if_neg h]
    refine ⟨w, hw, ?_⟩
    exact gives (St.le_set _ hid) (Fin.refl _ _ _)
  · rw [show ((a : Int) + (n : Int)).toNat = a + n by omega] at h
    rw [if_pos h]
    have hid' : τ id = none := St.ns2 hid
    have nid0 : id0 ≠ id := St.nn0 hid
    have nid1 : w ≠ id := St.nn1 hid
    rw [scS_swap nid0 nid1]
    have q := q_put (τ := τ.set id (.row 3 29 [[.v (.int .u8 (parseV (s.extract a (IntKind.i64.wrap ((a : Int) + (n : Int))).toNat)).1), .v (.int .i64 (parseV (s.extract a (IntKind.i64.wrap ((a : Int) + (n : Int))).toNat)).2.1), .v (.string (parseV (s.extract a (IntKind.i64.wrap ((a : Int) + (n : Int))).toNat)).2.2.1)]])) (a := a) (s := s) (ts := ts) (w := w) (tkV ⟨(parseV (s.extract a (IntKind.i64.wrap ((a : Int) + (n : Int))).toNat)).1, (parseV (s.extract a (IntKind.i64.wrap ((a : Int) + (n : Int))).toNat)).2.1, (parseV (s.extract a (IntKind.i64.wrap ((a : Int) + (n : Int))).toNat)).2.2.1⟩) n (by rw [St.set_ne _ _ _ nid1]; exact hw) (by rw [St.set_ne _ _ _ nid0]; exact hi) hl (by omega)
    repeat (first|fail)
    refine lj_calls rfl rfl rfl q (fun x σ' hx => ?_) (by rintro x σ' ⟨_, _, h, _⟩; cases h)
    rw [hw3] at hx
    obtain ⟨w', hw', hx1, hx2⟩ := hx
    cases hx1
    subst hx2
    repeat (first|(refine jl ?_;first|refine j1 ?_|refine j4 ?_)|(refine jc ?_;first|refine c7 ?_)|refine n11 ?_)
    refine ⟨w', St.ns1 hw', ?_⟩
    exact gives (scS_le (St.le_set _ hid')) (Fin.refl _ _ _)
end Go.Proofs.YtfaaokekgljnbaaDoor.Ab

/- The lexer: one token. -/
set_option linter.unusedVariables false
set_option linter.unusedSimpArgs false
set_option maxRecDepth 20000
namespace Go.Proofs.YtfaaokekgljnbaaDoor.Ab
open Go
section
variable {P : Program} {nt : Nat} {ops : Array Oper} {Q : Post} {fr : Fr} {σ : St} {rest : List Oper} {t : Tmp} {ty : TypeId} {pos : String} {aft : Array Edge} {dst : Option Tmp}
/-- A call under a known guard, with a post of any kind. -/
theorem lj_callsy {j u : Nat} {b : Bool} {f : FuncId} {xs : Array Operand} {ts : Array TypeId} {aa : List AV} {R : AEnd → St → Prop} (hd : fits nt dst = true) (hj : (ops[j]?).bind (·.dst) = some u) (hl : lk fr u = some (.v (.bool b))) (has : evs fr xs.toList = some aa) (hent : entered P f = true) (hp : ACalls P f aa σ R) (hex : ∀ e σ', R e σ' → ∃ r, e = .ret r) (h : ∀ r σ', R (.ret r) σ' → LJ P nt ops Q rest (put fr dst (some r)) σ') :
    LJ P nt ops Q (⟨dst, .call { callee := .value (.func f), args := xs, argTypes := ts }, ty, pos, aft, some (j, b)⟩ :: rest) fr σ :=
  lj_opw (fun k a hf => by simp [Region.wanted, yields hf hj hl]) hd (OpW.of_calls (R := fun r σ' => R (.ret r) σ') has hent hp (fun e σ2 hR => by
    obtain ⟨r, rfl⟩ := hex e σ2 hR
    exact ⟨r, rfl, hR⟩)) h
end
attribute [local irreducible] thn inb endR CJ LJ OpJ DJ DA DB AllocK

def oneF (r : ByteArray) : Option (Tk × Nat) :=
  match signF r with
  | some x => some x
  | none => match predF r 2 with
    | some x => some x
    | none => match namedF 9 ⟨#[60]⟩ ⟨#[62]⟩ r with
      | (some x, _) => some x
      | (none, true) => none
      | (none, false) => match predF r 1 with
        | some x => some x
        | none => match namedF 8 ⟨#[94]⟩ ⟨#[]⟩ r with
          | (some x, _) => some x
          | (none, true) => none
          | (none, false) => wordR r
theorem named_bad {k : Int} {op cl r : ByteArray} {x : Tk × Nat} {b : Bool} (h : namedF k op cl r = (some x, b)) : b = false := by
  unfold namedF at h
  split at h
  · split at h
    · cases h
    · split at h
      · cases h
      · cases h; rfl
  · cases h
set_option maxHeartbeats 2000000 in
theorem q_one {τ : St} {id0 w a : Nat} {s : ByteArray} {ts : List Tk} {o : AObj} (hw : τ w = none) (hi : τ id0 = some o) (hl : ts.length ≤ 16384) (ha : a ≤ s.size) (hb : s.size ≤ 16384) : ACalls Tryd.prog 39 [.ptr id0 3 0 0] (scS τ id0 w s a ts) (fun e σ' => ∃ w', τ w' = none ∧ e = .ret (.v (.bool (oneF (s.extract a s.size)).isSome)) ∧ σ' = scS τ id0 w' s (plO a (oneF (s.extract a s.size))) (tsO a ts (oneF (s.extract a s.size)))) := by
  refine acalls_gives_ex ?_
  refine enter Tryd.func39 rfl rfl rfl rfl ?_
  have q0 := q_sign (s := s) (a := a) (ts := ts) hw hi hl ha hb
  rcases e0 : signF (s.extract a s.size) with _ | ⟨t0, m0⟩
  · rw [e0] at q0
    dsimp only [plO, tsO, Option.isSome] at q0
    repeat (first|(refine jl ?_;first|refine j1 ?_|refine j4 ?_)|(refine jc ?_;first|refine c1 ?_|refine c2 ?_))
    refine lj_calls rfl rfl rfl q0 (fun x σ2 hx => ?_) (by rintro x σ2 ⟨_, _, h, _⟩; cases h)
    obtain ⟨w1, hww1, hx1, hx2⟩ := hx
    cases hx1
    subst hx2
    have q1 := q_pred 2 (by omega) (s := s) (a := a) (ts := ts) hww1 hi hl ha hb
    rcases e1 : predF (s.extract a s.size) 2 with _ | ⟨t1, m1⟩
    · rw [e1] at q1
      dsimp only [plO, tsO, Option.isSome] at q1
      repeat (first|(refine jl ?_;first|refine j1 ?_|refine j2 ?_))
      refine lj_callsy rfl rfl rfl rfl rfl q1 (by rintro e σ2 ⟨_, _, rfl, _⟩; exact ⟨_, rfl⟩) (fun x σ2 hx => ?_)
      obtain ⟨w2, hww2, hx1, hx2⟩ := hx
      cases hx1
      subst hx2
      have q2 := q_named 9 ⟨#[60]⟩ ⟨#[62]⟩ (by omega) (by decide) (by decide) (s := s) (a := a) (ts := ts) hww2 hi hl ha hb
      rcases e2 : namedF 9 ⟨#[60]⟩ ⟨#[62]⟩ (s.extract a s.size) with ⟨_ | ⟨t2, m2⟩, _ | _⟩
      · rw [e2] at q2
        dsimp only [plO, tsO, Option.isSome] at q2
        repeat (first|(refine jl ?_;first|refine jtf ?_|refine j1 ?_|refine j4 ?_)|(refine jc ?_;first|refine c1 ?_|refine c2 ?_|refine c4 ?_|refine c6 ?_)|refine n1 ?_)
        refine lj_calls rfl rfl rfl q2 (fun x σ2 hx => ?_) (by rintro x σ2 ⟨_, _, h, _⟩; cases h)
        obtain ⟨w3, hww3, hx1, hx2⟩ := hx
        cases hx1
        subst hx2
        have q3 := q_pred 1 (by omega) (s := s) (a := a) (ts := ts) hww3 hi hl ha hb
        rcases e3 : predF (s.extract a s.size) 1 with _ | ⟨t3, m3⟩
        · rw [e3] at q3
          dsimp only [plO, tsO, Option.isSome] at q3
          repeat (first|(refine jl ?_;first|refine jtf ?_|refine j1 ?_|refine j2 ?_|refine j4 ?_)|(refine jc ?_;first|refine c1 ?_|refine c2 ?_|refine c4 ?_|refine c6 ?_)|refine n1 ?_)
          refine lj_calls rfl rfl rfl q3 (fun x σ2 hx => ?_) (by rintro x σ2 ⟨_, _, h, _⟩; cases h)
          obtain ⟨w4, hww4, hx1, hx2⟩ := hx
          cases hx1
          subst hx2
          have q4 := q_named 8 ⟨#[94]⟩ ⟨#[]⟩ (by omega) (by decide) (by decide) (s := s) (a := a) (ts := ts) hww4 hi hl ha hb
          rcases e4 : namedF 8 ⟨#[94]⟩ ⟨#[]⟩ (s.extract a s.size) with ⟨_ | ⟨t4, m4⟩, _ | _⟩
          · rw [e4] at q4
            dsimp only [plO, tsO, Option.isSome] at q4
            repeat (first|(refine jl ?_;first|refine j1 ?_|refine j4 ?_)|(refine jc ?_;first|refine c1 ?_|refine c2 ?_|refine c4 ?_|refine c6 ?_)|refine n1 ?_)
            refine lj_calls rfl rfl rfl q4 (fun x σ2 hx => ?_) (by rintro x σ2 ⟨_, _, h, _⟩; cases h)
            obtain ⟨w5, hww5, hx1, hx2⟩ := hx
            cases hx1
            subst hx2
            have q5 := q_word (s := s) (a := a) (ts := ts) hww5 hi hl ha hb
            rcases e5 : wordR (s.extract a s.size) with _ | ⟨t5, m5⟩
            · rw [e5] at q5
              dsimp only [plO, tsO, Option.isSome] at q5
              repeat (first|(refine jl ?_;first|refine jtf ?_|refine j1 ?_|refine j2 ?_|refine j4 ?_)|(refine jc ?_;first|refine c1 ?_|refine c2 ?_|refine c4 ?_|refine c6 ?_)|refine n1 ?_)
              refine lj_calls rfl rfl rfl q5 (fun x σ2 hx => ?_) (by rintro x σ2 ⟨_, _, h, _⟩; cases h)
              obtain ⟨w6, hww6, hx1, hx2⟩ := hx
              cases hx1
              subst hx2
              repeat (first|(refine jl ?_;first|refine j1 ?_|refine j4 ?_)|(refine jc ?_;first|refine c7 ?_)|refine n11 ?_)
              refine ⟨w6, hww6, ?_⟩
              have hF : oneF (s.extract a s.size) = none := by simp [oneF, e0, e1, e2, e3, e4, e5]
              rw [hF]
              exact gives (St.le_refl _) (Fin.refl _ _ _)
            · rw [e5] at q5
              dsimp only [plO, tsO, Option.isSome] at q5
              repeat (first|(refine jl ?_;first|refine jtf ?_|refine j1 ?_|refine j2 ?_|refine j4 ?_)|(refine jc ?_;first|refine c1 ?_|refine c2 ?_|refine c4 ?_|refine c6 ?_)|refine n1 ?_)
              refine lj_calls rfl rfl rfl q5 (fun x σ2 hx => ?_) (by rintro x σ2 ⟨_, _, h, _⟩; cases h)
              obtain ⟨w6, hww6, hx1, hx2⟩ := hx
              cases hx1
              subst hx2
              repeat (first|(refine jl ?_;first|refine j1 ?_|refine j4 ?_)|(refine jc ?_;first|refine c7 ?_)|refine n11 ?_)
              refine ⟨w6, hww6, ?_⟩
              have hF : oneF (s.extract a s.size) = some (t5, m5) := by simp [oneF, e0, e1, e2, e3, e4, e5]
              rw [hF]
              exact gives (St.le_refl _) (Fin.refl _ _ _)
          · rw [e4] at q4
            dsimp only [plO, tsO, Option.isSome] at q4
            repeat (first|(refine jl ?_;first|refine j1 ?_|refine j4 ?_)|(refine jc ?_;first|refine c1 ?_|refine c2 ?_|refine c4 ?_|refine c6 ?_)|refine n1 ?_)
            refine lj_calls rfl rfl rfl q4 (fun x σ2 hx => ?_) (by rintro x σ2 ⟨_, _, h, _⟩; cases h)
            obtain ⟨w5, hww5, hx1, hx2⟩ := hx
            cases hx1
            subst hx2
            repeat (first|(refine jl ?_;first|refine j1 ?_|refine j2 ?_|refine j4 ?_)|(refine jc ?_;first|refine c1 ?_|refine c2 ?_|refine c3 ?_|refine c7 ?_)|refine n2 ?_|refine n11 ?_)
            refine ⟨w5, hww5, ?_⟩
            have hF : oneF (s.extract a s.size) = none := by simp [oneF, e0, e1, e2, e3, e4]
            rw [hF]
            exact gives (St.le_refl _) (Fin.refl _ _ _)
          · rw [e4] at q4
            dsimp only [plO, tsO, Option.isSome] at q4
            repeat (first|(refine jl ?_;first|refine j1 ?_|refine j4 ?_)|(refine jc ?_;first|refine c1 ?_|refine c2 ?_|refine c4 ?_|refine c6 ?_)|refine n1 ?_)
            refine lj_calls rfl rfl rfl q4 (fun x σ2 hx => ?_) (by rintro x σ2 ⟨_, _, h, _⟩; cases h)
            obtain ⟨w5, hww5, hx1, hx2⟩ := hx
            cases hx1
            subst hx2
            repeat (first|(refine jl ?_;first|refine j1 ?_|refine j3f ?_|refine j4 ?_)|(refine jc ?_;first|refine c1 ?_|refine c2 ?_|refine c3 ?_|refine c7 ?_)|refine n2 ?_|refine n11 ?_)
            refine ⟨w5, hww5, ?_⟩
            have hF : oneF (s.extract a s.size) = some (t4, m4) := by simp [oneF, e0, e1, e2, e3, e4]
            rw [hF]
            exact gives (St.le_refl _) (Fin.refl _ _ _)
          · exact absurd (named_bad e4) (by simp)
        · rw [e3] at q3
          dsimp only [plO, tsO, Option.isSome] at q3
          repeat (first|(refine jl ?_;first|refine jtf ?_|refine j1 ?_|refine j2 ?_|refine j4 ?_)|(refine jc ?_;first|refine c1 ?_|refine c2 ?_|refine c4 ?_|refine c6 ?_)|refine n1 ?_)
          refine lj_calls rfl rfl rfl q3 (fun x σ2 hx => ?_) (by rintro x σ2 ⟨_, _, h, _⟩; cases h)
          obtain ⟨w4, hww4, hx1, hx2⟩ := hx
          cases hx1
          subst hx2
          repeat (first|(refine jl ?_;first|refine j1 ?_|refine j4 ?_)|(refine jc ?_;first|refine c1 ?_|refine c2 ?_|refine c3 ?_|refine c7 ?_)|refine n2 ?_|refine n11 ?_)
          refine ⟨w4, hww4, ?_⟩
          have hF : oneF (s.extract a s.size) = some (t3, m3) := by simp [oneF, e0, e1, e2, e3]
          rw [hF]
          exact gives (St.le_refl _) (Fin.refl _ _ _)
      · rw [e2] at q2
        dsimp only [plO, tsO, Option.isSome] at q2
        repeat (first|(refine jl ?_;first|refine jtf ?_|refine j1 ?_|refine j4 ?_)|(refine jc ?_;first|refine c1 ?_|refine c2 ?_|refine c4 ?_|refine c6 ?_)|refine n1 ?_)
        refine lj_calls rfl rfl rfl q2 (fun x σ2 hx => ?_) (by rintro x σ2 ⟨_, _, h, _⟩; cases h)
        obtain ⟨w3, hww3, hx1, hx2⟩ := hx
        cases hx1
        subst hx2
        repeat (first|(refine jl ?_;first|refine j1 ?_|refine j2 ?_|refine j4 ?_)|(refine jc ?_;first|refine c1 ?_|refine c2 ?_|refine c3 ?_|refine c7 ?_)|refine n2 ?_|refine n11 ?_)
        refine ⟨w3, hww3, ?_⟩
        have hF : oneF (s.extract a s.size) = none := by simp [oneF, e0, e1, e2]
        rw [hF]
        exact gives (St.le_refl _) (Fin.refl _ _ _)
      · rw [e2] at q2
        dsimp only [plO, tsO, Option.isSome] at q2
        repeat (first|(refine jl ?_;first|refine jtf ?_|refine j1 ?_|refine j4 ?_)|(refine jc ?_;first|refine c1 ?_|refine c2 ?_|refine c4 ?_|refine c6 ?_)|refine n1 ?_)
        refine lj_calls rfl rfl rfl q2 (fun x σ2 hx => ?_) (by rintro x σ2 ⟨_, _, h, _⟩; cases h)
        obtain ⟨w3, hww3, hx1, hx2⟩ := hx
        cases hx1
        subst hx2
        repeat (first|(refine jl ?_;first|refine j1 ?_|refine j3f ?_|refine j4 ?_)|(refine jc ?_;first|refine c1 ?_|refine c2 ?_|refine c3 ?_|refine c7 ?_)|refine n2 ?_|refine n11 ?_)
        refine ⟨w3, hww3, ?_⟩
        have hF : oneF (s.extract a s.size) = some (t2, m2) := by simp [oneF, e0, e1, e2]
        rw [hF]
        exact gives (St.le_refl _) (Fin.refl _ _ _)
      · exact absurd (named_bad e2) (by simp)
    · rw [e1] at q1
      dsimp only [plO, tsO, Option.isSome] at q1
      repeat (first|(refine jl ?_;first|refine j1 ?_|refine j2 ?_))
      refine lj_callsy rfl rfl rfl rfl rfl q1 (by rintro e σ2 ⟨_, _, rfl, _⟩; exact ⟨_, rfl⟩) (fun x σ2 hx => ?_)
      obtain ⟨w2, hww2, hx1, hx2⟩ := hx
      cases hx1
      subst hx2
      repeat (first|(refine jl ?_;first|refine j1 ?_|refine j4 ?_)|(refine jc ?_;first|refine c1 ?_|refine c2 ?_|refine c3 ?_|refine c7 ?_)|refine n2 ?_|refine n11 ?_)
      refine ⟨w2, hww2, ?_⟩
      have hF : oneF (s.extract a s.size) = some (t1, m1) := by simp [oneF, e0, e1]
      rw [hF]
      exact gives (St.le_refl _) (Fin.refl _ _ _)
  · rw [e0] at q0
    dsimp only [plO, tsO, Option.isSome] at q0
    repeat (first|(refine jl ?_;first|refine j1 ?_|refine j4 ?_)|(refine jc ?_;first|refine c1 ?_|refine c2 ?_))
    refine lj_calls rfl rfl rfl q0 (fun x σ2 hx => ?_) (by rintro x σ2 ⟨_, _, h, _⟩; cases h)
    obtain ⟨w1, hww1, hx1, hx2⟩ := hx
    cases hx1
    subst hx2
    repeat (first|(refine jl ?_;first|refine j1 ?_|refine j3f ?_|refine j4 ?_)|(refine jc ?_;first|refine c1 ?_|refine c2 ?_|refine c3 ?_|refine c7 ?_)|refine n2 ?_|refine n11 ?_)
    refine ⟨w1, hww1, ?_⟩
    have hF : oneF (s.extract a s.size) = some (t0, m0) := by simp [oneF, e0]
    rw [hF]
    exact gives (St.le_refl _) (Fin.refl _ _ _)
end Go.Proofs.YtfaaokekgljnbaaDoor.Ab

/- The lexer: white. -/
set_option linter.unusedVariables false
set_option linter.unusedSimpArgs false
set_option maxRecDepth 20000
namespace Go.Proofs.YtfaaokekgljnbaaDoor.Ab
open Go
attribute [local irreducible] thn inb endR CJ LJ OpJ DJ DA DB AllocK

/-- How many bytes are white at the beginning; the flag: inside of a remark. -/
def whG : Bool → List UInt8 → Nat
  | _, [] => 0
  | true, c :: l => if c.toNat = 10 then 1 + whG false l else 1 + whG true l
  | false, c :: l => if c.toNat = 32 ∨ c.toNat = 9 ∨ c.toNat = 10 ∨ c.toNat = 13 then 1 + whG false l else if c.toNat = 59 then 1 + whG true l else 0
def whL (l : List UInt8) : Nat := whG false l
theorem whG_le : ∀ (b : Bool) (l : List UInt8), whG b l ≤ l.length
  | _, [] => by cases ‹Bool› <;> exact Nat.le_refl _
  | true, c :: l => by
    have h1 := whG_le false l
    have h2 := whG_le true l
    unfold whG
    split <;> (rw [List.length_cons]; omega)
  | false, c :: l => by
    have h1 := whG_le false l
    have h2 := whG_le true l
    unfold whG
    repeat' split
    all_goals (rw [List.length_cons]; omega)
theorem whT : ∀ (l : List UInt8), (Lib.indexByte l 10 = -1 → whG true l = l.length) ∧ (∀ i : Nat, Lib.indexByte l 10 = i → whG true l = i + whG false (l.drop i) ∧ i < l.length)
  | [] => ⟨fun _ => rfl, fun i h => by cases i <;> cases h⟩
  | c :: l => by
    obtain ⟨h1, h2⟩ := whT l
    have hge := Lib.indexByte_ge l 10
    have ew : whG true (c :: l) = if c.toNat = 10 then 1 + whG false l else 1 + whG true l := rfl
    have ei : Lib.indexByte (c :: l) 10 = if c == 10 then 0 else if Lib.indexByte l 10 == -1 then -1 else Lib.indexByte l 10 + 1 := rfl
    rw [ew, ei]
    by_cases hc : c.toNat = 10
    · have hc' : c = 10 := UInt8.toNat_inj.1 hc
      subst hc'
      refine ⟨fun h => by simp at h, fun i h => ?_⟩
      simp at h
      obtain rfl : i = 0 := by omega
      rw [if_pos hc, List.drop_zero]
      simp [whG]
    · have hc' : (c == 10) = false := by
        simp only [beq_eq_false_iff_ne, ne_eq]
        intro e
        subst e
        exact hc rfl
      rw [hc', if_neg hc]
      simp only [Bool.false_eq_true, if_false]
      by_cases hm : Lib.indexByte l 10 = -1
      · rw [hm]
        refine ⟨fun _ => by rw [h1 hm, List.length_cons]; omega, fun i h => ?_⟩
        simp at h
      · have hb : (Lib.indexByte l 10 == -1) = false := by simpa using hm
        rw [hb]
        simp only [Bool.false_eq_true, if_false]
        refine ⟨fun h => by omega, fun i h => ?_⟩
        obtain ⟨j, hj⟩ : ∃ j : Nat, Lib.indexByte l 10 = j := ⟨(Lib.indexByte l 10).toNat, by omega⟩
        obtain ⟨h3, h4⟩ := h2 j hj
        obtain rfl : i = j + 1 := by omega
        rw [List.drop_succ_cons, List.length_cons, h3]
        omega
theorem whS {c : UInt8} {l : List UInt8} (hc : c.toNat = 59) : (Lib.indexByte (c :: l) 10 = -1 → whL (c :: l) = l.length + 1) ∧ (∀ i : Nat, Lib.indexByte (c :: l) 10 = i → whL (c :: l) = i + whL ((c :: l).drop i) ∧ i < l.length + 1 ∧ 0 < i) := by
  obtain ⟨h1, h2⟩ := whT (c :: l)
  have e : whL (c :: l) = whG true (c :: l) := by
    unfold whL
    rw [whG, whG, if_neg (by omega), if_pos hc, if_neg (by omega)]
  rw [e]
  refine ⟨fun h => by rw [h1 h, List.length_cons], fun i h => ?_⟩
  obtain ⟨h3, h4⟩ := h2 i h
  refine ⟨h3, by rw [List.length_cons] at h4; exact h4, ?_⟩
  rcases Nat.eq_zero_or_pos i with rfl | h0
  · have hc' : (c == 10) = false := by
      simp only [beq_eq_false_iff_ne, ne_eq]
      intro e
      subst e
      exact absurd hc (by decide)
    unfold Lib.indexByte at h
    rw [hc'] at h
    have hge := Lib.indexByte_ge l 10
    split at h
    · cases ‹false = true›
    · split at h
      · cases h
      · rename_i hx
        simp at hx
        simp at h
        omega
  · exact h0
theorem scS_set {τ : St} {id0 w q : Nat} {s : ByteArray} {ts : List Tk} {x : Int} (h : x = (q : Int)) : (scS τ id0 w s q ts).le ((τ.set w (.row 7 31 (ts.map tkc))).set id0 (.row 3 74 [[.v (.string s), .v (.int .i64 x), .osl w 7 0 ts.length]])) := by
  subst h
  exact St.le_refl _
theorem whB {c : UInt8} {l : List UInt8} (h : c.toNat = 32 ∨ c.toNat = 9 ∨ c.toNat = 10 ∨ c.toNat = 13) : whL (c :: l) = 1 + whL l := by
  unfold whL
  rw [whG, if_pos h]
theorem whN {c : UInt8} {l : List UInt8} (h : ¬ (c.toNat = 32 ∨ c.toNat = 9 ∨ c.toNat = 10 ∨ c.toNat = 13)) (h2 : ¬ c.toNat = 59) : whL (c :: l) = 0 := by
  unfold whL
  rw [whG, if_neg h, if_neg h2]
set_option maxHeartbeats 1000000 in
theorem q_white {τ : St} {id0 w a : Nat} {s : ByteArray} {ts : List Tk} {o : AObj} (hw : τ w = none) (hi : τ id0 = some o) (ha : a ≤ s.size) (hb : s.size ≤ 16384) : ACalls Tryd.prog 38 [.ptr id0 3 0 0] (scS τ id0 w s a ts) (fun e σ' => e = .ret (.tup []) ∧ σ' = scS τ id0 w s (a + whL (s.data.toList.drop a)) ts) := by
  refine acalls_gives ?_
  refine enter Tryd.func38 rfl rfl rfl rfl ?_
  have nwi : w ≠ id0 := St.ne_some hw hi
  repeat (first|(refine jc ?_;first|refine c5 ?_))
  have hlen := bl_len s
  refine cj_for (fun p : Nat => p ≤ s.size ∧ p + whL (s.data.toList.drop p) = a + whL (s.data.toList.drop a)) (fun p => []) (fun p => scS τ id0 w s p ts) (fun p => s.size - p) a ⟨ha, rfl⟩ trivial (St.le_refl _) (fun p hp => ?_)
  obtain ⟨hp1, hp2⟩ := hp
  by_cases hlt : p < s.size
  · obtain ⟨e1, e2⟩ := drop_bt s p hlt
    have hsb : sb s (p : Int) = (bt s p : Int) := rfl
    rw [e1] at hp2
    generalize s.data.toList[p]'(by rw [hlen]; exact hlt) = c at *
    have hx : (s.extract p s.size).data.toList = c :: s.data.toList.drop (p + 1) := by rw [Lib.ext_list, e1]
    have k1 := p_ixb (s.extract p s.size) 10
    rw [hx, show ((10 : Int).toNat.toUInt8) = 10 from rfl] at k1
    have hS := @whS c (s.data.toList.drop (p + 1))
    generalize hI : Lib.indexByte (c :: s.data.toList.drop (p + 1)) 10 = I at *
    have hge : -1 ≤ I := by rw [← hI]; exact Lib.indexByte_ge _ _
    have hI2 : ∀ i : Nat, c.toNat = 59 → I = i → p + i < s.size := fun i h1 h2 => by
      have := (hS h1).2 i h2
      rw [List.length_drop] at this
      omega
    have h1p : IntKind.i64.wrap ((p : Int) + 1) = ((p + 1 : Nat) : Int) := by rw [w64 (by omega) (by omega)]; omega
    repeat' (first|(first|(refine jl ?_;first|refine j1 ?_|refine j4 ?_|refine j6 ?_|refine j14 ?_|refine j17t ?_)|(refine dl ?_;first|refine d1 ?_|refine d4 ?_|refine d14 ?_|refine d18 ?_|refine d21 ?_|refine dp (k1) ?_)|(refine jc ?_;first|refine c1 ?_|refine c2 ?_|refine c3 ?_|refine c5 ?_|refine c6 ?_|refine c7 ?_|refine cq ?_)|refine n1 ?_|refine n2 ?_|refine n5 ?_|refine n6 ?_|refine n10 ?_|refine n11 ?_)|(refine c9 (fun h=>?_) (fun h=>?_)<;>((try simp only [Bool.or_eq_true, Bool.and_eq_true, Bool.or_eq_false_iff, Bool.and_eq_false_iff, Bool.not_eq_true', Bool.not_eq_false', decide_eq_true_eq, decide_eq_false_iff_not, Bool.false_eq_true, Bool.true_eq_false, reduceCtorEq] at h) <;> (try simp (disch := omega) only [sb_bt, w64, Int.reduceAdd, Int.reduceToNat, Int.toNat_natCast, not_true_eq_false, false_or] at h) <;> (try (exfalso; omega)))))
    iterate 4
      · rw [whB (by omega)] at hp2
        exact nx_forS (p + 1) ⟨by omega, by omega⟩ (by omega) trivial (scS_set h1p)
    · have h59 : c.toNat = 59 := by omega
      have h3 := (hS h59).1 (by omega)
      rw [h3, List.length_drop] at hp2
      refine gives (scS_set (by omega)) (Fin.refl _ _ _)
    · have h59 : c.toNat = 59 := by omega
      obtain ⟨i, hi'⟩ : ∃ i : Nat, I = i := ⟨I.toNat, by omega⟩
      obtain ⟨h3, h4, h5⟩ := (hS h59).2 i hi'
      rw [h3, ← e1, List.drop_drop] at hp2
      have h6 := hI2 i h59 hi'
      have h7 : IntKind.i64.wrap ((p : Int) + I) = ((p + i : Nat) : Int) := by rw [w64 (by omega) (by omega)]; omega
      exact nx_forS (p + i) ⟨by omega, by omega⟩ (by omega) trivial (scS_set h7)
    · rw [whN (by omega) (by omega)] at hp2
      refine gives (scS_set (by omega)) (Fin.refl _ _ _)
  · have hnil : s.data.toList.drop p = [] := List.drop_of_length_le (by omega)
    rw [hnil] at hp2
    repeat' (first|(first|(refine dl ?_;first|refine d1 ?_|refine d4 ?_|refine d14 ?_)|(refine jc ?_;first|refine c1 ?_|refine c8 ?_|refine cq ?_)|refine n1 ?_|refine n3 ?_|refine n7 ?_|refine n8 ?_|refine n12 ?_)|(refine c9 (fun h=>?_) (fun h=>?_)<;>((try simp only [Bool.or_eq_true, Bool.and_eq_true, Bool.or_eq_false_iff, Bool.and_eq_false_iff, Bool.not_eq_true', Bool.not_eq_false', decide_eq_true_eq, decide_eq_false_iff_not, Bool.false_eq_true, Bool.true_eq_false, reduceCtorEq] at h) <;> (try simp (disch := omega) only [sb_bt, w64, Int.reduceAdd, Int.reduceToNat, Int.toNat_natCast, not_true_eq_false, false_or] at h) <;> (try (exfalso; omega)))))
    have h0 : whL [] = 0 := rfl
    refine gives (scS_set (by omega)) (Fin.refl _ _ _)
end Go.Proofs.YtfaaokekgljnbaaDoor.Ab

/- The lexer: Scan. -/
set_option linter.unusedVariables false
set_option linter.unusedSimpArgs false
set_option maxRecDepth 20000
namespace Go.Proofs.YtfaaokekgljnbaaDoor.Ab
open Go
theorem lj_nilcell {P : Program} {nt : Nat} {ops : Array Oper} {Q : Post} {fr : Fr} {σ : St} {c : List Oper} {b sz s : Nat} {et : TypeId} {f : Bool} {cs : List AV} (t j szw : Nat) (etw : TypeId) (h : ∀ w, σ w = none → LJ P nt ops Q c fr ((σ.set w (.row szw etw [])).set b (.row sz et [cs.set j (.osl w szw 0 0)]))) (ht : lk fr t = some (.ptr b sz 0 0) := by exact rfl) (hσ : σ b = some (.row sz et [cs]) := by exact lkp) (hj : cs[j]? = some (.sl (some true) f s []) := by exact rfl) : LJ P nt ops Q c fr σ := lj_ghost (ghost_nilcell szw etw hσ hj h)
attribute [local irreducible] thn inb endR CJ LJ OpJ DJ DA DB AllocK

theorem signL_pos {r : ByteArray} {x : Tk × Nat} : ∀ (ps : List ByteArray) (k : Nat), (∀ p ∈ ps, 0 < p.size) → signL r k ps = some x → 0 < x.2 ∧ x.2 ≤ r.size
  | [], k, _, h => by
    unfold signL at h
    split at h
    · rename_i hp
      cases h
      have := hasPre_size hp
      exact ⟨Nat.one_pos, Nat.le_trans (by decide) this⟩
    · cases h
  | p :: ps, k, hp, h => by
    unfold signL at h
    split at h
    · rename_i hq
      cases h
      exact ⟨hp p (List.mem_cons_self ..), hasPre_size hq⟩
    · exact signL_pos ps (k + 1) (fun q hq => hp q (List.mem_cons_of_mem _ hq)) h
theorem predL_pos {r : ByteArray} {n : Nat} {x : Tk × Nat} (hn : 0 < n) : ∀ (ps : List ByteArray) (k : Nat), predL r n k ps = some x → 0 < x.2 ∧ x.2 ≤ r.size
  | [], k, h => by cases h
  | p :: ps, k, h => by
    unfold predL at h
    split at h
    · rename_i hq
      cases h
      have := hasPre_size hq.2
      exact ⟨hn, by show n ≤ _; omega⟩
    · exact predL_pos hn ps (k + 1) h
theorem namedF_pos {k : Int} {op cl r : ByteArray} {x : Tk × Nat} {b : Bool} (ho : 0 < op.size) (h : namedF k op cl r = (some x, b)) : 0 < x.2 ∧ x.2 ≤ r.size := by
  unfold namedF at h
  split at h
  · rename_i hp
    split at h
    · cases h
    · rename_i h2
      split at h
      · cases h
      · cases h
        have h3 := hasPre_size hp
        have h4 := runS_le (r.extract op.size r.size)
        rw [Lib.ext_size] at h4
        have h5 : hasPre (r.extract (op.size + runS (r.extract op.size r.size)) r.size) cl = true := by
          cases hx : hasPre (r.extract (op.size + runS (r.extract op.size r.size)) r.size) cl
          · exact absurd (Or.inr hx) h2
          · rfl
        have h6 := hasPre_size h5
        rw [Lib.ext_size] at h6
        exact ⟨by show 0 < op.size + _ + _; omega, by show op.size + _ + _ ≤ _; omega⟩
  · cases h
theorem ext_zero (r : ByteArray) : r.extract 0 0 = ⟨#[]⟩ := by
  apply ByteArray.ext
  apply Array.toList_inj.1
  rw [exl]
  rfl
theorem parse_nil : (parseV ⟨#[]⟩).2.2.2 = 6 := by
  have : wordB ⟨#[]⟩ = false := rfl
  simp [parseV, this]
theorem wordR_pos {r : ByteArray} {x : Tk × Nat} (h : wordR r = some x) : 0 < x.2 ∧ x.2 ≤ r.size := by
  unfold wordR at h
  split at h
  · rename_i hp
    cases h
    refine ⟨?_, runS_le r⟩
    show 0 < runS r
    rcases Nat.eq_zero_or_pos (runS r) with h0 | h0
    · rw [h0, ext_zero, parse_nil] at hp
      cases hp
    · exact h0
  · cases h
theorem oneF_pos {r : ByteArray} {x : Tk × Nat} (h : oneF r = some x) : 0 < x.2 ∧ x.2 ≤ r.size := by
  unfold oneF at h
  split at h
  · rename_i h1; cases h; exact signL_pos signs 0 (by decide) h1
  · split at h
    · rename_i h1; cases h; exact predL_pos (by decide) preds 0 h1
    · split at h
      · rename_i h1; cases h; exact namedF_pos (by decide) h1
      · cases h
      · split at h
        · rename_i h1; cases h; exact predL_pos (by decide) preds 0 h1
        · split at h
          · rename_i h1; cases h; exact namedF_pos (by decide) h1
          · cases h
          · exact wordR_pos h
/-- The tokens from a place on, and where none is. -/
def scanA (s : ByteArray) : Nat → Nat → List Tk × Option Nat
  | 0, _ => ([], none)
  | n + 1, a => if a < s.size then
      match oneF (s.extract a s.size) with
      | none => ([], some a)
      | some (t, k) => ({ t with pl := a } :: (scanA s n (a + k + whL (s.data.toList.drop (a + k)))).1, (scanA s n (a + k + whL (s.data.toList.drop (a + k)))).2)
    else ([], none)
theorem scanA_fuel (s : ByteArray) : ∀ (n m a : Nat), s.size - a ≤ n → s.size - a ≤ m → scanA s n a = scanA s m a
  | 0, 0, a, _, _ => rfl
  | 0, m + 1, a, h, _ => by
    unfold scanA
    rw [if_neg (by omega)]
  | n + 1, 0, a, _, h => by
    unfold scanA
    rw [if_neg (by omega)]
  | n + 1, m + 1, a, hn, hm => by
    unfold scanA
    split
    · cases h : oneF (s.extract a s.size) with
      | none => rfl
      | some x =>
        obtain ⟨t, k⟩ := x
        have hp := (oneF_pos h).1
        dsimp only at hp ⊢
        rw [scanA_fuel s n m _ (by omega) (by omega)]
    · rfl
def scanR (s : ByteArray) (a : Nat) : List Tk × Option Nat := scanA s (s.size - a) a
theorem scanR_end {s : ByteArray} {a : Nat} (h : ¬ a < s.size) : scanR s a = ([], none) := by
  unfold scanR
  rw [show s.size - a = 0 by omega]
  rfl
theorem scanR_bad {s : ByteArray} {a : Nat} (h : a < s.size) (h1 : oneF (s.extract a s.size) = none) : scanR s a = ([], some a) := by
  unfold scanR
  obtain ⟨n, hn⟩ : ∃ n, s.size - a = n + 1 := ⟨s.size - a - 1, by omega⟩
  rw [hn, scanA, if_pos h, h1]
theorem scanR_one {s : ByteArray} {a k : Nat} {t : Tk} (h : a < s.size) (h1 : oneF (s.extract a s.size) = some (t, k)) : scanR s a = ({ t with pl := a } :: (scanR s (a + k + whL (s.data.toList.drop (a + k)))).1, (scanR s (a + k + whL (s.data.toList.drop (a + k)))).2) := by
  have hp := (oneF_pos h1).1
  dsimp only at hp
  unfold scanR
  obtain ⟨n, hn⟩ : ∃ n, s.size - a = n + 1 := ⟨s.size - a - 1, by omega⟩
  rw [hn, scanA, if_pos h, h1]
  dsimp only
  rw [scanA_fuel s n (s.size - (a + k + whL (s.data.toList.drop (a + k)))) _ (by omega) (by omega)]
def scanV (s : ByteArray) : List Tk × Int × Int :=
  if 16384 < s.size then ([], 0, 5) else match scanR s (whL s.data.toList) with
    | (l, none) => (l, 0, 0)
    | (l, some a) => (l, a, 16)
set_option maxHeartbeats 2000000 in
theorem p_scan (s : ByteArray) : Pure Tryd.prog 16 [.v (.string s)] (.tup [.sl none false 7 ((scanV s).1.map tkc), .v (.int .i64 (scanV s).2.1), .v (.int .i64 (scanV s).2.2)]) := by
  refine enterW Tryd.func16 rfl rfl rfl rfl (fun σ => ?_)
  by_cases hz : 16384 < s.size
  · have e : scanV s = ([], 0, 5) := by unfold scanV; rw [if_pos hz]
    rw [e]
    repeat' (first|(first|(refine jl ?_;first|refine j1 ?_|refine j4 ?_)|(refine jc ?_;first|refine c1 ?_|refine c2 ?_|refine c7 ?_)|refine n2 ?_|refine n11 ?_)|(refine c9 (fun h=>?_) (fun h=>?_)<;>((try simp only [Bool.or_eq_true, Bool.and_eq_true, Bool.or_eq_false_iff, Bool.and_eq_false_iff, Bool.not_eq_true', Bool.not_eq_false', decide_eq_true_eq, decide_eq_false_iff_not, Bool.false_eq_true, Bool.true_eq_false, reduceCtorEq] at h) <;> (try simp (disch := omega) only [sb_bt, w64, Int.reduceAdd, Int.reduceToNat, Int.toNat_natCast, not_true_eq_false, false_or] at h) <;> (try (exfalso; omega)))))
    first | exact ge rfl | exact gvs (by (repeat' (first | exact finl_nil | apply finl_cons | exact Fin.refl _ _ _ | apply fin_pk2 | apply fin_pk3 | apply fin_agg | apply fin_tup | exact fin_nil | exact fin_sl rfl | exact fin_fz (by exact lkp) (by first | assumption | exact St.ns1 (by assumption) | exact St.ns2 (by assumption) | exact St.ns3 (by assumption) | exact St.ns4 (by assumption) | exact St.ns5 (by assumption) | exact St.ns6 (by assumption) | exact St.ns7 (by assumption) | exact St.ns8 (by assumption) | exact St.ns9 (by assumption) | exact St.ns10 (by assumption) | exact St.ns11 (by assumption) | exact St.ns12 (by assumption) | exact St.ns13 (by assumption) | exact St.ns14 (by assumption) | exact St.ns10 (by assumption) | exact St.ns11 (by assumption) | exact St.ns12 (by assumption) | exact St.ns13 (by assumption) | exact St.ns14 (by assumption)) (by first | exact rfl | assumption | (simp only [List.length_map, List.length_append, List.length_cons, List.length_nil]; done) | (simp only [List.length_map, List.length_append, List.length_cons, List.length_nil]; omega)) rfl (fun _ => rfl) | exact fin_eq rfl)))
  · have hV : scanV s = match scanR s (whL s.data.toList) with
      | (l, none) => (l, 0, 0)
      | (l, some a) => (l, a, 16) := by unfold scanV; rw [if_neg hz]
    have hlen := bl_len s
    repeat' (first|(first|(refine jl ?_;first|refine jb ?_|refine j1 ?_|refine j4 ?_|refine j12 (fun id hid=>?_))|(refine jc ?_;first|refine c1 ?_|refine c2 ?_|refine c6 ?_)|refine n1 ?_)|(refine c9 (fun h=>?_) (fun h=>?_)<;>((try simp only [Bool.or_eq_true, Bool.and_eq_true, Bool.or_eq_false_iff, Bool.and_eq_false_iff, Bool.not_eq_true', Bool.not_eq_false', decide_eq_true_eq, decide_eq_false_iff_not, Bool.false_eq_true, Bool.true_eq_false, reduceCtorEq] at h) <;> (try simp (disch := omega) only [sb_bt, w64, Int.reduceAdd, Int.reduceToNat, Int.toNat_natCast, not_true_eq_false, false_or] at h) <;> (try (exfalso; omega)))))
    have hid1 := hid
    refine lj_nilcell 5 2 7 31 (fun w0 hw0 => ?_)
    obtain ⟨τ, hτ⟩ : ∃ τ, τ = σ.set id (.row 3 74 [[.v (.string s), .v (.int .i64 0), .sl (some true) true 1 []]]) := ⟨_, rfl⟩
    have hi : τ id = some (.row 3 74 [[.v (.string s), .v (.int .i64 0), .sl (some true) true 1 []]]) := by rw [hτ]; exact St.set_same _ _ _
    rw [← hτ] at hw0 ⊢
    have hle : σ.le τ := by rw [hτ]; exact St.le_set _ hid
    show LJ _ _ _ _ _ _ (scS τ id w0 s 0 [])
    refine lj_to rfl rfl rfl (q_white hw0 hi (Nat.zero_le _) (by omega)) ?_
    repeat (first|(refine jl ?_;first|refine j4 ?_)|(refine jc ?_;first|refine c5 ?_))
    rw [Nat.zero_add, List.drop_zero]
    have hwl : whL s.data.toList ≤ s.size := by rw [← hlen]; exact whG_le _ _
    refine cj_for (fun x : Nat × Nat × List Tk => x.1 ≤ s.size ∧ τ x.2.1 = none ∧ x.2.2.length ≤ x.1 ∧ x.2.2 ++ (scanR s x.1).1 = (scanR s (whL s.data.toList)).1 ∧ (scanR s x.1).2 = (scanR s (whL s.data.toList)).2) (fun x => [(5, .ptr id 3 0 0)]) (fun x => scS τ id x.2.1 s x.1 x.2.2) (fun x => s.size - x.1) (whL s.data.toList, w0, []) ⟨hwl, hw0, Nat.zero_le _, rfl, rfl⟩ ⟨⟨_, rfl, fun _ _ h => h⟩, trivial⟩ (St.le_refl _) (fun x hx => ?_)
    obtain ⟨a, w, acc⟩ := x
    obtain ⟨h1, hw, h3, h4, h5⟩ := hx
    dsimp only at h1 hw h3 h4 h5 ⊢
    have nwi : w ≠ id := St.ne_some hw hi
    by_cases hlt : a < s.size
    · have q := q_one (s := s) (a := a) (ts := acc) hw hi (by omega) h1 (by omega)
      cases h6 : oneF (s.extract a s.size) with
      | none =>
        rw [scanR_bad hlt h6] at h4 h5
        rw [h6] at q
        dsimp only [plO, tsO, Option.isSome] at q
        repeat' (first|(first|(refine jl ?_;first|refine j1 ?_|refine j4 ?_|refine j14 ?_)|(refine jc ?_;first|refine c1 ?_|refine c2 ?_|refine c5 ?_|refine c6 ?_)|refine n1 ?_)|(refine c9 (fun h=>?_) (fun h=>?_)<;>((try simp only [Bool.or_eq_true, Bool.and_eq_true, Bool.or_eq_false_iff, Bool.and_eq_false_iff, Bool.not_eq_true', Bool.not_eq_false', decide_eq_true_eq, decide_eq_false_iff_not, Bool.false_eq_true, Bool.true_eq_false, reduceCtorEq] at h) <;> (try simp (disch := omega) only [sb_bt, w64, Int.reduceAdd, Int.reduceToNat, Int.toNat_natCast, not_true_eq_false, false_or] at h) <;> (try (exfalso; omega)))))
        refine lj_calls rfl rfl rfl q (fun x σ2 hx => ?_) (by rintro x σ2 ⟨_, _, h, _⟩; cases h)
        obtain ⟨w', hw', hx1, hx2⟩ := hx
        cases hx1
        subst hx2
        have nwi' : w' ≠ id := St.ne_some hw' hi
        refine lj_freezecell 5 2 (acc.map tkc) ?_ (by rw [List.length_map]) nwi'
        rw [St.del_set2 hw' nwi']
        repeat' (first|(first|(refine jl ?_;first|refine j1 ?_|refine j4 ?_)|(refine dl ?_;first|refine d1 ?_|refine d4 ?_|refine d14 ?_)|(refine jc ?_;first|refine c1 ?_|refine c7 ?_|refine cq ?_)|refine n1 ?_|refine n2 ?_|refine n5 ?_|refine n6 ?_|refine n11 ?_)|(refine c9 (fun h=>?_) (fun h=>?_)<;>((try simp only [Bool.or_eq_true, Bool.and_eq_true, Bool.or_eq_false_iff, Bool.and_eq_false_iff, Bool.not_eq_true', Bool.not_eq_false', decide_eq_true_eq, decide_eq_false_iff_not, Bool.false_eq_true, Bool.true_eq_false, reduceCtorEq] at h) <;> (try simp (disch := omega) only [sb_bt, w64, Int.reduceAdd, Int.reduceToNat, Int.toNat_natCast, not_true_eq_false, false_or] at h) <;> (try (exfalso; omega)))))
        have hR : scanR s (whL s.data.toList) = (acc, some a) := Prod.ext (by rw [← h4, List.append_nil]) h5.symm
        rw [hV, hR]
        exact gives (St.le_any hle hid1) (Fin.refl _ _ _)
      | some x =>
        obtain ⟨t, k⟩ := x
        have hp := oneF_pos h6
        rw [Lib.ext_size] at hp
        dsimp only at hp
        rw [scanR_one hlt h6] at h4 h5
        rw [h6] at q
        dsimp only [plO, tsO, Option.isSome] at q h4 h5
        repeat' (first|(first|(refine jl ?_;first|refine j1 ?_|refine j4 ?_|refine j14 ?_)|(refine jc ?_;first|refine c1 ?_|refine c2 ?_|refine c5 ?_|refine c6 ?_)|refine n1 ?_)|(refine c9 (fun h=>?_) (fun h=>?_)<;>((try simp only [Bool.or_eq_true, Bool.and_eq_true, Bool.or_eq_false_iff, Bool.and_eq_false_iff, Bool.not_eq_true', Bool.not_eq_false', decide_eq_true_eq, decide_eq_false_iff_not, Bool.false_eq_true, Bool.true_eq_false, reduceCtorEq] at h) <;> (try simp (disch := omega) only [sb_bt, w64, Int.reduceAdd, Int.reduceToNat, Int.toNat_natCast, not_true_eq_false, false_or] at h) <;> (try (exfalso; omega)))))
        refine lj_calls rfl rfl rfl q (fun x σ2 hx => ?_) (by rintro x σ2 ⟨_, _, h, _⟩; cases h)
        obtain ⟨w', hw', hx1, hx2⟩ := hx
        cases hx1
        subst hx2
        repeat' (first|(first|(refine jl ?_;first|refine j1 ?_|refine j4 ?_)|(refine jc ?_;first|refine c2 ?_|refine c6 ?_)|refine n1 ?_|refine n10 ?_)|(refine c9 (fun h=>?_) (fun h=>?_)<;>((try simp only [Bool.or_eq_true, Bool.and_eq_true, Bool.or_eq_false_iff, Bool.and_eq_false_iff, Bool.not_eq_true', Bool.not_eq_false', decide_eq_true_eq, decide_eq_false_iff_not, Bool.false_eq_true, Bool.true_eq_false, reduceCtorEq] at h) <;> (try simp (disch := omega) only [sb_bt, w64, Int.reduceAdd, Int.reduceToNat, Int.toNat_natCast, not_true_eq_false, false_or] at h) <;> (try (exfalso; omega)))))
        refine lj_to rfl rfl rfl (q_white hw' hi (by omega) (by omega)) ?_
        repeat' (first|(first|(refine jl ?_;first|refine j6 ?_)))
        have hwb := whG_le false (s.data.toList.drop (a + k))
        rw [List.length_drop, hlen] at hwb
        have hwb' : whL (s.data.toList.drop (a + k)) ≤ s.size - (a + k) := hwb
        refine nx_forS (a + k + whL (s.data.toList.drop (a + k)), w', acc ++ [{ t with pl := a }]) ⟨by dsimp only; omega, hw', ?_, ?_, h5⟩ (by dsimp only; omega) ⟨⟨_, rfl, fun _ _ h => h⟩, trivial⟩ (St.le_refl _)
        · dsimp only
          rw [List.length_append, List.length_singleton]
          omega
        · dsimp only
          rw [List.append_assoc]
          exact h4
    · rw [scanR_end hlt] at h4 h5
      refine cj_freezecell 5 2 (acc.map tkc) ?_ (by rw [List.length_map]) nwi
      rw [St.del_set2 hw nwi]
      repeat' (first|(first|(refine jl ?_;first|refine j1 ?_|refine j4 ?_|refine j14 ?_)|(refine jc ?_;first|refine c1 ?_|refine c2 ?_|refine c7 ?_|refine c8 ?_)|refine n1 ?_|refine n3 ?_|refine n7 ?_|refine n8 ?_|refine n11 ?_)|(refine c9 (fun h=>?_) (fun h=>?_)<;>((try simp only [Bool.or_eq_true, Bool.and_eq_true, Bool.or_eq_false_iff, Bool.and_eq_false_iff, Bool.not_eq_true', Bool.not_eq_false', decide_eq_true_eq, decide_eq_false_iff_not, Bool.false_eq_true, Bool.true_eq_false, reduceCtorEq] at h) <;> (try simp (disch := omega) only [sb_bt, w64, Int.reduceAdd, Int.reduceToNat, Int.toNat_natCast, not_true_eq_false, false_or] at h) <;> (try (exfalso; omega)))))
      have hR : scanR s (whL s.data.toList) = (acc, none) := Prod.ext (by rw [← h4, List.append_nil]) h5.symm
      rw [hV, hR]
      exact gives (St.le_any hle hid1) (Fin.refl _ _ _)
end Go.Proofs.YtfaaokekgljnbaaDoor.Ab

/- The lexer: the reference's white, fixed signs. -/
set_option linter.unusedVariables false
set_option linter.unusedSimpArgs false
set_option maxRecDepth 20000
namespace Go.Proofs.YtfaaokekgljnbaaDoor.Ab
open Go
attribute [local irreducible] thn inb endR CJ LJ OpJ DJ DA DB AllocK

theorem whG_nil (b : Bool) : whG b [] = 0 := by cases b <;> rfl
theorem whG_semi {c : UInt8} {l : List UInt8} (h : c.toNat = 59) : whL (c :: l) = whG true (c :: l) := by
  unfold whL
  rw [whG, whG, if_neg (by omega), if_pos h, if_neg (by omega)]
theorem whG_ten {c : UInt8} {l : List UInt8} (h : c.toNat = 10) : whG true (c :: l) = whL (c :: l) := by
  unfold whL
  rw [whG, whG, if_pos h, if_pos (by omega)]
theorem whG_in {c : UInt8} {l : List UInt8} (h : ¬ c.toNat = 10) : whG true (c :: l) = 1 + whG true l := by
  rw [whG, if_neg h]
set_option maxHeartbeats 1000000 in
theorem p_rwhite (s : ByteArray) (hz : s.size ≤ 9223372036854775807) : Pure Tryd.prog 100 [.v (.string s)] (.v (.int .i64 (whL s.data.toList))) := by
  refine enterW Tryd.func100 rfl rfl rfl rfl (fun σ => ?_)
  have hlen := bl_len s
  repeat (first|(refine jl ?_;first|refine j1 ?_|refine j4 ?_)|(refine jc ?_;first|refine c1 ?_|refine c2 ?_|refine c5 ?_))
  refine cj_head (fun i : Nat => i ≤ s.size ∧ i + whL (s.data.toList.drop i) = whL s.data.toList) (fun i => [(0, .v (.string s)), (3, .v (.int .i64 i))]) (fun _ => σ) (fun i => s.size - i) 0 ⟨Nat.zero_le _, Nat.zero_add _⟩ ⟨rfl, rfl, trivial⟩ (St.le_refl _) (fun i hi => ?_)
  obtain ⟨hi1, hi2⟩ := hi
  by_cases hlt : i < s.size
  · obtain ⟨e1, e2⟩ := drop_bt s i hlt
    rw [e1] at hi2
    generalize s.data.toList[i]'(by rw [hlen]; exact hlt) = c at *
    have h1p : IntKind.i64.wrap ((i : Int) + 1) = ((i + 1 : Nat) : Int) := by rw [w64 (by omega) (by omega)]; omega
    repeat' (first|(first|(refine jl ?_;first|refine j1 ?_|refine j4 ?_|refine j6 ?_|refine j18 ?_)|(refine jc ?_;first|refine c1 ?_|refine c2 ?_|refine c3 ?_|refine c5 ?_|refine c6 ?_|refine c7 ?_)|refine n1 ?_|refine n2 ?_|refine n5 ?_|refine n6 ?_|refine n10 ?_|refine n11 ?_)|(refine c9 (fun h=>?_) (fun h=>?_)<;>((try simp only [Bool.or_eq_true, Bool.and_eq_true, Bool.or_eq_false_iff, Bool.and_eq_false_iff, Bool.not_eq_true', Bool.not_eq_false', decide_eq_true_eq, decide_eq_false_iff_not, Bool.false_eq_true, Bool.true_eq_false, reduceCtorEq] at h) <;> (try simp (disch := omega) only [sb_bt, w64, Int.reduceAdd, Int.reduceToNat, Int.toNat_natCast, not_true_eq_false, false_or] at h) <;> (try (exfalso; omega)))))
    iterate 4
      · rw [whB (by omega)] at hi2
        exact nx_thn ⟨i + 1, ⟨by omega, by omega⟩, by omega, ⟨rfl, by show some (AV.v (.int .i64 _)) = _; rw [h1p], trivial⟩, St.le_refl _⟩
    · have h59 : c.toNat = 59 := by omega
      rw [whG_semi h59, ← e1] at hi2
      refine cj_head (fun j : Nat => i ≤ j ∧ j ≤ s.size ∧ j + whG true (s.data.toList.drop j) = whL s.data.toList) (fun j => [(0, .v (.string s)), (3, .v (.int .i64 j))]) (fun _ => σ) (fun j => s.size - j) i ⟨Nat.le_refl _, by omega, hi2⟩ ⟨rfl, rfl, trivial⟩ (St.le_refl _) (fun j hj => ?_)
      obtain ⟨hj1, hj2, hj3⟩ := hj
      by_cases hjl : j < s.size
      · obtain ⟨f1, f2⟩ := drop_bt s j hjl
        rw [f1] at hj3
        generalize s.data.toList[j]'(by rw [hlen]; exact hjl) = d at *
        have h1q : IntKind.i64.wrap ((j : Int) + 1) = ((j + 1 : Nat) : Int) := by rw [w64 (by omega) (by omega)]; omega
        repeat' (first|(first|(refine jl ?_;first|refine j8 ?_|refine j1 ?_|refine j4 ?_|refine j6 ?_|refine j9 ?_|refine j20 ?_)|(refine jc ?_;first|refine c1 ?_|refine c2 ?_|refine c5 ?_|refine c6 ?_|refine c8 ?_)|refine n1 ?_|refine n3 ?_|refine n7 ?_|refine n8 ?_|refine n10 ?_)|(refine c9 (fun h=>?_) (fun h=>?_)<;>((try simp only [Bool.or_eq_true, Bool.and_eq_true, Bool.or_eq_false_iff, Bool.and_eq_false_iff, Bool.not_eq_true', Bool.not_eq_false', decide_eq_true_eq, decide_eq_false_iff_not, Bool.false_eq_true, Bool.true_eq_false, reduceCtorEq] at h) <;> (try simp (disch := omega) only [sb_bt, w64, Int.reduceAdd, Int.reduceToNat, Int.toNat_natCast, not_true_eq_false, false_or] at h) <;> (try (exfalso; omega)))))
        · rw [whG_in (by omega)] at hj3
          exact nx_thn ⟨j + 1, ⟨by omega, by omega, by omega⟩, by omega, ⟨rfl, by show some (AV.v (.int .i64 _)) = _; rw [h1q], trivial⟩, St.le_refl _⟩
        · have h10 : d.toNat = 10 := by rcases h with h | h; exact absurd (by omega) h; omega
          rw [whG_ten h10, ← f1] at hj3
          have hne : j ≠ i := fun e => by subst e; omega
          exact nx_thn ⟨j, ⟨by omega, by omega⟩, by omega, ⟨rfl, rfl, trivial⟩, St.le_refl _⟩
      · rw [List.drop_of_length_le (by omega), whG_nil] at hj3
        repeat' (first|(first|(refine jl ?_;first|refine j8 ?_|refine j1 ?_|refine j4 ?_|refine j9 ?_|refine j20 ?_)|(refine jc ?_;first|refine c1 ?_|refine c2 ?_|refine c8 ?_)|refine n3 ?_|refine n7 ?_|refine n8 ?_|refine n10 ?_)|(refine c9 (fun h=>?_) (fun h=>?_)<;>((try simp only [Bool.or_eq_true, Bool.and_eq_true, Bool.or_eq_false_iff, Bool.and_eq_false_iff, Bool.not_eq_true', Bool.not_eq_false', decide_eq_true_eq, decide_eq_false_iff_not, Bool.false_eq_true, Bool.true_eq_false, reduceCtorEq] at h) <;> (try simp (disch := omega) only [sb_bt, w64, Int.reduceAdd, Int.reduceToNat, Int.toNat_natCast, not_true_eq_false, false_or] at h) <;> (try (exfalso; omega)))))
        exact nx_thn ⟨j, ⟨by omega, by rw [List.drop_of_length_le (by omega), show whL [] = 0 from rfl]; exact hj3⟩, by omega, ⟨rfl, rfl, trivial⟩, St.le_refl _⟩
    · rw [whN (by omega) (by omega)] at hi2
      refine gives (St.le_refl _) (fin_one (.wk (Wk.of_eq ?_)))
      rw [← hi2]
      rfl
  · rw [List.drop_of_length_le (by omega), show whL [] = 0 from rfl] at hi2
    repeat' (first|(first|(refine jl ?_;first|refine j1 ?_|refine j4 ?_)|(refine jc ?_;first|refine c1 ?_|refine c2 ?_|refine c7 ?_|refine c8 ?_)|refine n1 ?_|refine n3 ?_|refine n7 ?_|refine n8 ?_|refine n11 ?_)|(refine c9 (fun h=>?_) (fun h=>?_)<;>((try simp only [Bool.or_eq_true, Bool.and_eq_true, Bool.or_eq_false_iff, Bool.and_eq_false_iff, Bool.not_eq_true', Bool.not_eq_false', decide_eq_true_eq, decide_eq_false_iff_not, Bool.false_eq_true, Bool.true_eq_false, reduceCtorEq] at h) <;> (try simp (disch := omega) only [sb_bt, w64, Int.reduceAdd, Int.reduceToNat, Int.toNat_natCast, not_true_eq_false, false_or] at h) <;> (try (exfalso; omega)))))
    refine gives (St.le_refl _) (fin_one (.wk (Wk.of_eq ?_)))
    rw [← hi2]
    rfl
def zTk : Tk := ⟨0, ⟨#[]⟩, 0, ⟨0, 0, ⟨#[]⟩⟩, 0⟩
def gotT (o : Option (Tk × Nat)) : AV := .tup [.agg (tkc ((o.map (·.1)).getD zTk)), .v (.int .i64 ((o.map (·.2)).getD 0 : Nat))]
/-- The reference's fixed signs. -/
def fixR (r : ByteArray) : Option (Tk × Nat) :=
  if (bt r 0 : Int) = 40 then some (tkS 0, 1) else if (bt r 0 : Int) = 41 then some (tkS 1, 1) else if (bt r 0 : Int) = 123 then some (tkS 2, 1) else if (bt r 0 : Int) = 125 then some (tkS 3, 1)
  else if hasPre r ⟨#[60, 60]⟩ = true then some (tkS 4, 2) else if hasPre r ⟨#[62, 62]⟩ = true then some (tkS 5, 2) else if hasPre r ⟨#[45, 45, 62]⟩ = true then some (tkS 6, 3) else if hasPre r ⟨#[45, 40]⟩ = true then some (tkS 7, 1)
  else if hasPre r ⟨#[60, 61]⟩ = true then some (tkP 3, 2) else if hasPre r ⟨#[60, 62]⟩ = true then some (tkP 1, 2) else if hasPre r ⟨#[62, 61]⟩ = true then some (tkP 5, 2) else none
def sglR (r : ByteArray) : Option (Tk × Nat) :=
  if (bt r 0 : Int) = 60 then some (tkP 2, 1) else if (bt r 0 : Int) = 62 then some (tkP 4, 1) else if (bt r 0 : Int) = 61 then some (tkP 0, 1) else none
theorem p_rsingle (r : ByteArray) (h0 : 0 < r.size) : Pure Tryd.prog 129 [.v (.string r)] (gotT (sglR r)) := by
  refine enterW Tryd.func129 rfl rfl rfl rfl (fun σ => ?_)
  repeat' (first|(first|(refine jl ?_;first|refine jb ?_|refine j1 ?_|refine j4 ?_|refine j13 (fun id hid=>?_)|refine j17t ?_|refine j18 ?_)|(refine jc ?_;first|refine c1 ?_|refine c2 ?_|refine c5 ?_|refine c6 ?_|refine c7 ?_)|refine n1 ?_|refine n2 ?_|refine n6 ?_|refine n10 ?_|refine n15 ?_)|(refine c9 (fun h=>?_) (fun h=>?_)<;>((try simp only [Bool.or_eq_true, Bool.and_eq_true, Bool.or_eq_false_iff, Bool.and_eq_false_iff, Bool.not_eq_true', Bool.not_eq_false', decide_eq_true_eq, decide_eq_false_iff_not, Bool.false_eq_true, Bool.true_eq_false, reduceCtorEq] at h) <;> (try simp (disch := omega) only [sb_bt, w64, Int.reduceAdd, Int.reduceToNat, Int.toNat_natCast, not_true_eq_false, false_or] at h) <;> (try (exfalso; omega)))))
  all_goals
    unfold sglR
    repeat first | rw [if_pos (by assumption)] | rw [if_neg (by assumption)]
    exact gives (by (try rw [St.set_set]); exact St.le_set _ hid) (Fin.refl _ _ _)
set_option maxHeartbeats 2000000 in
theorem p_rfixed (r : ByteArray) (h0 : 0 < r.size) : Pure Tryd.prog 126 [.v (.string r)] (gotT (fixR r)) := by
  refine enterW Tryd.func126 rfl rfl rfl rfl (fun σ => ?_)
  repeat' (first|(first|(refine jl ?_;first|refine jb ?_|refine j1 ?_|refine j4 ?_|refine j13 (fun id hid=>?_)|refine j17t ?_|refine j18 ?_|refine jp (p_rbegins _ _) ?_)|(refine jc ?_;first|refine c1 ?_|refine c2 ?_|refine c5 ?_|refine c6 ?_|refine c7 ?_)|refine n1 ?_|refine n2 ?_|refine n6 ?_|refine n10 ?_|refine n15 ?_)|(refine c9 (fun h=>?_) (fun h=>?_)<;>((try simp only [Bool.or_eq_true, Bool.and_eq_true, Bool.or_eq_false_iff, Bool.and_eq_false_iff, Bool.not_eq_true', Bool.not_eq_false', decide_eq_true_eq, decide_eq_false_iff_not, Bool.false_eq_true, Bool.true_eq_false, reduceCtorEq] at h) <;> (try simp (disch := omega) only [sb_bt, w64, Int.reduceAdd, Int.reduceToNat, Int.toNat_natCast, not_true_eq_false, false_or] at h) <;> (try (exfalso; omega)))))
  all_goals
    unfold fixR
    repeat first | rw [if_pos (by assumption)] | rw [if_neg (by assumption)] | rw [if_neg (by simp only [*, Bool.false_eq_true, not_false_eq_true])]
    exact gives (by (try rw [St.set_set]); exact St.le_set _ hid) (Fin.refl _ _ _)
end Go.Proofs.YtfaaokekgljnbaaDoor.Ab

/- The lexer: the reference's one. -/
set_option linter.unusedVariables false
set_option linter.unusedSimpArgs false
set_option maxRecDepth 20000
namespace Go.Proofs.YtfaaokekgljnbaaDoor.Ab
open Go
attribute [local irreducible] thn inb endR CJ LJ OpJ DJ DA DB AllocK

theorem fixR_pos {r : ByteArray} {x : Tk × Nat} (h : fixR r = some x) : 0 < x.2 := by
  unfold fixR at h
  repeat (split at h; · cases h; simp)
  cases h
theorem sglR_pos {r : ByteArray} {x : Tk × Nat} (h : sglR r = some x) : 0 < x.2 := by
  unfold sglR at h
  repeat (split at h; · cases h; simp)
  cases h
def varR (r : ByteArray) : Option (Option (Tk × Nat)) :=
  if (bt r 0 : Int) = 60 ∧ ¬ runS (r.extract 1 r.size) = 0 ∧ hasPre (r.extract (1 + runS (r.extract 1 r.size)) r.size) ⟨#[62]⟩ = true then
    some (if 24 < runS (r.extract 1 r.size) then none else some (tkN 9 ((r.extract 1 r.size).extract 0 (runS (r.extract 1 r.size))), runS (r.extract 1 r.size) + 2))
  else none
def atrR (r : ByteArray) : Option (Option (Tk × Nat)) :=
  if (bt r 0 : Int) = 94 then
    some (if runS (r.extract 1 r.size) = 0 ∨ 24 < runS (r.extract 1 r.size) then none else some (tkN 8 ((r.extract 1 r.size).extract 0 (runS (r.extract 1 r.size))), runS (r.extract 1 r.size) + 1))
  else none
def oneR (r : ByteArray) : Option (Tk × Nat) :=
  match fixR r with
  | some x => some x
  | none => match varR r with
    | some x => x
    | none => match sglR r with
      | some x => some x
      | none => match atrR r with
        | some x => x
        | none => wordR r
theorem ext0_size (r : ByteArray) : (r.extract 0 (runS r)).size = runS r := by
  have := runS_le r
  rw [← bl_len, exl, List.drop_zero, List.length_take, bl_len]
  omega
theorem ext0_nil (r : ByteArray) : r.extract 0 (runS r) = ⟨#[]⟩ ↔ runS r = 0 := by
  have h := ext0_size r
  generalize runS r = n at *
  constructor
  · intro e
    rw [← h, e]
    rfl
  · intro e
    exact ByteArray.ext (Array.eq_empty_of_size_eq_zero (h.trans e))
set_option maxHeartbeats 2000000 in
theorem p_rone (r : ByteArray) (h0 : 0 < r.size) (hz : r.size ≤ 65536) : Pure Tryd.prog 101 [.v (.string r)] (gotT (oneR r)) := by
  refine enterW Tryd.func101 rfl rfl rfl rfl (fun σ => ?_)
  have k1 := p_rfixed r h0
  cases e1 : fixR r with
  | some x =>
    obtain ⟨t1, n1⟩ := x
    have hp := fixR_pos e1
    rw [e1] at k1
    dsimp only [gotT, Option.map, Option.getD] at k1 hp
    have hF : oneR r = some (t1, n1) := by simp [oneR, e1]
    rw [hF]
    repeat' (first|(first|(refine jl ?_;first|refine j1 ?_|refine j4 ?_|refine j13 (fun id hid=>?_)|refine j14 ?_|refine j17t ?_|refine j17 ?_|refine jp (k1) ?_)|(refine jc ?_;first|refine c1 ?_|refine c2 ?_|refine c7 ?_)|refine n2 ?_|refine n15 ?_)|(refine c9 (fun h=>?_) (fun h=>?_)<;>((try simp only [Bool.or_eq_true, Bool.and_eq_true, Bool.or_eq_false_iff, Bool.and_eq_false_iff, Bool.not_eq_true', Bool.not_eq_false', decide_eq_true_eq, decide_eq_false_iff_not, Bool.false_eq_true, Bool.true_eq_false, reduceCtorEq] at h) <;> (try simp (disch := omega) only [sb_bt, w64, Int.reduceAdd, Int.reduceToNat, Int.toNat_natCast, not_true_eq_false, false_or] at h) <;> (try (exfalso; omega)))))
    refine gives (by (try rw [St.set_set]); repeat' (first | exact St.le_refl _ | refine St.le_any ?_)) (Fin.refl _ _ _)
  | none =>
    rw [e1] at k1
    dsimp only [gotT, Option.map, Option.getD] at k1
    have k2 := p_rrun (r.extract 1 r.size) (by rw [Lib.ext_size]; omega)
    rw [show runL (r.extract 1 r.size).data.toList = runS (r.extract 1 r.size) from rfl] at k2
    have hn := runS_le (r.extract 1 r.size)
    rw [Lib.ext_size] at hn
    have hvz := ext0_size (r.extract 1 r.size)
    have hve := ext0_nil (r.extract 1 r.size)
    have hV := varR.eq_1 r
    have hA := atrR.eq_1 r
    generalize (r.extract 1 r.size).extract 0 (runS (r.extract 1 r.size)) = v at *
    generalize runS (r.extract 1 r.size) = n at *
    have hwr : IntKind.i64.wrap (1 + (v.size : Int)) = ((1 + n : Nat) : Int) := by rw [w64 (by omega) (by omega)]; omega
    repeat' (first|(first|(refine jl ?_;first|refine j8 ?_|refine jb ?_|refine j1 ?_|refine j4 ?_|refine j9 ?_|refine j13 (fun id hid=>?_)|refine j17t ?_|refine j17 ?_|refine j18 ?_|refine j21 ?_|refine jp (k1) ?_|refine jp (k2) ?_|refine jcq (hp:=fun hc=>p_rbegins _ _) ?_|refine jsq (b := IntKind.i64.wrap (1 + (v.size : Int))) (k := r.size) (s := r) (fun _ => by rw [hwr]; omega) ?_)|(refine jc ?_;first|refine c1 ?_|refine c2 ?_|refine c6 ?_|refine c7 ?_)|refine n1 ?_|refine n2 ?_|refine n15 ?_)|(refine c9 (fun h=>?_) (fun h=>?_)<;>((try simp only [Bool.or_eq_true, Bool.and_eq_true, Bool.or_eq_false_iff, Bool.and_eq_false_iff, Bool.not_eq_true', Bool.not_eq_false', decide_eq_true_eq, decide_eq_false_iff_not, Bool.false_eq_true, Bool.true_eq_false, reduceCtorEq] at h) <;> (try simp (disch := omega) only [sb_bt, w64, Int.reduceAdd, Int.reduceToNat, Int.toNat_natCast, not_true_eq_false, false_or] at h) <;> (try (exfalso; omega)))))
    · have h1 : (↑(bt r 0) = (60 : Int) ∧ ¬v = ⟨#[]⟩) ∧ hasPre (r.extract (1 + (v.size : Int)).toNat r.size) ⟨#[62]⟩ = true := by assumption
      rw [show (1 + (v.size : Int)).toNat = 1 + n by omega, hve] at h1
      rw [if_pos ⟨h1.1.1, h1.1.2, h1.2⟩, if_pos (by omega)] at hV
      have hF : oneR r = none := by simp [oneR, e1, hV]
      rw [hF]
      exact gives (by repeat' (first | exact St.le_refl _ | refine St.le_any ?_)) (Fin.refl _ _ _)
    · have h1 : (↑(bt r 0) = (60 : Int) ∧ ¬v = ⟨#[]⟩) ∧ hasPre (r.extract (1 + (v.size : Int)).toNat r.size) ⟨#[62]⟩ = true := by assumption
      rw [show (1 + (v.size : Int)).toNat = 1 + n by omega, hve] at h1
      rw [if_pos ⟨h1.1.1, h1.1.2, h1.2⟩, if_neg (by omega)] at hV
      have hF : oneR r = some (tkN 9 v, n + 2) := by simp [oneR, e1, hV]
      rw [hF, w64 (by omega) (by omega), show (v.size : Int) + 2 = ((n + 2 : Nat) : Int) by omega]
      exact gives (by repeat' (first | exact St.le_refl _ | refine St.le_any ?_)) (Fin.refl _ _ _)
    · rw [show (1 + (v.size : Int)).toNat = 1 + n by omega, hve] at h
      rw [if_neg (by rintro ⟨g1, g2, g3⟩; rcases h with (h | h) | h; exact h g1; exact g2 h; rw [h] at g3; cases g3)] at hV
      have k3 := p_rsingle r h0
      cases e2 : sglR r with
      | some x =>
        obtain ⟨t1, n1⟩ := x
        have hp := sglR_pos e2
        rw [e2] at k3
        dsimp only [gotT, Option.map, Option.getD] at k3 hp
        have hF : oneR r = some (t1, n1) := by simp [oneR, e1, hV, e2]
        rw [hF]
        repeat' (first|(first|(refine jl ?_;first|refine j1 ?_|refine j4 ?_|refine j14 ?_|refine j17t ?_|refine j17 ?_|refine jp (k3) ?_)|(refine jc ?_;first|refine c1 ?_|refine c2 ?_|refine c7 ?_)|refine n2 ?_|refine n15 ?_)|(refine c9 (fun h=>?_) (fun h=>?_)<;>((try simp only [Bool.or_eq_true, Bool.and_eq_true, Bool.or_eq_false_iff, Bool.and_eq_false_iff, Bool.not_eq_true', Bool.not_eq_false', decide_eq_true_eq, decide_eq_false_iff_not, Bool.false_eq_true, Bool.true_eq_false, reduceCtorEq] at h) <;> (try simp (disch := omega) only [sb_bt, w64, Int.reduceAdd, Int.reduceToNat, Int.toNat_natCast, not_true_eq_false, false_or] at h) <;> (try (exfalso; omega)))))
        refine gives (by repeat' (first | exact St.le_refl _ | refine St.le_any ?_)) (Fin.refl _ _ _)
      | none =>
        rw [e2] at k3
        dsimp only [gotT, Option.map, Option.getD] at k3
        have k4 := p_rrun r (by omega)
        rw [show runL r.data.toList = runS r from rfl] at k4
        have k5 := p_rparse (r.extract 0 (runS r)) (by rw [ext0_size]; have := runS_le r; omega)
        have hvz2 := ext0_size r
        have hle2 := runS_le r
        have hW := wordR.eq_1 r
        generalize r.extract 0 (runS r) = u at *
        generalize runS r = m at *
        repeat' (first|(first|(refine jl ?_;first|refine j7 ?_|refine jb ?_|refine j1 ?_|refine j4 ?_|refine j9 ?_|refine j13 (fun id hid=>?_)|refine j14 ?_|refine j17t ?_|refine j17 ?_|refine j18 ?_|refine jp (k3) ?_|refine jp (k4) ?_|refine jp (k5) ?_)|(refine jc ?_;first|refine c1 ?_|refine c2 ?_|refine c6 ?_|refine c7 ?_)|refine n1 ?_|refine n2 ?_|refine n15 ?_)|(refine c9 (fun h=>?_) (fun h=>?_)<;>((try simp only [Bool.or_eq_true, Bool.and_eq_true, Bool.or_eq_false_iff, Bool.and_eq_false_iff, Bool.not_eq_true', Bool.not_eq_false', decide_eq_true_eq, decide_eq_false_iff_not, Bool.false_eq_true, Bool.true_eq_false, reduceCtorEq] at h) <;> (try simp (disch := omega) only [sb_bt, w64, Int.reduceAdd, Int.reduceToNat, Int.toNat_natCast, not_true_eq_false, false_or] at h) <;> (try (exfalso; omega)))))
        · rw [hve] at h
          rw [if_pos (by assumption), if_pos (by rcases h with h | h; exact Or.inl h; exact Or.inr (by omega))] at hA
          have hF : oneR r = none := by simp [oneR, e1, hV, e2, hA]
          rw [hF]
          exact gives (by repeat' (first | exact St.le_refl _ | refine St.le_any ?_)) (Fin.refl _ _ _)
        · rw [hve] at h
          rw [if_pos (by assumption), if_neg (by rintro (g | g); exact h.1 g; exact h.2 (by omega))] at hA
          have hF : oneR r = some (tkN 8 v, n + 1) := by simp [oneR, e1, hV, e2, hA]
          rw [hF, w64 (by omega) (by omega), show (v.size : Int) + 1 = ((n + 1 : Nat) : Int) by omega]
          exact gives (by repeat' (first | exact St.le_refl _ | refine St.le_any ?_)) (Fin.refl _ _ _)
        · rw [if_neg (by assumption)] at hA hW
          have hF : oneR r = none := by simp [oneR, e1, hV, e2, hA, hW]
          rw [hF]
          exact gives (by repeat' (first | exact St.le_refl _ | refine St.le_any ?_)) (Fin.refl _ _ _)
        · rw [if_neg (by assumption)] at hA
          rw [if_pos (by assumption)] at hW
          have hF : oneR r = some (tkV ⟨(parseV u).1, (parseV u).2.1, (parseV u).2.2.1⟩, m) := by simp [oneR, e1, hV, e2, hA, hW]
          rw [hF, hvz2]
          exact gives (by repeat' (first | exact St.le_refl _ | refine St.le_any ?_)) (Fin.refl _ _ _)
end Go.Proofs.YtfaaokekgljnbaaDoor.Ab

/- The lexer: one token of both is one. -/
set_option linter.unusedVariables false
set_option linter.unusedSimpArgs false
set_option maxRecDepth 20000
namespace Go.Proofs.YtfaaokekgljnbaaDoor.Ab
open Go
theorem toNat_ne {x y : UInt8} : x = y ↔ x.toNat = y.toNat := UInt8.toNat_inj.symm
theorem pre1 {r : ByteArray} {x : UInt8} (h0 : 0 < r.size) : hasPre r ⟨#[x]⟩ = true ↔ bt r 0 = x.toNat := by
  rw [hasPre_iff]
  have := bl_len r
  unfold bt
  cases hl : r.data.toList with
  | nil => rw [hl] at this; simp at this; omega
  | cons a l =>
    show List.take 1 (a :: l) = [x] ↔ _
    simp [toNat_ne]
theorem pre2 {r : ByteArray} {x y : UInt8} (h0 : 0 < r.size) (hy : y.toNat ≠ 0) : hasPre r ⟨#[x, y]⟩ = true ↔ bt r 0 = x.toNat ∧ bt r 1 = y.toNat := by
  rw [hasPre_iff]
  have := bl_len r
  unfold bt
  cases hl : r.data.toList with
  | nil => rw [hl] at this; simp at this; omega
  | cons a l =>
    show List.take 2 (a :: l) = [x, y] ↔ _
    cases l with
    | nil => simp; intro _ h; exact hy h.symm
    | cons b l => simp [toNat_ne]
theorem pre3 {r : ByteArray} {x y z : UInt8} (h0 : 0 < r.size) (hy : y.toNat ≠ 0) (hz : z.toNat ≠ 0) : hasPre r ⟨#[x, y, z]⟩ = true ↔ bt r 0 = x.toNat ∧ bt r 1 = y.toNat ∧ bt r 2 = z.toNat := by
  rw [hasPre_iff]
  have := bl_len r
  unfold bt
  cases hl : r.data.toList with
  | nil => rw [hl] at this; simp at this; omega
  | cons a l =>
    show List.take 3 (a :: l) = [x, y, z] ↔ _
    cases l with
    | nil => simp; intro _ h; exact absurd h.symm hy
    | cons b l =>
      cases l with
      | nil => simp; intro _ _ h; exact hz h.symm
      | cons c l => simp [toNat_ne]
theorem predF2 (r : ByteArray) : predF r 2 = if hasPre r ⟨#[60, 62]⟩ = true then some (tkP 1, 2) else if hasPre r ⟨#[60, 61]⟩ = true then some (tkP 3, 2) else if hasPre r ⟨#[62, 61]⟩ = true then some (tkP 5, 2) else none := by
  simp [predF, predL, preds, ByteArray.size]
theorem predF1 (r : ByteArray) : predF r 1 = if hasPre r ⟨#[61]⟩ = true then some (tkP 0, 1) else if hasPre r ⟨#[60]⟩ = true then some (tkP 2, 1) else if hasPre r ⟨#[62]⟩ = true then some (tkP 4, 1) else none := by
  simp [predF, predL, preds, ByteArray.size]
theorem signF_eq (r : ByteArray) : signF r = if hasPre r ⟨#[40]⟩ = true then some (tkS 0, 1) else if hasPre r ⟨#[41]⟩ = true then some (tkS 1, 1) else if hasPre r ⟨#[123]⟩ = true then some (tkS 2, 1) else if hasPre r ⟨#[125]⟩ = true then some (tkS 3, 1) else if hasPre r ⟨#[60, 60]⟩ = true then some (tkS 4, 2) else if hasPre r ⟨#[62, 62]⟩ = true then some (tkS 5, 2) else if hasPre r ⟨#[45, 45, 62]⟩ = true then some (tkS 6, 3) else if hasPre r ⟨#[45, 40]⟩ = true then some (tkS 7, 1) else none := rfl
set_option maxHeartbeats 2000000 in
theorem fix_eq {r : ByteArray} (h0 : 0 < r.size) : (match signF r with | some x => some x | none => predF r 2) = fixR r := by
  rw [signF_eq, predF2]
  unfold fixR
  simp only [pre1 h0, pre2 h0 (show (60 : UInt8).toNat ≠ 0 by decide), pre2 h0 (show (62 : UInt8).toNat ≠ 0 by decide), pre2 h0 (show (40 : UInt8).toNat ≠ 0 by decide), pre2 h0 (show (61 : UInt8).toNat ≠ 0 by decide), pre3 h0 (show (45 : UInt8).toNat ≠ 0 by decide) (show (62 : UInt8).toNat ≠ 0 by decide)]
  simp only [UInt8.reduceToNat]
  generalize bt r 0 = b0
  generalize bt r 1 = b1
  generalize bt r 2 = b2
  have i1 : ((b0 : Nat) : Int) = 40 ↔ b0 = 40 := by omega
  have i2 : ((b0 : Nat) : Int) = 41 ↔ b0 = 41 := by omega
  have i3 : ((b0 : Nat) : Int) = 123 ↔ b0 = 123 := by omega
  have i4 : ((b0 : Nat) : Int) = 125 ↔ b0 = 125 := by omega
  simp only [i1, i2, i3, i4]
  clear i1 i2 i3 i4
  by_cases c1 : b0 = 40
  · subst c1; rfl
  by_cases c2 : b0 = 41
  · subst c2; rfl
  by_cases c3 : b0 = 123
  · subst c3; rfl
  by_cases c4 : b0 = 125
  · subst c4; rfl
  by_cases c5 : b0 = 60
  · subst c5
    by_cases d1 : b1 = 60
    · subst d1; rfl
    by_cases d2 : b1 = 61
    · subst d2; rfl
    by_cases d3 : b1 = 62
    · subst d3; rfl
    simp [d1, d2, d3]
  by_cases c6 : b0 = 62
  · subst c6
    by_cases d1 : b1 = 62
    · subst d1; rfl
    by_cases d2 : b1 = 61
    · subst d2; rfl
    simp [d1, d2]
  by_cases c7 : b0 = 45
  · subst c7
    by_cases d1 : b1 = 45
    · subst d1
      by_cases d2 : b2 = 62
      · subst d2; rfl
      simp [d2]
    by_cases d2 : b1 = 40
    · subst d2; simp
    simp [d1, d2]
  simp [c1, c2, c3, c4, c5, c6, c7]
theorem sgl_eq {r : ByteArray} (h0 : 0 < r.size) : predF r 1 = sglR r := by
  rw [predF1]
  unfold sglR
  simp only [pre1 h0]
  simp only [UInt8.reduceToNat]
  generalize bt r 0 = b0
  repeat' split
  all_goals first | rfl | (exfalso; omega)
theorem preN (r : ByteArray) : hasPre r ⟨#[]⟩ = true := by
  rw [hasPre_iff]
  rfl
theorem var_eq {r : ByteArray} (h0 : 0 < r.size) : (match varR r with | some x => (x, true) | none => (none, false)) = ((namedF 9 ⟨#[60]⟩ ⟨#[62]⟩ r).1, (namedF 9 ⟨#[60]⟩ ⟨#[62]⟩ r).1.isSome || (namedF 9 ⟨#[60]⟩ ⟨#[62]⟩ r).2) := by
  unfold namedF varR
  simp only [pre1 h0]
  have hsz : (⟨#[60]⟩ : ByteArray).size = 1 := rfl
  have hsy : (⟨#[62]⟩ : ByteArray).size = 1 := rfl
  rw [hsz, hsy, ext_in]
  simp only [UInt8.reduceToNat]
  generalize runS (r.extract 1 r.size) = n
  by_cases h1 : bt r 0 = 60
  · by_cases h2 : n = 0
    · subst h2; simp [h1]
    · cases h3 : hasPre (r.extract (1 + n) r.size) ⟨#[62]⟩
      · simp [h1, h2]
      · by_cases h4 : 24 < n
        · simp [h1, h2, h4]
        · simp [h1, h2, h4]; omega
  · have h1' : ¬ ((bt r 0 : Nat) : Int) = 60 := by omega
    simp [h1, h1']
theorem run_hat {r : ByteArray} (h0 : 0 < r.size) (h : bt r 0 = 94) : runS r = 0 := by
  unfold runS
  have := bl_len r
  unfold bt at h
  cases hl : r.data.toList with
  | nil => rfl
  | cons a l =>
    rw [hl] at h
    have ha : a.toNat = 94 := h
    rw [runL_step _ (by simp), Lib.decodeL_ascii a l (by omega), ha]
    rw [if_pos (Or.inr (by decide))]
theorem word_hat {r : ByteArray} (h0 : 0 < r.size) (h : bt r 0 = 94) : wordR r = none := by
  unfold wordR
  rw [run_hat h0 h, ext_zero, parse_nil]
  rfl
theorem atr_eq {r : ByteArray} (h0 : 0 < r.size) : (match atrR r with | some x => x | none => wordR r) = (match namedF 8 ⟨#[94]⟩ ⟨#[]⟩ r with | (some x, _) => some x | (none, true) => none | (none, false) => wordR r) := by
  unfold namedF atrR
  simp only [pre1 h0, preN]
  have hsz : (⟨#[94]⟩ : ByteArray).size = 1 := rfl
  have hsy : (⟨#[]⟩ : ByteArray).size = 0 := rfl
  rw [hsz, hsy, ext_in]
  simp only [UInt8.reduceToNat]
  by_cases h1 : bt r 0 = 94
  · rw [word_hat h0 h1]
    generalize runS (r.extract 1 r.size) = n
    by_cases h2 : n = 0
    · subst h2; simp [h1]
    · by_cases h4 : 24 < n
      · simp [h1, h2, h4]
      · simp [h1, h2, h4]; omega
  · have h1' : ¬ ((bt r 0 : Nat) : Int) = 94 := by omega
    simp [h1, h1']
theorem one_eq {r : ByteArray} (h0 : 0 < r.size) : oneR r = oneF r := by
  have hf := fix_eq h0
  have hs := sgl_eq h0
  have ha := atr_eq h0
  have hv := var_eq h0
  cases h1 : signF r with
  | some x =>
    rw [h1] at hf
    simp [oneR, oneF, h1, ← hf]
  | none =>
    rw [h1] at hf
    dsimp only at hf
    cases h2 : predF r 2 with
    | some x =>
      rw [h2] at hf
      simp [oneR, oneF, h1, h2, ← hf]
    | none =>
      rw [h2] at hf
      rcases h3 : namedF 9 ⟨#[60]⟩ ⟨#[62]⟩ r with ⟨_ | x, _ | _⟩ <;> rw [h3] at hv <;> cases h4 : varR r <;> rw [h4] at hv <;> simp at hv
      · cases h5 : predF r 1 with
        | some x =>
          rw [h5] at hs
          simp [oneR, oneF, h1, h2, h3, h4, h5, ← hf, ← hs]
        | none =>
          rw [h5] at hs
          rcases h6 : namedF 8 ⟨#[94]⟩ ⟨#[]⟩ r with ⟨_ | x, _ | _⟩ <;> rw [h6] at ha <;> cases h7 : atrR r <;> rw [h7] at ha <;> dsimp only at ha <;> simp [oneR, h7, oneF, h1, h2, h3, h4, h5, h6, ← hf, ← hs, ha]
      all_goals simp [oneR, oneF, h1, h2, h3, h4, ← hf, hv]
end Go.Proofs.YtfaaokekgljnbaaDoor.Ab

/- The lexer: the reference's Scan. -/
set_option linter.unusedVariables false
set_option linter.unusedSimpArgs false
set_option maxRecDepth 20000
namespace Go.Proofs.YtfaaokekgljnbaaDoor.Ab
open Go
attribute [local irreducible] thn inb endR CJ LJ OpJ DJ DA DB AllocK

theorem scanV_long {s : ByteArray} (hz : 16384 < s.size) : scanV s = ([], 0, 5) := by unfold scanV; rw [if_pos hz]
theorem scanV_all {s : ByteArray} {l : List Tk} (hz : ¬ 16384 < s.size) (h : scanR s (whL s.data.toList) = (l, none)) : scanV s = (l, 0, 0) := by
  unfold scanV
  rw [if_neg hz, h]
theorem scanV_bad {s : ByteArray} {l : List Tk} {a : Nat} (hz : ¬ 16384 < s.size) (h : scanR s (whL s.data.toList) = (l, some a)) : scanV s = (l, (a : Int), 16) := by
  unfold scanV
  rw [if_neg hz, h]
set_option maxHeartbeats 2000000 in
theorem p_rscan (s : ByteArray) : Pure Tryd.prog 69 [.v (.string s)] (.tup [.sl none false 7 ((scanV s).1.map tkc), .v (.int .i64 (scanV s).2.1), .v (.int .i64 (scanV s).2.2)]) := by
  refine enterW Tryd.func69 rfl rfl rfl rfl (fun σ => ?_)
  by_cases hz : 16384 < s.size
  · rw [scanV_long hz]
    repeat' (first|(first|(refine jl ?_;first|refine j1 ?_|refine j4 ?_)|(refine jc ?_;first|refine c1 ?_|refine c2 ?_|refine c7 ?_)|refine n2 ?_|refine n11 ?_)|(refine c9 (fun h=>?_) (fun h=>?_)<;>((try simp only [Bool.or_eq_true, Bool.and_eq_true, Bool.or_eq_false_iff, Bool.and_eq_false_iff, Bool.not_eq_true', Bool.not_eq_false', decide_eq_true_eq, decide_eq_false_iff_not, Bool.false_eq_true, Bool.true_eq_false, reduceCtorEq] at h) <;> (try simp (disch := omega) only [sb_bt, w64, Int.reduceAdd, Int.reduceToNat, Int.toNat_natCast, not_true_eq_false, false_or] at h) <;> (try (exfalso; omega)))))
    first | exact ge rfl | exact gvs (by (repeat' (first | exact finl_nil | apply finl_cons | exact Fin.refl _ _ _ | apply fin_pk2 | apply fin_pk3 | apply fin_agg | apply fin_tup | exact fin_nil | exact fin_sl rfl | exact fin_fz (by exact lkp) (by first | assumption | exact St.ns1 (by assumption) | exact St.ns2 (by assumption) | exact St.ns3 (by assumption) | exact St.ns4 (by assumption) | exact St.ns5 (by assumption) | exact St.ns6 (by assumption) | exact St.ns7 (by assumption) | exact St.ns8 (by assumption) | exact St.ns9 (by assumption) | exact St.ns10 (by assumption) | exact St.ns11 (by assumption) | exact St.ns12 (by assumption) | exact St.ns13 (by assumption) | exact St.ns14 (by assumption) | exact St.ns10 (by assumption) | exact St.ns11 (by assumption) | exact St.ns12 (by assumption) | exact St.ns13 (by assumption) | exact St.ns14 (by assumption)) (by first | exact rfl | assumption | (simp only [List.length_map, List.length_append, List.length_cons, List.length_nil]; done) | (simp only [List.length_map, List.length_append, List.length_cons, List.length_nil]; omega)) rfl (fun _ => rfl) | exact fin_eq rfl)))
  · have hlen := bl_len s
    have k0 := p_rwhite s (by omega)
    repeat' (first|(first|(refine jl ?_;first|refine j1 ?_|refine j4 ?_|refine jp (k0) ?_)|(refine jc ?_;first|refine c1 ?_|refine c2 ?_|refine c5 ?_|refine c6 ?_)|refine n1 ?_)|(refine c9 (fun h=>?_) (fun h=>?_)<;>((try simp only [Bool.or_eq_true, Bool.and_eq_true, Bool.or_eq_false_iff, Bool.and_eq_false_iff, Bool.not_eq_true', Bool.not_eq_false', decide_eq_true_eq, decide_eq_false_iff_not, Bool.false_eq_true, Bool.true_eq_false, reduceCtorEq] at h) <;> (try simp (disch := omega) only [sb_bt, w64, Int.reduceAdd, Int.reduceToNat, Int.toNat_natCast, not_true_eq_false, false_or] at h) <;> (try (exfalso; omega)))))
    refine cj_ghost (ghost_nil (t := 5) 7 122 rfl (fun w0 hw0 => ?_))
    have hwl : whL s.data.toList ≤ s.size := by rw [← hlen]; exact whG_le _ _
    refine cj_for (fun x : Nat × Nat × List Tk => x.1 ≤ s.size ∧ σ x.2.1 = none ∧ x.2.2.length ≤ x.1 ∧ x.2.2 ++ (scanR s x.1).1 = (scanR s (whL s.data.toList)).1 ∧ (scanR s x.1).2 = (scanR s (whL s.data.toList)).2) (fun x => [(6, .v (.int .i64 x.1)), (5, .osl x.2.1 7 0 x.2.2.length)]) (fun x => σ.set x.2.1 (.row 7 122 (x.2.2.map tkc))) (fun x => s.size - x.1) (whL s.data.toList, w0, []) ⟨hwl, hw0, Nat.zero_le _, rfl, rfl⟩ ⟨⟨_, rfl, fun _ _ h => h⟩, ⟨_, rfl, fun _ _ h => h⟩, trivial⟩ (St.le_refl _) (fun x hx => ?_)
    obtain ⟨a, w, acc⟩ := x
    obtain ⟨h1, hw, h3, h4, h5⟩ := hx
    dsimp only at h1 hw h3 h4 h5 ⊢
    by_cases hlt : a < s.size
    · have hez : (s.extract a s.size).size = s.size - a := Lib.ext_size ..
      have k1 := p_rone (s.extract a s.size) (by omega) (by omega)
      rw [one_eq (by omega)] at k1
      cases h6 : oneF (s.extract a s.size) with
      | none =>
        rw [scanR_bad hlt h6] at h4 h5
        rw [h6] at k1
        dsimp only [gotT, Option.map, Option.getD] at k1
        repeat' (first|(first|(refine jl ?_;first|refine j1 ?_|refine j4 ?_|refine j13 (fun id hid=>?_)|refine j17t ?_|refine j21 ?_|refine jp (k1) ?_)|(refine jc ?_;first|refine c1 ?_|refine c2 ?_|refine c5 ?_|refine c6 ?_|refine c7 ?_)|refine n1 ?_|refine n2 ?_|refine n5 ?_|refine n6 ?_|refine n11 ?_)|(refine c9 (fun h=>?_) (fun h=>?_)<;>((try simp only [Bool.or_eq_true, Bool.and_eq_true, Bool.or_eq_false_iff, Bool.and_eq_false_iff, Bool.not_eq_true', Bool.not_eq_false', decide_eq_true_eq, decide_eq_false_iff_not, Bool.false_eq_true, Bool.true_eq_false, reduceCtorEq] at h) <;> (try simp (disch := omega) only [sb_bt, w64, Int.reduceAdd, Int.reduceToNat, Int.toNat_natCast, not_true_eq_false, false_or] at h) <;> (try (exfalso; omega)))))
        have hR : scanR s (whL s.data.toList) = (acc, some a) := Prod.ext (by rw [← h4, List.append_nil]) h5.symm
        rw [scanV_bad hz hR]
        exact gvs (fin_three (fin_fz lkp hw (by rw [List.length_map]) rfl (fun _ => rfl)) (Fin.refl _ _ _) (Fin.refl _ _ _)) (St.le_any (St.le_any (St.le_refl _) hw) (St.ns1 hid))
      | some x =>
        obtain ⟨t, k⟩ := x
        have hp := oneF_pos h6
        rw [Lib.ext_size] at hp
        dsimp only at hp
        rw [scanR_one hlt h6] at h4 h5
        rw [h6] at k1
        dsimp only [gotT, Option.map, Option.getD] at k1 h4 h5
        repeat' (first|(first|(refine jl ?_;first|refine j1 ?_|refine j4 ?_|refine j13 (fun id hid=>?_)|refine j14 ?_|refine j17t ?_|refine j21 ?_|refine jp (k1) ?_|refine jlit ?_)|(refine jc ?_;first|refine c1 ?_|refine c2 ?_|refine c5 ?_|refine c6 ?_)|refine n1 ?_)|(refine c9 (fun h=>?_) (fun h=>?_)<;>((try simp only [Bool.or_eq_true, Bool.and_eq_true, Bool.or_eq_false_iff, Bool.and_eq_false_iff, Bool.not_eq_true', Bool.not_eq_false', decide_eq_true_eq, decide_eq_false_iff_not, Bool.false_eq_true, Bool.true_eq_false, reduceCtorEq] at h) <;> (try simp (disch := omega) only [sb_bt, w64, Int.reduceAdd, Int.reduceToNat, Int.toNat_natCast, not_true_eq_false, false_or] at h) <;> (try (exfalso; omega)))))
        have hn1 : (acc.map tkc).length = acc.length := List.length_map ..
        have hid1 := hid
        have k2 := p_rwhite (s.extract (a + k) s.size) (by rw [Lib.ext_size]; omega)
        rw [Lib.ext_list] at k2
        have hak : IntKind.i64.wrap ((a : Int) + (k : Int)) = ((a + k : Nat) : Int) := by rw [w64 (by omega) (by omega)]; omega
        refine japo (id := w) (els := acc.map tkc) (n := acc.length) (m := acc.length + 1) (news := [tkc { t with pl := a }]) (all := (acc ++ [{ t with pl := (a : Int) }]).map tkc) (fun w2 hw2 => ?_) (by rw [List.take_of_length_le (by omega), List.map_append]; rfl) rfl (hb := by dsimp only [List.length]; omega)
        repeat (first|(refine jl ?_;first|refine j1 ?_|refine j4 ?_|refine j21 ?_)|(refine jc ?_;first|refine c1 ?_|refine c2 ?_))
        rw [hak]
        repeat' (first|(first|(refine jl ?_;first|refine j1 ?_|refine j6 ?_|refine jp (k2) ?_)|refine n10 ?_))
        have hwb := whG_le false (s.data.toList.drop (a + k))
        rw [List.length_drop, hlen] at hwb
        have hwb' : whL (s.data.toList.drop (a + k)) ≤ s.size - (a + k) := hwb
        refine nx_forS (a + k + whL (s.data.toList.drop (a + k)), w2, acc ++ [{ t with pl := (a : Int) }]) ⟨by dsimp only; omega, St.ns2 hw2, ?_, ?_, h5⟩ (by dsimp only; omega) ⟨⟨_, rfl, Wk.of_eq (by dsimp only; rw [w64 (by omega) (by omega)]; rfl)⟩, ⟨_, rfl, Wk.of_eq (by dsimp only; rw [List.length_append]; rfl)⟩, trivial⟩ ?_
        · dsimp only
          rw [List.length_append, List.length_singleton]
          omega
        · dsimp only
          rw [List.append_assoc]
          exact h4
        · exact St.le_setk (St.le_any (St.le_del (St.le_any (St.le_any (St.le_refl _) hw) (St.ns1 hid1)) hw) (St.ns2 hw2)) (St.set_same _ _ _)
    · rw [scanR_end hlt] at h4 h5
      have hR : scanR s (whL s.data.toList) = (acc, none) := Prod.ext (by rw [← h4, List.append_nil]) h5.symm
      rw [scanV_all hz hR]
      repeat' (first|(first|(refine jl ?_;first|refine j1 ?_|refine j4 ?_)|(refine jc ?_;first|refine c1 ?_|refine c2 ?_|refine c7 ?_|refine c8 ?_)|refine n1 ?_|refine n3 ?_|refine n7 ?_|refine n8 ?_|refine n11 ?_)|(refine c9 (fun h=>?_) (fun h=>?_)<;>((try simp only [Bool.or_eq_true, Bool.and_eq_true, Bool.or_eq_false_iff, Bool.and_eq_false_iff, Bool.not_eq_true', Bool.not_eq_false', decide_eq_true_eq, decide_eq_false_iff_not, Bool.false_eq_true, Bool.true_eq_false, reduceCtorEq] at h) <;> (try simp (disch := omega) only [sb_bt, w64, Int.reduceAdd, Int.reduceToNat, Int.toNat_natCast, not_true_eq_false, false_or] at h) <;> (try (exfalso; omega)))))
      exact gvs (fin_three (fin_fz lkp hw (by rw [List.length_map]) rfl (fun _ => rfl)) (Fin.refl _ _ _) (Fin.refl _ _ _)) (St.le_any (St.le_refl _) hw)
end Go.Proofs.YtfaaokekgljnbaaDoor.Ab

/- The lexer: a token's text. -/
set_option linter.unusedVariables false
set_option linter.unusedSimpArgs false
set_option maxRecDepth 20000
namespace Go.Proofs.YtfaaokekgljnbaaDoor.Ab
open Go
attribute [local irreducible] thn inb endR CJ LJ OpJ DJ DA DB AllocK

def textT (t : Tk) : ByteArray :=
  if t.k = 0 then ⟨#[40]⟩ else if t.k = 1 then ⟨#[41]⟩ else if t.k = 2 then ⟨#[123]⟩ else if t.k = 3 then ⟨#[125]⟩ else if t.k = 4 then ⟨#[60, 60]⟩ else if t.k = 5 then ⟨#[62, 62]⟩ else if t.k = 6 then ⟨#[45, 45, 62]⟩ else if t.k = 7 then ⟨#[45]⟩
  else if t.k = 8 then ⟨#[94]⟩ ++ t.nm else if t.k = 9 then ⟨#[60]⟩ ++ t.nm ++ ⟨#[62]⟩ else if t.k = 10 then signS t.p else if t.k = 11 then textV t.v.k t.v.n t.v.s else ⟨#[]⟩
set_option maxHeartbeats 1000000 in
theorem p_textT (t : Tk) (hk : 0 ≤ t.k ∧ t.k < 256) (hp : 0 ≤ t.p ∧ t.p < 256) (hn : t.nm.size ≤ 1000000) : Pure Tryd.prog 17 [.agg (tkc t)] (.v (.string (textT t))) := by
  refine enterW Tryd.func17 rfl rfl rfl rfl (fun σ => ?_)
  obtain ⟨tk, tn, tp, ⟨vk, vn, vs⟩, tl⟩ := t
  dsimp only at hk hp hn
  have k1 := p_textv vk vn vs
  have k2 := p_signv tp hp.1 hp.2
  repeat' (first|(first|(refine jl ?_;first|refine j1 ?_|refine j4 ?_|refine j12 (fun id hid=>?_)|refine j14 ?_|refine j25 ?_|refine jp (k1) ?_|refine jp (k2) ?_)|(refine jc ?_;first|refine c1 ?_|refine c2 ?_|refine c5 ?_|refine c6 ?_|refine c7 ?_)|refine n1 ?_|refine n2 ?_|refine n6 ?_|refine n10 ?_|refine n11 ?_)|(refine c9 (fun h=>?_) (fun h=>?_)<;>((try simp only [Bool.or_eq_true, Bool.and_eq_true, Bool.or_eq_false_iff, Bool.and_eq_false_iff, Bool.not_eq_true', Bool.not_eq_false', decide_eq_true_eq, decide_eq_false_iff_not, Bool.false_eq_true, Bool.true_eq_false, reduceCtorEq] at h) <;> (try simp (disch := omega) only [sb_bt, w64, Int.reduceAdd, Int.reduceToNat, Int.toNat_natCast, not_true_eq_false, false_or] at h) <;> (try (exfalso; omega)))))
  iterate 4
    · refine gives (by repeat' (first | exact St.le_refl _ | refine St.le_any ?_)) (fin_one (.wk (Wk.of_eq ?_)))
      unfold textT
      dsimp only
      repeat first | rw [if_pos (by assumption)] | rw [if_neg (by omega)]
  · have hw : IntKind.i64.wrap tk = tk := w64 (by omega) (by omega)
    refine lj_v rfl (fun R hR => opj_build_arr (n := 8) rfl rfl rfl rfl rfl rfl hR) ?_
    repeat (first|(refine jl ?_;first|refine j1 ?_|refine j4 ?_|refine j13 (fun id hid=>?_)|refine j14 ?_|refine j17t ?_)|(refine jc ?_;first|refine c1 ?_|refine c2 ?_))
    rw [hw]
    repeat' (first|(first|(refine jl ?_;first|refine j1 ?_|refine j4 ?_|refine j14 ?_|refine ji6 ?_)|(refine jc ?_;first|refine c1 ?_|refine c2 ?_|refine c6 ?_|refine c7 ?_)|refine n1 ?_|refine n2 ?_|refine n11 ?_)|(refine c9 (fun h=>?_) (fun h=>?_)<;>((try simp only [Bool.or_eq_true, Bool.and_eq_true, Bool.or_eq_false_iff, Bool.and_eq_false_iff, Bool.not_eq_true', Bool.not_eq_false', decide_eq_true_eq, decide_eq_false_iff_not, Bool.false_eq_true, Bool.true_eq_false, reduceCtorEq] at h) <;> (try simp (disch := omega) only [sb_bt, w64, Int.reduceAdd, Int.reduceToNat, Int.toNat_natCast, not_true_eq_false, false_or] at h) <;> (try (exfalso; omega)))))
    · refine gives (by repeat' (first | exact St.le_refl _ | refine St.le_any ?_)) (fin_one (.wk (Wk.of_eq ?_)))
      unfold textT
      dsimp only
      repeat rw [if_neg (by omega)]
    · have h8 : tk = 0 ∨ tk = 1 ∨ tk = 2 ∨ tk = 3 ∨ tk = 4 ∨ tk = 5 ∨ tk = 6 ∨ tk = 7 := by omega
      rcases h8 with rfl | rfl | rfl | rfl | rfl | rfl | rfl | rfl
      all_goals
        repeat (first|(refine jl ?_;first|refine j1 ?_|refine j4 ?_|refine j14 ?_)|(refine jc ?_;first|refine c7 ?_)|refine n11 ?_)
        exact gives (by repeat' (first | exact St.le_refl _ | refine St.le_any ?_)) (fin_one (.wk (Wk.of_eq rfl)))
end Go.Proofs.YtfaaokekgljnbaaDoor.Ab

/- Law 14: awake, LexScans, LexTexts. -/
set_option linter.unusedVariables false
set_option linter.unusedSimpArgs false
set_option maxRecDepth 20000
namespace Go.Proofs.YtfaaokekgljnbaaDoor.Ab
open Go
attribute [local irreducible] thn inb endR CJ LJ OpJ DJ DA DB AllocK

def lit14a : ByteArray := ⟨#[40, 97, 32, 94, 98, 32, 60, 120, 62, 32, 62, 32, 53, 41, 32, 45, 40, 99, 41, 32, 59, 32, 100]⟩
def lit14b : ByteArray := ⟨#[97, 98, 32, 0]⟩
def ofA (k : Int) (nm : ByteArray) (p : Int) (v : Vl) (pl : Int) : Tk := ⟨k, nm, p, v, pl⟩
def toks14 : List Tk := [⟨0, ⟨#[]⟩, 0, ⟨0, 0, ⟨#[]⟩⟩, 0⟩, ⟨11, ⟨#[]⟩, 0, ⟨2, 0, ⟨#[97]⟩⟩, 1⟩, ⟨8, ⟨#[98]⟩, 0, ⟨0, 0, ⟨#[]⟩⟩, 3⟩, ⟨9, ⟨#[120]⟩, 0, ⟨0, 0, ⟨#[]⟩⟩, 6⟩, ⟨10, ⟨#[]⟩, 4, ⟨0, 0, ⟨#[]⟩⟩, 10⟩, ⟨11, ⟨#[]⟩, 0, ⟨1, 5, ⟨#[]⟩⟩, 12⟩, ⟨1, ⟨#[]⟩, 0, ⟨0, 0, ⟨#[]⟩⟩, 13⟩, ⟨7, ⟨#[]⟩, 0, ⟨0, 0, ⟨#[]⟩⟩, 15⟩, ⟨0, ⟨#[]⟩, 0, ⟨0, 0, ⟨#[]⟩⟩, 16⟩, ⟨11, ⟨#[]⟩, 0, ⟨2, 0, ⟨#[99]⟩⟩, 17⟩, ⟨1, ⟨#[]⟩, 0, ⟨0, 0, ⟨#[]⟩⟩, 18⟩]
theorem scan14a : scanV lit14a = (toks14, 0, 0) := by kernel_rfl
theorem scan14b : scanV lit14b = ([⟨11, ⟨#[]⟩, 0, ⟨2, 0, ⟨#[97, 98]⟩⟩, 0⟩], 3, 16) := by kernel_rfl
set_option maxHeartbeats 2000000 in
theorem p_awake14 : Pure Tryd.prog 15 [] (.v (.bool true)) := by
  refine enterW Tryd.func15 rfl rfl rfl rfl (fun σ => ?_)
  have k1 := p_scan lit14a
  rw [scan14a] at k1
  have k2 := p_scan lit14b
  rw [scan14b] at k2
  have k3 := p_textT ⟨9, ⟨#[120]⟩, 0, ⟨0, 0, ⟨#[]⟩⟩, 6⟩ (by decide) (by decide) (by decide)
  repeat' (first|(first|(refine jl ?_;first|refine j8 ?_|refine jtf ?_|refine j1 ?_|refine j4 ?_|refine j9 ?_|refine ji3 ?_|refine jp (k1) ?_|refine jp (k2) ?_|refine jcq (hp:=fun hc=>k3) ?_)|(refine jc ?_;first|refine c1 ?_|refine c2 ?_|refine c7 ?_)|refine n11 ?_))
  refine ge (congrArg (fun b => AV.v (Value.bool b)) ?_)
  decide +kernel
/-! ### What tokens are -/
def okT (t : Tk) : Prop := (0 ≤ t.k ∧ t.k < 256) ∧ (0 ≤ t.p ∧ t.p < 256) ∧ t.nm.size ≤ 24 ∧ t.v.s.size ≤ 24
theorem ok_sign {r : ByteArray} {x : Tk × Nat} : ∀ (ps : List ByteArray) (k : Nat), k + ps.length ≤ 7 → signL r k ps = some x → okT x.1
  | [], k, hk, h => by
    unfold signL at h
    split at h
    · cases h; exact ⟨by decide, by decide, by decide, by decide⟩
    · cases h
  | p :: ps, k, hk, h => by
    rw [List.length_cons] at hk
    unfold signL at h
    split at h
    · cases h; exact ⟨⟨by show (0 : Int) ≤ (k : Int); omega, by show (k : Int) < 256; omega⟩, (by show (0 : Int) ≤ 0 ∧ (0 : Int) < 256; omega), by show (0 : Nat) ≤ 24; omega, by show (0 : Nat) ≤ 24; omega⟩
    · exact ok_sign ps (k + 1) (by omega) h
theorem ok_pred {r : ByteArray} {n : Nat} {x : Tk × Nat} : ∀ (ps : List ByteArray) (k : Nat), k + ps.length ≤ 6 → predL r n k ps = some x → okT x.1
  | [], k, hk, h => by cases h
  | p :: ps, k, hk, h => by
    rw [List.length_cons] at hk
    unfold predL at h
    split at h
    · cases h; exact ⟨by show (0 : Int) ≤ 10 ∧ (10 : Int) < 256; omega, ⟨by show (0 : Int) ≤ (k : Int); omega, by show (k : Int) < 256; omega⟩, by show (0 : Nat) ≤ 24; omega, by show (0 : Nat) ≤ 24; omega⟩
    · exact ok_pred ps (k + 1) (by omega) h
theorem ok_named {k : Int} {op cl r : ByteArray} {x : Tk × Nat} {b : Bool} (hk : 0 ≤ k ∧ k < 256) (h : namedF k op cl r = (some x, b)) : okT x.1 := by
  unfold namedF at h
  split at h
  · split at h
    · cases h
    · split at h
      · cases h
      · cases h
        rename_i h3
        refine ⟨hk, by show (0 : Int) ≤ 0 ∧ (0 : Int) < 256; omega, ?_, by show (0 : Nat) ≤ 24; omega⟩
        show (r.extract op.size (op.size + runS (r.extract op.size r.size))).size ≤ 24
        rw [← bl_len, exl, List.length_drop, List.length_take]
        omega
  · cases h
theorem parse_ok (s : ByteArray) : (0 ≤ (parseV s).1 ∧ (parseV s).1 < 256) ∧ (parseV s).2.2.1.size ≤ 24 := by
  unfold parseV
  repeat' split
  all_goals first | exact ⟨by decide, by decide⟩ | skip
  · rename_i h _ _
    exact ⟨by show (0 : Int) ≤ 2 ∧ (2 : Int) < 256; omega, wordB_size (by simpa using h)⟩
  all_goals exact ⟨by show (0 : Int) ≤ 1 ∧ (1 : Int) < 256; omega, by show (0 : Nat) ≤ 24; omega⟩
theorem ok_word {r : ByteArray} {x : Tk × Nat} (h : wordR r = some x) : okT x.1 := by
  unfold wordR at h
  split at h
  · cases h
    exact ⟨by show (0 : Int) ≤ 11 ∧ (11 : Int) < 256; omega, by show (0 : Int) ≤ 0 ∧ (0 : Int) < 256; omega, by show (0 : Nat) ≤ 24; omega, (parse_ok _).2⟩
  · cases h
theorem ok_one {r : ByteArray} {x : Tk × Nat} (h : oneF r = some x) : okT x.1 := by
  unfold oneF at h
  split at h
  · rename_i h1; cases h; exact ok_sign signs 0 (by decide) h1
  · split at h
    · rename_i h1; cases h; exact ok_pred preds 0 (by decide) h1
    · split at h
      · rename_i h1; cases h; exact ok_named (by decide) h1
      · cases h
      · split at h
        · rename_i h1; cases h; exact ok_pred preds 0 (by decide) h1
        · split at h
          · rename_i h1; cases h; exact ok_named (by decide) h1
          · cases h
          · exact ok_word h
theorem ok_scanA {s : ByteArray} : ∀ (n a : Nat), ∀ t ∈ (scanA s n a).1, okT t
  | 0, a, t, h => by cases h
  | n + 1, a, t, h => by
    unfold scanA at h
    split at h
    · cases h1 : oneF (s.extract a s.size) with
      | none => rw [h1] at h; cases h
      | some x =>
        obtain ⟨u, k⟩ := x
        rw [h1] at h
        rcases List.mem_cons.1 h with rfl | h
        · exact ok_one h1
        · exact ok_scanA n _ t h
    · cases h
theorem ok_scan {s : ByteArray} : ∀ t ∈ (scanV s).1, okT t := fun t h => by
  by_cases hz : 16384 < s.size
  · rw [scanV_long hz] at h; cases h
  · cases hR : scanR s (whL s.data.toList) with
    | mk l o =>
      have hl : ∀ t ∈ l, okT t := by
        have := @ok_scanA s (s.size - whL s.data.toList) (whL s.data.toList)
        unfold scanR at hR
        rw [hR] at this
        exact this
      cases o with
      | none => rw [scanV_all hz hR] at h; exact hl t h
      | some a => rw [scanV_bad hz hR] at h; exact hl t h
theorem scanA_len {s : ByteArray} : ∀ (n a : Nat), (scanA s n a).1.length ≤ n
  | 0, a => Nat.le_refl _
  | n + 1, a => by
    unfold scanA
    split
    · cases h1 : oneF (s.extract a s.size) with
      | none => exact Nat.zero_le _
      | some x =>
        obtain ⟨u, k⟩ := x
        dsimp only
        rw [List.length_cons]
        exact Nat.succ_le_succ (scanA_len n _)
    · exact Nat.zero_le _
theorem scan_len {s : ByteArray} : (scanV s).1.length ≤ 16384 := by
  by_cases hz : 16384 < s.size
  · rw [scanV_long hz]; exact Nat.zero_le _
  · cases hR : scanR s (whL s.data.toList) with
    | mk l o =>
      have hl : l.length ≤ 16384 := by
        have := @scanA_len s (s.size - whL s.data.toList) (whL s.data.toList)
        unfold scanR at hR
        rw [hR] at this
        dsimp only at this
        omega
      cases o with
      | none => rw [scanV_all hz hR]; exact hl
      | some a => rw [scanV_bad hz hR]; exact hl
/-! ### The laws -/
end Go.Proofs.YtfaaokekgljnbaaDoor.Ab
