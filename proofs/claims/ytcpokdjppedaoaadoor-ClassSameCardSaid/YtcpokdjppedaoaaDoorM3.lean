/- The texts AbW, AbX, AbY, AbL, AbM, one behind the other. -/
import Derived.Test.YtcpokdjppedaoaaDoorM1
import Derived.Test.YtcpokdjppedaoaaDoorM2
import Derived.LoopN
/- Abstract values over the model's memory: the walk's steps under short names. -/
set_option linter.unusedVariables false
set_option linter.unusedSimpArgs false
set_option maxRecDepth 20000
namespace Go.Proofs.YtcpokdjppedaoaaDoor.Ab
open Go
def bt (s : ByteArray) (i : Nat) : Nat := (s.data.toList.getD i 0).toNat
theorem bt_lt (s : ByteArray) (i : Nat) : bt s i < 256 := UInt8.toNat_lt _
theorem sb_bt (s : ByteArray) (n : Int) : sb s n = (bt s n.toNat : Int) := rfl
theorem St.none_set {σ : St} {a b : Nat} {o : AObj} (h : (σ.set a o) b = none) : σ b = none := by
  by_cases e : b = a
  · subst e; rw [St.set_same] at h; cases h
  · rwa [St.set_ne _ _ _ e] at h
theorem St.ne_of_none {σ : St} {a b : Nat} {o : AObj} (h : (σ.set a o) b = none) : a ≠ b := fun e => by subst e; rw [St.set_same] at h; cases h
theorem St.ne_ns {σ : St} {x y : Nat} (hx : σ x = none) (h : σ y ≠ none) : y ≠ x := fun e => h (by rw [e, hx])
theorem St.sn_of {σ : St} {y : Nat} {o : AObj} (h : σ y = some o) : σ y ≠ none := fun e => by rw [e] at h; cases h
theorem St.setn {σ : St} {y a : Nat} {o : AObj} (h : σ y ≠ none) : σ.set a o y ≠ none := fun e => by
  by_cases hy : y = a
  · subst hy; rw [St.set_same] at e; cases e
  · rw [St.set_ne _ _ _ hy] at e; exact h e
theorem St.nn0 {σ : St} {a b : Nat} {o : AObj}  (h : (σ.set a o) b = none) : a ≠ b := St.ne_of_none h
theorem St.nn1 {σ : St} {a b : Nat} {o : AObj} {a0 : Nat} {o0 : AObj} (h : ((σ.set a o).set a0 o0) b = none) : a ≠ b := St.ne_of_none (St.none_set h)
theorem St.nn2 {σ : St} {a b : Nat} {o : AObj} {a0 : Nat} {o0 : AObj} {a1 : Nat} {o1 : AObj} (h : (((σ.set a o).set a0 o0).set a1 o1) b = none) : a ≠ b := St.ne_of_none (St.none_set (St.none_set h))
theorem St.nn3 {σ : St} {a b : Nat} {o : AObj} {a0 : Nat} {o0 : AObj} {a1 : Nat} {o1 : AObj} {a2 : Nat} {o2 : AObj} (h : ((((σ.set a o).set a0 o0).set a1 o1).set a2 o2) b = none) : a ≠ b := St.ne_of_none (St.none_set (St.none_set (St.none_set h)))
theorem St.nn4 {σ : St} {a b : Nat} {o : AObj} {a0 : Nat} {o0 : AObj} {a1 : Nat} {o1 : AObj} {a2 : Nat} {o2 : AObj} {a3 : Nat} {o3 : AObj} (h : (((((σ.set a o).set a0 o0).set a1 o1).set a2 o2).set a3 o3) b = none) : a ≠ b := St.ne_of_none (St.none_set (St.none_set (St.none_set (St.none_set h))))
theorem St.nn5 {σ : St} {a b : Nat} {o : AObj} {a0 : Nat} {o0 : AObj} {a1 : Nat} {o1 : AObj} {a2 : Nat} {o2 : AObj} {a3 : Nat} {o3 : AObj} {a4 : Nat} {o4 : AObj} (h : ((((((σ.set a o).set a0 o0).set a1 o1).set a2 o2).set a3 o3).set a4 o4) b = none) : a ≠ b := St.ne_of_none (St.none_set (St.none_set (St.none_set (St.none_set (St.none_set h)))))
theorem St.nn6 {σ : St} {a b : Nat} {o : AObj} {a0 : Nat} {o0 : AObj} {a1 : Nat} {o1 : AObj} {a2 : Nat} {o2 : AObj} {a3 : Nat} {o3 : AObj} {a4 : Nat} {o4 : AObj} {a5 : Nat} {o5 : AObj} (h : (((((((σ.set a o).set a0 o0).set a1 o1).set a2 o2).set a3 o3).set a4 o4).set a5 o5) b = none) : a ≠ b := St.ne_of_none (St.none_set (St.none_set (St.none_set (St.none_set (St.none_set (St.none_set h))))))
theorem St.nn7 {σ : St} {a b : Nat} {o : AObj} {a0 : Nat} {o0 : AObj} {a1 : Nat} {o1 : AObj} {a2 : Nat} {o2 : AObj} {a3 : Nat} {o3 : AObj} {a4 : Nat} {o4 : AObj} {a5 : Nat} {o5 : AObj} {a6 : Nat} {o6 : AObj} (h : ((((((((σ.set a o).set a0 o0).set a1 o1).set a2 o2).set a3 o3).set a4 o4).set a5 o5).set a6 o6) b = none) : a ≠ b := St.ne_of_none (St.none_set (St.none_set (St.none_set (St.none_set (St.none_set (St.none_set (St.none_set h)))))))
theorem St.nn8 {σ : St} {a b : Nat} {o : AObj} {a0 : Nat} {o0 : AObj} {a1 : Nat} {o1 : AObj} {a2 : Nat} {o2 : AObj} {a3 : Nat} {o3 : AObj} {a4 : Nat} {o4 : AObj} {a5 : Nat} {o5 : AObj} {a6 : Nat} {o6 : AObj} {a7 : Nat} {o7 : AObj} (h : (((((((((σ.set a o).set a0 o0).set a1 o1).set a2 o2).set a3 o3).set a4 o4).set a5 o5).set a6 o6).set a7 o7) b = none) : a ≠ b := St.ne_of_none (St.none_set (St.none_set (St.none_set (St.none_set (St.none_set (St.none_set (St.none_set (St.none_set h))))))))
theorem St.ns1 {σ : St} {b : Nat} {a0 : Nat} {o0 : AObj} (h : (σ.set a0 o0) b = none) : σ b = none := (St.none_set h)
theorem St.ns2 {σ : St} {b : Nat} {a0 : Nat} {o0 : AObj} {a1 : Nat} {o1 : AObj} (h : ((σ.set a0 o0).set a1 o1) b = none) : σ b = none := (St.none_set (St.none_set h))
theorem St.ns3 {σ : St} {b : Nat} {a0 : Nat} {o0 : AObj} {a1 : Nat} {o1 : AObj} {a2 : Nat} {o2 : AObj} (h : (((σ.set a0 o0).set a1 o1).set a2 o2) b = none) : σ b = none := (St.none_set (St.none_set (St.none_set h)))
theorem St.ns4 {σ : St} {b : Nat} {a0 : Nat} {o0 : AObj} {a1 : Nat} {o1 : AObj} {a2 : Nat} {o2 : AObj} {a3 : Nat} {o3 : AObj} (h : ((((σ.set a0 o0).set a1 o1).set a2 o2).set a3 o3) b = none) : σ b = none := (St.none_set (St.none_set (St.none_set (St.none_set h))))
theorem St.ns5 {σ : St} {b : Nat} {a0 : Nat} {o0 : AObj} {a1 : Nat} {o1 : AObj} {a2 : Nat} {o2 : AObj} {a3 : Nat} {o3 : AObj} {a4 : Nat} {o4 : AObj} (h : (((((σ.set a0 o0).set a1 o1).set a2 o2).set a3 o3).set a4 o4) b = none) : σ b = none := (St.none_set (St.none_set (St.none_set (St.none_set (St.none_set h)))))
theorem St.ns6 {σ : St} {b : Nat} {a0 : Nat} {o0 : AObj} {a1 : Nat} {o1 : AObj} {a2 : Nat} {o2 : AObj} {a3 : Nat} {o3 : AObj} {a4 : Nat} {o4 : AObj} {a5 : Nat} {o5 : AObj} (h : ((((((σ.set a0 o0).set a1 o1).set a2 o2).set a3 o3).set a4 o4).set a5 o5) b = none) : σ b = none := (St.none_set (St.none_set (St.none_set (St.none_set (St.none_set (St.none_set h))))))
theorem St.ns7 {σ : St} {b : Nat} {a0 : Nat} {o0 : AObj} {a1 : Nat} {o1 : AObj} {a2 : Nat} {o2 : AObj} {a3 : Nat} {o3 : AObj} {a4 : Nat} {o4 : AObj} {a5 : Nat} {o5 : AObj} {a6 : Nat} {o6 : AObj} (h : (((((((σ.set a0 o0).set a1 o1).set a2 o2).set a3 o3).set a4 o4).set a5 o5).set a6 o6) b = none) : σ b = none := (St.none_set (St.none_set (St.none_set (St.none_set (St.none_set (St.none_set (St.none_set h)))))))
theorem St.ns8 {σ : St} {b : Nat} {a0 : Nat} {o0 : AObj} {a1 : Nat} {o1 : AObj} {a2 : Nat} {o2 : AObj} {a3 : Nat} {o3 : AObj} {a4 : Nat} {o4 : AObj} {a5 : Nat} {o5 : AObj} {a6 : Nat} {o6 : AObj} {a7 : Nat} {o7 : AObj} (h : ((((((((σ.set a0 o0).set a1 o1).set a2 o2).set a3 o3).set a4 o4).set a5 o5).set a6 o6).set a7 o7) b = none) : σ b = none := (St.none_set (St.none_set (St.none_set (St.none_set (St.none_set (St.none_set (St.none_set (St.none_set h))))))))
theorem St.ns9 {σ : St} {b : Nat} {a0 : Nat} {o0 : AObj} {a1 : Nat} {o1 : AObj} {a2 : Nat} {o2 : AObj} {a3 : Nat} {o3 : AObj} {a4 : Nat} {o4 : AObj} {a5 : Nat} {o5 : AObj} {a6 : Nat} {o6 : AObj} {a7 : Nat} {o7 : AObj} {a8 : Nat} {o8 : AObj} (h : (((((((((σ.set a0 o0).set a1 o1).set a2 o2).set a3 o3).set a4 o4).set a5 o5).set a6 o6).set a7 o7).set a8 o8) b = none) : σ b = none := (St.none_set (St.none_set (St.none_set (St.none_set (St.none_set (St.none_set (St.none_set (St.none_set (St.none_set h)))))))))
theorem St.nn9 {σ : St} {a b : Nat} {o : AObj} {a0 : Nat} {o0 : AObj} {a1 : Nat} {o1 : AObj} {a2 : Nat} {o2 : AObj} {a3 : Nat} {o3 : AObj} {a4 : Nat} {o4 : AObj} {a5 : Nat} {o5 : AObj} {a6 : Nat} {o6 : AObj} {a7 : Nat} {o7 : AObj} {a8 : Nat} {o8 : AObj} (h : ((((((((((σ.set a o).set a0 o0).set a1 o1).set a2 o2).set a3 o3).set a4 o4).set a5 o5).set a6 o6).set a7 o7).set a8 o8) b = none) : a ≠ b := St.ne_of_none (St.none_set (St.none_set (St.none_set (St.none_set (St.none_set (St.none_set (St.none_set (St.none_set (St.none_set h)))))))))
theorem St.nn10 {σ : St} {a b : Nat} {o : AObj} {a0 : Nat} {o0 : AObj} {a1 : Nat} {o1 : AObj} {a2 : Nat} {o2 : AObj} {a3 : Nat} {o3 : AObj} {a4 : Nat} {o4 : AObj} {a5 : Nat} {o5 : AObj} {a6 : Nat} {o6 : AObj} {a7 : Nat} {o7 : AObj} {a8 : Nat} {o8 : AObj} {a9 : Nat} {o9 : AObj} (h : (((((((((((σ.set a o).set a0 o0).set a1 o1).set a2 o2).set a3 o3).set a4 o4).set a5 o5).set a6 o6).set a7 o7).set a8 o8).set a9 o9) b = none) : a ≠ b := St.ne_of_none (St.none_set (St.none_set (St.none_set (St.none_set (St.none_set (St.none_set (St.none_set (St.none_set (St.none_set (St.none_set h))))))))))
theorem St.nn11 {σ : St} {a b : Nat} {o : AObj} {a0 : Nat} {o0 : AObj} {a1 : Nat} {o1 : AObj} {a2 : Nat} {o2 : AObj} {a3 : Nat} {o3 : AObj} {a4 : Nat} {o4 : AObj} {a5 : Nat} {o5 : AObj} {a6 : Nat} {o6 : AObj} {a7 : Nat} {o7 : AObj} {a8 : Nat} {o8 : AObj} {a9 : Nat} {o9 : AObj} {a10 : Nat} {o10 : AObj} (h : ((((((((((((σ.set a o).set a0 o0).set a1 o1).set a2 o2).set a3 o3).set a4 o4).set a5 o5).set a6 o6).set a7 o7).set a8 o8).set a9 o9).set a10 o10) b = none) : a ≠ b := St.ne_of_none (St.none_set (St.none_set (St.none_set (St.none_set (St.none_set (St.none_set (St.none_set (St.none_set (St.none_set (St.none_set (St.none_set h)))))))))))
theorem St.nn12 {σ : St} {a b : Nat} {o : AObj} {a0 : Nat} {o0 : AObj} {a1 : Nat} {o1 : AObj} {a2 : Nat} {o2 : AObj} {a3 : Nat} {o3 : AObj} {a4 : Nat} {o4 : AObj} {a5 : Nat} {o5 : AObj} {a6 : Nat} {o6 : AObj} {a7 : Nat} {o7 : AObj} {a8 : Nat} {o8 : AObj} {a9 : Nat} {o9 : AObj} {a10 : Nat} {o10 : AObj} {a11 : Nat} {o11 : AObj} (h : (((((((((((((σ.set a o).set a0 o0).set a1 o1).set a2 o2).set a3 o3).set a4 o4).set a5 o5).set a6 o6).set a7 o7).set a8 o8).set a9 o9).set a10 o10).set a11 o11) b = none) : a ≠ b := St.ne_of_none (St.none_set (St.none_set (St.none_set (St.none_set (St.none_set (St.none_set (St.none_set (St.none_set (St.none_set (St.none_set (St.none_set (St.none_set h))))))))))))
theorem St.nn13 {σ : St} {a b : Nat} {o : AObj} {a0 : Nat} {o0 : AObj} {a1 : Nat} {o1 : AObj} {a2 : Nat} {o2 : AObj} {a3 : Nat} {o3 : AObj} {a4 : Nat} {o4 : AObj} {a5 : Nat} {o5 : AObj} {a6 : Nat} {o6 : AObj} {a7 : Nat} {o7 : AObj} {a8 : Nat} {o8 : AObj} {a9 : Nat} {o9 : AObj} {a10 : Nat} {o10 : AObj} {a11 : Nat} {o11 : AObj} {a12 : Nat} {o12 : AObj} (h : ((((((((((((((σ.set a o).set a0 o0).set a1 o1).set a2 o2).set a3 o3).set a4 o4).set a5 o5).set a6 o6).set a7 o7).set a8 o8).set a9 o9).set a10 o10).set a11 o11).set a12 o12) b = none) : a ≠ b := St.ne_of_none (St.none_set (St.none_set (St.none_set (St.none_set (St.none_set (St.none_set (St.none_set (St.none_set (St.none_set (St.none_set (St.none_set (St.none_set (St.none_set h)))))))))))))
theorem St.ns10 {σ : St} {b : Nat} {a0 : Nat} {o0 : AObj} {a1 : Nat} {o1 : AObj} {a2 : Nat} {o2 : AObj} {a3 : Nat} {o3 : AObj} {a4 : Nat} {o4 : AObj} {a5 : Nat} {o5 : AObj} {a6 : Nat} {o6 : AObj} {a7 : Nat} {o7 : AObj} {a8 : Nat} {o8 : AObj} {a9 : Nat} {o9 : AObj} (h : ((((((((((σ.set a0 o0).set a1 o1).set a2 o2).set a3 o3).set a4 o4).set a5 o5).set a6 o6).set a7 o7).set a8 o8).set a9 o9) b = none) : σ b = none := (St.none_set (St.none_set (St.none_set (St.none_set (St.none_set (St.none_set (St.none_set (St.none_set (St.none_set (St.none_set h))))))))))
theorem St.ns11 {σ : St} {b : Nat} {a0 : Nat} {o0 : AObj} {a1 : Nat} {o1 : AObj} {a2 : Nat} {o2 : AObj} {a3 : Nat} {o3 : AObj} {a4 : Nat} {o4 : AObj} {a5 : Nat} {o5 : AObj} {a6 : Nat} {o6 : AObj} {a7 : Nat} {o7 : AObj} {a8 : Nat} {o8 : AObj} {a9 : Nat} {o9 : AObj} {a10 : Nat} {o10 : AObj} (h : (((((((((((σ.set a0 o0).set a1 o1).set a2 o2).set a3 o3).set a4 o4).set a5 o5).set a6 o6).set a7 o7).set a8 o8).set a9 o9).set a10 o10) b = none) : σ b = none := (St.none_set (St.none_set (St.none_set (St.none_set (St.none_set (St.none_set (St.none_set (St.none_set (St.none_set (St.none_set (St.none_set h)))))))))))
theorem St.ns12 {σ : St} {b : Nat} {a0 : Nat} {o0 : AObj} {a1 : Nat} {o1 : AObj} {a2 : Nat} {o2 : AObj} {a3 : Nat} {o3 : AObj} {a4 : Nat} {o4 : AObj} {a5 : Nat} {o5 : AObj} {a6 : Nat} {o6 : AObj} {a7 : Nat} {o7 : AObj} {a8 : Nat} {o8 : AObj} {a9 : Nat} {o9 : AObj} {a10 : Nat} {o10 : AObj} {a11 : Nat} {o11 : AObj} (h : ((((((((((((σ.set a0 o0).set a1 o1).set a2 o2).set a3 o3).set a4 o4).set a5 o5).set a6 o6).set a7 o7).set a8 o8).set a9 o9).set a10 o10).set a11 o11) b = none) : σ b = none := (St.none_set (St.none_set (St.none_set (St.none_set (St.none_set (St.none_set (St.none_set (St.none_set (St.none_set (St.none_set (St.none_set (St.none_set h))))))))))))
theorem St.ns13 {σ : St} {b : Nat} {a0 : Nat} {o0 : AObj} {a1 : Nat} {o1 : AObj} {a2 : Nat} {o2 : AObj} {a3 : Nat} {o3 : AObj} {a4 : Nat} {o4 : AObj} {a5 : Nat} {o5 : AObj} {a6 : Nat} {o6 : AObj} {a7 : Nat} {o7 : AObj} {a8 : Nat} {o8 : AObj} {a9 : Nat} {o9 : AObj} {a10 : Nat} {o10 : AObj} {a11 : Nat} {o11 : AObj} {a12 : Nat} {o12 : AObj} (h : (((((((((((((σ.set a0 o0).set a1 o1).set a2 o2).set a3 o3).set a4 o4).set a5 o5).set a6 o6).set a7 o7).set a8 o8).set a9 o9).set a10 o10).set a11 o11).set a12 o12) b = none) : σ b = none := (St.none_set (St.none_set (St.none_set (St.none_set (St.none_set (St.none_set (St.none_set (St.none_set (St.none_set (St.none_set (St.none_set (St.none_set (St.none_set h)))))))))))))
theorem St.ns14 {σ : St} {b : Nat} {a0 : Nat} {o0 : AObj} {a1 : Nat} {o1 : AObj} {a2 : Nat} {o2 : AObj} {a3 : Nat} {o3 : AObj} {a4 : Nat} {o4 : AObj} {a5 : Nat} {o5 : AObj} {a6 : Nat} {o6 : AObj} {a7 : Nat} {o7 : AObj} {a8 : Nat} {o8 : AObj} {a9 : Nat} {o9 : AObj} {a10 : Nat} {o10 : AObj} {a11 : Nat} {o11 : AObj} {a12 : Nat} {o12 : AObj} {a13 : Nat} {o13 : AObj} (h : ((((((((((((((σ.set a0 o0).set a1 o1).set a2 o2).set a3 o3).set a4 o4).set a5 o5).set a6 o6).set a7 o7).set a8 o8).set a9 o9).set a10 o10).set a11 o11).set a12 o12).set a13 o13) b = none) : σ b = none := (St.none_set (St.none_set (St.none_set (St.none_set (St.none_set (St.none_set (St.none_set (St.none_set (St.none_set (St.none_set (St.none_set (St.none_set (St.none_set (St.none_set h))))))))))))))
theorem w64 {n : Int} (h0 : -9223372036854775808 ≤ n) (h1 : n < 9223372036854775808) : IntKind.i64.wrap n = n := by
  rw [IntKind.wrap_i64]; omega
theorem w32 {n : Int} (h0 : -2147483648 ≤ n) (h1 : n < 2147483648) : IntKind.i32.wrap n = n := by
  rw [IntKind.wrap_i32]; omega
theorem wu8 {n : Int} (h0 : 0 ≤ n) (h1 : n < 256) : IntKind.u8.wrap n = n := by
  rw [IntKind.wrap_u8]; omega
theorem and_l {a b : Bool} (h : (a && b) = true) : a = true := by cases a <;> simp_all
theorem and_r {a b : Bool} (h : (a && b) = true) : b = true := by cases a <;> simp_all
theorem St.set_ne2 {σ : St} {id x : Nat} {o o' : AObj} (hid : x ≠ id) (h : σ x = some o') : σ.set id o x = some o' := by rw [St.set_ne _ _ _ hid]; exact h
theorem St.set_ne3 {σ : St} {id x : Nat} {o o' : AObj} (hid : id ≠ x) (h : σ x = some o') : σ.set id o x = some o' := St.set_ne2 (Ne.symm hid) h
theorem lkp {σ : St} {id : Nat} {o : AObj} (h : σ id = some o := by first | exact St.set_same _ _ _ | assumption | (repeat' (first | exact St.set_same _ _ _ | assumption | refine St.set_keep (by assumption) ?_ | refine St.set_ne2 (by first | assumption | exact St.nn0 (by assumption) | exact St.nn1 (by assumption) | exact St.nn2 (by assumption) | exact St.nn3 (by assumption) | exact St.nn4 (by assumption) | exact St.nn5 (by assumption) | exact St.nn6 (by assumption) | exact St.nn7 (by assumption) | exact St.nn8 (by assumption) | exact St.nn9 (by assumption) | exact St.nn10 (by assumption) | exact St.nn11 (by assumption) | exact St.nn12 (by assumption) | exact St.nn13 (by assumption) | exact Ne.symm (St.nn0 (by assumption)) | exact Ne.symm (St.nn1 (by assumption)) | exact Ne.symm (St.nn2 (by assumption)) | exact Ne.symm (St.nn3 (by assumption)) | exact Ne.symm (St.nn4 (by assumption)) | exact Ne.symm (St.nn5 (by assumption)) | exact Ne.symm (St.nn6 (by assumption)) | exact Ne.symm (St.nn7 (by assumption)) | exact Ne.symm (St.nn8 (by assumption)) | exact Ne.symm (St.nn9 (by assumption)) | exact Ne.symm (St.nn10 (by assumption)) | exact Ne.symm (St.nn11 (by assumption)) | exact Ne.symm (St.nn12 (by assumption)) | exact Ne.symm (St.nn13 (by assumption)) | exact St.ne_ns (by assumption) (by repeat' (first | exact St.sn_of (by assumption) | refine St.setn ?_))) ?_))) : σ id = some o := h
section
variable {fr : Fr} {x : Operand} {c b y z u : Bool}
def condO (fr : Fr) : Operand → Option Bool
  | .tmp t => match lk fr t with
    | some (.mb c _) => some c
    | _ => some true
  | _ => some true
theorem condO_eq (h : condO fr x = some b) : condOf fr x = b := by
  cases x with
  | tmp t =>
    simp only [condO, condOf] at h ⊢
    cases hl : lk fr t with
    | none => rw [hl] at h; cases h; rfl
    | some a => rw [hl] at h; cases a <;> cases h <;> rfl
  | _ => cases h; rfl
theorem nd0 (h : condO fr x = some b) (hb : b = true := by with_reducible rfl) : c = true → condOf fr x = true := fun _ => (condO_eq h).trans hb
theorem nd1 (h : condO fr x = some b) (hb : c = b := by with_reducible rfl) : c = true → condOf fr x = true := fun hc => by rw [condO_eq h, ← hb]; exact hc
theorem nd2 (h : condO fr x = some b) (hb : c = (b && y) := by with_reducible rfl) : c = true → condOf fr x = true := fun hc => by rw [condO_eq h]; exact and_l (hb ▸ hc)
theorem nd3 (h : condO fr x = some b) (hb : c = ((b && y) && z) := by with_reducible rfl) : c = true → condOf fr x = true := fun hc => by rw [condO_eq h]; exact and_l (and_l (hb ▸ hc))
theorem nd4 (h : condO fr x = some b) (hb : c = (((b && y) && z) && u) := by with_reducible rfl) : c = true → condOf fr x = true := fun hc => by rw [condO_eq h]; exact and_l (and_l (and_l (hb ▸ hc)))
end
section
variable {P : Program} {nt : Nat} {ops : Array Oper} {Q Q2 : Post} {fr : Fr} {σ : St} {rest : List Oper} {t : Tmp} {op : Op} {ty : TypeId} {pos : String} {aft : Array Edge} {av : AV}
/-! ### Plain forms -/
theorem nf_nil : ([] : List AV) = [] := rfl
theorem nf_cons {x y : AV} {xs ys : List AV} (h : x = y) (h' : xs = ys) : x :: xs = y :: ys := by rw [h, h']
theorem nf_v {x : Value} : AV.v x = AV.v x := rfl
theorem nf_agg {cs ds : List AV} (h : cs = ds) : AV.agg cs = AV.agg ds := by rw [h]
theorem nf_sl {nl : Option Bool} {full : Bool} {sz : Nat} {els : List (List AV)} : AV.sl nl full sz els = AV.sl nl full sz els := rfl
theorem nf_osl {id sz off len : Nat} : AV.osl id sz off len = AV.osl id sz off len := rfl
theorem nf_ptr {id sz i j : Nat} : AV.ptr id sz i j = AV.ptr id sz i j := rfl
theorem nf_fp {cs : List AV} : AV.fp cs = AV.fp cs := rfl
theorem nf_mp {id : Nat} : AV.mp id = AV.mp id := rfl
theorem nf_it {id : Nat} : AV.it id = AV.it id := rfl
theorem nf_fn {f : FuncId} {cs : List AV} : AV.fn f cs = AV.fn f cs := rfl
theorem nf_ifc {t : TypeId} {x : AV} : AV.ifc t x = AV.ifc t x := rfl
theorem nf_mb {c : Bool} {x : AV} : AV.mb c x = AV.mb c x := rfl
theorem nfl_nil : ([] : List (List AV)) = [] := rfl
theorem nfl_cons {x y : List AV} {xs ys : List (List AV)} (h : x = y) (h' : xs = ys) : x :: xs = y :: ys := by rw [h, h']
theorem nf_set0 {x y : List AV} : [x].set 0 y = [y] := rfl
theorem jb {bt : TypeId} {parts : Array (Nat × Operand)} {av0 : AV} (h : LJ P nt ops Q rest ((t, av) :: fr) σ) (hd : Nat.blt t nt = true := by exact rfl) (hv : valOp P fr (.build bt parts) = some av0 := by exact rfl) (hn : av0 = av := by (first | (apply nf_agg; (repeat' (first | exact nf_nil | apply nf_cons | exact nf_v | exact nf_sl | exact nf_osl | exact nf_ptr | exact nf_fp | exact nf_mp | exact nf_fn | exact nf_ifc | exact nf_it | exact nf_mb | exact rfl))) | exact nf_v | exact nf_sl | exact nf_osl | exact nf_ptr | exact nf_fp | exact nf_mp | exact nf_fn | exact nf_ifc | exact nf_it | exact nf_mb | exact rfl)) : LJ P nt ops Q (⟨some t, .build bt parts, ty, pos, aft, none⟩ :: rest) fr σ := lj_auto hd (hn ▸ hv) h
theorem jbl {lt : TypeId} {x : Operand} {av0 : AV} (h : LJ P nt ops Q rest ((t, av) :: fr) σ) (hd : Nat.blt t nt = true := by exact rfl) (hv : valOp P fr (.load lt x) = some av0 := by exact rfl) (hn : av0 = av := by (first | (apply nf_agg; (repeat' (first | exact nf_nil | apply nf_cons | exact nf_v | exact nf_sl | exact nf_osl | exact nf_ptr | exact nf_fp | exact nf_mp | exact nf_fn | exact nf_ifc | exact nf_it | exact nf_mb | exact rfl))) | exact nf_v | exact nf_sl | exact nf_osl | exact nf_ptr | exact nf_fp | exact nf_mp | exact nf_fn | exact nf_ifc | exact nf_it | exact nf_mb | exact rfl)) : LJ P nt ops Q (⟨some t, .load lt x, ty, pos, aft, none⟩ :: rest) fr σ := lj_auto hd (hn ▸ hv) h
theorem j1 (h : LJ P nt ops Q rest ((t, av) :: fr) σ) (hd : Nat.blt t nt = true := by exact rfl) (hv : valOp P fr op = some av := by exact rfl) : LJ P nt ops Q (⟨some t, op, ty, pos, aft, none⟩ :: rest) fr σ := lj_auto hd hv h
theorem j2 {j u : Nat} {b : Bool} {a : AV} (h : LJ P nt ops Q rest ((t, av) :: fr) σ) (hj : (ops[j]?).bind (·.dst) = some u := by exact rfl) (hl : lk fr u = some a := by exact rfl) (hb : a = .v (.bool b) := by with_reducible rfl) (hd : Nat.blt t nt = true := by exact rfl) (hv : valOp P fr op = some av := by exact rfl) : LJ P nt ops Q (⟨some t, op, ty, pos, aft, some (j, b)⟩ :: rest) fr σ := lj_autoy hd hj (hb ▸ hl) hv h
theorem j3 {j u : Nat} {a : AV} (h : LJ P nt ops Q rest ((t, .tup []) :: fr) σ) (hj : (ops[j]?).bind (·.dst) = some u := by exact rfl) (hl : lk fr u = some a := by exact rfl) (hb : a = .v (.bool false) := by with_reducible rfl) (hd : fits nt (some t) = true := by exact rfl) : LJ P nt ops Q (⟨some t, op, ty, pos, aft, some (j, true)⟩ :: rest) fr σ := lj_vn hd hj (hb ▸ hl) rfl h
theorem j3f {j u : Nat} {a : AV} (h : LJ P nt ops Q rest ((t, .tup []) :: fr) σ) (hj : (ops[j]?).bind (·.dst) = some u := by exact rfl) (hl : lk fr u = some a := by exact rfl) (hb : a = .v (.bool true) := by with_reducible rfl) (hd : fits nt (some t) = true := by exact rfl) : LJ P nt ops Q (⟨some t, op, ty, pos, aft, some (j, false)⟩ :: rest) fr σ := lj_vn hd hj (hb ▸ hl) rfl h
theorem j4 {y : Code} (h : CJ P nt y Q2 fr σ) : LJ P nt ops (sq P nt y Q2) [] fr σ := lj_sqe h
theorem j5 {y : Code} (h : CJ P nt y Q2 fr σ) : LJ P nt ops (thn Q (CJ P nt y Q2)) [] fr σ := lj_end h
theorem j6 (h : Q .normal fr σ) : LJ P nt ops Q [] fr σ := lj_nil h
theorem jl {l : List Oper} (h : LJ P nt ops Q l fr σ) : LJ P nt ops Q l fr σ := h
theorem jc {c : Code} (h : CJ P nt c Q fr σ) : CJ P nt c Q fr σ := h
theorem c1 {x y : Code} (h : CJ P nt x (sq P nt y Q) fr σ) : CJ P nt (.seq x y) Q fr σ := cj_sq h
theorem c2 {id : Nat} {l : List Oper} (h : LJ P nt l.toArray Q l fr σ) : CJ P nt (.region id l.toArray false) Q fr σ := cj_region h
theorem c3 {c : Operand} {x y : Code} {a : AV} (h : CJ P nt x Q fr σ) (hc : ev fr c = some a := by exact rfl) (hb : a = .v (.bool true) := by with_reducible rfl) : CJ P nt (.cond c x y) Q fr σ := cj_yes (hb ▸ hc) h
theorem c4 {c : Operand} {x y : Code} {a : AV} (h : CJ P nt y Q fr σ) (hc : ev fr c = some a := by exact rfl) (hb : a = .v (.bool false) := by with_reducible rfl) : CJ P nt (.cond c x y) Q fr σ := cj_no (hb ▸ hc) h
theorem c5 {id : Nat} {c : Code} (h : CJ P nt c (inb id Q) fr σ) : CJ P nt (.block id c) Q fr σ := cj_block h
theorem c6 (h : Q .normal fr σ) : CJ P nt .skip Q fr σ := cj_skip h
theorem c7 (h : Q .ret fr σ) : CJ P nt .ret Q fr σ := cj_ret h
theorem c8 {id : Nat} (h : Q (.exit id) fr σ) : CJ P nt (.exit id) Q fr σ := cj_exit h
theorem c9 {u : Nat} {x y : Code} {b : Bool} (ht : b = true → CJ P nt x Q ((u, .v (.bool true)) :: fr) σ) (hf : b = false → CJ P nt y Q ((u, .v (.bool false)) :: fr) σ) (hl : lk fr u = some (.v (.bool b)) := by exact rfl) : CJ P nt (.cond (.tmp u) x y) Q fr σ := by
  have key : ∀ {b' : Bool} {c : Code}, b = b' → CJ P nt c Q ((u, .v (.bool b')) :: fr) σ → CJ P nt c Q fr σ := fun {b' c} e h => cj_forget (fun t a hx => by
    rw [lk_cons] at hx
    split at hx
    · rename_i e'; subst e'; rw [hl, e]; exact hx
    · exact hx) (St.le_refl _) h
  exact cj_if hl (fun e => key e (ht e)) (fun e => key e (hf e))
theorem n1 {y : Code} (h : CJ P nt y Q fr σ) : sq P nt y Q .normal fr σ := nx_sq h
theorem n2 {y : Code} (h : Q .ret fr σ) : sq P nt y Q .ret fr σ := nx_ret_sq h
theorem n3 {y : Code} {id : Nat} (h : Q (.exit id) fr σ) : sq P nt y Q (.exit id) fr σ := nx_exit_sq h
theorem n4 {y : Code} (h : CJ P nt y Q2 fr σ) : thn Q (CJ P nt y Q2) .normal fr σ := nx_thn_cj h
theorem n5 {K : Fr → St → Prop} (h : Q .ret fr σ) : thn Q K .ret fr σ := nx_ret_thn h
theorem n6 {id : Nat} (h : Q .ret fr σ) : inb id Q .ret fr σ := nx_ret_inb h
theorem n7 {K : Fr → St → Prop} {id : Nat} (h : Q (.exit id) fr σ) : thn Q K (.exit id) fr σ := nx_exit_thn h
theorem n8 {id : Nat} (h : Q .normal fr σ) : inb id Q (.exit id) fr σ := nx_exit_same h
theorem n9 {id i : Nat} (h : Q (.exit i) fr σ) (hne : (i == id) = false := by exact rfl) : inb id Q (.exit i) fr σ := nx_exit_other hne h
theorem n10 {id : Nat} (h : Q .normal fr σ) : inb id Q .normal fr σ := nx_inb h
theorem n11 {rs : List ResultVar} {R : AEnd → St → Prop} {as : List AV} (hR : R (.ret (packed as)) σ) (h : results' fr rs = some as := by exact rfl) : endR P rs R .ret fr σ := nx_end h hR
theorem n12 {rs : List ResultVar} {R : AEnd → St → Prop} {as : List AV} (hR : R (.ret (packed as)) σ) (h : results' fr rs = some as := by exact rfl) : endR P rs R .normal fr σ := nx_end' h hR
theorem j7 {x y z : Operand} {b vy : Bool} (h : LJ P nt ops Q rest ((t, .v (.bool (b || vy))) :: fr) σ) (hc : ev fr x = some (.v (.bool b)) := by exact rfl) (hx : ev fr y = some (.v (.bool true)) := by exact rfl) (hy : ev fr z = some (.mb (!b) (.v (.bool vy))) := by exact rfl) (hd : fits nt (some t) = true := by exact rfl) : LJ P nt ops Q (⟨some t, .pick x y z, ty, pos, aft, none⟩ :: rest) fr σ :=
  lj_v hd (fun R hR => opj_or rfl hc hx hy hR) h
theorem j8 {x y z : Operand} {b vy : Bool} (h : LJ P nt ops Q rest ((t, .v (.bool (b && vy))) :: fr) σ) (hc : ev fr x = some (.v (.bool b)) := by exact rfl) (hx : ev fr y = some (.mb b (.v (.bool vy))) := by exact rfl) (hy : ev fr z = some (.v (.bool false)) := by exact rfl) (hd : fits nt (some t) = true := by exact rfl) : LJ P nt ops Q (⟨some t, .pick x y z, ty, pos, aft, none⟩ :: rest) fr σ :=
  lj_v hd (fun R hR => opj_and rfl hc hx hy hR) h
theorem j9 {j u : Nat} {w c : Bool} {a : AV} (h : LJ P nt ops Q rest ((t, .mb c av) :: fr) σ) (hj : (ops[j]?).bind (·.dst) = some u := by exact rfl) (hl : lk fr u = some a := by exact rfl) (hg : gc a w = some c := by exact rfl) (hd : fits nt (some t) = true := by exact rfl) (hv : valOp P (strip fr) op = some av := by exact rfl)
    (hn : Needs c fr op.operands.toList := by repeat' (first | exact True.intro | refine And.intro ?_ ?_ | exact nd0 rfl | exact nd1 rfl | exact nd2 rfl | exact nd3 rfl | exact nd4 rfl)) : LJ P nt ops Q (⟨some t, op, ty, pos, aft, some (j, w)⟩ :: rest) fr σ :=
  lj_q hd hj hl hg hn (fun _ R hR => opj_valOp hv hR) h
theorem j10 {j u : Nat} {w c b vy : Bool} {a : AV} {x y z : Operand} (h : LJ P nt ops Q rest ((t, .mb c (.v (.bool (b || vy)))) :: fr) σ) (hj : (ops[j]?).bind (·.dst) = some u := by exact rfl) (hl : lk fr u = some a := by exact rfl) (hg : gc a w = some c := by exact rfl) (hc : ev fr x = some (.mb c (.v (.bool b))) := by exact rfl) (hx : ev fr y = some (.v (.bool true)) := by exact rfl) (hy : ev fr z = some (.mb (c && !b) (.v (.bool vy))) := by exact rfl) (hd : fits nt (some t) = true := by exact rfl) :
    LJ P nt ops Q (⟨some t, .pick x y z, ty, pos, aft, some (j, w)⟩ :: rest) fr σ := lj_q0 hd hj hl hg (fun h R hR => opj_orq rfl hc hx hy h hR) h
theorem j11 {j u : Nat} {w c b vy : Bool} {a : AV} {x y z : Operand} (h : LJ P nt ops Q rest ((t, .mb c (.v (.bool (b && vy)))) :: fr) σ) (hj : (ops[j]?).bind (·.dst) = some u := by exact rfl) (hl : lk fr u = some a := by exact rfl) (hg : gc a w = some c := by exact rfl) (hc : ev fr x = some (.mb c (.v (.bool b))) := by exact rfl) (hx : ev fr y = some (.mb (c && b) (.v (.bool vy))) := by exact rfl) (hy : ev fr z = some (.v (.bool false)) := by exact rfl) (hd : fits nt (some t) = true := by exact rfl) :
    LJ P nt ops Q (⟨some t, .pick x y z, ty, pos, aft, some (j, w)⟩ :: rest) fr σ := lj_q0 hd hj hl hg (fun h R hR => opj_andq rfl hc hx hy h hR) h
/-- A variable of our own is made. -/
theorem j12 {elem : TypeId} {x : Operand} {as : List AV} {a : AV} {k : Nat} (h : ∀ id, σ id = none → LJ P nt ops Q rest ((t, .ptr id k 0 0) :: fr) (σ.set id (.row k elem [as]))) (hx : ev fr x = some a := by exact rfl) (hc : cellsOf a = some as := by exact rfl) (hs : sizeIs P elem = some k := by exact rfl) (hk : as.length = k := by exact rfl) (hd : fits nt (some t) = true := by exact rfl) : LJ P nt ops Q (⟨some t, .box elem x, ty, pos, aft, none⟩ :: rest) fr σ := by
  subst hk
  exact lj_f hd (fun R hR => opj_box rfl hx hc hR) h
theorem j13 {elem : TypeId} {as as' : List AV} {k : Nat} (h : ∀ id, σ id = none → LJ P nt ops Q rest ((t, .ptr id k 0 0) :: fr) (σ.set id (.row k elem [as']))) (hz : zeroIs P elem = some as := by exact rfl) (hs : sizeIs P elem = some k := by exact rfl) (hk : as.length = k := by exact rfl) (hn : as = as' := by (repeat' (first | exact nf_nil | apply nf_cons | exact nf_v | exact nf_sl | exact nf_osl | exact nf_ptr | exact nf_fp | exact nf_mp | exact nf_fn | exact nf_ifc | exact nf_it | exact nf_mb | exact rfl))) (hd : fits nt (some t) = true := by exact rfl) : LJ P nt ops Q (⟨some t, .alloc elem, ty, pos, aft, none⟩ :: rest) fr σ := by
  subst hn
  subst hk
  exact lj_f hd (fun R hR => opj_alloc rfl hz hR) h
/-- What stands at an address of our own is read; written. -/
theorem j14 {lt : TypeId} {x : Operand} {q : Option Nat} {id sz i j : Nat} {elem : TypeId} {els : List (List AV)} {el : List AV} {av0 : AV} (h : LJ P nt ops Q rest ((t, av) :: fr) σ) (hx : ev fr x = some (.ptr id sz i j) := by exact rfl) (hq : shapeOf P lt = some q := by exact rfl) (hσ : σ id = some (.row sz elem els) := by first | exact St.set_same _ _ _ | assumption | (repeat' (first | exact St.set_same _ _ _ | assumption | refine St.set_keep (by assumption) ?_ | refine St.set_ne2 (by first | assumption | exact St.nn0 (by assumption) | exact St.nn1 (by assumption) | exact St.nn2 (by assumption) | exact St.nn3 (by assumption) | exact St.nn4 (by assumption) | exact St.nn5 (by assumption) | exact St.nn6 (by assumption) | exact St.nn7 (by assumption) | exact St.nn8 (by assumption) | exact St.nn9 (by assumption) | exact St.nn10 (by assumption) | exact St.nn11 (by assumption) | exact St.nn12 (by assumption) | exact St.nn13 (by assumption) | exact Ne.symm (St.nn0 (by assumption)) | exact Ne.symm (St.nn1 (by assumption)) | exact Ne.symm (St.nn2 (by assumption)) | exact Ne.symm (St.nn3 (by assumption)) | exact Ne.symm (St.nn4 (by assumption)) | exact Ne.symm (St.nn5 (by assumption)) | exact Ne.symm (St.nn6 (by assumption)) | exact Ne.symm (St.nn7 (by assumption)) | exact Ne.symm (St.nn8 (by assumption)) | exact Ne.symm (St.nn9 (by assumption)) | exact Ne.symm (St.nn10 (by assumption)) | exact Ne.symm (St.nn11 (by assumption)) | exact Ne.symm (St.nn12 (by assumption)) | exact Ne.symm (St.nn13 (by assumption)) | exact St.ne_ns (by assumption) (by repeat' (first | exact St.sn_of (by assumption) | refine St.setn ?_))) ?_))) (he : els[i]? = some el := by exact rfl) (hp : load? (el.drop j) q = some av0 := by exact rfl) (hnn : av0 = av := by (first | (apply nf_agg; (repeat' (first | exact nf_nil | apply nf_cons | exact nf_v | exact nf_sl | exact nf_osl | exact nf_ptr | exact nf_fp | exact nf_mp | exact nf_fn | exact nf_ifc | exact nf_it | exact nf_mb | exact rfl))) | exact nf_v | exact nf_sl | exact nf_osl | exact nf_ptr | exact nf_fp | exact nf_mp | exact nf_fn | exact nf_ifc | exact nf_it | exact nf_mb | exact rfl)) (hd : fits nt (some t) = true := by exact rfl) : LJ P nt ops Q (⟨some t, .load lt x, ty, pos, aft, none⟩ :: rest) fr σ :=
  lj_v hd (fun R hR => opj_load_ptr rfl hq hx hσ he (hnn ▸ hp) hR) h
theorem j15 {lt : TypeId} {x : Operand} {q : Option Nat} {id sz i j jj u : Nat} {b : Bool} {a : AV} {elem : TypeId} {els : List (List AV)} {el : List AV} {av0 : AV} (h : LJ P nt ops Q rest ((t, av) :: fr) σ) (hj : (ops[jj]?).bind (·.dst) = some u := by exact rfl) (hl : lk fr u = some a := by exact rfl) (hb : a = .v (.bool b) := by with_reducible rfl) (hx : ev fr x = some (.ptr id sz i j) := by exact rfl) (hq : shapeOf P lt = some q := by exact rfl) (hσ : σ id = some (.row sz elem els) := by first | exact St.set_same _ _ _ | assumption | (repeat' (first | exact St.set_same _ _ _ | assumption | refine St.set_keep (by assumption) ?_ | refine St.set_ne2 (by first | assumption | exact St.nn0 (by assumption) | exact St.nn1 (by assumption) | exact St.nn2 (by assumption) | exact St.nn3 (by assumption) | exact St.nn4 (by assumption) | exact St.nn5 (by assumption) | exact St.nn6 (by assumption) | exact St.nn7 (by assumption) | exact St.nn8 (by assumption) | exact St.nn9 (by assumption) | exact St.nn10 (by assumption) | exact St.nn11 (by assumption) | exact St.nn12 (by assumption) | exact St.nn13 (by assumption) | exact Ne.symm (St.nn0 (by assumption)) | exact Ne.symm (St.nn1 (by assumption)) | exact Ne.symm (St.nn2 (by assumption)) | exact Ne.symm (St.nn3 (by assumption)) | exact Ne.symm (St.nn4 (by assumption)) | exact Ne.symm (St.nn5 (by assumption)) | exact Ne.symm (St.nn6 (by assumption)) | exact Ne.symm (St.nn7 (by assumption)) | exact Ne.symm (St.nn8 (by assumption)) | exact Ne.symm (St.nn9 (by assumption)) | exact Ne.symm (St.nn10 (by assumption)) | exact Ne.symm (St.nn11 (by assumption)) | exact Ne.symm (St.nn12 (by assumption)) | exact Ne.symm (St.nn13 (by assumption)) | exact St.ne_ns (by assumption) (by repeat' (first | exact St.sn_of (by assumption) | refine St.setn ?_))) ?_))) (he : els[i]? = some el := by exact rfl) (hp : load? (el.drop j) q = some av0 := by exact rfl) (hnn : av0 = av := by (first | (apply nf_agg; (repeat' (first | exact nf_nil | apply nf_cons | exact nf_v | exact nf_sl | exact nf_osl | exact nf_ptr | exact nf_fp | exact nf_mp | exact nf_fn | exact nf_ifc | exact nf_it | exact nf_mb | exact rfl))) | exact nf_v | exact nf_sl | exact nf_osl | exact nf_ptr | exact nf_fp | exact nf_mp | exact nf_fn | exact nf_ifc | exact nf_it | exact nf_mb | exact rfl)) (hd : fits nt (some t) = true := by exact rfl) : LJ P nt ops Q (⟨some t, .load lt x, ty, pos, aft, some (jj, b)⟩ :: rest) fr σ :=
  lj_vy hd hj (hb ▸ hl) (fun R hR => opj_load_ptr rfl hq hx hσ he (hnn ▸ hp) hR) h
theorem j16 {lt : TypeId} {x : Operand} {q : Option Nat} {id sz i j jj u : Nat} {w c : Bool} {a : AV} {elem : TypeId} {els : List (List AV)} {el : List AV} {av0 : AV} (h : LJ P nt ops Q rest ((t, .mb c av) :: fr) σ) (hj : (ops[jj]?).bind (·.dst) = some u := by exact rfl) (hl : lk fr u = some a := by exact rfl) (hg : gc a w = some c := by exact rfl) (hx : ev (strip fr) x = some (.ptr id sz i j) := by exact rfl) (hq : shapeOf P lt = some q := by exact rfl) (hn : Needs c fr (Op.load lt x).operands.toList := by repeat' (first | exact True.intro | refine And.intro ?_ ?_ | exact nd0 rfl | exact nd1 rfl | exact nd2 rfl | exact nd3 rfl | exact nd4 rfl)) (hσ : σ id = some (.row sz elem els) := by first | exact St.set_same _ _ _ | assumption | (repeat' (first | exact St.set_same _ _ _ | assumption | refine St.set_keep (by assumption) ?_ | refine St.set_ne2 (by first | assumption | exact St.nn0 (by assumption) | exact St.nn1 (by assumption) | exact St.nn2 (by assumption) | exact St.nn3 (by assumption) | exact St.nn4 (by assumption) | exact St.nn5 (by assumption) | exact St.nn6 (by assumption) | exact St.nn7 (by assumption) | exact St.nn8 (by assumption) | exact St.nn9 (by assumption) | exact St.nn10 (by assumption) | exact St.nn11 (by assumption) | exact St.nn12 (by assumption) | exact St.nn13 (by assumption) | exact Ne.symm (St.nn0 (by assumption)) | exact Ne.symm (St.nn1 (by assumption)) | exact Ne.symm (St.nn2 (by assumption)) | exact Ne.symm (St.nn3 (by assumption)) | exact Ne.symm (St.nn4 (by assumption)) | exact Ne.symm (St.nn5 (by assumption)) | exact Ne.symm (St.nn6 (by assumption)) | exact Ne.symm (St.nn7 (by assumption)) | exact Ne.symm (St.nn8 (by assumption)) | exact Ne.symm (St.nn9 (by assumption)) | exact Ne.symm (St.nn10 (by assumption)) | exact Ne.symm (St.nn11 (by assumption)) | exact Ne.symm (St.nn12 (by assumption)) | exact Ne.symm (St.nn13 (by assumption)) | exact St.ne_ns (by assumption) (by repeat' (first | exact St.sn_of (by assumption) | refine St.setn ?_))) ?_))) (he : els[i]? = some el := by exact rfl) (hp : load? (el.drop j) q = some av0 := by exact rfl) (hnn : av0 = av := by (first | (apply nf_agg; (repeat' (first | exact nf_nil | apply nf_cons | exact nf_v | exact nf_sl | exact nf_osl | exact nf_ptr | exact nf_fp | exact nf_mp | exact nf_fn | exact nf_ifc | exact nf_it | exact nf_mb | exact rfl))) | exact nf_v | exact nf_sl | exact nf_osl | exact nf_ptr | exact nf_fp | exact nf_mp | exact nf_fn | exact nf_ifc | exact nf_it | exact nf_mb | exact rfl)) (hd : fits nt (some t) = true := by exact rfl) : LJ P nt ops Q (⟨some t, .load lt x, ty, pos, aft, some (jj, w)⟩ :: rest) fr σ :=
  lj_q hd hj hl hg hn (fun _ R hR => opj_load_ptr rfl hq hx hσ he (hnn ▸ hp) hR) h
theorem j17 {st elem : TypeId} {x y : Operand} {id sz i j m : Nat} {els : List (List AV)} {el cs nel : List AV} {els' : List (List AV)} {a : AV} (h : LJ P nt ops Q rest fr (σ.set id (.row sz elem els'))) (hx : ev fr x = some (.ptr id sz i j) := by exact rfl) (hy : ev fr y = some a := by exact rfl) (hm : sizeIs P st = some m := by exact rfl) (hσ : σ id = some (.row sz elem els) := by first | exact St.set_same _ _ _ | assumption | (repeat' (first | exact St.set_same _ _ _ | assumption | refine St.set_keep (by assumption) ?_ | refine St.set_ne2 (by first | assumption | exact St.nn0 (by assumption) | exact St.nn1 (by assumption) | exact St.nn2 (by assumption) | exact St.nn3 (by assumption) | exact St.nn4 (by assumption) | exact St.nn5 (by assumption) | exact St.nn6 (by assumption) | exact St.nn7 (by assumption) | exact St.nn8 (by assumption) | exact St.nn9 (by assumption) | exact St.nn10 (by assumption) | exact St.nn11 (by assumption) | exact St.nn12 (by assumption) | exact St.nn13 (by assumption) | exact Ne.symm (St.nn0 (by assumption)) | exact Ne.symm (St.nn1 (by assumption)) | exact Ne.symm (St.nn2 (by assumption)) | exact Ne.symm (St.nn3 (by assumption)) | exact Ne.symm (St.nn4 (by assumption)) | exact Ne.symm (St.nn5 (by assumption)) | exact Ne.symm (St.nn6 (by assumption)) | exact Ne.symm (St.nn7 (by assumption)) | exact Ne.symm (St.nn8 (by assumption)) | exact Ne.symm (St.nn9 (by assumption)) | exact Ne.symm (St.nn10 (by assumption)) | exact Ne.symm (St.nn11 (by assumption)) | exact Ne.symm (St.nn12 (by assumption)) | exact Ne.symm (St.nn13 (by assumption)) | exact St.ne_ns (by assumption) (by repeat' (first | exact St.sn_of (by assumption) | refine St.setn ?_))) ?_))) (he : els[i]? = some el := by exact rfl) (hc : cellsOf a = some cs := by exact rfl) (hl : cs.length = m := by exact rfl) (hj : Nat.ble (j + cs.length) el.length = true := by exact rfl) (hn1 : el.take j ++ cs ++ el.drop (j + cs.length) = nel := by (repeat' (first | exact nf_nil | apply nf_cons | exact nf_v | exact nf_sl | exact nf_osl | exact nf_ptr | exact nf_fp | exact nf_mp | exact nf_fn | exact nf_ifc | exact nf_it | exact nf_mb | exact rfl))) (hn2 : els.set i nel = els' := by (first | exact nf_set0 | exact rfl)) : LJ P nt ops Q (⟨none, .store st x y, ty, pos, aft, none⟩ :: rest) fr σ := by
  subst hn1
  subst hn2
  exact lj_s (fun R hR => opj_store rfl hm hx hy hσ he hc hl (Nat.le_of_ble_eq_true hj) hR) h
theorem j17t {st elem : TypeId} {x y : Operand} {id sz i j m : Nat} {els : List (List AV)} {el cs nel : List AV} {els' : List (List AV)} {a : AV} (h : LJ P nt ops Q rest fr (σ.set id (.row sz elem els'))) (hx : ev fr x = some (.ptr id sz i j) := by exact rfl) (hy : ev fr y = some a := by exact rfl) (hm : sizeIs P st = some m := by exact rfl) (he : els[i]? = some el := by exact rfl) (hc : cellsOf a = some cs := by exact rfl) (hl : cs.length = m := by exact rfl) (hj : Nat.ble (j + cs.length) el.length = true := by exact rfl) (hn1 : el.take j ++ cs ++ el.drop (j + cs.length) = nel := by (repeat' (first | exact nf_nil | apply nf_cons | exact nf_v | exact nf_sl | exact nf_osl | exact nf_ptr | exact nf_fp | exact nf_mp | exact nf_fn | exact nf_ifc | exact nf_it | exact nf_mb | exact rfl))) (hn2 : els.set i nel = els' := by (first | exact nf_set0 | exact rfl)) : LJ P nt ops Q (⟨none, .store st x y, ty, pos, aft, none⟩ :: rest) fr (σ.set id (.row sz elem els)) := by
  subst hn1
  subst hn2
  rw [← St.set_set σ id (.row sz elem els)] at h
  exact lj_s (fun R hR => opj_store rfl hm hx hy (St.set_same _ _ _) he hc hl (Nat.le_of_ble_eq_true hj) hR) h
/-- A string's byte. -/
theorem j18 {st : TypeId} {x ix : Operand} {s : ByteArray} {kk : IntKind} {n : Int} (h : LJ P nt ops Q rest ((t, .v (.int .u8 (sb s n))) :: fr) σ) (ht : P.underlying st = some .string := by exact rfl) (hx : ev fr x = some (.v (.string s)) := by exact rfl) (hi : ev fr ix = some (.v (.int kk n)) := by exact rfl) (hd : fits nt (some t) = true := by exact rfl) (h0 : 0 ≤ n := by first | omega | (simp (disch := omega) only [w64, sb_bt, Int.toNat_zero, Int.toNat_one]; omega)) (h1 : n < s.size := by first | omega | (simp (disch := omega) only [w64, sb_bt, Int.toNat_zero, Int.toNat_one]; omega)) : LJ P nt ops Q (⟨some t, .index st x ix, ty, pos, aft, none⟩ :: rest) fr σ := lj_v hd (fun R hR => opj_index_str rfl ht hx hi h0 h1 hR) h
theorem j19 {st : TypeId} {x ix : Operand} {s : ByteArray} {kk : IntKind} {n : Int} {j u : Nat} {b : Bool} {a : AV} (h : LJ P nt ops Q rest ((t, .v (.int .u8 (sb s n))) :: fr) σ) (hj : (ops[j]?).bind (·.dst) = some u := by exact rfl) (hl : lk fr u = some a := by exact rfl) (hb : a = .v (.bool b) := by with_reducible rfl) (ht : P.underlying st = some .string := by exact rfl) (hx : ev fr x = some (.v (.string s)) := by exact rfl) (hi : ev fr ix = some (.v (.int kk n)) := by exact rfl) (hd : fits nt (some t) = true := by exact rfl) (h0 : 0 ≤ n := by first | omega | (simp (disch := omega) only [w64, sb_bt, Int.toNat_zero, Int.toNat_one]; omega)) (h1 : n < s.size := by first | omega | (simp (disch := omega) only [w64, sb_bt, Int.toNat_zero, Int.toNat_one]; omega)) : LJ P nt ops Q (⟨some t, .index st x ix, ty, pos, aft, some (j, b)⟩ :: rest) fr σ := lj_vy hd hj (hb ▸ hl) (fun R hR => opj_index_str rfl ht hx hi h0 h1 hR) h
theorem j20 {st : TypeId} {x ix : Operand} {s : ByteArray} {kk : IntKind} {n : Int} {j u : Nat} {w c : Bool} {a : AV} (h : LJ P nt ops Q rest ((t, .mb c (.v (.int .u8 (sb s n)))) :: fr) σ) (hj : (ops[j]?).bind (·.dst) = some u := by exact rfl) (hl : lk fr u = some a := by exact rfl) (hg : gc a w = some c := by exact rfl) (ht : P.underlying st = some .string := by exact rfl) (hx : ev (strip fr) x = some (.v (.string s)) := by exact rfl) (hi : ev (strip fr) ix = some (.v (.int kk n)) := by exact rfl) (hd : fits nt (some t) = true := by exact rfl) (hn : Needs c fr (Op.index st x ix).operands.toList := by repeat' (first | exact True.intro | refine And.intro ?_ ?_ | exact nd0 rfl | exact nd1 rfl | exact nd2 rfl | exact nd3 rfl | exact nd4 rfl)) (h0 : c = true → 0 ≤ n := by intro h; first | omega | (simp only [Bool.and_eq_true, decide_eq_true_eq, Bool.not_eq_true', decide_eq_false_iff_not] at h; omega) | (simp only [Bool.and_eq_true, decide_eq_true_eq, Bool.not_eq_true', decide_eq_false_iff_not] at h; simp (disch := omega) only [w64, sb_bt, Int.toNat_zero, Int.toNat_one] at h ⊢; omega)) (h1 : c = true → n < s.size := by intro h; first | omega | (simp only [Bool.and_eq_true, decide_eq_true_eq, Bool.not_eq_true', decide_eq_false_iff_not] at h; omega) | (simp only [Bool.and_eq_true, decide_eq_true_eq, Bool.not_eq_true', decide_eq_false_iff_not] at h; simp (disch := omega) only [w64, sb_bt, Int.toNat_zero, Int.toNat_one] at h ⊢; omega)) : LJ P nt ops Q (⟨some t, .index st x ix, ty, pos, aft, some (j, w)⟩ :: rest) fr σ :=
  lj_q hd hj hl hg hn (fun hc R hR => opj_index_str rfl ht hx hi (h0 hc) (h1 hc) hR) h
/-- A string's part. -/
theorem j21 {st : TypeId} {x : Operand} {lo hi : Option Operand} {s : ByteArray} {l k : Int} (h : LJ P nt ops Q rest ((t, .v (.string (s.extract l.toNat k.toNat))) :: fr) σ) (ht : P.underlying st = some .string := by exact rfl) (hx : ev fr x = some (.v (.string s)) := by exact rfl) (hlo : bound (ev fr) 0 lo = some l := by exact rfl) (hhi : bound (ev fr) s.size hi = some k := by exact rfl) (hd : fits nt (some t) = true := by exact rfl) (h0 : 0 ≤ l := by first | omega | (simp (disch := omega) only [w64, sb_bt, Int.toNat_zero, Int.toNat_one]; omega)) (h1 : l ≤ k := by first | omega | (simp (disch := omega) only [w64, sb_bt, Int.toNat_zero, Int.toNat_one]; omega)) (h2 : k ≤ s.size := by first | omega | (simp (disch := omega) only [w64, sb_bt, Int.toNat_zero, Int.toNat_one]; omega)) : LJ P nt ops Q (⟨some t, .slice st x lo hi none, ty, pos, aft, none⟩ :: rest) fr σ := lj_v hd (fun R hR => opj_slice_str rfl ht hx hlo hhi h0 h1 h2 hR) h
/-- A walk over a string. -/
theorem j22 {st : TypeId} {x : Operand} {s : ByteArray} (h : ∀ id, σ id = none → LJ P nt ops Q rest ((t, .it id) :: fr) (σ.set id (.siter s 0))) (ht : P.underlying st = some .string := by exact rfl) (hx : ev fr x = some (.v (.string s)) := by exact rfl) (hd : fits nt (some t) = true := by exact rfl) : LJ P nt ops Q (⟨some t, .range st x, ty, pos, aft, none⟩ :: rest) fr σ := lj_f hd (fun R hR => opj_range_str rfl ht hx hR) h
theorem j23 {x : Operand} {id p : Nat} {s : ByteArray} (h : LJ P nt ops Q rest ((t, .tup [.v (.bool true), .v (.int .i64 p), .v (.int .i32 (Utf8.decode s p).1)]) :: fr) (σ.set id (.siter s (p + (Utf8.decode s p).2)))) (hx : ev fr x = some (.it id) := by exact rfl) (hσ : σ id = some (.siter s p) := by first | exact St.set_same _ _ _ | assumption | (repeat' (first | exact St.set_same _ _ _ | assumption | refine St.set_keep (by assumption) ?_ | refine St.set_ne2 (by first | assumption | exact St.nn0 (by assumption) | exact St.nn1 (by assumption) | exact St.nn2 (by assumption) | exact St.nn3 (by assumption) | exact St.nn4 (by assumption) | exact St.nn5 (by assumption) | exact St.nn6 (by assumption) | exact St.nn7 (by assumption) | exact St.nn8 (by assumption) | exact St.nn9 (by assumption) | exact St.nn10 (by assumption) | exact St.nn11 (by assumption) | exact St.nn12 (by assumption) | exact St.nn13 (by assumption) | exact Ne.symm (St.nn0 (by assumption)) | exact Ne.symm (St.nn1 (by assumption)) | exact Ne.symm (St.nn2 (by assumption)) | exact Ne.symm (St.nn3 (by assumption)) | exact Ne.symm (St.nn4 (by assumption)) | exact Ne.symm (St.nn5 (by assumption)) | exact Ne.symm (St.nn6 (by assumption)) | exact Ne.symm (St.nn7 (by assumption)) | exact Ne.symm (St.nn8 (by assumption)) | exact Ne.symm (St.nn9 (by assumption)) | exact Ne.symm (St.nn10 (by assumption)) | exact Ne.symm (St.nn11 (by assumption)) | exact Ne.symm (St.nn12 (by assumption)) | exact Ne.symm (St.nn13 (by assumption)) | exact St.ne_ns (by assumption) (by repeat' (first | exact St.sn_of (by assumption) | refine St.setn ?_))) ?_))) (hp : p < s.size := by omega) (hd : fits nt (some t) = true := by exact rfl) : LJ P nt ops Q (⟨some t, .next x true, ty, pos, aft, none⟩ :: rest) fr σ := lj_w hd (fun R hR => opj_next_more rfl hx hσ hp hR) h
theorem j24 {x : Operand} {id p : Nat} {s : ByteArray} (h : LJ P nt ops Q rest ((t, .tup [.v (.bool false)]) :: fr) σ) (hx : ev fr x = some (.it id) := by exact rfl) (hσ : σ id = some (.siter s p) := by first | exact St.set_same _ _ _ | assumption | (repeat' (first | exact St.set_same _ _ _ | assumption | refine St.set_keep (by assumption) ?_ | refine St.set_ne2 (by first | assumption | exact St.nn0 (by assumption) | exact St.nn1 (by assumption) | exact St.nn2 (by assumption) | exact St.nn3 (by assumption) | exact St.nn4 (by assumption) | exact St.nn5 (by assumption) | exact St.nn6 (by assumption) | exact St.nn7 (by assumption) | exact St.nn8 (by assumption) | exact St.nn9 (by assumption) | exact St.nn10 (by assumption) | exact St.nn11 (by assumption) | exact St.nn12 (by assumption) | exact St.nn13 (by assumption) | exact Ne.symm (St.nn0 (by assumption)) | exact Ne.symm (St.nn1 (by assumption)) | exact Ne.symm (St.nn2 (by assumption)) | exact Ne.symm (St.nn3 (by assumption)) | exact Ne.symm (St.nn4 (by assumption)) | exact Ne.symm (St.nn5 (by assumption)) | exact Ne.symm (St.nn6 (by assumption)) | exact Ne.symm (St.nn7 (by assumption)) | exact Ne.symm (St.nn8 (by assumption)) | exact Ne.symm (St.nn9 (by assumption)) | exact Ne.symm (St.nn10 (by assumption)) | exact Ne.symm (St.nn11 (by assumption)) | exact Ne.symm (St.nn12 (by assumption)) | exact Ne.symm (St.nn13 (by assumption)) | exact St.ne_ns (by assumption) (by repeat' (first | exact St.sn_of (by assumption) | refine St.setn ?_))) ?_))) (hp : s.size ≤ p := by omega) (hd : fits nt (some t) = true := by exact rfl) : LJ P nt ops Q (⟨some t, .next x true, ty, pos, aft, none⟩ :: rest) fr σ := lj_v hd (fun R hR => opj_next_over rfl hx hσ hp hR) h
theorem bsz (l : List UInt8) : ByteArray.size ⟨l.toArray⟩ = l.length := List.size_toArray
/-- Two strings made one; bytes made a string. -/
theorem j25 {x y : Operand} {a b : ByteArray} {t1 t2 : TypeId} (h : LJ P nt ops Q rest ((t, .v (.string (a ++ b))) :: fr) σ) (hx : ev fr x = some (.v (.string a)) := by exact rfl) (hy : ev fr y = some (.v (.string b)) := by exact rfl) (hd : fits nt (some t) = true := by exact rfl) (hb : a.size + b.size ≤ 9223372036854775807 := by (first | omega | (simp only [bsz, ByteArray.size_append, List.length_cons, List.length_nil, List.length_append, Nat.reduceAdd]; omega) | (simp only [bsz, ByteArray.size_append, List.length_cons, List.length_nil, List.length_append, Nat.reduceAdd] at *; omega))) : LJ P nt ops Q (⟨some t, .binOp .add t1 x y t2, ty, pos, aft, none⟩ :: rest) fr σ := lj_v hd (fun R hR => opj_concat rfl hx hy hb hR) h
theorem j26 {s d et : TypeId} {x : Operand} {a : AV} {l : List UInt8} (h : LJ P nt ops Q rest ((t, .v (.string ⟨l.toArray⟩)) :: fr) σ) (hs : P.underlying s = some (.slice et) := by exact rfl) (he : P.underlying et = some (.int .u8) := by exact rfl) (hdd : P.underlying d = some .string := by exact rfl) (hx : ev fr x = some a := by exact rfl) (hsrc : srcOf σ a = some (1, bys l) := by exact rfl) (hd : fits nt (some t) = true := by exact rfl) : LJ P nt ops Q (⟨some t, .convert s d x, ty, pos, aft, none⟩ :: rest) fr σ := lj_v hd (fun R hR => opj_conv_bytes rfl hs he hdd hx hsrc hR) h
/-- A call. -/
theorem jp {f : FuncId} {xs : Array Operand} {ts : Array TypeId} {as : List AV} {r : AV} (hp : Pure P f as r) (h : LJ P nt ops Q rest ((t, r) :: fr) σ) (has : evs fr xs.toList = some as := by exact rfl) (hent : entered P f = true := by exact rfl) (hd : fits nt (some t) = true := by exact rfl) : LJ P nt ops Q (⟨some t, .call { callee := .value (.func f), args := xs, argTypes := ts }, ty, pos, aft, none⟩ :: rest) fr σ := lj_pure hd has hent hp h
theorem jpy {j u : Nat} {b : Bool} {a : AV} {f : FuncId} {xs : Array Operand} {ts : Array TypeId} {as : List AV} {r : AV} (hp : Pure P f as r) (h : LJ P nt ops Q rest ((t, r) :: fr) σ) (hj : (ops[j]?).bind (·.dst) = some u := by exact rfl) (hl : lk fr u = some a := by exact rfl) (hb : a = .v (.bool b) := by with_reducible rfl) (has : evs fr xs.toList = some as := by exact rfl) (hent : entered P f = true := by exact rfl) (hd : fits nt (some t) = true := by exact rfl) : LJ P nt ops Q (⟨some t, .call { callee := .value (.func f), args := xs, argTypes := ts }, ty, pos, aft, some (j, b)⟩ :: rest) fr σ := lj_purey hd hj (hb ▸ hl) has hent hp h
/-- A call under a guard that is not known. -/
theorem jcq {j u : Nat} {w c : Bool} {a : AV} {f : FuncId} {xs : Array Operand} {ts : Array TypeId} {as : List AV} {r : AV} (h : LJ P nt ops Q rest ((t, .mb c r) :: fr) σ) (hj : (ops[j]?).bind (·.dst) = some u := by exact rfl) (hl : lk fr u = some a := by exact rfl) (hg : gc a w = some c := by exact rfl) (has : evs (strip fr) xs.toList = some as := by exact rfl) (hent : entered P f = true := by exact rfl) (hd : fits nt (some t) = true := by exact rfl)
    (hn : Needs c fr (Op.call { callee := .value (.func f), args := xs, argTypes := ts }).operands.toList := by repeat' (first | exact True.intro | refine And.intro ?_ ?_ | exact nd0 rfl | exact nd1 rfl | exact nd2 rfl | exact nd3 rfl | exact nd4 rfl)) (hp : c = true → Pure P f as r) : LJ P nt ops Q (⟨some t, .call { callee := .value (.func f), args := xs, argTypes := ts }, ty, pos, aft, some (j, w)⟩ :: rest) fr σ := fun k a' hσ hk hz hf => by
  have hy := yields_gc hf hj hl hg
  cases c with
  | false =>
    unfold wpList
    rw [if_neg (by simp only [Region.wanted, hy]; simp)]
    exact wpList_mono (fun _ _ _ => conc_step (.refl k) (Act.defers_put ..) (Act.size_put ..)) _ _ _ (h k _ hσ hk ((Act.size_put ..).trans hz) (hf.put (dst := some t) (by rw [hz]; exact hd) (Rep.mb_false rfl)))
  | true =>
    unfold wpList
    rw [if_pos (by simp only [Region.wanted, hy])]
    refine .inl (((OpW.strip (o := ⟨some t, .call { callee := .value (.func f), args := xs, argTypes := ts }, ty, pos, aft, some (j, w)⟩) hn rfl (opw_pure has hent (hp rfl))).mb rfl) k a' _ _ hσ hk (reps_of_fr hf _) fun k' v r' h1 h2 ⟨h3, h3'⟩ h4 => ?_)
    subst h3
    exact wpList_mono (fun _ _ _ => conc_step h2 (Act.defers_put ..) (Act.size_put ..)) _ _ _ (h k' _ h3' h1 ((Act.size_put ..).trans hz) ((hf.step h2).put (dst := some t) (by rw [hz]; exact hd) h4))
/-- What is handed back stands in variables of our own. -/
theorem n14 {rs : List ResultVar} {R : AEnd → St → Prop} {u : Nat} {cty : TypeId} {a : AV} {id sz i j : Nat} {elem : TypeId} {els : List (List AV)} {el : List AV} {q : Option Nat} (hR : R (.ret (packed [a])) σ) (hrs : rs = [.cell u cty] := by exact rfl) (hl : lk fr u = some (.ptr id sz i j) := by exact rfl) (hq : shapeOf P cty = some q := by exact rfl) (hσ : σ id = some (.row sz elem els) := by first | exact St.set_same _ _ _ | assumption | (repeat' (first | exact St.set_same _ _ _ | assumption | refine St.set_keep (by assumption) ?_ | refine St.set_ne2 (by first | assumption | exact St.nn0 (by assumption) | exact St.nn1 (by assumption) | exact St.nn2 (by assumption) | exact St.nn3 (by assumption) | exact St.nn4 (by assumption) | exact St.nn5 (by assumption) | exact St.nn6 (by assumption) | exact St.nn7 (by assumption) | exact St.nn8 (by assumption) | exact St.nn9 (by assumption) | exact St.nn10 (by assumption) | exact St.nn11 (by assumption) | exact St.nn12 (by assumption) | exact St.nn13 (by assumption) | exact Ne.symm (St.nn0 (by assumption)) | exact Ne.symm (St.nn1 (by assumption)) | exact Ne.symm (St.nn2 (by assumption)) | exact Ne.symm (St.nn3 (by assumption)) | exact Ne.symm (St.nn4 (by assumption)) | exact Ne.symm (St.nn5 (by assumption)) | exact Ne.symm (St.nn6 (by assumption)) | exact Ne.symm (St.nn7 (by assumption)) | exact Ne.symm (St.nn8 (by assumption)) | exact Ne.symm (St.nn9 (by assumption)) | exact Ne.symm (St.nn10 (by assumption)) | exact Ne.symm (St.nn11 (by assumption)) | exact Ne.symm (St.nn12 (by assumption)) | exact Ne.symm (St.nn13 (by assumption)) | exact St.ne_ns (by assumption) (by repeat' (first | exact St.sn_of (by assumption) | refine St.setn ?_))) ?_))) (he : els[i]? = some el := by exact rfl) (hp : load? (el.drop j) q = some a := by exact rfl) : endR P rs R .ret fr σ := nx_endC [a] (hrs ▸ ⟨a, _, id, sz, i, j, elem, els, el, q, rfl, hl, hσ, he, hq, hp, rfl⟩) hR
theorem n15 {rs : List ResultVar} {R : AEnd → St → Prop} {u : Nat} {cty : TypeId} {a : AV} {id sz i j : Nat} {elem : TypeId} {els : List (List AV)} {el : List AV} {q : Option Nat} {v : Nat} {b : AV} (hR : R (.ret (packed [a, b])) σ) (hrs : rs = [.cell u cty, .tmp v] := by exact rfl) (hl : lk fr u = some (.ptr id sz i j) := by exact rfl) (hq : shapeOf P cty = some q := by exact rfl) (hσ : σ id = some (.row sz elem els) := by first | exact St.set_same _ _ _ | assumption | (repeat' (first | exact St.set_same _ _ _ | assumption | refine St.set_keep (by assumption) ?_ | refine St.set_ne2 (by first | assumption | exact St.nn0 (by assumption) | exact St.nn1 (by assumption) | exact St.nn2 (by assumption) | exact St.nn3 (by assumption) | exact St.nn4 (by assumption) | exact St.nn5 (by assumption) | exact St.nn6 (by assumption) | exact St.nn7 (by assumption) | exact St.nn8 (by assumption) | exact St.nn9 (by assumption) | exact St.nn10 (by assumption) | exact St.nn11 (by assumption) | exact St.nn12 (by assumption) | exact St.nn13 (by assumption) | exact Ne.symm (St.nn0 (by assumption)) | exact Ne.symm (St.nn1 (by assumption)) | exact Ne.symm (St.nn2 (by assumption)) | exact Ne.symm (St.nn3 (by assumption)) | exact Ne.symm (St.nn4 (by assumption)) | exact Ne.symm (St.nn5 (by assumption)) | exact Ne.symm (St.nn6 (by assumption)) | exact Ne.symm (St.nn7 (by assumption)) | exact Ne.symm (St.nn8 (by assumption)) | exact Ne.symm (St.nn9 (by assumption)) | exact Ne.symm (St.nn10 (by assumption)) | exact Ne.symm (St.nn11 (by assumption)) | exact Ne.symm (St.nn12 (by assumption)) | exact Ne.symm (St.nn13 (by assumption)) | exact St.ne_ns (by assumption) (by repeat' (first | exact St.sn_of (by assumption) | refine St.setn ?_))) ?_))) (he : els[i]? = some el := by exact rfl) (hp : load? (el.drop j) q = some a := by exact rfl) (hb : lk fr v = some b := by exact rfl) : endR P rs R .ret fr σ := nx_endC [a, b] (hrs ▸ ⟨a, _, id, sz, i, j, elem, els, el, q, rfl, hl, hσ, he, hq, hp, b, _, rfl, hb, rfl⟩) hR
theorem n16 {rs : List ResultVar} {R : AEnd → St → Prop} {u : Nat} {cty : TypeId} {a : AV} {id sz i j : Nat} {elem : TypeId} {els : List (List AV)} {el : List AV} {q : Option Nat} {v w : Nat} {b c : AV} (hR : R (.ret (packed [a, b, c])) σ) (hrs : rs = [.cell u cty, .tmp v, .tmp w] := by exact rfl) (hl : lk fr u = some (.ptr id sz i j) := by exact rfl) (hq : shapeOf P cty = some q := by exact rfl) (hσ : σ id = some (.row sz elem els) := by first | exact St.set_same _ _ _ | assumption | (repeat' (first | exact St.set_same _ _ _ | assumption | refine St.set_keep (by assumption) ?_ | refine St.set_ne2 (by first | assumption | exact St.nn0 (by assumption) | exact St.nn1 (by assumption) | exact St.nn2 (by assumption) | exact St.nn3 (by assumption) | exact St.nn4 (by assumption) | exact St.nn5 (by assumption) | exact St.nn6 (by assumption) | exact St.nn7 (by assumption) | exact St.nn8 (by assumption) | exact St.nn9 (by assumption) | exact St.nn10 (by assumption) | exact St.nn11 (by assumption) | exact St.nn12 (by assumption) | exact St.nn13 (by assumption) | exact Ne.symm (St.nn0 (by assumption)) | exact Ne.symm (St.nn1 (by assumption)) | exact Ne.symm (St.nn2 (by assumption)) | exact Ne.symm (St.nn3 (by assumption)) | exact Ne.symm (St.nn4 (by assumption)) | exact Ne.symm (St.nn5 (by assumption)) | exact Ne.symm (St.nn6 (by assumption)) | exact Ne.symm (St.nn7 (by assumption)) | exact Ne.symm (St.nn8 (by assumption)) | exact Ne.symm (St.nn9 (by assumption)) | exact Ne.symm (St.nn10 (by assumption)) | exact Ne.symm (St.nn11 (by assumption)) | exact Ne.symm (St.nn12 (by assumption)) | exact Ne.symm (St.nn13 (by assumption)) | exact St.ne_ns (by assumption) (by repeat' (first | exact St.sn_of (by assumption) | refine St.setn ?_))) ?_))) (he : els[i]? = some el := by exact rfl) (hp : load? (el.drop j) q = some a := by exact rfl) (hb : lk fr v = some b := by exact rfl) (hc : lk fr w = some c := by exact rfl) : endR P rs R .ret fr σ := nx_endC [a, b, c] (hrs ▸ ⟨a, _, id, sz, i, j, elem, els, el, q, rfl, hl, hσ, he, hq, hp, b, _, rfl, hb, c, _, rfl, hc, rfl⟩) hR
/-- A loop of at most n rounds, round by round. -/
def CJR (P : Program) (nt : Nat) (c : Code) (Q : Post) : Nat → Fr → St → Prop
  | 0, _, _ => False
  | n + 1, fr, σ => CJ P nt c (thn Q (CJR P nt c Q n)) fr σ
theorem cj_rounds {c : Code} (n : Nat) (h : CJR P nt c Q n fr σ) : CJ P nt (.loop c) Q fr σ := fun k a hσ hk hz hf => by
  refine wp_loop_rounds n ?_
  have key : ∀ (n : Nat) (k' : Cx) (a' : Act) (fr' : Fr), CJR P nt c Q n fr' k'.σ → Ok k' → a'.tmps.size = nt → FrOk k' fr' a'.tmps → Step k k' → a'.defers = a.defers → Code.rounds P c (conc k a Q) n a' k'.w := by
    intro n
    induction n with
    | zero => intro k' a' fr' h; exact h.elim
    | succ n ih =>
      intro k' a' fr' h hok hz' hf' hst hd
      refine Code.wp_mono (fun e a'' w'' hc => ?_) (h k' a' rfl hok hz' hf')
      obtain ⟨g1, g2, k'', e', fr'', rfl, hok', hst', hfr', he, hq⟩ := hc
      have he0 := he
      cases e' <;> cases e <;> simp only [ExitOk] at he <;> simp only [thn] at hq
      case normal.normal => exact ih k'' a'' fr'' hq hok' (g2.trans hz') hfr' (hst.trans hst') (g1.trans hd)
      all_goals exact ⟨g1.trans hd, g2.trans (hz'.trans hz.symm), k'', _, fr'', rfl, hok', hst.trans hst', hfr', he0, hq⟩
  subst hσ
  exact key n k a fr h hk hz hf (.refl k) rfl
theorem cj_unroll {c : Code} (n : Nat) (h : CJ P nt c (thn Q (CJR P nt c Q n)) fr σ) : CJ P nt (.loop c) Q fr σ := cj_rounds (n + 1) h
theorem n13 {c : Code} {n : Nat} (h : CJ P nt c (thn Q (CJR P nt c Q n)) fr σ) : thn Q2 (CJR P nt c Q (n + 1)) .normal fr σ := h
end
end Go.Proofs.YtcpokdjppedaoaaDoor.Ab

/- Abstract values over the model's memory: the steps of regions that draw their order, under short names. -/
set_option linter.unusedVariables false
set_option linter.unusedSimpArgs false
set_option maxRecDepth 20000
namespace Go.Proofs.YtcpokdjppedaoaaDoor.Ab
open Go
section
variable {P : Program} {l : List Oper} {c : List (List Nat)} {m nt : Nat} {σ σ0 σ1 : St} {K : Fr → Prop} {i : Nat} {fr : Fr} {rest : List Oper} {t : Tmp} {op : Op} {ty : TypeId} {pos : String} {aft : Array Edge} {av : AV}
theorem dl (h : DJ P l c m σ0 σ1 K i rest fr) : DJ P l c m σ0 σ1 K i rest fr := h
/-- A region that draws its order, and writes nothing. -/
theorem cq {id : Nat} {Q : Post} (h : DJ P l c 999 σ σ (fun fr' => Q .normal fr' σ) 0 l fr) (hmix : P.follows .mixedOrders = true := by kernel_rfl) (hc : clo l [] = c := by exact rfl) (hp : planB l nt c = true := by kernel_rfl) : CJ P nt (.region id l.toArray true) Q fr σ := cj_drawn hmix 999 _ hc hp (.inr rfl) h
theorem d4 (h : K fr) (hi : Nat.beq i l.length = true := by exact rfl) : DJ P l c m σ0 σ1 K i [] fr := dj_nil hi h
theorem dj_store (h : ∀ (σ : St) (R : Option AV → St → Prop), R (some av) σ → OpJ P ⟨some t, op, ty, pos, aft, none⟩ (ev fr) σ R) (him : Nat.beq i m = false) (hk : DJ P l c m σ0 σ1 K (i + 1) rest ((t, av) :: fr)) : DJ P l c m σ0 σ1 K i (⟨some t, op, ty, pos, aft, none⟩ :: rest) fr := dj_v him (h σ0) (h σ1) hk
theorem dj_storey {j u : Nat} {b : Bool} (h : ∀ (σ : St) (R : Option AV → St → Prop), R (some av) σ → OpJ P ⟨some t, op, ty, pos, aft, some (j, b)⟩ (ev fr) σ R) (him : Nat.beq i m = false) (hj : dstOf l j = some u) (hl : lk fr u = some (.v (.bool b))) (hk : DJ P l c m σ0 σ1 K (i + 1) rest ((t, av) :: fr)) : DJ P l c m σ0 σ1 K i (⟨some t, op, ty, pos, aft, some (j, b)⟩ :: rest) fr := dj_vy him hj hl (h σ0) (h σ1) hk
theorem dbd {bt : TypeId} {parts : Array (Nat × Operand)} {av0 : AV} (h : DJ P l c m σ0 σ1 K (i + 1) rest ((t, av) :: fr)) (him : Nat.beq i m = false := by exact rfl) (hv : valOp P fr (.build bt parts) = some av0 := by exact rfl) (hn : av0 = av := by (first | (apply nf_agg; (repeat' (first | exact nf_nil | apply nf_cons | exact nf_v | exact nf_sl | exact nf_osl | exact nf_ptr | exact nf_fp | exact nf_mp | exact nf_fn | exact nf_ifc | exact nf_it | exact nf_mb | exact rfl))) | exact nf_v | exact nf_sl | exact nf_osl | exact nf_ptr | exact nf_fp | exact nf_mp | exact nf_fn | exact nf_ifc | exact nf_it | exact nf_mb | exact rfl)) : DJ P l c m σ0 σ1 K i (⟨some t, .build bt parts, ty, pos, aft, none⟩ :: rest) fr := dj_auto him (hn ▸ hv) h
theorem dbl {lt : TypeId} {x : Operand} {av0 : AV} (h : DJ P l c m σ0 σ1 K (i + 1) rest ((t, av) :: fr)) (him : Nat.beq i m = false := by exact rfl) (hv : valOp P fr (.load lt x) = some av0 := by exact rfl) (hn : av0 = av := by (first | (apply nf_agg; (repeat' (first | exact nf_nil | apply nf_cons | exact nf_v | exact nf_sl | exact nf_osl | exact nf_ptr | exact nf_fp | exact nf_mp | exact nf_fn | exact nf_ifc | exact nf_it | exact nf_mb | exact rfl))) | exact nf_v | exact nf_sl | exact nf_osl | exact nf_ptr | exact nf_fp | exact nf_mp | exact nf_fn | exact nf_ifc | exact nf_it | exact nf_mb | exact rfl)) : DJ P l c m σ0 σ1 K i (⟨some t, .load lt x, ty, pos, aft, none⟩ :: rest) fr := dj_auto him (hn ▸ hv) h
theorem d1 (h : DJ P l c m σ0 σ1 K (i + 1) rest ((t, av) :: fr)) (him : Nat.beq i m = false := by exact rfl) (hv : valOp P fr op = some av := by exact rfl) : DJ P l c m σ0 σ1 K i (⟨some t, op, ty, pos, aft, none⟩ :: rest) fr := dj_auto him hv h
theorem d2 {j u : Nat} {b : Bool} {a : AV} (h : DJ P l c m σ0 σ1 K (i + 1) rest ((t, av) :: fr)) (him : Nat.beq i m = false := by exact rfl) (hj : dstOf l j = some u := by exact rfl) (hl : lk fr u = some a := by exact rfl) (hb : a = .v (.bool b) := by with_reducible rfl) (hv : valOp P fr op = some av := by exact rfl) : DJ P l c m σ0 σ1 K i (⟨some t, op, ty, pos, aft, some (j, b)⟩ :: rest) fr := dj_autoy him hj (hb ▸ hl) hv h
theorem d3 {j u : Nat} {a : AV} (h : DJ P l c m σ0 σ1 K (i + 1) rest ((t, .tup []) :: fr)) (him : Nat.beq i m = false := by exact rfl) (hj : dstOf l j = some u := by exact rfl) (hl : lk fr u = some a := by exact rfl) (hb : a = .v (.bool false) := by with_reducible rfl) : DJ P l c m σ0 σ1 K i (⟨some t, op, ty, pos, aft, some (j, true)⟩ :: rest) fr := dj_n (dst := some t) him hj (hb ▸ hl) rfl h
theorem d3f {j u : Nat} {a : AV} (h : DJ P l c m σ0 σ1 K (i + 1) rest ((t, .tup []) :: fr)) (him : Nat.beq i m = false := by exact rfl) (hj : dstOf l j = some u := by exact rfl) (hl : lk fr u = some a := by exact rfl) (hb : a = .v (.bool true) := by with_reducible rfl) : DJ P l c m σ0 σ1 K i (⟨some t, op, ty, pos, aft, some (j, false)⟩ :: rest) fr := dj_n (dst := some t) him hj (hb ▸ hl) rfl h
theorem d7 {x y z : Operand} {b vy : Bool} (h : DJ P l c m σ0 σ1 K (i + 1) rest ((t, .v (.bool (b || vy))) :: fr)) (him : Nat.beq i m = false := by exact rfl) (hc : ev fr x = some (.v (.bool b)) := by exact rfl) (hx : ev fr y = some (.v (.bool true)) := by exact rfl) (hy : ev fr z = some (.mb (!b) (.v (.bool vy))) := by exact rfl) : DJ P l c m σ0 σ1 K i (⟨some t, .pick x y z, ty, pos, aft, none⟩ :: rest) fr := dj_store (fun _ R hR => opj_or rfl hc hx hy hR) him h
theorem d8 {x y z : Operand} {b vy : Bool} (h : DJ P l c m σ0 σ1 K (i + 1) rest ((t, .v (.bool (b && vy))) :: fr)) (him : Nat.beq i m = false := by exact rfl) (hc : ev fr x = some (.v (.bool b)) := by exact rfl) (hx : ev fr y = some (.mb b (.v (.bool vy))) := by exact rfl) (hy : ev fr z = some (.v (.bool false)) := by exact rfl) : DJ P l c m σ0 σ1 K i (⟨some t, .pick x y z, ty, pos, aft, none⟩ :: rest) fr := dj_store (fun _ R hR => opj_and rfl hc hx hy hR) him h
theorem d9 {j u : Nat} {w cc : Bool} {a : AV} (h : DJ P l c m σ0 σ1 K (i + 1) rest ((t, .mb cc av) :: fr)) (him : Nat.beq i m = false := by exact rfl) (hj : dstOf l j = some u := by exact rfl) (hl : lk fr u = some a := by exact rfl) (hg : gc a w = some cc := by exact rfl) (hv : valOp P (strip fr) op = some av := by exact rfl) (hn : Needs cc fr op.operands.toList := by repeat' (first | exact True.intro | refine And.intro ?_ ?_ | exact nd0 rfl | exact nd1 rfl | exact nd2 rfl | exact nd3 rfl | exact nd4 rfl)) : DJ P l c m σ0 σ1 K i (⟨some t, op, ty, pos, aft, some (j, w)⟩ :: rest) fr := dj_q him hj hl hg hn (fun _ R hR => opj_valOp hv hR) (fun _ R hR => opj_valOp hv hR) h
theorem d10 {j u : Nat} {w cc : Bool} {a : AV} {x y z : Operand} {b vy : Bool} (h : DJ P l c m σ0 σ1 K (i + 1) rest ((t, .mb cc (.v (.bool (b || vy)))) :: fr)) (him : Nat.beq i m = false := by exact rfl) (hj : dstOf l j = some u := by exact rfl) (hl : lk fr u = some a := by exact rfl) (hg : gc a w = some cc := by exact rfl) (hc : ev fr x = some (.mb cc (.v (.bool b))) := by exact rfl) (hx : ev fr y = some (.v (.bool true)) := by exact rfl) (hy : ev fr z = some (.mb (cc && !b) (.v (.bool vy))) := by exact rfl) : DJ P l c m σ0 σ1 K i (⟨some t, .pick x y z, ty, pos, aft, some (j, w)⟩ :: rest) fr := dj_q0 him hj hl hg (fun h σ R hR => opj_orq rfl hc hx hy h hR) h
theorem d11 {j u : Nat} {w cc : Bool} {a : AV} {x y z : Operand} {b vy : Bool} (h : DJ P l c m σ0 σ1 K (i + 1) rest ((t, .mb cc (.v (.bool (b && vy)))) :: fr)) (him : Nat.beq i m = false := by exact rfl) (hj : dstOf l j = some u := by exact rfl) (hl : lk fr u = some a := by exact rfl) (hg : gc a w = some cc := by exact rfl) (hc : ev fr x = some (.mb cc (.v (.bool b))) := by exact rfl) (hx : ev fr y = some (.mb (cc && b) (.v (.bool vy))) := by exact rfl) (hy : ev fr z = some (.v (.bool false)) := by exact rfl) : DJ P l c m σ0 σ1 K i (⟨some t, .pick x y z, ty, pos, aft, some (j, w)⟩ :: rest) fr := dj_q0 him hj hl hg (fun h σ R hR => opj_andq rfl hc hx hy h hR) h
theorem d14 {lt : TypeId} {x : Operand} {q : Option Nat} {id sz ii jj : Nat} {elem elem' : TypeId} {els els' : List (List AV)} {el el' : List AV} {av0 av1 : AV} (h : DJ P l c m σ0 σ1 K (i + 1) rest ((t, av) :: fr)) (him : Nat.beq i m = false := by exact rfl) (hx : ev fr x = some (.ptr id sz ii jj) := by exact rfl) (hq : shapeOf P lt = some q := by exact rfl) (hσ : σ0 id = some (.row sz elem els) := by first | exact St.set_same _ _ _ | assumption | (repeat' (first | exact St.set_same _ _ _ | assumption | refine St.set_keep (by assumption) ?_ | refine St.set_ne2 (by first | assumption | exact St.nn0 (by assumption) | exact St.nn1 (by assumption) | exact St.nn2 (by assumption) | exact St.nn3 (by assumption) | exact St.nn4 (by assumption) | exact St.nn5 (by assumption) | exact St.nn6 (by assumption) | exact St.nn7 (by assumption) | exact St.nn8 (by assumption) | exact St.nn9 (by assumption) | exact St.nn10 (by assumption) | exact St.nn11 (by assumption) | exact St.nn12 (by assumption) | exact St.nn13 (by assumption) | exact Ne.symm (St.nn0 (by assumption)) | exact Ne.symm (St.nn1 (by assumption)) | exact Ne.symm (St.nn2 (by assumption)) | exact Ne.symm (St.nn3 (by assumption)) | exact Ne.symm (St.nn4 (by assumption)) | exact Ne.symm (St.nn5 (by assumption)) | exact Ne.symm (St.nn6 (by assumption)) | exact Ne.symm (St.nn7 (by assumption)) | exact Ne.symm (St.nn8 (by assumption)) | exact Ne.symm (St.nn9 (by assumption)) | exact Ne.symm (St.nn10 (by assumption)) | exact Ne.symm (St.nn11 (by assumption)) | exact Ne.symm (St.nn12 (by assumption)) | exact Ne.symm (St.nn13 (by assumption)) | exact St.ne_ns (by assumption) (by repeat' (first | exact St.sn_of (by assumption) | refine St.setn ?_))) ?_))) (he : els[ii]? = some el := by exact rfl) (hp : load? (el.drop jj) q = some av0 := by exact rfl) (hnn : av0 = av := by (first | (apply nf_agg; (repeat' (first | exact nf_nil | apply nf_cons | exact nf_v | exact nf_sl | exact nf_osl | exact nf_ptr | exact nf_fp | exact nf_mp | exact nf_fn | exact nf_ifc | exact nf_it | exact nf_mb | exact rfl))) | exact nf_v | exact nf_sl | exact nf_osl | exact nf_ptr | exact nf_fp | exact nf_mp | exact nf_fn | exact nf_ifc | exact nf_it | exact nf_mb | exact rfl)) (hσ' : σ1 id = some (.row sz elem' els') := by first | exact St.set_same _ _ _ | assumption | (repeat' (first | exact St.set_same _ _ _ | assumption | refine St.set_keep (by assumption) ?_ | refine St.set_ne2 (by first | assumption | exact St.nn0 (by assumption) | exact St.nn1 (by assumption) | exact St.nn2 (by assumption) | exact St.nn3 (by assumption) | exact St.nn4 (by assumption) | exact St.nn5 (by assumption) | exact St.nn6 (by assumption) | exact St.nn7 (by assumption) | exact St.nn8 (by assumption) | exact St.nn9 (by assumption) | exact St.nn10 (by assumption) | exact St.nn11 (by assumption) | exact St.nn12 (by assumption) | exact St.nn13 (by assumption) | exact Ne.symm (St.nn0 (by assumption)) | exact Ne.symm (St.nn1 (by assumption)) | exact Ne.symm (St.nn2 (by assumption)) | exact Ne.symm (St.nn3 (by assumption)) | exact Ne.symm (St.nn4 (by assumption)) | exact Ne.symm (St.nn5 (by assumption)) | exact Ne.symm (St.nn6 (by assumption)) | exact Ne.symm (St.nn7 (by assumption)) | exact Ne.symm (St.nn8 (by assumption)) | exact Ne.symm (St.nn9 (by assumption)) | exact Ne.symm (St.nn10 (by assumption)) | exact Ne.symm (St.nn11 (by assumption)) | exact Ne.symm (St.nn12 (by assumption)) | exact Ne.symm (St.nn13 (by assumption)) | exact St.ne_ns (by assumption) (by repeat' (first | exact St.sn_of (by assumption) | refine St.setn ?_))) ?_))) (he' : els'[ii]? = some el' := by exact rfl) (hp' : load? (el'.drop jj) q = some av1 := by exact rfl) (hnn' : av1 = av := by (first | (apply nf_agg; (repeat' (first | exact nf_nil | apply nf_cons | exact nf_v | exact nf_sl | exact nf_osl | exact nf_ptr | exact nf_fp | exact nf_mp | exact nf_fn | exact nf_ifc | exact nf_it | exact nf_mb | exact rfl))) | exact nf_v | exact nf_sl | exact nf_osl | exact nf_ptr | exact nf_fp | exact nf_mp | exact nf_fn | exact nf_ifc | exact nf_it | exact nf_mb | exact rfl)) : DJ P l c m σ0 σ1 K i (⟨some t, .load lt x, ty, pos, aft, none⟩ :: rest) fr := dj_v him (fun R hR => opj_load_ptr rfl hq hx hσ he (hnn ▸ hp) hR) (fun R hR => opj_load_ptr rfl hq hx hσ' he' (hnn' ▸ hp') hR) h
theorem d15 {lt : TypeId} {x : Operand} {q : Option Nat} {id sz ii jj : Nat} {elem elem' : TypeId} {els els' : List (List AV)} {el el' : List AV} {av0 av1 : AV} {j u : Nat} {b : Bool} {a : AV} (h : DJ P l c m σ0 σ1 K (i + 1) rest ((t, av) :: fr)) (him : Nat.beq i m = false := by exact rfl) (hj : dstOf l j = some u := by exact rfl) (hl : lk fr u = some a := by exact rfl) (hb : a = .v (.bool b) := by with_reducible rfl) (hx : ev fr x = some (.ptr id sz ii jj) := by exact rfl) (hq : shapeOf P lt = some q := by exact rfl) (hσ : σ0 id = some (.row sz elem els) := by first | exact St.set_same _ _ _ | assumption | (repeat' (first | exact St.set_same _ _ _ | assumption | refine St.set_keep (by assumption) ?_ | refine St.set_ne2 (by first | assumption | exact St.nn0 (by assumption) | exact St.nn1 (by assumption) | exact St.nn2 (by assumption) | exact St.nn3 (by assumption) | exact St.nn4 (by assumption) | exact St.nn5 (by assumption) | exact St.nn6 (by assumption) | exact St.nn7 (by assumption) | exact St.nn8 (by assumption) | exact St.nn9 (by assumption) | exact St.nn10 (by assumption) | exact St.nn11 (by assumption) | exact St.nn12 (by assumption) | exact St.nn13 (by assumption) | exact Ne.symm (St.nn0 (by assumption)) | exact Ne.symm (St.nn1 (by assumption)) | exact Ne.symm (St.nn2 (by assumption)) | exact Ne.symm (St.nn3 (by assumption)) | exact Ne.symm (St.nn4 (by assumption)) | exact Ne.symm (St.nn5 (by assumption)) | exact Ne.symm (St.nn6 (by assumption)) | exact Ne.symm (St.nn7 (by assumption)) | exact Ne.symm (St.nn8 (by assumption)) | exact Ne.symm (St.nn9 (by assumption)) | exact Ne.symm (St.nn10 (by assumption)) | exact Ne.symm (St.nn11 (by assumption)) | exact Ne.symm (St.nn12 (by assumption)) | exact Ne.symm (St.nn13 (by assumption)) | exact St.ne_ns (by assumption) (by repeat' (first | exact St.sn_of (by assumption) | refine St.setn ?_))) ?_))) (he : els[ii]? = some el := by exact rfl) (hp : load? (el.drop jj) q = some av0 := by exact rfl) (hnn : av0 = av := by (first | (apply nf_agg; (repeat' (first | exact nf_nil | apply nf_cons | exact nf_v | exact nf_sl | exact nf_osl | exact nf_ptr | exact nf_fp | exact nf_mp | exact nf_fn | exact nf_ifc | exact nf_it | exact nf_mb | exact rfl))) | exact nf_v | exact nf_sl | exact nf_osl | exact nf_ptr | exact nf_fp | exact nf_mp | exact nf_fn | exact nf_ifc | exact nf_it | exact nf_mb | exact rfl)) (hσ' : σ1 id = some (.row sz elem' els') := by first | exact St.set_same _ _ _ | assumption | (repeat' (first | exact St.set_same _ _ _ | assumption | refine St.set_keep (by assumption) ?_ | refine St.set_ne2 (by first | assumption | exact St.nn0 (by assumption) | exact St.nn1 (by assumption) | exact St.nn2 (by assumption) | exact St.nn3 (by assumption) | exact St.nn4 (by assumption) | exact St.nn5 (by assumption) | exact St.nn6 (by assumption) | exact St.nn7 (by assumption) | exact St.nn8 (by assumption) | exact St.nn9 (by assumption) | exact St.nn10 (by assumption) | exact St.nn11 (by assumption) | exact St.nn12 (by assumption) | exact St.nn13 (by assumption) | exact Ne.symm (St.nn0 (by assumption)) | exact Ne.symm (St.nn1 (by assumption)) | exact Ne.symm (St.nn2 (by assumption)) | exact Ne.symm (St.nn3 (by assumption)) | exact Ne.symm (St.nn4 (by assumption)) | exact Ne.symm (St.nn5 (by assumption)) | exact Ne.symm (St.nn6 (by assumption)) | exact Ne.symm (St.nn7 (by assumption)) | exact Ne.symm (St.nn8 (by assumption)) | exact Ne.symm (St.nn9 (by assumption)) | exact Ne.symm (St.nn10 (by assumption)) | exact Ne.symm (St.nn11 (by assumption)) | exact Ne.symm (St.nn12 (by assumption)) | exact Ne.symm (St.nn13 (by assumption)) | exact St.ne_ns (by assumption) (by repeat' (first | exact St.sn_of (by assumption) | refine St.setn ?_))) ?_))) (he' : els'[ii]? = some el' := by exact rfl) (hp' : load? (el'.drop jj) q = some av1 := by exact rfl) (hnn' : av1 = av := by (first | (apply nf_agg; (repeat' (first | exact nf_nil | apply nf_cons | exact nf_v | exact nf_sl | exact nf_osl | exact nf_ptr | exact nf_fp | exact nf_mp | exact nf_fn | exact nf_ifc | exact nf_it | exact nf_mb | exact rfl))) | exact nf_v | exact nf_sl | exact nf_osl | exact nf_ptr | exact nf_fp | exact nf_mp | exact nf_fn | exact nf_ifc | exact nf_it | exact nf_mb | exact rfl)) : DJ P l c m σ0 σ1 K i (⟨some t, .load lt x, ty, pos, aft, some (j, b)⟩ :: rest) fr := dj_vy him hj (hb ▸ hl) (fun R hR => opj_load_ptr rfl hq hx hσ he (hnn ▸ hp) hR) (fun R hR => opj_load_ptr rfl hq hx hσ' he' (hnn' ▸ hp') hR) h
theorem d16 {lt : TypeId} {x : Operand} {q : Option Nat} {id sz ii jj : Nat} {elem elem' : TypeId} {els els' : List (List AV)} {el el' : List AV} {av0 av1 : AV} {j u : Nat} {w cc : Bool} {a : AV} (h : DJ P l c m σ0 σ1 K (i + 1) rest ((t, .mb cc av) :: fr)) (him : Nat.beq i m = false := by exact rfl) (hj : dstOf l j = some u := by exact rfl) (hl : lk fr u = some a := by exact rfl) (hg : gc a w = some cc := by exact rfl) (hx : ev (strip fr) x = some (.ptr id sz ii jj) := by exact rfl) (hq : shapeOf P lt = some q := by exact rfl) (hσ : σ0 id = some (.row sz elem els) := by first | exact St.set_same _ _ _ | assumption | (repeat' (first | exact St.set_same _ _ _ | assumption | refine St.set_keep (by assumption) ?_ | refine St.set_ne2 (by first | assumption | exact St.nn0 (by assumption) | exact St.nn1 (by assumption) | exact St.nn2 (by assumption) | exact St.nn3 (by assumption) | exact St.nn4 (by assumption) | exact St.nn5 (by assumption) | exact St.nn6 (by assumption) | exact St.nn7 (by assumption) | exact St.nn8 (by assumption) | exact St.nn9 (by assumption) | exact St.nn10 (by assumption) | exact St.nn11 (by assumption) | exact St.nn12 (by assumption) | exact St.nn13 (by assumption) | exact Ne.symm (St.nn0 (by assumption)) | exact Ne.symm (St.nn1 (by assumption)) | exact Ne.symm (St.nn2 (by assumption)) | exact Ne.symm (St.nn3 (by assumption)) | exact Ne.symm (St.nn4 (by assumption)) | exact Ne.symm (St.nn5 (by assumption)) | exact Ne.symm (St.nn6 (by assumption)) | exact Ne.symm (St.nn7 (by assumption)) | exact Ne.symm (St.nn8 (by assumption)) | exact Ne.symm (St.nn9 (by assumption)) | exact Ne.symm (St.nn10 (by assumption)) | exact Ne.symm (St.nn11 (by assumption)) | exact Ne.symm (St.nn12 (by assumption)) | exact Ne.symm (St.nn13 (by assumption)) | exact St.ne_ns (by assumption) (by repeat' (first | exact St.sn_of (by assumption) | refine St.setn ?_))) ?_))) (he : els[ii]? = some el := by exact rfl) (hp : load? (el.drop jj) q = some av0 := by exact rfl) (hnn : av0 = av := by (first | (apply nf_agg; (repeat' (first | exact nf_nil | apply nf_cons | exact nf_v | exact nf_sl | exact nf_osl | exact nf_ptr | exact nf_fp | exact nf_mp | exact nf_fn | exact nf_ifc | exact nf_it | exact nf_mb | exact rfl))) | exact nf_v | exact nf_sl | exact nf_osl | exact nf_ptr | exact nf_fp | exact nf_mp | exact nf_fn | exact nf_ifc | exact nf_it | exact nf_mb | exact rfl)) (hσ' : σ1 id = some (.row sz elem' els') := by first | exact St.set_same _ _ _ | assumption | (repeat' (first | exact St.set_same _ _ _ | assumption | refine St.set_keep (by assumption) ?_ | refine St.set_ne2 (by first | assumption | exact St.nn0 (by assumption) | exact St.nn1 (by assumption) | exact St.nn2 (by assumption) | exact St.nn3 (by assumption) | exact St.nn4 (by assumption) | exact St.nn5 (by assumption) | exact St.nn6 (by assumption) | exact St.nn7 (by assumption) | exact St.nn8 (by assumption) | exact St.nn9 (by assumption) | exact St.nn10 (by assumption) | exact St.nn11 (by assumption) | exact St.nn12 (by assumption) | exact St.nn13 (by assumption) | exact Ne.symm (St.nn0 (by assumption)) | exact Ne.symm (St.nn1 (by assumption)) | exact Ne.symm (St.nn2 (by assumption)) | exact Ne.symm (St.nn3 (by assumption)) | exact Ne.symm (St.nn4 (by assumption)) | exact Ne.symm (St.nn5 (by assumption)) | exact Ne.symm (St.nn6 (by assumption)) | exact Ne.symm (St.nn7 (by assumption)) | exact Ne.symm (St.nn8 (by assumption)) | exact Ne.symm (St.nn9 (by assumption)) | exact Ne.symm (St.nn10 (by assumption)) | exact Ne.symm (St.nn11 (by assumption)) | exact Ne.symm (St.nn12 (by assumption)) | exact Ne.symm (St.nn13 (by assumption)) | exact St.ne_ns (by assumption) (by repeat' (first | exact St.sn_of (by assumption) | refine St.setn ?_))) ?_))) (he' : els'[ii]? = some el' := by exact rfl) (hp' : load? (el'.drop jj) q = some av1 := by exact rfl) (hnn' : av1 = av := by (first | (apply nf_agg; (repeat' (first | exact nf_nil | apply nf_cons | exact nf_v | exact nf_sl | exact nf_osl | exact nf_ptr | exact nf_fp | exact nf_mp | exact nf_fn | exact nf_ifc | exact nf_it | exact nf_mb | exact rfl))) | exact nf_v | exact nf_sl | exact nf_osl | exact nf_ptr | exact nf_fp | exact nf_mp | exact nf_fn | exact nf_ifc | exact nf_it | exact nf_mb | exact rfl)) (hn : Needs cc fr (Op.load lt x).operands.toList := by repeat' (first | exact True.intro | refine And.intro ?_ ?_ | exact nd0 rfl | exact nd1 rfl | exact nd2 rfl | exact nd3 rfl | exact nd4 rfl)) : DJ P l c m σ0 σ1 K i (⟨some t, .load lt x, ty, pos, aft, some (j, w)⟩ :: rest) fr := dj_q him hj hl hg hn (fun _ R hR => opj_load_ptr rfl hq hx hσ he (hnn ▸ hp) hR) (fun _ R hR => opj_load_ptr rfl hq hx hσ' he' (hnn' ▸ hp') hR) h
theorem d18 {st : TypeId} {x ix : Operand} {s : ByteArray} {kk : IntKind} {n : Int} (h : DJ P l c m σ0 σ1 K (i + 1) rest ((t, .v (.int .u8 (sb s n))) :: fr)) (him : Nat.beq i m = false := by exact rfl) (ht : P.underlying st = some .string := by exact rfl) (hx : ev fr x = some (.v (.string s)) := by exact rfl) (hi : ev fr ix = some (.v (.int kk n)) := by exact rfl) (h0 : 0 ≤ n := by first | omega | (simp (disch := omega) only [w64, sb_bt, Int.toNat_zero, Int.toNat_one]; omega)) (h1 : n < s.size := by first | omega | (simp (disch := omega) only [w64, sb_bt, Int.toNat_zero, Int.toNat_one]; omega)) : DJ P l c m σ0 σ1 K i (⟨some t, .index st x ix, ty, pos, aft, none⟩ :: rest) fr := dj_store (fun _ R hR => opj_index_str rfl ht hx hi h0 h1 hR) him h
theorem d25 {x y : Operand} {a b : ByteArray} {t1 t2 : TypeId} (h : DJ P l c m σ0 σ1 K (i + 1) rest ((t, .v (.string (a ++ b))) :: fr)) (him : Nat.beq i m = false := by exact rfl) (hx : ev fr x = some (.v (.string a)) := by exact rfl) (hy : ev fr y = some (.v (.string b)) := by exact rfl) (hb : a.size + b.size ≤ 9223372036854775807 := by (first | omega | (simp only [bsz, ByteArray.size_append, List.length_cons, List.length_nil, List.length_append, Nat.reduceAdd]; omega) | (simp only [bsz, ByteArray.size_append, List.length_cons, List.length_nil, List.length_append, Nat.reduceAdd] at *; omega))) : DJ P l c m σ0 σ1 K i (⟨some t, .binOp .add t1 x y t2, ty, pos, aft, none⟩ :: rest) fr := dj_store (fun _ R hR => opj_concat rfl hx hy hb hR) him h
theorem d19 {st : TypeId} {x ix : Operand} {s : ByteArray} {kk : IntKind} {n : Int} {j u : Nat} {b : Bool} {a : AV} (h : DJ P l c m σ0 σ1 K (i + 1) rest ((t, .v (.int .u8 (sb s n))) :: fr)) (him : Nat.beq i m = false := by exact rfl) (hj : dstOf l j = some u := by exact rfl) (hl : lk fr u = some a := by exact rfl) (hb : a = .v (.bool b) := by with_reducible rfl) (ht : P.underlying st = some .string := by exact rfl) (hx : ev fr x = some (.v (.string s)) := by exact rfl) (hi : ev fr ix = some (.v (.int kk n)) := by exact rfl) (h0 : 0 ≤ n := by first | omega | (simp (disch := omega) only [w64, sb_bt, Int.toNat_zero, Int.toNat_one]; omega)) (h1 : n < s.size := by first | omega | (simp (disch := omega) only [w64, sb_bt, Int.toNat_zero, Int.toNat_one]; omega)) : DJ P l c m σ0 σ1 K i (⟨some t, .index st x ix, ty, pos, aft, some (j, b)⟩ :: rest) fr := dj_storey (fun _ R hR => opj_index_str rfl ht hx hi h0 h1 hR) him hj (hb ▸ hl) h
theorem d20 {st : TypeId} {x ix : Operand} {s : ByteArray} {kk : IntKind} {n : Int} {j u : Nat} {w cc : Bool} {a : AV} (h : DJ P l c m σ0 σ1 K (i + 1) rest ((t, .mb cc (.v (.int .u8 (sb s n)))) :: fr)) (him : Nat.beq i m = false := by exact rfl) (hj : dstOf l j = some u := by exact rfl) (hl : lk fr u = some a := by exact rfl) (hg : gc a w = some cc := by exact rfl) (ht : P.underlying st = some .string := by exact rfl) (hx : ev (strip fr) x = some (.v (.string s)) := by exact rfl) (hi : ev (strip fr) ix = some (.v (.int kk n)) := by exact rfl) (hn : Needs cc fr (Op.index st x ix).operands.toList := by repeat' (first | exact True.intro | refine And.intro ?_ ?_ | exact nd0 rfl | exact nd1 rfl | exact nd2 rfl | exact nd3 rfl | exact nd4 rfl)) (h0 : cc = true → 0 ≤ n := by intro h; first | omega | (simp only [Bool.and_eq_true, decide_eq_true_eq, Bool.not_eq_true', decide_eq_false_iff_not] at h; omega) | (simp only [Bool.and_eq_true, decide_eq_true_eq, Bool.not_eq_true', decide_eq_false_iff_not] at h; simp (disch := omega) only [w64, sb_bt, Int.toNat_zero, Int.toNat_one] at h ⊢; omega)) (h1 : cc = true → n < s.size := by intro h; first | omega | (simp only [Bool.and_eq_true, decide_eq_true_eq, Bool.not_eq_true', decide_eq_false_iff_not] at h; omega) | (simp only [Bool.and_eq_true, decide_eq_true_eq, Bool.not_eq_true', decide_eq_false_iff_not] at h; simp (disch := omega) only [w64, sb_bt, Int.toNat_zero, Int.toNat_one] at h ⊢; omega)) : DJ P l c m σ0 σ1 K i (⟨some t, .index st x ix, ty, pos, aft, some (j, w)⟩ :: rest) fr := dj_q him hj hl hg hn (fun hc R hR => opj_index_str rfl ht hx hi (h0 hc) (h1 hc) hR) (fun hc R hR => opj_index_str rfl ht hx hi (h0 hc) (h1 hc) hR) h
theorem d21 {st : TypeId} {x : Operand} {lo hi : Option Operand} {s : ByteArray} {b k : Int} (h : DJ P l c m σ0 σ1 K (i + 1) rest ((t, .v (.string (s.extract b.toNat k.toNat))) :: fr)) (him : Nat.beq i m = false := by exact rfl) (ht : P.underlying st = some .string := by exact rfl) (hx : ev fr x = some (.v (.string s)) := by exact rfl) (hlo : bound (ev fr) 0 lo = some b := by exact rfl) (hhi : bound (ev fr) s.size hi = some k := by exact rfl) (h0 : 0 ≤ b := by first | omega | (simp (disch := omega) only [w64, sb_bt, Int.toNat_zero, Int.toNat_one]; omega)) (h1 : b ≤ k := by first | omega | (simp (disch := omega) only [w64, sb_bt, Int.toNat_zero, Int.toNat_one]; omega)) (h2 : k ≤ s.size := by first | omega | (simp (disch := omega) only [w64, sb_bt, Int.toNat_zero, Int.toNat_one]; omega)) : DJ P l c m σ0 σ1 K i (⟨some t, .slice st x lo hi none, ty, pos, aft, none⟩ :: rest) fr := dj_store (fun _ R hR => opj_slice_str rfl ht hx hlo hhi h0 h1 h2 hR) him h
theorem dp {f : FuncId} {xs : Array Operand} {ts : Array TypeId} {as : List AV} {r : AV} (hp : Pure P f as r) (h : DJ P l c m σ0 σ1 K (i + 1) rest ((t, r) :: fr)) (him : Nat.beq i m = false := by exact rfl) (has : evs fr xs.toList = some as := by exact rfl) (hent : entered P f = true := by exact rfl) : DJ P l c m σ0 σ1 K i (⟨some t, .call { callee := .value (.func f), args := xs, argTypes := ts }, ty, pos, aft, none⟩ :: rest) fr := dj_pure (dst := some t) him has hent hp h
theorem dpy {f : FuncId} {xs : Array Operand} {ts : Array TypeId} {as : List AV} {r : AV} {j u : Nat} {b : Bool} {a : AV} (hp : Pure P f as r) (h : DJ P l c m σ0 σ1 K (i + 1) rest ((t, r) :: fr)) (him : Nat.beq i m = false := by exact rfl) (hj : dstOf l j = some u := by exact rfl) (hl : lk fr u = some a := by exact rfl) (hb : a = .v (.bool b) := by with_reducible rfl) (has : evs fr xs.toList = some as := by exact rfl) (hent : entered P f = true := by exact rfl) : DJ P l c m σ0 σ1 K i (⟨some t, .call { callee := .value (.func f), args := xs, argTypes := ts }, ty, pos, aft, some (j, b)⟩ :: rest) fr := dj_purey (dst := some t) him hj (hb ▸ hl) has hent hp h
theorem dpq {f : FuncId} {xs : Array Operand} {ts : Array TypeId} {as : List AV} {r : AV} {j u : Nat} {w cc : Bool} {a : AV} (h : DJ P l c m σ0 σ1 K (i + 1) rest ((t, .mb cc r) :: fr)) (him : Nat.beq i m = false := by exact rfl) (hj : dstOf l j = some u := by exact rfl) (hl : lk fr u = some a := by exact rfl) (hg : gc a w = some cc := by exact rfl) (has : evs (strip fr) xs.toList = some as := by exact rfl) (hent : entered P f = true := by exact rfl) (hn : Needs cc fr (Op.call { callee := .value (.func f), args := xs, argTypes := ts }).operands.toList := by repeat' (first | exact True.intro | refine And.intro ?_ ?_ | exact nd0 rfl | exact nd1 rfl | exact nd2 rfl | exact nd3 rfl | exact nd4 rfl)) (hp : cc = true → Pure P f as r) : DJ P l c m σ0 σ1 K i (⟨some t, .call { callee := .value (.func f), args := xs, argTypes := ts }, ty, pos, aft, some (j, w)⟩ :: rest) fr := dj_pureq him hj hl hg hn has hent hp h
/-- A region that draws its order; operation m turns the store. -/
theorem cqm (m : Nat) {σ1 : St} {id : Nat} {Q : Post} (hmix : P.follows .mixedOrders = true := by kernel_rfl) (hc : clo l [] = c := by exact rfl) (hp : planB l nt c = true := by kernel_rfl) (hm : Nat.blt m l.length = true := by exact rfl) (h : DJ P l c m σ σ1 (fun fr' => Q .normal fr' σ1) 0 l fr) : CJ P nt (.region id l.toArray true) Q fr σ := cj_drawn hmix m _ hc hp (.inl (Nat.blt_eq.mp hm)) h
theorem d14a {lt : TypeId} {x : Operand} {q : Option Nat} {id sz ii jj : Nat} {elem : TypeId} {els : List (List AV)} {el : List AV} {av0 : AV} (h : DJ P l c m σ0 σ1 K (i + 1) rest ((t, av) :: fr)) (him : Nat.beq i m = false := by exact rfl) (hx : ev fr x = some (.ptr id sz ii jj) := by exact rfl) (hq : shapeOf P lt = some q := by exact rfl) (hσ : σ0 id = some (.row sz elem els) := by first | exact St.set_same _ _ _ | assumption | (repeat' (first | exact St.set_same _ _ _ | assumption | refine St.set_keep (by assumption) ?_ | refine St.set_ne2 (by first | assumption | exact St.nn0 (by assumption) | exact St.nn1 (by assumption) | exact St.nn2 (by assumption) | exact St.nn3 (by assumption) | exact St.nn4 (by assumption) | exact St.nn5 (by assumption) | exact St.nn6 (by assumption) | exact St.nn7 (by assumption) | exact St.nn8 (by assumption) | exact St.nn9 (by assumption) | exact St.nn10 (by assumption) | exact St.nn11 (by assumption) | exact St.nn12 (by assumption) | exact St.nn13 (by assumption) | exact Ne.symm (St.nn0 (by assumption)) | exact Ne.symm (St.nn1 (by assumption)) | exact Ne.symm (St.nn2 (by assumption)) | exact Ne.symm (St.nn3 (by assumption)) | exact Ne.symm (St.nn4 (by assumption)) | exact Ne.symm (St.nn5 (by assumption)) | exact Ne.symm (St.nn6 (by assumption)) | exact Ne.symm (St.nn7 (by assumption)) | exact Ne.symm (St.nn8 (by assumption)) | exact Ne.symm (St.nn9 (by assumption)) | exact Ne.symm (St.nn10 (by assumption)) | exact Ne.symm (St.nn11 (by assumption)) | exact Ne.symm (St.nn12 (by assumption)) | exact Ne.symm (St.nn13 (by assumption)) | exact St.ne_ns (by assumption) (by repeat' (first | exact St.sn_of (by assumption) | refine St.setn ?_))) ?_))) (he : els[ii]? = some el := by exact rfl) (hp : load? (el.drop jj) q = some av0 := by exact rfl) (hnn : av0 = av := by (first | (apply nf_agg; (repeat' (first | exact nf_nil | apply nf_cons | exact nf_v | exact nf_sl | exact nf_osl | exact nf_ptr | exact nf_fp | exact nf_mp | exact nf_fn | exact nf_ifc | exact nf_it | exact nf_mb | exact rfl))) | exact nf_v | exact nf_sl | exact nf_osl | exact nf_ptr | exact nf_fp | exact nf_mp | exact nf_fn | exact nf_ifc | exact nf_it | exact nf_mb | exact rfl)) (hc : memB c m i = true := by decide +kernel) : DJ P l c m σ0 σ1 K i (⟨some t, .load lt x, ty, pos, aft, none⟩ :: rest) fr := dj_v0 him hc (fun R hR => opj_load_ptr rfl hq hx hσ he (hnn ▸ hp) hR) h
theorem cqs (m a : Nat) (o : AObj) {id : Nat} {Q : Post} (h : DJ P l c m σ (σ.set a o) (fun fr' => Q .normal fr' (σ.set a o)) 0 l fr) (hmix : P.follows .mixedOrders = true := by kernel_rfl) (hc : clo l [] = c := by exact rfl) (hp : planB l nt c = true := by kernel_rfl) (hm : Nat.blt m l.length = true := by exact rfl) : CJ P nt (.region id l.toArray true) Q fr σ := cj_drawn hmix m _ hc hp (.inl (Nat.blt_eq.mp hm)) h
theorem d17 {st elem : TypeId} {x y : Operand} {id sz ii jj k : Nat} {els : List (List AV)} {el cs : List AV} {a : AV} (h : DJ P l c m σ0 σ1 K (i + 1) rest fr) (him : Nat.beq i m = true := by exact rfl) (hx : ev fr x = some (.ptr id sz ii jj) := by exact rfl) (hy : ev fr y = some a := by exact rfl) (hm : sizeIs P st = some k := by exact rfl) (hσ : σ0 id = some (.row sz elem els) := by first | exact St.set_same _ _ _ | assumption | (repeat' (first | exact St.set_same _ _ _ | assumption | refine St.set_keep (by assumption) ?_ | refine St.set_ne2 (by first | assumption | exact St.nn0 (by assumption) | exact St.nn1 (by assumption) | exact St.nn2 (by assumption) | exact St.nn3 (by assumption) | exact St.nn4 (by assumption) | exact St.nn5 (by assumption) | exact St.nn6 (by assumption) | exact St.nn7 (by assumption) | exact St.nn8 (by assumption) | exact St.nn9 (by assumption) | exact St.nn10 (by assumption) | exact St.nn11 (by assumption) | exact St.nn12 (by assumption) | exact St.nn13 (by assumption) | exact Ne.symm (St.nn0 (by assumption)) | exact Ne.symm (St.nn1 (by assumption)) | exact Ne.symm (St.nn2 (by assumption)) | exact Ne.symm (St.nn3 (by assumption)) | exact Ne.symm (St.nn4 (by assumption)) | exact Ne.symm (St.nn5 (by assumption)) | exact Ne.symm (St.nn6 (by assumption)) | exact Ne.symm (St.nn7 (by assumption)) | exact Ne.symm (St.nn8 (by assumption)) | exact Ne.symm (St.nn9 (by assumption)) | exact Ne.symm (St.nn10 (by assumption)) | exact Ne.symm (St.nn11 (by assumption)) | exact Ne.symm (St.nn12 (by assumption)) | exact Ne.symm (St.nn13 (by assumption)) | exact St.ne_ns (by assumption) (by repeat' (first | exact St.sn_of (by assumption) | refine St.setn ?_))) ?_))) (he : els[ii]? = some el := by exact rfl) (hc : cellsOf a = some cs := by exact rfl) (hl : cs.length = k := by exact rfl) (hj : Nat.ble (jj + cs.length) el.length = true := by exact rfl) (hs : σ1 = σ0.set id (.row sz elem (els.set ii (el.take jj ++ cs ++ el.drop (jj + cs.length)))) := by exact rfl) :
    DJ P l c m σ0 σ1 K i (⟨none, .store st x y, ty, pos, aft, none⟩ :: rest) fr := dj_m him (fun R hR => opj_store rfl hm hx hy hσ he hc hl (Nat.le_of_ble_eq_true hj) (hs ▸ hR)) h
/-- A call that turns nothing, ahead of m; or anywhere. -/
theorem dka {f : FuncId} {xs : Array Operand} {ts : Array TypeId} {as : List AV} {r : AV} (h : DJ P l c m σ0 σ1 K (i + 1) rest ((t, r) :: fr)) (him : Nat.beq i m = false := by exact rfl) (has : evs fr xs.toList = some as := by exact rfl) (hent : entered P f = true := by exact rfl) (hc : memB c m i = true := by decide +kernel) (hp : ACalls P f as σ0 (fun e σ' => e = .ret r ∧ σ' = σ0)) :
    DJ P l c m σ0 σ1 K i (⟨some t, .call { callee := .value (.func f), args := xs, argTypes := ts }, ty, pos, aft, none⟩ :: rest) fr := dj_cons (factb_none rfl (onb_ne him (fun _ => opw_calls has hent hp) (fun e => by rw [hc] at e; cases e))) h
theorem dkb {f : FuncId} {xs : Array Operand} {ts : Array TypeId} {as : List AV} {r : AV} (h : DJ P l c m σ0 σ1 K (i + 1) rest ((t, r) :: fr)) (him : Nat.beq i m = false := by exact rfl) (has : evs fr xs.toList = some as := by exact rfl) (hent : entered P f = true := by exact rfl) (hp : ACalls P f as σ0 (fun e σ' => e = .ret r ∧ σ' = σ0)) (hp' : ACalls P f as σ1 (fun e σ' => e = .ret r ∧ σ' = σ1)) :
    DJ P l c m σ0 σ1 K i (⟨some t, .call { callee := .value (.func f), args := xs, argTypes := ts }, ty, pos, aft, none⟩ :: rest) fr := dj_keeps (dst := some t) him has hent hp hp' h
theorem opj_tf {o : Oper} {R : Option AV → St → Prop} {x y z : Operand} {b : Bool} {σ : St} (ho : o.op = .pick x y z) (hc : ev fr x = some (.v (.bool b))) (hx : ev fr y = some (.v (.bool true))) (hy : ev fr z = some (.v (.bool false))) (hR : R (some (.v (.bool b))) σ) : OpJ P o (ev fr) σ R :=
  opj_quiet _ (fun k e hσ hk hr => by
    have m1 : x ∈ o.op.operands := by rw [ho]; simp [Op.operands]
    have m2 : y ∈ o.op.operands := by rw [ho]; simp [Op.operands]
    have m3 : z ∈ o.op.operands := by rw [ho]; simp [Op.operands]
    refine ⟨_, run_pick ho (rep_v (hr x m1 _ hc)), ?_⟩
    cases b with
    | true => exact hr y m2 _ hx
    | false => exact hr z m3 _ hy) hR
theorem deq {et et' : TypeId} {x y : Operand} {xs ys : List AV} {r : Bool} (h : DJ P l c m σ0 σ1 K (i + 1) rest ((t, .v (.bool (r))) :: fr)) (him : Nat.beq i m = false := by exact rfl) (hx : ev fr x = some (.agg xs) := by exact rfl) (hy : ev fr y = some (.agg ys) := by exact rfl) (he : eqV P 5 et (.agg xs) (.agg ys) = some r := by exact rfl) (hgt : P.eqGuardType P.depth et = false := by kernel_rfl) : DJ P l c m σ0 σ1 K i (⟨some t, .binOp .eql et x y et', ty, pos, aft, none⟩ :: rest) fr := dj_store (fun _ R hR => opj_eq_agg rfl hx hy hgt (by decide) he hR) him h
theorem deqq {et et' : TypeId} {x y : Operand} {xs ys : List AV} {r : Bool} {j u : Nat} {w cc : Bool} {a : AV} (h : DJ P l c m σ0 σ1 K (i + 1) rest ((t, .mb cc (.v (.bool (r)))) :: fr)) (him : Nat.beq i m = false := by exact rfl) (hj : dstOf l j = some u := by exact rfl) (hl : lk fr u = some a := by exact rfl) (hg : gc a w = some cc := by exact rfl) (hx : ev (strip fr) x = some (.agg xs) := by exact rfl) (hy : ev (strip fr) y = some (.agg ys) := by exact rfl) (he : eqV P 5 et (.agg xs) (.agg ys) = some r := by exact rfl) (hgt : P.eqGuardType P.depth et = false := by kernel_rfl) (hn : Needs cc fr (Op.binOp .eql et x y et').operands.toList := by repeat' (first | exact True.intro | refine And.intro ?_ ?_ | exact nd0 rfl | exact nd1 rfl | exact nd2 rfl | exact nd3 rfl | exact nd4 rfl)) : DJ P l c m σ0 σ1 K i (⟨some t, .binOp .eql et x y et', ty, pos, aft, some (j, w)⟩ :: rest) fr := dj_q him hj hl hg hn (fun _ R hR => opj_eq_agg rfl hx hy hgt (by decide) he hR) (fun _ R hR => opj_eq_agg rfl hx hy hgt (by decide) he hR) h
theorem jeq {ops : Array Oper} {Q : Post} {et et' : TypeId} {x y : Operand} {xs ys : List AV} {r : Bool} (h : LJ P nt ops Q rest ((t, .v (.bool (r))) :: fr) σ) (hx : ev fr x = some (.agg xs) := by exact rfl) (hy : ev fr y = some (.agg ys) := by exact rfl) (he : eqV P 5 et (.agg xs) (.agg ys) = some r := by exact rfl) (hgt : P.eqGuardType P.depth et = false := by kernel_rfl) (hd : fits nt (some t) = true := by exact rfl) : LJ P nt ops Q (⟨some t, .binOp .eql et x y et', ty, pos, aft, none⟩ :: rest) fr σ := lj_v hd (fun R hR => opj_eq_agg rfl hx hy hgt (by decide) he hR) h
theorem jeqq {ops : Array Oper} {Q : Post} {et et' : TypeId} {x y : Operand} {xs ys : List AV} {r : Bool} {j u : Nat} {w cc : Bool} {a : AV} (h : LJ P nt ops Q rest ((t, .mb cc (.v (.bool (r)))) :: fr) σ) (hj : (ops[j]?).bind (·.dst) = some u := by exact rfl) (hl : lk fr u = some a := by exact rfl) (hg : gc a w = some cc := by exact rfl) (hx : ev (strip fr) x = some (.agg xs) := by exact rfl) (hy : ev (strip fr) y = some (.agg ys) := by exact rfl) (he : eqV P 5 et (.agg xs) (.agg ys) = some r := by exact rfl) (hgt : P.eqGuardType P.depth et = false := by kernel_rfl) (hn : Needs cc fr (Op.binOp .eql et x y et').operands.toList := by repeat' (first | exact True.intro | refine And.intro ?_ ?_ | exact nd0 rfl | exact nd1 rfl | exact nd2 rfl | exact nd3 rfl | exact nd4 rfl)) (hd : fits nt (some t) = true := by exact rfl) : LJ P nt ops Q (⟨some t, .binOp .eql et x y et', ty, pos, aft, some (j, w)⟩ :: rest) fr σ := lj_q hd hj hl hg hn (fun _ R hR => opj_eq_agg rfl hx hy hgt (by decide) he hR) h
theorem dne {et et' : TypeId} {x y : Operand} {xs ys : List AV} {r : Bool} (h : DJ P l c m σ0 σ1 K (i + 1) rest ((t, .v (.bool (!r))) :: fr)) (him : Nat.beq i m = false := by exact rfl) (hx : ev fr x = some (.agg xs) := by exact rfl) (hy : ev fr y = some (.agg ys) := by exact rfl) (he : eqV P 5 et (.agg xs) (.agg ys) = some r := by exact rfl) (hgt : P.eqGuardType P.depth et = false := by kernel_rfl) : DJ P l c m σ0 σ1 K i (⟨some t, .binOp .neq et x y et', ty, pos, aft, none⟩ :: rest) fr := dj_store (fun _ R hR => opj_ne_agg rfl hx hy hgt (by decide) he hR) him h
theorem dneq {et et' : TypeId} {x y : Operand} {xs ys : List AV} {r : Bool} {j u : Nat} {w cc : Bool} {a : AV} (h : DJ P l c m σ0 σ1 K (i + 1) rest ((t, .mb cc (.v (.bool (!r)))) :: fr)) (him : Nat.beq i m = false := by exact rfl) (hj : dstOf l j = some u := by exact rfl) (hl : lk fr u = some a := by exact rfl) (hg : gc a w = some cc := by exact rfl) (hx : ev (strip fr) x = some (.agg xs) := by exact rfl) (hy : ev (strip fr) y = some (.agg ys) := by exact rfl) (he : eqV P 5 et (.agg xs) (.agg ys) = some r := by exact rfl) (hgt : P.eqGuardType P.depth et = false := by kernel_rfl) (hn : Needs cc fr (Op.binOp .neq et x y et').operands.toList := by repeat' (first | exact True.intro | refine And.intro ?_ ?_ | exact nd0 rfl | exact nd1 rfl | exact nd2 rfl | exact nd3 rfl | exact nd4 rfl)) : DJ P l c m σ0 σ1 K i (⟨some t, .binOp .neq et x y et', ty, pos, aft, some (j, w)⟩ :: rest) fr := dj_q him hj hl hg hn (fun _ R hR => opj_ne_agg rfl hx hy hgt (by decide) he hR) (fun _ R hR => opj_ne_agg rfl hx hy hgt (by decide) he hR) h
theorem jne {ops : Array Oper} {Q : Post} {et et' : TypeId} {x y : Operand} {xs ys : List AV} {r : Bool} (h : LJ P nt ops Q rest ((t, .v (.bool (!r))) :: fr) σ) (hx : ev fr x = some (.agg xs) := by exact rfl) (hy : ev fr y = some (.agg ys) := by exact rfl) (he : eqV P 5 et (.agg xs) (.agg ys) = some r := by exact rfl) (hgt : P.eqGuardType P.depth et = false := by kernel_rfl) (hd : fits nt (some t) = true := by exact rfl) : LJ P nt ops Q (⟨some t, .binOp .neq et x y et', ty, pos, aft, none⟩ :: rest) fr σ := lj_v hd (fun R hR => opj_ne_agg rfl hx hy hgt (by decide) he hR) h
theorem jneq {ops : Array Oper} {Q : Post} {et et' : TypeId} {x y : Operand} {xs ys : List AV} {r : Bool} {j u : Nat} {w cc : Bool} {a : AV} (h : LJ P nt ops Q rest ((t, .mb cc (.v (.bool (!r)))) :: fr) σ) (hj : (ops[j]?).bind (·.dst) = some u := by exact rfl) (hl : lk fr u = some a := by exact rfl) (hg : gc a w = some cc := by exact rfl) (hx : ev (strip fr) x = some (.agg xs) := by exact rfl) (hy : ev (strip fr) y = some (.agg ys) := by exact rfl) (he : eqV P 5 et (.agg xs) (.agg ys) = some r := by exact rfl) (hgt : P.eqGuardType P.depth et = false := by kernel_rfl) (hn : Needs cc fr (Op.binOp .neq et x y et').operands.toList := by repeat' (first | exact True.intro | refine And.intro ?_ ?_ | exact nd0 rfl | exact nd1 rfl | exact nd2 rfl | exact nd3 rfl | exact nd4 rfl)) (hd : fits nt (some t) = true := by exact rfl) : LJ P nt ops Q (⟨some t, .binOp .neq et x y et', ty, pos, aft, some (j, w)⟩ :: rest) fr σ := lj_q hd hj hl hg hn (fun _ R hR => opj_ne_agg rfl hx hy hgt (by decide) he hR) h
theorem dtf {x y z : Operand} {b : Bool} (h : DJ P l c m σ0 σ1 K (i + 1) rest ((t, .v (.bool b)) :: fr)) (him : Nat.beq i m = false := by exact rfl) (hc : ev fr x = some (.v (.bool b)) := by exact rfl) (hx : ev fr y = some (.v (.bool true)) := by exact rfl) (hy : ev fr z = some (.v (.bool false)) := by exact rfl) : DJ P l c m σ0 σ1 K i (⟨some t, .pick x y z, ty, pos, aft, none⟩ :: rest) fr := dj_store (fun _ R hR => opj_tf rfl hc hx hy hR) him h
theorem jtf {ops : Array Oper} {Q : Post} {x y z : Operand} {b : Bool} (h : LJ P nt ops Q rest ((t, .v (.bool b)) :: fr) σ) (hc : ev fr x = some (.v (.bool b)) := by exact rfl) (hx : ev fr y = some (.v (.bool true)) := by exact rfl) (hy : ev fr z = some (.v (.bool false)) := by exact rfl) (hd : fits nt (some t) = true := by exact rfl) : LJ P nt ops Q (⟨some t, .pick x y z, ty, pos, aft, none⟩ :: rest) fr σ := lj_v hd (fun R hR => opj_tf rfl hc hx hy hR) h
theorem dcb {s d et : TypeId} {x : Operand} {v : AV} {lb : List UInt8} (h : DJ P l c m σ0 σ1 K (i + 1) rest ((t, .v (.string ⟨lb.toArray⟩)) :: fr)) (him : Nat.beq i m = false := by exact rfl) (hs : P.underlying s = some (.slice et) := by exact rfl) (he : P.underlying et = some (.int .u8) := by exact rfl) (hdd : P.underlying d = some .string := by exact rfl) (hx : ev fr x = some v := by exact rfl) (hsr : srcOf σ0 v = some (1, bys lb) := by exact rfl) (hsr' : srcOf σ1 v = some (1, bys lb) := by exact rfl) : DJ P l c m σ0 σ1 K i (⟨some t, .convert s d x, ty, pos, aft, none⟩ :: rest) fr := dj_v him (fun R hR => opj_conv_bytes rfl hs he hdd hx hsr hR) (fun R hR => opj_conv_bytes rfl hs he hdd hx hsr' hR) h
theorem dcbq {s d et : TypeId} {x : Operand} {v : AV} {lb : List UInt8} {j u : Nat} {w cc : Bool} {a : AV} (h : DJ P l c m σ0 σ1 K (i + 1) rest ((t, .mb cc (.v (.string ⟨lb.toArray⟩))) :: fr)) (him : Nat.beq i m = false := by exact rfl) (hj : dstOf l j = some u := by exact rfl) (hl : lk fr u = some a := by exact rfl) (hg : gc a w = some cc := by exact rfl) (hs : P.underlying s = some (.slice et) := by exact rfl) (he : P.underlying et = some (.int .u8) := by exact rfl) (hdd : P.underlying d = some .string := by exact rfl) (hx : ev (strip fr) x = some v := by exact rfl) (hsr : srcOf σ0 v = some (1, bys lb) := by exact rfl) (hsr' : srcOf σ1 v = some (1, bys lb) := by exact rfl) (hn : Needs cc fr (Op.convert s d x).operands.toList := by repeat' (first | exact True.intro | refine And.intro ?_ ?_ | exact nd0 rfl | exact nd1 rfl | exact nd2 rfl | exact nd3 rfl | exact nd4 rfl)) : DJ P l c m σ0 σ1 K i (⟨some t, .convert s d x, ty, pos, aft, some (j, w)⟩ :: rest) fr := dj_q him hj hl hg hn (fun _ R hR => opj_conv_bytes rfl hs he hdd hx hsr hR) (fun _ R hR => opj_conv_bytes rfl hs he hdd hx hsr' hR) h
theorem jcbq {ops : Array Oper} {Q : Post} {s d et : TypeId} {x : Operand} {v : AV} {lb : List UInt8} {j u : Nat} {w cc : Bool} {a : AV} (h : LJ P nt ops Q rest ((t, .mb cc (.v (.string ⟨lb.toArray⟩))) :: fr) σ) (hj : (ops[j]?).bind (·.dst) = some u := by exact rfl) (hl : lk fr u = some a := by exact rfl) (hg : gc a w = some cc := by exact rfl) (hs : P.underlying s = some (.slice et) := by exact rfl) (he : P.underlying et = some (.int .u8) := by exact rfl) (hdd : P.underlying d = some .string := by exact rfl) (hx : ev (strip fr) x = some v := by exact rfl) (hsr : srcOf σ v = some (1, bys lb) := by exact rfl) (hn : Needs cc fr (Op.convert s d x).operands.toList := by repeat' (first | exact True.intro | refine And.intro ?_ ?_ | exact nd0 rfl | exact nd1 rfl | exact nd2 rfl | exact nd3 rfl | exact nd4 rfl)) (hd : fits nt (some t) = true := by exact rfl) : LJ P nt ops Q (⟨some t, .convert s d x, ty, pos, aft, some (j, w)⟩ :: rest) fr σ := lj_q hd hj hl hg hn (fun _ R hR => opj_conv_bytes rfl hs he hdd hx hsr hR) h
end
end Go.Proofs.YtcpokdjppedaoaaDoor.Ab

/- Abstract values over the model's memory: what is kept. -/
set_option linter.unusedVariables false
set_option linter.unusedSimpArgs false
set_option maxRecDepth 20000
namespace Go.Proofs.YtcpokdjppedaoaaDoor.Ab
open Go
theorem St.le_any {σ τ : St} {a : Nat} {x : AObj} (h : σ.le τ) (ha : σ a = none := by first | assumption | exact St.ns1 (by assumption) | exact St.ns2 (by assumption) | exact St.ns3 (by assumption) | exact St.ns4 (by assumption) | exact St.ns5 (by assumption) | exact St.ns6 (by assumption) | exact St.ns7 (by assumption) | exact St.ns8 (by assumption) | exact St.ns9 (by assumption) | exact St.ns10 (by assumption) | exact St.ns11 (by assumption) | exact St.ns12 (by assumption) | exact St.ns13 (by assumption) | exact St.ns14 (by assumption) | exact St.ns10 (by assumption) | exact St.ns11 (by assumption) | exact St.ns12 (by assumption) | exact St.ns13 (by assumption) | exact St.ns14 (by assumption)) : σ.le (τ.set a x) := fun i o e => by
  by_cases hi : i = a
  · subst hi; rw [ha] at e; cases e
  · rw [St.set_ne _ _ _ hi]; exact h i o e
theorem St.le_reset {σ τ : St} {a : Nat} {x y : AObj} (h : σ.le (τ.set a x)) (ha : σ a = none := by first | assumption | exact St.ns1 (by assumption) | exact St.ns2 (by assumption) | exact St.ns3 (by assumption) | exact St.ns4 (by assumption) | exact St.ns5 (by assumption) | exact St.ns6 (by assumption) | exact St.ns7 (by assumption) | exact St.ns8 (by assumption) | exact St.ns9 (by assumption) | exact St.ns10 (by assumption) | exact St.ns11 (by assumption) | exact St.ns12 (by assumption) | exact St.ns13 (by assumption) | exact St.ns14 (by assumption) | exact St.ns10 (by assumption) | exact St.ns11 (by assumption) | exact St.ns12 (by assumption) | exact St.ns13 (by assumption) | exact St.ns14 (by assumption)) : σ.le (τ.set a y) := fun i o e => by
  have hi : i ≠ a := fun hi => by subst hi; rw [ha] at e; cases e
  have := h i o e
  rw [St.set_ne _ _ _ hi] at this ⊢; exact this
/-- The end of a call that answers r. -/
theorem gvs {σ σ' : St} {r r0 : AV} (hf : Fin σ σ' r0 r) (hle : σ.le σ' := by repeat' (first | exact St.le_refl _ | refine St.le_any ?_)) : Gives σ r (.ret r0) σ' := gives hle hf
theorem gv {σ σ' : St} {r r0 : AV} (hf : Wk r0 r) (hle : σ.le σ' := by repeat' (first | exact St.le_refl _ | refine St.le_any ?_)) : Gives σ r (.ret r0) σ' := gives hle (.wk hf)
theorem ge {σ σ' : St} {r r0 : AV} (hf : r0 = r) (hle : σ.le σ' := by repeat' (first | exact St.le_refl _ | refine St.le_any ?_)) : Gives σ r (.ret r0) σ' := gives hle (.wk (Wk.of_eq hf))
/-- Less may be told of what an operation hands on. -/
theorem OpJ.weak {P : Program} {o : Oper} {E : Operand → Option AV} {σ : St} {R : Option AV → St → Prop} {b : AV} (h : OpJ P o E σ (fun r σ' => σ' = σ ∧ ∃ a, r = some a ∧ Wk a b)) (hR : R (some b) σ) : OpJ P o E σ R := fun k e hσ hk hr => by
  obtain ⟨k', n, r, h1, h2, h3, ⟨h4, a, rfl, hw⟩, v, hv, hrep⟩ := h k e hσ hk hr
  exact ⟨k', n, some b, h1, h2, h3, h4 ▸ hR, v, hv, hw k' v hrep⟩
section
variable {P : Program} {nt : Nat} {ops : Array Oper} {Q : Post} {fr : Fr} {σ : St} {rest : List Oper} {t : Tmp} {ty : TypeId} {pos : String} {aft : Array Edge}
/-- A slice is written out. -/
theorem jlit {lt et : TypeId} {n sz : Nat} {parts : Array (Nat × Operand)} {zs out : List AV} {qs : List (Nat × AV)} {els : List (List AV)} (h : LJ P nt ops Q rest ((t, .sl (some false) true sz els) :: fr) σ) (ht : P.underlying lt = some (.slice et) := by exact rfl) (hs : sizeIs P et = some sz := by exact rfl) (hz : zeroIs P et = some zs := by exact rfl) (hzl : zs.length = sz := by exact rfl) (hpos : Nat.blt 0 sz = true := by exact rfl) (hn : Nat.ble (n * sz) 16777216 = true := by exact rfl) (hq : evParts (ev fr) parts.toList = some qs := by exact rfl) (hf : afill (fun i => some (i * sz, sz)) ((List.replicate n zs).flatten) qs = some out := by exact rfl) (hol : out.length = n * sz := by exact rfl) (hnn : chunk sz n out = els := by (repeat' (first | exact nfl_nil | apply nfl_cons | exact nf_nil | apply nf_cons | exact nf_v | exact nf_sl | exact nf_osl | exact nf_ptr | exact nf_fp | exact nf_mp | exact nf_fn | exact nf_ifc | exact nf_it | exact nf_mb | exact rfl))) (hd : fits nt (some t) = true := by exact rfl) :
    LJ P nt ops Q (⟨some t, .buildSlice lt n parts, ty, pos, aft, none⟩ :: rest) fr σ := by
  subst hnn
  exact lj_v hd (fun R hR => opj_lit rfl ht hs hz hzl (Nat.blt_eq.mp hpos) (Nat.le_of_ble_eq_true hn) hq hf hol hR) h
theorem jlito {lt et : TypeId} {n sz : Nat} {parts : Array (Nat × Operand)} {zs out : List AV} {qs : List (Nat × AV)} {els : List (List AV)} (h : ∀ id, σ id = none → LJ P nt ops Q rest ((t, .osl id sz 0 n) :: fr) (σ.set id (.row sz et els))) (ht : P.underlying lt = some (.slice et) := by exact rfl) (hs : sizeIs P et = some sz := by exact rfl) (hz : zeroIs P et = some zs := by exact rfl) (hzl : zs.length = sz := by exact rfl) (hpos : Nat.blt 0 sz = true := by exact rfl) (hn : Nat.ble (n * sz) 16777216 = true := by exact rfl) (hq : evParts (ev fr) parts.toList = some qs := by exact rfl) (hf : afill (fun i => some (i * sz, sz)) ((List.replicate n zs).flatten) qs = some out := by exact rfl) (hol : out.length = n * sz := by exact rfl) (hnn : chunk sz n out = els := by (repeat' (first | exact nfl_nil | apply nfl_cons | exact nf_nil | apply nf_cons | exact nf_v | exact nf_sl | exact nf_osl | exact nf_ptr | exact nf_fp | exact nf_mp | exact nf_fn | exact nf_ifc | exact nf_it | exact nf_mb | exact rfl))) (hd : fits nt (some t) = true := by exact rfl) :
    LJ P nt ops Q (⟨some t, .buildSlice lt n parts, ty, pos, aft, none⟩ :: rest) fr σ := by
  subst hnn
  exact lj_f hd (fun R hR => opj_lit_own rfl ht hs hz hzl (Nat.blt_eq.mp hpos) (Nat.le_of_ble_eq_true hn) hq hf hol hR) h
theorem elem_of {lt et : TypeId} {sz : Nat} (ht : P.underlying lt = some (.slice et)) (hs : sizeIs P et = some sz) (hz : (zeroIs P et).map (·.length) = some sz) (hpos : Nat.blt 0 sz = true) : Elem P lt et sz := ⟨ht, hs, hz, Nat.blt_eq.mp hpos⟩
/-- append on a slice that has no room behind it, or is nil. -/
theorem japp (by_ : Nat) {lt et : TypeId} {sz : Nat} {x y : Operand} {nl : Option Bool} {full : Bool} {els news : List (List AV)} {ts : Array TypeId} {all : List (List AV)} {av : AV} (h : LJ P nt ops Q rest ((t, .sl none false sz all) :: fr) σ) (hts : ts = #[lt, lt] := by exact rfl) (ht : P.underlying lt = some (.slice et) := by exact rfl) (hsz : sizeIs P et = some sz := by exact rfl) (hz : (zeroIs P et).map (·.length) = some sz := by exact rfl) (hpos : Nat.blt 0 sz = true := by exact rfl) (hby : bytesIs P et = some by_ := by exact rfl) (hb1 : Nat.blt 0 by_ = true := by exact rfl) (hx : ev fr x = some (.sl nl full sz els) := by exact rfl) (hfull : full = true ∨ nl = some true := by first | exact .inl rfl | exact .inr rfl) (hy : ev fr y = some av := by exact rfl) (hs : srcOf σ av = some (sz, news) := by exact rfl) (hall : els ++ news = all := by (first | exact List.nil_append _ | exact rfl)) (hd : fits nt (some t) = true := by exact rfl) (hb : (els.length + news.length) * by_ ≤ 140737488355328 := by first | omega | (simp only [length_bys, length_chunk, List.length_nil, List.length_cons, List.length_map, Nat.mul_one]; omega)) :
    LJ P nt ops Q (⟨some t, .call { callee := .builtin .append, args := #[x, y], argTypes := ts }, ty, pos, aft, none⟩ :: rest) fr σ := by
  subst hall
  exact lj_v hd (fun R hR => OpJ.weak (opj_append_sl rfl hts (elem_of ht hsz hz hpos) hby hx hfull hy hs hb (Nat.blt_eq.mp hb1) (fun h0 => ⟨rfl, _, rfl, by rw [h0, List.append_nil]; exact Wk.sl _ _ _ _⟩) (fun _ => ⟨rfl, _, rfl, Wk.sl _ _ _ _⟩)) hR) h
end
end Go.Proofs.YtcpokdjppedaoaaDoor.Ab

/- Abstract values over the model's memory: loops that keep their frame, places in slices, functions called as values, and what is told less of. -/
set_option linter.unusedVariables false
set_option linter.unusedSimpArgs false
set_option maxRecDepth 20000
namespace Go.Proofs.YtcpokdjppedaoaaDoor.Ab
open Go
/-! ### What a loop keeps -/
/-- Slots that a list of operations writes. -/
def dstL : List Oper → List Nat → List Nat
  | [], acc => acc
  | o :: r, acc => match o.dst with
    | some t => dstL r (t :: acc)
    | none => dstL r acc
def dstC : Code → List Nat → List Nat
  | .region _ l _, acc => dstL l.toList acc
  | .seq x y, acc => dstC y (dstC x acc)
  | .cond _ x y, acc => dstC y (dstC x acc)
  | .block _ x, acc => dstC x acc
  | .loop x, acc => dstC x acc
  | _, acc => acc
def inN (t : Nat) : List Nat → Bool
  | [] => false
  | u :: r => bif Nat.beq t u then true else inN t r
/-- The newest entry of each slot that is none of some, told in a new list. -/
def keepK : List Nat → Fr → Fr → Option Fr
  | _, [], acc => some acc
  | ws, (t, a) :: r, acc => bif inN t ws then keepK ws r acc else keepK (t :: ws) r ((t, a) :: acc)
theorem inN_iff (t : Nat) : ∀ l : List Nat, inN t l = true ↔ t ∈ l
  | [] => by simp [inN]
  | u :: r => by
    unfold inN
    by_cases h : t = u
    · subst h; simp
    · have : Nat.beq t u = false := by
        cases hb : Nat.beq t u with
        | false => rfl
        | true => exact absurd (Nat.eq_of_beq_eq_true hb) h
      rw [this, cond_false, inN_iff t r]
      simp [h]
theorem lk_skip {t : Nat} : ∀ (p : Fr) (g : Fr), (∀ x ∈ p, x.1 ≠ t) → lk (p ++ g) t = lk g t
  | [], g, _ => rfl
  | (u, b) :: p, g, h => by
    rw [List.cons_append, lk_cons, if_neg (Ne.symm (h (u, b) (.head _)))]
    exact lk_skip p g fun x hx => h x (.tail _ hx)
theorem keep_sub : ∀ (fr : Fr) (ws : List Nat) (pre acc kf : Fr), (∀ x ∈ pre, x.1 ∈ ws) → Sub acc (pre ++ fr) → keepK ws fr acc = some kf → Sub kf (pre ++ fr)
  | [], ws, pre, acc, kf, _, ha, h => by cases h; exact ha
  | (t, a) :: r, ws, pre, acc, kf, hp, ha, h => by
    have e : pre ++ (t, a) :: r = (pre ++ [(t, a)]) ++ r := by simp
    unfold keepK at h
    cases hi : inN t ws with
    | true =>
      rw [hi, cond_true] at h
      rw [e] at ha ⊢
      refine keep_sub r ws _ acc kf (fun x hx => ?_) ha h
      rcases List.mem_append.1 hx with hx | hx
      · exact hp x hx
      · obtain rfl := List.mem_singleton.1 hx
        exact (inN_iff _ _).1 hi
    | false =>
      rw [hi, cond_false] at h
      have hl : lk (pre ++ (t, a) :: r) t = some a := by
        rw [lk_skip pre _ (fun x hx he => by
          have := (inN_iff t ws).2 (he ▸ hp x hx)
          rw [hi] at this; cases this), lk_cons, if_pos rfl]
      have ha' : Sub ((t, a) :: acc) (pre ++ (t, a) :: r) := ⟨hl, ha⟩
      rw [e] at ha' ⊢
      refine keep_sub r (t :: ws) _ _ kf (fun x hx => ?_) ha' h
      rcases List.mem_append.1 hx with hx | hx
      · exact .tail _ (hp x hx)
      · obtain rfl := List.mem_singleton.1 hx
        exact .head _
theorem subw_of_sub {g : Fr} : ∀ {f : Fr}, Sub f g → SubW f g
  | [], _ => trivial
  | (t, a) :: r, h => ⟨⟨a, h.1, fun _ _ x => x⟩, subw_of_sub h.2⟩
theorem subw_append {g : Fr} : ∀ {a b : Fr}, SubW a g → SubW b g → SubW (a ++ b) g
  | [], b, _, h => h
  | (t, x) :: a, b, ha, hb => ⟨ha.1, subw_append ha.2 hb⟩
def Op1 (c : Code) : Option (List Nat) := some (dstC c [])
section
variable {P : Program} {nt : Nat} {Q : Post} {fr : Fr} {σ : St} {c : Code}
/-- A loop: C what it carries, by a state of one's own; what it does not write stays as it is. -/
theorem cj_for {α : Type} (I : α → Prop) (C : α → Fr) (S : α → St) (m : α → Nat) (s0 : α) {kf : Fr} (hI : I s0) (hC : SubW (C s0) fr) (hσ : (S s0).le σ)
    (hr : ∀ s, I s → CJ P nt c (thn Q (fun fr' σ' => ∃ s', I s' ∧ m s' < m s ∧ SubW (C s') fr' ∧ Sub kf fr' ∧ (S s').le σ')) (C s ++ kf) (S s)) (hk : keepK (dstC c []) fr [] = some kf := by exact rfl) : CJ P nt (.loop c) Q fr σ :=
  cj_headW I (fun s => C s ++ kf) S m s0 hI (subw_append hC (subw_of_sub (keep_sub fr _ [] [] kf (fun x hx => by cases hx) trivial hk))) hσ (fun s hs => (hr s hs).mono fun e fr' σ' h => by
    cases e with
    | normal => obtain ⟨s', h1, h2, h3, h4, h5⟩ := h; exact ⟨s', h1, h2, subw_append h3 (subw_of_sub h4), h5⟩
    | _ => exact h)
end
/-! ### Less told -/
def WkL : List AV → List AV → Prop
  | [], [] => True
  | a :: l, b :: m => Wk a b ∧ WkL l m
  | _, _ => False
theorem WkL.length : ∀ {l m : List AV}, WkL l m → l.length = m.length
  | [], [], _ => rfl
  | _ :: _, _ :: _, h => congrArg (· + 1) (WkL.length h.2)
  | [], _ :: _, h => h.elim
  | _ :: _, [], h => h.elim
theorem WkL.get : ∀ {l m : List AV}, WkL l m → ∀ (j : Nat) a b, l[j]? = some a → m[j]? = some b → Wk a b
  | [], _, _, j, a, b, h, _ => by simp at h
  | _ :: _, [], h, _, _, _, _, _ => h.elim
  | x :: l, y :: m, h, 0, a, b, ha, hb => by simp at ha hb; subst ha; subst hb; exact h.1
  | x :: l, y :: m, h, j + 1, a, b, ha, hb => WkL.get h.2 j a b (by simpa using ha) (by simpa using hb)
theorem WkL.refl : ∀ l : List AV, WkL l l
  | [] => trivial
  | a :: l => ⟨Wk.refl a, WkL.refl l⟩
theorem Wk.trans {a b c : AV} (h : Wk a b) (h' : Wk b c) : Wk a c := fun k u r => h' k u (h k u r)
theorem Wk.agg {a b : List AV} (h : WkL a b) : Wk (.agg a) (.agg b) := fun k u r => by
  cases r with
  | agg hl h1 h2 =>
    exact .agg (hl.trans h.length) h1 fun j x u hx hu => by
      have hj : j < a.length := by rw [h.length]; exact (List.getElem?_eq_some_iff.1 hx).1
      exact h.get j _ x (List.getElem?_eq_getElem hj) hx k u (h2 j _ u (List.getElem?_eq_getElem hj) hu)
theorem Wk.tup {a b : List AV} (h : WkL a b) : Wk (.tup a) (.tup b) := fun k u r => by
  cases r with
  | tup hl h2 =>
    exact .tup (hl.trans h.length) fun j x u hx hu => by
      have hj : j < a.length := by rw [h.length]; exact (List.getElem?_eq_some_iff.1 hx).1
      exact h.get j _ x (List.getElem?_eq_getElem hj) hx k u (h2 j _ u (List.getElem?_eq_getElem hj) hu)
def WkE : List (List AV) → List (List AV) → Prop
  | [], [] => True
  | a :: l, b :: m => WkL a b ∧ WkE l m
  | _, _ => False
theorem WkE.length : ∀ {l m : List (List AV)}, WkE l m → l.length = m.length
  | [], [], _ => rfl
  | _ :: _, _ :: _, h => congrArg (· + 1) (WkE.length h.2)
  | [], _ :: _, h => h.elim
  | _ :: _, [], h => h.elim
theorem WkE.get : ∀ {l m : List (List AV)}, WkE l m → ∀ (j : Nat) a b, l[j]? = some a → m[j]? = some b → WkL a b
  | [], _, _, j, a, b, h, _ => by simp at h
  | _ :: _, [], h, _, _, _, _, _ => h.elim
  | x :: l, y :: m, h, 0, a, b, ha, hb => by simp at ha hb; subst ha; subst hb; exact h.1
  | x :: l, y :: m, h, j + 1, a, b, ha, hb => WkE.get h.2 j a b (by simpa using ha) (by simpa using hb)
theorem WkE.refl : ∀ l : List (List AV), WkE l l
  | [] => trivial
  | a :: l => ⟨WkL.refl a, WkE.refl l⟩
theorem getE {α : Type} {a : List α} {n j : Nat} (h : n = a.length) (hj : j < n) : ∃ x, a[j]? = some x := ⟨_, List.getElem?_eq_getElem (h ▸ hj)⟩
theorem Wk.els {nl : Option Bool} {full : Bool} {sz : Nat} {a b : List (List AV)} (h : WkE a b) : Wk (.sl nl full sz a) (.sl none false sz b) := fun k u r => by
  refine Wk.trans (b := .sl nl full sz b) ?_ (Wk.sl _ _ _ _) k u r
  clear r u k
  intro k u r
  have hlen := h.length
  have get1 : ∀ (j : Nat) (y : List AV), b[j]? = some y → ∃ x, a[j]? = some x ∧ WkL x y := fun j y hy => by
    have hj : j < a.length := by rw [hlen]; exact (List.getElem?_eq_some_iff.1 hy).1
    exact ⟨_, List.getElem?_eq_getElem hj, h.get j _ y (List.getElem?_eq_getElem hj) hy⟩
  have get2 : ∀ (x y : List AV), WkL x y → ∀ (j : Nat) (w : AV), y[j]? = some w → ∃ v, x[j]? = some v ∧ Wk v w := fun x y hxy j w hw => by
    have hj : j < x.length := by rw [hxy.length]; exact (List.getElem?_eq_some_iff.1 hw).1
    exact ⟨_, List.getElem?_eq_getElem hj, hxy.get j _ w (List.getElem?_eq_getElem hj) hw⟩
  cases r with
  | slnil hn => cases b with
    | nil => exact .slnil hn
    | cons y b => simp at hlen
  | sle hn => cases b with
    | nil => exact .sle hn
    | cons y b => simp at hlen
  | @sl _ _ _ _ bb o cap f hn hc hm hf hsz hfr hw hcc =>
    rw [hlen]
    refine .sl (f := f) hn (hlen ▸ hc) (hlen ▸ hm) (fun e => hlen ▸ hf e) (fun i e he => ?_) (fun hne => hfr fun e => hne ?_) (fun i j e w he hj => ?_) (fun i j e w he hj => ?_)
    · obtain ⟨x, hx, hxe⟩ := get1 i e he
      rw [← hxe.length]; exact hsz i x hx
    · exact List.length_eq_zero_iff.1 (by rw [← hlen, e]; rfl)
    · obtain ⟨x, hx, hxe⟩ := get1 i e he
      obtain ⟨v, hv, _⟩ := get2 x e hxe j w hj
      exact hw i j x v hx hv
    · obtain ⟨x, hx, hxe⟩ := get1 i e he
      obtain ⟨v, hv, hvw⟩ := get2 x e hxe j w hj
      exact hvw k _ (hcc i j x v hx hv)
theorem Reps.wk {k : Cx} {a b : List AV} {vs : List Value} (h : WkL a b) (hr : Reps k a vs) : Reps k b vs :=
  ⟨hr.1.trans h.length, fun j x u hx hu => by
    have hj : j < a.length := by rw [h.length]; exact (List.getElem?_eq_some_iff.1 hx).1
    exact h.get j _ x (List.getElem?_eq_getElem hj) hx k u (hr.2 j _ u (List.getElem?_eq_getElem hj) hu)⟩
theorem ACalls.wk {P : Program} {f : FuncId} {as bs : List AV} {σ : St} {R : AEnd → St → Prop} (h : ACalls P f bs σ R) (hw : WkL as bs) : ACalls P f as σ R := fun k vs hσ hk hv => h k vs hσ hk (Reps.wk hw hv)
theorem Pure.wka {P : Program} {f : FuncId} {as bs : List AV} {r : AV} (h : Pure P f bs r) (hw : WkL as bs) : Pure P f as r := fun σ => (h σ).wk hw
section
variable {P : Program} {nt : Nat} {ops : Array Oper} {Q : Post} {fr : Fr} {σ : St} {rest : List Oper} {t : Tmp} {ty : TypeId} {pos : String} {aft : Array Edge}
/-! ### Places in slices -/
theorem ji1 {it et : TypeId} {x ix : Operand} {nl : Option Bool} {full : Bool} {sz : Nat} {els : List (List AV)} {kk : IntKind} {n : Int} {el : List AV} (h : LJ P nt ops Q rest ((t, .fp el) :: fr) σ) (ht : P.underlying it = some (.slice et) := by exact rfl) (hs : sizeIs P et = some sz := by exact rfl) (hx : ev fr x = some (.sl nl full sz els) := by exact rfl) (hi : ev fr ix = some (.v (.int kk n)) := by exact rfl) (h0 : 0 ≤ n := by first | omega | (simp (disch := omega) only [w64, sb_bt, Int.toNat_zero, Int.toNat_one]; omega)) (hel : els[n.toNat]? = some el := by first | assumption | exact rfl) (hd : fits nt (some t) = true := by exact rfl) : LJ P nt ops Q (⟨some t, .indexAddr it x ix, ty, pos, aft, none⟩ :: rest) fr σ := lj_v hd (fun R hR => opj_indexAddr_sl rfl ht hs hx hi h0 hel hR) h
theorem ji2 {it et : TypeId} {x ix : Operand} {nl : Option Bool} {full : Bool} {sz : Nat} {els : List (List AV)} {kk : IntKind} {n : Int} {el : List AV} {j u : Nat} {b : Bool} {a : AV} (h : LJ P nt ops Q rest ((t, .fp el) :: fr) σ) (hj : (ops[j]?).bind (·.dst) = some u := by exact rfl) (hl : lk fr u = some a := by exact rfl) (hb : a = .v (.bool b) := by with_reducible rfl) (ht : P.underlying it = some (.slice et) := by exact rfl) (hs : sizeIs P et = some sz := by exact rfl) (hx : ev fr x = some (.sl nl full sz els) := by exact rfl) (hi : ev fr ix = some (.v (.int kk n)) := by exact rfl) (h0 : 0 ≤ n := by first | omega | (simp (disch := omega) only [w64, sb_bt, Int.toNat_zero, Int.toNat_one]; omega)) (hel : els[n.toNat]? = some el := by first | assumption | exact rfl) (hd : fits nt (some t) = true := by exact rfl) : LJ P nt ops Q (⟨some t, .indexAddr it x ix, ty, pos, aft, some (j, b)⟩ :: rest) fr σ := lj_vy hd hj (hb ▸ hl) (fun R hR => opj_indexAddr_sl rfl ht hs hx hi h0 hel hR) h
theorem ji3 {it et : TypeId} {x ix : Operand} {nl : Option Bool} {full : Bool} {sz : Nat} {els : List (List AV)} {kk : IntKind} {n : Int} {el : List AV} {j u : Nat} {w cc : Bool} {a : AV} (h : LJ P nt ops Q rest ((t, .mb cc (.fp el)) :: fr) σ) (hj : (ops[j]?).bind (·.dst) = some u := by exact rfl) (hl : lk fr u = some a := by exact rfl) (hg : gc a w = some cc := by exact rfl) (ht : P.underlying it = some (.slice et) := by exact rfl) (hs : sizeIs P et = some sz := by exact rfl) (hx : ev (strip fr) x = some (.sl nl full sz els) := by exact rfl) (hi : ev (strip fr) ix = some (.v (.int kk n)) := by exact rfl) (h0 : cc = true → 0 ≤ n := by intro h; first | omega | (simp only [Bool.and_eq_true, decide_eq_true_eq, Bool.not_eq_true', decide_eq_false_iff_not] at h; omega) | (simp only [Bool.and_eq_true, decide_eq_true_eq, Bool.not_eq_true', decide_eq_false_iff_not] at h; simp (disch := omega) only [w64, sb_bt, Int.toNat_zero, Int.toNat_one] at h ⊢; omega)) (hel : cc = true → els[n.toNat]? = some el := by intro h; first | assumption | exact rfl) (hd : fits nt (some t) = true := by exact rfl) (hn : Needs cc fr (Op.indexAddr it x ix).operands.toList := by repeat' (first | exact True.intro | refine And.intro ?_ ?_ | exact nd0 rfl | exact nd1 rfl | exact nd2 rfl | exact nd3 rfl | exact nd4 rfl)) : LJ P nt ops Q (⟨some t, .indexAddr it x ix, ty, pos, aft, some (j, w)⟩ :: rest) fr σ := lj_q hd hj hl hg hn (fun hc R hR => opj_indexAddr_sl rfl ht hs hx hi (h0 hc) (hel hc) hR) h
theorem ji4 {it et : TypeId} {x ix : Operand} {id sz off len : Nat} {kk : IntKind} {n : Int} (h : LJ P nt ops Q rest ((t, .ptr id sz (off + n.toNat) 0) :: fr) σ) (ht : P.underlying it = some (.slice et) := by exact rfl) (hs : sizeIs P et = some sz := by exact rfl) (hx : ev fr x = some (.osl id sz off len) := by exact rfl) (hi : ev fr ix = some (.v (.int kk n)) := by exact rfl) (h0 : 0 ≤ n := by first | omega | (simp (disch := omega) only [w64, sb_bt, Int.toNat_zero, Int.toNat_one]; omega)) (h1 : n < len := by first | omega | (simp (disch := omega) only [w64, sb_bt, Int.toNat_zero, Int.toNat_one]; omega)) (hd : fits nt (some t) = true := by exact rfl) : LJ P nt ops Q (⟨some t, .indexAddr it x ix, ty, pos, aft, none⟩ :: rest) fr σ := lj_v hd (fun R hR => opj_indexAddr_osl rfl ht hs hx hi h0 h1 hR) h
theorem ji5 {it et : TypeId} {x ix : Operand} {id sz off len : Nat} {kk : IntKind} {n : Int} {j u : Nat} {b : Bool} {a : AV} (h : LJ P nt ops Q rest ((t, .ptr id sz (off + n.toNat) 0) :: fr) σ) (hj : (ops[j]?).bind (·.dst) = some u := by exact rfl) (hl : lk fr u = some a := by exact rfl) (hb : a = .v (.bool b) := by with_reducible rfl) (ht : P.underlying it = some (.slice et) := by exact rfl) (hs : sizeIs P et = some sz := by exact rfl) (hx : ev fr x = some (.osl id sz off len) := by exact rfl) (hi : ev fr ix = some (.v (.int kk n)) := by exact rfl) (h0 : 0 ≤ n := by first | omega | (simp (disch := omega) only [w64, sb_bt, Int.toNat_zero, Int.toNat_one]; omega)) (h1 : n < len := by first | omega | (simp (disch := omega) only [w64, sb_bt, Int.toNat_zero, Int.toNat_one]; omega)) (hd : fits nt (some t) = true := by exact rfl) : LJ P nt ops Q (⟨some t, .indexAddr it x ix, ty, pos, aft, some (j, b)⟩ :: rest) fr σ := lj_vy hd hj (hb ▸ hl) (fun R hR => opj_indexAddr_osl rfl ht hs hx hi h0 h1 hR) h
theorem ji6 {it et : TypeId} {x ix : Operand} {id sz sz' na ii jj : Nat} {kk : IntKind} {n : Int} (h : LJ P nt ops Q rest ((t, .ptr id sz ii (jj + n.toNat * sz')) :: fr) σ) (ht : P.underlying it = some (.array na et) := by exact rfl) (hs : sizeIs P et = some sz' := by exact rfl) (hx : ev fr x = some (.ptr id sz ii jj) := by exact rfl) (hi : ev fr ix = some (.v (.int kk n)) := by exact rfl) (h0 : 0 ≤ n := by first | omega | (simp (disch := omega) only [w64, sb_bt, Int.toNat_zero, Int.toNat_one]; omega)) (h1 : n < na := by first | omega | (simp (disch := omega) only [w64, sb_bt, Int.toNat_zero, Int.toNat_one]; omega)) (hd : fits nt (some t) = true := by exact rfl) : LJ P nt ops Q (⟨some t, .indexAddr it x ix, ty, pos, aft, none⟩ :: rest) fr σ := lj_v hd (fun R hR => opj_indexAddr_arr rfl ht hs hx hi h0 h1 hR) h
/-- A function called as a value. -/
theorem jcl {x : Operand} {f : FuncId} {xs : Array Operand} {ts : Array TypeId} {caps as : List AV} {r : AV} (hp : Pure P f (as ++ caps) r) (h : LJ P nt ops Q rest ((t, r) :: fr) σ) (hx : ev fr x = some (.fn f caps) := by exact rfl) (has : evs fr xs.toList = some as := by exact rfl) (hent : entered P f = true := by exact rfl) (hd : fits nt (some t) = true := by exact rfl) : LJ P nt ops Q (⟨some t, .call { callee := .value x, args := xs, argTypes := ts }, ty, pos, aft, none⟩ :: rest) fr σ := lj_call_pure (x := x) (f := f) (caps := caps) rfl rfl rfl hd hx has hent hp h
/-- A call whose arguments are told more of. -/
theorem jpw {f : FuncId} {xs : Array Operand} {ts : Array TypeId} {as bs : List AV} {r : AV} (hp : Pure P f bs r) (hw : WkL as bs) (h : LJ P nt ops Q rest ((t, r) :: fr) σ) (has : evs fr xs.toList = some as := by exact rfl) (hent : entered P f = true := by exact rfl) (hd : fits nt (some t) = true := by exact rfl) : LJ P nt ops Q (⟨some t, .call { callee := .value (.func f), args := xs, argTypes := ts }, ty, pos, aft, none⟩ :: rest) fr σ := lj_pure hd has hent (hp.wka hw) h
end
section
variable {P : Program} {l : List Oper} {c : List (List Nat)} {m nt : Nat} {σ σ0 σ1 : St} {K : Fr → Prop} {i : Nat} {fr : Fr} {rest : List Oper} {t : Tmp} {ty : TypeId} {pos : String} {aft : Array Edge}
theorem di1 {it et : TypeId} {x ix : Operand} {nl : Option Bool} {full : Bool} {sz : Nat} {els : List (List AV)} {kk : IntKind} {n : Int} {el : List AV} (h : DJ P l c m σ0 σ1 K (i + 1) rest ((t, .fp el) :: fr)) (him : Nat.beq i m = false := by exact rfl) (ht : P.underlying it = some (.slice et) := by exact rfl) (hs : sizeIs P et = some sz := by exact rfl) (hx : ev fr x = some (.sl nl full sz els) := by exact rfl) (hi : ev fr ix = some (.v (.int kk n)) := by exact rfl) (h0 : 0 ≤ n := by first | omega | (simp (disch := omega) only [w64, sb_bt, Int.toNat_zero, Int.toNat_one]; omega)) (hel : els[n.toNat]? = some el := by first | assumption | exact rfl) : DJ P l c m σ0 σ1 K i (⟨some t, .indexAddr it x ix, ty, pos, aft, none⟩ :: rest) fr := dj_v him (fun R hR => opj_indexAddr_sl rfl ht hs hx hi h0 hel hR) (fun R hR => opj_indexAddr_sl rfl ht hs hx hi h0 hel hR) h
theorem di2 {it et : TypeId} {x ix : Operand} {nl : Option Bool} {full : Bool} {sz : Nat} {els : List (List AV)} {kk : IntKind} {n : Int} {el : List AV} {j u : Nat} {b : Bool} {a : AV} (h : DJ P l c m σ0 σ1 K (i + 1) rest ((t, .fp el) :: fr)) (him : Nat.beq i m = false := by exact rfl) (hj : dstOf l j = some u := by exact rfl) (hl : lk fr u = some a := by exact rfl) (hb : a = .v (.bool b) := by with_reducible rfl) (ht : P.underlying it = some (.slice et) := by exact rfl) (hs : sizeIs P et = some sz := by exact rfl) (hx : ev fr x = some (.sl nl full sz els) := by exact rfl) (hi : ev fr ix = some (.v (.int kk n)) := by exact rfl) (h0 : 0 ≤ n := by first | omega | (simp (disch := omega) only [w64, sb_bt, Int.toNat_zero, Int.toNat_one]; omega)) (hel : els[n.toNat]? = some el := by first | assumption | exact rfl) : DJ P l c m σ0 σ1 K i (⟨some t, .indexAddr it x ix, ty, pos, aft, some (j, b)⟩ :: rest) fr := dj_vy him hj (hb ▸ hl) (fun R hR => opj_indexAddr_sl rfl ht hs hx hi h0 hel hR) (fun R hR => opj_indexAddr_sl rfl ht hs hx hi h0 hel hR) h
theorem di3 {it et : TypeId} {x ix : Operand} {nl : Option Bool} {full : Bool} {sz : Nat} {els : List (List AV)} {kk : IntKind} {n : Int} {el : List AV} {j u : Nat} {w cc : Bool} {a : AV} (h : DJ P l c m σ0 σ1 K (i + 1) rest ((t, .mb cc (.fp el)) :: fr)) (him : Nat.beq i m = false := by exact rfl) (hj : dstOf l j = some u := by exact rfl) (hl : lk fr u = some a := by exact rfl) (hg : gc a w = some cc := by exact rfl) (ht : P.underlying it = some (.slice et) := by exact rfl) (hs : sizeIs P et = some sz := by exact rfl) (hx : ev (strip fr) x = some (.sl nl full sz els) := by exact rfl) (hi : ev (strip fr) ix = some (.v (.int kk n)) := by exact rfl) (h0 : cc = true → 0 ≤ n := by intro h; first | omega | (simp only [Bool.and_eq_true, decide_eq_true_eq, Bool.not_eq_true', decide_eq_false_iff_not] at h; omega) | (simp only [Bool.and_eq_true, decide_eq_true_eq, Bool.not_eq_true', decide_eq_false_iff_not] at h; simp (disch := omega) only [w64, sb_bt, Int.toNat_zero, Int.toNat_one] at h ⊢; omega)) (hel : cc = true → els[n.toNat]? = some el := by intro h; first | assumption | exact rfl) (hn : Needs cc fr (Op.indexAddr it x ix).operands.toList := by repeat' (first | exact True.intro | refine And.intro ?_ ?_ | exact nd0 rfl | exact nd1 rfl | exact nd2 rfl | exact nd3 rfl | exact nd4 rfl)) : DJ P l c m σ0 σ1 K i (⟨some t, .indexAddr it x ix, ty, pos, aft, some (j, w)⟩ :: rest) fr := dj_q him hj hl hg hn (fun hc R hR => opj_indexAddr_sl rfl ht hs hx hi (h0 hc) (hel hc) hR) (fun hc R hR => opj_indexAddr_sl rfl ht hs hx hi (h0 hc) (hel hc) hR) h
theorem di4 {it et : TypeId} {x ix : Operand} {id sz off len : Nat} {kk : IntKind} {n : Int} (h : DJ P l c m σ0 σ1 K (i + 1) rest ((t, .ptr id sz (off + n.toNat) 0) :: fr)) (him : Nat.beq i m = false := by exact rfl) (ht : P.underlying it = some (.slice et) := by exact rfl) (hs : sizeIs P et = some sz := by exact rfl) (hx : ev fr x = some (.osl id sz off len) := by exact rfl) (hi : ev fr ix = some (.v (.int kk n)) := by exact rfl) (h0 : 0 ≤ n := by first | omega | (simp (disch := omega) only [w64, sb_bt, Int.toNat_zero, Int.toNat_one]; omega)) (h1 : n < len := by first | omega | (simp (disch := omega) only [w64, sb_bt, Int.toNat_zero, Int.toNat_one]; omega)) : DJ P l c m σ0 σ1 K i (⟨some t, .indexAddr it x ix, ty, pos, aft, none⟩ :: rest) fr := dj_v him (fun R hR => opj_indexAddr_osl rfl ht hs hx hi h0 h1 hR) (fun R hR => opj_indexAddr_osl rfl ht hs hx hi h0 h1 hR) h
theorem di6 {it et : TypeId} {x ix : Operand} {id sz sz' na ii jj : Nat} {kk : IntKind} {n : Int} (h : DJ P l c m σ0 σ1 K (i + 1) rest ((t, .ptr id sz ii (jj + n.toNat * sz')) :: fr)) (him : Nat.beq i m = false := by exact rfl) (ht : P.underlying it = some (.array na et) := by exact rfl) (hs : sizeIs P et = some sz' := by exact rfl) (hx : ev fr x = some (.ptr id sz ii jj) := by exact rfl) (hi : ev fr ix = some (.v (.int kk n)) := by exact rfl) (h0 : 0 ≤ n := by first | omega | (simp (disch := omega) only [w64, sb_bt, Int.toNat_zero, Int.toNat_one]; omega)) (h1 : n < na := by first | omega | (simp (disch := omega) only [w64, sb_bt, Int.toNat_zero, Int.toNat_one]; omega)) : DJ P l c m σ0 σ1 K i (⟨some t, .indexAddr it x ix, ty, pos, aft, none⟩ :: rest) fr := dj_v him (fun R hR => opj_indexAddr_arr rfl ht hs hx hi h0 h1 hR) (fun R hR => opj_indexAddr_arr rfl ht hs hx hi h0 h1 hR) h
end
section
variable {P : Program} {nt : Nat} {ops : Array Oper} {Q : Post} {fr : Fr} {σ : St} {c : Code}
/-- Likewise, nothing of ours is turned. -/
theorem cj_fors {α : Type} (I : α → Prop) (C : α → Fr) (m : α → Nat) (s0 : α) {kf : Fr} (hI : I s0) (hC : SubW (C s0) fr)
    (hr : ∀ s, I s → CJ P nt c (thn Q (fun fr' σ' => ∃ s', I s' ∧ m s' < m s ∧ SubW (C s') fr' ∧ Sub kf fr' ∧ σ.le σ')) (C s ++ kf) σ) (hk : keepK (dstC c []) fr [] = some kf := by exact rfl) : CJ P nt (.loop c) Q fr σ :=
  cj_for I C (fun _ => σ) m s0 hI hC (St.le_refl _) hr hk
/-- The end of a round. -/
theorem nx_for {α : Type} {I : α → Prop} {C : α → Fr} {m : α → Nat} {k : Nat} {kf : Fr} {σ0 : St} (s' : α) (hI : I s') (hm : m s' < k) (hC : SubW (C s') fr) (hk : Sub kf fr := by repeat' (first | exact True.intro | refine And.intro rfl ?_)) (hle : σ0.le σ := by repeat' (first | exact St.le_refl _ | refine St.le_any ?_)) :
    thn Q (fun fr' σ' => ∃ s', I s' ∧ m s' < k ∧ SubW (C s') fr' ∧ Sub kf fr' ∧ σ0.le σ') .normal fr σ := nx_thn ⟨s', hI, hm, hC, hk, hle⟩
theorem lenfact {k : Cx} {nl : Option Bool} {full : Bool} {sz : Nat} {els : List (List AV)} {u : Value} (h : Rep k (.sl nl full sz els) u) : els.length ≤ maxLen := by
  cases h with
  | slnil => exact Nat.zero_le _
  | sle => exact Nat.zero_le _
  | sl hn hc hm => exact hm
theorem cj_len (t : Nat) {nl : Option Bool} {full : Bool} {sz : Nat} {els : List (List AV)} (h : els.length ≤ 9223372036854775807 → CJ P nt c Q fr σ) (ht : lk fr t = some (.sl nl full sz els) := by exact rfl) : CJ P nt c Q fr σ := fun k a hσ hk hz hf => by
  obtain ⟨v, _, hv⟩ := hf t _ ht
  exact h (lenfact hv) k a hσ hk hz hf
theorem lj_len (t : Nat) {l : List Oper} {nl : Option Bool} {full : Bool} {sz : Nat} {els : List (List AV)} (h : els.length ≤ 9223372036854775807 → LJ P nt ops Q l fr σ) (ht : lk fr t = some (.sl nl full sz els) := by exact rfl) : LJ P nt ops Q l fr σ := fun k a hσ hk hz hf => by
  obtain ⟨v, _, hv⟩ := hf t _ ht
  exact h (lenfact hv) k a hσ hk hz hf
theorem cj_lenA (t j : Nat) {cs : List AV} {nl : Option Bool} {full : Bool} {sz : Nat} {els : List (List AV)} (h : els.length ≤ 9223372036854775807 → CJ P nt c Q fr σ) (ht : lk fr t = some (.agg cs) := by exact rfl) (hj : cs[j]? = some (.sl nl full sz els) := by exact rfl) : CJ P nt c Q fr σ := fun k a hσ hk hz hf => by
  obtain ⟨v, _, hv⟩ := hf t _ ht
  cases hv with
  | @agg _ vs hl h1 h2 =>
    have hlt : j < vs.size := by rw [hl]; exact (List.getElem?_eq_some_iff.1 hj).1
    exact h (lenfact (h2 j _ vs[j] hj (Array.getElem?_eq_getElem hlt))) k a hσ hk hz hf
theorem wk1 {i : Nat} (h : i < 9223372036854775807) : Wk (.v (.int .i64 (IntKind.i64.wrap ((i : Int) + 1)))) (.v (.int .i64 ((i + 1 : Nat) : Int))) := Wk.of_eq (by rw [w64 (by omega) (by omega)]; rfl)
/-- A function called as a value, that reads what is ours. -/
theorem jcs {rest : List Oper} {t : Tmp} {ty : TypeId} {pos : String} {aft : Array Edge} {x : Operand} {f : FuncId} {xs : Array Operand} {ts : Array TypeId} {caps as : List AV} {r : AV} {σ' : St} (hent : entered P f = true) (hp : ACalls P f (as ++ caps) σ (fun e σ2 => e = .ret r ∧ σ2 = σ')) (h : LJ P nt ops Q rest ((t, r) :: fr) σ')
    (hx : ev fr x = some (.fn f caps) := by exact rfl) (has : evs fr xs.toList = some as := by exact rfl) (hd : fits nt (some t) = true := by exact rfl) : LJ P nt ops Q (⟨some t, .call { callee := .value x, args := xs, argTypes := ts }, ty, pos, aft, none⟩ :: rest) fr σ :=
  lj_call (x := x) (f := f) (caps := caps) rfl rfl rfl hd hx has hent (hp.mono fun e σ2 ⟨h1, h2⟩ => by subst h1; subst h2; exact h)
end
theorem dropn {α : Type} {l : List α} {i : Nat} (h : l.drop i = []) : l.length ≤ i := by simpa using h
theorem dropc {α : Type} {l : List α} {i : Nat} {x : α} {r : List α} (h : l.drop i = x :: r) : i < l.length ∧ l.drop (i + 1) = r ∧ l[i]? = some x := by
  have h1 : i < l.length := by
    have := congrArg List.length h
    simp at this; omega
  rw [List.drop_eq_getElem_cons h1] at h
  exact ⟨h1, (List.cons.inj h).2, by rw [List.getElem?_eq_getElem h1, (List.cons.inj h).1]⟩
theorem get_map {α β : Type} {l : List α} {i : Nat} {x : α} (f : α → β) (h : l[i]? = some x) : (l.map f)[(i : Int).toNat]? = some (f x) := by
  rw [Int.toNat_natCast, List.getElem?_map, h]; rfl
/-- The first place at which g holds, or -1. -/
def idxG {α : Type} (g : α → Bool) : List α → Nat → Int
  | [], _ => -1
  | x :: r, i => if g x = true then i else idxG g r (i + 1)
theorem idxG_lt {α : Type} (g : α → Bool) : ∀ (l : List α) (i : Nat), idxG g l i < 0 ↔ ∀ x ∈ l, g x = false
  | [], i => by simp [idxG]
  | x :: r, i => by
    unfold idxG
    by_cases h : g x = true
    · rw [if_pos h]; simp [h]
    · rw [if_neg h, idxG_lt g r (i + 1)]; simp [Bool.not_eq_true _ ▸ h]
theorem idxG_get {α : Type} (g : α → Bool) : ∀ (l : List α) (i : Nat), 0 ≤ idxG g l i → ∃ j x, idxG g l i = ((i + j : Nat) : Int) ∧ l[j]? = some x ∧ g x = true ∧ l.find? g = some x
  | [], i, h => by simp [idxG] at h
  | x :: r, i, h => by
    unfold idxG at h ⊢
    by_cases hx : g x = true
    · exact ⟨0, x, by rw [if_pos hx]; rfl, rfl, hx, by simp [hx]⟩
    · rw [if_neg hx] at h ⊢
      obtain ⟨j, y, h1, h2, h3, h4⟩ := idxG_get g r (i + 1) h
      exact ⟨j + 1, y, by rw [h1]; congr 1; omega, by simpa using h2, h3, by simp [hx, h4]⟩
end Go.Proofs.YtcpokdjppedaoaaDoor.Ab

/- Abstract values over the model's memory: regions that draw their order, in which variables are made and then written. -/
set_option linter.unusedVariables false
set_option linter.unusedSimpArgs false
set_option maxRecDepth 20000
namespace Go.Proofs.YtcpokdjppedaoaaDoor.Ab
open Go

/-- What operation i is, now; what was listed keeps its value. -/
def StepG (P : Program) (ops : Array Oper) (fr : Fr) (Good : (Nat → AV) → Array Bool → St → Prop) (val : Nat → AV) (listed : Array Bool) (σ : St) (i : Nat) (o : Oper) : Prop :=
  ∃ E : Fr, (∀ t a, t ∈ o.looksAt ops → lk E t = some a → Src ops fr val i t a) ∧
  ((o.guard = none ∧ OpW P o (ev E) σ (fun r σ' => ∃ val' : Nat → AV, (∀ j, listed.getD j false = true → val' j = val j) ∧ r = val' i ∧ Good val' (listed.setIfInBounds i true) σ')) ∨
   ∃ g want t b c, o.guard = some (g, want) ∧ (ops[g]?).bind (·.dst) = some t ∧ lk E t = some b ∧ gc b want = some c ∧
     ((c = true → OpW P o (ev E) σ (fun r σ' => ∃ val' : Nat → AV, (∀ j, listed.getD j false = true → val' j = val j) ∧ r = val' i ∧ Good val' (listed.setIfInBounds i true) σ')) ∧ (c = false → Good val (listed.setIfInBounds i true) σ ∧ ∀ k, Rep k (val i) undef)))
section
variable {P : Program} {ops : Array Oper} {nt : Nat} {fr : Fr}
theorem run_planG (hp : Plan ops nt) {k0 : Cx} {a0 : Act} {Q : Post} {Good : (Nat → AV) → Array Bool → St → Prop}
    (hstep : ∀ (val : Nat → AV) (listed : Array Bool) (σ : St) (i : Nat) (o : Oper), listed.size = ops.size → Good val listed σ → (∀ x y, depT ops x y → listed.getD x false = true → listed.getD y false = true) → (∀ y, depT ops i y → listed.getD y false = true) → listed.getD i false = false → ops[i]? = some o → StepG P ops fr Good val listed σ i o)
    (K : ∀ (val : Nat → AV) (listed : Array Bool) (σ : St) k (a : Act), listed.size = ops.size → Good val listed σ → (∀ i, i < ops.size → listed.getD i false = true) → Step k0 k → a.defers = a0.defers → k.σ = σ → Ok k → a.tmps.size = nt → (∀ (j : Nat) (oj : Oper) (t : Nat), ops[j]? = some oj → oj.dst = some t → ∃ u, a.tmps[t]? = some u ∧ Rep k (val j) u) → (∀ t av, lk fr t = some av → (∀ (j : Nat) (oj : Oper), ops[j]? = some oj → oj.dst ≠ some t) → ∃ u, a.tmps[t]? = some u ∧ Rep k av u) → conc k0 a0 Q .normal a k.w) :
    ∀ (fuel : Nat) (listed : Array Bool) (k : Cx) (a : Act) (val : Nat → AV) (σ : St), listed.size = ops.size → (listed.toList.filter (! ·)).length = fuel → Good val listed σ → Inv ops nt σ fr val listed k a.tmps → Step k0 k → a.defers = a0.defers → wpAny P .any ops (conc k0 a0 Q) fuel listed a k.w := by
  have hend : ∀ (listed : Array Bool) (k : Cx) (a : Act) (val : Nat → AV) (σ : St), listed.size = ops.size → Region.ready .any ops listed = [] → Good val listed σ → Inv ops nt σ fr val listed k a.tmps → Step k0 k → a.defers = a0.defers → conc k0 a0 Q .normal a k.w := by
    intro listed k a val σ hsz hr hg hi hst hd
    have hall : ∀ i, i < ops.size → listed.getD i false = true := fun i hlt => by
      cases hh : listed.getD i true with
      | true =>
        have : i < listed.size := by omega
        simp [this] at hh ⊢; exact hh
      | false =>
        obtain ⟨j, hj⟩ := ready_least hp hsz ⟨i, hlt, hh⟩
        rw [hr] at hj; cases hj
    exact K val listed σ k a hsz hg hall hst hd hi.σ hi.ok hi.nt (fun j oj t h1 h2 => hi.new j oj t h1 h2 (hall j (Array.getElem?_eq_some_iff.1 h1).1)) (fun t av h1 h2 => hi.old t av h1 fun j oj h3 h4 => absurd h4 (h2 j oj h3))
  intro fuel
  induction fuel with
  | zero =>
    intro listed k a val σ hsz hf hg hi hst hd
    have hr : Region.ready .any ops listed = [] := by
      cases hrr : Region.ready .any ops listed with
      | nil => rfl
      | cons i l =>
        have hm : i ∈ Region.ready .any ops listed := by rw [hrr]; simp
        obtain ⟨h0, o, ho, _⟩ := mem_ready.1 hm
        have hlt : i < listed.size := by rw [hsz]; exact (Array.getElem?_eq_some_iff.1 ho).1
        have hmem : listed[i] ∈ listed.toList.filter (! ·) := List.mem_filter.2 ⟨by simp, by simp [hlt] at h0; simp [h0]⟩
        rw [List.eq_nil_of_length_eq_zero hf] at hmem
        cases hmem
    exact ⟨hr, hend listed k a val σ hsz hr hg hi hst hd⟩
  | succ fuel ih =>
    intro listed k a val σ hsz hf hg hi hst hd
    refine ⟨fun hr => hend listed k a val σ hsz hr hg hi hst hd, fun i hm' => ?_⟩
    obtain ⟨h0, o, ho, hall⟩ := mem_ready.1 hm'
    have hlt : i < listed.size := by rw [hsz]; exact (Array.getElem?_eq_some_iff.1 ho).1
    have hcount : ((listed.setIfInBounds i true).toList.filter (! ·)).length = fuel := by
      have hli : listed[i] = false := by simpa [hlt] using h0
      have e1 : listed.toList = listed.toList.take i ++ false :: listed.toList.drop (i + 1) := by
        have hlt' : i < listed.toList.length := by simpa using hlt
        rw [← hli, ← Array.getElem_toList hlt, ← List.drop_eq_getElem_cons hlt', List.take_append_drop]
      have e2 : (listed.setIfInBounds i true).toList = listed.toList.take i ++ true :: listed.toList.drop (i + 1) := by
        rw [Array.toList_setIfInBounds, List.set_eq_take_append_cons_drop, if_pos (by simpa using hlt)]
      rw [e2]
      rw [e1] at hf
      simp only [List.filter_append, List.filter_cons, Bool.not_false, Bool.not_true, if_true, List.length_append, List.length_cons] at hf ⊢
      simp only [Bool.false_eq_true, if_false]
      omega
    have hun := unlisted hm'
    obtain ⟨E, hsrc, hact⟩ := hstep val listed σ i o hsz hg (fun x y hxy hx => hi.closedT hxy hx) (fun y hy => hi.deps hm' hy) hun ho
    have hreps := hi.reps hm' ho hsrc
    have hdist : ∀ j oj t, ops[j]? = some oj → oj.dst = some t → o.dst = some t → j = i := fun j oj t h1 h2 h3 => hp.dist i o j oj t ho h1 h2 h3
    have hgo : OpW P o (ev E) σ (fun r σ' => ∃ val' : Nat → AV, (∀ j, listed.getD j false = true → val' j = val j) ∧ r = val' i ∧ Good val' (listed.setIfInBounds i true) σ') → o.wp P a k.w (wpAny P .any ops (conc k0 a0 Q) fuel (listed.setIfInBounds i true)) (conc k0 a0 Q) := fun hw =>
      hw k a _ _ hi.σ hi.ok hreps fun k' v r h1 h2 h3 h4 => by
        obtain ⟨val', h5, rfl, h6⟩ := h3
        exact ih _ k' _ val' _ (by simpa using hsz) hcount h6 (hi.next h2 h1 rfl hm' ho (hp.fit i o ho) hdist h5 h4 hlt) (hst.trans h2) ((Act.defers_put ..).trans hd)
    unfold wpOp
    simp only [ho]
    rcases hact with ⟨hg', hw⟩ | ⟨g, want, t, b, c, hg', hgt, hgl, hgc, hcase⟩
    · rw [if_pos (by simp [Region.wanted, hg'])]
      exact .inl (hgo hw)
    · obtain ⟨u, hu, hr⟩ := hi.sees hm' (hsrc t _ (List.mem_append_right _ (by rw [hg']; simp [hgt])) hgl)
      have hy := yields_gc1 hgt hu hr hgc
      cases c with
      | true =>
        rw [if_pos (by simp only [Region.wanted, hg', hy])]
        exact .inl (hgo (hcase.1 rfl))
      | false =>
        rw [if_neg (by simp only [Region.wanted, hg', hy]; simp)]
        obtain ⟨h7, h8⟩ := hcase.2 rfl
        exact ih _ k _ val _ (by simpa using hsz) hcount h7 (hi.next (.refl k) hi.ok hi.σ hm' ho (hp.fit i o ho) hdist (fun _ _ => rfl) (h8 k) hlt) hst ((Act.defers_put ..).trans hd)
end
/-! ### Frames of some operations -/
def FrameOk (l : List Oper) (fr : Fr) (X : Nat → Prop) (val : Nat → AV) (F : Fr) : Prop :=
  ∀ t a, lk F t = some a → (∃ j, X j ∧ dstOf l j = some t ∧ a = val j) ∨ ((∀ j, X j → dstOf l j ≠ some t) ∧ lk fr t = some a)
theorem FrameOk.start (l : List Oper) (fr : Fr) (val : Nat → AV) : FrameOk l fr (fun _ => False) val fr := fun t a h => .inr ⟨fun _ h => h.elim, h⟩
theorem FrameOk.congr {l : List Oper} {fr F : Fr} {X X' : Nat → Prop} {val val' : Nat → AV} (h : FrameOk l fr X val F) (hX : ∀ j, X j ↔ X' j) (hv : ∀ j, X j → val' j = val j) : FrameOk l fr X' val' F := fun t a ht => by
  rcases h t a ht with ⟨j, h1, h2, h3⟩ | ⟨h1, h2⟩
  · exact .inl ⟨j, (hX j).1 h1, h2, by rw [hv j h1]; exact h3⟩
  · exact .inr ⟨fun j hj => h1 j ((hX j).2 hj), h2⟩
theorem FrameOk.put {l : List Oper} {fr F : Fr} {X : Nat → Prop} {val : Nat → AV} (h : FrameOk l fr X val F) (i : Nat) : FrameOk l fr (fun j => X j ∨ j = i) val (put F (dstOf l i) (some (val i))) := fun t a ht => by
  cases hd : dstOf l i with
  | none =>
    rw [hd] at ht
    rcases h t a ht with ⟨j, h1, h2, h3⟩ | ⟨h1, h2⟩
    · exact .inl ⟨j, .inl h1, h2, h3⟩
    · refine .inr ⟨fun j hj => ?_, h2⟩
      rcases hj with hj | rfl
      · exact h1 j hj
      · rw [hd]; exact fun e => by cases e
  | some u =>
    rw [hd] at ht
    simp only [Ab.put] at ht
    rw [lk_cons] at ht
    split at ht
    · rename_i htu
      subst htu; cases ht
      exact .inl ⟨i, .inr rfl, hd, rfl⟩
    · rename_i htu
      rcases h t a ht with ⟨j, h1, h2, h3⟩ | ⟨h1, h2⟩
      · exact .inl ⟨j, .inl h1, h2, h3⟩
      · refine .inr ⟨fun j hj => ?_, h2⟩
        rcases hj with hj | rfl
        · exact h1 j hj
        · rw [hd]; exact fun e => htu (by cases e; rfl)
structure PlanL (l : List Oper) (nt : Nat) (c : List (List Nat)) : Prop where
  plan : Plan l.toArray nt
  dep : ∀ i j, memB c i j = true → depT l.toArray i j
  dist : ∀ i j t, dstOf l i = some t → dstOf l j = some t → j = i
  low : ∀ x y, depT l.toArray x y → y < x
  src : ∀ i o, l[i]? = some o → ∀ t, t ∈ o.looksAt l.toArray → srcB l c i t = true
theorem planL {l : List Oper} {nt : Nat} {c : List (List Nat)} (hc : clo l [] = c) (hp : planB l nt c = true) : PlanL l nt c := by
  have hdep : ∀ i j, memB c i j = true → depT l.toArray i j := fun i j hij => by
    subst hc
    exact clo_ok l [] [] (by simp) rfl (fun i j hj => by simp at hj) i j (by simpa [memB] using hij)
  simp only [planB, Bool.and_eq_true, List.all_eq_true, List.mem_range] at hp
  obtain ⟨⟨hp1, hp2⟩, hp3⟩ := hp
  have hdist : ∀ i j t, dstOf l i = some t → dstOf l j = some t → j = i := fun i j t hi hj => by
    obtain ⟨o, ho, _⟩ := dstOf_some hi
    obtain ⟨oj, hoj, _⟩ := dstOf_some hj
    have := hp2 i (List.getElem?_eq_some_iff.1 ho).1 j (List.getElem?_eq_some_iff.1 hoj).1
    simpa [hi, hj] using this
  have hlow : ∀ i j, Ab.dep l.toArray i j → j < i := fun i j ⟨o, ho, e, he, hb, hon⟩ => by
    have ho' : l[i]? = some o := by simpa using ho
    have := hp3 i (List.getElem?_eq_some_iff.1 ho').1
    rw [ho'] at this
    simp only [Bool.and_eq_true, List.all_eq_true] at this
    have := this.1 j (by simp only [direct, List.mem_filterMap]; exact ⟨e, by simpa using he, by rw [if_pos hb, hon]⟩)
    exact Nat.blt_eq.mp this
  refine ⟨⟨fun i o ho => hp1 o (List.mem_of_getElem? (by simpa using ho)), fun i o j oj t ho hoj hj hi => hdist i j t (dstOf_of (by simpa using ho) hi) (dstOf_of (by simpa using hoj) hj), hlow⟩, hdep, hdist, fun x y hxy => ?_, fun i o ho t ht => ?_⟩
  · induction hxy with
    | one hd => exact hlow _ _ hd
    | more hd _ ih => exact Nat.lt_trans ih (hlow _ _ hd)
  · have := hp3 i (List.getElem?_eq_some_iff.1 ho).1
    rw [ho] at this
    simp only [Bool.and_eq_true, List.all_eq_true] at this
    exact this.2 t ht
theorem FrameOk.src {l : List Oper} {nt : Nat} {c : List (List Nat)} {fr F : Fr} {X : Nat → Prop} {val : Nat → AV} (hp : PlanL l nt c) (hF : FrameOk l fr X val F) {i : Nat} {o : Oper} (ho : l[i]? = some o) (hX : ∀ j, j < i → memB c i j = true → X j) (hX2 : ∀ j, X j → j < i) :
    ∀ t a, t ∈ o.looksAt l.toArray → lk F t = some a → Src l.toArray fr val i t a := fun t a ht hta => by
  have := hp.src i o ho t ht
  simp only [srcB, Bool.or_eq_true, List.any_eq_true, List.all_eq_true, List.mem_range, Bool.and_eq_true, beq_iff_eq, Bool.not_eq_true', beq_eq_false_iff_ne] at this
  rcases this with ⟨j, hj, ⟨hjt, hij⟩, hji⟩ | hall
  · obtain ⟨oj, hoj, hojt⟩ := dstOf_some hjt
    have hxj := hX j (Nat.blt_eq.mp hji) hij
    rcases hF t a hta with ⟨j', h1, h2, h3⟩ | ⟨h1, h2⟩
    · have := hp.dist j j' t hjt h2
      subst this
      exact .inl ⟨j', oj, by simpa using hoj, hojt, hp.dep i j' hij, h3⟩
    · exact absurd hjt (h1 j hxj)
  · have hw : ∀ j, dstOf l j = some t → depT l.toArray j i ∨ j = i := fun j hj => by
      obtain ⟨oj, hoj, _⟩ := dstOf_some hj
      rcases hall j (List.getElem?_eq_some_iff.1 hoj).1 with (h' | h') | h'
      · exact absurd hj h'
      · exact .inl (hp.dep j i h')
      · exact .inr (by simpa using h')
    rcases hF t a hta with ⟨j', h1, h2, h3⟩ | ⟨h1, h2⟩
    · have hlt := hX2 j' h1
      rcases hw j' h2 with h4 | h4
      · have := hp.low _ _ h4; omega
      · omega
    · exact .inr ⟨fun j oj hoj hjt => hw j (dstOf_of (by simpa using hoj) hjt), h2⟩
/-! ### Ahead: what hangs on no variable that is made here -/
def OnA (P : Program) (c : List (List Nat)) (n0 : Nat) (kp : Bool) (σ : St) (i : Nat) (o : Oper) (E : Operand → Option AV) (r : AV) : Prop :=
  (∀ σ', OpW P o E σ' (fun r' σ2 => r' = r ∧ σ2 = σ')) ∨ ((kp || memB c n0 i) = true ∧ ∀ σ', σ.le σ' → OpW P o E σ' (fun r' σ2 => r' = r ∧ σ2 = σ'))
def FactA (P : Program) (l : List Oper) (c : List (List Nat)) (n0 : Nat) (kp : Bool) (σ : St) (fr : Fr) (i : Nat) (o : Oper) (r : AV) : Prop :=
  match o.guard with
  | none => OnA P c n0 kp σ i o (ev fr) r
  | some (g, want) => ∃ t b cc, dstOf l g = some t ∧ lk fr t = some b ∧ gc b want = some cc ∧ ((cc = true → OnA P c n0 kp σ i o (ev fr) r) ∧ (cc = false → ∀ k, Rep k r undef))
inductive AW (P : Program) (l : List Oper) (c : List (List Nat)) (n0 : Nat) (kp : Bool) (bs : List Nat) (σ : St) : Nat → Fr → List AV → Fr → Prop
  | nil (F : Fr) : AW P l c n0 kp bs σ n0 F [] F
  | cons {i : Nat} {o : Oper} {F F2 : Fr} {r : AV} {rs : List AV} (ho : l[i]? = some o) (hb : i ∉ bs) (hf : FactA P l c n0 kp σ F i o r) (h : AW P l c n0 kp bs σ (i + 1) (Ab.put F o.dst (some r)) rs F2) : AW P l c n0 kp bs σ i F (r :: rs) F2
  | skip {i : Nat} {F F2 : Fr} {rs : List AV} (hb : i ∈ bs) (h : AW P l c n0 kp bs σ (i + 1) F rs F2) : AW P l c n0 kp bs σ i F (.tup [] :: rs) F2
theorem AW.get {P : Program} {l : List Oper} {c : List (List Nat)} {n0 : Nat} {kp : Bool} {bs : List Nat} {σ : St} {fr : Fr} {val : Nat → AV} {i : Nat} {F F2 : Fr} {rs : List AV} (h : AW P l c n0 kp bs σ i F rs F2) : (∀ j, val (i + j) = rs.getD j (.tup [])) → FrameOk l fr (fun j => j < i ∧ j ∉ bs) val F →
    (∀ x o, i ≤ x → x < n0 → x ∉ bs → l[x]? = some o → ∃ F', FrameOk l fr (fun j => j < x ∧ j ∉ bs) val F' ∧ FactA P l c n0 kp σ F' x o (val x)) ∧ FrameOk l fr (fun j => j < n0 ∧ j ∉ bs) val F2 := by
  induction h with
  | nil F => exact fun _ hF => ⟨fun x o h1 h2 => by omega, hF⟩
  | @cons i o F F2 r rs ho hb hf h ih =>
    intro hv hF
    have hr : val i = r := hv 0
    have hd : dstOf l i = o.dst := by unfold dstOf; rw [ho]
    have hF' : FrameOk l fr (fun j => j < i + 1 ∧ j ∉ bs) val (Ab.put F o.dst (some r)) := by
      have := (hF.put i).congr (X' := fun j => j < i + 1 ∧ j ∉ bs) (val' := val) (fun j => by
        constructor
        · rintro (⟨h1, h2⟩ | rfl)
          · exact ⟨by omega, h2⟩
          · exact ⟨by omega, hb⟩
        · rintro ⟨h1, h2⟩
          by_cases hj : j = i
          · exact .inr hj
          · exact .inl ⟨by omega, h2⟩) (fun _ _ => rfl)
      rwa [hd, hr] at this
    obtain ⟨h1, h2⟩ := ih (fun j => by have := hv (j + 1); rw [show i + 1 + j = i + (j + 1) by omega]; exact this) hF'
    refine ⟨fun x o' hx1 hx2 hx3 ho' => ?_, h2⟩
    by_cases hxi : x = i
    · subst hxi
      rw [ho] at ho'; cases ho'
      exact ⟨F, hF, hr ▸ hf⟩
    · exact h1 x o' (by omega) hx2 hx3 ho'
  | @skip i F F2 rs hb h ih =>
    intro hv hF
    have hF' : FrameOk l fr (fun j => j < i + 1 ∧ j ∉ bs) val F := hF.congr (fun j => by
        constructor
        · rintro ⟨h1, h2⟩; exact ⟨by omega, h2⟩
        · rintro ⟨h1, h2⟩
          by_cases hj : j = i
          · subst hj; exact absurd hb h2
          · exact ⟨by omega, h2⟩) (fun _ _ => rfl)
    obtain ⟨h1, h2⟩ := ih (fun j => by have := hv (j + 1); rw [show i + 1 + j = i + (j + 1) by omega]; exact this) hF'
    refine ⟨fun x o' hx1 hx2 hx3 ho' => ?_, h2⟩
    by_cases hxi : x = i
    · subst hxi; exact absurd hb hx3
    · exact h1 x o' (by omega) hx2 hx3 ho'
/-! ### Behind: one after another -/
inductive DC (P : Program) (l : List Oper) (kp : Bool) (σb : St) (K : Fr → St → Prop) : Nat → Fr → St → Prop
  | nil {i : Nat} {F : Fr} {σ : St} (hi : i = l.length) (h : K F σ) : DC P l kp σb K i F σ
  | cons {i : Nat} {o : Oper} {F : Fr} {σ : St} {R : AV → St → Prop} (ho : l[i]? = some o) (hg : o.guard = none) (hw : OpW P o (ev F) σ R) (hkp : ∀ r σ1, R r σ1 → kp = true → σb.le σ1) (h : ∀ r σ1, R r σ1 → DC P l kp σb K (i + 1) (Ab.put F o.dst (some r)) σ1) : DC P l kp σb K i F σ
/-- Variables are made. -/
def AllocK (K : Fr → St → Prop) : List (Nat × Nat × List AV × TypeId) → Fr → St → Prop
  | [], F, σ => K F σ
  | (b, t, as, et) :: r, F, σ => ∀ id, σ id = none → AllocK K r ((t, .ptr id as.length 0 0) :: F) (σ.set id (.row as.length et [as]))
def addF (α : Nat → Nat) : List (Nat × Nat × List AV × TypeId) → Fr → Fr
  | [], F => F
  | (b, t, as, et) :: r, F => addF α r ((t, .ptr (α b) as.length 0 0) :: F)
def addS (α : Nat → Nat) : List (Nat × Nat × List AV × TypeId) → St → St
  | [], σ => σ
  | (b, t, as, et) :: r, σ => addS α r (σ.set (α b) (.row as.length et [as]))
def Apart (α : Nat → Nat) : List (Nat × Nat × List AV × TypeId) → Prop
  | [] => True
  | e :: r => (∀ x ∈ r, α x.1 ≠ α e.1) ∧ Apart α r
theorem allocK_apply {K : Fr → St → Prop} {α : Nat → Nat} : ∀ {A : List (Nat × Nat × List AV × TypeId)} {F : Fr} {s : St}, AllocK K A F s → (∀ e ∈ A, s (α e.1) = none) → Apart α A → K (addF α A F) (addS α A s)
  | [], F, s, h, _, _ => h
  | (b, t, as, et) :: r, F, s, h, hf, ha => allocK_apply (A := r) (h (α b) (hf _ (.head _))) (fun e he => by
      rw [St.set_ne _ _ _ (ha.1 e he)]; exact hf e (.tail _ he)) ha.2
theorem addS_ne {α : Nat → Nat} {x : Nat} : ∀ {A : List (Nat × Nat × List AV × TypeId)} {s : St}, (∀ e ∈ A, α e.1 ≠ x) → addS α A s x = s x
  | [], s, _ => rfl
  | (b, t, as, et) :: r, s, h => by
    show addS α r (s.set (α b) _) x = s x
    rw [addS_ne (fun e he => h e (.tail _ he)), St.set_ne _ _ _ (Ne.symm (h _ (.head _)))]
theorem addS_eq {α : Nat → Nat} : ∀ {A : List (Nat × Nat × List AV × TypeId)} {s : St}, Apart α A → ∀ b t as et, (b, t, as, et) ∈ A → addS α A s (α b) = some (.row as.length et [as])
  | [], s, _, b, t, as, et, h => by cases h
  | (b', t', as', et') :: r, s, ha, b, t, as, et, h => by
    show addS α r (s.set (α b') _) (α b) = _
    rcases List.mem_cons.1 h with h | h
    · cases h
      rw [addS_ne (fun e he => ha.1 e he), St.set_same]
    · exact addS_eq ha.2 b t as et h
theorem addF_ok {l : List Oper} {fr : Fr} {val : Nat → AV} {α : Nat → Nat} : ∀ {A : List (Nat × Nat × List AV × TypeId)} {F : Fr} {X : Nat → Prop}, FrameOk l fr X val F → (∀ b t as et, (b, t, as, et) ∈ A → dstOf l b = some t ∧ val b = .ptr (α b) as.length 0 0) → FrameOk l fr (fun j => X j ∨ j ∈ A.map (·.1)) val (addF α A F)
  | [], F, X, h, _ => h.congr (fun j => by simp) (fun _ _ => rfl)
  | (b, t, as, et) :: r, F, X, h, hA => by
    obtain ⟨h1, h2⟩ := hA b t as et (.head _)
    have h3 := h.put b
    rw [h1, h2] at h3
    have h4 := addF_ok (A := r) (α := α) h3 (fun b' t' as' et' he => hA b' t' as' et' (.tail _ he))
    exact h4.congr (fun j => by
      show (X j ∨ j = b) ∨ j ∈ r.map (·.1) ↔ X j ∨ j ∈ b :: r.map (·.1)
      rw [List.mem_cons, or_assoc]) (fun _ _ => rfl)
def nodupB : List Nat → Bool
  | [] => true
  | b :: r => !r.contains b && nodupB r
def chainB (l : List Oper) (c : List (List Nat)) (n0 : Nat) (bs : List Nat) : Bool :=
  Nat.ble n0 l.length && nodupB bs && bs.all (fun b => Nat.blt b n0) &&
  (List.range l.length).all fun i => bif Nat.blt i n0 then bs.contains i || bs.all (fun b => !memB c i b) else bs.all (fun b => memB c i b) && (List.range i).all (fun x => Nat.blt x n0 || memB c i x)
def AllocsOk (P : Program) (l : List Oper) : List (Nat × Nat × List AV × TypeId) → Prop
  | [] => True
  | (b, t, as, et) :: r => (∃ ty pos aft, l[b]? = some ⟨some t, .alloc et, ty, pos, aft, none⟩ ∧ zeroIs P et = some as) ∧ AllocsOk P l r
theorem AllocsOk.get {P : Program} {l : List Oper} : ∀ {A : List (Nat × Nat × List AV × TypeId)}, AllocsOk P l A → ∀ b t as et, (b, t, as, et) ∈ A → ∃ ty pos aft, l[b]? = some ⟨some t, .alloc et, ty, pos, aft, none⟩ ∧ zeroIs P et = some as
  | [], _, b, t, as, et, h => by cases h
  | (b', t', as', et') :: r, ha, b, t, as, et, h => by
    rcases List.mem_cons.1 h with h | h
    · cases h; exact ha.1
    · exact ha.2.get b t as et h
theorem apart_of {α : Nat → Nat} : ∀ {A : List (Nat × Nat × List AV × TypeId)}, nodupB (A.map (·.1)) = true → (∀ e ∈ A, ∀ e' ∈ A, e.1 ≠ e'.1 → α e.1 ≠ α e'.1) → Apart α A
  | [], _, _ => trivial
  | e :: r, hn, h => by
    simp only [List.map_cons, nodupB, Bool.and_eq_true, Bool.not_eq_true', List.contains_eq_mem, decide_eq_false_iff_not] at hn
    exact ⟨fun x hx => h x (.tail _ hx) e (.head _) (fun he => hn.1 (he ▸ List.mem_map.2 ⟨x, hx, rfl⟩)), apart_of hn.2 fun a ha b hb => h a (.tail _ ha) b (.tail _ hb)⟩
theorem uniq_of : ∀ {A : List (Nat × Nat × List AV × TypeId)}, nodupB (A.map (·.1)) = true → ∀ e ∈ A, ∀ e' ∈ A, e.1 = e'.1 → e = e'
  | [], _, e, h, _, _, _ => by cases h
  | a :: r, hn, e, h, e', h', he => by
    simp only [List.map_cons, nodupB, Bool.and_eq_true, Bool.not_eq_true', List.contains_eq_mem, decide_eq_false_iff_not] at hn
    rcases List.mem_cons.1 h with h1 | h1
    · rcases List.mem_cons.1 h' with h2 | h2
      · rw [h1, h2]
      · exact absurd (List.mem_map.2 ⟨e', h2, by rw [← he, h1]⟩) hn.1
    · rcases List.mem_cons.1 h' with h2 | h2
      · exact absurd (List.mem_map.2 ⟨e, h1, by rw [he, h2]⟩) hn.1
      · exact uniq_of hn.2 e h1 e' h2 he
def SIs (A : List (Nat × Nat × List AV × TypeId)) (listed : Array Bool) (α : Nat → Nat) (σ cur : St) : Prop :=
  (∀ b t as et, (b, t, as, et) ∈ A → listed.getD b false = true → cur (α b) = some (.row as.length et [as]) ∧ σ (α b) = none) ∧ (∀ x, (∀ e ∈ A, listed.getD e.1 false = true → α e.1 ≠ x) → cur x = σ x) ∧
  (∀ e ∈ A, ∀ e' ∈ A, listed.getD e.1 false = true → listed.getD e'.1 false = true → e.1 ≠ e'.1 → α e.1 ≠ α e'.1)
def GoodM (P : Program) (l : List Oper) (n0 : Nat) (kp : Bool) (A : List (Nat × Nat × List AV × TypeId)) (fr : Fr) (σ : St) (Kf : Fr → St → Prop) (rs : List AV) (val : Nat → AV) (listed : Array Bool) (cur : St) : Prop :=
  (∀ i, i < n0 → i ∉ A.map (·.1) → val i = rs.getD i (.tup [])) ∧ ∃ α : Nat → Nat, (∀ b t as et, (b, t, as, et) ∈ A → listed.getD b false = true → val b = .ptr (α b) as.length 0 0) ∧
    (((∀ i, n0 ≤ i → listed.getD i false = false) ∧ SIs A listed α σ cur) ∨
     ∃ j F, n0 < j ∧ (∀ i, n0 ≤ i → i < l.length → (listed.getD i false = true ↔ i < j)) ∧ (∀ e ∈ A, listed.getD e.1 false = true) ∧ FrameOk l fr (fun x => x < j) val F ∧ DC P l kp σ Kf j F cur ∧ (kp = true → σ.le cur))
theorem SIs.le {A : List (Nat × Nat × List AV × TypeId)} {listed : Array Bool} {α : Nat → Nat} {σ cur : St} (h : SIs A listed α σ cur) : σ.le cur := fun x o hx => by
  rw [h.2.1 x (fun e he hl hne => by
    obtain ⟨b, t, as, et⟩ := e
    have := (h.1 b t as et he hl).2
    subst hne
    rw [this] at hx; cases hx)]
  exact hx
theorem dstOf_eq {l : List Oper} {i : Nat} {o : Oper} (h : l[i]? = some o) : dstOf l i = o.dst := by unfold dstOf; rw [h]
section
variable {P : Program} {l : List Oper} {c : List (List Nat)} {n0 nt : Nat} {kp : Bool} {A : List (Nat × Nat × List AV × TypeId)} {σ : St} {fr F2 : Fr} {rs : List AV} {Kf : Fr → St → Prop}
theorem chainB_get (h : chainB l c n0 (A.map (·.1)) = true) : n0 ≤ l.length ∧ nodupB (A.map (·.1)) = true ∧ (∀ e ∈ A, e.1 < n0) ∧ (∀ i, i < l.length → i < n0 → i ∉ A.map (·.1) → ∀ e ∈ A, memB c i e.1 = false) ∧ (∀ i, i < l.length → n0 ≤ i → (∀ e ∈ A, memB c i e.1 = true) ∧ ∀ x, n0 ≤ x → x < i → memB c i x = true) := by
  simp only [chainB, Bool.and_eq_true, List.all_eq_true, List.mem_range] at h
  obtain ⟨⟨⟨h1, h2⟩, h3⟩, h4⟩ := h
  refine ⟨Nat.le_of_ble_eq_true h1, h2, fun e he => Nat.blt_eq.mp (h3 _ (List.mem_map.2 ⟨e, he, rfl⟩)), fun i hi hn hni e he => ?_, fun i hi hn => ?_⟩
  · have := h4 i hi
    rw [Nat.blt_eq.mpr hn, cond_true] at this
    simp only [Bool.or_eq_true, List.contains_eq_mem, decide_eq_true_eq, List.all_eq_true] at this
    rcases this with h | h
    · exact absurd h hni
    · simpa using h e.1 (List.mem_map.2 ⟨e, he, rfl⟩)
  · have := h4 i hi
    have hb : Nat.blt i n0 = false := by
      cases hh : Nat.blt i n0 with
      | false => rfl
      | true => have := Nat.blt_eq.mp hh; omega
    rw [hb, cond_false] at this
    simp only [Bool.and_eq_true, List.all_eq_true, List.mem_range, Bool.or_eq_true] at this
    refine ⟨fun e he => this.1 _ (List.mem_map.2 ⟨e, he, rfl⟩), fun x hx hxi => ?_⟩
    rcases this.2 x hxi with h | h
    · have := Nat.blt_eq.mp h; omega
    · exact h
/-- What stands ahead of the last part, when all variables are made. -/
theorem made_all {val : Nat → AV} (hn : nodupB (A.map (·.1)) = true) (hA : AllocsOk P l A) (hval : ∀ i, i < n0 → i ∉ A.map (·.1) → val i = rs.getD i (.tup [])) {α : Nat → Nat} {listed : Array Bool} {cur : St} (hα : ∀ b t as et, (b, t, as, et) ∈ A → listed.getD b false = true → val b = .ptr (α b) as.length 0 0) (hS : SIs A listed α σ cur) (hall : ∀ e ∈ A, listed.getD e.1 false = true)
    (hlt : ∀ e ∈ A, e.1 < n0) (hF2 : FrameOk l fr (fun j => j < n0 ∧ j ∉ A.map (·.1)) (fun j => rs.getD j (.tup [])) F2) (hK : AllocK (fun F s => (kp = true → σ.le s) → DC P l kp σ Kf n0 F s) A F2 σ) : ∃ F, FrameOk l fr (fun x => x < n0) val F ∧ DC P l kp σ Kf n0 F cur := by
  have hap : Apart α A := apart_of hn fun e he e' he' => hS.2.2 e he e' he' (hall e he) (hall e' he')
  have h1 := allocK_apply hK (fun e he => by
    obtain ⟨b, t, as, et⟩ := e
    exact (hS.1 b t as et he (hall _ he)).2) hap
  have h2 : addS α A σ = cur := by
    funext x
    by_cases hx : ∃ e ∈ A, α e.1 = x
    · obtain ⟨⟨b, t, as, et⟩, he, rfl⟩ := hx
      rw [addS_eq hap b t as et he, (hS.1 b t as et he (hall _ he)).1]
    · rw [addS_ne (fun e he h => hx ⟨e, he, h⟩), hS.2.1 x fun e he _ h => hx ⟨e, he, h⟩]
  rw [h2] at h1
  have h1 := h1 (fun _ => hS.le)
  refine ⟨_, (addF_ok (α := α) (hF2.congr (val' := val) (fun j => Iff.rfl) fun j hj => hval j hj.1 hj.2) fun b t as et he => ?_).congr (fun j => ?_) (fun _ _ => rfl), h1⟩
  · obtain ⟨ty, pos, aft, h3, h4⟩ := hA.get b t as et he
    exact ⟨by unfold dstOf; rw [h3], hα b t as et he (hall _ he)⟩
  · constructor
    · rintro (⟨h3, _⟩ | h3)
      · exact h3
      · obtain ⟨e, he, rfl⟩ := List.mem_map.1 h3
        exact hlt e he
    · intro hj
      by_cases h3 : j ∈ A.map (·.1)
      · exact .inr h3
      · exact .inl ⟨hj, h3⟩
/-- One operation more, whatever the order. -/
theorem stepM {nt : Nat} (hpl : PlanL l nt c) (hn0 : n0 ≤ l.length) (hnd : nodupB (A.map (·.1)) = true) (hblt : ∀ e ∈ A, e.1 < n0) (hAB : ∀ i, i < l.length → i < n0 → i ∉ A.map (·.1) → ∀ e ∈ A, memB c i e.1 = false) (hC : ∀ i, i < l.length → n0 ≤ i → (∀ e ∈ A, memB c i e.1 = true) ∧ ∀ x, n0 ≤ x → x < i → memB c i x = true) (hA : AllocsOk P l A)
    {val : Nat → AV} {listed : Array Bool} {cur : St} {i : Nat} {o : Oper} (hsz : listed.size = l.toArray.size) (hgood : GoodM P l n0 kp A fr σ Kf rs val listed cur) (hcl : ∀ x y, depT l.toArray x y → listed.getD x false = true → listed.getD y false = true) (hdeps : ∀ y, depT l.toArray i y → listed.getD y false = true) (hun : listed.getD i false = false) (ho : l.toArray[i]? = some o)
    (hfact : i < n0 → i ∉ A.map (·.1) → ∃ F', FrameOk l fr (fun j => j < i ∧ j ∉ A.map (·.1)) (fun j => rs.getD j (.tup [])) F' ∧ FactA P l c n0 kp σ F' i o (rs.getD i (.tup [])))
    (hmade : n0 ≤ i → ∃ F2, FrameOk l fr (fun j => j < n0 ∧ j ∉ A.map (·.1)) (fun j => rs.getD j (.tup [])) F2 ∧ AllocK (fun F s => (kp = true → σ.le s) → DC P l kp σ Kf n0 F s) A F2 σ) : StepG P l.toArray fr (GoodM P l n0 kp A fr σ Kf rs) val listed cur i o := by
  obtain ⟨hval, α, hα, hcase⟩ := hgood
  have ho' : l[i]? = some o := by simpa using ho
  have hil : i < l.length := (List.getElem?_eq_some_iff.1 ho').1
  have hlt : i < listed.size := by rw [hsz]; simpa using hil
  have hgi : (listed.setIfInBounds i true).getD i false = true := by simp [hlt]
  have hgn : ∀ j, j ≠ i → (listed.setIfInBounds i true).getD j false = listed.getD j false := fun j hj => getD_set_ne false (Ne.symm hj)
  by_cases hi0 : i < n0
  · by_cases hib : i ∈ A.map (·.1)
    · -- a variable is made
      obtain ⟨⟨b, t, as, et⟩, he, rfl⟩ := List.mem_map.1 hib
      dsimp only at *
      obtain ⟨ty, pos, aft, hb, hz'⟩ := hA.get b t as et he
      rw [ho'] at hb
      cases hb
      rcases hcase with ⟨hC1, hS⟩ | ⟨j, F, _, _, hall, _⟩
      · refine ⟨[], (fun t a _ h => by cases h), .inl ⟨rfl, ?_⟩⟩
        refine OpW.of_opj (opj_alloc (as := as) rfl hz' fun id hid => ?_)
        show ∃ val' : Nat → AV, _ ∧ AV.ptr id as.length 0 0 = val' b ∧ _
        have hne : ∀ e ∈ A, listed.getD e.1 false = true → α e.1 ≠ id := fun e he' hl hne => by
          obtain ⟨b', t', as', et'⟩ := e
          have := (hS.1 b' t' as' et' he' hl).1
          subst hne
          rw [this] at hid; cases hid
        refine ⟨fun j => if j = b then .ptr id as.length 0 0 else val j, fun j hj => if_neg (fun e => by subst e; rw [hun] at hj; cases hj), (if_pos rfl).symm, fun j hj hjb => ?_, fun j => if j = b then id else α j, fun b' t' as' et' he' hl => ?_, .inl ⟨fun j hj => ?_, fun b' t' as' et' he' hl => ?_, fun x hx => ?_, fun e he1 e' he2 hl1 hl2 hne' => ?_⟩⟩
        · dsimp only
          rw [if_neg (fun e : j = b => hjb (by rw [e]; exact hib))]; exact hval j hj hjb
        · dsimp only
          by_cases hbb : b' = b
          · have := uniq_of hnd _ he' _ he hbb
            cases this
            rw [if_pos rfl, if_pos rfl]
          · rw [if_neg hbb, if_neg hbb]
            exact hα b' t' as' et' he' (by rwa [hgn b' hbb] at hl)
        · rw [hgn j (by omega)]; exact hC1 j hj
        · dsimp only
          by_cases hbb : b' = b
          · have := uniq_of hnd _ he' _ he hbb
            cases this
            rw [if_pos rfl]
            exact ⟨St.set_same _ _ _, by rw [← hS.2.1 id hne]; exact hid⟩
          · rw [if_neg hbb]
            rw [hgn b' hbb] at hl
            obtain ⟨h1, h2⟩ := hS.1 b' t' as' et' he' hl
            exact ⟨by rw [St.set_ne _ _ _ (hne _ he' hl)]; exact h1, h2⟩
        · have h1 := hx _ he (by exact hgi)
          dsimp only at h1
          rw [if_pos rfl] at h1
          rw [St.set_ne _ _ _ (Ne.symm h1)]
          refine hS.2.1 x fun e he' hl => ?_
          have hbb : e.1 ≠ b := fun e1 => by rw [e1, hun] at hl; cases hl
          have h2 := hx e he' (by rw [hgn _ hbb]; exact hl)
          dsimp only at h2
          rwa [if_neg hbb] at h2
        · dsimp only
          by_cases h1 : e.1 = b
          · by_cases h2 : e'.1 = b
            · exact absurd (h1.trans h2.symm) hne'
            · rw [if_pos h1, if_neg h2]
              exact Ne.symm (hne e' he2 (by rwa [hgn _ h2] at hl2))
          · by_cases h2 : e'.1 = b
            · rw [if_neg h1, if_pos h2]
              exact hne e he1 (by rwa [hgn _ h1] at hl1)
            · rw [if_neg h1, if_neg h2]
              exact hS.2.2 e he1 e' he2 (by rwa [hgn _ h1] at hl1) (by rwa [hgn _ h2] at hl2) hne'
      · have := hall _ he
        rw [hun] at this; cases this
    · -- one that hangs on no variable made here
      obtain ⟨F', hF', hfa⟩ := hfact hi0 hib
      have hv : val i = rs.getD i (.tup []) := hval i hi0 hib
      have hFv : FrameOk l fr (fun j => j < i ∧ j ∉ A.map (·.1)) val F' := hF'.congr (fun _ => Iff.rfl) fun j hj => hval j (by omega) hj.2
      have hgood : GoodM P l n0 kp A fr σ Kf rs val (listed.setIfInBounds i true) cur := by
        refine ⟨hval, α, fun b t as et he hl => hα b t as et he ?_, ?_⟩
        · rwa [hgn b fun e => hib (List.mem_map.2 ⟨_, he, e⟩)] at hl
        have hl' : ∀ e ∈ A, (listed.setIfInBounds i true).getD e.1 false = listed.getD e.1 false := fun e he => hgn _ fun h => hib (List.mem_map.2 ⟨e, he, h⟩)
        rcases hcase with ⟨hC1, hS1, hS2, hS3⟩ | ⟨j, F, h1, h2, h3, h4, h5, hkc⟩
        · exact .inl ⟨fun j hj => by rw [hgn j (by omega)]; exact hC1 j hj, fun b t as et he hl => hS1 b t as et he (by have := hl' _ he; dsimp only at this; rwa [this] at hl), fun x hx => hS2 x fun e he hl => hx e he (by rw [hl' e he]; exact hl), fun e he e' he' hl hl2 => hS3 e he e' he' (by rwa [hl' e he] at hl) (by rwa [hl' e' he'] at hl2)⟩
        · exact .inr ⟨j, F, h1, fun x hx hxl => by rw [hgn x (by omega)]; exact h2 x hx hxl, fun e he => by rw [hl' e he]; exact h3 e he, h4, h5, hkc⟩
      have hon : ∀ {E : Operand → Option AV}, OnA P c n0 kp σ i o E (rs.getD i (.tup [])) → OpW P o E cur (fun r σ' => ∃ val' : Nat → AV, (∀ j, listed.getD j false = true → val' j = val j) ∧ r = val' i ∧ GoodM P l n0 kp A fr σ Kf rs val' (listed.setIfInBounds i true) σ') := fun {E} hO => by
        have hO' : OpW P o E cur (fun r' σ2 => r' = rs.getD i (.tup []) ∧ σ2 = cur) := by
          rcases hO with h | ⟨hm, h⟩
          · exact h cur
          · rcases hcase with ⟨_, hS⟩ | ⟨j, F, h1, h2, _, _, _, hkc⟩
            · exact h cur hS.le
            · cases hkp : kp with
              | true => exact h cur (hkc hkp)
              | false =>
              have hm : memB c n0 i = true := by rw [hkp] at hm; exact hm
              by_cases hn : n0 < l.length
              · have := hcl _ _ (hpl.dep _ _ hm) ((h2 n0 (Nat.le_refl _) hn).2 h1)
                rw [hun] at this; cases this
              · exfalso
                have := hpl.dep _ _ hm
                cases this with
                | one hd => obtain ⟨o', ho', _⟩ := hd; simp at ho'; have := (List.getElem?_eq_some_iff.1 ho').1; omega
                | more hd _ => obtain ⟨o', ho', _⟩ := hd; simp at ho'; have := (List.getElem?_eq_some_iff.1 ho').1; omega
        exact fun k a K Q' hσ' hk' hr hK' => hO' k a K Q' hσ' hk' hr fun k' v r h1 h2 h3 h4 => hK' k' v r h1 h2 (by
          obtain ⟨rfl, h5⟩ := h3
          exact ⟨val, fun _ _ => rfl, hv.symm, h5 ▸ hgood⟩) h4
      refine ⟨F', hFv.src hpl ho' (fun j hj hm => ⟨hj, fun hjb => ?_⟩) (fun j hj => hj.1), ?_⟩
      · obtain ⟨e, he, rfl⟩ := List.mem_map.1 hjb
        rw [hAB i hil hi0 hib e he] at hm; cases hm
      · unfold FactA at hfa
        cases hg : o.guard with
        | none => rw [hg] at hfa; exact .inl ⟨rfl, hon hfa⟩
        | some p =>
          obtain ⟨g, want⟩ := p
          rw [hg] at hfa
          obtain ⟨t, b, cc, h1, h2, h3, h4, h5⟩ := hfa
          obtain ⟨og, hog, hogt⟩ := dstOf_some h1
          exact .inr ⟨g, want, t, b, cc, rfl, by simp [hog, hogt], h2, h3, fun e => hon (h4 e), fun e => ⟨hgood, fun k => by rw [hv]; exact h5 e k⟩⟩
  · -- the last part
    obtain ⟨hca, hcc⟩ := hC i hil (by omega)
    have hall : ∀ e ∈ A, listed.getD e.1 false = true := fun e he => hdeps _ (hpl.dep _ _ (hca e he))
    have key : ∃ F, FrameOk l fr (fun x => x < i) val F ∧ DC P l kp σ Kf i F cur ∧ ∀ x, n0 ≤ x → x < l.length → (listed.getD x false = true ↔ x < i) := by
      rcases hcase with ⟨hC1, hS⟩ | ⟨j, F, h1, h2, h3, h4, h5, hkc⟩
      · have hii : i = n0 := by
          rcases Nat.lt_or_ge n0 i with h | h
          · have := hdeps _ (hpl.dep _ _ (hcc n0 (Nat.le_refl _) h))
            rw [hC1 n0 (Nat.le_refl _)] at this; cases this
          · omega
        subst hii
        obtain ⟨F2, hF2, hK⟩ := hmade (Nat.le_refl _)
        obtain ⟨F, h6, h7⟩ := made_all hnd hA hval hα hS hall hblt hF2 hK
        exact ⟨F, h6, h7, fun x hx hxl => by rw [hC1 x hx]; exact ⟨fun h => (by cases h), fun h => (by omega)⟩⟩
      · have hij : i = j := by
          rcases Nat.lt_trichotomy i j with h | h | h
          · have := (h2 i (by omega) hil).2 h
            rw [hun] at this; cases this
          · exact h
          · have := hdeps _ (hpl.dep _ _ (hcc j (by omega) h))
            have := (h2 j (by omega) (by omega)).1 this
            omega
        subst hij
        exact ⟨F, h4, h5, h2⟩
    obtain ⟨F, hF, hD, hls⟩ := key
    refine ⟨F, hF.src hpl ho' (fun j hj _ => hj) (fun j hj => hj), ?_⟩
    cases hD with
    | nil hi h => omega
    | @cons _ o2 _ _ R2 ho2 hg hw hk2 h =>
      rw [ho'] at ho2
      cases ho2
      refine .inl ⟨hg, fun k a K Q' hσ' hk' hr hK' => hw k a K Q' hσ' hk' hr fun k' v r' h1 h2 h3 h4 => hK' k' v r' h1 h2 ?_ h4⟩
      have hnA : i ∉ A.map (·.1) := fun h => by
        obtain ⟨e, he, rfl⟩ := List.mem_map.1 h
        exact hi0 (hblt e he)
      have hl' : ∀ e ∈ A, (listed.setIfInBounds i true).getD e.1 false = listed.getD e.1 false := fun e he => hgn _ fun h => hnA (List.mem_map.2 ⟨e, he, h⟩)
      have hne : ∀ x, x < i → (fun j => if j = i then r' else val j) x = val x := fun x hx => if_neg (by omega)
      have hFp : FrameOk l fr (fun x => x < i + 1) (fun j => if j = i then r' else val j) (Ab.put F o.dst (some r')) := by
        have h6 := ((hF.congr (val' := fun j => if j = i then r' else val j) (fun _ => Iff.rfl) hne).put i).congr (X' := fun x => x < i + 1) (val' := fun j => if j = i then r' else val j) (fun j => by omega) (fun _ _ => rfl)
        rw [dstOf_eq ho'] at h6
        simpa using h6
      refine ⟨fun j => if j = i then r' else val j, fun j hj => if_neg (fun e => by subst e; rw [hun] at hj; cases hj), (if_pos rfl).symm, fun j hj hjb => by dsimp only; rw [if_neg (by omega)]; exact hval j hj hjb, α, fun b t as et he hl => ?_, .inr ⟨i + 1, _, by omega, fun x hx hxl => ?_, fun e he => by rw [hl' e he]; exact hall e he, hFp, h r' _ h3, hk2 r' _ h3⟩⟩
      · dsimp only
        rw [if_neg (fun e : b = i => hnA (List.mem_map.2 ⟨_, he, e⟩))]
        exact hα b t as et he (hall _ he)
      · by_cases hxi : x = i
        · subst hxi; simp [hlt]
        · rw [hgn x hxi, hls x hx hxl]; omega
theorem cj_made {id : Nat} {Q : Post} (hmix : P.follows .mixedOrders = true) (hc : clo l [] = c) (hp : planB l nt c = true) (hch : chainB l c n0 (A.map (·.1)) = true) (hA : AllocsOk P l A)
    (hw : AW P l c n0 kp (A.map (·.1)) σ 0 fr rs F2) (hK : AllocK (fun F s => (kp = true → σ.le s) → DC P l kp σ (fun F s => Q .normal F s) n0 F s) A F2 σ) : CJ P nt (.region id l.toArray true) Q fr σ := fun k a hσ hk hz hf => by
  have hpl := planL hc hp
  obtain ⟨hn0, hnd, hblt, hAB, hC⟩ := chainB_get hch
  obtain ⟨hfact, hF2⟩ := hw.get (fr := fr) (val := fun j => rs.getD j (.tup [])) (fun j => by rw [Nat.zero_add]) ((FrameOk.start l fr _).congr (fun j => by simp) (fun _ _ => rfl))
  have hstep : ∀ (val : Nat → AV) (listed : Array Bool) (cur : St) (i : Nat) (o : Oper), listed.size = l.toArray.size → GoodM P l n0 kp A fr σ (fun F s => Q .normal F s) rs val listed cur → (∀ x y, depT l.toArray x y → listed.getD x false = true → listed.getD y false = true) → (∀ y, depT l.toArray i y → listed.getD y false = true) → listed.getD i false = false → l.toArray[i]? = some o → StepG P l.toArray fr (GoodM P l n0 kp A fr σ (fun F s => Q .normal F s) rs) val listed cur i o :=
    fun val listed cur i o hsz hg hcl hdeps hun ho => stepM hpl hn0 hnd hblt hAB hC hA hsz hg hcl hdeps hun ho (fun h1 h2 => hfact i o (Nat.zero_le _) h1 h2 (by simpa using ho)) (fun _ => ⟨F2, hF2, hK⟩)
  obtain ⟨hok', hst'⟩ := hk.drawn (k.w.drawn + 1)
  refine wp_region_any hmix ?_
  have hrepl : ∀ x, (Array.replicate l.toArray.size false).getD x false = false := fun x => by
    rw [Array.getD_eq_getD_getElem?, Array.getElem?_replicate]
    split <;> rfl
  have := run_planG (fr := fr) (Q := Q) (k0 := k) (a0 := a) hpl.plan hstep (fun val listed cur k' a' hsz hg hall hs hdf hσ' hok hz' hnew hold => ?_) l.toArray.size (Array.replicate l.toArray.size false) { k with w := { k.w with drawn := k.w.drawn + 1 } } a (fun j => rs.getD j (.tup [])) σ (by simp) (by simp)
    ⟨fun _ _ _ => rfl, fun _ => 0, fun b t as et he hl => (by rw [hrepl] at hl; cases hl), .inl ⟨fun i hi => hrepl i, fun b t as et he hl => (by rw [hrepl] at hl; cases hl), fun x hx => rfl, fun e he e' he' hl => (by rw [hrepl] at hl; cases hl)⟩⟩
    ⟨hσ, hok', hz, (fun i j hi => by rw [hrepl] at hi; cases hi), fun j oj t _ _ h => (by rw [hrepl] at h; cases h), fun t av h _ => (hf.step hst') t av h⟩ hst' rfl
  · exact this
  · obtain ⟨hval, α, hα, hcase⟩ := hg
    have hfin : ∃ F, FrameOk l fr (fun x => x < l.length) val F ∧ DC P l kp σ (fun F s => Q .normal F s) l.length F cur := by
      rcases hcase with ⟨hC1, hS⟩ | ⟨j, F, h1, h2, h3, h4, h5, hkc⟩
      · have : n0 = l.length := by
          rcases Nat.lt_or_ge n0 l.length with h | h
          · have := hall n0 (by simpa using h)
            rw [hC1 n0 (Nat.le_refl _)] at this; cases this
          · omega
        subst this
        exact made_all hnd hA hval hα hS (fun e he => hall _ (by simpa using hblt e he)) hblt hF2 hK
      · have hj : l.length ≤ j := by
          rcases Nat.lt_or_ge j l.length with h | h
          · have := (h2 j (by omega) h).1 (hall j (by simpa using h)); omega
          · exact h
        cases h5 with
        | nil hi h => subst hi; exact ⟨F, h4, .nil rfl h⟩
        | cons ho hg hw hk2 h => have := (List.getElem?_eq_some_iff.1 ho).1; omega
    obtain ⟨F, hF, hD⟩ := hfin
    cases hD with
    | cons ho hg hw hk2 h => have := (List.getElem?_eq_some_iff.1 ho).1; omega
    | nil hi h =>
      refine ⟨hdf, hz'.trans hz.symm, k', .normal, F, rfl, hok, hs, fun t av ht => ?_, trivial, by rw [hσ']; exact h⟩
      rcases hF t av ht with ⟨j, h1, h2, rfl⟩ | ⟨h1, h2⟩
      · obtain ⟨oj, hoj, hojt⟩ := dstOf_some h2
        exact hnew j oj t (by simpa using hoj) hojt
      · exact hold t av h2 fun j oj hoj hojt => h1 j (by have := (List.getElem?_eq_some_iff.1 (show l[j]? = some oj by simpa using hoj)).1; exact this) (dstOf_of (by simpa using hoj) hojt)
end
end Go.Proofs.YtcpokdjppedaoaaDoor.Ab
