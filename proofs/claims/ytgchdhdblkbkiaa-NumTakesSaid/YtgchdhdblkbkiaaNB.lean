/- Numbers of a set width, 11: a reader of bytes that are the caller's own. -/
import Derived.Test.YtgchdhdblkbkiaaNA
set_option linter.unusedVariables false
set_option linter.unusedSimpArgs false
namespace Go.Proofs.Ytgchdhdblkbkiaa.Ab
open Go

/-- A row of our own of which it is not known whether it is nil. -/
theorem opj_isnil_osl {P : Program} {o : Oper} {E : Operand → Option AV} {σ : St} {R : Option AV → St → Prop} {t t' : TypeId} {x y : Operand} {f : Bool} {s id sz off len : Nat} {e : TypeId} (ho : o.op = .binOp .eql t x y t') (ht : P.underlying t = some (.slice e)) (hx : E x = some (.osl id sz off len)) (hy : E y = some (.sl (some true) f s [])) (hR : ∀ b : Bool, (b = true → len = 0) → R (some (.v (.bool b))) σ) : OpJ P o E σ R := fun k ev hσ hk hr => by
  have hxr := hr x (by rw [ho]; simp [Op.operands]) _ hx
  have hyr := hr y (by rw [ho]; simp [Op.operands]) _ hy
  have hz : ev y = .slice none 0 0 := by
    generalize ev y = z at hyr
    cases hyr with
    | slnil => rfl
    | sl hn => exact absurd rfl hn
  have key : ∀ (a : Option Addr) (n c : Nat), ev x = .slice a n c → (execOp ev o).run P k.w = .ok (.value (.bool a.isNone)) k.w := fun a n c hv => by
    unfold execOp
    simp only [ho, hv, hz, Sem.run_bind, eqGuard, binOp, Op.equal, Op.maxDepth, Sem.run_pure, run_equalIn_slice 9999 ht, Result.andThen_ok]
    simp
  generalize hu : ev x = u at hxr
  cases hxr with
  | oslnil => exact ⟨k, _, some (.v (.bool true)), key none 0 0 hu, hk, .refl k, hσ ▸ hR true (fun _ => rfl), _, rfl, .v rfl⟩
  | osl => exact ⟨k, _, some (.v (.bool false)), key _ _ _ hu, hk, .refl k, hσ ▸ hR false (fun h => by cases h), _, rfl, .v rfl⟩
attribute [local irreducible] thn inb endR CJ LJ OpJ DJ
theorem p_clone_o {σ : St} {id : Nat} {et : TypeId} (l : List UInt8) (hl : l.length ≤ 140737488355328) (hid : σ id = some (.row 1 et (bys l))) : ACalls Try.prog 33 [.osl id 1 0 l.length] σ (Leaves σ (.sl none false 1 (bys l))) := by
  refine enterS Try.func33 rfl rfl rfl rfl ?_
  repeat (first | refine lj_auto rfl rfl ?_ | refine lj_autoy rfl rfl rfl rfl ?_ | refine lj_vn rfl rfl rfl rfl ?_ | refine lj_end ?_ | refine cj_seq ?_ | refine cj_region ?_ | refine cj_yes rfl ?_ | refine cj_no rfl ?_ | refine cj_block ?_ | refine cj_skip ?_ | refine cj_ret ?_ | refine cj_exit ?_ | refine lj_nil ?_ | refine nx_thn_cj ?_ | refine nx_ret_thn ?_ | refine nx_ret_inb ?_ | refine nx_exit_thn ?_ | refine nx_exit_same ?_ | refine nx_exit_other rfl ?_ | refine nx_inb ?_ | refine nx_end rfl ?_ | refine nx_end' rfl ?_ | refine lj_f rfl (fun R hR => opj_box rfl rfl rfl hR) (fun id hid => ?_) | refine lj_f rfl (fun R hR => opj_alloc rfl rfl hR) (fun id hid => ?_) | refine lj_v rfl (fun R hR => opj_load_ptr rfl rfl rfl (by first | exact St.set_same _ _ _ | assumption | exact St.set_keep (by assumption) (St.set_same _ _ _) | exact St.set_keep (by assumption) (by assumption) | exact St.set_keep (by assumption) (St.set_keep (by assumption) (St.set_same _ _ _)) | exact St.set_keep (by assumption) (St.set_keep (by assumption) (by assumption))) rfl rfl hR) ?_ | refine lj_vy rfl rfl rfl (fun R hR => opj_load_ptr rfl rfl rfl (by first | exact St.set_same _ _ _ | assumption | exact St.set_keep (by assumption) (St.set_same _ _ _) | exact St.set_keep (by assumption) (by assumption) | exact St.set_keep (by assumption) (St.set_keep (by assumption) (St.set_same _ _ _)) | exact St.set_keep (by assumption) (St.set_keep (by assumption) (by assumption))) rfl rfl hR) ?_ | refine lj_s (fun R hR => opj_store rfl rfl rfl rfl (by first | exact St.set_same _ _ _ | assumption | exact St.set_keep (by assumption) (St.set_same _ _ _) | exact St.set_keep (by assumption) (by assumption) | exact St.set_keep (by assumption) (St.set_keep (by assumption) (St.set_same _ _ _)) | exact St.set_keep (by assumption) (St.set_keep (by assumption) (by assumption))) rfl rfl rfl (Nat.le_of_ble_eq_true rfl) hR) ?_)
  refine lj_v_any rfl (fun R hR => opj_isnil_osl rfl rfl rfl rfl hR) (fun b hb => ?_)
  repeat' (first | (first | refine lj_auto rfl rfl ?_ | refine lj_autoy rfl rfl rfl rfl ?_ | refine lj_vn rfl rfl rfl rfl ?_ | refine lj_end ?_ | refine cj_seq ?_ | refine cj_region ?_ | refine cj_yes rfl ?_ | refine cj_no rfl ?_ | refine cj_block ?_ | refine cj_skip ?_ | refine cj_ret ?_ | refine cj_exit ?_ | refine lj_nil ?_ | refine nx_thn_cj ?_ | refine nx_ret_thn ?_ | refine nx_ret_inb ?_ | refine nx_exit_thn ?_ | refine nx_exit_same ?_ | refine nx_exit_other rfl ?_ | refine nx_inb ?_ | refine nx_end rfl ?_ | refine nx_end' rfl ?_ | refine lj_f rfl (fun R hR => opj_box rfl rfl rfl hR) (fun id hid => ?_) | refine lj_f rfl (fun R hR => opj_alloc rfl rfl hR) (fun id hid => ?_) | refine lj_v rfl (fun R hR => opj_load_ptr rfl rfl rfl (by first | exact St.set_same _ _ _ | assumption | exact St.set_keep (by assumption) (St.set_same _ _ _) | exact St.set_keep (by assumption) (by assumption) | exact St.set_keep (by assumption) (St.set_keep (by assumption) (St.set_same _ _ _)) | exact St.set_keep (by assumption) (St.set_keep (by assumption) (by assumption))) rfl rfl hR) ?_ | refine lj_vy rfl rfl rfl (fun R hR => opj_load_ptr rfl rfl rfl (by first | exact St.set_same _ _ _ | assumption | exact St.set_keep (by assumption) (St.set_same _ _ _) | exact St.set_keep (by assumption) (by assumption) | exact St.set_keep (by assumption) (St.set_keep (by assumption) (St.set_same _ _ _)) | exact St.set_keep (by assumption) (St.set_keep (by assumption) (by assumption))) rfl rfl hR) ?_ | refine lj_s (fun R hR => opj_store rfl rfl rfl rfl (by first | exact St.set_same _ _ _ | assumption | exact St.set_keep (by assumption) (St.set_same _ _ _) | exact St.set_keep (by assumption) (by assumption) | exact St.set_keep (by assumption) (St.set_keep (by assumption) (St.set_same _ _ _)) | exact St.set_keep (by assumption) (St.set_keep (by assumption) (by assumption))) rfl rfl rfl (Nat.le_of_ble_eq_true rfl) hR) ?_) | ((fail_if_success refine lj_gt rfl rfl ?_); (fail_if_success refine lj_gf rfl rfl ?_); ((refine lj_gcase rfl rfl (fun h => ?_) (fun h => ?_)) <;> (try (exfalso; simp at h; done)))) | (refine cj_if rfl (fun h => ?_) (fun h => ?_) <;> (try (exfalso; simp at h; done))))
  · have h0 := hb h
    cases l with
    | nil => exact gives (St.le_refl _) (fin_one (.wk (Wk.sl _ _ _ _)))
    | cons a l => simp at h0
  · have hsrc : srcOf σ (.osl id 1 0 l.length) = some (1, bys l) := by
      simp only [srcOf, hid]
      rw [if_pos ⟨trivial, by rw [length_bys]; omega⟩, List.drop_zero, List.take_of_length_le (by rw [length_bys]; exact Nat.le_refl _)]
    refine lj_v rfl (fun R hR => opj_lit (sz := 1) (zs := [.v (.int .u8 0)]) (out := []) rfl rfl rfl rfl rfl (by decide) (by decide) rfl rfl rfl hR) ?_
    repeat (first | refine lj_auto rfl rfl ?_ | refine lj_autoy rfl rfl rfl rfl ?_ | refine lj_vn rfl rfl rfl rfl ?_ | refine lj_end ?_ | refine cj_seq ?_ | refine cj_region ?_ | refine cj_yes rfl ?_ | refine cj_no rfl ?_ | refine cj_block ?_ | refine cj_skip ?_ | refine cj_ret ?_ | refine cj_exit ?_ | refine lj_nil ?_ | refine nx_thn_cj ?_ | refine nx_ret_thn ?_ | refine nx_ret_inb ?_ | refine nx_exit_thn ?_ | refine nx_exit_same ?_ | refine nx_exit_other rfl ?_ | refine nx_inb ?_ | refine nx_end rfl ?_ | refine nx_end' rfl ?_ | refine lj_f rfl (fun R hR => opj_box rfl rfl rfl hR) (fun id hid => ?_) | refine lj_f rfl (fun R hR => opj_alloc rfl rfl hR) (fun id hid => ?_) | refine lj_v rfl (fun R hR => opj_load_ptr rfl rfl rfl (by first | exact St.set_same _ _ _ | assumption | exact St.set_keep (by assumption) (St.set_same _ _ _) | exact St.set_keep (by assumption) (by assumption) | exact St.set_keep (by assumption) (St.set_keep (by assumption) (St.set_same _ _ _)) | exact St.set_keep (by assumption) (St.set_keep (by assumption) (by assumption))) rfl rfl hR) ?_ | refine lj_vy rfl rfl rfl (fun R hR => opj_load_ptr rfl rfl rfl (by first | exact St.set_same _ _ _ | assumption | exact St.set_keep (by assumption) (St.set_same _ _ _) | exact St.set_keep (by assumption) (by assumption) | exact St.set_keep (by assumption) (St.set_keep (by assumption) (St.set_same _ _ _)) | exact St.set_keep (by assumption) (St.set_keep (by assumption) (by assumption))) rfl rfl hR) ?_ | refine lj_s (fun R hR => opj_store rfl rfl rfl rfl (by first | exact St.set_same _ _ _ | assumption | exact St.set_keep (by assumption) (St.set_same _ _ _) | exact St.set_keep (by assumption) (by assumption) | exact St.set_keep (by assumption) (St.set_keep (by assumption) (St.set_same _ _ _)) | exact St.set_keep (by assumption) (St.set_keep (by assumption) (by assumption))) rfl rfl rfl (Nat.le_of_ble_eq_true rfl) hR) ?_)
    refine lj_ite rfl trivial (fun R hR0 hR1 => opj_append_sl (sz := 1) (by_ := 1) (news := bys l) rfl rfl ⟨rfl, rfl, rfl, by decide⟩ rfl rfl (.inl rfl) rfl hsrc (by simp [length_bys, chunk]; omega) (by decide) hR0 hR1) (fun h0 => ?_) (fun h0 => ?_)
    · repeat (first | refine lj_auto rfl rfl ?_ | refine lj_autoy rfl rfl rfl rfl ?_ | refine lj_vn rfl rfl rfl rfl ?_ | refine lj_end ?_ | refine cj_seq ?_ | refine cj_region ?_ | refine cj_yes rfl ?_ | refine cj_no rfl ?_ | refine cj_block ?_ | refine cj_skip ?_ | refine cj_ret ?_ | refine cj_exit ?_ | refine lj_nil ?_ | refine nx_thn_cj ?_ | refine nx_ret_thn ?_ | refine nx_ret_inb ?_ | refine nx_exit_thn ?_ | refine nx_exit_same ?_ | refine nx_exit_other rfl ?_ | refine nx_inb ?_ | refine nx_end rfl ?_ | refine nx_end' rfl ?_ | refine lj_f rfl (fun R hR => opj_box rfl rfl rfl hR) (fun id hid => ?_) | refine lj_f rfl (fun R hR => opj_alloc rfl rfl hR) (fun id hid => ?_) | refine lj_v rfl (fun R hR => opj_load_ptr rfl rfl rfl (by first | exact St.set_same _ _ _ | assumption | exact St.set_keep (by assumption) (St.set_same _ _ _) | exact St.set_keep (by assumption) (by assumption) | exact St.set_keep (by assumption) (St.set_keep (by assumption) (St.set_same _ _ _)) | exact St.set_keep (by assumption) (St.set_keep (by assumption) (by assumption))) rfl rfl hR) ?_ | refine lj_vy rfl rfl rfl (fun R hR => opj_load_ptr rfl rfl rfl (by first | exact St.set_same _ _ _ | assumption | exact St.set_keep (by assumption) (St.set_same _ _ _) | exact St.set_keep (by assumption) (by assumption) | exact St.set_keep (by assumption) (St.set_keep (by assumption) (St.set_same _ _ _)) | exact St.set_keep (by assumption) (St.set_keep (by assumption) (by assumption))) rfl rfl hR) ?_ | refine lj_s (fun R hR => opj_store rfl rfl rfl rfl (by first | exact St.set_same _ _ _ | assumption | exact St.set_keep (by assumption) (St.set_same _ _ _) | exact St.set_keep (by assumption) (by assumption) | exact St.set_keep (by assumption) (St.set_keep (by assumption) (St.set_same _ _ _)) | exact St.set_keep (by assumption) (St.set_keep (by assumption) (by assumption))) rfl rfl rfl (Nat.le_of_ble_eq_true rfl) hR) ?_)
      rw [h0]
      exact gives (St.le_refl _) (fin_one (.wk (Wk.sl _ _ _ _)))
    · repeat (first | refine lj_auto rfl rfl ?_ | refine lj_autoy rfl rfl rfl rfl ?_ | refine lj_vn rfl rfl rfl rfl ?_ | refine lj_end ?_ | refine cj_seq ?_ | refine cj_region ?_ | refine cj_yes rfl ?_ | refine cj_no rfl ?_ | refine cj_block ?_ | refine cj_skip ?_ | refine cj_ret ?_ | refine cj_exit ?_ | refine lj_nil ?_ | refine nx_thn_cj ?_ | refine nx_ret_thn ?_ | refine nx_ret_inb ?_ | refine nx_exit_thn ?_ | refine nx_exit_same ?_ | refine nx_exit_other rfl ?_ | refine nx_inb ?_ | refine nx_end rfl ?_ | refine nx_end' rfl ?_ | refine lj_f rfl (fun R hR => opj_box rfl rfl rfl hR) (fun id hid => ?_) | refine lj_f rfl (fun R hR => opj_alloc rfl rfl hR) (fun id hid => ?_) | refine lj_v rfl (fun R hR => opj_load_ptr rfl rfl rfl (by first | exact St.set_same _ _ _ | assumption | exact St.set_keep (by assumption) (St.set_same _ _ _) | exact St.set_keep (by assumption) (by assumption) | exact St.set_keep (by assumption) (St.set_keep (by assumption) (St.set_same _ _ _)) | exact St.set_keep (by assumption) (St.set_keep (by assumption) (by assumption))) rfl rfl hR) ?_ | refine lj_vy rfl rfl rfl (fun R hR => opj_load_ptr rfl rfl rfl (by first | exact St.set_same _ _ _ | assumption | exact St.set_keep (by assumption) (St.set_same _ _ _) | exact St.set_keep (by assumption) (by assumption) | exact St.set_keep (by assumption) (St.set_keep (by assumption) (St.set_same _ _ _)) | exact St.set_keep (by assumption) (St.set_keep (by assumption) (by assumption))) rfl rfl hR) ?_ | refine lj_s (fun R hR => opj_store rfl rfl rfl rfl (by first | exact St.set_same _ _ _ | assumption | exact St.set_keep (by assumption) (St.set_same _ _ _) | exact St.set_keep (by assumption) (by assumption) | exact St.set_keep (by assumption) (St.set_keep (by assumption) (St.set_same _ _ _)) | exact St.set_keep (by assumption) (St.set_keep (by assumption) (by assumption))) rfl rfl rfl (Nat.le_of_ble_eq_true rfl) hR) ?_)
      exact gives (St.le_refl _) (fin_one (.wk (Wk.sl _ _ _ _)))
theorem p_new_o {σ : St} {id : Nat} {et : TypeId} (l : List UInt8) (hl : l.length ≤ 140737488355328) (hid : σ id = some (.row 1 et (bys l))) : ACalls Try.prog 20 [.osl id 1 0 l.length] σ (fun e σ' => ∃ idr, σ idr = none ∧ e = .ret (.ptr idr 2 0 0) ∧ σ' = σ.set idr (rd l 0)) := by
  refine enter Try.func20 rfl rfl rfl rfl ?_
  repeat (first | refine lj_auto rfl rfl ?_ | refine lj_autoy rfl rfl rfl rfl ?_ | refine lj_vn rfl rfl rfl rfl ?_ | refine lj_end ?_ | refine cj_seq ?_ | refine cj_region ?_ | refine cj_yes rfl ?_ | refine cj_no rfl ?_ | refine cj_block ?_ | refine cj_skip ?_ | refine cj_ret ?_ | refine cj_exit ?_ | refine lj_nil ?_ | refine nx_thn_cj ?_ | refine nx_ret_thn ?_ | refine nx_ret_inb ?_ | refine nx_exit_thn ?_ | refine nx_exit_same ?_ | refine nx_exit_other rfl ?_ | refine nx_inb ?_ | refine nx_end rfl ?_ | refine nx_end' rfl ?_ | refine lj_f rfl (fun R hR => opj_box rfl rfl rfl hR) (fun id hid => ?_) | refine lj_f rfl (fun R hR => opj_alloc rfl rfl hR) (fun id hid => ?_) | refine lj_v rfl (fun R hR => opj_load_ptr rfl rfl rfl (by first | exact St.set_same _ _ _ | assumption | exact St.set_keep (by assumption) (St.set_same _ _ _) | exact St.set_keep (by assumption) (by assumption) | exact St.set_keep (by assumption) (St.set_keep (by assumption) (St.set_same _ _ _)) | exact St.set_keep (by assumption) (St.set_keep (by assumption) (by assumption))) rfl rfl hR) ?_ | refine lj_vy rfl rfl rfl (fun R hR => opj_load_ptr rfl rfl rfl (by first | exact St.set_same _ _ _ | assumption | exact St.set_keep (by assumption) (St.set_same _ _ _) | exact St.set_keep (by assumption) (by assumption) | exact St.set_keep (by assumption) (St.set_keep (by assumption) (St.set_same _ _ _)) | exact St.set_keep (by assumption) (St.set_keep (by assumption) (by assumption))) rfl rfl hR) ?_ | refine lj_s (fun R hR => opj_store rfl rfl rfl rfl (by first | exact St.set_same _ _ _ | assumption | exact St.set_keep (by assumption) (St.set_same _ _ _) | exact St.set_keep (by assumption) (by assumption) | exact St.set_keep (by assumption) (St.set_keep (by assumption) (St.set_same _ _ _)) | exact St.set_keep (by assumption) (St.set_keep (by assumption) (by assumption))) rfl rfl rfl (Nat.le_of_ble_eq_true rfl) hR) ?_)
  refine lj_to rfl rfl rfl (p_clone_o l hl hid) ?_
  repeat (first | refine lj_auto rfl rfl ?_ | refine lj_autoy rfl rfl rfl rfl ?_ | refine lj_vn rfl rfl rfl rfl ?_ | refine lj_end ?_ | refine cj_seq ?_ | refine cj_region ?_ | refine cj_yes rfl ?_ | refine cj_no rfl ?_ | refine cj_block ?_ | refine cj_skip ?_ | refine cj_ret ?_ | refine cj_exit ?_ | refine lj_nil ?_ | refine nx_thn_cj ?_ | refine nx_ret_thn ?_ | refine nx_ret_inb ?_ | refine nx_exit_thn ?_ | refine nx_exit_same ?_ | refine nx_exit_other rfl ?_ | refine nx_inb ?_ | refine nx_end rfl ?_ | refine nx_end' rfl ?_ | refine lj_f rfl (fun R hR => opj_box rfl rfl rfl hR) (fun id hid => ?_) | refine lj_f rfl (fun R hR => opj_alloc rfl rfl hR) (fun id hid => ?_) | refine lj_v rfl (fun R hR => opj_load_ptr rfl rfl rfl (by first | exact St.set_same _ _ _ | assumption | exact St.set_keep (by assumption) (St.set_same _ _ _) | exact St.set_keep (by assumption) (by assumption) | exact St.set_keep (by assumption) (St.set_keep (by assumption) (St.set_same _ _ _)) | exact St.set_keep (by assumption) (St.set_keep (by assumption) (by assumption))) rfl rfl hR) ?_ | refine lj_vy rfl rfl rfl (fun R hR => opj_load_ptr rfl rfl rfl (by first | exact St.set_same _ _ _ | assumption | exact St.set_keep (by assumption) (St.set_same _ _ _) | exact St.set_keep (by assumption) (by assumption) | exact St.set_keep (by assumption) (St.set_keep (by assumption) (St.set_same _ _ _)) | exact St.set_keep (by assumption) (St.set_keep (by assumption) (by assumption))) rfl rfl hR) ?_ | refine lj_s (fun R hR => opj_store rfl rfl rfl rfl (by first | exact St.set_same _ _ _ | assumption | exact St.set_keep (by assumption) (St.set_same _ _ _) | exact St.set_keep (by assumption) (by assumption) | exact St.set_keep (by assumption) (St.set_keep (by assumption) (St.set_same _ _ _)) | exact St.set_keep (by assumption) (St.set_keep (by assumption) (by assumption))) rfl rfl rfl (Nat.le_of_ble_eq_true rfl) hR) ?_)
  exact ⟨_, by assumption, rfl, rfl⟩
theorem St.set_mid {σ : St} {a b : Nat} {x x' y : AObj} (h : a ≠ b) : ((σ.set a x).set b y).set a x' = (σ.set a x').set b y := by
  funext i
  by_cases ha : i = a
  · subst ha; rw [St.set_same, St.set_ne _ _ _ h, St.set_same]
  · rw [St.set_ne _ _ _ ha]
    by_cases hb : i = b
    · subst hb; rw [St.set_same, St.set_same]
    · rw [St.set_ne _ _ _ hb, St.set_ne _ _ _ ha, St.set_ne _ _ _ hb, St.set_ne _ _ _ ha]
theorem St.le_three {σ : St} {a b c : Nat} {x x' y z : AObj} (ha : σ a = none) (hab : a ≠ b) (hac : a ≠ c) : ((σ.set b y).set c z).le ((((σ.set a x).set b y).set c z).set a x') := fun i o h => by
  by_cases hi : i = a
  · subst hi
    rw [St.set_ne _ _ _ hac, St.set_ne _ _ _ hab, ha] at h
    cases h
  · rw [St.set_ne _ _ _ hi]
    by_cases hc : i = c
    · subst hc; rw [St.set_same] at h ⊢; exact h
    · rw [St.set_ne _ _ _ hc] at h ⊢
      by_cases hb : i = b
      · subst hb; rw [St.set_same] at h ⊢; exact h
      · rw [St.set_ne _ _ _ hb] at h ⊢
        rw [St.set_ne _ _ _ hi]
        exact h
theorem rnum_le (l : List UInt8) (e w : Int) : (rnum l e w).2.1.length ≤ l.length := by
  unfold rnum
  split
  · exact Nat.le_refl _
  · split
    · exact Nat.le_refl _
    · simp
theorem rsigned_le (l : List UInt8) (e : Int) : (rsigned l e).2.1.length ≤ l.length := by
  unfold rsigned
  split
  · exact Nat.le_refl _
  · split
    · exact Nat.le_refl _
    · simp
theorem rtext_le (l : List UInt8) (e : Int) : (rtext l e).2.1.length ≤ l.length := by
  unfold rtext
  split
  · exact Nat.le_refl _
  · unfold rtextOk
    split
    · exact Nat.le_refl _
    · split
      · exact Nat.le_refl _
      · simp; omega
end Go.Proofs.Ytgchdhdblkbkiaa.Ab
