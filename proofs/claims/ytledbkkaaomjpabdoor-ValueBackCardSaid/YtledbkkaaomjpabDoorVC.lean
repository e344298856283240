/- Values: awake. -/
import Derived.Test.YtledbkkaaomjpabDoorVB
set_option linter.unusedVariables false
set_option linter.unusedSimpArgs false
namespace Go.Proofs.YtledbkkaaomjpabDoor.Ab
open Go
attribute [local irreducible] thn inb endR CJ LJ OpJ DJ

def sM12 : ByteArray := ⟨#[45, 49, 50]⟩
def sAB : ByteArray := ⟨#[97, 45, 98]⟩
theorem e_p1 : parseV ⟨#[45, 49, 50]⟩ = (1, -12, ⟨#[]⟩, 0) := by decide +kernel
theorem e_p2 : parseV ⟨#[97, 45, 98]⟩ = (2, 0, ⟨#[97, 45, 98]⟩, 0) := by decide +kernel
theorem e_p3 : parseV ⟨#[110, 105, 108]⟩ = (0, 0, ⟨#[]⟩, 0) := by decide +kernel
theorem e_c2 : checkE 2 0 ⟨#[97, 45, 98]⟩ = 0 := by decide +kernel
theorem e_u2 : putV 2 0 ⟨#[97, 45, 98]⟩ = [2, 3, 97, 45, 98] := by decide +kernel
theorem e_t1 : textV 1 (-12) ⟨#[]⟩ = ⟨#[45, 49, 50]⟩ := by decide +kernel
theorem q_p1 : Pure Tryd.prog 9 [.v (.string ⟨#[45, 49, 50]⟩)] (.tup [vv 1 (-12) ⟨#[]⟩, .v (.int .i64 0)]) := by have := p_parse ⟨#[45, 49, 50]⟩; rw [e_p1] at this; exact this
theorem q_p2 : Pure Tryd.prog 9 [.v (.string ⟨#[97, 45, 98]⟩)] (.tup [vv 2 0 ⟨#[97, 45, 98]⟩, .v (.int .i64 0)]) := by have := p_parse ⟨#[97, 45, 98]⟩; rw [e_p2] at this; exact this
theorem q_p3 : Pure Tryd.prog 9 [.v (.string ⟨#[110, 105, 108]⟩)] (.tup [vv 0 0 ⟨#[]⟩, .v (.int .i64 0)]) := by have := p_parse ⟨#[110, 105, 108]⟩; rw [e_p3] at this; exact this
theorem q_u2 : Pure Tryd.prog 23 [vv 2 0 ⟨#[97, 45, 98]⟩] (.tup [.sl none false 1 (bys [2, 3, 97, 45, 98]), .v (.int .i64 0)]) := by have := p_putv 2 0 ⟨#[97, 45, 98]⟩ (by decide); rw [e_u2, e_c2] at this; exact this
theorem q_c2 : Pure Tryd.prog 13 [vv 2 0 ⟨#[97, 45, 98]⟩] (.v (.int .i64 0)) := by have := p_check 2 0 ⟨#[97, 45, 98]⟩; rw [e_c2] at this; exact this
theorem q_t1 : Pure Tryd.prog 15 [vv 1 (-12) ⟨#[]⟩] (.v (.string ⟨#[45, 49, 50]⟩)) := by have := p_textv 1 (-12) ⟨#[]⟩; rw [e_t1] at this; exact this
set_option maxRecDepth 4000 in
theorem p_awakev : Pure Tryd.prog 8 [] (.v (.bool true)) := by
  refine enterW Tryd.func8 rfl rfl rfl rfl (fun σ => ?_)
  repeat (first|(refine jl ?_;first|refine j7 ?_|refine j8 ?_|refine j10 ?_|refine j11 ?_|refine jtf ?_|refine j1 ?_|refine j2 ?_|refine j3 ?_|refine j3f ?_|refine j4 ?_|refine j5 ?_|refine j6 ?_|refine j9 ?_|refine j12 (fun id hid=>?_)|refine j13 (fun id hid=>?_)|refine j14 ?_|refine j15 ?_|refine j17 ?_|refine j16 ?_|refine j18 ?_|refine j19 ?_|refine j20 ?_|refine j21 ?_|refine j23 ?_|refine j24 ?_|refine j25 ?_|refine j26 ?_|refine jeq ?_|refine jeqq ?_|refine jne ?_|refine jneq ?_|refine jcbq ?_|refine j22 (fun id hid=>?_)|refine jp (q_p1) ?_|refine jpy (q_p1) ?_|refine jcq (hp:=fun hc=>q_p1) ?_|refine jp (q_p2) ?_|refine jpy (q_p2) ?_|refine jcq (hp:=fun hc=>q_p2) ?_|refine jp (q_p3) ?_|refine jpy (q_p3) ?_|refine jcq (hp:=fun hc=>q_p3) ?_|refine jp (q_u2) ?_|refine jpy (q_u2) ?_|refine jcq (hp:=fun hc=>q_u2) ?_|refine jp (q_c2) ?_|refine jpy (q_c2) ?_|refine jcq (hp:=fun hc=>q_c2) ?_|refine jp (q_t1) ?_|refine jpy (q_t1) ?_|refine jcq (hp:=fun hc=>q_t1) ?_|refine jp (p_number _) ?_|refine jpy (p_number _) ?_|refine jcq (hp:=fun hc=>p_number _) ?_|refine jp (p_symbol _) ?_|refine jpy (p_symbol _) ?_|refine jcq (hp:=fun hc=>p_symbol _) ?_|refine jp (p_holds _ _ _ _ _ _ _) ?_|refine jpy (p_holds _ _ _ _ _ _ _) ?_|refine jcq (hp:=fun hc=>p_holds _ _ _ _ _ _ _) ?_|refine jp (p_signv _ (by decide) (by decide)) ?_|refine jpy (p_signv _ (by decide) (by decide)) ?_|refine jcq (hp:=fun hc=>p_signv _ (by decide) (by decide)) ?_)|(refine dl ?_;first|refine d7 ?_|refine d8 ?_|refine d10 ?_|refine d11 ?_|refine dtf ?_|refine d1 ?_|refine d2 ?_|refine d3 ?_|refine d3f ?_|refine d4 ?_|refine d9 ?_|refine d14 ?_|refine d14a ?_|refine d15 ?_|refine d16 ?_|refine d18 ?_|refine d19 ?_|refine d20 ?_|refine d21 ?_|refine d17 ?_|refine deq ?_|refine deqq ?_|refine dne ?_|refine dneq ?_|refine dcb ?_|refine dcbq ?_|refine dp (q_p1) ?_|refine dpy (q_p1) ?_|refine dpq (hp:=fun hc=>q_p1) ?_|refine dp (q_p2) ?_|refine dpy (q_p2) ?_|refine dpq (hp:=fun hc=>q_p2) ?_|refine dp (q_p3) ?_|refine dpy (q_p3) ?_|refine dpq (hp:=fun hc=>q_p3) ?_|refine dp (q_u2) ?_|refine dpy (q_u2) ?_|refine dpq (hp:=fun hc=>q_u2) ?_|refine dp (q_c2) ?_|refine dpy (q_c2) ?_|refine dpq (hp:=fun hc=>q_c2) ?_|refine dp (q_t1) ?_|refine dpy (q_t1) ?_|refine dpq (hp:=fun hc=>q_t1) ?_|refine dp (p_number _) ?_|refine dpy (p_number _) ?_|refine dpq (hp:=fun hc=>p_number _) ?_|refine dp (p_symbol _) ?_|refine dpy (p_symbol _) ?_|refine dpq (hp:=fun hc=>p_symbol _) ?_|refine dp (p_holds _ _ _ _ _ _ _) ?_|refine dpy (p_holds _ _ _ _ _ _ _) ?_|refine dpq (hp:=fun hc=>p_holds _ _ _ _ _ _ _) ?_|refine dp (p_signv _ (by decide) (by decide)) ?_|refine dpy (p_signv _ (by decide) (by decide)) ?_|refine dpq (hp:=fun hc=>p_signv _ (by decide) (by decide)) ?_)|(refine jc ?_;first|refine c1 ?_|refine c2 ?_|refine c3 ?_|refine c4 ?_|refine c5 ?_|refine c6 ?_|refine c7 ?_|refine c8 ?_|refine cq ?_)|refine n1 ?_|refine n2 ?_|refine n3 ?_|refine n4 ?_|refine n5 ?_|refine n6 ?_|refine n7 ?_|refine n8 ?_|refine n9 ?_|refine n10 ?_|refine n13 ?_|refine n11 ?_|refine n12 ?_|refine n14 ?_|refine n15 ?_|refine n16 ?_)
  refine ge (?_ : _ = AV.v (.bool true))
  kernel_rfl
end Go.Proofs.YtledbkkaaomjpabDoor.Ab
