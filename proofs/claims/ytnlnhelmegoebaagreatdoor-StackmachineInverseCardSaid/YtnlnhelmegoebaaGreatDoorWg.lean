/- All parts of the law at hand. -/
import Derived.Test.YtnlnhelmegoebaaGreatDoorWf
namespace Go.D
open Go.Proofs
set_option maxRecDepth 100000
set_option linter.unusedVariables false
/-! ### All parts of the law at hand -/
section
variable (ng : Nat) (gl : Nat → Nat → Option Value)
abbrev TT : Tab := ⟨tabF TL, ng, gl⟩
theorem t_ck : CheckP (TT ng gl) 31 := fun op t u num imm size h hn =>
  callR_tab rfl (show (if 0 ≤ num then some (Value.int .i64 (checkI op t u num imm size)) else none) = _ from if_pos hn) rfl rfl h
theorem t_fi : FirstP (TT ng gl) := first_run _ fun _ => rfl
theorem t_ops : Ops (TT ng gl) := ⟨fun _ => rfl, fun _ => rfl, fun _ => rfl, fun s h => callR_tab rfl rfl rfl rfl h, fun s h hs => callR_tab rfl (show (if -2147483648 ≤ s ∧ s < 2147483648 then some (Value.int .u64 (zz s : Nat)) else none) = _ from if_pos hs) rfl rfl h⟩
theorem t_by : ByX (TT ng gl) := ⟨t_ops ng gl, fun _ => rfl, fun _ => rfl, fun _ => rfl, fun _ => rfl⟩
theorem t_en : EnX (TT ng gl) := ⟨t_by ng gl, t_ck ng gl, fun _ => rfl, fun _ => rfl, fun _ => rfl, fun _ => rfl, fun _ => rfl, fun _ => rfl, fun _ => rfl⟩
theorem t_tk : TakeP (TT ng gl) := fun h p v l e n hng hn hr hb hl => take_run _ ⟨fun _ => rfl, t_fi ng gl⟩ h hng p v l e n hn hr hb hl
theorem t_nu : NumP (TT ng gl) := fun h p v l e hng hr hb hl => number_run _ (fun _ => rfl) (t_tk ng gl) h p v l e hng hr hb hl
theorem t_sm : SmP (TT ng gl) := fun h p v l e hng hr hb hl => small_run _ (fun _ => rfl) (t_nu ng gl) (t_fi ng gl) h p v l e hng hr hb hl
theorem t_ito : Ito (TT ng gl) := fun n h hn => callR_tab rfl (ito_look n hn) rfl rfl h
theorem t_rd : RdP (TT ng gl) := fun h p q v l e x c hc hng hr hb hl hq17 hq hgq hpq =>
  read_run _ ⟨fun _ => rfl, fun h p v l e hng hr hb hl => typ_run _ (fun _ => rfl) (t_tk ng gl) (t_ito ng gl) h p v l e hng hr hb hl, t_nu ng gl, t_sm ng gl,
    fun h p v l e hng hr hb hl => signed_run _ (fun _ => rfl) (t_sm ng gl) h p v l e hng hr hb hl,
    fun h p v l e n hn hn8 hng hr hb hl => rfixed_run _ (fun _ => rfl) (t_tk ng gl) h p v l e n hn hn8 hng hr hb hl⟩ h p q v l e x c hc hng hr hb hl hq17 hq hgq hpq
theorem t_de : DecP (TT ng gl) := fun h v o l hng hb hl =>
  decode_run _ ⟨fun _ => rfl, fun _ => rfl, fun _ => rfl, fun _ => rfl, t_rd ng gl, t_ck ng gl, t_fi ng gl⟩ h hng v o l hb hl
theorem t_inv : InvX (TT ng gl) := ⟨fun _ => rfl, fun _ => rfl, fun _ => rfl, fun _ => rfl, fun _ => rfl, fun _ => rfl, fun _ => rfl, fun _ => rfl, t_en ng gl, t_de ng gl, fun h => callR_tab rfl rfl rfl rfl h⟩
end
end Go.D
