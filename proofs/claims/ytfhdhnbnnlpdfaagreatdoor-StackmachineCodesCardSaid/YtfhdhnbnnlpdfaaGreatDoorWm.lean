/- The functions of the law, one after the other: what a run of D answers. -/
import Derived.Test.YtfhdhnbnnlpdfaaGreatDoorWv
import Derived.Test.YtfhdhnbnnlpdfaaGreatDoorFull
import Derived.Test.YtfhdhnbnnlpdfaaGreatDoorW0
import Derived.Laws.RangeString
import Derived.Laws.RangeAny
import Derived.Laws.StructEq
namespace Go.D
open Go.Proofs
set_option maxRecDepth 100000
set_option linter.unusedVariables false
set_option linter.unusedSimpArgs false
section
variable (ng : Nat) (gl : Nat → Nat → Option Value)
abbrev TC : Tab := ⟨tabF TLc, ng, gl⟩
theorem c_ck : CheckP (TC ng gl) 36 := fun op t u num imm size h hn =>
 callR_tab rfl (show (if 0 ≤ num then some (Value.int .i64 (checkI op t u num imm size)) else none) = _ from if_pos hn) rfl rfl h
theorem c_fi : FirstP (TC ng gl) := first_run _ fun _ => rfl
theorem c_ops : Ops (TC ng gl) := ⟨fun _ => rfl, fun _ => rfl, fun _ => rfl, fun s h => callR_tab rfl rfl rfl rfl h, fun s h hs => callR_tab rfl (show (if -2147483648 ≤ s ∧ s < 2147483648 then some (Value.int .u64 (zz s : Nat)) else none) = _ from if_pos hs) rfl rfl h⟩
theorem c_by : ByX (TC ng gl) := ⟨c_ops ng gl, fun _ => rfl, fun _ => rfl, fun _ => rfl, fun _ => rfl⟩
theorem c_en : EnX (TC ng gl) := ⟨c_by ng gl, c_ck ng gl, fun _ => rfl, fun _ => rfl, fun _ => rfl, fun _ => rfl, fun _ => rfl, fun _ => rfl, fun _ => rfl⟩
theorem c_tk : TakeP (TC ng gl) := fun h p v l e n hng hn hr hb hl => take_run _ ⟨fun _ => rfl, c_fi ng gl⟩ h hng p v l e n hn hr hb hl
theorem c_nu : NumP (TC ng gl) := fun h p v l e hng hr hb hl => number_run _ (fun _ => rfl) (c_tk ng gl) h p v l e hng hr hb hl
theorem c_sm : SmP (TC ng gl) := fun h p v l e hng hr hb hl => small_run _ (fun _ => rfl) (c_nu ng gl) (c_fi ng gl) h p v l e hng hr hb hl
theorem c_ito : Ito (TC ng gl) := fun n h hn => callR_tab rfl (ito_look n hn) rfl rfl h
theorem c_rd : RdP (TC ng gl) := fun h p q v l e x c hc hng hr hb hl hq17 hq hgq hpq =>
 read_run _ ⟨fun _ => rfl, fun h p v l e hng hr hb hl => typ_run _ (fun _ => rfl) (c_tk ng gl) (c_ito ng gl) h p v l e hng hr hb hl, c_nu ng gl, c_sm ng gl,
  fun h p v l e hng hr hb hl => signed_run _ (fun _ => rfl) (c_sm ng gl) h p v l e hng hr hb hl,
  fun h p v l e n hn hn8 hng hr hb hl => rfixed_run _ (fun _ => rfl) (c_tk ng gl) h p v l e n hn hn8 hng hr hb hl⟩ h p q v l e x c hc hng hr hb hl hq17 hq hgq hpq
theorem c_de : DecP (TC ng gl) := fun h v o l hng hb hl =>
 decode_run _ ⟨fun _ => rfl, fun _ => rfl, fun _ => rfl, fun _ => rfl, c_rd ng gl, c_ck ng gl, c_fi ng gl⟩ h hng v o l hb hl
theorem c_ck26 : CheckP (TC ng gl) 41 := fun op t u num imm size h hn =>
 callR_tab rfl (show (if 0 ≤ num then some (Value.int .i64 (checkI op t u num imm size)) else none) = _ from if_pos hn) rfl rfl h
theorem c_row : RowOf (TC ng gl) := fun op r h hk => callR_tab rfl (by show (match kindAt op with | some r => some (Value.agg ⟨rowL r⟩) | none => none) = _; rw [hk]) rfl rfl h
theorem c_br : BrX (TC ng gl) := ⟨⟨fun _ => rfl, fun _ => rfl, fun s h => callR_tab rfl rfl rfl rfl h, fun s h hs => callR_tab rfl (show (if -2147483648 ≤ s ∧ s < 2147483648 then some (Value.int .u64 (zz s : Nat)) else none) = _ from if_pos hs) rfl rfl h⟩, fun _ => rfl, c_row ng gl⟩
theorem c_tq : TakeQ (TC ng gl) := fun h p v l a0 e n hng hn hr hb ha hl => takeq_run _ (fun _ => rfl) h hng p v l a0 e n hn hr hb ha hl
theorem c_nq : NumQ (TC ng gl) := fun h p v l a0 e hng hr hb ha hl => numberq_run _ (fun _ => rfl) (c_tq ng gl) h p v l a0 e hng hr hb ha hl
theorem c_ty : TypedP (TC ng gl) := fun c h hc => callR_tab rfl (by
 show (if 0 ≤ (c : Int) ∧ (c : Int) < 256 then some (Value.tuple ⟨[.string ⟨⟨(typS (c : Int).toNat).getD []⟩⟩, .bool (typS (c : Int).toNat).isSome]⟩) else none) = _
 rw [if_pos (by omega), Int.toNat_natCast]) rfl rfl h
theorem c_on : OnX (TC ng gl) := ⟨c_tq ng gl, c_nq ng gl, fun h p v l a0 e hng hr hb ha hl => intq_run _ (fun _ => rfl) (c_nq ng gl) h p v l a0 e hng hr hb ha hl,
 fun h p v l a0 e hng hr hb ha hl => typq_run _ (fun _ => rfl) (c_tq ng gl) (c_ty ng gl) h p v l a0 e hng hr hb ha hl, fun _ => rfl, fun _ => rfl⟩
theorem c_dr : DecPR (TC ng gl) := fun h v o l hng hb hl => one_run _ (c_on ng gl) (fun _ => rfl) (c_row ng gl) (c_ck26 ng gl) h hng v o l hb hl
theorem c_co : CoX (TC ng gl) := ⟨fun _ => rfl, fun _ => rfl, fun _ => rfl, fun _ => rfl, fun _ => rfl, fun _ => rfl, fun _ => rfl, fun _ => rfl, fun _ => rfl, fun _ => rfl, fun _ => rfl, c_en ng gl, c_br ng gl, c_ck26 ng gl, c_de ng gl, c_dr ng gl, fun h => callR_tab rfl rfl rfl rfl h⟩
end
end Go.D
