/- The functions of the law, one after the other: what a run of D answers. -/
import Derived.Test.YtmjdhbenplpinaaGreatDoorWs
import Derived.Test.YtmjdhbenplpinaaGreatDoorFull
import Derived.Test.YtmjdhbenplpinaaGreatDoorW0
import Derived.Laws.RangeString
import Derived.Laws.RangeAny
import Derived.Laws.StructEq
import Derived.Test.YtmjdhbenplpinaaGreatDoorWl
namespace Go.D
open Go.Proofs
set_option maxRecDepth 100000
set_option linter.unusedVariables false
set_option linter.unusedSimpArgs false
def S1 : List (Nat × Spec) := (11, sizeV) :: U26
theorem I1 : Fine S1 := f_Size V26 (fun _ => rfl) (fun op t u num imm size h hn => callR_tab rfl (show (if 0 ≤ num then some (Value.int .i64 (checkI op t u num imm size)) else none) = _ from if_pos hn) rfl rfl h) ⟨⟨fun _ => rfl, fun _ => rfl, fun _ => rfl, fun s h => callR_tab rfl rfl rfl rfl h, fun s h hs => callR_tab rfl (show (if -2147483648 ≤ s ∧ s < 2147483648 then some (Value.int .u64 (zz s : Nat)) else none) = _ from if_pos hs) rfl rfl h⟩, fun _ => rfl, fun _ => rfl, fun _ => rfl, fun _ => rfl⟩
def S2 : List (Nat × Spec) := (12, sizeV) :: S1
theorem I2 : Fine S2 := f_Size26 I1 (fun _ => rfl) (fun op t u num imm size h hn => callR_tab rfl (show (if 0 ≤ num then some (Value.int .i64 (checkI op t u num imm size)) else none) = _ from if_pos hn) rfl rfl h) ⟨⟨fun _ => rfl, fun _ => rfl, fun s h => callR_tab rfl rfl rfl rfl h, fun s h hs => callR_tab rfl (show (if -2147483648 ≤ s ∧ s < 2147483648 then some (Value.int .u64 (zz s : Nat)) else none) = _ from if_pos hs) rfl rfl h⟩, fun _ => rfl, (fun op r h hk => callR_tab rfl (by show (match kindAt op with | some r => some (Value.agg ⟨rowL r⟩) | none => none) = _; rw [hk]) rfl rfl h)⟩
def S3 : List (Nat × Spec) := (6, nameV) :: S2
theorem I3 : Fine S3 := f_Name I2 (fun _ => rfl) (fun _ => rfl) (fun _ => rfl) (fun _ => rfl)
def S4 : List (Nat × Spec) := (7, nameV) :: S3
theorem I4 : Fine S4 := f_Name26 I3 (fun _ => rfl) (fun op r h hk => callR_tab rfl (by show (match kindAt op with | some r => some (Value.agg ⟨rowL r⟩) | none => none) = _; rw [hk]) rfl rfl h)
def S5 : List (Nat × Spec) := (13, effectV) :: S4
theorem I5 : Fine S5 := f_Effect I4 (fun _ => rfl) (fun op t u num imm size h hn => callR_tab rfl (show (if 0 ≤ num then some (Value.int .i64 (checkI op t u num imm size)) else none) = _ from if_pos hn) rfl rfl h) (fun _ => rfl) (fun _ => rfl) (fun _ => rfl)
def S6 : List (Nat × Spec) := (14, effectV) :: S5
theorem I6 : Fine S6 := f_Effect26 I5 (fun _ => rfl) (fun op t u num imm size h hn => callR_tab rfl (show (if 0 ≤ num then some (Value.int .i64 (checkI op t u num imm size)) else none) = _ from if_pos hn) rfl rfl h) (fun op r h hk => callR_tab rfl (by show (match kindAt op with | some r => some (Value.agg ⟨rowL r⟩) | none => none) = _; rw [hk]) rfl rfl h)
def S7 : List (Nat × Spec) := (52, itoaV) :: S6
theorem I7 : Fine S7 := f_itoa I6
def S8 : List (Nat × Spec) := (51, fuintV) :: S7
theorem I8 : Fine S8 := f_fuint I7
def TS : List (Nat × Spec) := S8
theorem FS : Fine TS := I8
end Go.D
