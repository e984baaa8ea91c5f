/- The functions of the law, one after the other: what a run of D answers. -/
import Derived.Test.YtmjdhbenplpinaaGreatDoorWk
import Derived.Test.YtmjdhbenplpinaaGreatDoorFull
import Derived.Test.YtmjdhbenplpinaaGreatDoorW0
import Derived.Laws.RangeString
import Derived.Laws.RangeAny
import Derived.Laws.StructEq
namespace Go.D
open Go.Proofs
set_option maxRecDepth 100000
set_option linter.unusedVariables false
set_option linter.unusedSimpArgs false
theorem rng_in (op : Int) (t u : List UInt8) (num imm size : Int) (r : KindR) (hk : kindAt op = some r) (hn : 0 ≤ num) : rangesV [insV op t u num imm size] = some (.int .i64 (if !(rightB num imm size r.right) then 3 else 0)) := by
 show (match kindAt op with
  | some r => if 0 ≤ num then some (Value.int .i64 (if !(rightB num imm size r.right) then 3 else 0)) else none
  | none => none) = _
 rw [hk]
 exact if_pos hn
def U1 : List (Nat × Spec) := (65, whenV) :: TP
theorem V1 : Fine U1 := f_whenR FP (fun _ => rfl)
def U2 : List (Nat × Spec) := (196, isDigitV) :: U1
theorem V2 : Fine U2 := f_isDigit V1 (fun _ => rfl)
def U3 : List (Nat × Spec) := (140, numV) :: U2
theorem V3 : Fine U3 := f_num V2 (fun _ => rfl) (fun c h => callR_tab rfl rfl rfl rfl h)
def U4 : List (Nat × Spec) := (126, partsV) :: U3
theorem V4 : Fine U4 := f_parts V3 (fun _ => rfl) (fun s h => callR_tab rfl rfl rfl rfl h) (fun b e h => callR_tab rfl rfl rfl rfl h)
def U5 : List (Nat × Spec) := (125, chkV) :: U4
theorem V5 : Fine U5 := f_check01 V4 (fun _ => rfl) (fun s h => callR_tab rfl rfl rfl rfl h)
def U6 : List (Nat × Spec) := (103, width01V) :: U5
theorem V6 : Fine U6 := f_width01 V5 (fun _ => rfl) (fun s h => callR_tab rfl rfl rfl rfl h)
def U7 : List (Nat × Spec) := (118, wid12V) :: U6
theorem V7 : Fine U7 := f_wid12 V6 (fun _ => rfl) (fun s h => callR_tab rfl rfl rfl rfl h)
def U8 : List (Nat × Spec) := (90, size12V) :: U7
theorem V8 : Fine U8 := f_size12 V7 (fun _ => rfl) (fun s h => callR_tab rfl rfl rfl rfl h)
def U9 : List (Nat × Spec) := (91, bits12V) :: U8
theorem V9 : Fine U9 := f_bits12 V8 (fun _ => rfl) (fun s h => callR_tab rfl rfl rfl rfl h)
def U10 : List (Nat × Spec) := (56, codeV) :: U9
theorem V10 : Fine U10 := f_code24 V9 (fun _ => rfl) (fun s h => callR_tab rfl rfl rfl rfl h) (fun s h hi => callR_tab rfl (by show (if isI s = true then some (Value.int .i64 (rdTy s).1) else none) = _; rw [if_pos hi]) rfl rfl h)
def U11 : List (Nat × Spec) := (40, typesV) :: U10
theorem V11 : Fine U11 := f_types V10 (fun _ => rfl) (fun s h => callR_tab rfl rfl rfl rfl h) (fun b e h => callR_tab rfl rfl rfl rfl h)
def U12 : List (Nat × Spec) := (102, isIntV) :: U11
theorem V12 : Fine U12 := f_isInt V11 (fun _ => rfl) (fun s h => callR_tab rfl rfl rfl rfl h)
def U13 : List (Nat × Spec) := (101, isFloatV) :: U12
theorem V13 : Fine U13 := f_isFloat11 V12 (fun _ => rfl)
def U14 : List (Nat × Spec) := (104, width11V) :: U13
theorem V14 : Fine U14 := f_width11 V13 (fun _ => rfl) (fun s h => callR_tab rfl rfl rfl rfl h)
def U15 : List (Nat × Spec) := (100, form11V) :: U14
theorem V15 : Fine U15 := f_form11 V14 (fun _ => rfl)
def U16 : List (Nat × Spec) := (68, formEV) :: U15
theorem V16 : Fine U16 := f_Form11 V15 (fun _ => rfl) (fun _ => rfl) (fun op h h0 h1 => callR_tab rfl (by show (if 0 ≤ op ∧ op < 70 then some (Value.int .i64 (formN op.toNat)) else none) = _; rw [if_pos ⟨h0, h1⟩]) rfl rfl h)
def U17 : List (Nat × Spec) := (69, takesV) :: U16
theorem V17 : Fine U17 := f_Takes11 V16 (fun _ => rfl) (fun op h h0 h1 => callR_tab rfl (by show (if 0 ≤ op ∧ op < 70 then some (Value.int .i64 (formN op.toNat)) else none) = _; rw [if_pos ⟨h0, h1⟩]) rfl rfl h) (fun s h => callR_tab rfl rfl rfl rfl h) (fun s h => callR_tab rfl rfl rfl rfl h) (fun s h => callR_tab rfl rfl rfl rfl h)
def U18 : List (Nat × Spec) := (66, isImmV) :: U17
theorem V18 : Fine U18 := f_isImm V17 (fun _ => rfl)
def U19 : List (Nat × Spec) := (67, isAlignV) :: U18
theorem V19 : Fine U19 := f_isAlign V18 (fun _ => rfl)
def U20 : List (Nat × Spec) := (70, convV) :: U19
theorem V20 : Fine U20 := f_Converts11 V19 (fun _ => rfl) (fun s h => callR_tab rfl rfl rfl rfl h) (fun s h => callR_tab rfl rfl rfl rfl h) (fun s h => callR_tab rfl rfl rfl rfl h)
def U21 : List (Nat × Spec) := (24, rowOfV) :: U20
theorem V21 : Fine U21 := f_rowOf V20 (fun _ => rfl)
def U22 : List (Nat × Spec) := (38, hasV) :: U21
theorem V22 : Fine U22 := f_has V21 (fun _ => rfl)
def U23 : List (Nat × Spec) := (42, operV) :: U22
theorem V23 : Fine U23 := f_oper V22 (fun _ => rfl) (fun op h => callR_tab rfl rfl rfl rfl h) (fun op s h h0 h1 => callR_tab rfl (by show (if 0 ≤ op ∧ op < 70 then some (Value.bool (takesB op.toNat s)) else none) = _; rw [if_pos ⟨h0, h1⟩]) rfl rfl h) (fun op s t h => callR_tab rfl rfl rfl rfl h) (fun b e h => callR_tab rfl rfl rfl rfl h)
def U24 : List (Nat × Spec) := (41, rangesV) :: U23
theorem V24 : Fine U24 := f_ranges V23 (fun _ => rfl) (fun op r h hk => callR_tab rfl (by show (match kindAt op with | some r => some (Value.agg ⟨rowL r⟩) | none => none) = _; rw [hk]) rfl rfl h) (fun n u a d c h hl => callR_tab rfl (by show (if u.length < 1000 then some (Value.bool (hasR u c)) else none) = _; rw [if_pos hl]) rfl rfl h) (fun n h => callR_tab rfl rfl rfl rfl h) (fun b e h => callR_tab rfl rfl rfl rfl h) (fun n h => callR_tab rfl rfl rfl rfl h)
def U25 : List (Nat × Spec) := (58, zigV) :: U24
theorem V25 : Fine U25 := f_signed26 V24 (fun _ => rfl)
def U26 : List (Nat × Spec) := (16, checkV) :: U25
theorem V26 : Fine U26 := f_Check26 V25 (fun _ => rfl) (fun _ => rfl) (fun op r h hk => callR_tab rfl (by show (match kindAt op with | some r => some (Value.agg ⟨rowL r⟩) | none => none) = _; rw [hk]) rfl rfl h) (fun n u a d c h hl => callR_tab rfl (by show (if u.length < 1000 then some (Value.bool (hasR u c)) else none) = _; rw [if_pos hl]) rfl rfl h) (fun s b h => callR_tab rfl rfl rfl rfl h) (fun op t u num imm size r h hk hn => callR_tab rfl (rng_in op t u num imm size r hk hn) rfl rfl h) (fun op t u num imm size h => callR_tab rfl rfl rfl rfl h)
end Go.D
