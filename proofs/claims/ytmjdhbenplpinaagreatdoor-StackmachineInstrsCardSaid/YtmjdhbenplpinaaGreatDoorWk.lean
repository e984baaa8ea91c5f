/- The functions of the law, one after the other: what a run of D answers. -/
import Derived.Test.YtmjdhbenplpinaaGreatDoorWr
import Derived.Test.YtmjdhbenplpinaaGreatDoorFull
import Derived.Test.YtmjdhbenplpinaaGreatDoorW0
import Derived.Laws.RangeString
import Derived.Laws.RangeAny
import Derived.Laws.StructEq
namespace Go.D
open Go.Proofs
set_option maxRecDepth 100000
set_option linter.unusedVariables false
set_option linter.unusedSimpArgs false
theorem atoi_free {s : List UInt8} {v : Value} (h : atoiV [.string ⟨⟨s⟩⟩] = some v) : afree 4 v = true := by
 have h' : (if (s.all isD && !s.isEmpty && decide (s.length ≤ 3)) = true then some (Value.tuple ⟨[.int .i64 (valA 0 s), .nilIface]⟩) else none) = some v := h
 split at h'
 ·cases h'; rfl
 ·cases h'
theorem Fine.head {T : List (Nat × Spec)} {f : Nat} {s : Spec} (hT : Fine ((f, s) :: T)) : ∀ args v, s args = some v → Orc Tryz.prog E0 f args v := fun args v h => hT f args v (by
 have : Nat.beq f f = true := Nat.beq_refl f
 simp only [tabF, this, cond_true, h])
def T0 : List (Nat × Spec) := []
theorem F0 : Fine T0 := Fine.nil
def T1 : List (Nat × Spec) := (36, whenV) :: T0
theorem F1 : Fine T1 := f_when F0 (fun _ => rfl)
def T2 : List (Nat × Spec) := (119, whenV) :: T1
theorem F2 : Fine T2 := f_whenO F1 (fun _ => rfl)
def T3 : List (Nat × Spec) := (61, hasAnyV) :: T2
theorem F3 : Fine T3 := f_hasAny F2 (fun _ => rfl)
def T4 : List (Nat × Spec) := (78, freeV) :: T3
theorem F4 : Fine T4 := f_free F3 (fun _ => rfl)
def T5 : List (Nat × Spec) := (80, nearV) :: T4
theorem F5 : Fine T5 := f_near F4 (fun _ => rfl)
def T6 : List (Nat × Spec) := (81, alignedV) :: T5
theorem F6 : Fine T6 := f_aligned F5 (fun _ => rfl) (fun _ => rfl) (fun _ => rfl)
def T7 : List (Nat × Spec) := (82, enteredV) :: T6
theorem F7 : Fine T7 := f_entered F6 (fun _ => rfl)
def T8 : List (Nat × Spec) := (215, digV) :: T7
theorem F8 : Fine T8 := f_isDigits F7 (fun _ => rfl)
def T9 : List (Nat × Spec) := (239, atoiV) :: T8
theorem F9 : Fine T9 := f_atoi0 F8 (fun _ => rfl)
def T10 : List (Nat × Spec) := (216, atoiV) :: T9
theorem F10 : Fine T10 := f_atoi F9 (fun _ => rfl) (fun s v h hv => callR_tab rfl hv rfl (atoi_free hv) h)
def T11 : List (Nat × Spec) := (178, rdV) :: T10
theorem F11 : Fine T11 := f_read F10 (fun _ => rfl) (fun s h => callR_tab rfl rfl rfl rfl h) (fun s v h hv => callR_tab rfl hv rfl (atoi_free hv) h)
def T12 : List (Nat × Spec) := (124, wWidthV) :: T11
theorem F12 : Fine T12 := f_wWidth F11 (fun _ => rfl) (fun s h => callR_tab rfl rfl rfl rfl h)
def T13 : List (Nat × Spec) := (97, integerV) :: T12
theorem F13 : Fine T13 := f_integer F12 (fun _ => rfl) (fun s h => callR_tab rfl rfl rfl rfl h)
def T14 : List (Nat × Spec) := (95, isFloatV) :: T13
theorem F14 : Fine T14 := f_isFloat F13 (fun _ => rfl)
def T15 : List (Nat × Spec) := (92, opsWV) :: T14
theorem F15 : Fine T15 := f_opsWidth F14 (fun _ => rfl) (fun s h => callR_tab rfl rfl rfl rfl h) (fun b e h => callR_tab rfl rfl rfl rfl h)
def T16 : List (Nat × Spec) := (60, codeV) :: T15
theorem F16 : Fine T16 := f_code F15 (fun _ => rfl) (fun s h => callR_tab rfl rfl rfl rfl h)
def T17 : List (Nat × Spec) := (33, wrongV) :: T16
theorem F17 : Fine T17 := f_wrong F16 (fun _ => rfl) (fun s h => callR_tab rfl rfl rfl rfl h)
theorem find_0 : findB (EV (tabL T17)) 0 = true := by kernel_rfl
theorem find_1 : findB (EV (tabL T17)) 1 = true := by kernel_rfl
theorem find_2 : findB (EV (tabL T17)) 2 = true := by kernel_rfl
theorem find_3 : findB (EV (tabL T17)) 3 = true := by kernel_rfl
theorem find_4 : findB (EV (tabL T17)) 4 = true := by kernel_rfl
theorem find_5 : findB (EV (tabL T17)) 5 = true := by kernel_rfl
theorem find_6 : findB (EV (tabL T17)) 6 = true := by kernel_rfl
theorem find_7 : findB (EV (tabL T17)) 7 = true := by kernel_rfl
theorem find_8 : findB (EV (tabL T17)) 8 = true := by kernel_rfl
theorem find_9 : findB (EV (tabL T17)) 9 = true := by kernel_rfl
theorem find_10 : findB (EV (tabL T17)) 10 = true := by kernel_rfl
theorem find_11 : findB (EV (tabL T17)) 11 = true := by kernel_rfl
theorem find_12 : findB (EV (tabL T17)) 12 = true := by kernel_rfl
theorem find_13 : findB (EV (tabL T17)) 13 = true := by kernel_rfl
theorem find_14 : findB (EV (tabL T17)) 14 = true := by kernel_rfl
theorem find_15 : findB (EV (tabL T17)) 15 = true := by kernel_rfl
theorem find_16 : findB (EV (tabL T17)) 16 = true := by kernel_rfl
theorem find_17 : findB (EV (tabL T17)) 17 = true := by kernel_rfl
theorem find_18 : findB (EV (tabL T17)) 18 = true := by kernel_rfl
theorem find_19 : findB (EV (tabL T17)) 19 = true := by kernel_rfl
theorem find_20 : findB (EV (tabL T17)) 20 = true := by kernel_rfl
theorem find_21 : findB (EV (tabL T17)) 21 = true := by kernel_rfl
theorem find_22 : findB (EV (tabL T17)) 22 = true := by kernel_rfl
theorem find_23 : findB (EV (tabL T17)) 23 = true := by kernel_rfl
theorem find_24 : findB (EV (tabL T17)) 24 = true := by kernel_rfl
theorem find_25 : findB (EV (tabL T17)) 25 = true := by kernel_rfl
theorem find_26 : findB (EV (tabL T17)) 26 = true := by kernel_rfl
theorem find_27 : findB (EV (tabL T17)) 27 = true := by kernel_rfl
theorem find_28 : findB (EV (tabL T17)) 28 = true := by kernel_rfl
theorem find_29 : findB (EV (tabL T17)) 29 = true := by kernel_rfl
theorem find_30 : findB (EV (tabL T17)) 30 = true := by kernel_rfl
theorem find_31 : findB (EV (tabL T17)) 31 = true := by kernel_rfl
theorem find_32 : findB (EV (tabL T17)) 32 = true := by kernel_rfl
theorem find_33 : findB (EV (tabL T17)) 33 = true := by kernel_rfl
theorem find_34 : findB (EV (tabL T17)) 34 = true := by kernel_rfl
theorem find_35 : findB (EV (tabL T17)) 35 = true := by kernel_rfl
theorem find_36 : findB (EV (tabL T17)) 36 = true := by kernel_rfl
theorem find_37 : findB (EV (tabL T17)) 37 = true := by kernel_rfl
theorem find_38 : findB (EV (tabL T17)) 38 = true := by kernel_rfl
theorem find_39 : findB (EV (tabL T17)) 39 = true := by kernel_rfl
theorem find_40 : findB (EV (tabL T17)) 40 = true := by kernel_rfl
theorem find_41 : findB (EV (tabL T17)) 41 = true := by kernel_rfl
theorem find_42 : findB (EV (tabL T17)) 42 = true := by kernel_rfl
theorem find_43 : findB (EV (tabL T17)) 43 = true := by kernel_rfl
theorem find_44 : findB (EV (tabL T17)) 44 = true := by kernel_rfl
theorem find_45 : findB (EV (tabL T17)) 45 = true := by kernel_rfl
theorem find_46 : findB (EV (tabL T17)) 46 = true := by kernel_rfl
theorem find_47 : findB (EV (tabL T17)) 47 = true := by kernel_rfl
theorem find_48 : findB (EV (tabL T17)) 48 = true := by kernel_rfl
theorem find_49 : findB (EV (tabL T17)) 49 = true := by kernel_rfl
theorem find_50 : findB (EV (tabL T17)) 50 = true := by kernel_rfl
theorem find_51 : findB (EV (tabL T17)) 51 = true := by kernel_rfl
theorem find_52 : findB (EV (tabL T17)) 52 = true := by kernel_rfl
theorem find_53 : findB (EV (tabL T17)) 53 = true := by kernel_rfl
theorem find_54 : findB (EV (tabL T17)) 54 = true := by kernel_rfl
theorem find_55 : findB (EV (tabL T17)) 55 = true := by kernel_rfl
theorem find_56 : findB (EV (tabL T17)) 56 = true := by kernel_rfl
theorem find_57 : findB (EV (tabL T17)) 57 = true := by kernel_rfl
theorem find_58 : findB (EV (tabL T17)) 58 = true := by kernel_rfl
theorem find_59 : findB (EV (tabL T17)) 59 = true := by kernel_rfl
theorem find_60 : findB (EV (tabL T17)) 60 = true := by kernel_rfl
theorem find_61 : findB (EV (tabL T17)) 61 = true := by kernel_rfl
theorem find_62 : findB (EV (tabL T17)) 62 = true := by kernel_rfl
theorem find_63 : findB (EV (tabL T17)) 63 = true := by kernel_rfl
theorem find_64 : findB (EV (tabL T17)) 64 = true := by kernel_rfl
theorem find_65 : findB (EV (tabL T17)) 65 = true := by kernel_rfl
theorem find_66 : findB (EV (tabL T17)) 66 = true := by kernel_rfl
theorem find_67 : findB (EV (tabL T17)) 67 = true := by kernel_rfl
theorem find_68 : findB (EV (tabL T17)) 68 = true := by kernel_rfl
theorem find_69 : findB (EV (tabL T17)) 69 = true := by kernel_rfl
theorem findAll : ∀ op, op < 70 → findB (EV (tabL T17)) op = true
 | 0, _ => find_0
 | 1, _ => find_1
 | 2, _ => find_2
 | 3, _ => find_3
 | 4, _ => find_4
 | 5, _ => find_5
 | 6, _ => find_6
 | 7, _ => find_7
 | 8, _ => find_8
 | 9, _ => find_9
 | 10, _ => find_10
 | 11, _ => find_11
 | 12, _ => find_12
 | 13, _ => find_13
 | 14, _ => find_14
 | 15, _ => find_15
 | 16, _ => find_16
 | 17, _ => find_17
 | 18, _ => find_18
 | 19, _ => find_19
 | 20, _ => find_20
 | 21, _ => find_21
 | 22, _ => find_22
 | 23, _ => find_23
 | 24, _ => find_24
 | 25, _ => find_25
 | 26, _ => find_26
 | 27, _ => find_27
 | 28, _ => find_28
 | 29, _ => find_29
 | 30, _ => find_30
 | 31, _ => find_31
 | 32, _ => find_32
 | 33, _ => find_33
 | 34, _ => find_34
 | 35, _ => find_35
 | 36, _ => find_36
 | 37, _ => find_37
 | 38, _ => find_38
 | 39, _ => find_39
 | 40, _ => find_40
 | 41, _ => find_41
 | 42, _ => find_42
 | 43, _ => find_43
 | 44, _ => find_44
 | 45, _ => find_45
 | 46, _ => find_46
 | 47, _ => find_47
 | 48, _ => find_48
 | 49, _ => find_49
 | 50, _ => find_50
 | 51, _ => find_51
 | 52, _ => find_52
 | 53, _ => find_53
 | 54, _ => find_54
 | 55, _ => find_55
 | 56, _ => find_56
 | 57, _ => find_57
 | 58, _ => find_58
 | 59, _ => find_59
 | 60, _ => find_60
 | 61, _ => find_61
 | 62, _ => find_62
 | 63, _ => find_63
 | 64, _ => find_64
 | 65, _ => find_65
 | 66, _ => find_66
 | 67, _ => find_67
 | 68, _ => find_68
 | 69, _ => find_69
 | n + 70, h => absurd h (by omega)
def T18 : List (Nat × Spec) := (93, formV) :: T17
theorem F18 : Fine T18 := f_form F17 (fun _ => rfl) findAll
def T19 : List (Nat × Spec) := (63, takesV) :: T18
theorem F19 : Fine T19 := F18.cons (f_Takes F17 (fun _ => rfl) findAll (fun _ => rfl) (fun _ => rfl) (fun s h => callR_tab rfl rfl rfl rfl h) (fun s h => callR_tab rfl rfl rfl rfl h)).head
def T20 : List (Nat × Spec) := (62, formEV) :: T19
theorem F20 : Fine T20 := f_Form F19 (fun _ => rfl) (fun op h h0 h1 => callR_tab rfl (by show (if 0 ≤ op ∧ op < 70 then _ else none) = _; rw [if_pos ⟨h0, h1⟩]) rfl rfl h)
def T21 : List (Nat × Spec) := (64, convV) :: T20
theorem F21 : Fine T21 := f_Converts F20 (fun _ => rfl) (fun _ => rfl) (fun s h => callR_tab rfl rfl rfl rfl h) (fun s h => callR_tab rfl rfl rfl rfl h) (fun s h => callR_tab rfl rfl rfl rfl h)
def T22 : List (Nat × Spec) := (37, existsV) :: T21
theorem F22 : Fine T22 := f_exists F21 (fun _ => rfl) (fun op h => callR_tab rfl rfl rfl rfl h) (fun op s h h0 h1 => callR_tab rfl (by show (if 0 ≤ op ∧ op < 70 then _ else none) = _; rw [if_pos ⟨h0, h1⟩]) rfl rfl h) (fun op s t h => callR_tab rfl rfl rfl rfl h)
theorem hasAny_of {tab : Tab} (ht : ∀ o s, tab.f 61 [.string ⟨⟨o⟩⟩, .string ⟨⟨s⟩⟩] = hasAnyV [.string ⟨⟨o⟩⟩, .string ⟨⟨s⟩⟩]) : HasAny tab := fun o s h ho hs => callR_tab rfl (by
 rw [ht]
 show (if asc o && asc s then some (Value.bool (hasB o s)) else none) = _
 rw [ho, hs]; rfl) rfl rfl h
def T23 : List (Nat × Spec) := (15, checkV) :: T22
theorem F23 : Fine T23 := f_Check F22 (fun _ => rfl) (fun _ => rfl) (fun _ => rfl) (fun _ => rfl) (fun _ => rfl) (fun _ => rfl) (hasAny_of fun _ _ => rfl)
 ⟨fun op t u num imm size h => callR_tab rfl rfl rfl rfl h, fun op t u num imm size h => callR_tab rfl rfl rfl rfl h, fun op t u num imm size h => callR_tab rfl rfl rfl rfl h, fun op t u num imm size h hn => callR_tab rfl (by show (if 0 ≤ num then _ else none) = _; rw [if_pos hn]) rfl rfl h, fun _ => rfl⟩
 (fun s b h => callR_tab rfl rfl rfl rfl h) (fun b e h => callR_tab rfl rfl rfl rfl h) (fun op t u num imm size h => callR_tab rfl rfl rfl rfl h)
def T24 : List (Nat × Spec) := (88, zigV) :: T23
theorem F24 : Fine T24 := f_zigzag F23 (fun _ => rfl)
def itoT : List (List Value × Value) := (List.range 65).map fun n => ([.int .i64 (n : Nat)], .string ⟨⟨dec2 n⟩⟩)
theorem ito_run : tabRun (EV (tabL T24)) 52 itoT = true := by kernel_rfl
def T25 : List (Nat × Spec) := (52, look itoT) :: T24
theorem F25 : Fine T25 := F24.table (F := Tryz.f52) (by kernel_rfl) rfl ito_run
theorem ito_look : ∀ n : Nat, n ≤ 64 → look itoT [.int .i64 (n : Nat)] = some (.string ⟨⟨dec2 n⟩⟩)
 | 0, _ => rfl
 | 1, _ => rfl
 | 2, _ => rfl
 | 3, _ => rfl
 | 4, _ => rfl
 | 5, _ => rfl
 | 6, _ => rfl
 | 7, _ => rfl
 | 8, _ => rfl
 | 9, _ => rfl
 | 10, _ => rfl
 | 11, _ => rfl
 | 12, _ => rfl
 | 13, _ => rfl
 | 14, _ => rfl
 | 15, _ => rfl
 | 16, _ => rfl
 | 17, _ => rfl
 | 18, _ => rfl
 | 19, _ => rfl
 | 20, _ => rfl
 | 21, _ => rfl
 | 22, _ => rfl
 | 23, _ => rfl
 | 24, _ => rfl
 | 25, _ => rfl
 | 26, _ => rfl
 | 27, _ => rfl
 | 28, _ => rfl
 | 29, _ => rfl
 | 30, _ => rfl
 | 31, _ => rfl
 | 32, _ => rfl
 | 33, _ => rfl
 | 34, _ => rfl
 | 35, _ => rfl
 | 36, _ => rfl
 | 37, _ => rfl
 | 38, _ => rfl
 | 39, _ => rfl
 | 40, _ => rfl
 | 41, _ => rfl
 | 42, _ => rfl
 | 43, _ => rfl
 | 44, _ => rfl
 | 45, _ => rfl
 | 46, _ => rfl
 | 47, _ => rfl
 | 48, _ => rfl
 | 49, _ => rfl
 | 50, _ => rfl
 | 51, _ => rfl
 | 52, _ => rfl
 | 53, _ => rfl
 | 54, _ => rfl
 | 55, _ => rfl
 | 56, _ => rfl
 | 57, _ => rfl
 | 58, _ => rfl
 | 59, _ => rfl
 | 60, _ => rfl
 | 61, _ => rfl
 | 62, _ => rfl
 | 63, _ => rfl
 | 64, _ => rfl
 | n + 65, h => absurd h (by omega)
def TP : List (Nat × Spec) := T25
theorem FP : Fine TP := F25
end Go.D
