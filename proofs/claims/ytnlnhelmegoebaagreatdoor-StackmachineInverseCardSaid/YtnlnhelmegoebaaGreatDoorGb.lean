/- Plans of the functions, printed by genfn.py out of Lean's own print of them; each is proved to be the code. -/
import Derived.Test.YtnlnhelmegoebaaGreatDoorGa
namespace Go.D
open Go.Proofs
set_option maxRecDepth 100000
set_option linter.defProp false
/- bowline/ops.Converts -/
noncomputable def rg79_0 : Code := regAt Tryz.f79 0
def p79_0 : List Pl :=
 [.op ⟨some 6, .assign (.const (.bool false)), none⟩]
theorem r79_0 (tab : Tab) (s : S) : exR (EV tab) rg79_0 s = norm (runS (E := EV tab) (callR (EV tab)) (roundR (EV tab)) p79_0 s) := exR_plan (by kernel_rfl) s
noncomputable def rg79_1 : Code := regAt Tryz.f79 1
def p79_1 : List Pl :=
 [.op ⟨some 16, .move (.tmp 1), none⟩,
 .op ⟨some 17, .call (.mk (.value (.func 99)) #[(.tmp 16)] #[9]), none⟩,
 .op ⟨some 15, .move (.tmp 17), none⟩,
 .op ⟨some 18, .extract (.tmp 15) 0, none⟩,
 .op ⟨some 19, .extract (.tmp 15) 1, none⟩,
 .op ⟨some 7, .alloc 174, none⟩,
 .op ⟨none, .store 174 (.tmp 7) (.tmp 18), none⟩,
 .op ⟨some 8, .assign (.tmp 19), none⟩]
theorem r79_1 (tab : Tab) (s : S) : exR (EV tab) rg79_1 s = norm (runS (E := EV tab) (callR (EV tab)) (roundR (EV tab)) p79_1 s) := exR_plan (by kernel_rfl) s
noncomputable def rg79_2 : Code := regAt Tryz.f79 2
def p79_2 : List Pl :=
 [.op ⟨some 21, .move (.tmp 2), none⟩,
 .op ⟨some 22, .call (.mk (.value (.func 99)) #[(.tmp 21)] #[9]), none⟩,
 .op ⟨some 20, .move (.tmp 22), none⟩,
 .op ⟨some 23, .extract (.tmp 20) 0, none⟩,
 .op ⟨some 24, .extract (.tmp 20) 1, none⟩,
 .op ⟨some 9, .alloc 174, none⟩,
 .op ⟨none, .store 174 (.tmp 9) (.tmp 23), none⟩,
 .op ⟨some 10, .assign (.tmp 24), none⟩]
theorem r79_2 (tab : Tab) (s : S) : exR (EV tab) rg79_2 s = norm (runS (E := EV tab) (callR (EV tab)) (roundR (EV tab)) p79_2 s) := exR_plan (by kernel_rfl) s
noncomputable def rg79_3 : Code := regAt Tryz.f79 3
def p79_3 : List Pl :=
 [.op ⟨some 26, .move (.tmp 1), none⟩,
 .op ⟨some 27, .call (.mk (.value (.func 80)) #[(.tmp 26)] #[9]), none⟩,
 .op ⟨some 25, .move (.tmp 27), none⟩,
 .op ⟨some 28, .extract (.tmp 25) 0, none⟩,
 .op ⟨some 29, .extract (.tmp 25) 1, none⟩,
 .op ⟨some 11, .assign (.tmp 28), none⟩,
 .op ⟨some 12, .assign (.tmp 29), none⟩]
theorem r79_3 (tab : Tab) (s : S) : exR (EV tab) rg79_3 s = norm (runS (E := EV tab) (callR (EV tab)) (roundR (EV tab)) p79_3 s) := exR_plan (by kernel_rfl) s
noncomputable def rg79_4 : Code := regAt Tryz.f79 4
def p79_4 : List Pl :=
 [.op ⟨some 31, .move (.tmp 2), none⟩,
 .op ⟨some 32, .call (.mk (.value (.func 80)) #[(.tmp 31)] #[9]), none⟩,
 .op ⟨some 30, .move (.tmp 32), none⟩,
 .op ⟨some 33, .extract (.tmp 30) 0, none⟩,
 .op ⟨some 34, .extract (.tmp 30) 1, none⟩,
 .op ⟨some 13, .assign (.tmp 33), none⟩,
 .op ⟨some 14, .assign (.tmp 34), none⟩]
theorem r79_4 (tab : Tab) (s : S) : exR (EV tab) rg79_4 s = norm (runS (E := EV tab) (callR (EV tab)) (roundR (EV tab)) p79_4 s) := exR_plan (by kernel_rfl) s
noncomputable def rg79_5 : Code := regAt Tryz.f79 5
def p79_5 : List Pl :=
 [.op ⟨some 35, .move (.tmp 0), none⟩]
theorem r79_5 (tab : Tab) (s : S) : exR (EV tab) rg79_5 s = norm (runS (E := EV tab) (callR (EV tab)) (roundR (EV tab)) p79_5 s) := exR_plan (by kernel_rfl) s
noncomputable def rg79_6 : Code := regAt Tryz.f79 6
def p79_6 : List Pl :=
 [.op ⟨some 37, .binOp .eql 3 (.tmp 35) (.const (.int .i64 38)) 3, none⟩,
 .op ⟨some 36, .assign (.tmp 37), none⟩]
theorem r79_6 (tab : Tab) (s : S) : exR (EV tab) rg79_6 s = norm (runS (E := EV tab) (callR (EV tab)) (roundR (EV tab)) p79_6 s) := exR_plan (by kernel_rfl) s
noncomputable def rg79_7 : Code := regAt Tryz.f79 7
def p79_7 : List Pl :=
 [.op ⟨some 38, .binOp .eql 3 (.tmp 35) (.const (.int .i64 39)) 3, none⟩,
 .op ⟨some 36, .assign (.tmp 38), none⟩]
theorem r79_7 (tab : Tab) (s : S) : exR (EV tab) rg79_7 s = norm (runS (E := EV tab) (callR (EV tab)) (roundR (EV tab)) p79_7 s) := exR_plan (by kernel_rfl) s
noncomputable def rg79_8 : Code := regAt Tryz.f79 8
def p79_8 : List Pl :=
 [.op ⟨some 39, .move (.tmp 8), none⟩,
 .op ⟨some 40, .move (.tmp 39), none⟩,
 .op ⟨some 41, .move (.tmp 10), some (40, true)⟩,
 .op ⟨some 42, .pick (.tmp 40) (.tmp 41) (.const (.bool false)), none⟩,
 .op ⟨some 6, .assign (.tmp 42), none⟩]
theorem r79_8 (tab : Tab) (s : S) : exR (EV tab) rg79_8 s = norm (runS (E := EV tab) (callR (EV tab)) (roundR (EV tab)) p79_8 s) := exR_plan (by kernel_rfl) s
noncomputable def rg79_9 : Code := regAt Tryz.f79 9
def p79_9 : List Pl :=
 [.op ⟨some 44, .binOp .eql 3 (.tmp 35) (.const (.int .i64 40)) 3, none⟩,
 .op ⟨some 43, .assign (.tmp 44), none⟩]
theorem r79_9 (tab : Tab) (s : S) : exR (EV tab) rg79_9 s = norm (runS (E := EV tab) (callR (EV tab)) (roundR (EV tab)) p79_9 s) := exR_plan (by kernel_rfl) s
noncomputable def rg79_10 : Code := regAt Tryz.f79 10
def p79_10 : List Pl :=
 [.op ⟨some 45, .move (.tmp 8), none⟩,
 .op ⟨some 46, .move (.tmp 45), none⟩,
 .op ⟨some 47, .move (.tmp 10), some (46, true)⟩,
 .op ⟨some 48, .pick (.tmp 46) (.tmp 47) (.const (.bool false)), none⟩,
 .op ⟨some 49, .move (.tmp 48), none⟩,
 .op ⟨some 50, .fieldAddr 174 (.tmp 9) 0, some (49, true)⟩,
 .op ⟨some 51, .load 3 (.tmp 50), some (49, true)⟩,
 .op ⟨some 52, .fieldAddr 174 (.tmp 7) 0, some (49, true)⟩,
 .op ⟨some 53, .load 3 (.tmp 52), some (49, true)⟩,
 .op ⟨some 54, .binOp .leq 3 (.tmp 51) (.tmp 53) 3, some (49, true)⟩,
 .op ⟨some 55, .pick (.tmp 49) (.tmp 54) (.const (.bool false)), none⟩,
 .op ⟨some 6, .assign (.tmp 55), none⟩]
theorem r79_10 (tab : Tab) (s : S) : exR (EV tab) rg79_10 s = norm (runS (E := EV tab) (callR (EV tab)) (roundR (EV tab)) p79_10 s) := exR_plan (by kernel_rfl) s
noncomputable def rg79_11 : Code := regAt Tryz.f79 11
def p79_11 : List Pl :=
 [.op ⟨some 57, .binOp .eql 3 (.tmp 35) (.const (.int .i64 41)) 3, none⟩,
 .op ⟨some 56, .assign (.tmp 57), none⟩]
theorem r79_11 (tab : Tab) (s : S) : exR (EV tab) rg79_11 s = norm (runS (E := EV tab) (callR (EV tab)) (roundR (EV tab)) p79_11 s) := exR_plan (by kernel_rfl) s
noncomputable def rg79_12 : Code := regAt Tryz.f79 12
def p79_12 : List Pl :=
 [.op ⟨some 58, .move (.tmp 12), none⟩,
 .op ⟨some 59, .move (.tmp 14), none⟩,
 .op ⟨some 60, .buildSlice 103 2 #[(0, (.tmp 58)), (1, (.tmp 59))], none⟩,
 .op ⟨some 61, .call (.mk (.value (.func 100)) #[(.tmp 60)] #[103]), none⟩,
 .op ⟨some 62, .binOp .eql 26 (.tmp 61) (.const (.int .i64 0)) 26, none⟩,
 .op ⟨some 63, .move (.tmp 62), none⟩,
 .op ⟨some 64, .move (.tmp 11), some (63, true)⟩,
 .op ⟨some 65, .move (.tmp 13), some (63, true)⟩,
 .op ⟨some 66, .binOp .eql 3 (.tmp 64) (.tmp 65) 3, some (63, true)⟩,
 .op ⟨some 67, .pick (.tmp 63) (.tmp 66) (.const (.bool false)), none⟩,
 .op ⟨some 68, .move (.tmp 67), none⟩,
 .op ⟨some 69, .move (.tmp 1), some (68, true)⟩,
 .op ⟨some 70, .binOp .neq 9 (.tmp 69) (.const (.string ⟨#[112,116,114]⟩)) 9, some (68, true)⟩,
 .op ⟨some 71, .pick (.tmp 68) (.tmp 70) (.const (.bool false)), none⟩,
 .op ⟨some 72, .move (.tmp 71), none⟩,
 .op ⟨some 73, .move (.tmp 2), some (72, true)⟩,
 .op ⟨some 74, .binOp .neq 9 (.tmp 73) (.const (.string ⟨#[112,116,114]⟩)) 9, some (72, true)⟩,
 .op ⟨some 75, .pick (.tmp 72) (.tmp 74) (.const (.bool false)), none⟩,
 .op ⟨some 6, .assign (.tmp 75), none⟩]
theorem r79_12 (tab : Tab) (s : S) : exR (EV tab) rg79_12 s = norm (runS (E := EV tab) (callR (EV tab)) (roundR (EV tab)) p79_12 s) := exR_plan (by kernel_rfl) s
noncomputable def rg79_13 : Code := regAt Tryz.f79 13
def p79_13 : List Pl :=
 [.op ⟨some 77, .binOp .eql 3 (.tmp 35) (.const (.int .i64 42)) 3, none⟩,
 .op ⟨some 76, .assign (.tmp 77), none⟩]
theorem r79_13 (tab : Tab) (s : S) : exR (EV tab) rg79_13 s = norm (runS (E := EV tab) (callR (EV tab)) (roundR (EV tab)) p79_13 s) := exR_plan (by kernel_rfl) s
noncomputable def rg79_14 : Code := regAt Tryz.f79 14
def p79_14 : List Pl :=
 [.op ⟨some 78, .move (.tmp 8), none⟩,
 .op ⟨some 79, .move (.tmp 78), none⟩,
 .op ⟨some 80, .move (.tmp 2), some (79, true)⟩,
 .op ⟨some 81, .call (.mk (.value (.func 98)) #[(.tmp 80)] #[9]), some (79, true)⟩,
 .op ⟨some 82, .pick (.tmp 79) (.tmp 81) (.const (.bool false)), none⟩,
 .op ⟨some 6, .assign (.tmp 82), none⟩]
theorem r79_14 (tab : Tab) (s : S) : exR (EV tab) rg79_14 s = norm (runS (E := EV tab) (callR (EV tab)) (roundR (EV tab)) p79_14 s) := exR_plan (by kernel_rfl) s
noncomputable def rg79_15 : Code := regAt Tryz.f79 15
def p79_15 : List Pl :=
 [.op ⟨some 84, .binOp .eql 3 (.tmp 35) (.const (.int .i64 43)) 3, none⟩,
 .op ⟨some 83, .assign (.tmp 84), none⟩]
theorem r79_15 (tab : Tab) (s : S) : exR (EV tab) rg79_15 s = norm (runS (E := EV tab) (callR (EV tab)) (roundR (EV tab)) p79_15 s) := exR_plan (by kernel_rfl) s
noncomputable def rg79_16 : Code := regAt Tryz.f79 16
def p79_16 : List Pl :=
 [.op ⟨some 85, .binOp .eql 3 (.tmp 35) (.const (.int .i64 44)) 3, none⟩,
 .op ⟨some 83, .assign (.tmp 85), none⟩]
theorem r79_16 (tab : Tab) (s : S) : exR (EV tab) rg79_16 s = norm (runS (E := EV tab) (callR (EV tab)) (roundR (EV tab)) p79_16 s) := exR_plan (by kernel_rfl) s
noncomputable def rg79_17 : Code := regAt Tryz.f79 17
def p79_17 : List Pl :=
 [.op ⟨some 86, .move (.tmp 1), none⟩,
 .op ⟨some 87, .call (.mk (.value (.func 98)) #[(.tmp 86)] #[9]), none⟩,
 .op ⟨some 88, .move (.tmp 87), none⟩,
 .op ⟨some 89, .move (.tmp 10), some (88, true)⟩,
 .op ⟨some 90, .pick (.tmp 88) (.tmp 89) (.const (.bool false)), none⟩,
 .op ⟨some 6, .assign (.tmp 90), none⟩]
theorem r79_17 (tab : Tab) (s : S) : exR (EV tab) rg79_17 s = norm (runS (E := EV tab) (callR (EV tab)) (roundR (EV tab)) p79_17 s) := exR_plan (by kernel_rfl) s
noncomputable def rg79_18 : Code := regAt Tryz.f79 18
def p79_18 : List Pl :=
 [.op ⟨some 92, .binOp .eql 3 (.tmp 35) (.const (.int .i64 45)) 3, none⟩,
 .op ⟨some 91, .assign (.tmp 92), none⟩]
theorem r79_18 (tab : Tab) (s : S) : exR (EV tab) rg79_18 s = norm (runS (E := EV tab) (callR (EV tab)) (roundR (EV tab)) p79_18 s) := exR_plan (by kernel_rfl) s
noncomputable def rg79_19 : Code := regAt Tryz.f79 19
def p79_19 : List Pl :=
 [.op ⟨some 93, .move (.tmp 1), none⟩,
 .op ⟨some 94, .call (.mk (.value (.func 98)) #[(.tmp 93)] #[9]), none⟩,
 .op ⟨some 95, .move (.tmp 94), none⟩,
 .op ⟨some 96, .move (.tmp 2), some (95, true)⟩,
 .op ⟨some 97, .call (.mk (.value (.func 98)) #[(.tmp 96)] #[9]), some (95, true)⟩,
 .op ⟨some 98, .pick (.tmp 95) (.tmp 97) (.const (.bool false)), none⟩,
 .op ⟨some 99, .move (.tmp 98), none⟩,
 .op ⟨some 100, .move (.tmp 1), some (99, true)⟩,
 .op ⟨some 101, .move (.tmp 2), some (99, true)⟩,
 .op ⟨some 102, .binOp .neq 9 (.tmp 100) (.tmp 101) 9, some (99, true)⟩,
 .op ⟨some 103, .pick (.tmp 99) (.tmp 102) (.const (.bool false)), none⟩,
 .op ⟨some 6, .assign (.tmp 103), none⟩]
theorem r79_19 (tab : Tab) (s : S) : exR (EV tab) rg79_19 s = norm (runS (E := EV tab) (callR (EV tab)) (roundR (EV tab)) p79_19 s) := exR_plan (by kernel_rfl) s
noncomputable def rg79_20 : Code := regAt Tryz.f79 20
def p79_20 : List Pl :=
 [.op ⟨some 6, .assign (.const (.bool false)), none⟩]
theorem r79_20 (tab : Tab) (s : S) : exR (EV tab) rg79_20 s = norm (runS (E := EV tab) (callR (EV tab)) (roundR (EV tab)) p79_20 s) := exR_plan (by kernel_rfl) s
noncomputable def b79 : Code := (.seq rg79_0 (.seq rg79_1 (.seq rg79_2 (.seq rg79_3 (.seq rg79_4 (.seq (.seq rg79_5 (.block 0 (.seq (.seq rg79_6 (.cond (Operand.tmp 36) .skip rg79_7)) (.cond (Operand.tmp 36) (.seq rg79_8 .ret) (.seq rg79_9 (.cond (Operand.tmp 43) (.seq rg79_10 .ret) (.seq rg79_11 (.cond (Operand.tmp 56) (.seq rg79_12 .ret) (.seq rg79_13 (.cond (Operand.tmp 76) (.seq rg79_14 .ret) (.seq (.seq rg79_15 (.cond (Operand.tmp 83) .skip rg79_16)) (.cond (Operand.tmp 83) (.seq rg79_17 .ret) (.seq rg79_18 (.cond (Operand.tmp 91) (.seq rg79_19 .ret) .skip)))))))))))))) (.seq rg79_20 .ret)))))))
theorem enter79 (tab : Tab) (args : List Value) (h : H) (hx : callExt (EV tab) 79 args = none) (hl : Nat.ble args.length 104 = true) : callR (EV tab) 79 args h = finish (EV tab) [ResultVar.tmp 6] (exR (EV tab) b79 ⟨false, 104, ofArgs args 0 .leaf, h⟩) :=
  callR_enter (F := Tryz.f79) (c := b79) (by kernel_rfl) hx (by kernel_rfl) (by kernel_rfl) hl
def fF79 := And.intro @p79_0.eq_1 <| And.intro @r79_0 <| And.intro @p79_1.eq_1 <| And.intro @r79_1 <| And.intro @p79_2.eq_1 <| And.intro @r79_2 <| And.intro @p79_3.eq_1 <| And.intro @r79_3 <| And.intro @p79_4.eq_1 <| And.intro @r79_4 <| And.intro @p79_5.eq_1 <| And.intro @r79_5 <| And.intro @p79_6.eq_1 <| And.intro @r79_6 <| And.intro @p79_7.eq_1 <| And.intro @r79_7 <| And.intro @p79_8.eq_1 <| And.intro @r79_8 <| And.intro @p79_9.eq_1 <| And.intro @r79_9 <| And.intro @p79_10.eq_1 <| And.intro @r79_10 <| And.intro @p79_11.eq_1 <| And.intro @r79_11 <| And.intro @p79_12.eq_1 <| And.intro @r79_12 <| And.intro @p79_13.eq_1 <| And.intro @r79_13 <| And.intro @p79_14.eq_1 <| And.intro @r79_14 <| And.intro @p79_15.eq_1 <| And.intro @r79_15 <| And.intro @p79_16.eq_1 <| And.intro @r79_16 <| And.intro @p79_17.eq_1 <| And.intro @r79_17 <| And.intro @p79_18.eq_1 <| And.intro @r79_18 <| And.intro @p79_19.eq_1 <| And.intro @r79_19 <| And.intro @p79_20.eq_1 <| And.intro @r79_20 <| @b79.eq_1
/- bowline/stackmachine.operand -/
noncomputable def rg35_0 : Code := regAt Tryz.f35 0
def p35_0 : List Pl :=
 [.op ⟨some 2, .box 41 (.tmp 0), none⟩,
 .op ⟨some 4, .assign (.const (.slice none 0 0)), none⟩]
theorem r35_0 (tab : Tab) (s : S) : exR (EV tab) rg35_0 s = norm (runS (E := EV tab) (callR (EV tab)) (roundR (EV tab)) p35_0 s) := exR_plan (by kernel_rfl) s
noncomputable def rg35_1 : Code := regAt Tryz.f35 1
def p35_1 : List Pl :=
 [.op ⟨some 8, .move (.tmp 1), none⟩]
theorem r35_1 (tab : Tab) (s : S) : exR (EV tab) rg35_1 s = norm (runS (E := EV tab) (callR (EV tab)) (roundR (EV tab)) p35_1 s) := exR_plan (by kernel_rfl) s
noncomputable def rg35_2 : Code := regAt Tryz.f35 2
def p35_2 : List Pl :=
 [.op ⟨some 10, .binOp .eql 21 (.tmp 8) (.const (.int .i32 84)) 21, none⟩,
 .op ⟨some 9, .assign (.tmp 10), none⟩]
theorem r35_2 (tab : Tab) (s : S) : exR (EV tab) rg35_2 s = norm (runS (E := EV tab) (callR (EV tab)) (roundR (EV tab)) p35_2 s) := exR_plan (by kernel_rfl) s
noncomputable def rg35_3 : Code := regAt Tryz.f35 3
def p35_3 : List Pl :=
 [.op ⟨some 11, .binOp .eql 21 (.tmp 8) (.const (.int .i32 85)) 21, none⟩,
 .op ⟨some 9, .assign (.tmp 11), none⟩]
theorem r35_3 (tab : Tab) (s : S) : exR (EV tab) rg35_3 s = norm (runS (E := EV tab) (callR (EV tab)) (roundR (EV tab)) p35_3 s) := exR_plan (by kernel_rfl) s
noncomputable def rg35_4 : Code := regAt Tryz.f35 4
def p35_4 : List Pl :=
 [.op ⟨some 12, .fieldAddr 41 (.tmp 2) 1, none⟩,
 .op ⟨some 13, .load 9 (.tmp 12), none⟩,
 .op ⟨some 5, .assign (.tmp 13), none⟩]
theorem r35_4 (tab : Tab) (s : S) : exR (EV tab) rg35_4 s = norm (runS (E := EV tab) (callR (EV tab)) (roundR (EV tab)) p35_4 s) := exR_plan (by kernel_rfl) s
noncomputable def rg35_5 : Code := regAt Tryz.f35 5
def p35_5 : List Pl :=
 [.op ⟨some 14, .move (.tmp 1), none⟩,
 .op ⟨some 15, .binOp .eql 21 (.tmp 14) (.const (.int .i32 85)) 21, none⟩]
theorem r35_5 (tab : Tab) (s : S) : exR (EV tab) rg35_5 s = norm (runS (E := EV tab) (callR (EV tab)) (roundR (EV tab)) p35_5 s) := exR_plan (by kernel_rfl) s
noncomputable def rg35_6 : Code := regAt Tryz.f35 6
def p35_6 : List Pl :=
 [.op ⟨some 16, .fieldAddr 41 (.tmp 2) 2, none⟩,
 .op ⟨some 17, .load 9 (.tmp 16), none⟩,
 .op ⟨some 5, .assign (.tmp 17), none⟩]
theorem r35_6 (tab : Tab) (s : S) : exR (EV tab) rg35_6 s = norm (runS (E := EV tab) (callR (EV tab)) (roundR (EV tab)) p35_6 s) := exR_plan (by kernel_rfl) s
noncomputable def rg35_7 : Code := regAt Tryz.f35 7
def p35_7 : List Pl :=
 [.op ⟨some 19, .move (.tmp 5), none⟩,
 .op ⟨some 20, .call (.mk (.value (.func 52)) #[(.tmp 19)] #[9]), none⟩,
 .op ⟨some 18, .move (.tmp 20), none⟩,
 .op ⟨some 21, .extract (.tmp 18) 0, none⟩,
 .op ⟨some 22, .extract (.tmp 18) 1, none⟩,
 .op ⟨some 6, .assign (.tmp 21), none⟩,
 .op ⟨some 7, .assign (.tmp 22), none⟩]
theorem r35_7 (tab : Tab) (s : S) : exR (EV tab) rg35_7 s = norm (runS (E := EV tab) (callR (EV tab)) (roundR (EV tab)) p35_7 s) := exR_plan (by kernel_rfl) s
noncomputable def rg35_8 : Code := regAt Tryz.f35 8
def p35_8 : List Pl :=
 [.op ⟨some 23, .move (.tmp 6), none⟩,
 .op ⟨some 24, .convert 3 5 (.tmp 23), none⟩,
 .op ⟨some 25, .buildSlice 23 1 #[(0, (.tmp 24))], none⟩,
 .op ⟨some 4, .assign (.tmp 25), none⟩]
theorem r35_8 (tab : Tab) (s : S) : exR (EV tab) rg35_8 s = norm (runS (E := EV tab) (callR (EV tab)) (roundR (EV tab)) p35_8 s) := exR_plan (by kernel_rfl) s
noncomputable def rg35_9 : Code := regAt Tryz.f35 9
def p35_9 : List Pl :=
 [.op ⟨some 27, .binOp .eql 21 (.tmp 8) (.const (.int .i32 110)) 21, none⟩,
 .op ⟨some 26, .assign (.tmp 27), none⟩]
theorem r35_9 (tab : Tab) (s : S) : exR (EV tab) rg35_9 s = norm (runS (E := EV tab) (callR (EV tab)) (roundR (EV tab)) p35_9 s) := exR_plan (by kernel_rfl) s
noncomputable def rg35_10 : Code := regAt Tryz.f35 10
def p35_10 : List Pl :=
 [.op ⟨some 28, .binOp .eql 21 (.tmp 8) (.const (.int .i32 76)) 21, none⟩,
 .op ⟨some 26, .assign (.tmp 28), none⟩]
theorem r35_10 (tab : Tab) (s : S) : exR (EV tab) rg35_10 s = norm (runS (E := EV tab) (callR (EV tab)) (roundR (EV tab)) p35_10 s) := exR_plan (by kernel_rfl) s
noncomputable def rg35_11 : Code := regAt Tryz.f35 11
def p35_11 : List Pl :=
 [.op ⟨some 29, .fieldAddr 41 (.tmp 2) 3, none⟩,
 .op ⟨some 30, .load 38 (.tmp 29), none⟩,
 .op ⟨some 31, .call (.mk (.value (.func 53)) #[(.tmp 30)] #[38]), none⟩,
 .op ⟨some 4, .assign (.tmp 31), none⟩]
theorem r35_11 (tab : Tab) (s : S) : exR (EV tab) rg35_11 s = norm (runS (E := EV tab) (callR (EV tab)) (roundR (EV tab)) p35_11 s) := exR_plan (by kernel_rfl) s
noncomputable def rg35_12 : Code := regAt Tryz.f35 12
def p35_12 : List Pl :=
 [.op ⟨some 33, .binOp .eql 21 (.tmp 8) (.const (.int .i32 115)) 21, none⟩,
 .op ⟨some 32, .assign (.tmp 33), none⟩]
theorem r35_12 (tab : Tab) (s : S) : exR (EV tab) rg35_12 s = norm (runS (E := EV tab) (callR (EV tab)) (roundR (EV tab)) p35_12 s) := exR_plan (by kernel_rfl) s
noncomputable def rg35_13 : Code := regAt Tryz.f35 13
def p35_13 : List Pl :=
 [.op ⟨some 34, .fieldAddr 41 (.tmp 2) 4, none⟩,
 .op ⟨some 35, .load 3 (.tmp 34), none⟩,
 .op ⟨some 36, .call (.mk (.value (.func 54)) #[(.tmp 35)] #[3]), none⟩,
 .op ⟨some 37, .call (.mk (.value (.func 53)) #[(.tmp 36)] #[38]), none⟩,
 .op ⟨some 4, .assign (.tmp 37), none⟩]
theorem r35_13 (tab : Tab) (s : S) : exR (EV tab) rg35_13 s = norm (runS (E := EV tab) (callR (EV tab)) (roundR (EV tab)) p35_13 s) := exR_plan (by kernel_rfl) s
noncomputable def rg35_14 : Code := regAt Tryz.f35 14
def p35_14 : List Pl :=
 [.op ⟨some 39, .binOp .eql 21 (.tmp 8) (.const (.int .i32 100)) 21, none⟩,
 .op ⟨some 38, .assign (.tmp 39), none⟩]
theorem r35_14 (tab : Tab) (s : S) : exR (EV tab) rg35_14 s = norm (runS (E := EV tab) (callR (EV tab)) (roundR (EV tab)) p35_14 s) := exR_plan (by kernel_rfl) s
noncomputable def rg35_15 : Code := regAt Tryz.f35 15
def p35_15 : List Pl :=
 [.op ⟨some 40, .fieldAddr 41 (.tmp 2) 4, none⟩,
 .op ⟨some 41, .load 3 (.tmp 40), none⟩,
 .op ⟨some 42, .convert 3 38 (.tmp 41), none⟩,
 .op ⟨some 43, .call (.mk (.value (.func 55)) #[(.tmp 42), (.const (.int .i64 4))] #[38,3]), none⟩,
 .op ⟨some 4, .assign (.tmp 43), none⟩]
theorem r35_15 (tab : Tab) (s : S) : exR (EV tab) rg35_15 s = norm (runS (E := EV tab) (callR (EV tab)) (roundR (EV tab)) p35_15 s) := exR_plan (by kernel_rfl) s
noncomputable def rg35_16 : Code := regAt Tryz.f35 16
def p35_16 : List Pl :=
 [.op ⟨some 45, .binOp .eql 21 (.tmp 8) (.const (.int .i32 119)) 21, none⟩,
 .op ⟨some 44, .assign (.tmp 45), none⟩]
theorem r35_16 (tab : Tab) (s : S) : exR (EV tab) rg35_16 s = norm (runS (E := EV tab) (callR (EV tab)) (roundR (EV tab)) p35_16 s) := exR_plan (by kernel_rfl) s
noncomputable def rg35_17 : Code := regAt Tryz.f35 17
def p35_17 : List Pl :=
 [.op ⟨some 46, .fieldAddr 41 (.tmp 2) 3, none⟩,
 .op ⟨some 47, .load 38 (.tmp 46), none⟩,
 .op ⟨some 48, .call (.mk (.value (.func 55)) #[(.tmp 47), (.const (.int .i64 8))] #[38,3]), none⟩,
 .op ⟨some 4, .assign (.tmp 48), none⟩]
theorem r35_17 (tab : Tab) (s : S) : exR (EV tab) rg35_17 s = norm (runS (E := EV tab) (callR (EV tab)) (roundR (EV tab)) p35_17 s) := exR_plan (by kernel_rfl) s
noncomputable def rg35_18 : Code := regAt Tryz.f35 18
def p35_18 : List Pl :=
 [.op ⟨some 50, .binOp .eql 21 (.tmp 8) (.const (.int .i32 80)) 21, none⟩,
 .op ⟨some 49, .assign (.tmp 50), none⟩]
theorem r35_18 (tab : Tab) (s : S) : exR (EV tab) rg35_18 s = norm (runS (E := EV tab) (callR (EV tab)) (roundR (EV tab)) p35_18 s) := exR_plan (by kernel_rfl) s
noncomputable def rg35_19 : Code := regAt Tryz.f35 19
def p35_19 : List Pl :=
 [.op ⟨some 51, .fieldAddr 41 (.tmp 2) 4, none⟩,
 .op ⟨some 52, .load 3 (.tmp 51), none⟩,
 .op ⟨some 53, .convert 3 38 (.tmp 52), none⟩,
 .op ⟨some 54, .call (.mk (.value (.func 53)) #[(.tmp 53)] #[38]), none⟩,
 .op ⟨some 4, .assign (.tmp 54), none⟩]
theorem r35_19 (tab : Tab) (s : S) : exR (EV tab) rg35_19 s = norm (runS (E := EV tab) (callR (EV tab)) (roundR (EV tab)) p35_19 s) := exR_plan (by kernel_rfl) s
noncomputable def rg35_20 : Code := regAt Tryz.f35 20
def p35_20 : List Pl :=
 [.op ⟨some 55, .fieldAddr 41 (.tmp 2) 5, none⟩,
 .op ⟨some 56, .load 3 (.tmp 55), none⟩,
 .op ⟨some 57, .convert 3 38 (.tmp 56), none⟩,
 .op ⟨some 58, .call (.mk (.value (.func 53)) #[(.tmp 57)] #[38]), none⟩,
 .op ⟨some 4, .assign (.tmp 58), none⟩]
theorem r35_20 (tab : Tab) (s : S) : exR (EV tab) rg35_20 s = norm (runS (E := EV tab) (callR (EV tab)) (roundR (EV tab)) p35_20 s) := exR_plan (by kernel_rfl) s
noncomputable def b35 : Code := (.seq rg35_0 (.seq (.seq rg35_1 (.block 0 (.seq (.seq rg35_2 (.cond (Operand.tmp 9) .skip rg35_3)) (.cond (Operand.tmp 9) (.seq rg35_4 (.seq (.seq rg35_5 (.cond (Operand.tmp 15) rg35_6 .skip)) (.seq rg35_7 (.seq rg35_8 .ret)))) (.seq (.seq rg35_9 (.cond (Operand.tmp 26) .skip rg35_10)) (.cond (Operand.tmp 26) (.seq rg35_11 .ret) (.seq rg35_12 (.cond (Operand.tmp 32) (.seq rg35_13 .ret) (.seq rg35_14 (.cond (Operand.tmp 38) (.seq rg35_15 .ret) (.seq rg35_16 (.cond (Operand.tmp 44) (.seq rg35_17 .ret) (.seq rg35_18 (.cond (Operand.tmp 49) (.seq rg35_19 .ret) .skip)))))))))))))) (.seq rg35_20 .ret)))
theorem enter35 (tab : Tab) (args : List Value) (h : H) (hx : callExt (EV tab) 35 args = none) (hl : Nat.ble args.length 59 = true) : callR (EV tab) 35 args h = finish (EV tab) [ResultVar.tmp 4] (exR (EV tab) b35 ⟨false, 59, ofArgs args 0 .leaf, h⟩) :=
  callR_enter (F := Tryz.f35) (c := b35) (by kernel_rfl) hx (by kernel_rfl) (by kernel_rfl) hl
def fF35 := And.intro @p35_0.eq_1 <| And.intro @r35_0 <| And.intro @p35_1.eq_1 <| And.intro @r35_1 <| And.intro @p35_2.eq_1 <| And.intro @r35_2 <| And.intro @p35_3.eq_1 <| And.intro @r35_3 <| And.intro @p35_4.eq_1 <| And.intro @r35_4 <| And.intro @p35_5.eq_1 <| And.intro @r35_5 <| And.intro @p35_6.eq_1 <| And.intro @r35_6 <| And.intro @p35_7.eq_1 <| And.intro @r35_7 <| And.intro @p35_8.eq_1 <| And.intro @r35_8 <| And.intro @p35_9.eq_1 <| And.intro @r35_9 <| And.intro @p35_10.eq_1 <| And.intro @r35_10 <| And.intro @p35_11.eq_1 <| And.intro @r35_11 <| And.intro @p35_12.eq_1 <| And.intro @r35_12 <| And.intro @p35_13.eq_1 <| And.intro @r35_13 <| And.intro @p35_14.eq_1 <| And.intro @r35_14 <| And.intro @p35_15.eq_1 <| And.intro @r35_15 <| And.intro @p35_16.eq_1 <| And.intro @r35_16 <| And.intro @p35_17.eq_1 <| And.intro @r35_17 <| And.intro @p35_18.eq_1 <| And.intro @r35_18 <| And.intro @p35_19.eq_1 <| And.intro @r35_19 <| And.intro @p35_20.eq_1 <| And.intro @r35_20 <| @b35.eq_1
/- bowline/stackmachine.Number -/
noncomputable def rg53_0 : Code := regAt Tryz.f53 0
def p53_0 : List Pl :=
 [.op ⟨some 2, .assign (.const (.slice none 0 0)), none⟩]
theorem r53_0 (tab : Tab) (s : S) : exR (EV tab) rg53_0 s = norm (runS (E := EV tab) (callR (EV tab)) (roundR (EV tab)) p53_0 s) := exR_plan (by kernel_rfl) s
noncomputable def rg53_1 : Code := regAt Tryz.f53 1
def p53_1 : List Pl :=
 [.op ⟨some 3, .assign (.const (.slice none 0 0)), none⟩]
theorem r53_1 (tab : Tab) (s : S) : exR (EV tab) rg53_1 s = norm (runS (E := EV tab) (callR (EV tab)) (roundR (EV tab)) p53_1 s) := exR_plan (by kernel_rfl) s
noncomputable def rg53_2 : Code := regAt Tryz.f53 2
def p53_2 : List Pl :=
 [.op ⟨some 4, .move (.tmp 0), none⟩,
 .op ⟨some 5, .binOp .geq 38 (.tmp 4) (.const (.int .u64 128)) 38, none⟩]
theorem r53_2 (tab : Tab) (s : S) : exR (EV tab) rg53_2 s = norm (runS (E := EV tab) (callR (EV tab)) (roundR (EV tab)) p53_2 s) := exR_plan (by kernel_rfl) s
noncomputable def rg53_3 : Code := regAt Tryz.f53 3
def p53_3 : List Pl :=
 [.op ⟨some 6, .move (.tmp 3), none⟩,
 .op ⟨some 7, .move (.tmp 0), none⟩,
 .op ⟨some 8, .convert 38 5 (.tmp 7), none⟩,
 .op ⟨some 9, .binOp .or 5 (.tmp 8) (.const (.int .u8 128)) 5, none⟩,
 .op ⟨some 10, .buildSlice 23 1 #[(0, (.tmp 9))], none⟩,
 .op ⟨some 11, .call (.mk (.builtin .append) #[(.tmp 6), (.tmp 10)] #[23,23]), none⟩,
 .op ⟨some 3, .assign (.tmp 11), none⟩]
theorem r53_3 (tab : Tab) (s : S) : exR (EV tab) rg53_3 s = norm (runS (E := EV tab) (callR (EV tab)) (roundR (EV tab)) p53_3 s) := exR_plan (by kernel_rfl) s
noncomputable def rg53_4 : Code := regAt Tryz.f53 4
def p53_4 : List Pl :=
 [.op ⟨some 12, .move (.tmp 0), none⟩,
 .op ⟨some 13, .binOp .shr 38 (.tmp 12) (.const (.int .u64 7)) 150, none⟩,
 .op ⟨some 0, .assign (.tmp 13), none⟩]
theorem r53_4 (tab : Tab) (s : S) : exR (EV tab) rg53_4 s = norm (runS (E := EV tab) (callR (EV tab)) (roundR (EV tab)) p53_4 s) := exR_plan (by kernel_rfl) s
noncomputable def rg53_5 : Code := regAt Tryz.f53 5
def p53_5 : List Pl :=
 [.op ⟨some 14, .move (.tmp 3), none⟩,
 .op ⟨some 15, .move (.tmp 0), none⟩,
 .op ⟨some 16, .convert 38 5 (.tmp 15), none⟩,
 .op ⟨some 17, .buildSlice 23 1 #[(0, (.tmp 16))], none⟩,
 .op ⟨some 18, .call (.mk (.builtin .append) #[(.tmp 14), (.tmp 17)] #[23,23]), none⟩,
 .op ⟨some 2, .assign (.tmp 18), none⟩]
theorem r53_5 (tab : Tab) (s : S) : exR (EV tab) rg53_5 s = norm (runS (E := EV tab) (callR (EV tab)) (roundR (EV tab)) p53_5 s) := exR_plan (by kernel_rfl) s
noncomputable def b53 : Code := (.seq rg53_0 (.seq rg53_1 (.seq (.block 0 (.loop (.seq (.seq rg53_2 (.cond (Operand.tmp 5) .skip (Code.exit 0))) (.block 1 (.seq rg53_3 rg53_4))))) (.seq rg53_5 .ret))))
theorem enter53 (tab : Tab) (args : List Value) (h : H) (hx : callExt (EV tab) 53 args = none) (hl : Nat.ble args.length 19 = true) : callR (EV tab) 53 args h = finish (EV tab) [ResultVar.tmp 2] (exR (EV tab) b53 ⟨false, 19, ofArgs args 0 .leaf, h⟩) :=
  callR_enter (F := Tryz.f53) (c := b53) (by kernel_rfl) hx (by kernel_rfl) (by kernel_rfl) hl
def fF53 := And.intro @p53_0.eq_1 <| And.intro @r53_0 <| And.intro @p53_1.eq_1 <| And.intro @r53_1 <| And.intro @p53_2.eq_1 <| And.intro @r53_2 <| And.intro @p53_3.eq_1 <| And.intro @r53_3 <| And.intro @p53_4.eq_1 <| And.intro @r53_4 <| And.intro @p53_5.eq_1 <| And.intro @r53_5 <| @b53.eq_1
/- bowline/stackmachine.zigzag -/
noncomputable def rg54_0 : Code := regAt Tryz.f54 0
def p54_0 : List Pl :=
 [.op ⟨some 2, .assign (.const (.int .u64 0)), none⟩]
theorem r54_0 (tab : Tab) (s : S) : exR (EV tab) rg54_0 s = norm (runS (E := EV tab) (callR (EV tab)) (roundR (EV tab)) p54_0 s) := exR_plan (by kernel_rfl) s
noncomputable def rg54_1 : Code := regAt Tryz.f54 1
def p54_1 : List Pl :=
 [.op ⟨some 3, .move (.tmp 0), none⟩,
 .op ⟨some 4, .binOp .lss 3 (.tmp 3) (.const (.int .i64 0)) 3, none⟩]
theorem r54_1 (tab : Tab) (s : S) : exR (EV tab) rg54_1 s = norm (runS (E := EV tab) (callR (EV tab)) (roundR (EV tab)) p54_1 s) := exR_plan (by kernel_rfl) s
noncomputable def rg54_2 : Code := regAt Tryz.f54 2
def p54_2 : List Pl :=
 [.op ⟨some 5, .move (.tmp 0), none⟩,
 .op ⟨some 6, .binOp .mul 3 (.const (.int .i64 (-2))) (.tmp 5) 3, none⟩,
 .op ⟨some 7, .binOp .sub 3 (.tmp 6) (.const (.int .i64 1)) 3, none⟩,
 .op ⟨some 8, .convert 3 38 (.tmp 7), none⟩,
 .op ⟨some 2, .assign (.tmp 8), none⟩]
theorem r54_2 (tab : Tab) (s : S) : exR (EV tab) rg54_2 s = norm (runS (E := EV tab) (callR (EV tab)) (roundR (EV tab)) p54_2 s) := exR_plan (by kernel_rfl) s
noncomputable def rg54_3 : Code := regAt Tryz.f54 3
def p54_3 : List Pl :=
 [.op ⟨some 9, .move (.tmp 0), none⟩,
 .op ⟨some 10, .binOp .mul 3 (.const (.int .i64 2)) (.tmp 9) 3, none⟩,
 .op ⟨some 11, .convert 3 38 (.tmp 10), none⟩,
 .op ⟨some 2, .assign (.tmp 11), none⟩]
theorem r54_3 (tab : Tab) (s : S) : exR (EV tab) rg54_3 s = norm (runS (E := EV tab) (callR (EV tab)) (roundR (EV tab)) p54_3 s) := exR_plan (by kernel_rfl) s
noncomputable def b54 : Code := (.seq rg54_0 (.seq (.seq rg54_1 (.cond (Operand.tmp 4) (.seq rg54_2 .ret) .skip)) (.seq rg54_3 .ret)))
theorem enter54 (tab : Tab) (args : List Value) (h : H) (hx : callExt (EV tab) 54 args = none) (hl : Nat.ble args.length 12 = true) : callR (EV tab) 54 args h = finish (EV tab) [ResultVar.tmp 2] (exR (EV tab) b54 ⟨false, 12, ofArgs args 0 .leaf, h⟩) :=
  callR_enter (F := Tryz.f54) (c := b54) (by kernel_rfl) hx (by kernel_rfl) (by kernel_rfl) hl
def fF54 := And.intro @p54_0.eq_1 <| And.intro @r54_0 <| And.intro @p54_1.eq_1 <| And.intro @r54_1 <| And.intro @p54_2.eq_1 <| And.intro @r54_2 <| And.intro @p54_3.eq_1 <| And.intro @r54_3 <| @b54.eq_1
/- bowline/stackmachine.fixed -/
noncomputable def rg55_0 : Code := regAt Tryz.f55 0
def p55_0 : List Pl :=
 [.op ⟨some 4, .assign (.const (.slice none 0 0)), none⟩]
theorem r55_0 (tab : Tab) (s : S) : exR (EV tab) rg55_0 s = norm (runS (E := EV tab) (callR (EV tab)) (roundR (EV tab)) p55_0 s) := exR_plan (by kernel_rfl) s
noncomputable def rg55_1 : Code := regAt Tryz.f55 1
def p55_1 : List Pl :=
 [.op ⟨some 5, .assign (.const (.slice none 0 0)), none⟩]
theorem r55_1 (tab : Tab) (s : S) : exR (EV tab) rg55_1 s = norm (runS (E := EV tab) (callR (EV tab)) (roundR (EV tab)) p55_1 s) := exR_plan (by kernel_rfl) s
noncomputable def rg55_2 : Code := regAt Tryz.f55 2
def p55_2 : List Pl :=
 [.op ⟨some 6, .move (.tmp 1), none⟩,
 .op ⟨some 7, .move (.const (.int .i64 0)), none⟩]
theorem r55_2 (tab : Tab) (s : S) : exR (EV tab) rg55_2 s = norm (runS (E := EV tab) (callR (EV tab)) (roundR (EV tab)) p55_2 s) := exR_plan (by kernel_rfl) s
noncomputable def rg55_3 : Code := regAt Tryz.f55 3
def p55_3 : List Pl :=
 [.op ⟨some 8, .binOp .lss 3 (.tmp 7) (.tmp 6) 3, none⟩]
theorem r55_3 (tab : Tab) (s : S) : exR (EV tab) rg55_3 s = norm (runS (E := EV tab) (callR (EV tab)) (roundR (EV tab)) p55_3 s) := exR_plan (by kernel_rfl) s
noncomputable def rg55_4 : Code := regAt Tryz.f55 4
def p55_4 : List Pl :=
 [.op ⟨some 9, .move (.tmp 5), none⟩,
 .op ⟨some 10, .move (.tmp 0), none⟩,
 .op ⟨some 11, .convert 38 5 (.tmp 10), none⟩,
 .op ⟨some 12, .buildSlice 23 1 #[(0, (.tmp 11))], none⟩,
 .op ⟨some 13, .call (.mk (.builtin .append) #[(.tmp 9), (.tmp 12)] #[23,23]), none⟩,
 .op ⟨some 5, .assign (.tmp 13), none⟩]
theorem r55_4 (tab : Tab) (s : S) : exR (EV tab) rg55_4 s = norm (runS (E := EV tab) (callR (EV tab)) (roundR (EV tab)) p55_4 s) := exR_plan (by kernel_rfl) s
noncomputable def rg55_5 : Code := regAt Tryz.f55 5
def p55_5 : List Pl :=
 [.op ⟨some 14, .move (.tmp 0), none⟩,
 .op ⟨some 15, .binOp .shr 38 (.tmp 14) (.const (.int .u64 8)) 150, none⟩,
 .op ⟨some 0, .assign (.tmp 15), none⟩]
theorem r55_5 (tab : Tab) (s : S) : exR (EV tab) rg55_5 s = norm (runS (E := EV tab) (callR (EV tab)) (roundR (EV tab)) p55_5 s) := exR_plan (by kernel_rfl) s
noncomputable def rg55_6 : Code := regAt Tryz.f55 6
def p55_6 : List Pl :=
 [.op ⟨some 16, .binOp .add 3 (.tmp 7) (.const (.int .i64 1)) 3, none⟩,
 .op ⟨some 7, .move (.tmp 16), none⟩]
theorem r55_6 (tab : Tab) (s : S) : exR (EV tab) rg55_6 s = norm (runS (E := EV tab) (callR (EV tab)) (roundR (EV tab)) p55_6 s) := exR_plan (by kernel_rfl) s
noncomputable def rg55_7 : Code := regAt Tryz.f55 7
def p55_7 : List Pl :=
 [.op ⟨some 17, .move (.tmp 5), none⟩,
 .op ⟨some 4, .assign (.tmp 17), none⟩]
theorem r55_7 (tab : Tab) (s : S) : exR (EV tab) rg55_7 s = norm (runS (E := EV tab) (callR (EV tab)) (roundR (EV tab)) p55_7 s) := exR_plan (by kernel_rfl) s
noncomputable def b55 : Code := (.seq rg55_0 (.seq rg55_1 (.seq (.seq rg55_2 (.block 0 (.loop (.seq rg55_3 (.seq (.cond (Operand.tmp 8) .skip (Code.exit 0)) (.seq (.block 1 (.seq rg55_4 rg55_5)) rg55_6)))))) (.seq rg55_7 .ret))))
theorem enter55 (tab : Tab) (args : List Value) (h : H) (hx : callExt (EV tab) 55 args = none) (hl : Nat.ble args.length 18 = true) : callR (EV tab) 55 args h = finish (EV tab) [ResultVar.tmp 4] (exR (EV tab) b55 ⟨false, 18, ofArgs args 0 .leaf, h⟩) :=
  callR_enter (F := Tryz.f55) (c := b55) (by kernel_rfl) hx (by kernel_rfl) (by kernel_rfl) hl
def fF55 := And.intro @p55_0.eq_1 <| And.intro @r55_0 <| And.intro @p55_1.eq_1 <| And.intro @r55_1 <| And.intro @p55_2.eq_1 <| And.intro @r55_2 <| And.intro @p55_3.eq_1 <| And.intro @r55_3 <| And.intro @p55_4.eq_1 <| And.intro @r55_4 <| And.intro @p55_5.eq_1 <| And.intro @r55_5 <| And.intro @p55_6.eq_1 <| And.intro @r55_6 <| And.intro @p55_7.eq_1 <| And.intro @r55_7 <| @b55.eq_1
/- (bowline/stackmachine.Instr).bytes -/
noncomputable def rg22_0 : Code := regAt Tryz.f22 0
def p22_0 : List Pl :=
 [.op ⟨some 1, .box 41 (.tmp 0), none⟩,
 .op ⟨some 2, .assign (.const (.slice none 0 0)), none⟩]
theorem r22_0 (tab : Tab) (s : S) : exR (EV tab) rg22_0 s = norm (runS (E := EV tab) (callR (EV tab)) (roundR (EV tab)) p22_0 s) := exR_plan (by kernel_rfl) s
noncomputable def rg22_1 : Code := regAt Tryz.f22 1
def p22_1 : List Pl :=
 [.op ⟨some 9, .fieldAddr 41 (.tmp 1) 0, none⟩,
 .op ⟨some 10, .load 3 (.tmp 9), none⟩,
 .op ⟨some 11, .call (.mk (.value (.func 27)) #[(.tmp 10)] #[3]), none⟩,
 .op ⟨some 8, .move (.tmp 11), none⟩,
 .op ⟨some 12, .extract (.tmp 8) 0, none⟩,
 .op ⟨some 13, .extract (.tmp 8) 1, none⟩,
 .op ⟨some 3, .alloc 90, none⟩,
 .op ⟨none, .store 90 (.tmp 3) (.tmp 12), none⟩,
 .op ⟨some 4, .assign (.tmp 13), none⟩]
theorem r22_1 (tab : Tab) (s : S) : exR (EV tab) rg22_1 s = norm (runS (E := EV tab) (callR (EV tab)) (roundR (EV tab)) p22_1 s) := exR_plan (by kernel_rfl) s
noncomputable def rg22_2 : Code := regAt Tryz.f22 2
def p22_2 : List Pl :=
 [.op ⟨some 14, .fieldAddr 41 (.tmp 1) 0, none⟩,
 .op ⟨some 15, .load 3 (.tmp 14), none⟩,
 .op ⟨some 16, .convert 3 5 (.tmp 15), none⟩,
 .op ⟨some 17, .buildSlice 23 1 #[(0, (.tmp 16))], none⟩,
 .op ⟨some 5, .assign (.tmp 17), none⟩]
theorem r22_2 (tab : Tab) (s : S) : exR (EV tab) rg22_2 s = norm (runS (E := EV tab) (callR (EV tab)) (roundR (EV tab)) p22_2 s) := exR_plan (by kernel_rfl) s
noncomputable def rg22_3 : Code := regAt Tryz.f22 3
def p22_3 : List Pl :=
 [.op ⟨some 18, .fieldAddr 90 (.tmp 3) 1, none⟩,
 .op ⟨some 19, .load 9 (.tmp 18), none⟩,
 .op ⟨some 20, .range 9 (.tmp 19), none⟩]
theorem r22_3 (tab : Tab) (s : S) : exR (EV tab) rg22_3 s = norm (runS (E := EV tab) (callR (EV tab)) (roundR (EV tab)) p22_3 s) := exR_plan (by kernel_rfl) s
noncomputable def rg22_4 : Code := regAt Tryz.f22 4
def p22_4 : List Pl :=
 [.op ⟨some 21, .next (.tmp 20) true, none⟩,
 .op ⟨some 22, .extract (.tmp 21) 0, none⟩]
theorem r22_4 (tab : Tab) (s : S) : exR (EV tab) rg22_4 s = norm (runS (E := EV tab) (callR (EV tab)) (roundR (EV tab)) p22_4 s) := exR_plan (by kernel_rfl) s
noncomputable def rg22_5 : Code := regAt Tryz.f22 5
def p22_5 : List Pl :=
 [.op ⟨some 23, .extract (.tmp 21) 2, none⟩,
 .op ⟨some 7, .assign (.tmp 23), none⟩]
theorem r22_5 (tab : Tab) (s : S) : exR (EV tab) rg22_5 s = norm (runS (E := EV tab) (callR (EV tab)) (roundR (EV tab)) p22_5 s) := exR_plan (by kernel_rfl) s
noncomputable def rg22_6 : Code := regAt Tryz.f22 6
def p22_6 : List Pl :=
 [.op ⟨some 24, .move (.tmp 5), none⟩,
 .op ⟨some 25, .load 41 (.tmp 1), none⟩,
 .op ⟨some 26, .move (.tmp 7), none⟩,
 .op ⟨some 27, .call (.mk (.value (.func 35)) #[(.tmp 25), (.tmp 26)] #[41,21]), none⟩,
 .op ⟨some 28, .call (.mk (.builtin .append) #[(.tmp 24), (.tmp 27)] #[23,23]), none⟩,
 .op ⟨some 5, .assign (.tmp 28), none⟩]
theorem r22_6 (tab : Tab) (s : S) : exR (EV tab) rg22_6 s = norm (runS (E := EV tab) (callR (EV tab)) (roundR (EV tab)) p22_6 s) := exR_plan (by kernel_rfl) s
noncomputable def rg22_7 : Code := regAt Tryz.f22 7
def p22_7 : List Pl :=
 [.op ⟨some 29, .move (.tmp 5), none⟩,
 .op ⟨some 2, .assign (.tmp 29), none⟩]
theorem r22_7 (tab : Tab) (s : S) : exR (EV tab) rg22_7 s = norm (runS (E := EV tab) (callR (EV tab)) (roundR (EV tab)) p22_7 s) := exR_plan (by kernel_rfl) s
noncomputable def b22 : Code := (.seq rg22_0 (.seq rg22_1 (.seq rg22_2 (.seq (.seq rg22_3 (.block 0 (.loop (.seq rg22_4 (.seq (.cond (Operand.tmp 22) .skip (Code.exit 0)) (.block 1 (.seq rg22_5 rg22_6))))))) (.seq rg22_7 .ret)))))
theorem enter22 (tab : Tab) (args : List Value) (h : H) (hx : callExt (EV tab) 22 args = none) (hl : Nat.ble args.length 30 = true) : callR (EV tab) 22 args h = finish (EV tab) [ResultVar.tmp 2] (exR (EV tab) b22 ⟨false, 30, ofArgs args 0 .leaf, h⟩) :=
  callR_enter (F := Tryz.f22) (c := b22) (by kernel_rfl) hx (by kernel_rfl) (by kernel_rfl) hl
def fF22 := And.intro @p22_0.eq_1 <| And.intro @r22_0 <| And.intro @p22_1.eq_1 <| And.intro @r22_1 <| And.intro @p22_2.eq_1 <| And.intro @r22_2 <| And.intro @p22_3.eq_1 <| And.intro @r22_3 <| And.intro @p22_4.eq_1 <| And.intro @r22_4 <| And.intro @p22_5.eq_1 <| And.intro @r22_5 <| And.intro @p22_6.eq_1 <| And.intro @r22_6 <| And.intro @p22_7.eq_1 <| And.intro @r22_7 <| @b22.eq_1
/- bowline/stackmachine.mapped[bowline/stackmachine.Instr,bowline/api.Errno] -/
noncomputable def rg33_0 : Code := regAt Tryz.f33 0
def p33_0 : List Pl :=
 [.op ⟨some 4, .assign (.const (.slice none 0 0)), none⟩]
theorem r33_0 (tab : Tab) (s : S) : exR (EV tab) rg33_0 s = norm (runS (E := EV tab) (callR (EV tab)) (roundR (EV tab)) p33_0 s) := exR_plan (by kernel_rfl) s
noncomputable def rg33_1 : Code := regAt Tryz.f33 1
def p33_1 : List Pl :=
 [.op ⟨some 5, .assign (.const (.slice none 0 0)), none⟩]
theorem r33_1 (tab : Tab) (s : S) : exR (EV tab) rg33_1 s = norm (runS (E := EV tab) (callR (EV tab)) (roundR (EV tab)) p33_1 s) := exR_plan (by kernel_rfl) s
noncomputable def rg33_2 : Code := regAt Tryz.f33 2
def p33_2 : List Pl :=
 [.op ⟨some 8, .move (.tmp 0), none⟩,
 .op ⟨some 9, .call (.mk (.builtin .len) #[(.tmp 8)] #[29]), none⟩,
 .op ⟨some 10, .move (.const (.int .i64 0)), none⟩]
theorem r33_2 (tab : Tab) (s : S) : exR (EV tab) rg33_2 s = norm (runS (E := EV tab) (callR (EV tab)) (roundR (EV tab)) p33_2 s) := exR_plan (by kernel_rfl) s
noncomputable def rg33_3 : Code := regAt Tryz.f33 3
def p33_3 : List Pl :=
 [.op ⟨some 11, .binOp .lss 3 (.tmp 10) (.tmp 9) 3, none⟩]
theorem r33_3 (tab : Tab) (s : S) : exR (EV tab) rg33_3 s = norm (runS (E := EV tab) (callR (EV tab)) (roundR (EV tab)) p33_3 s) := exR_plan (by kernel_rfl) s
noncomputable def rg33_4 : Code := regAt Tryz.f33 4
def p33_4 : List Pl :=
 [.op ⟨some 12, .indexAddr 29 (.tmp 8) (.tmp 10), none⟩,
 .op ⟨some 13, .load 41 (.tmp 12), none⟩,
 .op ⟨some 7, .alloc 41, none⟩,
 .op ⟨none, .store 41 (.tmp 7) (.tmp 13), none⟩]
theorem r33_4 (tab : Tab) (s : S) : exR (EV tab) rg33_4 s = norm (runS (E := EV tab) (callR (EV tab)) (roundR (EV tab)) p33_4 s) := exR_plan (by kernel_rfl) s
noncomputable def rg33_5 : Code := regAt Tryz.f33 5
def p33_5 : List Pl :=
 [.op ⟨some 14, .move (.tmp 5), none⟩,
 .op ⟨some 15, .move (.tmp 1), none⟩,
 .op ⟨some 16, .load 41 (.tmp 7), none⟩,
 .op ⟨some 17, .call (.mk (.value (.tmp 15)) #[(.tmp 16)] #[41]), none⟩,
 .op ⟨some 18, .buildSlice 103 1 #[(0, (.tmp 17))], none⟩,
 .op ⟨some 19, .call (.mk (.builtin .append) #[(.tmp 14), (.tmp 18)] #[103,103]), none⟩,
 .op ⟨some 5, .assign (.tmp 19), none⟩]
theorem r33_5 (tab : Tab) (s : S) : exR (EV tab) rg33_5 s = norm (runS (E := EV tab) (callR (EV tab)) (roundR (EV tab)) p33_5 s) := exR_plan (by kernel_rfl) s
noncomputable def rg33_6 : Code := regAt Tryz.f33 6
def p33_6 : List Pl :=
 [.op ⟨some 20, .binOp .add 3 (.tmp 10) (.const (.int .i64 1)) 3, none⟩,
 .op ⟨some 10, .move (.tmp 20), none⟩]
theorem r33_6 (tab : Tab) (s : S) : exR (EV tab) rg33_6 s = norm (runS (E := EV tab) (callR (EV tab)) (roundR (EV tab)) p33_6 s) := exR_plan (by kernel_rfl) s
noncomputable def rg33_7 : Code := regAt Tryz.f33 7
def p33_7 : List Pl :=
 [.op ⟨some 21, .move (.tmp 5), none⟩,
 .op ⟨some 4, .assign (.tmp 21), none⟩]
theorem r33_7 (tab : Tab) (s : S) : exR (EV tab) rg33_7 s = norm (runS (E := EV tab) (callR (EV tab)) (roundR (EV tab)) p33_7 s) := exR_plan (by kernel_rfl) s
noncomputable def b33 : Code := (.seq rg33_0 (.seq rg33_1 (.seq (.seq rg33_2 (.block 0 (.loop (.seq rg33_3 (.seq (.cond (Operand.tmp 11) .skip (Code.exit 0)) (.seq (.block 1 (.seq rg33_4 rg33_5)) rg33_6)))))) (.seq rg33_7 .ret))))
theorem enter33 (tab : Tab) (args : List Value) (h : H) (hx : callExt (EV tab) 33 args = none) (hl : Nat.ble args.length 22 = true) : callR (EV tab) 33 args h = finish (EV tab) [ResultVar.tmp 4] (exR (EV tab) b33 ⟨false, 22, ofArgs args 0 .leaf, h⟩) :=
  callR_enter (F := Tryz.f33) (c := b33) (by kernel_rfl) hx (by kernel_rfl) (by kernel_rfl) hl
def fF33 := And.intro @p33_0.eq_1 <| And.intro @r33_0 <| And.intro @p33_1.eq_1 <| And.intro @r33_1 <| And.intro @p33_2.eq_1 <| And.intro @r33_2 <| And.intro @p33_3.eq_1 <| And.intro @r33_3 <| And.intro @p33_4.eq_1 <| And.intro @r33_4 <| And.intro @p33_5.eq_1 <| And.intro @r33_5 <| And.intro @p33_6.eq_1 <| And.intro @r33_6 <| And.intro @p33_7.eq_1 <| And.intro @r33_7 <| @b33.eq_1
/- bowline/stackmachine.mapped[bowline/stackmachine.Instr,[]byte] -/
noncomputable def rg21_0 : Code := regAt Tryz.f21 0
def p21_0 : List Pl :=
 [.op ⟨some 4, .assign (.const (.slice none 0 0)), none⟩]
theorem r21_0 (tab : Tab) (s : S) : exR (EV tab) rg21_0 s = norm (runS (E := EV tab) (callR (EV tab)) (roundR (EV tab)) p21_0 s) := exR_plan (by kernel_rfl) s
noncomputable def rg21_1 : Code := regAt Tryz.f21 1
def p21_1 : List Pl :=
 [.op ⟨some 5, .assign (.const (.slice none 0 0)), none⟩]
theorem r21_1 (tab : Tab) (s : S) : exR (EV tab) rg21_1 s = norm (runS (E := EV tab) (callR (EV tab)) (roundR (EV tab)) p21_1 s) := exR_plan (by kernel_rfl) s
noncomputable def rg21_2 : Code := regAt Tryz.f21 2
def p21_2 : List Pl :=
 [.op ⟨some 8, .move (.tmp 0), none⟩,
 .op ⟨some 9, .call (.mk (.builtin .len) #[(.tmp 8)] #[29]), none⟩,
 .op ⟨some 10, .move (.const (.int .i64 0)), none⟩]
theorem r21_2 (tab : Tab) (s : S) : exR (EV tab) rg21_2 s = norm (runS (E := EV tab) (callR (EV tab)) (roundR (EV tab)) p21_2 s) := exR_plan (by kernel_rfl) s
noncomputable def rg21_3 : Code := regAt Tryz.f21 3
def p21_3 : List Pl :=
 [.op ⟨some 11, .binOp .lss 3 (.tmp 10) (.tmp 9) 3, none⟩]
theorem r21_3 (tab : Tab) (s : S) : exR (EV tab) rg21_3 s = norm (runS (E := EV tab) (callR (EV tab)) (roundR (EV tab)) p21_3 s) := exR_plan (by kernel_rfl) s
noncomputable def rg21_4 : Code := regAt Tryz.f21 4
def p21_4 : List Pl :=
 [.op ⟨some 12, .indexAddr 29 (.tmp 8) (.tmp 10), none⟩,
 .op ⟨some 13, .load 41 (.tmp 12), none⟩,
 .op ⟨some 7, .alloc 41, none⟩,
 .op ⟨none, .store 41 (.tmp 7) (.tmp 13), none⟩]
theorem r21_4 (tab : Tab) (s : S) : exR (EV tab) rg21_4 s = norm (runS (E := EV tab) (callR (EV tab)) (roundR (EV tab)) p21_4 s) := exR_plan (by kernel_rfl) s
noncomputable def rg21_5 : Code := regAt Tryz.f21 5
def p21_5 : List Pl :=
 [.op ⟨some 14, .move (.tmp 5), none⟩,
 .op ⟨some 15, .move (.tmp 1), none⟩,
 .op ⟨some 16, .load 41 (.tmp 7), none⟩,
 .op ⟨some 17, .call (.mk (.value (.tmp 15)) #[(.tmp 16)] #[41]), none⟩,
 .op ⟨some 18, .buildSlice 65 1 #[(0, (.tmp 17))], none⟩,
 .op ⟨some 19, .call (.mk (.builtin .append) #[(.tmp 14), (.tmp 18)] #[65,65]), none⟩,
 .op ⟨some 5, .assign (.tmp 19), none⟩]
theorem r21_5 (tab : Tab) (s : S) : exR (EV tab) rg21_5 s = norm (runS (E := EV tab) (callR (EV tab)) (roundR (EV tab)) p21_5 s) := exR_plan (by kernel_rfl) s
noncomputable def rg21_6 : Code := regAt Tryz.f21 6
def p21_6 : List Pl :=
 [.op ⟨some 20, .binOp .add 3 (.tmp 10) (.const (.int .i64 1)) 3, none⟩,
 .op ⟨some 10, .move (.tmp 20), none⟩]
theorem r21_6 (tab : Tab) (s : S) : exR (EV tab) rg21_6 s = norm (runS (E := EV tab) (callR (EV tab)) (roundR (EV tab)) p21_6 s) := exR_plan (by kernel_rfl) s
noncomputable def rg21_7 : Code := regAt Tryz.f21 7
def p21_7 : List Pl :=
 [.op ⟨some 21, .move (.tmp 5), none⟩,
 .op ⟨some 4, .assign (.tmp 21), none⟩]
theorem r21_7 (tab : Tab) (s : S) : exR (EV tab) rg21_7 s = norm (runS (E := EV tab) (callR (EV tab)) (roundR (EV tab)) p21_7 s) := exR_plan (by kernel_rfl) s
noncomputable def b21 : Code := (.seq rg21_0 (.seq rg21_1 (.seq (.seq rg21_2 (.block 0 (.loop (.seq rg21_3 (.seq (.cond (Operand.tmp 11) .skip (Code.exit 0)) (.seq (.block 1 (.seq rg21_4 rg21_5)) rg21_6)))))) (.seq rg21_7 .ret))))
theorem enter21 (tab : Tab) (args : List Value) (h : H) (hx : callExt (EV tab) 21 args = none) (hl : Nat.ble args.length 22 = true) : callR (EV tab) 21 args h = finish (EV tab) [ResultVar.tmp 4] (exR (EV tab) b21 ⟨false, 22, ofArgs args 0 .leaf, h⟩) :=
  callR_enter (F := Tryz.f21) (c := b21) (by kernel_rfl) hx (by kernel_rfl) (by kernel_rfl) hl
def fF21 := And.intro @p21_0.eq_1 <| And.intro @r21_0 <| And.intro @p21_1.eq_1 <| And.intro @r21_1 <| And.intro @p21_2.eq_1 <| And.intro @r21_2 <| And.intro @p21_3.eq_1 <| And.intro @r21_3 <| And.intro @p21_4.eq_1 <| And.intro @r21_4 <| And.intro @p21_5.eq_1 <| And.intro @r21_5 <| And.intro @p21_6.eq_1 <| And.intro @r21_6 <| And.intro @p21_7.eq_1 <| And.intro @r21_7 <| @b21.eq_1
/- bowline/stackmachine.checkAll -/
noncomputable def rg19_0 : Code := regAt Tryz.f19 0
def p19_0 : List Pl :=
 [.op ⟨some 2, .assign (.const (.int .i64 0)), none⟩]
theorem r19_0 (tab : Tab) (s : S) : exR (EV tab) rg19_0 s = norm (runS (E := EV tab) (callR (EV tab)) (roundR (EV tab)) p19_0 s) := exR_plan (by kernel_rfl) s
noncomputable def rg19_1 : Code := regAt Tryz.f19 1
def p19_1 : List Pl :=
 [.op ⟨some 3, .move (.tmp 0), none⟩,
 .op ⟨some 4, .call (.mk (.builtin .len) #[(.tmp 3)] #[29]), none⟩,
 .op ⟨some 5, .binOp .gtr 3 (.tmp 4) (.const (.int .i64 4000)) 3, none⟩]
theorem r19_1 (tab : Tab) (s : S) : exR (EV tab) rg19_1 s = norm (runS (E := EV tab) (callR (EV tab)) (roundR (EV tab)) p19_1 s) := exR_plan (by kernel_rfl) s
noncomputable def rg19_2 : Code := regAt Tryz.f19 2
def p19_2 : List Pl :=
 [.op ⟨some 2, .assign (.const (.int .i64 5)), none⟩]
theorem r19_2 (tab : Tab) (s : S) : exR (EV tab) rg19_2 s = norm (runS (E := EV tab) (callR (EV tab)) (roundR (EV tab)) p19_2 s) := exR_plan (by kernel_rfl) s
noncomputable def rg19_3 : Code := regAt Tryz.f19 3
def p19_3 : List Pl :=
 [.op ⟨some 6, .move (.tmp 0), none⟩,
 .op ⟨some 7, .call (.mk (.value (.func 33)) #[(.tmp 6), (.func 31)] #[29,101]), none⟩,
 .op ⟨some 8, .call (.mk (.value (.func 32)) #[(.tmp 7)] #[103]), none⟩,
 .op ⟨some 2, .assign (.tmp 8), none⟩]
theorem r19_3 (tab : Tab) (s : S) : exR (EV tab) rg19_3 s = norm (runS (E := EV tab) (callR (EV tab)) (roundR (EV tab)) p19_3 s) := exR_plan (by kernel_rfl) s
noncomputable def b19 : Code := (.seq rg19_0 (.seq (.seq rg19_1 (.cond (Operand.tmp 5) (.seq rg19_2 .ret) .skip)) (.seq rg19_3 .ret)))
theorem enter19 (tab : Tab) (args : List Value) (h : H) (hx : callExt (EV tab) 19 args = none) (hl : Nat.ble args.length 9 = true) : callR (EV tab) 19 args h = finish (EV tab) [ResultVar.tmp 2] (exR (EV tab) b19 ⟨false, 9, ofArgs args 0 .leaf, h⟩) :=
  callR_enter (F := Tryz.f19) (c := b19) (by kernel_rfl) hx (by kernel_rfl) (by kernel_rfl) hl
def fF19 := And.intro @p19_0.eq_1 <| And.intro @r19_0 <| And.intro @p19_1.eq_1 <| And.intro @r19_1 <| And.intro @p19_2.eq_1 <| And.intro @r19_2 <| And.intro @p19_3.eq_1 <| And.intro @r19_3 <| @b19.eq_1
/- slices.Concat[[]byte,byte] -/
noncomputable def rg20_0 : Code := regAt Tryz.f20 0
def p20_0 : List Pl :=
 [.op ⟨some 2, .assign (.const (.slice none 0 0)), none⟩]
theorem r20_0 (tab : Tab) (s : S) : exR (EV tab) rg20_0 s = norm (runS (E := EV tab) (callR (EV tab)) (roundR (EV tab)) p20_0 s) := exR_plan (by kernel_rfl) s
noncomputable def rg20_1 : Code := regAt Tryz.f20 1
def p20_1 : List Pl :=
 [.op ⟨some 3, .assign (.const (.int .i64 0)), none⟩]
theorem r20_1 (tab : Tab) (s : S) : exR (EV tab) rg20_1 s = norm (runS (E := EV tab) (callR (EV tab)) (roundR (EV tab)) p20_1 s) := exR_plan (by kernel_rfl) s
noncomputable def rg20_2 : Code := regAt Tryz.f20 2
def p20_2 : List Pl :=
 [.op ⟨some 9, .move (.tmp 0), none⟩,
 .op ⟨some 10, .call (.mk (.builtin .len) #[(.tmp 9)] #[65]), none⟩,
 .op ⟨some 11, .move (.const (.int .i64 0)), none⟩]
theorem r20_2 (tab : Tab) (s : S) : exR (EV tab) rg20_2 s = norm (runS (E := EV tab) (callR (EV tab)) (roundR (EV tab)) p20_2 s) := exR_plan (by kernel_rfl) s
noncomputable def rg20_3 : Code := regAt Tryz.f20 3
def p20_3 : List Pl :=
 [.op ⟨some 12, .binOp .lss 3 (.tmp 11) (.tmp 10) 3, none⟩]
theorem r20_3 (tab : Tab) (s : S) : exR (EV tab) rg20_3 s = norm (runS (E := EV tab) (callR (EV tab)) (roundR (EV tab)) p20_3 s) := exR_plan (by kernel_rfl) s
noncomputable def rg20_4 : Code := regAt Tryz.f20 4
def p20_4 : List Pl :=
 [.op ⟨some 13, .indexAddr 65 (.tmp 9) (.tmp 11), none⟩,
 .op ⟨some 14, .load 23 (.tmp 13), none⟩,
 .op ⟨some 5, .assign (.tmp 14), none⟩]
theorem r20_4 (tab : Tab) (s : S) : exR (EV tab) rg20_4 s = norm (runS (E := EV tab) (callR (EV tab)) (roundR (EV tab)) p20_4 s) := exR_plan (by kernel_rfl) s
noncomputable def rg20_5 : Code := regAt Tryz.f20 5
def p20_5 : List Pl :=
 [.op ⟨some 15, .move (.tmp 3), none⟩,
 .op ⟨some 16, .move (.tmp 5), none⟩,
 .op ⟨some 17, .call (.mk (.builtin .len) #[(.tmp 16)] #[23]), none⟩,
 .op ⟨some 18, .binOp .add 3 (.tmp 15) (.tmp 17) 3, none⟩,
 .op ⟨some 3, .assign (.tmp 18), none⟩]
theorem r20_5 (tab : Tab) (s : S) : exR (EV tab) rg20_5 s = norm (runS (E := EV tab) (callR (EV tab)) (roundR (EV tab)) p20_5 s) := exR_plan (by kernel_rfl) s
noncomputable def rg20_6 : Code := regAt Tryz.f20 6
def p20_6 : List Pl :=
 [.op ⟨some 19, .move (.tmp 3), none⟩,
 .op ⟨some 20, .binOp .lss 3 (.tmp 19) (.const (.int .i64 0)) 3, none⟩]
theorem r20_6 (tab : Tab) (s : S) : exR (EV tab) rg20_6 s = norm (runS (E := EV tab) (callR (EV tab)) (roundR (EV tab)) p20_6 s) := exR_plan (by kernel_rfl) s
noncomputable def rg20_7 : Code := regAt Tryz.f20 7
def p20_7 : List Pl :=
 [.op ⟨some 21, .makeInterface 9 (.const (.string ⟨#[108,101,110,32,111,117,116,32,111,102,32,114,97,110,103,101]⟩)), none⟩,
 .op ⟨none, .panic (.tmp 21), none⟩]
theorem r20_7 (tab : Tab) (s : S) : exR (EV tab) rg20_7 s = norm (runS (E := EV tab) (callR (EV tab)) (roundR (EV tab)) p20_7 s) := exR_plan (by kernel_rfl) s
noncomputable def rg20_8 : Code := regAt Tryz.f20 8
def p20_8 : List Pl :=
 [.op ⟨some 22, .binOp .add 3 (.tmp 11) (.const (.int .i64 1)) 3, none⟩,
 .op ⟨some 11, .move (.tmp 22), none⟩]
theorem r20_8 (tab : Tab) (s : S) : exR (EV tab) rg20_8 s = norm (runS (E := EV tab) (callR (EV tab)) (roundR (EV tab)) p20_8 s) := exR_plan (by kernel_rfl) s
noncomputable def rg20_9 : Code := regAt Tryz.f20 9
def p20_9 : List Pl :=
 [.op ⟨some 23, .move (.tmp 3), none⟩,
 .op ⟨some 24, .call (.mk (.value (.func 34)) #[(.const (.slice none 0 0)), (.tmp 23)] #[23,3]), none⟩,
 .op ⟨some 6, .assign (.tmp 24), none⟩]
theorem r20_9 (tab : Tab) (s : S) : exR (EV tab) rg20_9 s = norm (runS (E := EV tab) (callR (EV tab)) (roundR (EV tab)) p20_9 s) := exR_plan (by kernel_rfl) s
noncomputable def rg20_10 : Code := regAt Tryz.f20 10
def p20_10 : List Pl :=
 [.op ⟨some 25, .move (.tmp 0), none⟩,
 .op ⟨some 26, .call (.mk (.builtin .len) #[(.tmp 25)] #[65]), none⟩,
 .op ⟨some 27, .move (.const (.int .i64 0)), none⟩]
theorem r20_10 (tab : Tab) (s : S) : exR (EV tab) rg20_10 s = norm (runS (E := EV tab) (callR (EV tab)) (roundR (EV tab)) p20_10 s) := exR_plan (by kernel_rfl) s
noncomputable def rg20_11 : Code := regAt Tryz.f20 11
def p20_11 : List Pl :=
 [.op ⟨some 28, .binOp .lss 3 (.tmp 27) (.tmp 26) 3, none⟩]
theorem r20_11 (tab : Tab) (s : S) : exR (EV tab) rg20_11 s = norm (runS (E := EV tab) (callR (EV tab)) (roundR (EV tab)) p20_11 s) := exR_plan (by kernel_rfl) s
noncomputable def rg20_12 : Code := regAt Tryz.f20 12
def p20_12 : List Pl :=
 [.op ⟨some 29, .indexAddr 65 (.tmp 25) (.tmp 27), none⟩,
 .op ⟨some 30, .load 23 (.tmp 29), none⟩,
 .op ⟨some 8, .assign (.tmp 30), none⟩]
theorem r20_12 (tab : Tab) (s : S) : exR (EV tab) rg20_12 s = norm (runS (E := EV tab) (callR (EV tab)) (roundR (EV tab)) p20_12 s) := exR_plan (by kernel_rfl) s
noncomputable def rg20_13 : Code := regAt Tryz.f20 13
def p20_13 : List Pl :=
 [.op ⟨some 31, .move (.tmp 6), none⟩,
 .op ⟨some 32, .move (.tmp 8), none⟩,
 .op ⟨some 33, .call (.mk (.builtin .append) #[(.tmp 31), (.tmp 32)] #[23,23]), none⟩,
 .op ⟨some 6, .assign (.tmp 33), none⟩]
theorem r20_13 (tab : Tab) (s : S) : exR (EV tab) rg20_13 s = norm (runS (E := EV tab) (callR (EV tab)) (roundR (EV tab)) p20_13 s) := exR_plan (by kernel_rfl) s
noncomputable def rg20_14 : Code := regAt Tryz.f20 14
def p20_14 : List Pl :=
 [.op ⟨some 34, .binOp .add 3 (.tmp 27) (.const (.int .i64 1)) 3, none⟩,
 .op ⟨some 27, .move (.tmp 34), none⟩]
theorem r20_14 (tab : Tab) (s : S) : exR (EV tab) rg20_14 s = norm (runS (E := EV tab) (callR (EV tab)) (roundR (EV tab)) p20_14 s) := exR_plan (by kernel_rfl) s
noncomputable def rg20_15 : Code := regAt Tryz.f20 15
def p20_15 : List Pl :=
 [.op ⟨some 35, .move (.tmp 6), none⟩,
 .op ⟨some 2, .assign (.tmp 35), none⟩]
theorem r20_15 (tab : Tab) (s : S) : exR (EV tab) rg20_15 s = norm (runS (E := EV tab) (callR (EV tab)) (roundR (EV tab)) p20_15 s) := exR_plan (by kernel_rfl) s
noncomputable def b20 : Code := (.seq rg20_0 (.seq rg20_1 (.seq (.seq rg20_2 (.block 0 (.loop (.seq rg20_3 (.seq (.cond (Operand.tmp 12) .skip (Code.exit 0)) (.seq (.block 1 (.seq rg20_4 (.seq rg20_5 (.seq rg20_6 (.cond (Operand.tmp 20) rg20_7 .skip))))) rg20_8)))))) (.seq rg20_9 (.seq (.seq rg20_10 (.block 2 (.loop (.seq rg20_11 (.seq (.cond (Operand.tmp 28) .skip (Code.exit 2)) (.seq (.block 3 (.seq rg20_12 rg20_13)) rg20_14)))))) (.seq rg20_15 .ret))))))
theorem enter20 (tab : Tab) (args : List Value) (h : H) (hx : callExt (EV tab) 20 args = none) (hl : Nat.ble args.length 36 = true) : callR (EV tab) 20 args h = finish (EV tab) [ResultVar.tmp 2] (exR (EV tab) b20 ⟨false, 36, ofArgs args 0 .leaf, h⟩) :=
  callR_enter (F := Tryz.f20) (c := b20) (by kernel_rfl) hx (by kernel_rfl) (by kernel_rfl) hl
def fF20 := And.intro @p20_0.eq_1 <| And.intro @r20_0 <| And.intro @p20_1.eq_1 <| And.intro @r20_1 <| And.intro @p20_2.eq_1 <| And.intro @r20_2 <| And.intro @p20_3.eq_1 <| And.intro @r20_3 <| And.intro @p20_4.eq_1 <| And.intro @r20_4 <| And.intro @p20_5.eq_1 <| And.intro @r20_5 <| And.intro @p20_6.eq_1 <| And.intro @r20_6 <| And.intro @p20_7.eq_1 <| And.intro @r20_7 <| And.intro @p20_8.eq_1 <| And.intro @r20_8 <| And.intro @p20_9.eq_1 <| And.intro @r20_9 <| And.intro @p20_10.eq_1 <| And.intro @r20_10 <| And.intro @p20_11.eq_1 <| And.intro @r20_11 <| And.intro @p20_12.eq_1 <| And.intro @r20_12 <| And.intro @p20_13.eq_1 <| And.intro @r20_13 <| And.intro @p20_14.eq_1 <| And.intro @r20_14 <| And.intro @p20_15.eq_1 <| And.intro @r20_15 <| @b20.eq_1
/- slices.Grow[[]byte,byte] -/
noncomputable def rg34_0 : Code := regAt Tryz.f34 0
def p34_0 : List Pl :=
 [.op ⟨some 4, .assign (.const (.slice none 0 0)), none⟩]
theorem r34_0 (tab : Tab) (s : S) : exR (EV tab) rg34_0 s = norm (runS (E := EV tab) (callR (EV tab)) (roundR (EV tab)) p34_0 s) := exR_plan (by kernel_rfl) s
noncomputable def rg34_1 : Code := regAt Tryz.f34 1
def p34_1 : List Pl :=
 [.op ⟨some 5, .move (.tmp 1), none⟩,
 .op ⟨some 6, .binOp .lss 3 (.tmp 5) (.const (.int .i64 0)) 3, none⟩]
theorem r34_1 (tab : Tab) (s : S) : exR (EV tab) rg34_1 s = norm (runS (E := EV tab) (callR (EV tab)) (roundR (EV tab)) p34_1 s) := exR_plan (by kernel_rfl) s
noncomputable def rg34_2 : Code := regAt Tryz.f34 2
def p34_2 : List Pl :=
 [.op ⟨some 7, .makeInterface 9 (.const (.string ⟨#[99,97,110,110,111,116,32,98,101,32,110,101,103,97,116,105,118,101]⟩)), none⟩,
 .op ⟨none, .panic (.tmp 7), none⟩]
theorem r34_2 (tab : Tab) (s : S) : exR (EV tab) rg34_2 s = norm (runS (E := EV tab) (callR (EV tab)) (roundR (EV tab)) p34_2 s) := exR_plan (by kernel_rfl) s
noncomputable def rg34_3 : Code := regAt Tryz.f34 3
def p34_3 : List Pl :=
 [.op ⟨some 8, .move (.tmp 1), none⟩,
 .op ⟨some 9, .move (.tmp 0), none⟩,
 .op ⟨some 10, .call (.mk (.builtin .cap) #[(.tmp 9)] #[23]), none⟩,
 .op ⟨some 11, .move (.tmp 0), none⟩,
 .op ⟨some 12, .call (.mk (.builtin .len) #[(.tmp 11)] #[23]), none⟩,
 .op ⟨some 13, .binOp .sub 3 (.tmp 10) (.tmp 12) 3, none⟩,
 .op ⟨some 14, .binOp .sub 3 (.tmp 8) (.tmp 13) 3, none⟩,
 .op ⟨some 1, .assign (.tmp 14), none⟩]
theorem r34_3 (tab : Tab) (s : S) : exR (EV tab) rg34_3 s = norm (runS (E := EV tab) (callR (EV tab)) (roundR (EV tab)) p34_3 s) := exR_plan (by kernel_rfl) s
noncomputable def rg34_4 : Code := regAt Tryz.f34 4
def p34_4 : List Pl :=
 [.op ⟨some 15, .move (.tmp 1), none⟩,
 .op ⟨some 16, .binOp .gtr 3 (.tmp 15) (.const (.int .i64 0)) 3, none⟩]
theorem r34_4 (tab : Tab) (s : S) : exR (EV tab) rg34_4 s = norm (runS (E := EV tab) (callR (EV tab)) (roundR (EV tab)) p34_4 s) := exR_plan (by kernel_rfl) s
noncomputable def rg34_5 : Code := regAt Tryz.f34 5
def p34_5 : List Pl :=
 [.op ⟨some 17, .move (.tmp 0), none⟩,
 .op ⟨some 18, .move (.tmp 0), none⟩,
 .op ⟨some 19, .call (.mk (.builtin .cap) #[(.tmp 18)] #[23]), none⟩,
 .op ⟨some 20, .slice 23 (.tmp 17) none (some (.tmp 19)) none, none⟩,
 .op ⟨some 21, .move (.tmp 1), none⟩,
 .op ⟨some 22, .call (.mk (.builtin .append) #[(.tmp 20), (.tmp 21)] #[23,3]), none⟩,
 .op ⟨some 23, .move (.tmp 0), none⟩,
 .op ⟨some 24, .call (.mk (.builtin .len) #[(.tmp 23)] #[23]), none⟩,
 .op ⟨some 25, .slice 23 (.tmp 22) none (some (.tmp 24)) none, none⟩,
 .op ⟨some 0, .assign (.tmp 25), none⟩]
theorem r34_5 (tab : Tab) (s : S) : exR (EV tab) rg34_5 s = norm (runS (E := EV tab) (callR (EV tab)) (roundR (EV tab)) p34_5 s) := exR_plan (by kernel_rfl) s
noncomputable def rg34_6 : Code := regAt Tryz.f34 6
def p34_6 : List Pl :=
 [.op ⟨some 26, .move (.tmp 0), none⟩,
 .op ⟨some 4, .assign (.tmp 26), none⟩]
theorem r34_6 (tab : Tab) (s : S) : exR (EV tab) rg34_6 s = norm (runS (E := EV tab) (callR (EV tab)) (roundR (EV tab)) p34_6 s) := exR_plan (by kernel_rfl) s
noncomputable def b34 : Code := (.seq rg34_0 (.seq (.seq rg34_1 (.cond (Operand.tmp 6) rg34_2 .skip)) (.seq (.seq rg34_3 (.seq rg34_4 (.cond (Operand.tmp 16) rg34_5 .skip))) (.seq rg34_6 .ret))))
theorem enter34 (tab : Tab) (args : List Value) (h : H) (hx : callExt (EV tab) 34 args = none) (hl : Nat.ble args.length 27 = true) : callR (EV tab) 34 args h = finish (EV tab) [ResultVar.tmp 4] (exR (EV tab) b34 ⟨false, 27, ofArgs args 0 .leaf, h⟩) :=
  callR_enter (F := Tryz.f34) (c := b34) (by kernel_rfl) hx (by kernel_rfl) (by kernel_rfl) hl
def fF34 := And.intro @p34_0.eq_1 <| And.intro @r34_0 <| And.intro @p34_1.eq_1 <| And.intro @r34_1 <| And.intro @p34_2.eq_1 <| And.intro @r34_2 <| And.intro @p34_3.eq_1 <| And.intro @r34_3 <| And.intro @p34_4.eq_1 <| And.intro @r34_4 <| And.intro @p34_5.eq_1 <| And.intro @r34_5 <| And.intro @p34_6.eq_1 <| And.intro @r34_6 <| @b34.eq_1
/- bowline/stackmachine.Encode -/
noncomputable def rg6_0 : Code := regAt Tryz.f6 0
def p6_0 : List Pl :=
 [.op ⟨some 2, .assign (.const (.slice none 0 0)), none⟩,
 .op ⟨some 3, .assign (.const (.int .i64 0)), none⟩]
theorem r6_0 (tab : Tab) (s : S) : exR (EV tab) rg6_0 s = norm (runS (E := EV tab) (callR (EV tab)) (roundR (EV tab)) p6_0 s) := exR_plan (by kernel_rfl) s
noncomputable def rg6_1 : Code := regAt Tryz.f6 1
def p6_1 : List Pl :=
 [.op ⟨some 5, .move (.tmp 0), none⟩,
 .op ⟨some 6, .call (.mk (.value (.func 19)) #[(.tmp 5)] #[29]), none⟩,
 .op ⟨some 4, .assign (.tmp 6), none⟩]
theorem r6_1 (tab : Tab) (s : S) : exR (EV tab) rg6_1 s = norm (runS (E := EV tab) (callR (EV tab)) (roundR (EV tab)) p6_1 s) := exR_plan (by kernel_rfl) s
noncomputable def rg6_2 : Code := regAt Tryz.f6 2
def p6_2 : List Pl :=
 [.op ⟨some 7, .move (.tmp 4), none⟩,
 .op ⟨some 8, .binOp .neq 26 (.tmp 7) (.const (.int .i64 0)) 26, none⟩]
theorem r6_2 (tab : Tab) (s : S) : exR (EV tab) rg6_2 s = norm (runS (E := EV tab) (callR (EV tab)) (roundR (EV tab)) p6_2 s) := exR_plan (by kernel_rfl) s
noncomputable def rg6_3 : Code := regAt Tryz.f6 3
def p6_3 : List Pl :=
 [.op ⟨some 9, .move (.tmp 4), none⟩,
 .op ⟨some 2, .assign (.const (.slice none 0 0)), none⟩,
 .op ⟨some 3, .assign (.tmp 9), none⟩]
theorem r6_3 (tab : Tab) (s : S) : exR (EV tab) rg6_3 s = norm (runS (E := EV tab) (callR (EV tab)) (roundR (EV tab)) p6_3 s) := exR_plan (by kernel_rfl) s
noncomputable def rg6_4 : Code := regAt Tryz.f6 4
def p6_4 : List Pl :=
 [.op ⟨some 10, .move (.tmp 0), none⟩,
 .op ⟨some 11, .call (.mk (.value (.func 21)) #[(.tmp 10), (.func 22)] #[29,67]), none⟩,
 .op ⟨some 12, .call (.mk (.value (.func 20)) #[(.tmp 11)] #[65]), none⟩,
 .op ⟨some 2, .assign (.tmp 12), none⟩,
 .op ⟨some 3, .assign (.const (.int .i64 0)), none⟩]
theorem r6_4 (tab : Tab) (s : S) : exR (EV tab) rg6_4 s = norm (runS (E := EV tab) (callR (EV tab)) (roundR (EV tab)) p6_4 s) := exR_plan (by kernel_rfl) s
noncomputable def b6 : Code := (.seq rg6_0 (.seq (.seq rg6_1 (.seq rg6_2 (.cond (Operand.tmp 8) (.seq rg6_3 .ret) .skip))) (.seq rg6_4 .ret)))
theorem enter6 (tab : Tab) (args : List Value) (h : H) (hx : callExt (EV tab) 6 args = none) (hl : Nat.ble args.length 13 = true) : callR (EV tab) 6 args h = finish (EV tab) [ResultVar.tmp 2, ResultVar.tmp 3] (exR (EV tab) b6 ⟨false, 13, ofArgs args 0 .leaf, h⟩) :=
  callR_enter (F := Tryz.f6) (c := b6) (by kernel_rfl) hx (by kernel_rfl) (by kernel_rfl) hl
def fF6 := And.intro @p6_0.eq_1 <| And.intro @r6_0 <| And.intro @p6_1.eq_1 <| And.intro @r6_1 <| And.intro @p6_2.eq_1 <| And.intro @r6_2 <| And.intro @p6_3.eq_1 <| And.intro @r6_3 <| And.intro @p6_4.eq_1 <| And.intro @r6_4 <| @b6.eq_1
/- bowline/bowlinelaw26.theirs -/
noncomputable def rg7_0 : Code := regAt Tryz.f7 0
def p7_0 : List Pl :=
 [.op ⟨some 2, .assign (.const (.slice none 0 0)), none⟩]
theorem r7_0 (tab : Tab) (s : S) : exR (EV tab) rg7_0 s = norm (runS (E := EV tab) (callR (EV tab)) (roundR (EV tab)) p7_0 s) := exR_plan (by kernel_rfl) s
noncomputable def rg7_1 : Code := regAt Tryz.f7 1
def p7_1 : List Pl :=
 [.op ⟨some 3, .assign (.const (.slice none 0 0)), none⟩]
theorem r7_1 (tab : Tab) (s : S) : exR (EV tab) rg7_1 s = norm (runS (E := EV tab) (callR (EV tab)) (roundR (EV tab)) p7_1 s) := exR_plan (by kernel_rfl) s
noncomputable def rg7_2 : Code := regAt Tryz.f7 2
def p7_2 : List Pl :=
 [.op ⟨some 6, .move (.tmp 0), none⟩,
 .op ⟨some 7, .call (.mk (.builtin .len) #[(.tmp 6)] #[22]), none⟩,
 .op ⟨some 8, .move (.const (.int .i64 0)), none⟩]
theorem r7_2 (tab : Tab) (s : S) : exR (EV tab) rg7_2 s = norm (runS (E := EV tab) (callR (EV tab)) (roundR (EV tab)) p7_2 s) := exR_plan (by kernel_rfl) s
noncomputable def rg7_3 : Code := regAt Tryz.f7 3
def p7_3 : List Pl :=
 [.op ⟨some 9, .binOp .lss 3 (.tmp 8) (.tmp 7) 3, none⟩]
theorem r7_3 (tab : Tab) (s : S) : exR (EV tab) rg7_3 s = norm (runS (E := EV tab) (callR (EV tab)) (roundR (EV tab)) p7_3 s) := exR_plan (by kernel_rfl) s
noncomputable def rg7_4 : Code := regAt Tryz.f7 4
def p7_4 : List Pl :=
 [.op ⟨some 10, .indexAddr 22 (.tmp 6) (.tmp 8), none⟩,
 .op ⟨some 11, .load 40 (.tmp 10), none⟩,
 .op ⟨some 5, .alloc 40, none⟩,
 .op ⟨none, .store 40 (.tmp 5) (.tmp 11), none⟩]
theorem r7_4 (tab : Tab) (s : S) : exR (EV tab) rg7_4 s = norm (runS (E := EV tab) (callR (EV tab)) (roundR (EV tab)) p7_4 s) := exR_plan (by kernel_rfl) s
noncomputable def rg7_5 : Code := regAt Tryz.f7 5
def p7_5 : List Pl :=
 [.op ⟨some 12, .move (.tmp 3), none⟩,
 .op ⟨some 13, .load 40 (.tmp 5), none⟩,
 .op ⟨some 14, .buildSlice 29 1 #[(0, (.tmp 13))], none⟩,
 .op ⟨some 15, .call (.mk (.builtin .append) #[(.tmp 12), (.tmp 14)] #[29,29]), none⟩,
 .op ⟨some 3, .assign (.tmp 15), none⟩]
theorem r7_5 (tab : Tab) (s : S) : exR (EV tab) rg7_5 s = norm (runS (E := EV tab) (callR (EV tab)) (roundR (EV tab)) p7_5 s) := exR_plan (by kernel_rfl) s
noncomputable def rg7_6 : Code := regAt Tryz.f7 6
def p7_6 : List Pl :=
 [.op ⟨some 16, .binOp .add 3 (.tmp 8) (.const (.int .i64 1)) 3, none⟩,
 .op ⟨some 8, .move (.tmp 16), none⟩]
theorem r7_6 (tab : Tab) (s : S) : exR (EV tab) rg7_6 s = norm (runS (E := EV tab) (callR (EV tab)) (roundR (EV tab)) p7_6 s) := exR_plan (by kernel_rfl) s
noncomputable def rg7_7 : Code := regAt Tryz.f7 7
def p7_7 : List Pl :=
 [.op ⟨some 17, .move (.tmp 3), none⟩,
 .op ⟨some 2, .assign (.tmp 17), none⟩]
theorem r7_7 (tab : Tab) (s : S) : exR (EV tab) rg7_7 s = norm (runS (E := EV tab) (callR (EV tab)) (roundR (EV tab)) p7_7 s) := exR_plan (by kernel_rfl) s
noncomputable def b7 : Code := (.seq rg7_0 (.seq rg7_1 (.seq (.seq rg7_2 (.block 0 (.loop (.seq rg7_3 (.seq (.cond (Operand.tmp 9) .skip (Code.exit 0)) (.seq (.block 1 (.seq rg7_4 rg7_5)) rg7_6)))))) (.seq rg7_7 .ret))))
theorem enter7 (tab : Tab) (args : List Value) (h : H) (hx : callExt (EV tab) 7 args = none) (hl : Nat.ble args.length 18 = true) : callR (EV tab) 7 args h = finish (EV tab) [ResultVar.tmp 2] (exR (EV tab) b7 ⟨false, 18, ofArgs args 0 .leaf, h⟩) :=
  callR_enter (F := Tryz.f7) (c := b7) (by kernel_rfl) hx (by kernel_rfl) (by kernel_rfl) hl
def fF7 := And.intro @p7_0.eq_1 <| And.intro @r7_0 <| And.intro @p7_1.eq_1 <| And.intro @r7_1 <| And.intro @p7_2.eq_1 <| And.intro @r7_2 <| And.intro @p7_3.eq_1 <| And.intro @r7_3 <| And.intro @p7_4.eq_1 <| And.intro @r7_4 <| And.intro @p7_5.eq_1 <| And.intro @r7_5 <| And.intro @p7_6.eq_1 <| And.intro @r7_6 <| And.intro @p7_7.eq_1 <| And.intro @r7_7 <| @b7.eq_1
/- bowline/bowlinelaw26.told -/
noncomputable def rg10_0 : Code := regAt Tryz.f10 0
def p10_0 : List Pl :=
 [.op ⟨some 2, .assign (.const (.slice none 0 0)), none⟩]
theorem r10_0 (tab : Tab) (s : S) : exR (EV tab) rg10_0 s = norm (runS (E := EV tab) (callR (EV tab)) (roundR (EV tab)) p10_0 s) := exR_plan (by kernel_rfl) s
noncomputable def rg10_1 : Code := regAt Tryz.f10 1
def p10_1 : List Pl :=
 [.op ⟨some 3, .assign (.const (.slice none 0 0)), none⟩]
theorem r10_1 (tab : Tab) (s : S) : exR (EV tab) rg10_1 s = norm (runS (E := EV tab) (callR (EV tab)) (roundR (EV tab)) p10_1 s) := exR_plan (by kernel_rfl) s
noncomputable def rg10_2 : Code := regAt Tryz.f10 2
def p10_2 : List Pl :=
 [.op ⟨some 6, .move (.tmp 0), none⟩,
 .op ⟨some 7, .call (.mk (.builtin .len) #[(.tmp 6)] #[29]), none⟩,
 .op ⟨some 8, .move (.const (.int .i64 0)), none⟩]
theorem r10_2 (tab : Tab) (s : S) : exR (EV tab) rg10_2 s = norm (runS (E := EV tab) (callR (EV tab)) (roundR (EV tab)) p10_2 s) := exR_plan (by kernel_rfl) s
noncomputable def rg10_3 : Code := regAt Tryz.f10 3
def p10_3 : List Pl :=
 [.op ⟨some 9, .binOp .lss 3 (.tmp 8) (.tmp 7) 3, none⟩]
theorem r10_3 (tab : Tab) (s : S) : exR (EV tab) rg10_3 s = norm (runS (E := EV tab) (callR (EV tab)) (roundR (EV tab)) p10_3 s) := exR_plan (by kernel_rfl) s
noncomputable def rg10_4 : Code := regAt Tryz.f10 4
def p10_4 : List Pl :=
 [.op ⟨some 10, .indexAddr 29 (.tmp 6) (.tmp 8), none⟩,
 .op ⟨some 11, .load 41 (.tmp 10), none⟩,
 .op ⟨some 5, .alloc 41, none⟩,
 .op ⟨none, .store 41 (.tmp 5) (.tmp 11), none⟩]
theorem r10_4 (tab : Tab) (s : S) : exR (EV tab) rg10_4 s = norm (runS (E := EV tab) (callR (EV tab)) (roundR (EV tab)) p10_4 s) := exR_plan (by kernel_rfl) s
noncomputable def rg10_5 : Code := regAt Tryz.f10 5
def p10_5 : List Pl :=
 [.op ⟨some 12, .move (.tmp 3), none⟩,
 .op ⟨some 13, .load 41 (.tmp 5), none⟩,
 .op ⟨some 14, .buildSlice 22 1 #[(0, (.tmp 13))], none⟩,
 .op ⟨some 15, .call (.mk (.builtin .append) #[(.tmp 12), (.tmp 14)] #[22,22]), none⟩,
 .op ⟨some 3, .assign (.tmp 15), none⟩]
theorem r10_5 (tab : Tab) (s : S) : exR (EV tab) rg10_5 s = norm (runS (E := EV tab) (callR (EV tab)) (roundR (EV tab)) p10_5 s) := exR_plan (by kernel_rfl) s
noncomputable def rg10_6 : Code := regAt Tryz.f10 6
def p10_6 : List Pl :=
 [.op ⟨some 16, .binOp .add 3 (.tmp 8) (.const (.int .i64 1)) 3, none⟩,
 .op ⟨some 8, .move (.tmp 16), none⟩]
theorem r10_6 (tab : Tab) (s : S) : exR (EV tab) rg10_6 s = norm (runS (E := EV tab) (callR (EV tab)) (roundR (EV tab)) p10_6 s) := exR_plan (by kernel_rfl) s
noncomputable def rg10_7 : Code := regAt Tryz.f10 7
def p10_7 : List Pl :=
 [.op ⟨some 17, .move (.tmp 3), none⟩,
 .op ⟨some 2, .assign (.tmp 17), none⟩]
theorem r10_7 (tab : Tab) (s : S) : exR (EV tab) rg10_7 s = norm (runS (E := EV tab) (callR (EV tab)) (roundR (EV tab)) p10_7 s) := exR_plan (by kernel_rfl) s
noncomputable def b10 : Code := (.seq rg10_0 (.seq rg10_1 (.seq (.seq rg10_2 (.block 0 (.loop (.seq rg10_3 (.seq (.cond (Operand.tmp 9) .skip (Code.exit 0)) (.seq (.block 1 (.seq rg10_4 rg10_5)) rg10_6)))))) (.seq rg10_7 .ret))))
theorem enter10 (tab : Tab) (args : List Value) (h : H) (hx : callExt (EV tab) 10 args = none) (hl : Nat.ble args.length 18 = true) : callR (EV tab) 10 args h = finish (EV tab) [ResultVar.tmp 2] (exR (EV tab) b10 ⟨false, 18, ofArgs args 0 .leaf, h⟩) :=
  callR_enter (F := Tryz.f10) (c := b10) (by kernel_rfl) hx (by kernel_rfl) (by kernel_rfl) hl
def fF10 := And.intro @p10_0.eq_1 <| And.intro @r10_0 <| And.intro @p10_1.eq_1 <| And.intro @r10_1 <| And.intro @p10_2.eq_1 <| And.intro @r10_2 <| And.intro @p10_3.eq_1 <| And.intro @r10_3 <| And.intro @p10_4.eq_1 <| And.intro @r10_4 <| And.intro @p10_5.eq_1 <| And.intro @r10_5 <| And.intro @p10_6.eq_1 <| And.intro @r10_6 <| And.intro @p10_7.eq_1 <| And.intro @r10_7 <| @b10.eq_1
/- bowline/bowlinelaw26.same -/
noncomputable def rg9_0 : Code := regAt Tryz.f9 0
def p9_0 : List Pl :=
 [.op ⟨some 4, .assign (.const (.bool false)), none⟩]
theorem r9_0 (tab : Tab) (s : S) : exR (EV tab) rg9_0 s = norm (runS (E := EV tab) (callR (EV tab)) (roundR (EV tab)) p9_0 s) := exR_plan (by kernel_rfl) s
noncomputable def rg9_1 : Code := regAt Tryz.f9 1
def p9_1 : List Pl :=
 [.op ⟨some 6, .move (.tmp 0), none⟩,
 .op ⟨some 7, .call (.mk (.builtin .len) #[(.tmp 6)] #[22]), none⟩,
 .op ⟨some 8, .move (.tmp 1), none⟩,
 .op ⟨some 9, .call (.mk (.builtin .len) #[(.tmp 8)] #[22]), none⟩,
 .op ⟨some 10, .binOp .neq 3 (.tmp 7) (.tmp 9) 3, none⟩]
theorem r9_1 (tab : Tab) (s : S) : exR (EV tab) rg9_1 s = norm (runS (E := EV tab) (callR (EV tab)) (roundR (EV tab)) p9_1 s) := exR_plan (by kernel_rfl) s
noncomputable def rg9_2 : Code := regAt Tryz.f9 2
def p9_2 : List Pl :=
 [.op ⟨some 4, .assign (.const (.bool false)), none⟩]
theorem r9_2 (tab : Tab) (s : S) : exR (EV tab) rg9_2 s = norm (runS (E := EV tab) (callR (EV tab)) (roundR (EV tab)) p9_2 s) := exR_plan (by kernel_rfl) s
noncomputable def rg9_3 : Code := regAt Tryz.f9 3
def p9_3 : List Pl :=
 [.op ⟨some 11, .move (.tmp 0), none⟩,
 .op ⟨some 12, .call (.mk (.builtin .len) #[(.tmp 11)] #[22]), none⟩,
 .op ⟨some 13, .move (.const (.int .i64 0)), none⟩]
theorem r9_3 (tab : Tab) (s : S) : exR (EV tab) rg9_3 s = norm (runS (E := EV tab) (callR (EV tab)) (roundR (EV tab)) p9_3 s) := exR_plan (by kernel_rfl) s
noncomputable def rg9_4 : Code := regAt Tryz.f9 4
def p9_4 : List Pl :=
 [.op ⟨some 14, .binOp .lss 3 (.tmp 13) (.tmp 12) 3, none⟩]
theorem r9_4 (tab : Tab) (s : S) : exR (EV tab) rg9_4 s = norm (runS (E := EV tab) (callR (EV tab)) (roundR (EV tab)) p9_4 s) := exR_plan (by kernel_rfl) s
noncomputable def rg9_5 : Code := regAt Tryz.f9 5
def p9_5 : List Pl :=
 [.op ⟨some 15, .move (.tmp 13), none⟩,
 .op ⟨some 5, .assign (.tmp 15), none⟩]
theorem r9_5 (tab : Tab) (s : S) : exR (EV tab) rg9_5 s = norm (runS (E := EV tab) (callR (EV tab)) (roundR (EV tab)) p9_5 s) := exR_plan (by kernel_rfl) s
noncomputable def rg9_6 : Code := regAt Tryz.f9 6
def p9_6 : List Pl :=
 [.op ⟨some 16, .move (.tmp 0), none⟩,
 .op ⟨some 17, .move (.tmp 5), none⟩,
 .op ⟨some 18, .indexAddr 22 (.tmp 16) (.tmp 17), none⟩,
 .op ⟨some 19, .load 40 (.tmp 18), none⟩,
 .op ⟨some 20, .move (.tmp 1), none⟩,
 .op ⟨some 21, .move (.tmp 5), none⟩,
 .op ⟨some 22, .indexAddr 22 (.tmp 20) (.tmp 21), none⟩,
 .op ⟨some 23, .load 40 (.tmp 22), none⟩,
 .op ⟨some 24, .binOp .neq 40 (.tmp 19) (.tmp 23) 40, none⟩,
 .chk [⟨some 19, .load 40 (.tmp 18), none⟩, ⟨some 23, .load 40 (.tmp 22), none⟩]]
theorem r9_6 (tab : Tab) (s : S) : exR (EV tab) rg9_6 s = norm (runS (E := EV tab) (callR (EV tab)) (roundR (EV tab)) p9_6 s) := exR_plan (by kernel_rfl) s
noncomputable def rg9_7 : Code := regAt Tryz.f9 7
def p9_7 : List Pl :=
 [.op ⟨some 4, .assign (.const (.bool false)), none⟩]
theorem r9_7 (tab : Tab) (s : S) : exR (EV tab) rg9_7 s = norm (runS (E := EV tab) (callR (EV tab)) (roundR (EV tab)) p9_7 s) := exR_plan (by kernel_rfl) s
noncomputable def rg9_8 : Code := regAt Tryz.f9 8
def p9_8 : List Pl :=
 [.op ⟨some 25, .binOp .add 3 (.tmp 13) (.const (.int .i64 1)) 3, none⟩,
 .op ⟨some 13, .move (.tmp 25), none⟩]
theorem r9_8 (tab : Tab) (s : S) : exR (EV tab) rg9_8 s = norm (runS (E := EV tab) (callR (EV tab)) (roundR (EV tab)) p9_8 s) := exR_plan (by kernel_rfl) s
noncomputable def rg9_9 : Code := regAt Tryz.f9 9
def p9_9 : List Pl :=
 [.op ⟨some 4, .assign (.const (.bool true)), none⟩]
theorem r9_9 (tab : Tab) (s : S) : exR (EV tab) rg9_9 s = norm (runS (E := EV tab) (callR (EV tab)) (roundR (EV tab)) p9_9 s) := exR_plan (by kernel_rfl) s
noncomputable def b9 : Code := (.seq rg9_0 (.seq (.seq rg9_1 (.cond (Operand.tmp 10) (.seq rg9_2 .ret) .skip)) (.seq (.seq rg9_3 (.block 0 (.loop (.seq rg9_4 (.seq (.cond (Operand.tmp 14) .skip (Code.exit 0)) (.seq (.block 1 (.seq rg9_5 (.seq rg9_6 (.cond (Operand.tmp 24) (.seq rg9_7 .ret) .skip)))) rg9_8)))))) (.seq rg9_9 .ret))))
theorem enter9 (tab : Tab) (args : List Value) (h : H) (hx : callExt (EV tab) 9 args = none) (hl : Nat.ble args.length 26 = true) : callR (EV tab) 9 args h = finish (EV tab) [ResultVar.tmp 4] (exR (EV tab) b9 ⟨false, 26, ofArgs args 0 .leaf, h⟩) :=
  callR_enter (F := Tryz.f9) (c := b9) (by kernel_rfl) hx (by kernel_rfl) (by kernel_rfl) hl
def fF9 := And.intro @p9_0.eq_1 <| And.intro @r9_0 <| And.intro @p9_1.eq_1 <| And.intro @r9_1 <| And.intro @p9_2.eq_1 <| And.intro @r9_2 <| And.intro @p9_3.eq_1 <| And.intro @r9_3 <| And.intro @p9_4.eq_1 <| And.intro @r9_4 <| And.intro @p9_5.eq_1 <| And.intro @r9_5 <| And.intro @p9_6.eq_1 <| And.intro @r9_6 <| And.intro @p9_7.eq_1 <| And.intro @r9_7 <| And.intro @p9_8.eq_1 <| And.intro @r9_8 <| And.intro @p9_9.eq_1 <| And.intro @r9_9 <| @b9.eq_1
/- bowline/bowlinelaw26.short -/
noncomputable def rg4_0 : Code := regAt Tryz.f4 0
def p4_0 : List Pl :=
 [.op ⟨some 2, .assign (.const (.bool false)), none⟩]
theorem r4_0 (tab : Tab) (s : S) : exR (EV tab) rg4_0 s = norm (runS (E := EV tab) (callR (EV tab)) (roundR (EV tab)) p4_0 s) := exR_plan (by kernel_rfl) s
noncomputable def rg4_1 : Code := regAt Tryz.f4 1
def p4_1 : List Pl :=
 [.op ⟨some 5, .move (.tmp 0), none⟩,
 .op ⟨some 6, .call (.mk (.builtin .len) #[(.tmp 5)] #[22]), none⟩,
 .op ⟨some 7, .binOp .gtr 3 (.tmp 6) (.const (.int .i64 200)) 3, none⟩,
 .op ⟨some 8, .move (.tmp 7), none⟩,
 .op ⟨some 9, .move (.tmp 0), some (8, true)⟩,
 .op ⟨some 10, .call (.mk (.builtin .len) #[(.tmp 9)] #[22]), some (8, true)⟩,
 .op ⟨some 11, .binOp .neq 3 (.tmp 10) (.const (.int .i64 4001)) 3, some (8, true)⟩,
 .op ⟨some 12, .pick (.tmp 8) (.tmp 11) (.const (.bool false)), none⟩]
theorem r4_1 (tab : Tab) (s : S) : exR (EV tab) rg4_1 s = norm (runS (E := EV tab) (callR (EV tab)) (roundR (EV tab)) p4_1 s) := exR_plan (by kernel_rfl) s
noncomputable def rg4_2 : Code := regAt Tryz.f4 2
def p4_2 : List Pl :=
 [.op ⟨some 2, .assign (.const (.bool false)), none⟩]
theorem r4_2 (tab : Tab) (s : S) : exR (EV tab) rg4_2 s = norm (runS (E := EV tab) (callR (EV tab)) (roundR (EV tab)) p4_2 s) := exR_plan (by kernel_rfl) s
noncomputable def rg4_3 : Code := regAt Tryz.f4 3
def p4_3 : List Pl :=
 [.op ⟨some 13, .move (.tmp 0), none⟩,
 .op ⟨some 14, .call (.mk (.builtin .len) #[(.tmp 13)] #[22]), none⟩,
 .op ⟨some 15, .move (.const (.int .i64 0)), none⟩]
theorem r4_3 (tab : Tab) (s : S) : exR (EV tab) rg4_3 s = norm (runS (E := EV tab) (callR (EV tab)) (roundR (EV tab)) p4_3 s) := exR_plan (by kernel_rfl) s
noncomputable def rg4_4 : Code := regAt Tryz.f4 4
def p4_4 : List Pl :=
 [.op ⟨some 16, .binOp .lss 3 (.tmp 15) (.tmp 14) 3, none⟩]
theorem r4_4 (tab : Tab) (s : S) : exR (EV tab) rg4_4 s = norm (runS (E := EV tab) (callR (EV tab)) (roundR (EV tab)) p4_4 s) := exR_plan (by kernel_rfl) s
noncomputable def rg4_5 : Code := regAt Tryz.f4 5
def p4_5 : List Pl :=
 [.op ⟨some 17, .indexAddr 22 (.tmp 13) (.tmp 15), none⟩,
 .op ⟨some 18, .load 40 (.tmp 17), none⟩,
 .op ⟨some 4, .alloc 40, none⟩,
 .op ⟨none, .store 40 (.tmp 4) (.tmp 18), none⟩]
theorem r4_5 (tab : Tab) (s : S) : exR (EV tab) rg4_5 s = norm (runS (E := EV tab) (callR (EV tab)) (roundR (EV tab)) p4_5 s) := exR_plan (by kernel_rfl) s
noncomputable def rg4_6 : Code := regAt Tryz.f4 6
def p4_6 : List Pl :=
 [.op ⟨some 19, .fieldAddr 40 (.tmp 4) 1, none⟩,
 .op ⟨some 20, .load 9 (.tmp 19), none⟩,
 .op ⟨some 21, .call (.mk (.builtin .len) #[(.tmp 20)] #[9]), none⟩,
 .op ⟨some 22, .binOp .gtr 3 (.tmp 21) (.const (.int .i64 100)) 3, none⟩,
 .op ⟨some 23, .move (.tmp 22), none⟩,
 .op ⟨some 24, .fieldAddr 40 (.tmp 4) 2, some (23, false)⟩,
 .op ⟨some 25, .load 9 (.tmp 24), some (23, false)⟩,
 .op ⟨some 26, .call (.mk (.builtin .len) #[(.tmp 25)] #[9]), some (23, false)⟩,
 .op ⟨some 27, .binOp .gtr 3 (.tmp 26) (.const (.int .i64 100)) 3, some (23, false)⟩,
 .op ⟨some 28, .pick (.tmp 23) (.const (.bool true)) (.tmp 27), none⟩]
theorem r4_6 (tab : Tab) (s : S) : exR (EV tab) rg4_6 s = norm (runS (E := EV tab) (callR (EV tab)) (roundR (EV tab)) p4_6 s) := exR_plan (by kernel_rfl) s
noncomputable def rg4_7 : Code := regAt Tryz.f4 7
def p4_7 : List Pl :=
 [.op ⟨some 2, .assign (.const (.bool false)), none⟩]
theorem r4_7 (tab : Tab) (s : S) : exR (EV tab) rg4_7 s = norm (runS (E := EV tab) (callR (EV tab)) (roundR (EV tab)) p4_7 s) := exR_plan (by kernel_rfl) s
noncomputable def rg4_8 : Code := regAt Tryz.f4 8
def p4_8 : List Pl :=
 [.op ⟨some 29, .binOp .add 3 (.tmp 15) (.const (.int .i64 1)) 3, none⟩,
 .op ⟨some 15, .move (.tmp 29), none⟩]
theorem r4_8 (tab : Tab) (s : S) : exR (EV tab) rg4_8 s = norm (runS (E := EV tab) (callR (EV tab)) (roundR (EV tab)) p4_8 s) := exR_plan (by kernel_rfl) s
noncomputable def rg4_9 : Code := regAt Tryz.f4 9
def p4_9 : List Pl :=
 [.op ⟨some 2, .assign (.const (.bool true)), none⟩]
theorem r4_9 (tab : Tab) (s : S) : exR (EV tab) rg4_9 s = norm (runS (E := EV tab) (callR (EV tab)) (roundR (EV tab)) p4_9 s) := exR_plan (by kernel_rfl) s
noncomputable def b4 : Code := (.seq rg4_0 (.seq (.seq rg4_1 (.cond (Operand.tmp 12) (.seq rg4_2 .ret) .skip)) (.seq (.seq rg4_3 (.block 0 (.loop (.seq rg4_4 (.seq (.cond (Operand.tmp 16) .skip (Code.exit 0)) (.seq (.block 1 (.seq rg4_5 (.seq rg4_6 (.cond (Operand.tmp 28) (.seq rg4_7 .ret) .skip)))) rg4_8)))))) (.seq rg4_9 .ret))))
theorem enter4 (tab : Tab) (args : List Value) (h : H) (hx : callExt (EV tab) 4 args = none) (hl : Nat.ble args.length 30 = true) : callR (EV tab) 4 args h = finish (EV tab) [ResultVar.tmp 2] (exR (EV tab) b4 ⟨false, 30, ofArgs args 0 .leaf, h⟩) :=
  callR_enter (F := Tryz.f4) (c := b4) (by kernel_rfl) hx (by kernel_rfl) (by kernel_rfl) hl
def fF4 := And.intro @p4_0.eq_1 <| And.intro @r4_0 <| And.intro @p4_1.eq_1 <| And.intro @r4_1 <| And.intro @p4_2.eq_1 <| And.intro @r4_2 <| And.intro @p4_3.eq_1 <| And.intro @r4_3 <| And.intro @p4_4.eq_1 <| And.intro @r4_4 <| And.intro @p4_5.eq_1 <| And.intro @r4_5 <| And.intro @p4_6.eq_1 <| And.intro @r4_6 <| And.intro @p4_7.eq_1 <| And.intro @r4_7 <| And.intro @p4_8.eq_1 <| And.intro @r4_8 <| And.intro @p4_9.eq_1 <| And.intro @r4_9 <| @b4.eq_1
/- bowline/bowlineref01.OwnBytes -/
noncomputable def rg11_0 : Code := regAt Tryz.f11 0
def p11_0 : List Pl :=
 [.op ⟨some 2, .assign (.const (.slice none 0 0)), none⟩]
theorem r11_0 (tab : Tab) (s : S) : exR (EV tab) rg11_0 s = norm (runS (E := EV tab) (callR (EV tab)) (roundR (EV tab)) p11_0 s) := exR_plan (by kernel_rfl) s
noncomputable def rg11_1 : Code := regAt Tryz.f11 1
def p11_1 : List Pl :=
 [.op ⟨some 3, .move (.tmp 0), none⟩,
 .op ⟨some 4, .call (.mk (.builtin .append) #[(.const (.slice none 0 0)), (.tmp 3)] #[23,23]), none⟩,
 .op ⟨some 2, .assign (.tmp 4), none⟩]
theorem r11_1 (tab : Tab) (s : S) : exR (EV tab) rg11_1 s = norm (runS (E := EV tab) (callR (EV tab)) (roundR (EV tab)) p11_1 s) := exR_plan (by kernel_rfl) s
noncomputable def b11 : Code := (.seq rg11_0 (.seq rg11_1 .ret))
theorem enter11 (tab : Tab) (args : List Value) (h : H) (hx : callExt (EV tab) 11 args = none) (hl : Nat.ble args.length 5 = true) : callR (EV tab) 11 args h = finish (EV tab) [ResultVar.tmp 2] (exR (EV tab) b11 ⟨false, 5, ofArgs args 0 .leaf, h⟩) :=
  callR_enter (F := Tryz.f11) (c := b11) (by kernel_rfl) hx (by kernel_rfl) (by kernel_rfl) hl
def fF11 := And.intro @p11_0.eq_1 <| And.intro @r11_0 <| And.intro @p11_1.eq_1 <| And.intro @r11_1 <| @b11.eq_1
/- bowline/bowlineref01.SameBytes -/
noncomputable def rg12_0 : Code := regAt Tryz.f12 0
def p12_0 : List Pl :=
 [.op ⟨some 4, .assign (.const (.bool false)), none⟩]
theorem r12_0 (tab : Tab) (s : S) : exR (EV tab) rg12_0 s = norm (runS (E := EV tab) (callR (EV tab)) (roundR (EV tab)) p12_0 s) := exR_plan (by kernel_rfl) s
noncomputable def rg12_1 : Code := regAt Tryz.f12 1
def p12_1 : List Pl :=
 [.op ⟨some 5, .move (.tmp 0), none⟩,
 .op ⟨some 6, .convert 23 9 (.tmp 5), none⟩,
 .op ⟨some 7, .move (.tmp 1), none⟩,
 .op ⟨some 8, .convert 23 9 (.tmp 7), none⟩,
 .op ⟨some 9, .binOp .eql 9 (.tmp 6) (.tmp 8) 9, none⟩,
 .op ⟨some 4, .assign (.tmp 9), none⟩]
theorem r12_1 (tab : Tab) (s : S) : exR (EV tab) rg12_1 s = norm (runS (E := EV tab) (callR (EV tab)) (roundR (EV tab)) p12_1 s) := exR_plan (by kernel_rfl) s
noncomputable def b12 : Code := (.seq rg12_0 (.seq rg12_1 .ret))
theorem enter12 (tab : Tab) (args : List Value) (h : H) (hx : callExt (EV tab) 12 args = none) (hl : Nat.ble args.length 10 = true) : callR (EV tab) 12 args h = finish (EV tab) [ResultVar.tmp 4] (exR (EV tab) b12 ⟨false, 10, ofArgs args 0 .leaf, h⟩) :=
  callR_enter (F := Tryz.f12) (c := b12) (by kernel_rfl) hx (by kernel_rfl) (by kernel_rfl) hl
def fF12 := And.intro @p12_0.eq_1 <| And.intro @r12_0 <| And.intro @p12_1.eq_1 <| And.intro @r12_1 <| @b12.eq_1
/- bowline/stackmachine.Decode -/
noncomputable def rg8_0 : Code := regAt Tryz.f8 0
def p8_0 : List Pl :=
 [.op ⟨some 2, .assign (.const (.slice none 0 0)), none⟩,
 .op ⟨some 3, .assign (.const (.int .i64 0)), none⟩,
 .op ⟨some 4, .assign (.const (.int .i64 0)), none⟩]
theorem r8_0 (tab : Tab) (s : S) : exR (EV tab) rg8_0 s = norm (runS (E := EV tab) (callR (EV tab)) (roundR (EV tab)) p8_0 s) := exR_plan (by kernel_rfl) s
noncomputable def rg8_1 : Code := regAt Tryz.f8 1
def p8_1 : List Pl :=
 [.op ⟨some 10, .move (.tmp 0), none⟩,
 .op ⟨some 11, .call (.mk (.builtin .len) #[(.tmp 10)] #[23]), none⟩,
 .op ⟨some 12, .binOp .gtr 3 (.tmp 11) (.const (.int .i64 65536)) 3, none⟩]
theorem r8_1 (tab : Tab) (s : S) : exR (EV tab) rg8_1 s = norm (runS (E := EV tab) (callR (EV tab)) (roundR (EV tab)) p8_1 s) := exR_plan (by kernel_rfl) s
noncomputable def rg8_2 : Code := regAt Tryz.f8 2
def p8_2 : List Pl :=
 [.op ⟨some 2, .assign (.const (.slice none 0 0)), none⟩,
 .op ⟨some 3, .assign (.const (.int .i64 0)), none⟩,
 .op ⟨some 4, .assign (.const (.int .i64 4)), none⟩]
theorem r8_2 (tab : Tab) (s : S) : exR (EV tab) rg8_2 s = norm (runS (E := EV tab) (callR (EV tab)) (roundR (EV tab)) p8_2 s) := exR_plan (by kernel_rfl) s
noncomputable def rg8_3 : Code := regAt Tryz.f8 3
def p8_3 : List Pl :=
 [.op ⟨some 5, .assign (.const (.slice none 0 0)), none⟩]
theorem r8_3 (tab : Tab) (s : S) : exR (EV tab) rg8_3 s = norm (runS (E := EV tab) (callR (EV tab)) (roundR (EV tab)) p8_3 s) := exR_plan (by kernel_rfl) s
noncomputable def rg8_4 : Code := regAt Tryz.f8 4
def p8_4 : List Pl :=
 [.op ⟨some 6, .assign (.const (.int .i64 0)), none⟩]
theorem r8_4 (tab : Tab) (s : S) : exR (EV tab) rg8_4 s = norm (runS (E := EV tab) (callR (EV tab)) (roundR (EV tab)) p8_4 s) := exR_plan (by kernel_rfl) s
noncomputable def rg8_5 : Code := regAt Tryz.f8 5
def p8_5 : List Pl :=
 [.op ⟨some 13, .move (.tmp 6), none⟩,
 .op ⟨some 14, .move (.tmp 0), none⟩,
 .op ⟨some 15, .call (.mk (.builtin .len) #[(.tmp 14)] #[23]), none⟩,
 .op ⟨some 16, .binOp .lss 3 (.tmp 13) (.tmp 15) 3, none⟩]
theorem r8_5 (tab : Tab) (s : S) : exR (EV tab) rg8_5 s = norm (runS (E := EV tab) (callR (EV tab)) (roundR (EV tab)) p8_5 s) := exR_plan (by kernel_rfl) s
noncomputable def rg8_6 : Code := regAt Tryz.f8 6
def p8_6 : List Pl :=
 [.op ⟨some 18, .move (.tmp 0), none⟩,
 .op ⟨some 19, .move (.tmp 6), none⟩,
 .op ⟨some 20, .slice 23 (.tmp 18) (some (.tmp 19)) none none, none⟩,
 .op ⟨some 21, .call (.mk (.value (.func 23)) #[(.tmp 20)] #[23]), none⟩,
 .op ⟨some 17, .move (.tmp 21), none⟩,
 .op ⟨some 22, .extract (.tmp 17) 0, none⟩,
 .op ⟨some 23, .extract (.tmp 17) 1, none⟩,
 .op ⟨some 24, .extract (.tmp 17) 2, none⟩,
 .op ⟨some 7, .alloc 41, none⟩,
 .op ⟨none, .store 41 (.tmp 7) (.tmp 22), none⟩,
 .op ⟨some 8, .assign (.tmp 23), none⟩,
 .op ⟨some 9, .assign (.tmp 24), none⟩]
theorem r8_6 (tab : Tab) (s : S) : exR (EV tab) rg8_6 s = norm (runS (E := EV tab) (callR (EV tab)) (roundR (EV tab)) p8_6 s) := exR_plan (by kernel_rfl) s
noncomputable def rg8_7 : Code := regAt Tryz.f8 7
def p8_7 : List Pl :=
 [.op ⟨some 25, .move (.tmp 9), none⟩,
 .op ⟨some 26, .binOp .neq 26 (.tmp 25) (.const (.int .i64 0)) 26, none⟩]
theorem r8_7 (tab : Tab) (s : S) : exR (EV tab) rg8_7 s = norm (runS (E := EV tab) (callR (EV tab)) (roundR (EV tab)) p8_7 s) := exR_plan (by kernel_rfl) s
noncomputable def rg8_8 : Code := regAt Tryz.f8 8
def p8_8 : List Pl :=
 [.op ⟨some 27, .move (.tmp 6), none⟩,
 .op ⟨some 28, .move (.tmp 9), none⟩,
 .op ⟨some 2, .assign (.const (.slice none 0 0)), none⟩,
 .op ⟨some 3, .assign (.tmp 27), none⟩,
 .op ⟨some 4, .assign (.tmp 28), none⟩]
theorem r8_8 (tab : Tab) (s : S) : exR (EV tab) rg8_8 s = norm (runS (E := EV tab) (callR (EV tab)) (roundR (EV tab)) p8_8 s) := exR_plan (by kernel_rfl) s
noncomputable def rg8_9 : Code := regAt Tryz.f8 9
def p8_9 : List Pl :=
 [.op ⟨some 29, .move (.tmp 5), none⟩,
 .op ⟨some 30, .load 41 (.tmp 7), none⟩,
 .op ⟨some 31, .buildSlice 29 1 #[(0, (.tmp 30))], none⟩,
 .op ⟨some 32, .call (.mk (.builtin .append) #[(.tmp 29), (.tmp 31)] #[29,29]), none⟩,
 .op ⟨some 5, .assign (.tmp 32), none⟩]
theorem r8_9 (tab : Tab) (s : S) : exR (EV tab) rg8_9 s = norm (runS (E := EV tab) (callR (EV tab)) (roundR (EV tab)) p8_9 s) := exR_plan (by kernel_rfl) s
noncomputable def rg8_10 : Code := regAt Tryz.f8 10
def p8_10 : List Pl :=
 [.op ⟨some 33, .move (.tmp 6), none⟩,
 .op ⟨some 34, .move (.tmp 8), none⟩,
 .op ⟨some 35, .binOp .add 3 (.tmp 33) (.tmp 34) 3, none⟩,
 .op ⟨some 6, .assign (.tmp 35), none⟩]
theorem r8_10 (tab : Tab) (s : S) : exR (EV tab) rg8_10 s = norm (runS (E := EV tab) (callR (EV tab)) (roundR (EV tab)) p8_10 s) := exR_plan (by kernel_rfl) s
noncomputable def rg8_11 : Code := regAt Tryz.f8 11
def p8_11 : List Pl :=
 [.op ⟨some 36, .move (.tmp 5), none⟩,
 .op ⟨some 2, .assign (.tmp 36), none⟩,
 .op ⟨some 3, .assign (.const (.int .i64 0)), none⟩,
 .op ⟨some 4, .assign (.const (.int .i64 0)), none⟩]
theorem r8_11 (tab : Tab) (s : S) : exR (EV tab) rg8_11 s = norm (runS (E := EV tab) (callR (EV tab)) (roundR (EV tab)) p8_11 s) := exR_plan (by kernel_rfl) s
noncomputable def b8 : Code := (.seq rg8_0 (.seq (.seq rg8_1 (.cond (Operand.tmp 12) (.seq rg8_2 .ret) .skip)) (.seq rg8_3 (.seq (.seq rg8_4 (.block 0 (.loop (.seq (.seq rg8_5 (.cond (Operand.tmp 16) .skip (Code.exit 0))) (.block 1 (.seq rg8_6 (.seq (.seq rg8_7 (.cond (Operand.tmp 26) (.seq rg8_8 .ret) .skip)) (.seq rg8_9 rg8_10)))))))) (.seq rg8_11 .ret)))))
theorem enter8 (tab : Tab) (args : List Value) (h : H) (hx : callExt (EV tab) 8 args = none) (hl : Nat.ble args.length 37 = true) : callR (EV tab) 8 args h = finish (EV tab) [ResultVar.tmp 2, ResultVar.tmp 3, ResultVar.tmp 4] (exR (EV tab) b8 ⟨false, 37, ofArgs args 0 .leaf, h⟩) :=
  callR_enter (F := Tryz.f8) (c := b8) (by kernel_rfl) hx (by kernel_rfl) (by kernel_rfl) hl
def fF8 := And.intro @p8_0.eq_1 <| And.intro @r8_0 <| And.intro @p8_1.eq_1 <| And.intro @r8_1 <| And.intro @p8_2.eq_1 <| And.intro @r8_2 <| And.intro @p8_3.eq_1 <| And.intro @r8_3 <| And.intro @p8_4.eq_1 <| And.intro @r8_4 <| And.intro @p8_5.eq_1 <| And.intro @r8_5 <| And.intro @p8_6.eq_1 <| And.intro @r8_6 <| And.intro @p8_7.eq_1 <| And.intro @r8_7 <| And.intro @p8_8.eq_1 <| And.intro @r8_8 <| And.intro @p8_9.eq_1 <| And.intro @r8_9 <| And.intro @p8_10.eq_1 <| And.intro @r8_10 <| And.intro @p8_11.eq_1 <| And.intro @r8_11 <| @b8.eq_1
/- bowline/stackmachine.decode -/
noncomputable def rg23_0 : Code := regAt Tryz.f23 0
def p23_0 : List Pl :=
 [.op ⟨some 2, .alloc 41, none⟩,
 .op ⟨some 3, .assign (.const (.int .i64 0)), none⟩,
 .op ⟨some 4, .assign (.const (.int .i64 0)), none⟩]
theorem r23_0 (tab : Tab) (s : S) : exR (EV tab) rg23_0 s = norm (runS (E := EV tab) (callR (EV tab)) (roundR (EV tab)) p23_0 s) := exR_plan (by kernel_rfl) s
noncomputable def rg23_1 : Code := regAt Tryz.f23 1
def p23_1 : List Pl :=
 [.op ⟨some 12, .move (.tmp 0), none⟩,
 .op ⟨some 13, .indexAddr 23 (.tmp 12) (.const (.int .i64 0)), none⟩,
 .op ⟨some 14, .load 5 (.tmp 13), none⟩,
 .op ⟨some 15, .convert 5 3 (.tmp 14), none⟩,
 .op ⟨some 16, .build 41 #[(0, (.tmp 15))], none⟩,
 .op ⟨some 5, .alloc 41, none⟩,
 .op ⟨none, .store 41 (.tmp 5) (.tmp 16), none⟩]
theorem r23_1 (tab : Tab) (s : S) : exR (EV tab) rg23_1 s = norm (runS (E := EV tab) (callR (EV tab)) (roundR (EV tab)) p23_1 s) := exR_plan (by kernel_rfl) s
noncomputable def rg23_2 : Code := regAt Tryz.f23 2
def p23_2 : List Pl :=
 [.op ⟨some 18, .fieldAddr 41 (.tmp 5) 0, none⟩,
 .op ⟨some 19, .load 3 (.tmp 18), none⟩,
 .op ⟨some 20, .call (.mk (.value (.func 27)) #[(.tmp 19)] #[3]), none⟩,
 .op ⟨some 17, .move (.tmp 20), none⟩,
 .op ⟨some 21, .extract (.tmp 17) 0, none⟩,
 .op ⟨some 22, .extract (.tmp 17) 1, none⟩,
 .op ⟨some 6, .alloc 90, none⟩,
 .op ⟨none, .store 90 (.tmp 6) (.tmp 21), none⟩,
 .op ⟨some 7, .assign (.tmp 22), none⟩]
theorem r23_2 (tab : Tab) (s : S) : exR (EV tab) rg23_2 s = norm (runS (E := EV tab) (callR (EV tab)) (roundR (EV tab)) p23_2 s) := exR_plan (by kernel_rfl) s
noncomputable def rg23_3 : Code := regAt Tryz.f23 3
def p23_3 : List Pl :=
 [.op ⟨some 23, .move (.tmp 7), none⟩,
 .op ⟨some 24, .unOp .not 4 (.tmp 23), none⟩]
theorem r23_3 (tab : Tab) (s : S) : exR (EV tab) rg23_3 s = norm (runS (E := EV tab) (callR (EV tab)) (roundR (EV tab)) p23_3 s) := exR_plan (by kernel_rfl) s
noncomputable def rg23_4 : Code := regAt Tryz.f23 4
def p23_4 : List Pl :=
 [.op ⟨some 25, .build 41 #[], none⟩,
 .op ⟨none, .store 41 (.tmp 2) (.tmp 25), none⟩,
 .op ⟨some 3, .assign (.const (.int .i64 0)), none⟩,
 .op ⟨some 4, .assign (.const (.int .i64 11)), none⟩]
theorem r23_4 (tab : Tab) (s : S) : exR (EV tab) rg23_4 s = norm (runS (E := EV tab) (callR (EV tab)) (roundR (EV tab)) p23_4 s) := exR_plan (by kernel_rfl) s
noncomputable def rg23_5 : Code := regAt Tryz.f23 5
def p23_5 : List Pl :=
 [.op ⟨some 26, .move (.tmp 0), none⟩,
 .op ⟨some 27, .slice 23 (.tmp 26) (some (.const (.int .i64 1))) none none, none⟩,
 .op ⟨some 28, .build 109 #[(0, (.tmp 27))], none⟩,
 .op ⟨some 29, .box 109 (.tmp 28), none⟩,
 .op ⟨some 8, .assign (.tmp 29), none⟩]
theorem r23_5 (tab : Tab) (s : S) : exR (EV tab) rg23_5 s = norm (runS (E := EV tab) (callR (EV tab)) (roundR (EV tab)) p23_5 s) := exR_plan (by kernel_rfl) s
noncomputable def rg23_6 : Code := regAt Tryz.f23 6
def p23_6 : List Pl :=
 [.op ⟨some 30, .fieldAddr 90 (.tmp 6) 1, none⟩,
 .op ⟨some 31, .load 9 (.tmp 30), none⟩,
 .op ⟨some 32, .range 9 (.tmp 31), none⟩]
theorem r23_6 (tab : Tab) (s : S) : exR (EV tab) rg23_6 s = norm (runS (E := EV tab) (callR (EV tab)) (roundR (EV tab)) p23_6 s) := exR_plan (by kernel_rfl) s
noncomputable def rg23_7 : Code := regAt Tryz.f23 7
def p23_7 : List Pl :=
 [.op ⟨some 33, .next (.tmp 32) true, none⟩,
 .op ⟨some 34, .extract (.tmp 33) 0, none⟩]
theorem r23_7 (tab : Tab) (s : S) : exR (EV tab) rg23_7 s = norm (runS (E := EV tab) (callR (EV tab)) (roundR (EV tab)) p23_7 s) := exR_plan (by kernel_rfl) s
noncomputable def rg23_8 : Code := regAt Tryz.f23 8
def p23_8 : List Pl :=
 [.op ⟨some 35, .extract (.tmp 33) 2, none⟩,
 .op ⟨some 10, .assign (.tmp 35), none⟩]
theorem r23_8 (tab : Tab) (s : S) : exR (EV tab) rg23_8 s = norm (runS (E := EV tab) (callR (EV tab)) (roundR (EV tab)) p23_8 s) := exR_plan (by kernel_rfl) s
noncomputable def rg23_9 : Code := regAt Tryz.f23 9
def p23_9 : List Pl :=
 [.op ⟨some 36, .move (.tmp 8), none⟩,
 .op ⟨some 37, .move (.tmp 10), none⟩,
 .op ⟨some 38, .call (.mk (.value (.func 36)) #[(.tmp 36), (.tmp 5), (.tmp 37)] #[107,111,21]), none⟩]
theorem r23_9 (tab : Tab) (s : S) : exR (EV tab) rg23_9 s = norm (runS (E := EV tab) (callR (EV tab)) (roundR (EV tab)) p23_9 s) := exR_plan (by kernel_rfl) s
noncomputable def rg23_10 : Code := regAt Tryz.f23 10
def p23_10 : List Pl :=
 [.op ⟨some 39, .move (.tmp 8), none⟩,
 .op ⟨some 40, .nilCheck (.tmp 39), none⟩,
 .op ⟨some 41, .fieldAddr 109 (.tmp 40) 1, none⟩,
 .op ⟨some 42, .load 26 (.tmp 41), none⟩,
 .op ⟨some 43, .load 41 (.tmp 5), none⟩,
 .chk [⟨some 42, .load 26 (.tmp 41), none⟩, ⟨some 43, .load 41 (.tmp 5), none⟩],
 .op ⟨some 44, .call (.mk (.value (.func 31)) #[(.tmp 43)] #[41]), none⟩,
 .op ⟨some 45, .buildSlice 103 2 #[(0, (.tmp 42)), (1, (.tmp 44))], none⟩,
 .chk [⟨some 42, .load 26 (.tmp 41), none⟩],
 .op ⟨some 46, .call (.mk (.value (.func 32)) #[(.tmp 45)] #[103]), none⟩,
 .op ⟨some 11, .assign (.tmp 46), none⟩,
 .chk []]
theorem r23_10 (tab : Tab) (s : S) : exR (EV tab) rg23_10 s = norm (runS (E := EV tab) (callR (EV tab)) (roundR (EV tab)) p23_10 s) := exR_plan (by kernel_rfl) s
noncomputable def rg23_11 : Code := regAt Tryz.f23 11
def p23_11 : List Pl :=
 [.op ⟨some 47, .move (.tmp 11), none⟩,
 .op ⟨some 48, .binOp .neq 26 (.tmp 47) (.const (.int .i64 0)) 26, none⟩]
theorem r23_11 (tab : Tab) (s : S) : exR (EV tab) rg23_11 s = norm (runS (E := EV tab) (callR (EV tab)) (roundR (EV tab)) p23_11 s) := exR_plan (by kernel_rfl) s
noncomputable def rg23_12 : Code := regAt Tryz.f23 12
def p23_12 : List Pl :=
 [.op ⟨some 49, .build 41 #[], none⟩,
 .op ⟨some 50, .move (.tmp 11), none⟩,
 .op ⟨none, .store 41 (.tmp 2) (.tmp 49), none⟩,
 .op ⟨some 3, .assign (.const (.int .i64 0)), none⟩,
 .op ⟨some 4, .assign (.tmp 50), none⟩]
theorem r23_12 (tab : Tab) (s : S) : exR (EV tab) rg23_12 s = norm (runS (E := EV tab) (callR (EV tab)) (roundR (EV tab)) p23_12 s) := exR_plan (by kernel_rfl) s
noncomputable def rg23_13 : Code := regAt Tryz.f23 13
def p23_13 : List Pl :=
 [.op ⟨some 51, .load 41 (.tmp 5), none⟩,
 .op ⟨some 52, .move (.tmp 0), none⟩,
 .op ⟨some 53, .call (.mk (.builtin .len) #[(.tmp 52)] #[23]), none⟩,
 .op ⟨some 54, .move (.tmp 8), none⟩,
 .op ⟨some 55, .nilCheck (.tmp 54), none⟩,
 .op ⟨some 56, .fieldAddr 109 (.tmp 55) 0, none⟩,
 .op ⟨some 57, .load 23 (.tmp 56), none⟩,
 .op ⟨some 58, .call (.mk (.builtin .len) #[(.tmp 57)] #[23]), none⟩,
 .op ⟨some 59, .binOp .sub 3 (.tmp 53) (.tmp 58) 3, none⟩,
 .chk [⟨some 51, .load 41 (.tmp 5), none⟩, ⟨some 53, .call (.mk (.builtin .len) #[(.tmp 52)] #[23]), none⟩, ⟨some 57, .load 23 (.tmp 56), none⟩, ⟨some 58, .call (.mk (.builtin .len) #[(.tmp 57)] #[23]), none⟩],
 .op ⟨none, .store 41 (.tmp 2) (.tmp 51), none⟩,
 .op ⟨some 3, .assign (.tmp 59), none⟩,
 .op ⟨some 4, .assign (.const (.int .i64 0)), none⟩,
 .chk [⟨some 53, .call (.mk (.builtin .len) #[(.tmp 52)] #[23]), none⟩, ⟨some 57, .load 23 (.tmp 56), none⟩, ⟨some 58, .call (.mk (.builtin .len) #[(.tmp 57)] #[23]), none⟩]]
theorem r23_13 (tab : Tab) (s : S) : exR (EV tab) rg23_13 s = norm (runS (E := EV tab) (callR (EV tab)) (roundR (EV tab)) p23_13 s) := exR_plan (by kernel_rfl) s
noncomputable def b23 : Code := (.seq rg23_0 (.seq rg23_1 (.seq rg23_2 (.seq (.seq rg23_3 (.cond (Operand.tmp 24) (.seq rg23_4 .ret) .skip)) (.seq rg23_5 (.seq (.seq rg23_6 (.block 0 (.loop (.seq rg23_7 (.seq (.cond (Operand.tmp 34) .skip (Code.exit 0)) (.block 1 (.seq rg23_8 rg23_9))))))) (.seq (.seq rg23_10 (.seq rg23_11 (.cond (Operand.tmp 48) (.seq rg23_12 .ret) .skip))) (.seq rg23_13 .ret))))))))
theorem enter23 (tab : Tab) (args : List Value) (h : H) (hx : callExt (EV tab) 23 args = none) (hl : Nat.ble args.length 60 = true) : callR (EV tab) 23 args h = finish (EV tab) [ResultVar.cell 2 41, ResultVar.tmp 3, ResultVar.tmp 4] (exR (EV tab) b23 ⟨false, 60, ofArgs args 0 .leaf, h⟩) :=
  callR_enter (F := Tryz.f23) (c := b23) (by kernel_rfl) hx (by kernel_rfl) (by kernel_rfl) hl
def fF23 := And.intro @p23_0.eq_1 <| And.intro @r23_0 <| And.intro @p23_1.eq_1 <| And.intro @r23_1 <| And.intro @p23_2.eq_1 <| And.intro @r23_2 <| And.intro @p23_3.eq_1 <| And.intro @r23_3 <| And.intro @p23_4.eq_1 <| And.intro @r23_4 <| And.intro @p23_5.eq_1 <| And.intro @r23_5 <| And.intro @p23_6.eq_1 <| And.intro @r23_6 <| And.intro @p23_7.eq_1 <| And.intro @r23_7 <| And.intro @p23_8.eq_1 <| And.intro @r23_8 <| And.intro @p23_9.eq_1 <| And.intro @r23_9 <| And.intro @p23_10.eq_1 <| And.intro @r23_10 <| And.intro @p23_11.eq_1 <| And.intro @r23_11 <| And.intro @p23_12.eq_1 <| And.intro @r23_12 <| And.intro @p23_13.eq_1 <| And.intro @r23_13 <| @b23.eq_1
/- (*bowline/stackmachine.reader).read -/
noncomputable def rg36_0 : Code := regAt Tryz.f36 0
def p36_0 : List Pl :=
 [.op ⟨some 6, .move (.tmp 2), none⟩]
theorem r36_0 (tab : Tab) (s : S) : exR (EV tab) rg36_0 s = norm (runS (E := EV tab) (callR (EV tab)) (roundR (EV tab)) p36_0 s) := exR_plan (by kernel_rfl) s
noncomputable def rg36_2 : Code := regAt Tryz.f36 2
def p36_2 : List Pl :=
 [.op ⟨some 13, .binOp .eql 21 (.tmp 6) (.const (.int .i32 84)) 21, none⟩,
 .op ⟨some 12, .assign (.tmp 13), none⟩]
theorem r36_2 (tab : Tab) (s : S) : exR (EV tab) rg36_2 s = norm (runS (E := EV tab) (callR (EV tab)) (roundR (EV tab)) p36_2 s) := exR_plan (by kernel_rfl) s
noncomputable def rg36_3 : Code := regAt Tryz.f36 3
def p36_3 : List Pl :=
 [.op ⟨some 14, .move (.tmp 1), none⟩,
 .op ⟨some 15, .move (.tmp 0), none⟩,
 .op ⟨some 16, .call (.mk (.value (.func 56)) #[(.tmp 15)] #[107]), none⟩,
 .op ⟨some 17, .nilCheck (.tmp 14), none⟩,
 .op ⟨some 18, .fieldAddr 41 (.tmp 17) 1, none⟩,
 .op ⟨none, .store 9 (.tmp 18) (.tmp 16), none⟩]
theorem r36_3 (tab : Tab) (s : S) : exR (EV tab) rg36_3 s = norm (runS (E := EV tab) (callR (EV tab)) (roundR (EV tab)) p36_3 s) := exR_plan (by kernel_rfl) s
noncomputable def rg36_4 : Code := regAt Tryz.f36 4
def p36_4 : List Pl :=
 [.op ⟨some 20, .binOp .eql 21 (.tmp 6) (.const (.int .i32 85)) 21, none⟩,
 .op ⟨some 19, .assign (.tmp 20), none⟩]
theorem r36_4 (tab : Tab) (s : S) : exR (EV tab) rg36_4 s = norm (runS (E := EV tab) (callR (EV tab)) (roundR (EV tab)) p36_4 s) := exR_plan (by kernel_rfl) s
noncomputable def rg36_5 : Code := regAt Tryz.f36 5
def p36_5 : List Pl :=
 [.op ⟨some 21, .move (.tmp 1), none⟩,
 .op ⟨some 22, .move (.tmp 0), none⟩,
 .op ⟨some 23, .call (.mk (.value (.func 56)) #[(.tmp 22)] #[107]), none⟩,
 .op ⟨some 24, .nilCheck (.tmp 21), none⟩,
 .op ⟨some 25, .fieldAddr 41 (.tmp 24) 2, none⟩,
 .op ⟨none, .store 9 (.tmp 25) (.tmp 23), none⟩]
theorem r36_5 (tab : Tab) (s : S) : exR (EV tab) rg36_5 s = norm (runS (E := EV tab) (callR (EV tab)) (roundR (EV tab)) p36_5 s) := exR_plan (by kernel_rfl) s
noncomputable def rg36_6 : Code := regAt Tryz.f36 6
def p36_6 : List Pl :=
 [.op ⟨some 27, .binOp .eql 21 (.tmp 6) (.const (.int .i32 110)) 21, none⟩,
 .op ⟨some 26, .assign (.tmp 27), none⟩]
theorem r36_6 (tab : Tab) (s : S) : exR (EV tab) rg36_6 s = norm (runS (E := EV tab) (callR (EV tab)) (roundR (EV tab)) p36_6 s) := exR_plan (by kernel_rfl) s
noncomputable def rg36_7 : Code := regAt Tryz.f36 7
def p36_7 : List Pl :=
 [.op ⟨some 28, .binOp .eql 21 (.tmp 6) (.const (.int .i32 76)) 21, none⟩,
 .op ⟨some 26, .assign (.tmp 28), none⟩]
theorem r36_7 (tab : Tab) (s : S) : exR (EV tab) rg36_7 s = norm (runS (E := EV tab) (callR (EV tab)) (roundR (EV tab)) p36_7 s) := exR_plan (by kernel_rfl) s
noncomputable def rg36_8 : Code := regAt Tryz.f36 8
def p36_8 : List Pl :=
 [.op ⟨some 29, .move (.tmp 1), none⟩,
 .op ⟨some 30, .move (.tmp 0), none⟩,
 .op ⟨some 31, .call (.mk (.value (.func 57)) #[(.tmp 30)] #[107]), none⟩,
 .op ⟨some 32, .nilCheck (.tmp 29), none⟩,
 .op ⟨some 33, .fieldAddr 41 (.tmp 32) 3, none⟩,
 .op ⟨none, .store 38 (.tmp 33) (.tmp 31), none⟩]
theorem r36_8 (tab : Tab) (s : S) : exR (EV tab) rg36_8 s = norm (runS (E := EV tab) (callR (EV tab)) (roundR (EV tab)) p36_8 s) := exR_plan (by kernel_rfl) s
noncomputable def rg36_9 : Code := regAt Tryz.f36 9
def p36_9 : List Pl :=
 [.op ⟨some 35, .binOp .eql 21 (.tmp 6) (.const (.int .i32 115)) 21, none⟩,
 .op ⟨some 34, .assign (.tmp 35), none⟩]
theorem r36_9 (tab : Tab) (s : S) : exR (EV tab) rg36_9 s = norm (runS (E := EV tab) (callR (EV tab)) (roundR (EV tab)) p36_9 s) := exR_plan (by kernel_rfl) s
noncomputable def rg36_10 : Code := regAt Tryz.f36 10
def p36_10 : List Pl :=
 [.op ⟨some 36, .move (.tmp 1), none⟩,
 .op ⟨some 37, .move (.tmp 0), none⟩,
 .op ⟨some 38, .call (.mk (.value (.func 58)) #[(.tmp 37)] #[107]), none⟩,
 .op ⟨some 39, .nilCheck (.tmp 36), none⟩,
 .op ⟨some 40, .fieldAddr 41 (.tmp 39) 4, none⟩,
 .op ⟨none, .store 3 (.tmp 40) (.tmp 38), none⟩]
theorem r36_10 (tab : Tab) (s : S) : exR (EV tab) rg36_10 s = norm (runS (E := EV tab) (callR (EV tab)) (roundR (EV tab)) p36_10 s) := exR_plan (by kernel_rfl) s
noncomputable def rg36_11 : Code := regAt Tryz.f36 11
def p36_11 : List Pl :=
 [.op ⟨some 42, .binOp .eql 21 (.tmp 6) (.const (.int .i32 100)) 21, none⟩,
 .op ⟨some 41, .assign (.tmp 42), none⟩]
theorem r36_11 (tab : Tab) (s : S) : exR (EV tab) rg36_11 s = norm (runS (E := EV tab) (callR (EV tab)) (roundR (EV tab)) p36_11 s) := exR_plan (by kernel_rfl) s
noncomputable def rg36_12 : Code := regAt Tryz.f36 12
def p36_12 : List Pl :=
 [.op ⟨some 43, .move (.tmp 1), none⟩,
 .op ⟨some 44, .move (.tmp 0), none⟩,
 .op ⟨some 45, .call (.mk (.value (.func 59)) #[(.tmp 44), (.const (.int .i64 4))] #[107,3]), none⟩,
 .op ⟨some 46, .convert 38 129 (.tmp 45), none⟩,
 .op ⟨some 47, .convert 129 21 (.tmp 46), none⟩,
 .op ⟨some 48, .convert 21 3 (.tmp 47), none⟩,
 .op ⟨some 49, .nilCheck (.tmp 43), none⟩,
 .op ⟨some 50, .fieldAddr 41 (.tmp 49) 4, none⟩,
 .op ⟨none, .store 3 (.tmp 50) (.tmp 48), none⟩]
theorem r36_12 (tab : Tab) (s : S) : exR (EV tab) rg36_12 s = norm (runS (E := EV tab) (callR (EV tab)) (roundR (EV tab)) p36_12 s) := exR_plan (by kernel_rfl) s
noncomputable def rg36_13 : Code := regAt Tryz.f36 13
def p36_13 : List Pl :=
 [.op ⟨some 52, .binOp .eql 21 (.tmp 6) (.const (.int .i32 119)) 21, none⟩,
 .op ⟨some 51, .assign (.tmp 52), none⟩]
theorem r36_13 (tab : Tab) (s : S) : exR (EV tab) rg36_13 s = norm (runS (E := EV tab) (callR (EV tab)) (roundR (EV tab)) p36_13 s) := exR_plan (by kernel_rfl) s
noncomputable def rg36_14 : Code := regAt Tryz.f36 14
def p36_14 : List Pl :=
 [.op ⟨some 53, .move (.tmp 1), none⟩,
 .op ⟨some 54, .move (.tmp 0), none⟩,
 .op ⟨some 55, .call (.mk (.value (.func 59)) #[(.tmp 54), (.const (.int .i64 8))] #[107,3]), none⟩,
 .op ⟨some 56, .nilCheck (.tmp 53), none⟩,
 .op ⟨some 57, .fieldAddr 41 (.tmp 56) 3, none⟩,
 .op ⟨none, .store 38 (.tmp 57) (.tmp 55), none⟩]
theorem r36_14 (tab : Tab) (s : S) : exR (EV tab) rg36_14 s = norm (runS (E := EV tab) (callR (EV tab)) (roundR (EV tab)) p36_14 s) := exR_plan (by kernel_rfl) s
noncomputable def rg36_15 : Code := regAt Tryz.f36 15
def p36_15 : List Pl :=
 [.op ⟨some 59, .binOp .eql 21 (.tmp 6) (.const (.int .i32 80)) 21, none⟩,
 .op ⟨some 58, .assign (.tmp 59), none⟩]
theorem r36_15 (tab : Tab) (s : S) : exR (EV tab) rg36_15 s = norm (runS (E := EV tab) (callR (EV tab)) (roundR (EV tab)) p36_15 s) := exR_plan (by kernel_rfl) s
noncomputable def rg36_16 : Code := regAt Tryz.f36 16
def p36_16 : List Pl :=
 [.op ⟨some 60, .move (.tmp 1), none⟩,
 .op ⟨some 61, .move (.tmp 0), none⟩,
 .op ⟨some 62, .call (.mk (.value (.func 60)) #[(.tmp 61)] #[107]), none⟩,
 .op ⟨some 63, .nilCheck (.tmp 60), none⟩,
 .op ⟨some 64, .fieldAddr 41 (.tmp 63) 4, none⟩,
 .op ⟨none, .store 3 (.tmp 64) (.tmp 62), none⟩]
theorem r36_16 (tab : Tab) (s : S) : exR (EV tab) rg36_16 s = norm (runS (E := EV tab) (callR (EV tab)) (roundR (EV tab)) p36_16 s) := exR_plan (by kernel_rfl) s
noncomputable def rg36_1 : Code := regAt Tryz.f36 1
def p36_1 : List Pl :=
 [.op ⟨some 7, .move (.tmp 1), none⟩,
 .op ⟨some 8, .move (.tmp 0), none⟩,
 .op ⟨some 9, .call (.mk (.value (.func 60)) #[(.tmp 8)] #[107]), none⟩,
 .op ⟨some 10, .nilCheck (.tmp 7), none⟩,
 .op ⟨some 11, .fieldAddr 41 (.tmp 10) 5, none⟩,
 .op ⟨none, .store 3 (.tmp 11) (.tmp 9), none⟩]
theorem r36_1 (tab : Tab) (s : S) : exR (EV tab) rg36_1 s = norm (runS (E := EV tab) (callR (EV tab)) (roundR (EV tab)) p36_1 s) := exR_plan (by kernel_rfl) s
noncomputable def b36 : Code := (.seq rg36_0 (.block 0 (.seq rg36_2 (.cond (Operand.tmp 12) rg36_3 (.seq rg36_4 (.cond (Operand.tmp 19) rg36_5 (.seq (.seq rg36_6 (.cond (Operand.tmp 26) .skip rg36_7)) (.cond (Operand.tmp 26) rg36_8 (.seq rg36_9 (.cond (Operand.tmp 34) rg36_10 (.seq rg36_11 (.cond (Operand.tmp 41) rg36_12 (.seq rg36_13 (.cond (Operand.tmp 51) rg36_14 (.seq rg36_15 (.cond (Operand.tmp 58) rg36_16 rg36_1))))))))))))))))
theorem enter36 (tab : Tab) (args : List Value) (h : H) (hx : callExt (EV tab) 36 args = none) (hl : Nat.ble args.length 65 = true) : callR (EV tab) 36 args h = finish (EV tab) [] (exR (EV tab) b36 ⟨false, 65, ofArgs args 0 .leaf, h⟩) :=
  callR_enter (F := Tryz.f36) (c := b36) (by kernel_rfl) hx (by kernel_rfl) (by kernel_rfl) hl
def fF36 := And.intro @p36_0.eq_1 <| And.intro @r36_0 <| And.intro @p36_2.eq_1 <| And.intro @r36_2 <| And.intro @p36_3.eq_1 <| And.intro @r36_3 <| And.intro @p36_4.eq_1 <| And.intro @r36_4 <| And.intro @p36_5.eq_1 <| And.intro @r36_5 <| And.intro @p36_6.eq_1 <| And.intro @r36_6 <| And.intro @p36_7.eq_1 <| And.intro @r36_7 <| And.intro @p36_8.eq_1 <| And.intro @r36_8 <| And.intro @p36_9.eq_1 <| And.intro @r36_9 <| And.intro @p36_10.eq_1 <| And.intro @r36_10 <| And.intro @p36_11.eq_1 <| And.intro @r36_11 <| And.intro @p36_12.eq_1 <| And.intro @r36_12 <| And.intro @p36_13.eq_1 <| And.intro @r36_13 <| And.intro @p36_14.eq_1 <| And.intro @r36_14 <| And.intro @p36_15.eq_1 <| And.intro @r36_15 <| And.intro @p36_16.eq_1 <| And.intro @r36_16 <| And.intro @p36_1.eq_1 <| And.intro @r36_1 <| @b36.eq_1
/- (*bowline/stackmachine.reader).typ -/
noncomputable def rg56_0 : Code := regAt Tryz.f56 0
def p56_0 : List Pl :=
 [.op ⟨some 2, .assign (.const (.string ⟨#[]⟩)), none⟩]
theorem r56_0 (tab : Tab) (s : S) : exR (EV tab) rg56_0 s = norm (runS (E := EV tab) (callR (EV tab)) (roundR (EV tab)) p56_0 s) := exR_plan (by kernel_rfl) s
noncomputable def rg56_1 : Code := regAt Tryz.f56 1
def p56_1 : List Pl :=
 [.op ⟨some 4, .move (.tmp 0), none⟩,
 .op ⟨some 5, .call (.mk (.value (.func 81)) #[(.tmp 4), (.const (.int .i64 1))] #[107,3]), none⟩,
 .op ⟨some 6, .indexAddr 23 (.tmp 5) (.const (.int .i64 0)), none⟩,
 .op ⟨some 7, .load 5 (.tmp 6), none⟩,
 .op ⟨some 8, .convert 5 3 (.tmp 7), none⟩,
 .op ⟨some 3, .assign (.tmp 8), none⟩]
theorem r56_1 (tab : Tab) (s : S) : exR (EV tab) rg56_1 s = norm (runS (E := EV tab) (callR (EV tab)) (roundR (EV tab)) p56_1 s) := exR_plan (by kernel_rfl) s
noncomputable def rg56_2 : Code := regAt Tryz.f56 2
def p56_2 : List Pl :=
 [.op ⟨some 10, .move (.tmp 0), none⟩,
 .op ⟨some 11, .nilCheck (.tmp 10), none⟩,
 .op ⟨some 12, .fieldAddr 109 (.tmp 11) 1, none⟩,
 .op ⟨some 13, .load 26 (.tmp 12), none⟩,
 .op ⟨some 14, .binOp .neq 26 (.tmp 13) (.const (.int .i64 0)) 26, none⟩,
 .op ⟨some 9, .assign (.tmp 14), none⟩]
theorem r56_2 (tab : Tab) (s : S) : exR (EV tab) rg56_2 s = norm (runS (E := EV tab) (callR (EV tab)) (roundR (EV tab)) p56_2 s) := exR_plan (by kernel_rfl) s
noncomputable def rg56_3 : Code := regAt Tryz.f56 3
def p56_3 : List Pl :=
 [.op ⟨some 2, .assign (.const (.string ⟨#[]⟩)), none⟩]
theorem r56_3 (tab : Tab) (s : S) : exR (EV tab) rg56_3 s = norm (runS (E := EV tab) (callR (EV tab)) (roundR (EV tab)) p56_3 s) := exR_plan (by kernel_rfl) s
noncomputable def rg56_4 : Code := regAt Tryz.f56 4
def p56_4 : List Pl :=
 [.op ⟨some 16, .move (.tmp 3), none⟩,
 .op ⟨some 17, .binOp .leq 3 (.tmp 16) (.const (.int .i64 64)) 3, none⟩,
 .op ⟨some 15, .assign (.tmp 17), none⟩]
theorem r56_4 (tab : Tab) (s : S) : exR (EV tab) rg56_4 s = norm (runS (E := EV tab) (callR (EV tab)) (roundR (EV tab)) p56_4 s) := exR_plan (by kernel_rfl) s
noncomputable def rg56_5 : Code := regAt Tryz.f56 5
def p56_5 : List Pl :=
 [.op ⟨some 18, .move (.tmp 3), none⟩,
 .op ⟨some 19, .call (.mk (.value (.func 48)) #[(.tmp 18)] #[3]), none⟩,
 .op ⟨some 20, .binOp .add 9 (.const (.string ⟨#[117]⟩)) (.tmp 19) 9, none⟩,
 .op ⟨some 2, .assign (.tmp 20), none⟩]
theorem r56_5 (tab : Tab) (s : S) : exR (EV tab) rg56_5 s = norm (runS (E := EV tab) (callR (EV tab)) (roundR (EV tab)) p56_5 s) := exR_plan (by kernel_rfl) s
noncomputable def rg56_6 : Code := regAt Tryz.f56 6
def p56_6 : List Pl :=
 [.op ⟨some 22, .move (.tmp 3), none⟩,
 .op ⟨some 23, .binOp .leq 3 (.tmp 22) (.const (.int .i64 128)) 3, none⟩,
 .op ⟨some 21, .assign (.tmp 23), none⟩]
theorem r56_6 (tab : Tab) (s : S) : exR (EV tab) rg56_6 s = norm (runS (E := EV tab) (callR (EV tab)) (roundR (EV tab)) p56_6 s) := exR_plan (by kernel_rfl) s
noncomputable def rg56_7 : Code := regAt Tryz.f56 7
def p56_7 : List Pl :=
 [.op ⟨some 24, .move (.tmp 3), none⟩,
 .op ⟨some 25, .binOp .sub 3 (.tmp 24) (.const (.int .i64 64)) 3, none⟩,
 .op ⟨some 26, .call (.mk (.value (.func 48)) #[(.tmp 25)] #[3]), none⟩,
 .op ⟨some 27, .binOp .add 9 (.const (.string ⟨#[105]⟩)) (.tmp 26) 9, none⟩,
 .op ⟨some 2, .assign (.tmp 27), none⟩]
theorem r56_7 (tab : Tab) (s : S) : exR (EV tab) rg56_7 s = norm (runS (E := EV tab) (callR (EV tab)) (roundR (EV tab)) p56_7 s) := exR_plan (by kernel_rfl) s
noncomputable def rg56_8 : Code := regAt Tryz.f56 8
def p56_8 : List Pl :=
 [.op ⟨some 29, .move (.tmp 3), none⟩,
 .op ⟨some 30, .binOp .leq 3 (.tmp 29) (.const (.int .i64 131)) 3, none⟩,
 .op ⟨some 28, .assign (.tmp 30), none⟩]
theorem r56_8 (tab : Tab) (s : S) : exR (EV tab) rg56_8 s = norm (runS (E := EV tab) (callR (EV tab)) (roundR (EV tab)) p56_8 s) := exR_plan (by kernel_rfl) s
noncomputable def rg56_9 : Code := regAt Tryz.f56 9
def p56_9 : List Pl :=
 [.op ⟨some 31, .buildSlice 152 3 #[(0, (.const (.string ⟨#[102,51,50]⟩))), (1, (.const (.string ⟨#[102,54,52]⟩))), (2, (.const (.string ⟨#[112,116,114]⟩)))], none⟩,
 .op ⟨some 32, .move (.tmp 3), none⟩,
 .op ⟨some 33, .binOp .sub 3 (.tmp 32) (.const (.int .i64 129)) 3, none⟩,
 .op ⟨some 34, .indexAddr 152 (.tmp 31) (.tmp 33), none⟩,
 .op ⟨some 35, .load 9 (.tmp 34), none⟩,
 .op ⟨some 2, .assign (.tmp 35), none⟩]
theorem r56_9 (tab : Tab) (s : S) : exR (EV tab) rg56_9 s = norm (runS (E := EV tab) (callR (EV tab)) (roundR (EV tab)) p56_9 s) := exR_plan (by kernel_rfl) s
noncomputable def rg56_10 : Code := regAt Tryz.f56 10
def p56_10 : List Pl :=
 [.op ⟨some 37, .move (.tmp 3), none⟩,
 .op ⟨some 38, .binOp .neq 3 (.tmp 37) (.const (.int .i64 255)) 3, none⟩,
 .op ⟨some 36, .assign (.tmp 38), none⟩]
theorem r56_10 (tab : Tab) (s : S) : exR (EV tab) rg56_10 s = norm (runS (E := EV tab) (callR (EV tab)) (roundR (EV tab)) p56_10 s) := exR_plan (by kernel_rfl) s
noncomputable def rg56_11 : Code := regAt Tryz.f56 11
def p56_11 : List Pl :=
 [.op ⟨some 39, .move (.tmp 0), none⟩,
 .op ⟨some 40, .nilCheck (.tmp 39), none⟩,
 .op ⟨some 41, .fieldAddr 109 (.tmp 40) 1, none⟩,
 .op ⟨none, .store 26 (.tmp 41) (.const (.int .i64 12)), none⟩]
theorem r56_11 (tab : Tab) (s : S) : exR (EV tab) rg56_11 s = norm (runS (E := EV tab) (callR (EV tab)) (roundR (EV tab)) p56_11 s) := exR_plan (by kernel_rfl) s
noncomputable def rg56_12 : Code := regAt Tryz.f56 12
def p56_12 : List Pl :=
 [.op ⟨some 2, .assign (.const (.string ⟨#[]⟩)), none⟩]
theorem r56_12 (tab : Tab) (s : S) : exR (EV tab) rg56_12 s = norm (runS (E := EV tab) (callR (EV tab)) (roundR (EV tab)) p56_12 s) := exR_plan (by kernel_rfl) s
noncomputable def b56 : Code := (.seq rg56_0 (.seq rg56_1 (.seq (.block 0 (.seq rg56_2 (.cond (Operand.tmp 9) (.seq rg56_3 .ret) (.seq rg56_4 (.cond (Operand.tmp 15) (.seq rg56_5 .ret) (.seq rg56_6 (.cond (Operand.tmp 21) (.seq rg56_7 .ret) (.seq rg56_8 (.cond (Operand.tmp 28) (.seq rg56_9 .ret) (.seq rg56_10 (.cond (Operand.tmp 36) rg56_11 .skip))))))))))) (.seq rg56_12 .ret))))
theorem enter56 (tab : Tab) (args : List Value) (h : H) (hx : callExt (EV tab) 56 args = none) (hl : Nat.ble args.length 42 = true) : callR (EV tab) 56 args h = finish (EV tab) [ResultVar.tmp 2] (exR (EV tab) b56 ⟨false, 42, ofArgs args 0 .leaf, h⟩) :=
  callR_enter (F := Tryz.f56) (c := b56) (by kernel_rfl) hx (by kernel_rfl) (by kernel_rfl) hl
def fF56 := And.intro @p56_0.eq_1 <| And.intro @r56_0 <| And.intro @p56_1.eq_1 <| And.intro @r56_1 <| And.intro @p56_2.eq_1 <| And.intro @r56_2 <| And.intro @p56_3.eq_1 <| And.intro @r56_3 <| And.intro @p56_4.eq_1 <| And.intro @r56_4 <| And.intro @p56_5.eq_1 <| And.intro @r56_5 <| And.intro @p56_6.eq_1 <| And.intro @r56_6 <| And.intro @p56_7.eq_1 <| And.intro @r56_7 <| And.intro @p56_8.eq_1 <| And.intro @r56_8 <| And.intro @p56_9.eq_1 <| And.intro @r56_9 <| And.intro @p56_10.eq_1 <| And.intro @r56_10 <| And.intro @p56_11.eq_1 <| And.intro @r56_11 <| And.intro @p56_12.eq_1 <| And.intro @r56_12 <| @b56.eq_1
/- (*bowline/stackmachine.reader).number -/
noncomputable def rg57_0 : Code := regAt Tryz.f57 0
def p57_0 : List Pl :=
 [.op ⟨some 2, .assign (.const (.int .u64 0)), none⟩]
theorem r57_0 (tab : Tab) (s : S) : exR (EV tab) rg57_0 s = norm (runS (E := EV tab) (callR (EV tab)) (roundR (EV tab)) p57_0 s) := exR_plan (by kernel_rfl) s
noncomputable def rg57_1 : Code := regAt Tryz.f57 1
def p57_1 : List Pl :=
 [.op ⟨some 3, .assign (.const (.int .u64 0)), none⟩]
theorem r57_1 (tab : Tab) (s : S) : exR (EV tab) rg57_1 s = norm (runS (E := EV tab) (callR (EV tab)) (roundR (EV tab)) p57_1 s) := exR_plan (by kernel_rfl) s
noncomputable def rg57_2 : Code := regAt Tryz.f57 2
def p57_2 : List Pl :=
 [.op ⟨some 4, .assign (.const (.int .i64 0)), none⟩]
theorem r57_2 (tab : Tab) (s : S) : exR (EV tab) rg57_2 s = norm (runS (E := EV tab) (callR (EV tab)) (roundR (EV tab)) p57_2 s) := exR_plan (by kernel_rfl) s
noncomputable def rg57_4 : Code := regAt Tryz.f57 4
def p57_4 : List Pl :=
 [.op ⟨some 9, .move (.tmp 0), none⟩,
 .op ⟨some 10, .call (.mk (.value (.func 81)) #[(.tmp 9), (.const (.int .i64 1))] #[107,3]), none⟩,
 .op ⟨some 11, .indexAddr 23 (.tmp 10) (.const (.int .i64 0)), none⟩,
 .op ⟨some 12, .load 5 (.tmp 11), none⟩,
 .op ⟨some 5, .assign (.tmp 12), none⟩]
theorem r57_4 (tab : Tab) (s : S) : exR (EV tab) rg57_4 s = norm (runS (E := EV tab) (callR (EV tab)) (roundR (EV tab)) p57_4 s) := exR_plan (by kernel_rfl) s
noncomputable def rg57_5 : Code := regAt Tryz.f57 5
def p57_5 : List Pl :=
 [.op ⟨some 13, .move (.tmp 0), none⟩,
 .op ⟨some 14, .nilCheck (.tmp 13), none⟩,
 .op ⟨some 15, .fieldAddr 109 (.tmp 14) 1, none⟩,
 .op ⟨some 16, .load 26 (.tmp 15), none⟩,
 .op ⟨some 17, .binOp .neq 26 (.tmp 16) (.const (.int .i64 0)) 26, none⟩]
theorem r57_5 (tab : Tab) (s : S) : exR (EV tab) rg57_5 s = norm (runS (E := EV tab) (callR (EV tab)) (roundR (EV tab)) p57_5 s) := exR_plan (by kernel_rfl) s
noncomputable def rg57_6 : Code := regAt Tryz.f57 6
def p57_6 : List Pl :=
 [.op ⟨some 2, .assign (.const (.int .u64 0)), none⟩]
theorem r57_6 (tab : Tab) (s : S) : exR (EV tab) rg57_6 s = norm (runS (E := EV tab) (callR (EV tab)) (roundR (EV tab)) p57_6 s) := exR_plan (by kernel_rfl) s
noncomputable def rg57_7 : Code := regAt Tryz.f57 7
def p57_7 : List Pl :=
 [.op ⟨some 18, .move (.tmp 5), none⟩,
 .op ⟨some 19, .binOp .and 5 (.tmp 18) (.const (.int .u8 127)) 5, none⟩,
 .op ⟨some 20, .convert 5 38 (.tmp 19), none⟩,
 .op ⟨some 6, .assign (.tmp 20), none⟩]
theorem r57_7 (tab : Tab) (s : S) : exR (EV tab) rg57_7 s = norm (runS (E := EV tab) (callR (EV tab)) (roundR (EV tab)) p57_7 s) := exR_plan (by kernel_rfl) s
noncomputable def rg57_8 : Code := regAt Tryz.f57 8
def p57_8 : List Pl :=
 [.op ⟨some 21, .move (.tmp 4), none⟩,
 .op ⟨some 22, .binOp .eql 3 (.tmp 21) (.const (.int .i64 63)) 3, none⟩,
 .op ⟨some 23, .move (.tmp 22), none⟩,
 .op ⟨some 24, .move (.tmp 5), some (23, true)⟩,
 .op ⟨some 25, .binOp .gtr 5 (.tmp 24) (.const (.int .u8 1)) 5, some (23, true)⟩,
 .op ⟨some 26, .pick (.tmp 23) (.tmp 25) (.const (.bool false)), none⟩,
 .op ⟨some 27, .move (.tmp 26), none⟩,
 .op ⟨some 28, .move (.tmp 4), some (27, false)⟩,
 .op ⟨some 29, .binOp .gtr 3 (.tmp 28) (.const (.int .i64 0)) 3, some (27, false)⟩,
 .op ⟨some 30, .move (.tmp 29), some (27, false)⟩,
 .op ⟨some 31, .move (.tmp 5), some (30, true)⟩,
 .op ⟨some 32, .binOp .eql 5 (.tmp 31) (.const (.int .u8 0)) 5, some (30, true)⟩,
 .op ⟨some 33, .pick (.tmp 30) (.tmp 32) (.const (.bool false)), some (27, false)⟩,
 .op ⟨some 34, .pick (.tmp 27) (.const (.bool true)) (.tmp 33), none⟩]
theorem r57_8 (tab : Tab) (s : S) : exR (EV tab) rg57_8 s = norm (runS (E := EV tab) (callR (EV tab)) (roundR (EV tab)) p57_8 s) := exR_plan (by kernel_rfl) s
noncomputable def rg57_9 : Code := regAt Tryz.f57 9
def p57_9 : List Pl :=
 [.op ⟨some 35, .move (.tmp 0), none⟩,
 .op ⟨some 36, .nilCheck (.tmp 35), none⟩,
 .op ⟨some 37, .fieldAddr 109 (.tmp 36) 1, none⟩,
 .op ⟨none, .store 26 (.tmp 37) (.const (.int .i64 1)), none⟩]
theorem r57_9 (tab : Tab) (s : S) : exR (EV tab) rg57_9 s = norm (runS (E := EV tab) (callR (EV tab)) (roundR (EV tab)) p57_9 s) := exR_plan (by kernel_rfl) s
noncomputable def rg57_10 : Code := regAt Tryz.f57 10
def p57_10 : List Pl :=
 [.op ⟨some 2, .assign (.const (.int .u64 0)), none⟩]
theorem r57_10 (tab : Tab) (s : S) : exR (EV tab) rg57_10 s = norm (runS (E := EV tab) (callR (EV tab)) (roundR (EV tab)) p57_10 s) := exR_plan (by kernel_rfl) s
noncomputable def rg57_11 : Code := regAt Tryz.f57 11
def p57_11 : List Pl :=
 [.op ⟨some 38, .move (.tmp 3), none⟩,
 .op ⟨some 39, .move (.tmp 6), none⟩,
 .op ⟨some 40, .move (.tmp 4), none⟩,
 .op ⟨some 41, .binOp .shl 38 (.tmp 39) (.tmp 40) 3, none⟩,
 .op ⟨some 42, .binOp .or 38 (.tmp 38) (.tmp 41) 38, none⟩,
 .op ⟨some 3, .assign (.tmp 42), none⟩]
theorem r57_11 (tab : Tab) (s : S) : exR (EV tab) rg57_11 s = norm (runS (E := EV tab) (callR (EV tab)) (roundR (EV tab)) p57_11 s) := exR_plan (by kernel_rfl) s
noncomputable def rg57_12 : Code := regAt Tryz.f57 12
def p57_12 : List Pl :=
 [.op ⟨some 43, .move (.tmp 5), none⟩,
 .op ⟨some 44, .binOp .lss 5 (.tmp 43) (.const (.int .u8 128)) 5, none⟩]
theorem r57_12 (tab : Tab) (s : S) : exR (EV tab) rg57_12 s = norm (runS (E := EV tab) (callR (EV tab)) (roundR (EV tab)) p57_12 s) := exR_plan (by kernel_rfl) s
noncomputable def rg57_13 : Code := regAt Tryz.f57 13
def p57_13 : List Pl :=
 [.op ⟨some 45, .move (.tmp 3), none⟩,
 .op ⟨some 2, .assign (.tmp 45), none⟩]
theorem r57_13 (tab : Tab) (s : S) : exR (EV tab) rg57_13 s = norm (runS (E := EV tab) (callR (EV tab)) (roundR (EV tab)) p57_13 s) := exR_plan (by kernel_rfl) s
noncomputable def rg57_3 : Code := regAt Tryz.f57 3
def p57_3 : List Pl :=
 [.op ⟨some 7, .move (.tmp 4), none⟩,
 .op ⟨some 8, .binOp .add 3 (.tmp 7) (.const (.int .i64 7)) 3, none⟩,
 .op ⟨some 4, .assign (.tmp 8), none⟩]
theorem r57_3 (tab : Tab) (s : S) : exR (EV tab) rg57_3 s = norm (runS (E := EV tab) (callR (EV tab)) (roundR (EV tab)) p57_3 s) := exR_plan (by kernel_rfl) s
noncomputable def b57 : Code := (.seq rg57_0 (.seq rg57_1 (.seq rg57_2 (.block 0 (.loop (.seq (.block 1 (.seq rg57_4 (.seq (.seq rg57_5 (.cond (Operand.tmp 17) (.seq rg57_6 .ret) .skip)) (.seq rg57_7 (.seq (.seq rg57_8 (.cond (Operand.tmp 34) (.seq rg57_9 (.seq rg57_10 .ret)) .skip)) (.seq rg57_11 (.seq rg57_12 (.cond (Operand.tmp 44) (.seq rg57_13 .ret) .skip)))))))) rg57_3))))))
theorem enter57 (tab : Tab) (args : List Value) (h : H) (hx : callExt (EV tab) 57 args = none) (hl : Nat.ble args.length 46 = true) : callR (EV tab) 57 args h = finish (EV tab) [ResultVar.tmp 2] (exR (EV tab) b57 ⟨false, 46, ofArgs args 0 .leaf, h⟩) :=
  callR_enter (F := Tryz.f57) (c := b57) (by kernel_rfl) hx (by kernel_rfl) (by kernel_rfl) hl
def fF57 := And.intro @p57_0.eq_1 <| And.intro @r57_0 <| And.intro @p57_1.eq_1 <| And.intro @r57_1 <| And.intro @p57_2.eq_1 <| And.intro @r57_2 <| And.intro @p57_4.eq_1 <| And.intro @r57_4 <| And.intro @p57_5.eq_1 <| And.intro @r57_5 <| And.intro @p57_6.eq_1 <| And.intro @r57_6 <| And.intro @p57_7.eq_1 <| And.intro @r57_7 <| And.intro @p57_8.eq_1 <| And.intro @r57_8 <| And.intro @p57_9.eq_1 <| And.intro @r57_9 <| And.intro @p57_10.eq_1 <| And.intro @r57_10 <| And.intro @p57_11.eq_1 <| And.intro @r57_11 <| And.intro @p57_12.eq_1 <| And.intro @r57_12 <| And.intro @p57_13.eq_1 <| And.intro @r57_13 <| And.intro @p57_3.eq_1 <| And.intro @r57_3 <| @b57.eq_1
/- (*bowline/stackmachine.reader).signed -/
noncomputable def rg58_0 : Code := regAt Tryz.f58 0
def p58_0 : List Pl :=
 [.op ⟨some 2, .assign (.const (.int .i64 0)), none⟩]
theorem r58_0 (tab : Tab) (s : S) : exR (EV tab) rg58_0 s = norm (runS (E := EV tab) (callR (EV tab)) (roundR (EV tab)) p58_0 s) := exR_plan (by kernel_rfl) s
noncomputable def rg58_1 : Code := regAt Tryz.f58 1
def p58_1 : List Pl :=
 [.op ⟨some 4, .move (.tmp 0), none⟩,
 .op ⟨some 5, .call (.mk (.value (.func 60)) #[(.tmp 4)] #[107]), none⟩,
 .op ⟨some 3, .assign (.tmp 5), none⟩]
theorem r58_1 (tab : Tab) (s : S) : exR (EV tab) rg58_1 s = norm (runS (E := EV tab) (callR (EV tab)) (roundR (EV tab)) p58_1 s) := exR_plan (by kernel_rfl) s
noncomputable def rg58_2 : Code := regAt Tryz.f58 2
def p58_2 : List Pl :=
 [.op ⟨some 6, .move (.tmp 3), none⟩,
 .op ⟨some 7, .binOp .rem 3 (.tmp 6) (.const (.int .i64 2)) 3, none⟩,
 .op ⟨some 8, .binOp .eql 3 (.tmp 7) (.const (.int .i64 1)) 3, none⟩]
theorem r58_2 (tab : Tab) (s : S) : exR (EV tab) rg58_2 s = norm (runS (E := EV tab) (callR (EV tab)) (roundR (EV tab)) p58_2 s) := exR_plan (by kernel_rfl) s
noncomputable def rg58_3 : Code := regAt Tryz.f58 3
def p58_3 : List Pl :=
 [.op ⟨some 9, .move (.tmp 3), none⟩,
 .op ⟨some 10, .binOp .quo 3 (.tmp 9) (.const (.int .i64 2)) 3, none⟩,
 .op ⟨some 11, .binOp .add 3 (.tmp 10) (.const (.int .i64 1)) 3, none⟩,
 .op ⟨some 12, .unOp .neg 3 (.tmp 11), none⟩,
 .op ⟨some 2, .assign (.tmp 12), none⟩]
theorem r58_3 (tab : Tab) (s : S) : exR (EV tab) rg58_3 s = norm (runS (E := EV tab) (callR (EV tab)) (roundR (EV tab)) p58_3 s) := exR_plan (by kernel_rfl) s
noncomputable def rg58_4 : Code := regAt Tryz.f58 4
def p58_4 : List Pl :=
 [.op ⟨some 13, .move (.tmp 3), none⟩,
 .op ⟨some 14, .binOp .quo 3 (.tmp 13) (.const (.int .i64 2)) 3, none⟩,
 .op ⟨some 2, .assign (.tmp 14), none⟩]
theorem r58_4 (tab : Tab) (s : S) : exR (EV tab) rg58_4 s = norm (runS (E := EV tab) (callR (EV tab)) (roundR (EV tab)) p58_4 s) := exR_plan (by kernel_rfl) s
noncomputable def b58 : Code := (.seq rg58_0 (.seq rg58_1 (.seq (.seq rg58_2 (.cond (Operand.tmp 8) (.seq rg58_3 .ret) .skip)) (.seq rg58_4 .ret))))
theorem enter58 (tab : Tab) (args : List Value) (h : H) (hx : callExt (EV tab) 58 args = none) (hl : Nat.ble args.length 15 = true) : callR (EV tab) 58 args h = finish (EV tab) [ResultVar.tmp 2] (exR (EV tab) b58 ⟨false, 15, ofArgs args 0 .leaf, h⟩) :=
  callR_enter (F := Tryz.f58) (c := b58) (by kernel_rfl) hx (by kernel_rfl) (by kernel_rfl) hl
def fF58 := And.intro @p58_0.eq_1 <| And.intro @r58_0 <| And.intro @p58_1.eq_1 <| And.intro @r58_1 <| And.intro @p58_2.eq_1 <| And.intro @r58_2 <| And.intro @p58_3.eq_1 <| And.intro @r58_3 <| And.intro @p58_4.eq_1 <| And.intro @r58_4 <| @b58.eq_1
/- (*bowline/stackmachine.reader).fixed -/
noncomputable def rg59_0 : Code := regAt Tryz.f59 0
def p59_0 : List Pl :=
 [.op ⟨some 4, .assign (.const (.int .u64 0)), none⟩]
theorem r59_0 (tab : Tab) (s : S) : exR (EV tab) rg59_0 s = norm (runS (E := EV tab) (callR (EV tab)) (roundR (EV tab)) p59_0 s) := exR_plan (by kernel_rfl) s
noncomputable def rg59_1 : Code := regAt Tryz.f59 1
def p59_1 : List Pl :=
 [.op ⟨some 5, .assign (.const (.int .u64 0)), none⟩]
theorem r59_1 (tab : Tab) (s : S) : exR (EV tab) rg59_1 s = norm (runS (E := EV tab) (callR (EV tab)) (roundR (EV tab)) p59_1 s) := exR_plan (by kernel_rfl) s
noncomputable def rg59_2 : Code := regAt Tryz.f59 2
def p59_2 : List Pl :=
 [.op ⟨some 8, .move (.tmp 0), none⟩,
 .op ⟨some 9, .move (.tmp 1), none⟩,
 .op ⟨some 10, .call (.mk (.value (.func 81)) #[(.tmp 8), (.tmp 9)] #[107,3]), none⟩,
 .op ⟨some 11, .call (.mk (.builtin .len) #[(.tmp 10)] #[23]), none⟩,
 .op ⟨some 12, .move (.const (.int .i64 0)), none⟩]
theorem r59_2 (tab : Tab) (s : S) : exR (EV tab) rg59_2 s = norm (runS (E := EV tab) (callR (EV tab)) (roundR (EV tab)) p59_2 s) := exR_plan (by kernel_rfl) s
noncomputable def rg59_3 : Code := regAt Tryz.f59 3
def p59_3 : List Pl :=
 [.op ⟨some 13, .binOp .lss 3 (.tmp 12) (.tmp 11) 3, none⟩]
theorem r59_3 (tab : Tab) (s : S) : exR (EV tab) rg59_3 s = norm (runS (E := EV tab) (callR (EV tab)) (roundR (EV tab)) p59_3 s) := exR_plan (by kernel_rfl) s
noncomputable def rg59_4 : Code := regAt Tryz.f59 4
def p59_4 : List Pl :=
 [.op ⟨some 14, .move (.tmp 12), none⟩,
 .op ⟨some 15, .indexAddr 23 (.tmp 10) (.tmp 12), none⟩,
 .op ⟨some 16, .load 5 (.tmp 15), none⟩,
 .op ⟨some 6, .assign (.tmp 14), none⟩,
 .op ⟨some 7, .assign (.tmp 16), none⟩]
theorem r59_4 (tab : Tab) (s : S) : exR (EV tab) rg59_4 s = norm (runS (E := EV tab) (callR (EV tab)) (roundR (EV tab)) p59_4 s) := exR_plan (by kernel_rfl) s
noncomputable def rg59_5 : Code := regAt Tryz.f59 5
def p59_5 : List Pl :=
 [.op ⟨some 17, .move (.tmp 5), none⟩,
 .op ⟨some 18, .move (.tmp 7), none⟩,
 .op ⟨some 19, .convert 5 38 (.tmp 18), none⟩,
 .op ⟨some 20, .move (.tmp 6), none⟩,
 .op ⟨some 21, .binOp .mul 3 (.const (.int .i64 8)) (.tmp 20) 3, none⟩,
 .op ⟨some 22, .binOp .shl 38 (.tmp 19) (.tmp 21) 3, none⟩,
 .op ⟨some 23, .binOp .or 38 (.tmp 17) (.tmp 22) 38, none⟩,
 .op ⟨some 5, .assign (.tmp 23), none⟩]
theorem r59_5 (tab : Tab) (s : S) : exR (EV tab) rg59_5 s = norm (runS (E := EV tab) (callR (EV tab)) (roundR (EV tab)) p59_5 s) := exR_plan (by kernel_rfl) s
noncomputable def rg59_6 : Code := regAt Tryz.f59 6
def p59_6 : List Pl :=
 [.op ⟨some 24, .binOp .add 3 (.tmp 12) (.const (.int .i64 1)) 3, none⟩,
 .op ⟨some 12, .move (.tmp 24), none⟩]
theorem r59_6 (tab : Tab) (s : S) : exR (EV tab) rg59_6 s = norm (runS (E := EV tab) (callR (EV tab)) (roundR (EV tab)) p59_6 s) := exR_plan (by kernel_rfl) s
noncomputable def rg59_7 : Code := regAt Tryz.f59 7
def p59_7 : List Pl :=
 [.op ⟨some 25, .move (.tmp 5), none⟩,
 .op ⟨some 4, .assign (.tmp 25), none⟩]
theorem r59_7 (tab : Tab) (s : S) : exR (EV tab) rg59_7 s = norm (runS (E := EV tab) (callR (EV tab)) (roundR (EV tab)) p59_7 s) := exR_plan (by kernel_rfl) s
noncomputable def b59 : Code := (.seq rg59_0 (.seq rg59_1 (.seq (.seq rg59_2 (.block 0 (.loop (.seq rg59_3 (.seq (.cond (Operand.tmp 13) .skip (Code.exit 0)) (.seq (.block 1 (.seq rg59_4 rg59_5)) rg59_6)))))) (.seq rg59_7 .ret))))
theorem enter59 (tab : Tab) (args : List Value) (h : H) (hx : callExt (EV tab) 59 args = none) (hl : Nat.ble args.length 26 = true) : callR (EV tab) 59 args h = finish (EV tab) [ResultVar.tmp 4] (exR (EV tab) b59 ⟨false, 26, ofArgs args 0 .leaf, h⟩) :=
  callR_enter (F := Tryz.f59) (c := b59) (by kernel_rfl) hx (by kernel_rfl) (by kernel_rfl) hl
def fF59 := And.intro @p59_0.eq_1 <| And.intro @r59_0 <| And.intro @p59_1.eq_1 <| And.intro @r59_1 <| And.intro @p59_2.eq_1 <| And.intro @r59_2 <| And.intro @p59_3.eq_1 <| And.intro @r59_3 <| And.intro @p59_4.eq_1 <| And.intro @r59_4 <| And.intro @p59_5.eq_1 <| And.intro @r59_5 <| And.intro @p59_6.eq_1 <| And.intro @r59_6 <| And.intro @p59_7.eq_1 <| And.intro @r59_7 <| @b59.eq_1
/- (*bowline/stackmachine.reader).small -/
noncomputable def rg60_0 : Code := regAt Tryz.f60 0
def p60_0 : List Pl :=
 [.op ⟨some 2, .assign (.const (.int .i64 0)), none⟩]
theorem r60_0 (tab : Tab) (s : S) : exR (EV tab) rg60_0 s = norm (runS (E := EV tab) (callR (EV tab)) (roundR (EV tab)) p60_0 s) := exR_plan (by kernel_rfl) s
noncomputable def rg60_1 : Code := regAt Tryz.f60 1
def p60_1 : List Pl :=
 [.op ⟨some 4, .move (.tmp 0), none⟩,
 .op ⟨some 5, .call (.mk (.value (.func 57)) #[(.tmp 4)] #[107]), none⟩,
 .op ⟨some 3, .assign (.tmp 5), none⟩]
theorem r60_1 (tab : Tab) (s : S) : exR (EV tab) rg60_1 s = norm (runS (E := EV tab) (callR (EV tab)) (roundR (EV tab)) p60_1 s) := exR_plan (by kernel_rfl) s
noncomputable def rg60_2 : Code := regAt Tryz.f60 2
def p60_2 : List Pl :=
 [.op ⟨some 6, .move (.tmp 3), none⟩,
 .op ⟨some 7, .binOp .gtr 38 (.tmp 6) (.const (.int .u64 4611686018427387904)) 38, none⟩]
theorem r60_2 (tab : Tab) (s : S) : exR (EV tab) rg60_2 s = norm (runS (E := EV tab) (callR (EV tab)) (roundR (EV tab)) p60_2 s) := exR_plan (by kernel_rfl) s
noncomputable def rg60_3 : Code := regAt Tryz.f60 3
def p60_3 : List Pl :=
 [.op ⟨some 8, .move (.tmp 0), none⟩,
 .op ⟨some 9, .move (.tmp 0), none⟩,
 .op ⟨some 10, .nilCheck (.tmp 9), none⟩,
 .op ⟨some 11, .fieldAddr 109 (.tmp 10) 1, none⟩,
 .op ⟨some 12, .load 26 (.tmp 11), none⟩,
 .op ⟨some 13, .buildSlice 103 2 #[(0, (.tmp 12)), (1, (.const (.int .i64 1)))], none⟩,
 .op ⟨some 14, .call (.mk (.value (.func 32)) #[(.tmp 13)] #[103]), none⟩,
 .op ⟨some 15, .nilCheck (.tmp 8), none⟩,
 .op ⟨some 16, .fieldAddr 109 (.tmp 15) 1, none⟩,
 .op ⟨none, .store 26 (.tmp 16) (.tmp 14), none⟩]
theorem r60_3 (tab : Tab) (s : S) : exR (EV tab) rg60_3 s = norm (runS (E := EV tab) (callR (EV tab)) (roundR (EV tab)) p60_3 s) := exR_plan (by kernel_rfl) s
noncomputable def rg60_4 : Code := regAt Tryz.f60 4
def p60_4 : List Pl :=
 [.op ⟨some 2, .assign (.const (.int .i64 0)), none⟩]
theorem r60_4 (tab : Tab) (s : S) : exR (EV tab) rg60_4 s = norm (runS (E := EV tab) (callR (EV tab)) (roundR (EV tab)) p60_4 s) := exR_plan (by kernel_rfl) s
noncomputable def rg60_5 : Code := regAt Tryz.f60 5
def p60_5 : List Pl :=
 [.op ⟨some 17, .move (.tmp 3), none⟩,
 .op ⟨some 18, .convert 38 3 (.tmp 17), none⟩,
 .op ⟨some 2, .assign (.tmp 18), none⟩]
theorem r60_5 (tab : Tab) (s : S) : exR (EV tab) rg60_5 s = norm (runS (E := EV tab) (callR (EV tab)) (roundR (EV tab)) p60_5 s) := exR_plan (by kernel_rfl) s
noncomputable def b60 : Code := (.seq rg60_0 (.seq rg60_1 (.seq (.seq rg60_2 (.cond (Operand.tmp 7) (.seq rg60_3 (.seq rg60_4 .ret)) .skip)) (.seq rg60_5 .ret))))
theorem enter60 (tab : Tab) (args : List Value) (h : H) (hx : callExt (EV tab) 60 args = none) (hl : Nat.ble args.length 19 = true) : callR (EV tab) 60 args h = finish (EV tab) [ResultVar.tmp 2] (exR (EV tab) b60 ⟨false, 19, ofArgs args 0 .leaf, h⟩) :=
  callR_enter (F := Tryz.f60) (c := b60) (by kernel_rfl) hx (by kernel_rfl) (by kernel_rfl) hl
def fF60 := And.intro @p60_0.eq_1 <| And.intro @r60_0 <| And.intro @p60_1.eq_1 <| And.intro @r60_1 <| And.intro @p60_2.eq_1 <| And.intro @r60_2 <| And.intro @p60_3.eq_1 <| And.intro @r60_3 <| And.intro @p60_4.eq_1 <| And.intro @r60_4 <| And.intro @p60_5.eq_1 <| And.intro @r60_5 <| @b60.eq_1
/- (*bowline/stackmachine.reader).take -/
noncomputable def rg81_0 : Code := regAt Tryz.f81 0
def p81_0 : List Pl :=
 [.op ⟨some 4, .assign (.const (.slice none 0 0)), none⟩]
theorem r81_0 (tab : Tab) (s : S) : exR (EV tab) rg81_0 s = norm (runS (E := EV tab) (callR (EV tab)) (roundR (EV tab)) p81_0 s) := exR_plan (by kernel_rfl) s
noncomputable def rg81_1 : Code := regAt Tryz.f81 1
def p81_1 : List Pl :=
 [.op ⟨some 6, .move (.tmp 0), none⟩,
 .op ⟨some 7, .nilCheck (.tmp 6), none⟩,
 .op ⟨some 8, .fieldAddr 109 (.tmp 7) 1, none⟩,
 .op ⟨some 9, .load 26 (.tmp 8), none⟩,
 .op ⟨some 10, .binOp .neq 26 (.tmp 9) (.const (.int .i64 0)) 26, none⟩,
 .op ⟨some 11, .move (.tmp 10), none⟩,
 .op ⟨some 12, .move (.tmp 0), some (11, false)⟩,
 .op ⟨some 13, .nilCheck (.tmp 12), some (11, false)⟩,
 .op ⟨some 14, .fieldAddr 109 (.tmp 13) 0, some (11, false)⟩,
 .op ⟨some 15, .load 23 (.tmp 14), some (11, false)⟩,
 .op ⟨some 16, .call (.mk (.builtin .len) #[(.tmp 15)] #[23]), some (11, false)⟩,
 .op ⟨some 17, .move (.tmp 1), some (11, false)⟩,
 .op ⟨some 18, .binOp .lss 3 (.tmp 16) (.tmp 17) 3, some (11, false)⟩,
 .op ⟨some 19, .pick (.tmp 11) (.const (.bool true)) (.tmp 18), none⟩]
theorem r81_1 (tab : Tab) (s : S) : exR (EV tab) rg81_1 s = norm (runS (E := EV tab) (callR (EV tab)) (roundR (EV tab)) p81_1 s) := exR_plan (by kernel_rfl) s
noncomputable def rg81_2 : Code := regAt Tryz.f81 2
def p81_2 : List Pl :=
 [.op ⟨some 20, .move (.tmp 0), none⟩,
 .op ⟨some 21, .move (.tmp 0), none⟩,
 .op ⟨some 22, .nilCheck (.tmp 21), none⟩,
 .op ⟨some 23, .fieldAddr 109 (.tmp 22) 1, none⟩,
 .op ⟨some 24, .load 26 (.tmp 23), none⟩,
 .op ⟨some 25, .buildSlice 103 2 #[(0, (.tmp 24)), (1, (.const (.int .i64 39)))], none⟩,
 .op ⟨some 26, .call (.mk (.value (.func 32)) #[(.tmp 25)] #[103]), none⟩,
 .op ⟨some 27, .nilCheck (.tmp 20), none⟩,
 .op ⟨some 28, .fieldAddr 109 (.tmp 27) 1, none⟩,
 .op ⟨none, .store 26 (.tmp 28) (.tmp 26), none⟩]
theorem r81_2 (tab : Tab) (s : S) : exR (EV tab) rg81_2 s = norm (runS (E := EV tab) (callR (EV tab)) (roundR (EV tab)) p81_2 s) := exR_plan (by kernel_rfl) s
noncomputable def rg81_3 : Code := regAt Tryz.f81 3
def p81_3 : List Pl :=
 [.op ⟨some 29, .move (.tmp 1), none⟩,
 .op ⟨some 30, .makeSlice 23 (.tmp 29) (.tmp 29), none⟩,
 .op ⟨some 4, .assign (.tmp 30), none⟩]
theorem r81_3 (tab : Tab) (s : S) : exR (EV tab) rg81_3 s = norm (runS (E := EV tab) (callR (EV tab)) (roundR (EV tab)) p81_3 s) := exR_plan (by kernel_rfl) s
noncomputable def rg81_4 : Code := regAt Tryz.f81 4
def p81_4 : List Pl :=
 [.op ⟨some 31, .move (.tmp 0), none⟩,
 .op ⟨some 32, .nilCheck (.tmp 31), none⟩,
 .op ⟨some 33, .fieldAddr 109 (.tmp 32) 0, none⟩,
 .op ⟨some 34, .load 23 (.tmp 33), none⟩,
 .op ⟨some 35, .move (.tmp 1), none⟩,
 .op ⟨some 36, .slice 23 (.tmp 34) none (some (.tmp 35)) none, none⟩,
 .op ⟨some 5, .assign (.tmp 36), none⟩]
theorem r81_4 (tab : Tab) (s : S) : exR (EV tab) rg81_4 s = norm (runS (E := EV tab) (callR (EV tab)) (roundR (EV tab)) p81_4 s) := exR_plan (by kernel_rfl) s
noncomputable def rg81_5 : Code := regAt Tryz.f81 5
def p81_5 : List Pl :=
 [.op ⟨some 37, .move (.tmp 0), none⟩,
 .op ⟨some 38, .move (.tmp 0), none⟩,
 .op ⟨some 39, .nilCheck (.tmp 38), none⟩,
 .op ⟨some 40, .fieldAddr 109 (.tmp 39) 0, none⟩,
 .op ⟨some 41, .load 23 (.tmp 40), none⟩,
 .op ⟨some 42, .move (.tmp 1), none⟩,
 .op ⟨some 43, .slice 23 (.tmp 41) (some (.tmp 42)) none none, none⟩,
 .op ⟨some 44, .nilCheck (.tmp 37), none⟩,
 .op ⟨some 45, .fieldAddr 109 (.tmp 44) 0, none⟩,
 .op ⟨none, .store 23 (.tmp 45) (.tmp 43), none⟩]
theorem r81_5 (tab : Tab) (s : S) : exR (EV tab) rg81_5 s = norm (runS (E := EV tab) (callR (EV tab)) (roundR (EV tab)) p81_5 s) := exR_plan (by kernel_rfl) s
noncomputable def rg81_6 : Code := regAt Tryz.f81 6
def p81_6 : List Pl :=
 [.op ⟨some 46, .move (.tmp 5), none⟩,
 .op ⟨some 4, .assign (.tmp 46), none⟩]
theorem r81_6 (tab : Tab) (s : S) : exR (EV tab) rg81_6 s = norm (runS (E := EV tab) (callR (EV tab)) (roundR (EV tab)) p81_6 s) := exR_plan (by kernel_rfl) s
noncomputable def b81 : Code := (.seq rg81_0 (.seq (.seq rg81_1 (.cond (Operand.tmp 19) (.seq rg81_2 (.seq rg81_3 .ret)) .skip)) (.seq rg81_4 (.seq rg81_5 (.seq rg81_6 .ret)))))
theorem enter81 (tab : Tab) (args : List Value) (h : H) (hx : callExt (EV tab) 81 args = none) (hl : Nat.ble args.length 47 = true) : callR (EV tab) 81 args h = finish (EV tab) [ResultVar.tmp 4] (exR (EV tab) b81 ⟨false, 47, ofArgs args 0 .leaf, h⟩) :=
  callR_enter (F := Tryz.f81) (c := b81) (by kernel_rfl) hx (by kernel_rfl) (by kernel_rfl) hl
def fF81 := And.intro @p81_0.eq_1 <| And.intro @r81_0 <| And.intro @p81_1.eq_1 <| And.intro @r81_1 <| And.intro @p81_2.eq_1 <| And.intro @r81_2 <| And.intro @p81_3.eq_1 <| And.intro @r81_3 <| And.intro @p81_4.eq_1 <| And.intro @r81_4 <| And.intro @p81_5.eq_1 <| And.intro @r81_5 <| And.intro @p81_6.eq_1 <| And.intro @r81_6 <| @b81.eq_1
/- bowline/bowlinelaw26.StackmachineInverse -/
noncomputable def rg3_0 : Code := regAt Tryz.f3 0
def p3_0 : List Pl :=
 [.op ⟨some 4, .assign (.const (.bool false)), none⟩]
theorem r3_0 (tab : Tab) (s : S) : exR (EV tab) rg3_0 s = norm (runS (E := EV tab) (callR (EV tab)) (roundR (EV tab)) p3_0 s) := exR_plan (by kernel_rfl) s
noncomputable def rg3_1 : Code := regAt Tryz.f3 1
def p3_1 : List Pl :=
 [.op ⟨some 14, .move (.tmp 0), none⟩,
 .op ⟨some 15, .call (.mk (.value (.func 4)) #[(.tmp 14)] #[22]), none⟩,
 .op ⟨some 16, .unOp .not 4 (.tmp 15), none⟩,
 .op ⟨some 17, .move (.tmp 16), none⟩,
 .op ⟨some 18, .move (.tmp 1), some (17, false)⟩,
 .op ⟨some 19, .call (.mk (.builtin .len) #[(.tmp 18)] #[23]), some (17, false)⟩,
 .op ⟨some 20, .binOp .gtr 3 (.tmp 19) (.const (.int .i64 2000)) 3, some (17, false)⟩,
 .op ⟨some 21, .pick (.tmp 17) (.const (.bool true)) (.tmp 20), none⟩]
theorem r3_1 (tab : Tab) (s : S) : exR (EV tab) rg3_1 s = norm (runS (E := EV tab) (callR (EV tab)) (roundR (EV tab)) p3_1 s) := exR_plan (by kernel_rfl) s
noncomputable def rg3_2 : Code := regAt Tryz.f3 2
def p3_2 : List Pl :=
 [.op ⟨some 22, .call (.mk (.value (.func 5)) #[] #[]), none⟩,
 .op ⟨some 4, .assign (.tmp 22), none⟩]
theorem r3_2 (tab : Tab) (s : S) : exR (EV tab) rg3_2 s = norm (runS (E := EV tab) (callR (EV tab)) (roundR (EV tab)) p3_2 s) := exR_plan (by kernel_rfl) s
noncomputable def rg3_3 : Code := regAt Tryz.f3 3
def p3_3 : List Pl :=
 [.op ⟨some 24, .move (.tmp 0), none⟩,
 .op ⟨some 25, .call (.mk (.value (.func 7)) #[(.tmp 24)] #[22]), none⟩,
 .op ⟨some 26, .call (.mk (.value (.func 6)) #[(.tmp 25)] #[29]), none⟩,
 .op ⟨some 23, .move (.tmp 26), none⟩,
 .op ⟨some 27, .extract (.tmp 23) 0, none⟩,
 .op ⟨some 28, .extract (.tmp 23) 1, none⟩,
 .op ⟨some 5, .assign (.tmp 27), none⟩,
 .op ⟨some 6, .assign (.tmp 28), none⟩]
theorem r3_3 (tab : Tab) (s : S) : exR (EV tab) rg3_3 s = norm (runS (E := EV tab) (callR (EV tab)) (roundR (EV tab)) p3_3 s) := exR_plan (by kernel_rfl) s
noncomputable def rg3_4 : Code := regAt Tryz.f3 4
def p3_4 : List Pl :=
 [.op ⟨some 29, .move (.tmp 6), none⟩,
 .op ⟨some 30, .binOp .eql 26 (.tmp 29) (.const (.int .i64 0)) 26, none⟩,
 .op ⟨some 31, .move (.tmp 30), none⟩,
 .op ⟨some 32, .move (.tmp 5), some (31, true)⟩,
 .op ⟨some 33, .call (.mk (.builtin .len) #[(.tmp 32)] #[23]), some (31, true)⟩,
 .op ⟨some 34, .binOp .leq 3 (.tmp 33) (.const (.int .i64 65536)) 3, some (31, true)⟩,
 .op ⟨some 35, .pick (.tmp 31) (.tmp 34) (.const (.bool false)), none⟩]
theorem r3_4 (tab : Tab) (s : S) : exR (EV tab) rg3_4 s = norm (runS (E := EV tab) (callR (EV tab)) (roundR (EV tab)) p3_4 s) := exR_plan (by kernel_rfl) s
noncomputable def rg3_5 : Code := regAt Tryz.f3 5
def p3_5 : List Pl :=
 [.op ⟨some 37, .move (.tmp 5), none⟩,
 .op ⟨some 38, .call (.mk (.value (.func 8)) #[(.tmp 37)] #[23]), none⟩,
 .op ⟨some 36, .move (.tmp 38), none⟩,
 .op ⟨some 39, .extract (.tmp 36) 0, none⟩,
 .op ⟨some 40, .extract (.tmp 36) 1, none⟩,
 .op ⟨some 41, .extract (.tmp 36) 2, none⟩,
 .op ⟨some 7, .assign (.tmp 39), none⟩,
 .op ⟨some 8, .assign (.tmp 40), none⟩,
 .op ⟨some 9, .assign (.tmp 41), none⟩]
theorem r3_5 (tab : Tab) (s : S) : exR (EV tab) rg3_5 s = norm (runS (E := EV tab) (callR (EV tab)) (roundR (EV tab)) p3_5 s) := exR_plan (by kernel_rfl) s
noncomputable def rg3_6 : Code := regAt Tryz.f3 6
def p3_6 : List Pl :=
 [.op ⟨some 42, .move (.tmp 9), none⟩,
 .op ⟨some 43, .binOp .neq 26 (.tmp 42) (.const (.int .i64 0)) 26, none⟩,
 .op ⟨some 44, .move (.tmp 43), none⟩,
 .op ⟨some 45, .move (.tmp 8), some (44, false)⟩,
 .op ⟨some 46, .binOp .neq 3 (.tmp 45) (.const (.int .i64 0)) 3, some (44, false)⟩,
 .op ⟨some 47, .pick (.tmp 44) (.const (.bool true)) (.tmp 46), none⟩,
 .op ⟨some 48, .move (.tmp 47), none⟩,
 .op ⟨some 49, .move (.tmp 7), some (48, false)⟩,
 .op ⟨some 50, .call (.mk (.value (.func 10)) #[(.tmp 49)] #[29]), some (48, false)⟩,
 .op ⟨some 51, .move (.tmp 0), some (48, false)⟩,
 .op ⟨some 52, .call (.mk (.value (.func 9)) #[(.tmp 50), (.tmp 51)] #[22,22]), some (48, false)⟩,
 .op ⟨some 53, .unOp .not 4 (.tmp 52), some (48, false)⟩,
 .op ⟨some 54, .pick (.tmp 48) (.const (.bool true)) (.tmp 53), none⟩]
theorem r3_6 (tab : Tab) (s : S) : exR (EV tab) rg3_6 s = norm (runS (E := EV tab) (callR (EV tab)) (roundR (EV tab)) p3_6 s) := exR_plan (by kernel_rfl) s
noncomputable def rg3_7 : Code := regAt Tryz.f3 7
def p3_7 : List Pl :=
 [.op ⟨some 4, .assign (.const (.bool false)), none⟩]
theorem r3_7 (tab : Tab) (s : S) : exR (EV tab) rg3_7 s = norm (runS (E := EV tab) (callR (EV tab)) (roundR (EV tab)) p3_7 s) := exR_plan (by kernel_rfl) s
noncomputable def rg3_8 : Code := regAt Tryz.f3 8
def p3_8 : List Pl :=
 [.op ⟨some 56, .move (.tmp 1), none⟩,
 .op ⟨some 57, .call (.mk (.value (.func 11)) #[(.tmp 56)] #[23]), none⟩,
 .op ⟨some 58, .call (.mk (.value (.func 8)) #[(.tmp 57)] #[23]), none⟩,
 .op ⟨some 55, .move (.tmp 58), none⟩,
 .op ⟨some 59, .extract (.tmp 55) 0, none⟩,
 .op ⟨some 60, .extract (.tmp 55) 1, none⟩,
 .op ⟨some 61, .extract (.tmp 55) 2, none⟩,
 .op ⟨some 10, .assign (.tmp 59), none⟩,
 .op ⟨some 11, .assign (.tmp 60), none⟩,
 .op ⟨some 6, .assign (.tmp 61), none⟩]
theorem r3_8 (tab : Tab) (s : S) : exR (EV tab) rg3_8 s = norm (runS (E := EV tab) (callR (EV tab)) (roundR (EV tab)) p3_8 s) := exR_plan (by kernel_rfl) s
noncomputable def rg3_9 : Code := regAt Tryz.f3 9
def p3_9 : List Pl :=
 [.op ⟨some 62, .move (.tmp 6), none⟩,
 .op ⟨some 63, .binOp .eql 26 (.tmp 62) (.const (.int .i64 0)) 26, none⟩]
theorem r3_9 (tab : Tab) (s : S) : exR (EV tab) rg3_9 s = norm (runS (E := EV tab) (callR (EV tab)) (roundR (EV tab)) p3_9 s) := exR_plan (by kernel_rfl) s
noncomputable def rg3_10 : Code := regAt Tryz.f3 10
def p3_10 : List Pl :=
 [.op ⟨some 65, .move (.tmp 10), none⟩,
 .op ⟨some 66, .call (.mk (.value (.func 6)) #[(.tmp 65)] #[29]), none⟩,
 .op ⟨some 64, .move (.tmp 66), none⟩,
 .op ⟨some 67, .extract (.tmp 64) 0, none⟩,
 .op ⟨some 68, .extract (.tmp 64) 1, none⟩,
 .op ⟨some 12, .assign (.tmp 67), none⟩,
 .op ⟨some 13, .assign (.tmp 68), none⟩]
theorem r3_10 (tab : Tab) (s : S) : exR (EV tab) rg3_10 s = norm (runS (E := EV tab) (callR (EV tab)) (roundR (EV tab)) p3_10 s) := exR_plan (by kernel_rfl) s
noncomputable def rg3_11 : Code := regAt Tryz.f3 11
def p3_11 : List Pl :=
 [.op ⟨some 69, .move (.tmp 13), none⟩,
 .op ⟨some 70, .binOp .neq 26 (.tmp 69) (.const (.int .i64 0)) 26, none⟩,
 .op ⟨some 71, .move (.tmp 70), none⟩,
 .op ⟨some 72, .move (.tmp 12), some (71, false)⟩,
 .op ⟨some 73, .move (.tmp 1), some (71, false)⟩,
 .op ⟨some 74, .call (.mk (.value (.func 12)) #[(.tmp 72), (.tmp 73)] #[23,23]), some (71, false)⟩,
 .op ⟨some 75, .unOp .not 4 (.tmp 74), some (71, false)⟩,
 .op ⟨some 76, .pick (.tmp 71) (.const (.bool true)) (.tmp 75), none⟩]
theorem r3_11 (tab : Tab) (s : S) : exR (EV tab) rg3_11 s = norm (runS (E := EV tab) (callR (EV tab)) (roundR (EV tab)) p3_11 s) := exR_plan (by kernel_rfl) s
noncomputable def rg3_12 : Code := regAt Tryz.f3 12
def p3_12 : List Pl :=
 [.op ⟨some 4, .assign (.const (.bool false)), none⟩]
theorem r3_12 (tab : Tab) (s : S) : exR (EV tab) rg3_12 s = norm (runS (E := EV tab) (callR (EV tab)) (roundR (EV tab)) p3_12 s) := exR_plan (by kernel_rfl) s
noncomputable def rg3_13 : Code := regAt Tryz.f3 13
def p3_13 : List Pl :=
 [.op ⟨some 77, .call (.mk (.value (.func 5)) #[] #[]), none⟩,
 .op ⟨some 4, .assign (.tmp 77), none⟩]
theorem r3_13 (tab : Tab) (s : S) : exR (EV tab) rg3_13 s = norm (runS (E := EV tab) (callR (EV tab)) (roundR (EV tab)) p3_13 s) := exR_plan (by kernel_rfl) s
noncomputable def b3 : Code := (.seq rg3_0 (.seq (.seq rg3_1 (.cond (Operand.tmp 21) (.seq rg3_2 .ret) .skip)) (.seq rg3_3 (.seq (.seq rg3_4 (.cond (Operand.tmp 35) (.seq rg3_5 (.seq rg3_6 (.cond (Operand.tmp 54) (.seq rg3_7 .ret) .skip))) .skip)) (.seq rg3_8 (.seq (.seq rg3_9 (.cond (Operand.tmp 63) (.seq rg3_10 (.seq rg3_11 (.cond (Operand.tmp 76) (.seq rg3_12 .ret) .skip))) .skip)) (.seq rg3_13 .ret)))))))
theorem enter3 (tab : Tab) (args : List Value) (h : H) (hx : callExt (EV tab) 3 args = none) (hl : Nat.ble args.length 78 = true) : callR (EV tab) 3 args h = finish (EV tab) [ResultVar.tmp 4] (exR (EV tab) b3 ⟨false, 78, ofArgs args 0 .leaf, h⟩) :=
  callR_enter (F := Tryz.f3) (c := b3) (by kernel_rfl) hx (by kernel_rfl) (by kernel_rfl) hl
def fF3 := And.intro @p3_0.eq_1 <| And.intro @r3_0 <| And.intro @p3_1.eq_1 <| And.intro @r3_1 <| And.intro @p3_2.eq_1 <| And.intro @r3_2 <| And.intro @p3_3.eq_1 <| And.intro @r3_3 <| And.intro @p3_4.eq_1 <| And.intro @r3_4 <| And.intro @p3_5.eq_1 <| And.intro @r3_5 <| And.intro @p3_6.eq_1 <| And.intro @r3_6 <| And.intro @p3_7.eq_1 <| And.intro @r3_7 <| And.intro @p3_8.eq_1 <| And.intro @r3_8 <| And.intro @p3_9.eq_1 <| And.intro @r3_9 <| And.intro @p3_10.eq_1 <| And.intro @r3_10 <| And.intro @p3_11.eq_1 <| And.intro @r3_11 <| And.intro @p3_12.eq_1 <| And.intro @r3_12 <| And.intro @p3_13.eq_1 <| And.intro @r3_13 <| @b3.eq_1
theorem ti22 (tab : Tab) : (EV tab).info 22 = some ⟨.slice 40, 1, 24, [.slice none 0 0]⟩ := by kernel_rfl
theorem ti29 (tab : Tab) : (EV tab).info 29 = some ⟨.slice 41, 1, 24, [.slice none 0 0]⟩ := by kernel_rfl
theorem ti40 (tab : Tab) : (EV tab).info 40 = some ⟨.struct #[⟨ "Op", 3, 0, false, "", "", 0⟩, ⟨ "Type", 9, 1, false, "", "", 8⟩, ⟨ "To", 9, 2, false, "", "", 24⟩, ⟨ "Num", 38, 3, false, "", "", 40⟩, ⟨ "Imm", 3, 4, false, "", "", 48⟩, ⟨ "Size", 3, 5, false, "", "", 56⟩], 6, 64, [.int .i64 0, .string ⟨#[]⟩, .string ⟨#[]⟩, .int .u64 0, .int .i64 0, .int .i64 0]⟩ := by kernel_rfl
theorem ti65 (tab : Tab) : (EV tab).info 65 = some ⟨.slice 23, 1, 24, [.slice none 0 0]⟩ := by kernel_rfl
theorem ti67 (tab : Tab) : (EV tab).info 67 = some ⟨.func #[41] #[23] false, 1, 8, [.nilFunc]⟩ := by kernel_rfl
theorem ti101 (tab : Tab) : (EV tab).info 101 = some ⟨.func #[41] #[26] false, 1, 8, [.nilFunc]⟩ := by kernel_rfl
theorem ti107 (tab : Tab) : (EV tab).info 107 = some ⟨.pointer 109, 1, 8, [.pointer none]⟩ := by kernel_rfl
theorem ti109 (tab : Tab) : (EV tab).info 109 = some ⟨.struct #[⟨ "rest", 23, 0, false, "", "bowline/stackmachine", 0⟩, ⟨ "err", 26, 1, false, "", "bowline/stackmachine", 24⟩], 2, 32, [.slice none 0 0, .int .i64 0]⟩ := by kernel_rfl
theorem ti111 (tab : Tab) : (EV tab).info 111 = some ⟨.pointer 41, 1, 8, [.pointer none]⟩ := by kernel_rfl
theorem ti129 (tab : Tab) : (EV tab).info 129 = some ⟨.int .u32, 1, 4, [.int .u32 0]⟩ := by kernel_rfl
theorem ti150 (tab : Tab) : (EV tab).info 150 = some ⟨.int .u64, 1, 8, [.int .u64 0]⟩ := by kernel_rfl
theorem ti152 (tab : Tab) : (EV tab).info 152 = some ⟨.slice 9, 1, 24, [.slice none 0 0]⟩ := by kernel_rfl
def tTGb := And.intro @ti22 <| And.intro @ti29 <| And.intro @ti40 <| And.intro @ti65 <| And.intro @ti67 <| And.intro @ti101 <| And.intro @ti107 <| And.intro @ti109 <| And.intro @ti111 <| And.intro @ti129 <| And.intro @ti150 <| @ti152
end Go.D
