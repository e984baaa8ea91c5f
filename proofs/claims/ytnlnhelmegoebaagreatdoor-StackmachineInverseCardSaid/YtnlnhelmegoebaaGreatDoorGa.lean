/- Plans of the functions, printed by genfn.py out of Lean's own print of them; each is proved to be the code. -/
import Derived.Test.YtnlnhelmegoebaaGreatDoorEV
namespace Go.D
open Go.Proofs
set_option maxRecDepth 100000
set_option linter.defProp false
/- bowline/stackmachine.kinds -/
noncomputable def rg44_0 : Code := regAt Tryz.f44 0
def p44_0 : List Pl :=
 [.op ⟨some 0, .assign (.const (.slice none 0 0)), none⟩]
theorem r44_0 (tab : Tab) (s : S) : exR (EV tab) rg44_0 s = norm (runS (E := EV tab) (callR (EV tab)) (roundR (EV tab)) p44_0 s) := exR_plan (by kernel_rfl) s
noncomputable def rg44_1 : Code := regAt Tryz.f44 1
def p44_1 : List Pl :=
 [.op ⟨some 1, .build 87 #[(0, (.const (.int .i64 0))), (1, (.const (.int .i64 1)))], none⟩,
 .op ⟨some 2, .build 90 #[(0, (.const (.string ⟨#[99,111,110,115,116]⟩))), (1, (.const (.string ⟨#[110]⟩))), (2, (.tmp 1)), (3, (.func 68))], none⟩,
 .op ⟨some 3, .build 87 #[(0, (.const (.int .i64 0))), (1, (.const (.int .i64 1)))], none⟩,
 .op ⟨some 4, .build 90 #[(0, (.const (.string ⟨#[119,111,114,100]⟩))), (1, (.const (.string ⟨#[119]⟩))), (2, (.tmp 3)), (3, (.func 68))], none⟩,
 .op ⟨some 5, .build 87 #[(0, (.const (.int .i64 0))), (1, (.const (.int .i64 1)))], none⟩,
 .op ⟨some 6, .call (.mk (.value (.func 69)) #[(.const (.int .u64 9999))] #[38]), none⟩,
 .op ⟨some 7, .build 90 #[(0, (.const (.string ⟨#[103,101,116]⟩))), (1, (.const (.string ⟨#[110]⟩))), (2, (.tmp 5)), (3, (.tmp 6))], none⟩,
 .op ⟨some 8, .build 87 #[(0, (.const (.int .i64 1))), (1, (.const (.int .i64 0)))], none⟩,
 .op ⟨some 9, .call (.mk (.value (.func 69)) #[(.const (.int .u64 9999))] #[38]), none⟩,
 .op ⟨some 10, .build 90 #[(0, (.const (.string ⟨#[115,101,116]⟩))), (1, (.const (.string ⟨#[110]⟩))), (2, (.tmp 8)), (3, (.tmp 9))], none⟩,
 .op ⟨some 11, .build 87 #[(0, (.const (.int .i64 1))), (1, (.const (.int .i64 1)))], none⟩,
 .op ⟨some 12, .call (.mk (.value (.func 69)) #[(.const (.int .u64 9999))] #[38]), none⟩,
 .op ⟨some 13, .build 90 #[(0, (.const (.string ⟨#[116,101,101]⟩))), (1, (.const (.string ⟨#[110]⟩))), (2, (.tmp 11)), (3, (.tmp 12))], none⟩,
 .op ⟨some 14, .build 87 #[(0, (.const (.int .i64 1))), (1, (.const (.int .i64 0)))], none⟩,
 .op ⟨some 15, .build 90 #[(0, (.const (.string ⟨#[100,114,111,112]⟩))), (1, (.const (.string ⟨#[]⟩))), (2, (.tmp 14)), (3, (.func 68))], none⟩,
 .op ⟨some 16, .build 87 #[(0, (.const (.int .i64 1))), (1, (.const (.int .i64 1)))], none⟩,
 .op ⟨some 17, .call (.mk (.value (.func 69)) #[(.const (.int .u64 255))] #[38]), none⟩,
 .op ⟨some 18, .build 90 #[(0, (.const (.string ⟨#[117,110,97,114,121]⟩))), (1, (.const (.string ⟨#[84,110]⟩))), (2, (.tmp 16)), (3, (.tmp 17))], none⟩,
 .op ⟨some 19, .build 87 #[(0, (.const (.int .i64 2))), (1, (.const (.int .i64 1)))], none⟩,
 .op ⟨some 20, .call (.mk (.value (.func 69)) #[(.const (.int .u64 255))] #[38]), none⟩,
 .op ⟨some 21, .build 90 #[(0, (.const (.string ⟨#[98,105,110,97,114,121]⟩))), (1, (.const (.string ⟨#[84,110]⟩))), (2, (.tmp 19)), (3, (.tmp 20))], none⟩,
 .op ⟨some 22, .build 87 #[(0, (.const (.int .i64 1))), (1, (.const (.int .i64 1)))], none⟩,
 .op ⟨some 23, .call (.mk (.value (.func 69)) #[(.const (.int .u64 255))] #[38]), none⟩,
 .op ⟨some 24, .build 90 #[(0, (.const (.string ⟨#[99,111,110,118,101,114,116]⟩))), (1, (.const (.string ⟨#[84,85,110]⟩))), (2, (.tmp 22)), (3, (.tmp 23))], none⟩,
 .op ⟨some 25, .build 87 #[(0, (.const (.int .i64 1))), (1, (.const (.int .i64 1)))], none⟩,
 .op ⟨some 26, .build 90 #[(0, (.const (.string ⟨#[108,111,97,100]⟩))), (1, (.const (.string ⟨#[84,115]⟩))), (2, (.tmp 25)), (3, (.func 70))], none⟩,
 .op ⟨some 27, .build 87 #[(0, (.const (.int .i64 2))), (1, (.const (.int .i64 0)))], none⟩,
 .op ⟨some 28, .build 90 #[(0, (.const (.string ⟨#[115,116,111,114,101]⟩))), (1, (.const (.string ⟨#[84,115]⟩))), (2, (.tmp 27)), (3, (.func 70))], none⟩,
 .op ⟨some 29, .build 87 #[(0, (.const (.int .i64 1))), (1, (.const (.int .i64 1)))], none⟩,
 .op ⟨some 30, .build 90 #[(0, (.const (.string ⟨#[108,101,97]⟩))), (1, (.const (.string ⟨#[115]⟩))), (2, (.tmp 29)), (3, (.func 70))], none⟩,
 .op ⟨some 31, .build 87 #[(0, (.const (.int .i64 2))), (1, (.const (.int .i64 1)))], none⟩,
 .op ⟨some 32, .build 90 #[(0, (.const (.string ⟨#[105,110,100,101,120]⟩))), (1, (.const (.string ⟨#[115]⟩))), (2, (.tmp 31)), (3, (.func 70))], none⟩,
 .op ⟨some 33, .build 87 #[(0, (.const (.int .i64 2))), (1, (.const (.int .i64 0)))], none⟩,
 .op ⟨some 34, .call (.mk (.value (.func 69)) #[(.const (.int .u64 2147483647))] #[38]), none⟩,
 .op ⟨some 35, .build 90 #[(0, (.const (.string ⟨#[99,111,112,121]⟩))), (1, (.const (.string ⟨#[110]⟩))), (2, (.tmp 33)), (3, (.tmp 34))], none⟩,
 .op ⟨some 36, .build 87 #[(0, (.const (.int .i64 1))), (1, (.const (.int .i64 1)))], none⟩,
 .op ⟨some 37, .build 90 #[(0, (.const (.string ⟨#[97,108,108,111,99]⟩))), (1, (.const (.string ⟨#[110]⟩))), (2, (.tmp 36)), (3, (.func 71))], none⟩,
 .op ⟨some 38, .build 87 #[(0, (.const (.int .i64 1))), (1, (.const (.int .i64 0)))], none⟩,
 .op ⟨some 39, .build 90 #[(0, (.const (.string ⟨#[102,114,101,101]⟩))), (1, (.const (.string ⟨#[]⟩))), (2, (.tmp 38)), (3, (.func 68))], none⟩,
 .op ⟨some 40, .build 87 #[(0, (.const (.int .i64 1))), (1, (.const (.int .i64 0)))], none⟩,
 .op ⟨some 41, .build 90 #[(0, (.const (.string ⟨#[111,117,116]⟩))), (1, (.const (.string ⟨#[84]⟩))), (2, (.tmp 40)), (3, (.func 68))], none⟩,
 .op ⟨some 42, .build 87 #[(0, (.const (.int .i64 2))), (1, (.const (.int .i64 0)))], none⟩,
 .op ⟨some 43, .build 90 #[(0, (.const (.string ⟨#[112,114,105,110,116]⟩))), (1, (.const (.string ⟨#[]⟩))), (2, (.tmp 42)), (3, (.func 68))], none⟩,
 .op ⟨some 44, .build 87 #[(0, (.const (.int .i64 0))), (1, (.const (.int .i64 0)))], none⟩,
 .op ⟨some 45, .build 90 #[(0, (.const (.string ⟨#[116,114,97,99,101]⟩))), (1, (.const (.string ⟨#[]⟩))), (2, (.tmp 44)), (3, (.func 68))], none⟩,
 .op ⟨some 46, .build 87 #[(0, (.const (.int .i64 0))), (1, (.const (.int .i64 0)))], none⟩,
 .op ⟨some 47, .build 90 #[(0, (.const (.string ⟨#[102,111,114,103,101,116]⟩))), (1, (.const (.string ⟨#[]⟩))), (2, (.tmp 46)), (3, (.func 68))], none⟩,
 .op ⟨some 48, .build 87 #[(0, (.const (.int .i64 0))), (1, (.const (.int .i64 0)))], none⟩,
 .op ⟨some 49, .build 90 #[(0, (.const (.string ⟨#[106,117,109,112]⟩))), (1, (.const (.string ⟨#[100]⟩))), (2, (.tmp 48)), (3, (.func 70))], none⟩,
 .op ⟨some 50, .build 87 #[(0, (.const (.int .i64 1))), (1, (.const (.int .i64 0)))], none⟩,
 .op ⟨some 51, .build 90 #[(0, (.const (.string ⟨#[98,114,97,110,99,104]⟩))), (1, (.const (.string ⟨#[100]⟩))), (2, (.tmp 50)), (3, (.func 70))], none⟩,
 .op ⟨some 52, .build 87 #[(0, (.const (.int .i64 1))), (1, (.const (.int .i64 1)))], none⟩,
 .op ⟨some 53, .build 90 #[(0, (.const (.string ⟨#[99,97,115,101]⟩))), (1, (.const (.string ⟨#[84,119,100]⟩))), (2, (.tmp 52)), (3, (.func 70))], none⟩,
 .op ⟨some 54, .build 87 #[(0, (.const (.int .i64 0))), (1, (.const (.int .i64 0)))], none⟩,
 .op ⟨some 55, .build 90 #[(0, (.const (.string ⟨#[99,97,108,108]⟩))), (1, (.const (.string ⟨#[100]⟩))), (2, (.tmp 54)), (3, (.func 70))], none⟩,
 .op ⟨some 56, .build 87 #[(0, (.const (.int .i64 0))), (1, (.const (.int .i64 0)))], none⟩,
 .op ⟨some 57, .build 90 #[(0, (.const (.string ⟨#[101,110,116,101,114]⟩))), (1, (.const (.string ⟨#[80,76,70]⟩))), (2, (.tmp 56)), (3, (.func 72))], none⟩,
 .op ⟨some 58, .build 87 #[(0, (.const (.int .i64 0))), (1, (.const (.int .i64 0)))], none⟩,
 .op ⟨some 59, .call (.mk (.value (.func 69)) #[(.const (.int .u64 1))] #[38]), none⟩,
 .op ⟨some 60, .build 90 #[(0, (.const (.string ⟨#[114,101,116,117,114,110]⟩))), (1, (.const (.string ⟨#[110]⟩))), (2, (.tmp 58)), (3, (.tmp 59))], none⟩,
 .op ⟨some 61, .build 87 #[(0, (.const (.int .i64 0))), (1, (.const (.int .i64 1)))], none⟩,
 .op ⟨some 62, .call (.mk (.value (.func 69)) #[(.const (.int .u64 65536))] #[38]), none⟩,
 .op ⟨some 63, .build 90 #[(0, (.const (.string ⟨#[102,114,97,109,101]⟩))), (1, (.const (.string ⟨#[110]⟩))), (2, (.tmp 61)), (3, (.tmp 62))], none⟩,
 .op ⟨some 64, .build 87 #[(0, (.const (.int .i64 0))), (1, (.const (.int .i64 0)))], none⟩,
 .op ⟨some 65, .call (.mk (.value (.func 69)) #[(.const (.int .u64 12))] #[38]), none⟩,
 .op ⟨some 66, .build 90 #[(0, (.const (.string ⟨#[116,114,97,112]⟩))), (1, (.const (.string ⟨#[110]⟩))), (2, (.tmp 64)), (3, (.tmp 65))], none⟩,
 .op ⟨some 67, .build 87 #[(0, (.const (.int .i64 0))), (1, (.const (.int .i64 0)))], none⟩,
 .op ⟨some 68, .call (.mk (.value (.func 69)) #[(.const (.int .u64 18))] #[38]), none⟩,
 .op ⟨some 69, .build 90 #[(0, (.const (.string ⟨#[99,114,97,115,104]⟩))), (1, (.const (.string ⟨#[110]⟩))), (2, (.tmp 67)), (3, (.tmp 68))], none⟩,
 .op ⟨some 70, .buildSlice 116 29 #[(0, (.tmp 2)), (1, (.tmp 4)), (2, (.tmp 7)), (3, (.tmp 10)), (4, (.tmp 13)), (5, (.tmp 15)), (6, (.tmp 18)), (7, (.tmp 21)), (8, (.tmp 24)), (9, (.tmp 26)), (10, (.tmp 28)), (11, (.tmp 30)), (12, (.tmp 32)), (13, (.tmp 35)), (14, (.tmp 37)), (15, (.tmp 39)), (16, (.tmp 41)), (17, (.tmp 43)), (18, (.tmp 45)), (19, (.tmp 47)), (20, (.tmp 49)), (21, (.tmp 51)), (22, (.tmp 53)), (23, (.tmp 55)), (24, (.tmp 57)), (25, (.tmp 60)), (26, (.tmp 63)), (27, (.tmp 66)), (28, (.tmp 69))], none⟩,
 .op ⟨some 0, .assign (.tmp 70), none⟩]
theorem r44_1 (tab : Tab) (s : S) : exR (EV tab) rg44_1 s = norm (runS (E := EV tab) (callR (EV tab)) (roundR (EV tab)) p44_1 s) := exR_plan (by kernel_rfl) s
noncomputable def b44 : Code := (.seq rg44_0 (.seq rg44_1 .ret))
theorem enter44 (tab : Tab) (args : List Value) (h : H) (hx : callExt (EV tab) 44 args = none) (hl : Nat.ble args.length 71 = true) : callR (EV tab) 44 args h = finish (EV tab) [ResultVar.tmp 0] (exR (EV tab) b44 ⟨false, 71, ofArgs args 0 .leaf, h⟩) :=
  callR_enter (F := Tryz.f44) (c := b44) (by kernel_rfl) hx (by kernel_rfl) (by kernel_rfl) hl
def fF44 := And.intro @p44_0.eq_1 <| And.intro @r44_0 <| And.intro @p44_1.eq_1 <| And.intro @r44_1 <| @b44.eq_1
/- bowline/stackmachine.kindOf -/
noncomputable def rg27_0 : Code := regAt Tryz.f27 0
def p27_0 : List Pl :=
 [.op ⟨some 2, .alloc 90, none⟩,
 .op ⟨some 3, .assign (.const (.bool false)), none⟩]
theorem r27_0 (tab : Tab) (s : S) : exR (EV tab) rg27_0 s = norm (runS (E := EV tab) (callR (EV tab)) (roundR (EV tab)) p27_0 s) := exR_plan (by kernel_rfl) s
noncomputable def rg27_1 : Code := regAt Tryz.f27 1
def p27_1 : List Pl :=
 [.op ⟨some 5, .call (.mk (.value (.func 44)) #[] #[]), none⟩,
 .op ⟨some 4, .assign (.tmp 5), none⟩]
theorem r27_1 (tab : Tab) (s : S) : exR (EV tab) rg27_1 s = norm (runS (E := EV tab) (callR (EV tab)) (roundR (EV tab)) p27_1 s) := exR_plan (by kernel_rfl) s
noncomputable def rg27_2 : Code := regAt Tryz.f27 2
def p27_2 : List Pl :=
 [.op ⟨some 6, .move (.tmp 0), none⟩,
 .op ⟨some 7, .binOp .lss 3 (.tmp 6) (.const (.int .i64 0)) 3, none⟩,
 .op ⟨some 8, .move (.tmp 7), none⟩,
 .op ⟨some 9, .move (.tmp 0), some (8, false)⟩,
 .op ⟨some 10, .move (.tmp 4), some (8, false)⟩,
 .op ⟨some 11, .call (.mk (.builtin .len) #[(.tmp 10)] #[116]), some (8, false)⟩,
 .op ⟨some 12, .binOp .geq 3 (.tmp 9) (.tmp 11) 3, some (8, false)⟩,
 .op ⟨some 13, .pick (.tmp 8) (.const (.bool true)) (.tmp 12), none⟩]
theorem r27_2 (tab : Tab) (s : S) : exR (EV tab) rg27_2 s = norm (runS (E := EV tab) (callR (EV tab)) (roundR (EV tab)) p27_2 s) := exR_plan (by kernel_rfl) s
noncomputable def rg27_3 : Code := regAt Tryz.f27 3
def p27_3 : List Pl :=
 [.op ⟨some 14, .build 90 #[], none⟩,
 .op ⟨none, .store 90 (.tmp 2) (.tmp 14), none⟩,
 .op ⟨some 3, .assign (.const (.bool false)), none⟩]
theorem r27_3 (tab : Tab) (s : S) : exR (EV tab) rg27_3 s = norm (runS (E := EV tab) (callR (EV tab)) (roundR (EV tab)) p27_3 s) := exR_plan (by kernel_rfl) s
noncomputable def rg27_4 : Code := regAt Tryz.f27 4
def p27_4 : List Pl :=
 [.op ⟨some 15, .move (.tmp 4), none⟩,
 .op ⟨some 16, .move (.tmp 0), none⟩,
 .op ⟨some 17, .indexAddr 116 (.tmp 15) (.tmp 16), none⟩,
 .op ⟨some 18, .load 90 (.tmp 17), none⟩,
 .op ⟨none, .store 90 (.tmp 2) (.tmp 18), none⟩,
 .op ⟨some 3, .assign (.const (.bool true)), none⟩]
theorem r27_4 (tab : Tab) (s : S) : exR (EV tab) rg27_4 s = norm (runS (E := EV tab) (callR (EV tab)) (roundR (EV tab)) p27_4 s) := exR_plan (by kernel_rfl) s
noncomputable def b27 : Code := (.seq rg27_0 (.seq rg27_1 (.seq (.seq rg27_2 (.cond (Operand.tmp 13) (.seq rg27_3 .ret) .skip)) (.seq rg27_4 .ret))))
theorem enter27 (tab : Tab) (args : List Value) (h : H) (hx : callExt (EV tab) 27 args = none) (hl : Nat.ble args.length 19 = true) : callR (EV tab) 27 args h = finish (EV tab) [ResultVar.cell 2 90, ResultVar.tmp 3] (exR (EV tab) b27 ⟨false, 19, ofArgs args 0 .leaf, h⟩) :=
  callR_enter (F := Tryz.f27) (c := b27) (by kernel_rfl) hx (by kernel_rfl) (by kernel_rfl) hl
def fF27 := And.intro @p27_0.eq_1 <| And.intro @r27_0 <| And.intro @p27_1.eq_1 <| And.intro @r27_1 <| And.intro @p27_2.eq_1 <| And.intro @r27_2 <| And.intro @p27_3.eq_1 <| And.intro @r27_3 <| And.intro @p27_4.eq_1 <| And.intro @r27_4 <| @b27.eq_1
/- bowline/stackmachine.hasAny -/
noncomputable def rg76_0 : Code := regAt Tryz.f76 0
def p76_0 : List Pl :=
 [.op ⟨some 4, .assign (.const (.bool false)), none⟩]
theorem r76_0 (tab : Tab) (s : S) : exR (EV tab) rg76_0 s = norm (runS (E := EV tab) (callR (EV tab)) (roundR (EV tab)) p76_0 s) := exR_plan (by kernel_rfl) s
noncomputable def rg76_1 : Code := regAt Tryz.f76 1
def p76_1 : List Pl :=
 [.op ⟨some 9, .move (.tmp 0), none⟩,
 .op ⟨some 10, .range 9 (.tmp 9), none⟩]
theorem r76_1 (tab : Tab) (s : S) : exR (EV tab) rg76_1 s = norm (runS (E := EV tab) (callR (EV tab)) (roundR (EV tab)) p76_1 s) := exR_plan (by kernel_rfl) s
noncomputable def rg76_2 : Code := regAt Tryz.f76 2
def p76_2 : List Pl :=
 [.op ⟨some 11, .next (.tmp 10) true, none⟩,
 .op ⟨some 12, .extract (.tmp 11) 0, none⟩]
theorem r76_2 (tab : Tab) (s : S) : exR (EV tab) rg76_2 s = norm (runS (E := EV tab) (callR (EV tab)) (roundR (EV tab)) p76_2 s) := exR_plan (by kernel_rfl) s
noncomputable def rg76_3 : Code := regAt Tryz.f76 3
def p76_3 : List Pl :=
 [.op ⟨some 13, .extract (.tmp 11) 2, none⟩,
 .op ⟨some 6, .assign (.tmp 13), none⟩]
theorem r76_3 (tab : Tab) (s : S) : exR (EV tab) rg76_3 s = norm (runS (E := EV tab) (callR (EV tab)) (roundR (EV tab)) p76_3 s) := exR_plan (by kernel_rfl) s
noncomputable def rg76_4 : Code := regAt Tryz.f76 4
def p76_4 : List Pl :=
 [.op ⟨some 14, .move (.tmp 1), none⟩,
 .op ⟨some 15, .range 9 (.tmp 14), none⟩]
theorem r76_4 (tab : Tab) (s : S) : exR (EV tab) rg76_4 s = norm (runS (E := EV tab) (callR (EV tab)) (roundR (EV tab)) p76_4 s) := exR_plan (by kernel_rfl) s
noncomputable def rg76_5 : Code := regAt Tryz.f76 5
def p76_5 : List Pl :=
 [.op ⟨some 16, .next (.tmp 15) true, none⟩,
 .op ⟨some 17, .extract (.tmp 16) 0, none⟩]
theorem r76_5 (tab : Tab) (s : S) : exR (EV tab) rg76_5 s = norm (runS (E := EV tab) (callR (EV tab)) (roundR (EV tab)) p76_5 s) := exR_plan (by kernel_rfl) s
noncomputable def rg76_6 : Code := regAt Tryz.f76 6
def p76_6 : List Pl :=
 [.op ⟨some 18, .extract (.tmp 16) 2, none⟩,
 .op ⟨some 8, .assign (.tmp 18), none⟩]
theorem r76_6 (tab : Tab) (s : S) : exR (EV tab) rg76_6 s = norm (runS (E := EV tab) (callR (EV tab)) (roundR (EV tab)) p76_6 s) := exR_plan (by kernel_rfl) s
noncomputable def rg76_7 : Code := regAt Tryz.f76 7
def p76_7 : List Pl :=
 [.op ⟨some 19, .move (.tmp 6), none⟩,
 .op ⟨some 20, .move (.tmp 8), none⟩,
 .op ⟨some 21, .binOp .eql 21 (.tmp 19) (.tmp 20) 21, none⟩]
theorem r76_7 (tab : Tab) (s : S) : exR (EV tab) rg76_7 s = norm (runS (E := EV tab) (callR (EV tab)) (roundR (EV tab)) p76_7 s) := exR_plan (by kernel_rfl) s
noncomputable def rg76_8 : Code := regAt Tryz.f76 8
def p76_8 : List Pl :=
 [.op ⟨some 4, .assign (.const (.bool true)), none⟩]
theorem r76_8 (tab : Tab) (s : S) : exR (EV tab) rg76_8 s = norm (runS (E := EV tab) (callR (EV tab)) (roundR (EV tab)) p76_8 s) := exR_plan (by kernel_rfl) s
noncomputable def rg76_9 : Code := regAt Tryz.f76 9
def p76_9 : List Pl :=
 [.op ⟨some 4, .assign (.const (.bool false)), none⟩]
theorem r76_9 (tab : Tab) (s : S) : exR (EV tab) rg76_9 s = norm (runS (E := EV tab) (callR (EV tab)) (roundR (EV tab)) p76_9 s) := exR_plan (by kernel_rfl) s
noncomputable def b76 : Code := (.seq rg76_0 (.seq (.seq rg76_1 (.block 0 (.loop (.seq rg76_2 (.seq (.cond (Operand.tmp 12) .skip (Code.exit 0)) (.block 1 (.seq rg76_3 (.seq rg76_4 (.block 2 (.loop (.seq rg76_5 (.seq (.cond (Operand.tmp 17) .skip (Code.exit 2)) (.block 3 (.seq rg76_6 (.seq rg76_7 (.cond (Operand.tmp 21) (.seq rg76_8 .ret) .skip)))))))))))))))) (.seq rg76_9 .ret)))
theorem enter76 (tab : Tab) (args : List Value) (h : H) (hx : callExt (EV tab) 76 args = none) (hl : Nat.ble args.length 22 = true) : callR (EV tab) 76 args h = finish (EV tab) [ResultVar.tmp 4] (exR (EV tab) b76 ⟨false, 22, ofArgs args 0 .leaf, h⟩) :=
  callR_enter (F := Tryz.f76) (c := b76) (by kernel_rfl) hx (by kernel_rfl) (by kernel_rfl) hl
def fF76 := And.intro @p76_0.eq_1 <| And.intro @r76_0 <| And.intro @p76_1.eq_1 <| And.intro @r76_1 <| And.intro @p76_2.eq_1 <| And.intro @r76_2 <| And.intro @p76_3.eq_1 <| And.intro @r76_3 <| And.intro @p76_4.eq_1 <| And.intro @r76_4 <| And.intro @p76_5.eq_1 <| And.intro @r76_5 <| And.intro @p76_6.eq_1 <| And.intro @r76_6 <| And.intro @p76_7.eq_1 <| And.intro @r76_7 <| And.intro @p76_8.eq_1 <| And.intro @r76_8 <| And.intro @p76_9.eq_1 <| And.intro @r76_9 <| @b76.eq_1
/- (bowline/stackmachine.kind).uses -/
noncomputable def rg50_0 : Code := regAt Tryz.f50 0
def p50_0 : List Pl :=
 [.op ⟨some 2, .box 90 (.tmp 0), none⟩,
 .op ⟨some 4, .assign (.const (.bool false)), none⟩]
theorem r50_0 (tab : Tab) (s : S) : exR (EV tab) rg50_0 s = norm (runS (E := EV tab) (callR (EV tab)) (roundR (EV tab)) p50_0 s) := exR_plan (by kernel_rfl) s
noncomputable def rg50_1 : Code := regAt Tryz.f50 1
def p50_1 : List Pl :=
 [.op ⟨some 5, .fieldAddr 90 (.tmp 2) 1, none⟩,
 .op ⟨some 6, .load 9 (.tmp 5), none⟩,
 .op ⟨some 7, .move (.tmp 1), none⟩,
 .op ⟨some 8, .call (.mk (.value (.func 76)) #[(.tmp 6), (.tmp 7)] #[9,9]), none⟩,
 .op ⟨some 4, .assign (.tmp 8), none⟩]
theorem r50_1 (tab : Tab) (s : S) : exR (EV tab) rg50_1 s = norm (runS (E := EV tab) (callR (EV tab)) (roundR (EV tab)) p50_1 s) := exR_plan (by kernel_rfl) s
noncomputable def b50 : Code := (.seq rg50_0 (.seq rg50_1 .ret))
theorem enter50 (tab : Tab) (args : List Value) (h : H) (hx : callExt (EV tab) 50 args = none) (hl : Nat.ble args.length 9 = true) : callR (EV tab) 50 args h = finish (EV tab) [ResultVar.tmp 4] (exR (EV tab) b50 ⟨false, 9, ofArgs args 0 .leaf, h⟩) :=
  callR_enter (F := Tryz.f50) (c := b50) (by kernel_rfl) hx (by kernel_rfl) (by kernel_rfl) hl
def fF50 := And.intro @p50_0.eq_1 <| And.intro @r50_0 <| And.intro @p50_1.eq_1 <| And.intro @r50_1 <| @b50.eq_1
/- bowline/stackmachine.when -/
noncomputable def rg38_0 : Code := regAt Tryz.f38 0
def p38_0 : List Pl :=
 [.op ⟨some 4, .assign (.const (.int .i64 0)), none⟩]
theorem r38_0 (tab : Tab) (s : S) : exR (EV tab) rg38_0 s = norm (runS (E := EV tab) (callR (EV tab)) (roundR (EV tab)) p38_0 s) := exR_plan (by kernel_rfl) s
noncomputable def rg38_1 : Code := regAt Tryz.f38 1
def p38_1 : List Pl :=
 [.op ⟨some 5, .move (.tmp 0), none⟩]
theorem r38_1 (tab : Tab) (s : S) : exR (EV tab) rg38_1 s = norm (runS (E := EV tab) (callR (EV tab)) (roundR (EV tab)) p38_1 s) := exR_plan (by kernel_rfl) s
noncomputable def rg38_2 : Code := regAt Tryz.f38 2
def p38_2 : List Pl :=
 [.op ⟨some 6, .move (.tmp 1), none⟩,
 .op ⟨some 4, .assign (.tmp 6), none⟩]
theorem r38_2 (tab : Tab) (s : S) : exR (EV tab) rg38_2 s = norm (runS (E := EV tab) (callR (EV tab)) (roundR (EV tab)) p38_2 s) := exR_plan (by kernel_rfl) s
noncomputable def rg38_3 : Code := regAt Tryz.f38 3
def p38_3 : List Pl :=
 [.op ⟨some 4, .assign (.const (.int .i64 0)), none⟩]
theorem r38_3 (tab : Tab) (s : S) : exR (EV tab) rg38_3 s = norm (runS (E := EV tab) (callR (EV tab)) (roundR (EV tab)) p38_3 s) := exR_plan (by kernel_rfl) s
noncomputable def b38 : Code := (.seq rg38_0 (.seq (.seq rg38_1 (.cond (Operand.tmp 5) (.seq rg38_2 .ret) .skip)) (.seq rg38_3 .ret)))
theorem enter38 (tab : Tab) (args : List Value) (h : H) (hx : callExt (EV tab) 38 args = none) (hl : Nat.ble args.length 7 = true) : callR (EV tab) 38 args h = finish (EV tab) [ResultVar.tmp 4] (exR (EV tab) b38 ⟨false, 7, ofArgs args 0 .leaf, h⟩) :=
  callR_enter (F := Tryz.f38) (c := b38) (by kernel_rfl) hx (by kernel_rfl) (by kernel_rfl) hl
def fF38 := And.intro @p38_0.eq_1 <| And.intro @r38_0 <| And.intro @p38_1.eq_1 <| And.intro @r38_1 <| And.intro @p38_2.eq_1 <| And.intro @r38_2 <| And.intro @p38_3.eq_1 <| And.intro @r38_3 <| @b38.eq_1
/- bowline/stackmachine.first -/
noncomputable def rg32_0 : Code := regAt Tryz.f32 0
def p32_0 : List Pl :=
 [.op ⟨some 2, .assign (.const (.int .i64 0)), none⟩]
theorem r32_0 (tab : Tab) (s : S) : exR (EV tab) rg32_0 s = norm (runS (E := EV tab) (callR (EV tab)) (roundR (EV tab)) p32_0 s) := exR_plan (by kernel_rfl) s
noncomputable def rg32_1 : Code := regAt Tryz.f32 1
def p32_1 : List Pl :=
 [.op ⟨some 5, .move (.tmp 0), none⟩,
 .op ⟨some 6, .call (.mk (.builtin .len) #[(.tmp 5)] #[103]), none⟩,
 .op ⟨some 7, .move (.const (.int .i64 0)), none⟩]
theorem r32_1 (tab : Tab) (s : S) : exR (EV tab) rg32_1 s = norm (runS (E := EV tab) (callR (EV tab)) (roundR (EV tab)) p32_1 s) := exR_plan (by kernel_rfl) s
noncomputable def rg32_2 : Code := regAt Tryz.f32 2
def p32_2 : List Pl :=
 [.op ⟨some 8, .binOp .lss 3 (.tmp 7) (.tmp 6) 3, none⟩]
theorem r32_2 (tab : Tab) (s : S) : exR (EV tab) rg32_2 s = norm (runS (E := EV tab) (callR (EV tab)) (roundR (EV tab)) p32_2 s) := exR_plan (by kernel_rfl) s
noncomputable def rg32_3 : Code := regAt Tryz.f32 3
def p32_3 : List Pl :=
 [.op ⟨some 9, .indexAddr 103 (.tmp 5) (.tmp 7), none⟩,
 .op ⟨some 10, .load 26 (.tmp 9), none⟩,
 .op ⟨some 4, .assign (.tmp 10), none⟩]
theorem r32_3 (tab : Tab) (s : S) : exR (EV tab) rg32_3 s = norm (runS (E := EV tab) (callR (EV tab)) (roundR (EV tab)) p32_3 s) := exR_plan (by kernel_rfl) s
noncomputable def rg32_4 : Code := regAt Tryz.f32 4
def p32_4 : List Pl :=
 [.op ⟨some 11, .move (.tmp 4), none⟩,
 .op ⟨some 12, .binOp .neq 26 (.tmp 11) (.const (.int .i64 0)) 26, none⟩]
theorem r32_4 (tab : Tab) (s : S) : exR (EV tab) rg32_4 s = norm (runS (E := EV tab) (callR (EV tab)) (roundR (EV tab)) p32_4 s) := exR_plan (by kernel_rfl) s
noncomputable def rg32_5 : Code := regAt Tryz.f32 5
def p32_5 : List Pl :=
 [.op ⟨some 13, .move (.tmp 4), none⟩,
 .op ⟨some 2, .assign (.tmp 13), none⟩]
theorem r32_5 (tab : Tab) (s : S) : exR (EV tab) rg32_5 s = norm (runS (E := EV tab) (callR (EV tab)) (roundR (EV tab)) p32_5 s) := exR_plan (by kernel_rfl) s
noncomputable def rg32_6 : Code := regAt Tryz.f32 6
def p32_6 : List Pl :=
 [.op ⟨some 14, .binOp .add 3 (.tmp 7) (.const (.int .i64 1)) 3, none⟩,
 .op ⟨some 7, .move (.tmp 14), none⟩]
theorem r32_6 (tab : Tab) (s : S) : exR (EV tab) rg32_6 s = norm (runS (E := EV tab) (callR (EV tab)) (roundR (EV tab)) p32_6 s) := exR_plan (by kernel_rfl) s
noncomputable def rg32_7 : Code := regAt Tryz.f32 7
def p32_7 : List Pl :=
 [.op ⟨some 2, .assign (.const (.int .i64 0)), none⟩]
theorem r32_7 (tab : Tab) (s : S) : exR (EV tab) rg32_7 s = norm (runS (E := EV tab) (callR (EV tab)) (roundR (EV tab)) p32_7 s) := exR_plan (by kernel_rfl) s
noncomputable def b32 : Code := (.seq rg32_0 (.seq (.seq rg32_1 (.block 0 (.loop (.seq rg32_2 (.seq (.cond (Operand.tmp 8) .skip (Code.exit 0)) (.seq (.block 1 (.seq rg32_3 (.seq rg32_4 (.cond (Operand.tmp 12) (.seq rg32_5 .ret) .skip)))) rg32_6)))))) (.seq rg32_7 .ret)))
theorem enter32 (tab : Tab) (args : List Value) (h : H) (hx : callExt (EV tab) 32 args = none) (hl : Nat.ble args.length 15 = true) : callR (EV tab) 32 args h = finish (EV tab) [ResultVar.tmp 2] (exR (EV tab) b32 ⟨false, 15, ofArgs args 0 .leaf, h⟩) :=
  callR_enter (F := Tryz.f32) (c := b32) (by kernel_rfl) hx (by kernel_rfl) (by kernel_rfl) hl
def fF32 := And.intro @p32_0.eq_1 <| And.intro @r32_0 <| And.intro @p32_1.eq_1 <| And.intro @r32_1 <| And.intro @p32_2.eq_1 <| And.intro @r32_2 <| And.intro @p32_3.eq_1 <| And.intro @r32_3 <| And.intro @p32_4.eq_1 <| And.intro @r32_4 <| And.intro @p32_5.eq_1 <| And.intro @r32_5 <| And.intro @p32_6.eq_1 <| And.intro @r32_6 <| And.intro @p32_7.eq_1 <| And.intro @r32_7 <| @b32.eq_1
/- bowline/stackmachine.wrongType -/
noncomputable def rg49_0 : Code := regAt Tryz.f49 0
def p49_0 : List Pl :=
 [.op ⟨some 4, .assign (.const (.bool false)), none⟩]
theorem r49_0 (tab : Tab) (s : S) : exR (EV tab) rg49_0 s = norm (runS (E := EV tab) (callR (EV tab)) (roundR (EV tab)) p49_0 s) := exR_plan (by kernel_rfl) s
noncomputable def rg49_1 : Code := regAt Tryz.f49 1
def p49_1 : List Pl :=
 [.op ⟨some 8, .move (.tmp 0), none⟩,
 .op ⟨some 9, .call (.mk (.value (.func 52)) #[(.tmp 8)] #[9]), none⟩,
 .op ⟨some 7, .move (.tmp 9), none⟩,
 .op ⟨some 10, .extract (.tmp 7) 0, none⟩,
 .op ⟨some 11, .extract (.tmp 7) 1, none⟩,
 .op ⟨some 5, .assign (.tmp 10), none⟩,
 .op ⟨some 6, .assign (.tmp 11), none⟩]
theorem r49_1 (tab : Tab) (s : S) : exR (EV tab) rg49_1 s = norm (runS (E := EV tab) (callR (EV tab)) (roundR (EV tab)) p49_1 s) := exR_plan (by kernel_rfl) s
noncomputable def rg49_2 : Code := regAt Tryz.f49 2
def p49_2 : List Pl :=
 [.op ⟨some 12, .move (.tmp 6), none⟩,
 .op ⟨some 13, .binOp .neq 26 (.tmp 12) (.const (.int .i64 0)) 26, none⟩,
 .op ⟨some 14, .move (.tmp 13), none⟩,
 .op ⟨some 15, .move (.tmp 0), some (14, false)⟩,
 .op ⟨some 16, .binOp .neq 9 (.tmp 15) (.const (.string ⟨#[]⟩)) 9, some (14, false)⟩,
 .op ⟨some 17, .move (.tmp 1), some (14, false)⟩,
 .op ⟨some 18, .binOp .neq 4 (.tmp 16) (.tmp 17) 4, some (14, false)⟩,
 .op ⟨some 19, .pick (.tmp 14) (.const (.bool true)) (.tmp 18), none⟩,
 .op ⟨some 4, .assign (.tmp 19), none⟩]
theorem r49_2 (tab : Tab) (s : S) : exR (EV tab) rg49_2 s = norm (runS (E := EV tab) (callR (EV tab)) (roundR (EV tab)) p49_2 s) := exR_plan (by kernel_rfl) s
noncomputable def b49 : Code := (.seq rg49_0 (.seq rg49_1 (.seq rg49_2 .ret)))
theorem enter49 (tab : Tab) (args : List Value) (h : H) (hx : callExt (EV tab) 49 args = none) (hl : Nat.ble args.length 20 = true) : callR (EV tab) 49 args h = finish (EV tab) [ResultVar.tmp 4] (exR (EV tab) b49 ⟨false, 20, ofArgs args 0 .leaf, h⟩) :=
  callR_enter (F := Tryz.f49) (c := b49) (by kernel_rfl) hx (by kernel_rfl) (by kernel_rfl) hl
def fF49 := And.intro @p49_0.eq_1 <| And.intro @r49_0 <| And.intro @p49_1.eq_1 <| And.intro @r49_1 <| And.intro @p49_2.eq_1 <| And.intro @r49_2 <| @b49.eq_1
/- bowline/stackmachine.exists -/
noncomputable def rg51_0 : Code := regAt Tryz.f51 0
def p51_0 : List Pl :=
 [.op ⟨some 1, .box 41 (.tmp 0), none⟩,
 .op ⟨some 2, .assign (.const (.bool false)), none⟩]
theorem r51_0 (tab : Tab) (s : S) : exR (EV tab) rg51_0 s = norm (runS (E := EV tab) (callR (EV tab)) (roundR (EV tab)) p51_0 s) := exR_plan (by kernel_rfl) s
noncomputable def rg51_1 : Code := regAt Tryz.f51 1
def p51_1 : List Pl :=
 [.op ⟨some 6, .fieldAddr 41 (.tmp 1) 3, none⟩,
 .op ⟨some 7, .load 38 (.tmp 6), none⟩,
 .op ⟨some 8, .convert 38 3 (.tmp 7), none⟩,
 .op ⟨some 3, .assign (.tmp 8), none⟩]
theorem r51_1 (tab : Tab) (s : S) : exR (EV tab) rg51_1 s = norm (runS (E := EV tab) (callR (EV tab)) (roundR (EV tab)) p51_1 s) := exR_plan (by kernel_rfl) s
noncomputable def rg51_2 : Code := regAt Tryz.f51 2
def p51_2 : List Pl :=
 [.op ⟨some 10, .move (.tmp 3), none⟩,
 .op ⟨some 11, .call (.mk (.value (.func 77)) #[(.tmp 10)] #[3]), none⟩,
 .op ⟨some 9, .move (.tmp 11), none⟩,
 .op ⟨some 12, .extract (.tmp 9) 0, none⟩,
 .op ⟨some 13, .extract (.tmp 9) 1, none⟩,
 .op ⟨some 4, .assign (.tmp 12), none⟩,
 .op ⟨some 5, .assign (.tmp 13), none⟩]
theorem r51_2 (tab : Tab) (s : S) : exR (EV tab) rg51_2 s = norm (runS (E := EV tab) (callR (EV tab)) (roundR (EV tab)) p51_2 s) := exR_plan (by kernel_rfl) s
noncomputable def rg51_3 : Code := regAt Tryz.f51 3
def p51_3 : List Pl :=
 [.op ⟨some 14, .fieldAddr 41 (.tmp 1) 0, none⟩,
 .op ⟨some 15, .load 3 (.tmp 14), none⟩]
theorem r51_3 (tab : Tab) (s : S) : exR (EV tab) rg51_3 s = norm (runS (E := EV tab) (callR (EV tab)) (roundR (EV tab)) p51_3 s) := exR_plan (by kernel_rfl) s
noncomputable def rg51_4 : Code := regAt Tryz.f51 4
def p51_4 : List Pl :=
 [.op ⟨some 17, .binOp .eql 3 (.tmp 15) (.const (.int .i64 6)) 3, none⟩,
 .op ⟨some 16, .assign (.tmp 17), none⟩]
theorem r51_4 (tab : Tab) (s : S) : exR (EV tab) rg51_4 s = norm (runS (E := EV tab) (callR (EV tab)) (roundR (EV tab)) p51_4 s) := exR_plan (by kernel_rfl) s
noncomputable def rg51_5 : Code := regAt Tryz.f51 5
def p51_5 : List Pl :=
 [.op ⟨some 18, .move (.tmp 5), none⟩,
 .op ⟨some 19, .binOp .eql 26 (.tmp 18) (.const (.int .i64 0)) 26, none⟩,
 .op ⟨some 20, .move (.tmp 19), none⟩,
 .op ⟨some 21, .move (.tmp 4), some (20, true)⟩,
 .op ⟨some 22, .binOp .eql 3 (.tmp 21) (.const (.int .i64 1)) 3, some (20, true)⟩,
 .op ⟨some 23, .pick (.tmp 20) (.tmp 22) (.const (.bool false)), none⟩,
 .op ⟨some 24, .move (.tmp 23), none⟩,
 .op ⟨some 25, .move (.tmp 3), some (24, true)⟩,
 .op ⟨some 26, .fieldAddr 41 (.tmp 1) 1, some (24, true)⟩,
 .op ⟨some 27, .load 9 (.tmp 26), some (24, true)⟩,
 .op ⟨some 28, .call (.mk (.value (.func 78)) #[(.tmp 25), (.tmp 27)] #[3,9]), some (24, true)⟩,
 .op ⟨some 29, .pick (.tmp 24) (.tmp 28) (.const (.bool false)), none⟩,
 .op ⟨some 2, .assign (.tmp 29), none⟩]
theorem r51_5 (tab : Tab) (s : S) : exR (EV tab) rg51_5 s = norm (runS (E := EV tab) (callR (EV tab)) (roundR (EV tab)) p51_5 s) := exR_plan (by kernel_rfl) s
noncomputable def rg51_6 : Code := regAt Tryz.f51 6
def p51_6 : List Pl :=
 [.op ⟨some 31, .binOp .eql 3 (.tmp 15) (.const (.int .i64 7)) 3, none⟩,
 .op ⟨some 30, .assign (.tmp 31), none⟩]
theorem r51_6 (tab : Tab) (s : S) : exR (EV tab) rg51_6 s = norm (runS (E := EV tab) (callR (EV tab)) (roundR (EV tab)) p51_6 s) := exR_plan (by kernel_rfl) s
noncomputable def rg51_7 : Code := regAt Tryz.f51 7
def p51_7 : List Pl :=
 [.op ⟨some 32, .move (.tmp 5), none⟩,
 .op ⟨some 33, .binOp .eql 26 (.tmp 32) (.const (.int .i64 0)) 26, none⟩,
 .op ⟨some 34, .move (.tmp 33), none⟩,
 .op ⟨some 35, .move (.tmp 4), some (34, true)⟩,
 .op ⟨some 36, .binOp .eql 3 (.tmp 35) (.const (.int .i64 2)) 3, some (34, true)⟩,
 .op ⟨some 37, .move (.tmp 36), some (34, true)⟩,
 .op ⟨some 38, .move (.tmp 4), some (37, false)⟩,
 .op ⟨some 39, .binOp .eql 3 (.tmp 38) (.const (.int .i64 3)) 3, some (37, false)⟩,
 .op ⟨some 40, .pick (.tmp 37) (.const (.bool true)) (.tmp 39), some (34, true)⟩,
 .op ⟨some 41, .pick (.tmp 34) (.tmp 40) (.const (.bool false)), none⟩,
 .op ⟨some 42, .move (.tmp 41), none⟩,
 .op ⟨some 43, .move (.tmp 3), some (42, true)⟩,
 .op ⟨some 44, .fieldAddr 41 (.tmp 1) 1, some (42, true)⟩,
 .op ⟨some 45, .load 9 (.tmp 44), some (42, true)⟩,
 .op ⟨some 46, .call (.mk (.value (.func 78)) #[(.tmp 43), (.tmp 45)] #[3,9]), some (42, true)⟩,
 .op ⟨some 47, .pick (.tmp 42) (.tmp 46) (.const (.bool false)), none⟩,
 .op ⟨some 2, .assign (.tmp 47), none⟩]
theorem r51_7 (tab : Tab) (s : S) : exR (EV tab) rg51_7 s = norm (runS (E := EV tab) (callR (EV tab)) (roundR (EV tab)) p51_7 s) := exR_plan (by kernel_rfl) s
noncomputable def rg51_8 : Code := regAt Tryz.f51 8
def p51_8 : List Pl :=
 [.op ⟨some 49, .binOp .eql 3 (.tmp 15) (.const (.int .i64 8)) 3, none⟩,
 .op ⟨some 48, .assign (.tmp 49), none⟩]
theorem r51_8 (tab : Tab) (s : S) : exR (EV tab) rg51_8 s = norm (runS (E := EV tab) (callR (EV tab)) (roundR (EV tab)) p51_8 s) := exR_plan (by kernel_rfl) s
noncomputable def rg51_9 : Code := regAt Tryz.f51 9
def p51_9 : List Pl :=
 [.op ⟨some 50, .move (.tmp 5), none⟩,
 .op ⟨some 51, .binOp .eql 26 (.tmp 50) (.const (.int .i64 0)) 26, none⟩,
 .op ⟨some 52, .move (.tmp 51), none⟩,
 .op ⟨some 53, .move (.tmp 4), some (52, true)⟩,
 .op ⟨some 54, .binOp .eql 3 (.tmp 53) (.const (.int .i64 4)) 3, some (52, true)⟩,
 .op ⟨some 55, .pick (.tmp 52) (.tmp 54) (.const (.bool false)), none⟩,
 .op ⟨some 56, .move (.tmp 55), none⟩,
 .op ⟨some 57, .move (.tmp 3), some (56, true)⟩,
 .op ⟨some 58, .fieldAddr 41 (.tmp 1) 1, some (56, true)⟩,
 .op ⟨some 59, .load 9 (.tmp 58), some (56, true)⟩,
 .op ⟨some 60, .fieldAddr 41 (.tmp 1) 2, some (56, true)⟩,
 .op ⟨some 61, .load 9 (.tmp 60), some (56, true)⟩,
 .op ⟨some 62, .call (.mk (.value (.func 79)) #[(.tmp 57), (.tmp 59), (.tmp 61)] #[3,9,9]), some (56, true)⟩,
 .op ⟨some 63, .pick (.tmp 56) (.tmp 62) (.const (.bool false)), none⟩,
 .op ⟨some 2, .assign (.tmp 63), none⟩]
theorem r51_9 (tab : Tab) (s : S) : exR (EV tab) rg51_9 s = norm (runS (E := EV tab) (callR (EV tab)) (roundR (EV tab)) p51_9 s) := exR_plan (by kernel_rfl) s
noncomputable def rg51_10 : Code := regAt Tryz.f51 10
def p51_10 : List Pl :=
 [.op ⟨some 2, .assign (.const (.bool true)), none⟩]
theorem r51_10 (tab : Tab) (s : S) : exR (EV tab) rg51_10 s = norm (runS (E := EV tab) (callR (EV tab)) (roundR (EV tab)) p51_10 s) := exR_plan (by kernel_rfl) s
noncomputable def b51 : Code := (.seq rg51_0 (.seq rg51_1 (.seq rg51_2 (.seq (.seq rg51_3 (.block 0 (.seq rg51_4 (.cond (Operand.tmp 16) (.seq rg51_5 .ret) (.seq rg51_6 (.cond (Operand.tmp 30) (.seq rg51_7 .ret) (.seq rg51_8 (.cond (Operand.tmp 48) (.seq rg51_9 .ret) .skip)))))))) (.seq rg51_10 .ret)))))
theorem enter51 (tab : Tab) (args : List Value) (h : H) (hx : callExt (EV tab) 51 args = none) (hl : Nat.ble args.length 64 = true) : callR (EV tab) 51 args h = finish (EV tab) [ResultVar.tmp 2] (exR (EV tab) b51 ⟨false, 64, ofArgs args 0 .leaf, h⟩) :=
  callR_enter (F := Tryz.f51) (c := b51) (by kernel_rfl) hx (by kernel_rfl) (by kernel_rfl) hl
def fF51 := And.intro @p51_0.eq_1 <| And.intro @r51_0 <| And.intro @p51_1.eq_1 <| And.intro @r51_1 <| And.intro @p51_2.eq_1 <| And.intro @r51_2 <| And.intro @p51_3.eq_1 <| And.intro @r51_3 <| And.intro @p51_4.eq_1 <| And.intro @r51_4 <| And.intro @p51_5.eq_1 <| And.intro @r51_5 <| And.intro @p51_6.eq_1 <| And.intro @r51_6 <| And.intro @p51_7.eq_1 <| And.intro @r51_7 <| And.intro @p51_8.eq_1 <| And.intro @r51_8 <| And.intro @p51_9.eq_1 <| And.intro @r51_9 <| And.intro @p51_10.eq_1 <| And.intro @r51_10 <| @b51.eq_1
/- bowline/stackmachine.Check -/
noncomputable def rg31_0 : Code := regAt Tryz.f31 0
def p31_0 : List Pl :=
 [.op ⟨some 1, .box 41 (.tmp 0), none⟩,
 .op ⟨some 2, .assign (.const (.int .i64 0)), none⟩]
theorem r31_0 (tab : Tab) (s : S) : exR (EV tab) rg31_0 s = norm (runS (E := EV tab) (callR (EV tab)) (roundR (EV tab)) p31_0 s) := exR_plan (by kernel_rfl) s
noncomputable def rg31_1 : Code := regAt Tryz.f31 1
def p31_1 : List Pl :=
 [.op ⟨some 8, .fieldAddr 41 (.tmp 1) 0, none⟩,
 .op ⟨some 9, .load 3 (.tmp 8), none⟩,
 .op ⟨some 10, .call (.mk (.value (.func 27)) #[(.tmp 9)] #[3]), none⟩,
 .op ⟨some 7, .move (.tmp 10), none⟩,
 .op ⟨some 11, .extract (.tmp 7) 0, none⟩,
 .op ⟨some 12, .extract (.tmp 7) 1, none⟩,
 .op ⟨some 3, .alloc 90, none⟩,
 .op ⟨none, .store 90 (.tmp 3) (.tmp 11), none⟩,
 .op ⟨some 4, .assign (.tmp 12), none⟩]
theorem r31_1 (tab : Tab) (s : S) : exR (EV tab) rg31_1 s = norm (runS (E := EV tab) (callR (EV tab)) (roundR (EV tab)) p31_1 s) := exR_plan (by kernel_rfl) s
noncomputable def rg31_2 : Code := regAt Tryz.f31 2
def p31_2 : List Pl :=
 [.op ⟨some 13, .move (.tmp 4), none⟩,
 .op ⟨some 14, .unOp .not 4 (.tmp 13), none⟩]
theorem r31_2 (tab : Tab) (s : S) : exR (EV tab) rg31_2 s = norm (runS (E := EV tab) (callR (EV tab)) (roundR (EV tab)) p31_2 s) := exR_plan (by kernel_rfl) s
noncomputable def rg31_3 : Code := regAt Tryz.f31 3
def p31_3 : List Pl :=
 [.op ⟨some 2, .assign (.const (.int .i64 11)), none⟩]
theorem r31_3 (tab : Tab) (s : S) : exR (EV tab) rg31_3 s = norm (runS (E := EV tab) (callR (EV tab)) (roundR (EV tab)) p31_3 s) := exR_plan (by kernel_rfl) s
noncomputable def rg31_4 : Code := regAt Tryz.f31 4
def p31_4 : List Pl :=
 [.op ⟨some 15, .fieldAddr 41 (.tmp 1) 1, none⟩,
 .op ⟨some 16, .load 9 (.tmp 15), none⟩,
 .op ⟨some 17, .load 90 (.tmp 3), none⟩,
 .chk [⟨some 16, .load 9 (.tmp 15), none⟩, ⟨some 17, .load 90 (.tmp 3), none⟩],
 .op ⟨some 18, .call (.mk (.value (.func 50)) #[(.tmp 17), (.const (.string ⟨#[84]⟩))] #[90,9]), none⟩,
 .chk [⟨some 16, .load 9 (.tmp 15), none⟩],
 .op ⟨some 19, .call (.mk (.value (.func 49)) #[(.tmp 16), (.tmp 18)] #[9,4]), none⟩,
 .op ⟨some 20, .move (.tmp 19), none⟩,
 .op ⟨some 21, .fieldAddr 41 (.tmp 1) 2, some (20, false)⟩,
 .op ⟨some 22, .load 9 (.tmp 21), some (20, false)⟩,
 .op ⟨some 23, .load 90 (.tmp 3), some (20, false)⟩,
 .chk [⟨some 22, .load 9 (.tmp 21), some (20, false)⟩, ⟨some 23, .load 90 (.tmp 3), some (20, false)⟩],
 .op ⟨some 24, .call (.mk (.value (.func 50)) #[(.tmp 23), (.const (.string ⟨#[85]⟩))] #[90,9]), some (20, false)⟩,
 .chk [⟨some 22, .load 9 (.tmp 21), some (20, false)⟩],
 .op ⟨some 25, .call (.mk (.value (.func 49)) #[(.tmp 22), (.tmp 24)] #[9,4]), some (20, false)⟩,
 .op ⟨some 26, .pick (.tmp 20) (.const (.bool true)) (.tmp 25), none⟩,
 .op ⟨some 5, .assign (.tmp 26), none⟩,
 .chk []]
theorem r31_4 (tab : Tab) (s : S) : exR (EV tab) rg31_4 s = norm (runS (E := EV tab) (callR (EV tab)) (roundR (EV tab)) p31_4 s) := exR_plan (by kernel_rfl) s
noncomputable def rg31_5 : Code := regAt Tryz.f31 5
def p31_5 : List Pl :=
 [.op ⟨some 27, .fieldAddr 41 (.tmp 1) 3, none⟩,
 .op ⟨some 28, .load 38 (.tmp 27), none⟩,
 .op ⟨some 29, .binOp .neq 38 (.tmp 28) (.const (.int .u64 0)) 38, none⟩,
 .op ⟨some 30, .move (.tmp 29), none⟩,
 .op ⟨some 31, .load 90 (.tmp 3), some (30, true)⟩,
 .op ⟨some 32, .call (.mk (.value (.func 50)) #[(.tmp 31), (.const (.string ⟨#[110,119,76]⟩))] #[90,9]), some (30, true)⟩,
 .op ⟨some 33, .unOp .not 4 (.tmp 32), some (30, true)⟩,
 .op ⟨some 34, .pick (.tmp 30) (.tmp 33) (.const (.bool false)), none⟩,
 .op ⟨some 35, .move (.tmp 34), none⟩,
 .op ⟨some 36, .fieldAddr 41 (.tmp 1) 4, some (35, false)⟩,
 .op ⟨some 37, .load 3 (.tmp 36), some (35, false)⟩,
 .op ⟨some 38, .binOp .neq 3 (.tmp 37) (.const (.int .i64 0)) 3, some (35, false)⟩,
 .op ⟨some 39, .move (.tmp 38), some (35, false)⟩,
 .op ⟨some 40, .load 90 (.tmp 3), some (39, true)⟩,
 .op ⟨some 41, .call (.mk (.value (.func 50)) #[(.tmp 40), (.const (.string ⟨#[115,100,80]⟩))] #[90,9]), some (39, true)⟩,
 .op ⟨some 42, .unOp .not 4 (.tmp 41), some (39, true)⟩,
 .op ⟨some 43, .pick (.tmp 39) (.tmp 42) (.const (.bool false)), some (35, false)⟩,
 .op ⟨some 44, .pick (.tmp 35) (.const (.bool true)) (.tmp 43), none⟩,
 .op ⟨some 45, .move (.tmp 44), none⟩,
 .op ⟨some 46, .fieldAddr 41 (.tmp 1) 5, some (45, false)⟩,
 .op ⟨some 47, .load 3 (.tmp 46), some (45, false)⟩,
 .op ⟨some 48, .binOp .neq 3 (.tmp 47) (.const (.int .i64 0)) 3, some (45, false)⟩,
 .op ⟨some 49, .move (.tmp 48), some (45, false)⟩,
 .op ⟨some 50, .load 90 (.tmp 3), some (49, true)⟩,
 .op ⟨some 51, .call (.mk (.value (.func 50)) #[(.tmp 50), (.const (.string ⟨#[70]⟩))] #[90,9]), some (49, true)⟩,
 .op ⟨some 52, .unOp .not 4 (.tmp 51), some (49, true)⟩,
 .op ⟨some 53, .pick (.tmp 49) (.tmp 52) (.const (.bool false)), some (45, false)⟩,
 .op ⟨some 54, .pick (.tmp 45) (.const (.bool true)) (.tmp 53), none⟩,
 .op ⟨some 6, .assign (.tmp 54), none⟩]
theorem r31_5 (tab : Tab) (s : S) : exR (EV tab) rg31_5 s = norm (runS (E := EV tab) (callR (EV tab)) (roundR (EV tab)) p31_5 s) := exR_plan (by kernel_rfl) s
noncomputable def rg31_6 : Code := regAt Tryz.f31 6
def p31_6 : List Pl :=
 [.op ⟨some 55, .move (.tmp 5), none⟩,
 .op ⟨some 57, .move (.tmp 6), none⟩,
 .op ⟨some 59, .fieldAddr 90 (.tmp 3) 3, none⟩,
 .op ⟨some 60, .load 88 (.tmp 59), none⟩,
 .op ⟨some 61, .load 41 (.tmp 1), none⟩,
 .op ⟨some 65, .load 41 (.tmp 1), none⟩,
 .chk [⟨some 60, .load 88 (.tmp 59), none⟩, ⟨some 61, .load 41 (.tmp 1), none⟩, ⟨some 65, .load 41 (.tmp 1), none⟩],
 .op ⟨some 56, .call (.mk (.value (.func 38)) #[(.tmp 55), (.const (.int .i64 12))] #[4,26]), none⟩,
 .chk [⟨some 60, .load 88 (.tmp 59), none⟩, ⟨some 61, .load 41 (.tmp 1), none⟩, ⟨some 65, .load 41 (.tmp 1), none⟩],
 .op ⟨some 58, .call (.mk (.value (.func 38)) #[(.tmp 57), (.const (.int .i64 1))] #[4,26]), none⟩,
 .chk [⟨some 60, .load 88 (.tmp 59), none⟩, ⟨some 61, .load 41 (.tmp 1), none⟩, ⟨some 65, .load 41 (.tmp 1), none⟩],
 .op ⟨some 62, .call (.mk (.value (.tmp 60)) #[(.tmp 61)] #[41]), none⟩,
 .op ⟨some 63, .unOp .not 4 (.tmp 62), none⟩,
 .chk [⟨some 65, .load 41 (.tmp 1), none⟩],
 .op ⟨some 64, .call (.mk (.value (.func 38)) #[(.tmp 63), (.const (.int .i64 3))] #[4,26]), none⟩,
 .chk [⟨some 65, .load 41 (.tmp 1), none⟩],
 .op ⟨some 66, .call (.mk (.value (.func 51)) #[(.tmp 65)] #[41]), none⟩,
 .op ⟨some 67, .unOp .not 4 (.tmp 66), none⟩,
 .chk [],
 .op ⟨some 68, .call (.mk (.value (.func 38)) #[(.tmp 67), (.const (.int .i64 11))] #[4,26]), none⟩,
 .op ⟨some 69, .buildSlice 103 4 #[(0, (.tmp 56)), (1, (.tmp 58)), (2, (.tmp 64)), (3, (.tmp 68))], none⟩,
 .chk [],
 .op ⟨some 70, .call (.mk (.value (.func 32)) #[(.tmp 69)] #[103]), none⟩,
 .op ⟨some 2, .assign (.tmp 70), none⟩,
 .chk []]
theorem r31_6 (tab : Tab) (s : S) : exR (EV tab) rg31_6 s = norm (runS (E := EV tab) (callR (EV tab)) (roundR (EV tab)) p31_6 s) := exR_plan (by kernel_rfl) s
noncomputable def b31 : Code := (.seq rg31_0 (.seq rg31_1 (.seq (.seq rg31_2 (.cond (Operand.tmp 14) (.seq rg31_3 .ret) .skip)) (.seq rg31_4 (.seq rg31_5 (.seq rg31_6 .ret))))))
theorem enter31 (tab : Tab) (args : List Value) (h : H) (hx : callExt (EV tab) 31 args = none) (hl : Nat.ble args.length 71 = true) : callR (EV tab) 31 args h = finish (EV tab) [ResultVar.tmp 2] (exR (EV tab) b31 ⟨false, 71, ofArgs args 0 .leaf, h⟩) :=
  callR_enter (F := Tryz.f31) (c := b31) (by kernel_rfl) hx (by kernel_rfl) (by kernel_rfl) hl
def fF31 := And.intro @p31_0.eq_1 <| And.intro @r31_0 <| And.intro @p31_1.eq_1 <| And.intro @r31_1 <| And.intro @p31_2.eq_1 <| And.intro @r31_2 <| And.intro @p31_3.eq_1 <| And.intro @r31_3 <| And.intro @p31_4.eq_1 <| And.intro @r31_4 <| And.intro @p31_5.eq_1 <| And.intro @r31_5 <| And.intro @p31_6.eq_1 <| And.intro @r31_6 <| @b31.eq_1
/- bowline/stackmachine.below -/
noncomputable def rg69_0 : Code := regAt Tryz.f69 0
def p69_0 : List Pl :=
 [.op ⟨some 1, .box 38 (.tmp 0), none⟩,
 .op ⟨some 2, .assign (.const .nilFunc), none⟩]
theorem r69_0 (tab : Tab) (s : S) : exR (EV tab) rg69_0 s = norm (runS (E := EV tab) (callR (EV tab)) (roundR (EV tab)) p69_0 s) := exR_plan (by kernel_rfl) s
noncomputable def rg69_1 : Code := regAt Tryz.f69 1
def p69_1 : List Pl :=
 [.op ⟨some 3, .makeFunc (Fn.func 89) #[] #[(.tmp 1)], none⟩,
 .op ⟨some 2, .assign (.tmp 3), none⟩]
theorem r69_1 (tab : Tab) (s : S) : exR (EV tab) rg69_1 s = norm (runS (E := EV tab) (callR (EV tab)) (roundR (EV tab)) p69_1 s) := exR_plan (by kernel_rfl) s
noncomputable def b69 : Code := (.seq rg69_0 (.seq rg69_1 .ret))
theorem enter69 (tab : Tab) (args : List Value) (h : H) (hx : callExt (EV tab) 69 args = none) (hl : Nat.ble args.length 4 = true) : callR (EV tab) 69 args h = finish (EV tab) [ResultVar.tmp 2] (exR (EV tab) b69 ⟨false, 4, ofArgs args 0 .leaf, h⟩) :=
  callR_enter (F := Tryz.f69) (c := b69) (by kernel_rfl) hx (by kernel_rfl) (by kernel_rfl) hl
def fF69 := And.intro @p69_0.eq_1 <| And.intro @r69_0 <| And.intro @p69_1.eq_1 <| And.intro @r69_1 <| @b69.eq_1
/- bowline/stackmachine.below$1 -/
noncomputable def rg89_0 : Code := regAt Tryz.f89 0
def p89_0 : List Pl :=
 [.op ⟨some 2, .box 41 (.tmp 0), none⟩,
 .op ⟨some 3, .assign (.const (.bool false)), none⟩]
theorem r89_0 (tab : Tab) (s : S) : exR (EV tab) rg89_0 s = norm (runS (E := EV tab) (callR (EV tab)) (roundR (EV tab)) p89_0 s) := exR_plan (by kernel_rfl) s
noncomputable def rg89_1 : Code := regAt Tryz.f89 1
def p89_1 : List Pl :=
 [.op ⟨some 4, .fieldAddr 41 (.tmp 2) 3, none⟩,
 .op ⟨some 5, .load 38 (.tmp 4), none⟩,
 .op ⟨some 6, .load 38 (.tmp 1), none⟩,
 .op ⟨some 7, .binOp .leq 38 (.tmp 5) (.tmp 6) 38, none⟩,
 .op ⟨some 3, .assign (.tmp 7), none⟩]
theorem r89_1 (tab : Tab) (s : S) : exR (EV tab) rg89_1 s = norm (runS (E := EV tab) (callR (EV tab)) (roundR (EV tab)) p89_1 s) := exR_plan (by kernel_rfl) s
noncomputable def b89 : Code := (.seq rg89_0 (.seq rg89_1 .ret))
theorem enter89 (tab : Tab) (args : List Value) (h : H) (hx : callExt (EV tab) 89 args = none) (hl : Nat.ble args.length 8 = true) : callR (EV tab) 89 args h = finish (EV tab) [ResultVar.tmp 3] (exR (EV tab) b89 ⟨false, 8, ofArgs args 0 .leaf, h⟩) :=
  callR_enter (F := Tryz.f89) (c := b89) (by kernel_rfl) hx (by kernel_rfl) (by kernel_rfl) hl
def fF89 := And.intro @p89_0.eq_1 <| And.intro @r89_0 <| And.intro @p89_1.eq_1 <| And.intro @r89_1 <| @b89.eq_1
/- bowline/stackmachine.near -/
noncomputable def rg70_0 : Code := regAt Tryz.f70 0
def p70_0 : List Pl :=
 [.op ⟨some 1, .box 41 (.tmp 0), none⟩,
 .op ⟨some 2, .assign (.const (.bool false)), none⟩]
theorem r70_0 (tab : Tab) (s : S) : exR (EV tab) rg70_0 s = norm (runS (E := EV tab) (callR (EV tab)) (roundR (EV tab)) p70_0 s) := exR_plan (by kernel_rfl) s
noncomputable def rg70_1 : Code := regAt Tryz.f70 1
def p70_1 : List Pl :=
 [.op ⟨some 3, .fieldAddr 41 (.tmp 1) 4, none⟩,
 .op ⟨some 4, .load 3 (.tmp 3), none⟩,
 .op ⟨some 5, .binOp .geq 3 (.tmp 4) (.const (.int .i64 (-2147483648))) 3, none⟩,
 .op ⟨some 6, .move (.tmp 5), none⟩,
 .op ⟨some 7, .fieldAddr 41 (.tmp 1) 4, some (6, true)⟩,
 .op ⟨some 8, .load 3 (.tmp 7), some (6, true)⟩,
 .op ⟨some 9, .binOp .lss 3 (.tmp 8) (.const (.int .i64 2147483648)) 3, some (6, true)⟩,
 .op ⟨some 10, .pick (.tmp 6) (.tmp 9) (.const (.bool false)), none⟩,
 .op ⟨some 2, .assign (.tmp 10), none⟩]
theorem r70_1 (tab : Tab) (s : S) : exR (EV tab) rg70_1 s = norm (runS (E := EV tab) (callR (EV tab)) (roundR (EV tab)) p70_1 s) := exR_plan (by kernel_rfl) s
noncomputable def b70 : Code := (.seq rg70_0 (.seq rg70_1 .ret))
theorem enter70 (tab : Tab) (args : List Value) (h : H) (hx : callExt (EV tab) 70 args = none) (hl : Nat.ble args.length 11 = true) : callR (EV tab) 70 args h = finish (EV tab) [ResultVar.tmp 2] (exR (EV tab) b70 ⟨false, 11, ofArgs args 0 .leaf, h⟩) :=
  callR_enter (F := Tryz.f70) (c := b70) (by kernel_rfl) hx (by kernel_rfl) (by kernel_rfl) hl
def fF70 := And.intro @p70_0.eq_1 <| And.intro @r70_0 <| And.intro @p70_1.eq_1 <| And.intro @r70_1 <| @b70.eq_1
/- bowline/stackmachine.aligned -/
noncomputable def rg71_0 : Code := regAt Tryz.f71 0
def p71_0 : List Pl :=
 [.op ⟨some 1, .box 41 (.tmp 0), none⟩,
 .op ⟨some 2, .assign (.const (.bool false)), none⟩]
theorem r71_0 (tab : Tab) (s : S) : exR (EV tab) rg71_0 s = norm (runS (E := EV tab) (callR (EV tab)) (roundR (EV tab)) p71_0 s) := exR_plan (by kernel_rfl) s
noncomputable def rg71_1 : Code := regAt Tryz.f71 1
def p71_1 : List Pl :=
 [.op ⟨some 3, .buildSlice 58 5 #[(0, (.const (.int .u64 1))), (1, (.const (.int .u64 2))), (2, (.const (.int .u64 4))), (3, (.const (.int .u64 8))), (4, (.const (.int .u64 16)))], none⟩,
 .op ⟨some 4, .fieldAddr 41 (.tmp 1) 3, none⟩,
 .op ⟨some 5, .load 38 (.tmp 4), none⟩,
 .op ⟨some 6, .call (.mk (.value (.func 90)) #[(.tmp 3), (.tmp 5)] #[58,38]), none⟩,
 .op ⟨some 2, .assign (.tmp 6), none⟩]
theorem r71_1 (tab : Tab) (s : S) : exR (EV tab) rg71_1 s = norm (runS (E := EV tab) (callR (EV tab)) (roundR (EV tab)) p71_1 s) := exR_plan (by kernel_rfl) s
noncomputable def b71 : Code := (.seq rg71_0 (.seq rg71_1 .ret))
theorem enter71 (tab : Tab) (args : List Value) (h : H) (hx : callExt (EV tab) 71 args = none) (hl : Nat.ble args.length 7 = true) : callR (EV tab) 71 args h = finish (EV tab) [ResultVar.tmp 2] (exR (EV tab) b71 ⟨false, 7, ofArgs args 0 .leaf, h⟩) :=
  callR_enter (F := Tryz.f71) (c := b71) (by kernel_rfl) hx (by kernel_rfl) (by kernel_rfl) hl
def fF71 := And.intro @p71_0.eq_1 <| And.intro @r71_0 <| And.intro @p71_1.eq_1 <| And.intro @r71_1 <| @b71.eq_1
/- bowline/stackmachine.entered -/
noncomputable def rg72_0 : Code := regAt Tryz.f72 0
def p72_0 : List Pl :=
 [.op ⟨some 1, .box 41 (.tmp 0), none⟩,
 .op ⟨some 2, .assign (.const (.bool false)), none⟩]
theorem r72_0 (tab : Tab) (s : S) : exR (EV tab) rg72_0 s = norm (runS (E := EV tab) (callR (EV tab)) (roundR (EV tab)) p72_0 s) := exR_plan (by kernel_rfl) s
noncomputable def rg72_1 : Code := regAt Tryz.f72 1
def p72_1 : List Pl :=
 [.op ⟨some 3, .fieldAddr 41 (.tmp 1) 3, none⟩,
 .op ⟨some 4, .load 38 (.tmp 3), none⟩,
 .op ⟨some 5, .binOp .leq 38 (.tmp 4) (.const (.int .u64 9999)) 38, none⟩,
 .op ⟨some 6, .move (.tmp 5), none⟩,
 .op ⟨some 7, .fieldAddr 41 (.tmp 1) 4, some (6, true)⟩,
 .op ⟨some 8, .load 3 (.tmp 7), some (6, true)⟩,
 .op ⟨some 9, .binOp .geq 3 (.tmp 8) (.const (.int .i64 0)) 3, some (6, true)⟩,
 .op ⟨some 10, .pick (.tmp 6) (.tmp 9) (.const (.bool false)), none⟩,
 .op ⟨some 11, .move (.tmp 10), none⟩,
 .op ⟨some 12, .fieldAddr 41 (.tmp 1) 4, some (11, true)⟩,
 .op ⟨some 13, .load 3 (.tmp 12), some (11, true)⟩,
 .op ⟨some 14, .fieldAddr 41 (.tmp 1) 3, some (11, true)⟩,
 .op ⟨some 15, .load 38 (.tmp 14), some (11, true)⟩,
 .op ⟨some 16, .convert 38 3 (.tmp 15), some (11, true)⟩,
 .op ⟨some 17, .binOp .leq 3 (.tmp 13) (.tmp 16) 3, some (11, true)⟩,
 .op ⟨some 18, .pick (.tmp 11) (.tmp 17) (.const (.bool false)), none⟩,
 .op ⟨some 19, .move (.tmp 18), none⟩,
 .op ⟨some 20, .fieldAddr 41 (.tmp 1) 5, some (19, true)⟩,
 .op ⟨some 21, .load 3 (.tmp 20), some (19, true)⟩,
 .op ⟨some 22, .binOp .geq 3 (.tmp 21) (.const (.int .i64 0)) 3, some (19, true)⟩,
 .op ⟨some 23, .pick (.tmp 19) (.tmp 22) (.const (.bool false)), none⟩,
 .op ⟨some 24, .move (.tmp 23), none⟩,
 .op ⟨some 25, .fieldAddr 41 (.tmp 1) 5, some (24, true)⟩,
 .op ⟨some 26, .load 3 (.tmp 25), some (24, true)⟩,
 .op ⟨some 27, .binOp .leq 3 (.tmp 26) (.const (.int .i64 65536)) 3, some (24, true)⟩,
 .op ⟨some 28, .pick (.tmp 24) (.tmp 27) (.const (.bool false)), none⟩,
 .op ⟨some 2, .assign (.tmp 28), none⟩]
theorem r72_1 (tab : Tab) (s : S) : exR (EV tab) rg72_1 s = norm (runS (E := EV tab) (callR (EV tab)) (roundR (EV tab)) p72_1 s) := exR_plan (by kernel_rfl) s
noncomputable def b72 : Code := (.seq rg72_0 (.seq rg72_1 .ret))
theorem enter72 (tab : Tab) (args : List Value) (h : H) (hx : callExt (EV tab) 72 args = none) (hl : Nat.ble args.length 29 = true) : callR (EV tab) 72 args h = finish (EV tab) [ResultVar.tmp 2] (exR (EV tab) b72 ⟨false, 29, ofArgs args 0 .leaf, h⟩) :=
  callR_enter (F := Tryz.f72) (c := b72) (by kernel_rfl) hx (by kernel_rfl) (by kernel_rfl) hl
def fF72 := And.intro @p72_0.eq_1 <| And.intro @r72_0 <| And.intro @p72_1.eq_1 <| And.intro @r72_1 <| @b72.eq_1
/- bowline/stackmachine.free -/
noncomputable def rg68_0 : Code := regAt Tryz.f68 0
def p68_0 : List Pl :=
 [.op ⟨some 1, .box 41 (.tmp 0), none⟩,
 .op ⟨some 2, .assign (.const (.bool false)), none⟩]
theorem r68_0 (tab : Tab) (s : S) : exR (EV tab) rg68_0 s = norm (runS (E := EV tab) (callR (EV tab)) (roundR (EV tab)) p68_0 s) := exR_plan (by kernel_rfl) s
noncomputable def rg68_1 : Code := regAt Tryz.f68 1
def p68_1 : List Pl :=
 [.op ⟨some 2, .assign (.const (.bool true)), none⟩]
theorem r68_1 (tab : Tab) (s : S) : exR (EV tab) rg68_1 s = norm (runS (E := EV tab) (callR (EV tab)) (roundR (EV tab)) p68_1 s) := exR_plan (by kernel_rfl) s
noncomputable def b68 : Code := (.seq rg68_0 (.seq rg68_1 .ret))
theorem enter68 (tab : Tab) (args : List Value) (h : H) (hx : callExt (EV tab) 68 args = none) (hl : Nat.ble args.length 3 = true) : callR (EV tab) 68 args h = finish (EV tab) [ResultVar.tmp 2] (exR (EV tab) b68 ⟨false, 3, ofArgs args 0 .leaf, h⟩) :=
  callR_enter (F := Tryz.f68) (c := b68) (by kernel_rfl) hx (by kernel_rfl) (by kernel_rfl) hl
def fF68 := And.intro @p68_0.eq_1 <| And.intro @r68_0 <| And.intro @p68_1.eq_1 <| And.intro @r68_1 <| @b68.eq_1
/- slices.Contains[[]uint64,uint64] -/
noncomputable def rg90_0 : Code := regAt Tryz.f90 0
def p90_0 : List Pl :=
 [.op ⟨some 4, .assign (.const (.bool false)), none⟩]
theorem r90_0 (tab : Tab) (s : S) : exR (EV tab) rg90_0 s = norm (runS (E := EV tab) (callR (EV tab)) (roundR (EV tab)) p90_0 s) := exR_plan (by kernel_rfl) s
noncomputable def rg90_1 : Code := regAt Tryz.f90 1
def p90_1 : List Pl :=
 [.op ⟨some 5, .move (.tmp 0), none⟩,
 .op ⟨some 6, .move (.tmp 1), none⟩,
 .op ⟨some 7, .call (.mk (.value (.func 117)) #[(.tmp 5), (.tmp 6)] #[58,38]), none⟩,
 .op ⟨some 8, .binOp .geq 3 (.tmp 7) (.const (.int .i64 0)) 3, none⟩,
 .op ⟨some 4, .assign (.tmp 8), none⟩]
theorem r90_1 (tab : Tab) (s : S) : exR (EV tab) rg90_1 s = norm (runS (E := EV tab) (callR (EV tab)) (roundR (EV tab)) p90_1 s) := exR_plan (by kernel_rfl) s
noncomputable def b90 : Code := (.seq rg90_0 (.seq rg90_1 .ret))
theorem enter90 (tab : Tab) (args : List Value) (h : H) (hx : callExt (EV tab) 90 args = none) (hl : Nat.ble args.length 9 = true) : callR (EV tab) 90 args h = finish (EV tab) [ResultVar.tmp 4] (exR (EV tab) b90 ⟨false, 9, ofArgs args 0 .leaf, h⟩) :=
  callR_enter (F := Tryz.f90) (c := b90) (by kernel_rfl) hx (by kernel_rfl) (by kernel_rfl) hl
def fF90 := And.intro @p90_0.eq_1 <| And.intro @r90_0 <| And.intro @p90_1.eq_1 <| And.intro @r90_1 <| @b90.eq_1
/- slices.Index[[]uint64,uint64] -/
noncomputable def rg117_0 : Code := regAt Tryz.f117 0
def p117_0 : List Pl :=
 [.op ⟨some 4, .assign (.const (.int .i64 0)), none⟩]
theorem r117_0 (tab : Tab) (s : S) : exR (EV tab) rg117_0 s = norm (runS (E := EV tab) (callR (EV tab)) (roundR (EV tab)) p117_0 s) := exR_plan (by kernel_rfl) s
noncomputable def rg117_1 : Code := regAt Tryz.f117 1
def p117_1 : List Pl :=
 [.op ⟨some 6, .move (.tmp 0), none⟩,
 .op ⟨some 7, .call (.mk (.builtin .len) #[(.tmp 6)] #[58]), none⟩,
 .op ⟨some 8, .move (.const (.int .i64 0)), none⟩]
theorem r117_1 (tab : Tab) (s : S) : exR (EV tab) rg117_1 s = norm (runS (E := EV tab) (callR (EV tab)) (roundR (EV tab)) p117_1 s) := exR_plan (by kernel_rfl) s
noncomputable def rg117_2 : Code := regAt Tryz.f117 2
def p117_2 : List Pl :=
 [.op ⟨some 9, .binOp .lss 3 (.tmp 8) (.tmp 7) 3, none⟩]
theorem r117_2 (tab : Tab) (s : S) : exR (EV tab) rg117_2 s = norm (runS (E := EV tab) (callR (EV tab)) (roundR (EV tab)) p117_2 s) := exR_plan (by kernel_rfl) s
noncomputable def rg117_3 : Code := regAt Tryz.f117 3
def p117_3 : List Pl :=
 [.op ⟨some 10, .move (.tmp 8), none⟩,
 .op ⟨some 5, .assign (.tmp 10), none⟩]
theorem r117_3 (tab : Tab) (s : S) : exR (EV tab) rg117_3 s = norm (runS (E := EV tab) (callR (EV tab)) (roundR (EV tab)) p117_3 s) := exR_plan (by kernel_rfl) s
noncomputable def rg117_4 : Code := regAt Tryz.f117 4
def p117_4 : List Pl :=
 [.op ⟨some 11, .move (.tmp 1), none⟩,
 .op ⟨some 12, .move (.tmp 0), none⟩,
 .op ⟨some 13, .move (.tmp 5), none⟩,
 .op ⟨some 14, .indexAddr 58 (.tmp 12) (.tmp 13), none⟩,
 .op ⟨some 15, .load 38 (.tmp 14), none⟩,
 .op ⟨some 16, .binOp .eql 38 (.tmp 11) (.tmp 15) 38, none⟩]
theorem r117_4 (tab : Tab) (s : S) : exR (EV tab) rg117_4 s = norm (runS (E := EV tab) (callR (EV tab)) (roundR (EV tab)) p117_4 s) := exR_plan (by kernel_rfl) s
noncomputable def rg117_5 : Code := regAt Tryz.f117 5
def p117_5 : List Pl :=
 [.op ⟨some 17, .move (.tmp 5), none⟩,
 .op ⟨some 4, .assign (.tmp 17), none⟩]
theorem r117_5 (tab : Tab) (s : S) : exR (EV tab) rg117_5 s = norm (runS (E := EV tab) (callR (EV tab)) (roundR (EV tab)) p117_5 s) := exR_plan (by kernel_rfl) s
noncomputable def rg117_6 : Code := regAt Tryz.f117 6
def p117_6 : List Pl :=
 [.op ⟨some 18, .binOp .add 3 (.tmp 8) (.const (.int .i64 1)) 3, none⟩,
 .op ⟨some 8, .move (.tmp 18), none⟩]
theorem r117_6 (tab : Tab) (s : S) : exR (EV tab) rg117_6 s = norm (runS (E := EV tab) (callR (EV tab)) (roundR (EV tab)) p117_6 s) := exR_plan (by kernel_rfl) s
noncomputable def rg117_7 : Code := regAt Tryz.f117 7
def p117_7 : List Pl :=
 [.op ⟨some 4, .assign (.const (.int .i64 (-1))), none⟩]
theorem r117_7 (tab : Tab) (s : S) : exR (EV tab) rg117_7 s = norm (runS (E := EV tab) (callR (EV tab)) (roundR (EV tab)) p117_7 s) := exR_plan (by kernel_rfl) s
noncomputable def b117 : Code := (.seq rg117_0 (.seq (.seq rg117_1 (.block 0 (.loop (.seq rg117_2 (.seq (.cond (Operand.tmp 9) .skip (Code.exit 0)) (.seq (.block 1 (.seq rg117_3 (.seq rg117_4 (.cond (Operand.tmp 16) (.seq rg117_5 .ret) .skip)))) rg117_6)))))) (.seq rg117_7 .ret)))
theorem enter117 (tab : Tab) (args : List Value) (h : H) (hx : callExt (EV tab) 117 args = none) (hl : Nat.ble args.length 19 = true) : callR (EV tab) 117 args h = finish (EV tab) [ResultVar.tmp 4] (exR (EV tab) b117 ⟨false, 19, ofArgs args 0 .leaf, h⟩) :=
  callR_enter (F := Tryz.f117) (c := b117) (by kernel_rfl) hx (by kernel_rfl) (by kernel_rfl) hl
def fF117 := And.intro @p117_0.eq_1 <| And.intro @r117_0 <| And.intro @p117_1.eq_1 <| And.intro @r117_1 <| And.intro @p117_2.eq_1 <| And.intro @r117_2 <| And.intro @p117_3.eq_1 <| And.intro @r117_3 <| And.intro @p117_4.eq_1 <| And.intro @r117_4 <| And.intro @p117_5.eq_1 <| And.intro @r117_5 <| And.intro @p117_6.eq_1 <| And.intro @r117_6 <| And.intro @p117_7.eq_1 <| And.intro @r117_7 <| @b117.eq_1
/- slices.Contains[[]int,int] -/
noncomputable def rg66_0 : Code := regAt Tryz.f66 0
def p66_0 : List Pl :=
 [.op ⟨some 4, .assign (.const (.bool false)), none⟩]
theorem r66_0 (tab : Tab) (s : S) : exR (EV tab) rg66_0 s = norm (runS (E := EV tab) (callR (EV tab)) (roundR (EV tab)) p66_0 s) := exR_plan (by kernel_rfl) s
noncomputable def rg66_1 : Code := regAt Tryz.f66 1
def p66_1 : List Pl :=
 [.op ⟨some 5, .move (.tmp 0), none⟩,
 .op ⟨some 6, .move (.tmp 1), none⟩,
 .op ⟨some 7, .call (.mk (.value (.func 88)) #[(.tmp 5), (.tmp 6)] #[44,3]), none⟩,
 .op ⟨some 8, .binOp .geq 3 (.tmp 7) (.const (.int .i64 0)) 3, none⟩,
 .op ⟨some 4, .assign (.tmp 8), none⟩]
theorem r66_1 (tab : Tab) (s : S) : exR (EV tab) rg66_1 s = norm (runS (E := EV tab) (callR (EV tab)) (roundR (EV tab)) p66_1 s) := exR_plan (by kernel_rfl) s
noncomputable def b66 : Code := (.seq rg66_0 (.seq rg66_1 .ret))
theorem enter66 (tab : Tab) (args : List Value) (h : H) (hx : callExt (EV tab) 66 args = none) (hl : Nat.ble args.length 9 = true) : callR (EV tab) 66 args h = finish (EV tab) [ResultVar.tmp 4] (exR (EV tab) b66 ⟨false, 9, ofArgs args 0 .leaf, h⟩) :=
  callR_enter (F := Tryz.f66) (c := b66) (by kernel_rfl) hx (by kernel_rfl) (by kernel_rfl) hl
def fF66 := And.intro @p66_0.eq_1 <| And.intro @r66_0 <| And.intro @p66_1.eq_1 <| And.intro @r66_1 <| @b66.eq_1
/- slices.Index[[]int,int] -/
noncomputable def rg88_0 : Code := regAt Tryz.f88 0
def p88_0 : List Pl :=
 [.op ⟨some 4, .assign (.const (.int .i64 0)), none⟩]
theorem r88_0 (tab : Tab) (s : S) : exR (EV tab) rg88_0 s = norm (runS (E := EV tab) (callR (EV tab)) (roundR (EV tab)) p88_0 s) := exR_plan (by kernel_rfl) s
noncomputable def rg88_1 : Code := regAt Tryz.f88 1
def p88_1 : List Pl :=
 [.op ⟨some 6, .move (.tmp 0), none⟩,
 .op ⟨some 7, .call (.mk (.builtin .len) #[(.tmp 6)] #[44]), none⟩,
 .op ⟨some 8, .move (.const (.int .i64 0)), none⟩]
theorem r88_1 (tab : Tab) (s : S) : exR (EV tab) rg88_1 s = norm (runS (E := EV tab) (callR (EV tab)) (roundR (EV tab)) p88_1 s) := exR_plan (by kernel_rfl) s
noncomputable def rg88_2 : Code := regAt Tryz.f88 2
def p88_2 : List Pl :=
 [.op ⟨some 9, .binOp .lss 3 (.tmp 8) (.tmp 7) 3, none⟩]
theorem r88_2 (tab : Tab) (s : S) : exR (EV tab) rg88_2 s = norm (runS (E := EV tab) (callR (EV tab)) (roundR (EV tab)) p88_2 s) := exR_plan (by kernel_rfl) s
noncomputable def rg88_3 : Code := regAt Tryz.f88 3
def p88_3 : List Pl :=
 [.op ⟨some 10, .move (.tmp 8), none⟩,
 .op ⟨some 5, .assign (.tmp 10), none⟩]
theorem r88_3 (tab : Tab) (s : S) : exR (EV tab) rg88_3 s = norm (runS (E := EV tab) (callR (EV tab)) (roundR (EV tab)) p88_3 s) := exR_plan (by kernel_rfl) s
noncomputable def rg88_4 : Code := regAt Tryz.f88 4
def p88_4 : List Pl :=
 [.op ⟨some 11, .move (.tmp 1), none⟩,
 .op ⟨some 12, .move (.tmp 0), none⟩,
 .op ⟨some 13, .move (.tmp 5), none⟩,
 .op ⟨some 14, .indexAddr 44 (.tmp 12) (.tmp 13), none⟩,
 .op ⟨some 15, .load 3 (.tmp 14), none⟩,
 .op ⟨some 16, .binOp .eql 3 (.tmp 11) (.tmp 15) 3, none⟩]
theorem r88_4 (tab : Tab) (s : S) : exR (EV tab) rg88_4 s = norm (runS (E := EV tab) (callR (EV tab)) (roundR (EV tab)) p88_4 s) := exR_plan (by kernel_rfl) s
noncomputable def rg88_5 : Code := regAt Tryz.f88 5
def p88_5 : List Pl :=
 [.op ⟨some 17, .move (.tmp 5), none⟩,
 .op ⟨some 4, .assign (.tmp 17), none⟩]
theorem r88_5 (tab : Tab) (s : S) : exR (EV tab) rg88_5 s = norm (runS (E := EV tab) (callR (EV tab)) (roundR (EV tab)) p88_5 s) := exR_plan (by kernel_rfl) s
noncomputable def rg88_6 : Code := regAt Tryz.f88 6
def p88_6 : List Pl :=
 [.op ⟨some 18, .binOp .add 3 (.tmp 8) (.const (.int .i64 1)) 3, none⟩,
 .op ⟨some 8, .move (.tmp 18), none⟩]
theorem r88_6 (tab : Tab) (s : S) : exR (EV tab) rg88_6 s = norm (runS (E := EV tab) (callR (EV tab)) (roundR (EV tab)) p88_6 s) := exR_plan (by kernel_rfl) s
noncomputable def rg88_7 : Code := regAt Tryz.f88 7
def p88_7 : List Pl :=
 [.op ⟨some 4, .assign (.const (.int .i64 (-1))), none⟩]
theorem r88_7 (tab : Tab) (s : S) : exR (EV tab) rg88_7 s = norm (runS (E := EV tab) (callR (EV tab)) (roundR (EV tab)) p88_7 s) := exR_plan (by kernel_rfl) s
noncomputable def b88 : Code := (.seq rg88_0 (.seq (.seq rg88_1 (.block 0 (.loop (.seq rg88_2 (.seq (.cond (Operand.tmp 9) .skip (Code.exit 0)) (.seq (.block 1 (.seq rg88_3 (.seq rg88_4 (.cond (Operand.tmp 16) (.seq rg88_5 .ret) .skip)))) rg88_6)))))) (.seq rg88_7 .ret)))
theorem enter88 (tab : Tab) (args : List Value) (h : H) (hx : callExt (EV tab) 88 args = none) (hl : Nat.ble args.length 19 = true) : callR (EV tab) 88 args h = finish (EV tab) [ResultVar.tmp 4] (exR (EV tab) b88 ⟨false, 19, ofArgs args 0 .leaf, h⟩) :=
  callR_enter (F := Tryz.f88) (c := b88) (by kernel_rfl) hx (by kernel_rfl) (by kernel_rfl) hl
def fF88 := And.intro @p88_0.eq_1 <| And.intro @r88_0 <| And.intro @p88_1.eq_1 <| And.intro @r88_1 <| And.intro @p88_2.eq_1 <| And.intro @r88_2 <| And.intro @p88_3.eq_1 <| And.intro @r88_3 <| And.intro @p88_4.eq_1 <| And.intro @r88_4 <| And.intro @p88_5.eq_1 <| And.intro @r88_5 <| And.intro @p88_6.eq_1 <| And.intro @r88_6 <| And.intro @p88_7.eq_1 <| And.intro @r88_7 <| @b88.eq_1
/- bowline/wide.read -/
noncomputable def rg182_0 : Code := regAt Tryz.f182 0
def p182_0 : List Pl :=
 [.op ⟨some 2, .alloc 246, none⟩,
 .op ⟨some 3, .assign (.const (.int .i64 0)), none⟩]
theorem r182_0 (tab : Tab) (s : S) : exR (EV tab) rg182_0 s = norm (runS (E := EV tab) (callR (EV tab)) (roundR (EV tab)) p182_0 s) := exR_plan (by kernel_rfl) s
noncomputable def rg182_1 : Code := regAt Tryz.f182 1
def p182_1 : List Pl :=
 [.op ⟨some 4, .assign (.const (.string ⟨#[]⟩)), none⟩,
 .op ⟨some 5, .assign (.const (.string ⟨#[]⟩)), none⟩]
theorem r182_1 (tab : Tab) (s : S) : exR (EV tab) rg182_1 s = norm (runS (E := EV tab) (callR (EV tab)) (roundR (EV tab)) p182_1 s) := exR_plan (by kernel_rfl) s
noncomputable def rg182_2 : Code := regAt Tryz.f182 2
def p182_2 : List Pl :=
 [.op ⟨some 12, .move (.tmp 0), none⟩,
 .op ⟨some 13, .binOp .neq 9 (.tmp 12) (.const (.string ⟨#[]⟩)) 9, none⟩]
theorem r182_2 (tab : Tab) (s : S) : exR (EV tab) rg182_2 s = norm (runS (E := EV tab) (callR (EV tab)) (roundR (EV tab)) p182_2 s) := exR_plan (by kernel_rfl) s
noncomputable def rg182_3 : Code := regAt Tryz.f182 3
def p182_3 : List Pl :=
 [.op ⟨some 14, .move (.tmp 0), none⟩,
 .op ⟨some 15, .slice 9 (.tmp 14) none (some (.const (.int .i64 1))) none, none⟩,
 .op ⟨some 16, .move (.tmp 0), none⟩,
 .op ⟨some 17, .slice 9 (.tmp 16) (some (.const (.int .i64 1))) none none, none⟩,
 .op ⟨some 4, .assign (.tmp 15), none⟩,
 .op ⟨some 5, .assign (.tmp 17), none⟩,
 .chk [⟨some 15, .slice 9 (.tmp 14) none (some (.const (.int .i64 1))) none, none⟩, ⟨some 17, .slice 9 (.tmp 16) (some (.const (.int .i64 1))) none none, none⟩]]
theorem r182_3 (tab : Tab) (s : S) : exR (EV tab) rg182_3 s = norm (runS (E := EV tab) (callR (EV tab)) (roundR (EV tab)) p182_3 s) := exR_plan (by kernel_rfl) s
noncomputable def rg182_4 : Code := regAt Tryz.f182 4
def p182_4 : List Pl :=
 [.op ⟨some 18, .makeMap 290 none, none⟩,
 .op ⟨none, .insert 290 (.tmp 18) (.const (.string ⟨#[117]⟩)) (.const (.bool false)), none⟩,
 .op ⟨none, .insert 290 (.tmp 18) (.const (.string ⟨#[105]⟩)) (.const (.bool true)), none⟩,
 .op ⟨some 19, .move (.tmp 18), none⟩,
 .op ⟨some 6, .assign (.tmp 19), none⟩]
theorem r182_4 (tab : Tab) (s : S) : exR (EV tab) rg182_4 s = norm (runS (E := EV tab) (callR (EV tab)) (roundR (EV tab)) p182_4 s) := exR_plan (by kernel_rfl) s
noncomputable def rg182_5 : Code := regAt Tryz.f182 5
def p182_5 : List Pl :=
 [.op ⟨some 21, .move (.tmp 6), none⟩,
 .op ⟨some 22, .move (.tmp 4), none⟩,
 .op ⟨some 23, .lookup 290 (.tmp 21) (.tmp 22) true, none⟩,
 .op ⟨some 20, .move (.tmp 23), none⟩,
 .op ⟨some 24, .extract (.tmp 20) 0, none⟩,
 .op ⟨some 25, .extract (.tmp 20) 1, none⟩,
 .op ⟨some 7, .assign (.tmp 24), none⟩,
 .op ⟨some 8, .assign (.tmp 25), none⟩]
theorem r182_5 (tab : Tab) (s : S) : exR (EV tab) rg182_5 s = norm (runS (E := EV tab) (callR (EV tab)) (roundR (EV tab)) p182_5 s) := exR_plan (by kernel_rfl) s
noncomputable def rg182_6 : Code := regAt Tryz.f182 6
def p182_6 : List Pl :=
 [.op ⟨some 26, .move (.tmp 8), none⟩,
 .op ⟨some 27, .unOp .not 4 (.tmp 26), none⟩,
 .op ⟨some 28, .move (.tmp 27), none⟩,
 .op ⟨some 29, .move (.tmp 5), some (28, false)⟩,
 .op ⟨some 30, .call (.mk (.value (.func 238)) #[(.tmp 29)] #[9]), some (28, false)⟩,
 .op ⟨some 31, .unOp .not 4 (.tmp 30), some (28, false)⟩,
 .op ⟨some 32, .pick (.tmp 28) (.const (.bool true)) (.tmp 31), none⟩,
 .op ⟨some 33, .move (.tmp 32), none⟩,
 .op ⟨some 34, .move (.tmp 5), some (33, false)⟩,
 .op ⟨some 35, .call (.mk (.builtin .len) #[(.tmp 34)] #[9]), some (33, false)⟩,
 .op ⟨some 36, .binOp .gtr 3 (.tmp 35) (.const (.int .i64 3)) 3, some (33, false)⟩,
 .op ⟨some 37, .pick (.tmp 33) (.const (.bool true)) (.tmp 36), none⟩]
theorem r182_6 (tab : Tab) (s : S) : exR (EV tab) rg182_6 s = norm (runS (E := EV tab) (callR (EV tab)) (roundR (EV tab)) p182_6 s) := exR_plan (by kernel_rfl) s
noncomputable def rg182_7 : Code := regAt Tryz.f182 7
def p182_7 : List Pl :=
 [.op ⟨some 38, .build 246 #[], none⟩,
 .op ⟨none, .store 246 (.tmp 2) (.tmp 38), none⟩,
 .op ⟨some 3, .assign (.const (.int .i64 6)), none⟩]
theorem r182_7 (tab : Tab) (s : S) : exR (EV tab) rg182_7 s = norm (runS (E := EV tab) (callR (EV tab)) (roundR (EV tab)) p182_7 s) := exR_plan (by kernel_rfl) s
noncomputable def rg182_8 : Code := regAt Tryz.f182 8
def p182_8 : List Pl :=
 [.op ⟨some 40, .move (.tmp 5), none⟩,
 .op ⟨some 41, .call (.mk (.value (.func 212)) #[(.tmp 40)] #[9]), none⟩,
 .op ⟨some 39, .move (.tmp 41), none⟩,
 .op ⟨some 42, .extract (.tmp 39) 0, none⟩,
 .op ⟨some 43, .extract (.tmp 39) 1, none⟩,
 .op ⟨some 9, .assign (.tmp 42), none⟩,
 .op ⟨some 10, .assign (.tmp 43), none⟩]
theorem r182_8 (tab : Tab) (s : S) : exR (EV tab) rg182_8 s = norm (runS (E := EV tab) (callR (EV tab)) (roundR (EV tab)) p182_8 s) := exR_plan (by kernel_rfl) s
noncomputable def rg182_9 : Code := regAt Tryz.f182 9
def p182_9 : List Pl :=
 [.op ⟨some 44, .move (.tmp 9), none⟩,
 .op ⟨some 45, .move (.tmp 7), none⟩,
 .op ⟨some 46, .build 244 #[(0, (.tmp 44)), (1, (.tmp 45))], none⟩,
 .op ⟨some 11, .alloc 244, none⟩,
 .op ⟨none, .store 244 (.tmp 11) (.tmp 46), none⟩]
theorem r182_9 (tab : Tab) (s : S) : exR (EV tab) rg182_9 s = norm (runS (E := EV tab) (callR (EV tab)) (roundR (EV tab)) p182_9 s) := exR_plan (by kernel_rfl) s
noncomputable def rg182_10 : Code := regAt Tryz.f182 10
def p182_10 : List Pl :=
 [.op ⟨some 47, .move (.tmp 9), none⟩,
 .op ⟨some 48, .binOp .gtr 3 (.tmp 47) (.const (.int .i64 64)) 3, none⟩,
 .op ⟨some 49, .move (.tmp 48), none⟩,
 .op ⟨some 50, .load 244 (.tmp 11), some (49, false)⟩,
 .op ⟨some 51, .build 244 #[(0, (.const (.int .i64 0))), (1, (.const (.bool true)))], some (49, false)⟩,
 .op ⟨some 52, .binOp .eql 244 (.tmp 50) (.tmp 51) 244, some (49, false)⟩,
 .op ⟨some 53, .pick (.tmp 49) (.const (.bool true)) (.tmp 52), none⟩]
theorem r182_10 (tab : Tab) (s : S) : exR (EV tab) rg182_10 s = norm (runS (E := EV tab) (callR (EV tab)) (roundR (EV tab)) p182_10 s) := exR_plan (by kernel_rfl) s
noncomputable def rg182_11 : Code := regAt Tryz.f182 11
def p182_11 : List Pl :=
 [.op ⟨some 54, .build 246 #[], none⟩,
 .op ⟨none, .store 246 (.tmp 2) (.tmp 54), none⟩,
 .op ⟨some 3, .assign (.const (.int .i64 3)), none⟩]
theorem r182_11 (tab : Tab) (s : S) : exR (EV tab) rg182_11 s = norm (runS (E := EV tab) (callR (EV tab)) (roundR (EV tab)) p182_11 s) := exR_plan (by kernel_rfl) s
noncomputable def rg182_12 : Code := regAt Tryz.f182 12
def p182_12 : List Pl :=
 [.op ⟨some 55, .load 244 (.tmp 11), none⟩,
 .op ⟨some 56, .move (.tmp 0), none⟩,
 .op ⟨some 57, .build 246 #[(0, (.tmp 55)), (1, (.tmp 56))], none⟩,
 .op ⟨none, .store 246 (.tmp 2) (.tmp 57), none⟩,
 .op ⟨some 3, .assign (.const (.int .i64 0)), none⟩]
theorem r182_12 (tab : Tab) (s : S) : exR (EV tab) rg182_12 s = norm (runS (E := EV tab) (callR (EV tab)) (roundR (EV tab)) p182_12 s) := exR_plan (by kernel_rfl) s
noncomputable def b182 : Code := (.seq rg182_0 (.seq rg182_1 (.seq (.seq rg182_2 (.cond (Operand.tmp 13) rg182_3 .skip)) (.seq rg182_4 (.seq rg182_5 (.seq (.seq rg182_6 (.cond (Operand.tmp 37) (.seq rg182_7 .ret) .skip)) (.seq rg182_8 (.seq rg182_9 (.seq (.seq rg182_10 (.cond (Operand.tmp 53) (.seq rg182_11 .ret) .skip)) (.seq rg182_12 .ret))))))))))
theorem enter182 (tab : Tab) (args : List Value) (h : H) (hx : callExt (EV tab) 182 args = none) (hl : Nat.ble args.length 58 = true) : callR (EV tab) 182 args h = finish (EV tab) [ResultVar.cell 2 246, ResultVar.tmp 3] (exR (EV tab) b182 ⟨false, 58, ofArgs args 0 .leaf, h⟩) :=
  callR_enter (F := Tryz.f182) (c := b182) (by kernel_rfl) hx (by kernel_rfl) (by kernel_rfl) hl
def fF182 := And.intro @p182_0.eq_1 <| And.intro @r182_0 <| And.intro @p182_1.eq_1 <| And.intro @r182_1 <| And.intro @p182_2.eq_1 <| And.intro @r182_2 <| And.intro @p182_3.eq_1 <| And.intro @r182_3 <| And.intro @p182_4.eq_1 <| And.intro @r182_4 <| And.intro @p182_5.eq_1 <| And.intro @r182_5 <| And.intro @p182_6.eq_1 <| And.intro @r182_6 <| And.intro @p182_7.eq_1 <| And.intro @r182_7 <| And.intro @p182_8.eq_1 <| And.intro @r182_8 <| And.intro @p182_9.eq_1 <| And.intro @r182_9 <| And.intro @p182_10.eq_1 <| And.intro @r182_10 <| And.intro @p182_11.eq_1 <| And.intro @r182_11 <| And.intro @p182_12.eq_1 <| And.intro @r182_12 <| @b182.eq_1
/- bowline/wide.isDigits -/
noncomputable def rg238_0 : Code := regAt Tryz.f238 0
def p238_0 : List Pl :=
 [.op ⟨some 2, .assign (.const (.bool false)), none⟩]
theorem r238_0 (tab : Tab) (s : S) : exR (EV tab) rg238_0 s = norm (runS (E := EV tab) (callR (EV tab)) (roundR (EV tab)) p238_0 s) := exR_plan (by kernel_rfl) s
noncomputable def rg238_1 : Code := regAt Tryz.f238 1
def p238_1 : List Pl :=
 [.op ⟨some 5, .move (.tmp 0), none⟩,
 .op ⟨some 6, .range 9 (.tmp 5), none⟩]
theorem r238_1 (tab : Tab) (s : S) : exR (EV tab) rg238_1 s = norm (runS (E := EV tab) (callR (EV tab)) (roundR (EV tab)) p238_1 s) := exR_plan (by kernel_rfl) s
noncomputable def rg238_2 : Code := regAt Tryz.f238 2
def p238_2 : List Pl :=
 [.op ⟨some 7, .next (.tmp 6) true, none⟩,
 .op ⟨some 8, .extract (.tmp 7) 0, none⟩]
theorem r238_2 (tab : Tab) (s : S) : exR (EV tab) rg238_2 s = norm (runS (E := EV tab) (callR (EV tab)) (roundR (EV tab)) p238_2 s) := exR_plan (by kernel_rfl) s
noncomputable def rg238_3 : Code := regAt Tryz.f238 3
def p238_3 : List Pl :=
 [.op ⟨some 9, .extract (.tmp 7) 2, none⟩,
 .op ⟨some 4, .assign (.tmp 9), none⟩]
theorem r238_3 (tab : Tab) (s : S) : exR (EV tab) rg238_3 s = norm (runS (E := EV tab) (callR (EV tab)) (roundR (EV tab)) p238_3 s) := exR_plan (by kernel_rfl) s
noncomputable def rg238_4 : Code := regAt Tryz.f238 4
def p238_4 : List Pl :=
 [.op ⟨some 10, .move (.tmp 4), none⟩,
 .op ⟨some 11, .binOp .lss 21 (.tmp 10) (.const (.int .i32 48)) 21, none⟩,
 .op ⟨some 12, .move (.tmp 11), none⟩,
 .op ⟨some 13, .move (.tmp 4), some (12, false)⟩,
 .op ⟨some 14, .binOp .gtr 21 (.tmp 13) (.const (.int .i32 57)) 21, some (12, false)⟩,
 .op ⟨some 15, .pick (.tmp 12) (.const (.bool true)) (.tmp 14), none⟩]
theorem r238_4 (tab : Tab) (s : S) : exR (EV tab) rg238_4 s = norm (runS (E := EV tab) (callR (EV tab)) (roundR (EV tab)) p238_4 s) := exR_plan (by kernel_rfl) s
noncomputable def rg238_5 : Code := regAt Tryz.f238 5
def p238_5 : List Pl :=
 [.op ⟨some 2, .assign (.const (.bool false)), none⟩]
theorem r238_5 (tab : Tab) (s : S) : exR (EV tab) rg238_5 s = norm (runS (E := EV tab) (callR (EV tab)) (roundR (EV tab)) p238_5 s) := exR_plan (by kernel_rfl) s
noncomputable def rg238_6 : Code := regAt Tryz.f238 6
def p238_6 : List Pl :=
 [.op ⟨some 16, .move (.tmp 0), none⟩,
 .op ⟨some 17, .binOp .neq 9 (.tmp 16) (.const (.string ⟨#[]⟩)) 9, none⟩,
 .op ⟨some 18, .move (.tmp 17), none⟩,
 .op ⟨some 19, .move (.tmp 0), some (18, true)⟩,
 .op ⟨some 20, .binOp .eql 9 (.tmp 19) (.const (.string ⟨#[48]⟩)) 9, some (18, true)⟩,
 .op ⟨some 21, .move (.tmp 20), some (18, true)⟩,
 .op ⟨some 22, .move (.tmp 0), some (21, false)⟩,
 .op ⟨some 23, .index 9 (.tmp 22) (.const (.int .i64 0)), some (21, false)⟩,
 .op ⟨some 24, .binOp .neq 5 (.tmp 23) (.const (.int .u8 48)) 5, some (21, false)⟩,
 .op ⟨some 25, .pick (.tmp 21) (.const (.bool true)) (.tmp 24), some (18, true)⟩,
 .op ⟨some 26, .pick (.tmp 18) (.tmp 25) (.const (.bool false)), none⟩,
 .op ⟨some 2, .assign (.tmp 26), none⟩]
theorem r238_6 (tab : Tab) (s : S) : exR (EV tab) rg238_6 s = norm (runS (E := EV tab) (callR (EV tab)) (roundR (EV tab)) p238_6 s) := exR_plan (by kernel_rfl) s
noncomputable def b238 : Code := (.seq rg238_0 (.seq (.seq rg238_1 (.block 0 (.loop (.seq rg238_2 (.seq (.cond (Operand.tmp 8) .skip (Code.exit 0)) (.block 1 (.seq rg238_3 (.seq rg238_4 (.cond (Operand.tmp 15) (.seq rg238_5 .ret) .skip))))))))) (.seq rg238_6 .ret)))
theorem enter238 (tab : Tab) (args : List Value) (h : H) (hx : callExt (EV tab) 238 args = none) (hl : Nat.ble args.length 27 = true) : callR (EV tab) 238 args h = finish (EV tab) [ResultVar.tmp 2] (exR (EV tab) b238 ⟨false, 27, ofArgs args 0 .leaf, h⟩) :=
  callR_enter (F := Tryz.f238) (c := b238) (by kernel_rfl) hx (by kernel_rfl) (by kernel_rfl) hl
def fF238 := And.intro @p238_0.eq_1 <| And.intro @r238_0 <| And.intro @p238_1.eq_1 <| And.intro @r238_1 <| And.intro @p238_2.eq_1 <| And.intro @r238_2 <| And.intro @p238_3.eq_1 <| And.intro @r238_3 <| And.intro @p238_4.eq_1 <| And.intro @r238_4 <| And.intro @p238_5.eq_1 <| And.intro @r238_5 <| And.intro @p238_6.eq_1 <| And.intro @r238_6 <| @b238.eq_1
/- bowline/wide.Width -/
noncomputable def rg126_0 : Code := regAt Tryz.f126 0
def p126_0 : List Pl :=
 [.op ⟨some 2, .assign (.const (.int .i64 0)), none⟩,
 .op ⟨some 3, .assign (.const (.bool false)), none⟩,
 .op ⟨some 4, .assign (.const (.int .i64 0)), none⟩]
theorem r126_0 (tab : Tab) (s : S) : exR (EV tab) rg126_0 s = norm (runS (E := EV tab) (callR (EV tab)) (roundR (EV tab)) p126_0 s) := exR_plan (by kernel_rfl) s
noncomputable def rg126_1 : Code := regAt Tryz.f126 1
def p126_1 : List Pl :=
 [.op ⟨some 8, .move (.tmp 0), none⟩,
 .op ⟨some 9, .call (.mk (.value (.func 182)) #[(.tmp 8)] #[9]), none⟩,
 .op ⟨some 7, .move (.tmp 9), none⟩,
 .op ⟨some 10, .extract (.tmp 7) 0, none⟩,
 .op ⟨some 11, .extract (.tmp 7) 1, none⟩,
 .op ⟨some 5, .alloc 246, none⟩,
 .op ⟨none, .store 246 (.tmp 5) (.tmp 10), none⟩,
 .op ⟨some 6, .assign (.tmp 11), none⟩]
theorem r126_1 (tab : Tab) (s : S) : exR (EV tab) rg126_1 s = norm (runS (E := EV tab) (callR (EV tab)) (roundR (EV tab)) p126_1 s) := exR_plan (by kernel_rfl) s
noncomputable def rg126_2 : Code := regAt Tryz.f126 2
def p126_2 : List Pl :=
 [.op ⟨some 12, .fieldAddr 246 (.tmp 5) 0, none⟩,
 .op ⟨some 13, .fieldAddr 244 (.tmp 12) 0, none⟩,
 .op ⟨some 14, .load 3 (.tmp 13), none⟩,
 .op ⟨some 15, .fieldAddr 246 (.tmp 5) 0, none⟩,
 .op ⟨some 16, .fieldAddr 244 (.tmp 15) 1, none⟩,
 .op ⟨some 17, .load 4 (.tmp 16), none⟩,
 .op ⟨some 18, .move (.tmp 6), none⟩,
 .op ⟨some 2, .assign (.tmp 14), none⟩,
 .op ⟨some 3, .assign (.tmp 17), none⟩,
 .op ⟨some 4, .assign (.tmp 18), none⟩,
 .chk [⟨some 14, .load 3 (.tmp 13), none⟩, ⟨some 17, .load 4 (.tmp 16), none⟩]]
theorem r126_2 (tab : Tab) (s : S) : exR (EV tab) rg126_2 s = norm (runS (E := EV tab) (callR (EV tab)) (roundR (EV tab)) p126_2 s) := exR_plan (by kernel_rfl) s
noncomputable def b126 : Code := (.seq rg126_0 (.seq rg126_1 (.seq rg126_2 .ret)))
theorem enter126 (tab : Tab) (args : List Value) (h : H) (hx : callExt (EV tab) 126 args = none) (hl : Nat.ble args.length 19 = true) : callR (EV tab) 126 args h = finish (EV tab) [ResultVar.tmp 2, ResultVar.tmp 3, ResultVar.tmp 4] (exR (EV tab) b126 ⟨false, 19, ofArgs args 0 .leaf, h⟩) :=
  callR_enter (F := Tryz.f126) (c := b126) (by kernel_rfl) hx (by kernel_rfl) (by kernel_rfl) hl
def fF126 := And.intro @p126_0.eq_1 <| And.intro @r126_0 <| And.intro @p126_1.eq_1 <| And.intro @r126_1 <| And.intro @p126_2.eq_1 <| And.intro @r126_2 <| @b126.eq_1
/- strconv.Atoi -/
noncomputable def rg212_0 : Code := regAt Tryz.f212 0
def p212_0 : List Pl :=
 [.op ⟨some 2, .assign (.const (.int .i64 0)), none⟩,
 .op ⟨some 3, .assign (.const .nilIface), none⟩]
theorem r212_0 (tab : Tab) (s : S) : exR (EV tab) rg212_0 s = norm (runS (E := EV tab) (callR (EV tab)) (roundR (EV tab)) p212_0 s) := exR_plan (by kernel_rfl) s
noncomputable def rg212_1 : Code := regAt Tryz.f212 1
def p212_1 : List Pl :=
 [.op ⟨some 7, .move (.tmp 0), none⟩,
 .op ⟨some 8, .call (.mk (.value (.func 255)) #[(.tmp 7)] #[9]), none⟩,
 .op ⟨some 6, .move (.tmp 8), none⟩,
 .op ⟨some 9, .extract (.tmp 6) 0, none⟩,
 .op ⟨some 10, .extract (.tmp 6) 1, none⟩,
 .op ⟨some 4, .assign (.tmp 9), none⟩,
 .op ⟨some 5, .assign (.tmp 10), none⟩]
theorem r212_1 (tab : Tab) (s : S) : exR (EV tab) rg212_1 s = norm (runS (E := EV tab) (callR (EV tab)) (roundR (EV tab)) p212_1 s) := exR_plan (by kernel_rfl) s
noncomputable def rg212_2 : Code := regAt Tryz.f212 2
def p212_2 : List Pl :=
 [.op ⟨some 11, .move (.tmp 5), none⟩,
 .op ⟨some 12, .binOp .neq 94 (.tmp 11) (.const .nilIface) 94, none⟩]
theorem r212_2 (tab : Tab) (s : S) : exR (EV tab) rg212_2 s = norm (runS (E := EV tab) (callR (EV tab)) (roundR (EV tab)) p212_2 s) := exR_plan (by kernel_rfl) s
noncomputable def rg212_3 : Code := regAt Tryz.f212 3
def p212_3 : List Pl :=
 [.op ⟨some 13, .move (.tmp 4), none⟩,
 .op ⟨some 14, .move (.tmp 0), none⟩,
 .op ⟨some 15, .move (.tmp 5), none⟩,
 .op ⟨some 16, .call (.mk (.value (.func 256)) #[(.const (.string ⟨#[65,116,111,105]⟩)), (.tmp 14), (.const (.int .i64 0)), (.const (.int .i64 0)), (.tmp 15)] #[9,9,3,3,94]), none⟩,
 .op ⟨some 2, .assign (.tmp 13), none⟩,
 .op ⟨some 3, .assign (.tmp 16), none⟩]
theorem r212_3 (tab : Tab) (s : S) : exR (EV tab) rg212_3 s = norm (runS (E := EV tab) (callR (EV tab)) (roundR (EV tab)) p212_3 s) := exR_plan (by kernel_rfl) s
noncomputable def rg212_4 : Code := regAt Tryz.f212 4
def p212_4 : List Pl :=
 [.op ⟨some 17, .move (.tmp 4), none⟩,
 .op ⟨some 2, .assign (.tmp 17), none⟩,
 .op ⟨some 3, .assign (.const .nilIface), none⟩]
theorem r212_4 (tab : Tab) (s : S) : exR (EV tab) rg212_4 s = norm (runS (E := EV tab) (callR (EV tab)) (roundR (EV tab)) p212_4 s) := exR_plan (by kernel_rfl) s
noncomputable def b212 : Code := (.seq rg212_0 (.seq rg212_1 (.seq (.seq rg212_2 (.cond (Operand.tmp 12) (.seq rg212_3 .ret) .skip)) (.seq rg212_4 .ret))))
theorem enter212 (tab : Tab) (args : List Value) (h : H) (hx : callExt (EV tab) 212 args = none) (hl : Nat.ble args.length 18 = true) : callR (EV tab) 212 args h = finish (EV tab) [ResultVar.tmp 2, ResultVar.tmp 3] (exR (EV tab) b212 ⟨false, 18, ofArgs args 0 .leaf, h⟩) :=
  callR_enter (F := Tryz.f212) (c := b212) (by kernel_rfl) hx (by kernel_rfl) (by kernel_rfl) hl
def fF212 := And.intro @p212_0.eq_1 <| And.intro @r212_0 <| And.intro @p212_1.eq_1 <| And.intro @r212_1 <| And.intro @p212_2.eq_1 <| And.intro @r212_2 <| And.intro @p212_3.eq_1 <| And.intro @r212_3 <| And.intro @p212_4.eq_1 <| And.intro @r212_4 <| @b212.eq_1
/- internal/strconv.Atoi -/
noncomputable def rg255_0 : Code := regAt Tryz.f255 0
def p255_0 : List Pl :=
 [.op ⟨some 2, .assign (.const (.int .i64 0)), none⟩,
 .op ⟨some 3, .assign (.const .nilIface), none⟩]
theorem r255_0 (tab : Tab) (s : S) : exR (EV tab) rg255_0 s = norm (runS (E := EV tab) (callR (EV tab)) (roundR (EV tab)) p255_0 s) := exR_plan (by kernel_rfl) s
noncomputable def rg255_1 : Code := regAt Tryz.f255 1
def p255_1 : List Pl :=
 [.op ⟨some 11, .move (.tmp 0), none⟩,
 .op ⟨some 12, .call (.mk (.builtin .len) #[(.tmp 11)] #[9]), none⟩,
 .op ⟨some 4, .assign (.tmp 12), none⟩]
theorem r255_1 (tab : Tab) (s : S) : exR (EV tab) rg255_1 s = norm (runS (E := EV tab) (callR (EV tab)) (roundR (EV tab)) p255_1 s) := exR_plan (by kernel_rfl) s
noncomputable def rg255_2 : Code := regAt Tryz.f255 2
def p255_2 : List Pl :=
 [.op ⟨some 13, .move (.const (.bool false)), none⟩,
 .op ⟨some 14, .move (.tmp 4), some (13, true)⟩,
 .op ⟨some 15, .binOp .lss 3 (.const (.int .i64 0)) (.tmp 14) 3, some (13, true)⟩,
 .op ⟨some 16, .move (.tmp 15), some (13, true)⟩,
 .op ⟨some 17, .move (.tmp 4), some (16, true)⟩,
 .op ⟨some 18, .binOp .lss 3 (.tmp 17) (.const (.int .i64 10)) 3, some (16, true)⟩,
 .op ⟨some 19, .pick (.tmp 16) (.tmp 18) (.const (.bool false)), some (13, true)⟩,
 .op ⟨some 20, .pick (.tmp 13) (.tmp 19) (.const (.bool false)), none⟩,
 .op ⟨some 21, .move (.tmp 20), none⟩,
 .op ⟨some 22, .move (.const (.bool true)), some (21, false)⟩,
 .op ⟨some 23, .move (.tmp 4), some (22, true)⟩,
 .op ⟨some 24, .binOp .lss 3 (.const (.int .i64 0)) (.tmp 23) 3, some (22, true)⟩,
 .op ⟨some 25, .move (.tmp 24), some (22, true)⟩,
 .op ⟨some 26, .move (.tmp 4), some (25, true)⟩,
 .op ⟨some 27, .binOp .lss 3 (.tmp 26) (.const (.int .i64 19)) 3, some (25, true)⟩,
 .op ⟨some 28, .pick (.tmp 25) (.tmp 27) (.const (.bool false)), some (22, true)⟩,
 .op ⟨some 29, .pick (.tmp 22) (.tmp 28) (.const (.bool false)), some (21, false)⟩,
 .op ⟨some 30, .pick (.tmp 21) (.const (.bool true)) (.tmp 29), none⟩]
theorem r255_2 (tab : Tab) (s : S) : exR (EV tab) rg255_2 s = norm (runS (E := EV tab) (callR (EV tab)) (roundR (EV tab)) p255_2 s) := exR_plan (by kernel_rfl) s
noncomputable def rg255_3 : Code := regAt Tryz.f255 3
def p255_3 : List Pl :=
 [.op ⟨some 31, .move (.tmp 0), none⟩,
 .op ⟨some 5, .assign (.tmp 31), none⟩]
theorem r255_3 (tab : Tab) (s : S) : exR (EV tab) rg255_3 s = norm (runS (E := EV tab) (callR (EV tab)) (roundR (EV tab)) p255_3 s) := exR_plan (by kernel_rfl) s
noncomputable def rg255_4 : Code := regAt Tryz.f255 4
def p255_4 : List Pl :=
 [.op ⟨some 32, .move (.tmp 0), none⟩,
 .op ⟨some 33, .index 9 (.tmp 32) (.const (.int .i64 0)), none⟩,
 .op ⟨some 34, .binOp .eql 5 (.tmp 33) (.const (.int .u8 45)) 5, none⟩,
 .op ⟨some 35, .move (.tmp 34), none⟩,
 .op ⟨some 36, .move (.tmp 0), some (35, false)⟩,
 .op ⟨some 37, .index 9 (.tmp 36) (.const (.int .i64 0)), some (35, false)⟩,
 .op ⟨some 38, .binOp .eql 5 (.tmp 37) (.const (.int .u8 43)) 5, some (35, false)⟩,
 .op ⟨some 39, .pick (.tmp 35) (.const (.bool true)) (.tmp 38), none⟩]
theorem r255_4 (tab : Tab) (s : S) : exR (EV tab) rg255_4 s = norm (runS (E := EV tab) (callR (EV tab)) (roundR (EV tab)) p255_4 s) := exR_plan (by kernel_rfl) s
noncomputable def rg255_5 : Code := regAt Tryz.f255 5
def p255_5 : List Pl :=
 [.op ⟨some 40, .move (.tmp 0), none⟩,
 .op ⟨some 41, .slice 9 (.tmp 40) (some (.const (.int .i64 1))) none none, none⟩,
 .op ⟨some 0, .assign (.tmp 41), none⟩]
theorem r255_5 (tab : Tab) (s : S) : exR (EV tab) rg255_5 s = norm (runS (E := EV tab) (callR (EV tab)) (roundR (EV tab)) p255_5 s) := exR_plan (by kernel_rfl) s
noncomputable def rg255_6 : Code := regAt Tryz.f255 6
def p255_6 : List Pl :=
 [.op ⟨some 42, .move (.tmp 0), none⟩,
 .op ⟨some 43, .call (.mk (.builtin .len) #[(.tmp 42)] #[9]), none⟩,
 .op ⟨some 44, .binOp .lss 3 (.tmp 43) (.const (.int .i64 1)) 3, none⟩]
theorem r255_6 (tab : Tab) (s : S) : exR (EV tab) rg255_6 s = norm (runS (E := EV tab) (callR (EV tab)) (roundR (EV tab)) p255_6 s) := exR_plan (by kernel_rfl) s
noncomputable def rg255_7 : Code := regAt Tryz.f255 7
def p255_7 : List Pl :=
 [.op ⟨some 45, .makeInterface 331 (.const (.int .i64 2)), none⟩,
 .op ⟨some 2, .assign (.const (.int .i64 0)), none⟩,
 .op ⟨some 3, .assign (.tmp 45), none⟩]
theorem r255_7 (tab : Tab) (s : S) : exR (EV tab) rg255_7 s = norm (runS (E := EV tab) (callR (EV tab)) (roundR (EV tab)) p255_7 s) := exR_plan (by kernel_rfl) s
noncomputable def rg255_8 : Code := regAt Tryz.f255 8
def p255_8 : List Pl :=
 [.op ⟨some 6, .assign (.const (.int .i64 0)), none⟩]
theorem r255_8 (tab : Tab) (s : S) : exR (EV tab) rg255_8 s = norm (runS (E := EV tab) (callR (EV tab)) (roundR (EV tab)) p255_8 s) := exR_plan (by kernel_rfl) s
noncomputable def rg255_9 : Code := regAt Tryz.f255 9
def p255_9 : List Pl :=
 [.op ⟨some 46, .move (.tmp 0), none⟩,
 .op ⟨some 47, .convert 9 23 (.tmp 46), none⟩,
 .op ⟨some 48, .call (.mk (.builtin .len) #[(.tmp 47)] #[23]), none⟩,
 .op ⟨some 49, .move (.const (.int .i64 0)), none⟩]
theorem r255_9 (tab : Tab) (s : S) : exR (EV tab) rg255_9 s = norm (runS (E := EV tab) (callR (EV tab)) (roundR (EV tab)) p255_9 s) := exR_plan (by kernel_rfl) s
noncomputable def rg255_10 : Code := regAt Tryz.f255 10
def p255_10 : List Pl :=
 [.op ⟨some 50, .binOp .lss 3 (.tmp 49) (.tmp 48) 3, none⟩]
theorem r255_10 (tab : Tab) (s : S) : exR (EV tab) rg255_10 s = norm (runS (E := EV tab) (callR (EV tab)) (roundR (EV tab)) p255_10 s) := exR_plan (by kernel_rfl) s
noncomputable def rg255_11 : Code := regAt Tryz.f255 11
def p255_11 : List Pl :=
 [.op ⟨some 51, .indexAddr 23 (.tmp 47) (.tmp 49), none⟩,
 .op ⟨some 52, .load 5 (.tmp 51), none⟩,
 .op ⟨some 8, .assign (.tmp 52), none⟩]
theorem r255_11 (tab : Tab) (s : S) : exR (EV tab) rg255_11 s = norm (runS (E := EV tab) (callR (EV tab)) (roundR (EV tab)) p255_11 s) := exR_plan (by kernel_rfl) s
noncomputable def rg255_12 : Code := regAt Tryz.f255 12
def p255_12 : List Pl :=
 [.op ⟨some 53, .move (.tmp 8), none⟩,
 .op ⟨some 54, .binOp .sub 5 (.tmp 53) (.const (.int .u8 48)) 5, none⟩,
 .op ⟨some 8, .assign (.tmp 54), none⟩]
theorem r255_12 (tab : Tab) (s : S) : exR (EV tab) rg255_12 s = norm (runS (E := EV tab) (callR (EV tab)) (roundR (EV tab)) p255_12 s) := exR_plan (by kernel_rfl) s
noncomputable def rg255_13 : Code := regAt Tryz.f255 13
def p255_13 : List Pl :=
 [.op ⟨some 55, .move (.tmp 8), none⟩,
 .op ⟨some 56, .binOp .gtr 5 (.tmp 55) (.const (.int .u8 9)) 5, none⟩]
theorem r255_13 (tab : Tab) (s : S) : exR (EV tab) rg255_13 s = norm (runS (E := EV tab) (callR (EV tab)) (roundR (EV tab)) p255_13 s) := exR_plan (by kernel_rfl) s
noncomputable def rg255_14 : Code := regAt Tryz.f255 14
def p255_14 : List Pl :=
 [.op ⟨some 57, .makeInterface 331 (.const (.int .i64 2)), none⟩,
 .op ⟨some 2, .assign (.const (.int .i64 0)), none⟩,
 .op ⟨some 3, .assign (.tmp 57), none⟩]
theorem r255_14 (tab : Tab) (s : S) : exR (EV tab) rg255_14 s = norm (runS (E := EV tab) (callR (EV tab)) (roundR (EV tab)) p255_14 s) := exR_plan (by kernel_rfl) s
noncomputable def rg255_15 : Code := regAt Tryz.f255 15
def p255_15 : List Pl :=
 [.op ⟨some 58, .move (.tmp 6), none⟩,
 .op ⟨some 59, .binOp .mul 3 (.tmp 58) (.const (.int .i64 10)) 3, none⟩,
 .op ⟨some 60, .move (.tmp 8), none⟩,
 .op ⟨some 61, .convert 5 3 (.tmp 60), none⟩,
 .op ⟨some 62, .binOp .add 3 (.tmp 59) (.tmp 61) 3, none⟩,
 .op ⟨some 6, .assign (.tmp 62), none⟩]
theorem r255_15 (tab : Tab) (s : S) : exR (EV tab) rg255_15 s = norm (runS (E := EV tab) (callR (EV tab)) (roundR (EV tab)) p255_15 s) := exR_plan (by kernel_rfl) s
noncomputable def rg255_16 : Code := regAt Tryz.f255 16
def p255_16 : List Pl :=
 [.op ⟨some 63, .binOp .add 3 (.tmp 49) (.const (.int .i64 1)) 3, none⟩,
 .op ⟨some 49, .move (.tmp 63), none⟩]
theorem r255_16 (tab : Tab) (s : S) : exR (EV tab) rg255_16 s = norm (runS (E := EV tab) (callR (EV tab)) (roundR (EV tab)) p255_16 s) := exR_plan (by kernel_rfl) s
noncomputable def rg255_17 : Code := regAt Tryz.f255 17
def p255_17 : List Pl :=
 [.op ⟨some 64, .move (.tmp 5), none⟩,
 .op ⟨some 65, .index 9 (.tmp 64) (.const (.int .i64 0)), none⟩,
 .op ⟨some 66, .binOp .eql 5 (.tmp 65) (.const (.int .u8 45)) 5, none⟩]
theorem r255_17 (tab : Tab) (s : S) : exR (EV tab) rg255_17 s = norm (runS (E := EV tab) (callR (EV tab)) (roundR (EV tab)) p255_17 s) := exR_plan (by kernel_rfl) s
noncomputable def rg255_18 : Code := regAt Tryz.f255 18
def p255_18 : List Pl :=
 [.op ⟨some 67, .move (.tmp 6), none⟩,
 .op ⟨some 68, .unOp .neg 3 (.tmp 67), none⟩,
 .op ⟨some 6, .assign (.tmp 68), none⟩]
theorem r255_18 (tab : Tab) (s : S) : exR (EV tab) rg255_18 s = norm (runS (E := EV tab) (callR (EV tab)) (roundR (EV tab)) p255_18 s) := exR_plan (by kernel_rfl) s
noncomputable def rg255_19 : Code := regAt Tryz.f255 19
def p255_19 : List Pl :=
 [.op ⟨some 69, .move (.tmp 6), none⟩,
 .op ⟨some 2, .assign (.tmp 69), none⟩,
 .op ⟨some 3, .assign (.const .nilIface), none⟩]
theorem r255_19 (tab : Tab) (s : S) : exR (EV tab) rg255_19 s = norm (runS (E := EV tab) (callR (EV tab)) (roundR (EV tab)) p255_19 s) := exR_plan (by kernel_rfl) s
noncomputable def rg255_20 : Code := regAt Tryz.f255 20
def p255_20 : List Pl :=
 [.op ⟨some 71, .move (.tmp 0), none⟩,
 .op ⟨some 72, .call (.mk (.value (.func 277)) #[(.tmp 71), (.const (.int .i64 10)), (.const (.int .i64 0))] #[9,3,3]), none⟩,
 .op ⟨some 70, .move (.tmp 72), none⟩,
 .op ⟨some 73, .extract (.tmp 70) 0, none⟩,
 .op ⟨some 74, .extract (.tmp 70) 1, none⟩,
 .op ⟨some 9, .assign (.tmp 73), none⟩,
 .op ⟨some 10, .assign (.tmp 74), none⟩]
theorem r255_20 (tab : Tab) (s : S) : exR (EV tab) rg255_20 s = norm (runS (E := EV tab) (callR (EV tab)) (roundR (EV tab)) p255_20 s) := exR_plan (by kernel_rfl) s
noncomputable def rg255_21 : Code := regAt Tryz.f255 21
def p255_21 : List Pl :=
 [.op ⟨some 75, .move (.tmp 9), none⟩,
 .op ⟨some 76, .move (.tmp 10), none⟩,
 .op ⟨some 2, .assign (.tmp 75), none⟩,
 .op ⟨some 3, .assign (.tmp 76), none⟩]
theorem r255_21 (tab : Tab) (s : S) : exR (EV tab) rg255_21 s = norm (runS (E := EV tab) (callR (EV tab)) (roundR (EV tab)) p255_21 s) := exR_plan (by kernel_rfl) s
noncomputable def b255 : Code := (.seq rg255_0 (.seq rg255_1 (.seq (.seq rg255_2 (.cond (Operand.tmp 30) (.seq rg255_3 (.seq (.seq rg255_4 (.cond (Operand.tmp 39) (.seq rg255_5 (.seq rg255_6 (.cond (Operand.tmp 44) (.seq rg255_7 .ret) .skip))) .skip)) (.seq rg255_8 (.seq (.seq rg255_9 (.block 0 (.loop (.seq rg255_10 (.seq (.cond (Operand.tmp 50) .skip (Code.exit 0)) (.seq (.block 1 (.seq rg255_11 (.seq rg255_12 (.seq (.seq rg255_13 (.cond (Operand.tmp 56) (.seq rg255_14 .ret) .skip)) rg255_15)))) rg255_16)))))) (.seq (.seq rg255_17 (.cond (Operand.tmp 66) rg255_18 .skip)) (.seq rg255_19 .ret)))))) .skip)) (.seq rg255_20 (.seq rg255_21 .ret)))))
theorem enter255 (tab : Tab) (args : List Value) (h : H) (hx : callExt (EV tab) 255 args = none) (hl : Nat.ble args.length 77 = true) : callR (EV tab) 255 args h = finish (EV tab) [ResultVar.tmp 2, ResultVar.tmp 3] (exR (EV tab) b255 ⟨false, 77, ofArgs args 0 .leaf, h⟩) :=
  callR_enter (F := Tryz.f255) (c := b255) (by kernel_rfl) hx (by kernel_rfl) (by kernel_rfl) hl
def fF255 := And.intro @p255_0.eq_1 <| And.intro @r255_0 <| And.intro @p255_1.eq_1 <| And.intro @r255_1 <| And.intro @p255_2.eq_1 <| And.intro @r255_2 <| And.intro @p255_3.eq_1 <| And.intro @r255_3 <| And.intro @p255_4.eq_1 <| And.intro @r255_4 <| And.intro @p255_5.eq_1 <| And.intro @r255_5 <| And.intro @p255_6.eq_1 <| And.intro @r255_6 <| And.intro @p255_7.eq_1 <| And.intro @r255_7 <| And.intro @p255_8.eq_1 <| And.intro @r255_8 <| And.intro @p255_9.eq_1 <| And.intro @r255_9 <| And.intro @p255_10.eq_1 <| And.intro @r255_10 <| And.intro @p255_11.eq_1 <| And.intro @r255_11 <| And.intro @p255_12.eq_1 <| And.intro @r255_12 <| And.intro @p255_13.eq_1 <| And.intro @r255_13 <| And.intro @p255_14.eq_1 <| And.intro @r255_14 <| And.intro @p255_15.eq_1 <| And.intro @r255_15 <| And.intro @p255_16.eq_1 <| And.intro @r255_16 <| And.intro @p255_17.eq_1 <| And.intro @r255_17 <| And.intro @p255_18.eq_1 <| And.intro @r255_18 <| And.intro @p255_19.eq_1 <| And.intro @r255_19 <| And.intro @p255_20.eq_1 <| And.intro @r255_20 <| And.intro @p255_21.eq_1 <| And.intro @r255_21 <| @b255.eq_1
/- bowline/ops.when -/
noncomputable def rg101_0 : Code := regAt Tryz.f101 0
def p101_0 : List Pl :=
 [.op ⟨some 4, .assign (.const (.int .i64 0)), none⟩]
theorem r101_0 (tab : Tab) (s : S) : exR (EV tab) rg101_0 s = norm (runS (E := EV tab) (callR (EV tab)) (roundR (EV tab)) p101_0 s) := exR_plan (by kernel_rfl) s
noncomputable def rg101_1 : Code := regAt Tryz.f101 1
def p101_1 : List Pl :=
 [.op ⟨some 5, .move (.tmp 0), none⟩]
theorem r101_1 (tab : Tab) (s : S) : exR (EV tab) rg101_1 s = norm (runS (E := EV tab) (callR (EV tab)) (roundR (EV tab)) p101_1 s) := exR_plan (by kernel_rfl) s
noncomputable def rg101_2 : Code := regAt Tryz.f101 2
def p101_2 : List Pl :=
 [.op ⟨some 6, .move (.tmp 1), none⟩,
 .op ⟨some 4, .assign (.tmp 6), none⟩]
theorem r101_2 (tab : Tab) (s : S) : exR (EV tab) rg101_2 s = norm (runS (E := EV tab) (callR (EV tab)) (roundR (EV tab)) p101_2 s) := exR_plan (by kernel_rfl) s
noncomputable def rg101_3 : Code := regAt Tryz.f101 3
def p101_3 : List Pl :=
 [.op ⟨some 4, .assign (.const (.int .i64 0)), none⟩]
theorem r101_3 (tab : Tab) (s : S) : exR (EV tab) rg101_3 s = norm (runS (E := EV tab) (callR (EV tab)) (roundR (EV tab)) p101_3 s) := exR_plan (by kernel_rfl) s
noncomputable def b101 : Code := (.seq rg101_0 (.seq (.seq rg101_1 (.cond (Operand.tmp 5) (.seq rg101_2 .ret) .skip)) (.seq rg101_3 .ret)))
theorem enter101 (tab : Tab) (args : List Value) (h : H) (hx : callExt (EV tab) 101 args = none) (hl : Nat.ble args.length 7 = true) : callR (EV tab) 101 args h = finish (EV tab) [ResultVar.tmp 4] (exR (EV tab) b101 ⟨false, 7, ofArgs args 0 .leaf, h⟩) :=
  callR_enter (F := Tryz.f101) (c := b101) (by kernel_rfl) hx (by kernel_rfl) (by kernel_rfl) hl
def fF101 := And.intro @p101_0.eq_1 <| And.intro @r101_0 <| And.intro @p101_1.eq_1 <| And.intro @r101_1 <| And.intro @p101_2.eq_1 <| And.intro @r101_2 <| And.intro @p101_3.eq_1 <| And.intro @r101_3 <| @b101.eq_1
/- bowline/ops.first -/
noncomputable def rg100_0 : Code := regAt Tryz.f100 0
def p100_0 : List Pl :=
 [.op ⟨some 2, .assign (.const (.int .i64 0)), none⟩]
theorem r100_0 (tab : Tab) (s : S) : exR (EV tab) rg100_0 s = norm (runS (E := EV tab) (callR (EV tab)) (roundR (EV tab)) p100_0 s) := exR_plan (by kernel_rfl) s
noncomputable def rg100_1 : Code := regAt Tryz.f100 1
def p100_1 : List Pl :=
 [.op ⟨some 5, .move (.tmp 0), none⟩,
 .op ⟨some 6, .call (.mk (.builtin .len) #[(.tmp 5)] #[103]), none⟩,
 .op ⟨some 7, .move (.const (.int .i64 0)), none⟩]
theorem r100_1 (tab : Tab) (s : S) : exR (EV tab) rg100_1 s = norm (runS (E := EV tab) (callR (EV tab)) (roundR (EV tab)) p100_1 s) := exR_plan (by kernel_rfl) s
noncomputable def rg100_2 : Code := regAt Tryz.f100 2
def p100_2 : List Pl :=
 [.op ⟨some 8, .binOp .lss 3 (.tmp 7) (.tmp 6) 3, none⟩]
theorem r100_2 (tab : Tab) (s : S) : exR (EV tab) rg100_2 s = norm (runS (E := EV tab) (callR (EV tab)) (roundR (EV tab)) p100_2 s) := exR_plan (by kernel_rfl) s
noncomputable def rg100_3 : Code := regAt Tryz.f100 3
def p100_3 : List Pl :=
 [.op ⟨some 9, .indexAddr 103 (.tmp 5) (.tmp 7), none⟩,
 .op ⟨some 10, .load 26 (.tmp 9), none⟩,
 .op ⟨some 4, .assign (.tmp 10), none⟩]
theorem r100_3 (tab : Tab) (s : S) : exR (EV tab) rg100_3 s = norm (runS (E := EV tab) (callR (EV tab)) (roundR (EV tab)) p100_3 s) := exR_plan (by kernel_rfl) s
noncomputable def rg100_4 : Code := regAt Tryz.f100 4
def p100_4 : List Pl :=
 [.op ⟨some 11, .move (.tmp 4), none⟩,
 .op ⟨some 12, .binOp .neq 26 (.tmp 11) (.const (.int .i64 0)) 26, none⟩]
theorem r100_4 (tab : Tab) (s : S) : exR (EV tab) rg100_4 s = norm (runS (E := EV tab) (callR (EV tab)) (roundR (EV tab)) p100_4 s) := exR_plan (by kernel_rfl) s
noncomputable def rg100_5 : Code := regAt Tryz.f100 5
def p100_5 : List Pl :=
 [.op ⟨some 13, .move (.tmp 4), none⟩,
 .op ⟨some 2, .assign (.tmp 13), none⟩]
theorem r100_5 (tab : Tab) (s : S) : exR (EV tab) rg100_5 s = norm (runS (E := EV tab) (callR (EV tab)) (roundR (EV tab)) p100_5 s) := exR_plan (by kernel_rfl) s
noncomputable def rg100_6 : Code := regAt Tryz.f100 6
def p100_6 : List Pl :=
 [.op ⟨some 14, .binOp .add 3 (.tmp 7) (.const (.int .i64 1)) 3, none⟩,
 .op ⟨some 7, .move (.tmp 14), none⟩]
theorem r100_6 (tab : Tab) (s : S) : exR (EV tab) rg100_6 s = norm (runS (E := EV tab) (callR (EV tab)) (roundR (EV tab)) p100_6 s) := exR_plan (by kernel_rfl) s
noncomputable def rg100_7 : Code := regAt Tryz.f100 7
def p100_7 : List Pl :=
 [.op ⟨some 2, .assign (.const (.int .i64 0)), none⟩]
theorem r100_7 (tab : Tab) (s : S) : exR (EV tab) rg100_7 s = norm (runS (E := EV tab) (callR (EV tab)) (roundR (EV tab)) p100_7 s) := exR_plan (by kernel_rfl) s
noncomputable def b100 : Code := (.seq rg100_0 (.seq (.seq rg100_1 (.block 0 (.loop (.seq rg100_2 (.seq (.cond (Operand.tmp 8) .skip (Code.exit 0)) (.seq (.block 1 (.seq rg100_3 (.seq rg100_4 (.cond (Operand.tmp 12) (.seq rg100_5 .ret) .skip)))) rg100_6)))))) (.seq rg100_7 .ret)))
theorem enter100 (tab : Tab) (args : List Value) (h : H) (hx : callExt (EV tab) 100 args = none) (hl : Nat.ble args.length 15 = true) : callR (EV tab) 100 args h = finish (EV tab) [ResultVar.tmp 2] (exR (EV tab) b100 ⟨false, 15, ofArgs args 0 .leaf, h⟩) :=
  callR_enter (F := Tryz.f100) (c := b100) (by kernel_rfl) hx (by kernel_rfl) (by kernel_rfl) hl
def fF100 := And.intro @p100_0.eq_1 <| And.intro @r100_0 <| And.intro @p100_1.eq_1 <| And.intro @r100_1 <| And.intro @p100_2.eq_1 <| And.intro @r100_2 <| And.intro @p100_3.eq_1 <| And.intro @r100_3 <| And.intro @p100_4.eq_1 <| And.intro @r100_4 <| And.intro @p100_5.eq_1 <| And.intro @r100_5 <| And.intro @p100_6.eq_1 <| And.intro @r100_6 <| And.intro @p100_7.eq_1 <| And.intro @r100_7 <| @b100.eq_1
/- bowline/ops.integer -/
noncomputable def rg99_0 : Code := regAt Tryz.f99 0
def p99_0 : List Pl :=
 [.op ⟨some 2, .alloc 174, none⟩,
 .op ⟨some 3, .assign (.const (.bool false)), none⟩]
theorem r99_0 (tab : Tab) (s : S) : exR (EV tab) rg99_0 s = norm (runS (E := EV tab) (callR (EV tab)) (roundR (EV tab)) p99_0 s) := exR_plan (by kernel_rfl) s
noncomputable def rg99_1 : Code := regAt Tryz.f99 1
def p99_1 : List Pl :=
 [.op ⟨some 8, .move (.tmp 0), none⟩,
 .op ⟨some 9, .call (.mk (.value (.func 126)) #[(.tmp 8)] #[9]), none⟩,
 .op ⟨some 7, .move (.tmp 9), none⟩,
 .op ⟨some 10, .extract (.tmp 7) 0, none⟩,
 .op ⟨some 11, .extract (.tmp 7) 1, none⟩,
 .op ⟨some 12, .extract (.tmp 7) 2, none⟩,
 .op ⟨some 4, .assign (.tmp 10), none⟩,
 .op ⟨some 5, .assign (.tmp 11), none⟩,
 .op ⟨some 6, .assign (.tmp 12), none⟩]
theorem r99_1 (tab : Tab) (s : S) : exR (EV tab) rg99_1 s = norm (runS (E := EV tab) (callR (EV tab)) (roundR (EV tab)) p99_1 s) := exR_plan (by kernel_rfl) s
noncomputable def rg99_2 : Code := regAt Tryz.f99 2
def p99_2 : List Pl :=
 [.op ⟨some 13, .move (.tmp 4), none⟩,
 .op ⟨some 14, .move (.tmp 5), none⟩,
 .op ⟨some 15, .build 174 #[(0, (.tmp 13)), (1, (.tmp 14))], none⟩,
 .op ⟨some 16, .move (.tmp 6), none⟩,
 .op ⟨some 17, .binOp .eql 26 (.tmp 16) (.const (.int .i64 0)) 26, none⟩,
 .op ⟨none, .store 174 (.tmp 2) (.tmp 15), none⟩,
 .op ⟨some 3, .assign (.tmp 17), none⟩]
theorem r99_2 (tab : Tab) (s : S) : exR (EV tab) rg99_2 s = norm (runS (E := EV tab) (callR (EV tab)) (roundR (EV tab)) p99_2 s) := exR_plan (by kernel_rfl) s
noncomputable def b99 : Code := (.seq rg99_0 (.seq rg99_1 (.seq rg99_2 .ret)))
theorem enter99 (tab : Tab) (args : List Value) (h : H) (hx : callExt (EV tab) 99 args = none) (hl : Nat.ble args.length 18 = true) : callR (EV tab) 99 args h = finish (EV tab) [ResultVar.cell 2 174, ResultVar.tmp 3] (exR (EV tab) b99 ⟨false, 18, ofArgs args 0 .leaf, h⟩) :=
  callR_enter (F := Tryz.f99) (c := b99) (by kernel_rfl) hx (by kernel_rfl) (by kernel_rfl) hl
def fF99 := And.intro @p99_0.eq_1 <| And.intro @r99_0 <| And.intro @p99_1.eq_1 <| And.intro @r99_1 <| And.intro @p99_2.eq_1 <| And.intro @r99_2 <| @b99.eq_1
/- bowline/ops.isFloat -/
noncomputable def rg98_0 : Code := regAt Tryz.f98 0
def p98_0 : List Pl :=
 [.op ⟨some 2, .assign (.const (.bool false)), none⟩]
theorem r98_0 (tab : Tab) (s : S) : exR (EV tab) rg98_0 s = norm (runS (E := EV tab) (callR (EV tab)) (roundR (EV tab)) p98_0 s) := exR_plan (by kernel_rfl) s
noncomputable def rg98_1 : Code := regAt Tryz.f98 1
def p98_1 : List Pl :=
 [.op ⟨some 5, .load 178 (.global 1), none⟩,
 .op ⟨some 6, .move (.const (.int .i64 0)), none⟩]
theorem r98_1 (tab : Tab) (s : S) : exR (EV tab) rg98_1 s = norm (runS (E := EV tab) (callR (EV tab)) (roundR (EV tab)) p98_1 s) := exR_plan (by kernel_rfl) s
noncomputable def rg98_2 : Code := regAt Tryz.f98 2
def p98_2 : List Pl :=
 [.op ⟨some 7, .binOp .lss 3 (.tmp 6) (.const (.int .i64 2)) 3, none⟩]
theorem r98_2 (tab : Tab) (s : S) : exR (EV tab) rg98_2 s = norm (runS (E := EV tab) (callR (EV tab)) (roundR (EV tab)) p98_2 s) := exR_plan (by kernel_rfl) s
noncomputable def rg98_3 : Code := regAt Tryz.f98 3
def p98_3 : List Pl :=
 [.op ⟨some 8, .index 178 (.tmp 5) (.tmp 6), none⟩,
 .op ⟨some 4, .alloc 177, none⟩,
 .op ⟨none, .store 177 (.tmp 4) (.tmp 8), none⟩]
theorem r98_3 (tab : Tab) (s : S) : exR (EV tab) rg98_3 s = norm (runS (E := EV tab) (callR (EV tab)) (roundR (EV tab)) p98_3 s) := exR_plan (by kernel_rfl) s
noncomputable def rg98_4 : Code := regAt Tryz.f98 4
def p98_4 : List Pl :=
 [.op ⟨some 9, .fieldAddr 177 (.tmp 4) 0, none⟩,
 .op ⟨some 10, .load 9 (.tmp 9), none⟩,
 .op ⟨some 11, .move (.tmp 0), none⟩,
 .op ⟨some 12, .binOp .eql 9 (.tmp 10) (.tmp 11) 9, none⟩]
theorem r98_4 (tab : Tab) (s : S) : exR (EV tab) rg98_4 s = norm (runS (E := EV tab) (callR (EV tab)) (roundR (EV tab)) p98_4 s) := exR_plan (by kernel_rfl) s
noncomputable def rg98_5 : Code := regAt Tryz.f98 5
def p98_5 : List Pl :=
 [.op ⟨some 2, .assign (.const (.bool true)), none⟩]
theorem r98_5 (tab : Tab) (s : S) : exR (EV tab) rg98_5 s = norm (runS (E := EV tab) (callR (EV tab)) (roundR (EV tab)) p98_5 s) := exR_plan (by kernel_rfl) s
noncomputable def rg98_6 : Code := regAt Tryz.f98 6
def p98_6 : List Pl :=
 [.op ⟨some 13, .binOp .add 3 (.tmp 6) (.const (.int .i64 1)) 3, none⟩,
 .op ⟨some 6, .move (.tmp 13), none⟩]
theorem r98_6 (tab : Tab) (s : S) : exR (EV tab) rg98_6 s = norm (runS (E := EV tab) (callR (EV tab)) (roundR (EV tab)) p98_6 s) := exR_plan (by kernel_rfl) s
noncomputable def rg98_7 : Code := regAt Tryz.f98 7
def p98_7 : List Pl :=
 [.op ⟨some 2, .assign (.const (.bool false)), none⟩]
theorem r98_7 (tab : Tab) (s : S) : exR (EV tab) rg98_7 s = norm (runS (E := EV tab) (callR (EV tab)) (roundR (EV tab)) p98_7 s) := exR_plan (by kernel_rfl) s
noncomputable def b98 : Code := (.seq rg98_0 (.seq (.seq rg98_1 (.block 0 (.loop (.seq rg98_2 (.seq (.cond (Operand.tmp 7) .skip (Code.exit 0)) (.seq (.block 1 (.seq rg98_3 (.seq rg98_4 (.cond (Operand.tmp 12) (.seq rg98_5 .ret) .skip)))) rg98_6)))))) (.seq rg98_7 .ret)))
theorem enter98 (tab : Tab) (args : List Value) (h : H) (hx : callExt (EV tab) 98 args = none) (hl : Nat.ble args.length 14 = true) : callR (EV tab) 98 args h = finish (EV tab) [ResultVar.tmp 2] (exR (EV tab) b98 ⟨false, 14, ofArgs args 0 .leaf, h⟩) :=
  callR_enter (F := Tryz.f98) (c := b98) (by kernel_rfl) hx (by kernel_rfl) (by kernel_rfl) hl
def fF98 := And.intro @p98_0.eq_1 <| And.intro @r98_0 <| And.intro @p98_1.eq_1 <| And.intro @r98_1 <| And.intro @p98_2.eq_1 <| And.intro @r98_2 <| And.intro @p98_3.eq_1 <| And.intro @r98_3 <| And.intro @p98_4.eq_1 <| And.intro @r98_4 <| And.intro @p98_5.eq_1 <| And.intro @r98_5 <| And.intro @p98_6.eq_1 <| And.intro @r98_6 <| And.intro @p98_7.eq_1 <| And.intro @r98_7 <| @b98.eq_1
/- bowline/ops.Width -/
noncomputable def rg80_0 : Code := regAt Tryz.f80 0
def p80_0 : List Pl :=
 [.op ⟨some 2, .assign (.const (.int .i64 0)), none⟩,
 .op ⟨some 3, .assign (.const (.int .i64 0)), none⟩]
theorem r80_0 (tab : Tab) (s : S) : exR (EV tab) rg80_0 s = norm (runS (E := EV tab) (callR (EV tab)) (roundR (EV tab)) p80_0 s) := exR_plan (by kernel_rfl) s
noncomputable def rg80_1 : Code := regAt Tryz.f80 1
def p80_1 : List Pl :=
 [.op ⟨some 11, .makeMap 148 none, none⟩,
 .op ⟨none, .insert 148 (.tmp 11) (.const (.string ⟨#[112,116,114]⟩)) (.const (.int .i64 64)), none⟩,
 .op ⟨some 12, .move (.tmp 11), none⟩,
 .op ⟨some 4, .assign (.tmp 12), none⟩]
theorem r80_1 (tab : Tab) (s : S) : exR (EV tab) rg80_1 s = norm (runS (E := EV tab) (callR (EV tab)) (roundR (EV tab)) p80_1 s) := exR_plan (by kernel_rfl) s
noncomputable def rg80_2 : Code := regAt Tryz.f80 2
def p80_2 : List Pl :=
 [.op ⟨some 13, .load 178 (.global 1), none⟩,
 .op ⟨some 14, .move (.const (.int .i64 0)), none⟩]
theorem r80_2 (tab : Tab) (s : S) : exR (EV tab) rg80_2 s = norm (runS (E := EV tab) (callR (EV tab)) (roundR (EV tab)) p80_2 s) := exR_plan (by kernel_rfl) s
noncomputable def rg80_3 : Code := regAt Tryz.f80 3
def p80_3 : List Pl :=
 [.op ⟨some 15, .binOp .lss 3 (.tmp 14) (.const (.int .i64 2)) 3, none⟩]
theorem r80_3 (tab : Tab) (s : S) : exR (EV tab) rg80_3 s = norm (runS (E := EV tab) (callR (EV tab)) (roundR (EV tab)) p80_3 s) := exR_plan (by kernel_rfl) s
noncomputable def rg80_4 : Code := regAt Tryz.f80 4
def p80_4 : List Pl :=
 [.op ⟨some 16, .index 178 (.tmp 13) (.tmp 14), none⟩,
 .op ⟨some 6, .alloc 177, none⟩,
 .op ⟨none, .store 177 (.tmp 6) (.tmp 16), none⟩]
theorem r80_4 (tab : Tab) (s : S) : exR (EV tab) rg80_4 s = norm (runS (E := EV tab) (callR (EV tab)) (roundR (EV tab)) p80_4 s) := exR_plan (by kernel_rfl) s
noncomputable def rg80_5 : Code := regAt Tryz.f80 5
def p80_5 : List Pl :=
 [.op ⟨some 17, .move (.tmp 4), none⟩,
 .op ⟨some 18, .fieldAddr 177 (.tmp 6) 0, none⟩,
 .op ⟨some 19, .load 9 (.tmp 18), none⟩,
 .op ⟨some 20, .fieldAddr 177 (.tmp 6) 1, none⟩,
 .op ⟨some 21, .load 3 (.tmp 20), none⟩,
 .op ⟨none, .mapUpdate 148 (.tmp 17) (.tmp 19) (.tmp 21), none⟩]
theorem r80_5 (tab : Tab) (s : S) : exR (EV tab) rg80_5 s = norm (runS (E := EV tab) (callR (EV tab)) (roundR (EV tab)) p80_5 s) := exR_plan (by kernel_rfl) s
noncomputable def rg80_6 : Code := regAt Tryz.f80 6
def p80_6 : List Pl :=
 [.op ⟨some 22, .binOp .add 3 (.tmp 14) (.const (.int .i64 1)) 3, none⟩,
 .op ⟨some 14, .move (.tmp 22), none⟩]
theorem r80_6 (tab : Tab) (s : S) : exR (EV tab) rg80_6 s = norm (runS (E := EV tab) (callR (EV tab)) (roundR (EV tab)) p80_6 s) := exR_plan (by kernel_rfl) s
noncomputable def rg80_7 : Code := regAt Tryz.f80 7
def p80_7 : List Pl :=
 [.op ⟨some 24, .move (.tmp 4), none⟩,
 .op ⟨some 25, .move (.tmp 0), none⟩,
 .op ⟨some 26, .lookup 148 (.tmp 24) (.tmp 25) true, none⟩,
 .op ⟨some 23, .move (.tmp 26), none⟩,
 .op ⟨some 27, .extract (.tmp 23) 0, none⟩,
 .op ⟨some 28, .extract (.tmp 23) 1, none⟩,
 .op ⟨some 7, .assign (.tmp 27), none⟩,
 .op ⟨some 8, .assign (.tmp 28), none⟩]
theorem r80_7 (tab : Tab) (s : S) : exR (EV tab) rg80_7 s = norm (runS (E := EV tab) (callR (EV tab)) (roundR (EV tab)) p80_7 s) := exR_plan (by kernel_rfl) s
noncomputable def rg80_8 : Code := regAt Tryz.f80 8
def p80_8 : List Pl :=
 [.op ⟨some 29, .move (.tmp 8), none⟩]
theorem r80_8 (tab : Tab) (s : S) : exR (EV tab) rg80_8 s = norm (runS (E := EV tab) (callR (EV tab)) (roundR (EV tab)) p80_8 s) := exR_plan (by kernel_rfl) s
noncomputable def rg80_9 : Code := regAt Tryz.f80 9
def p80_9 : List Pl :=
 [.op ⟨some 30, .move (.tmp 7), none⟩,
 .op ⟨some 2, .assign (.tmp 30), none⟩,
 .op ⟨some 3, .assign (.const (.int .i64 0)), none⟩]
theorem r80_9 (tab : Tab) (s : S) : exR (EV tab) rg80_9 s = norm (runS (E := EV tab) (callR (EV tab)) (roundR (EV tab)) p80_9 s) := exR_plan (by kernel_rfl) s
noncomputable def rg80_10 : Code := regAt Tryz.f80 10
def p80_10 : List Pl :=
 [.op ⟨some 32, .move (.tmp 0), none⟩,
 .op ⟨some 33, .call (.mk (.value (.func 99)) #[(.tmp 32)] #[9]), none⟩,
 .op ⟨some 31, .move (.tmp 33), none⟩,
 .op ⟨some 34, .extract (.tmp 31) 0, none⟩,
 .op ⟨some 35, .extract (.tmp 31) 1, none⟩,
 .op ⟨some 9, .alloc 174, none⟩,
 .op ⟨none, .store 174 (.tmp 9) (.tmp 34), none⟩,
 .op ⟨some 10, .assign (.tmp 35), none⟩]
theorem r80_10 (tab : Tab) (s : S) : exR (EV tab) rg80_10 s = norm (runS (E := EV tab) (callR (EV tab)) (roundR (EV tab)) p80_10 s) := exR_plan (by kernel_rfl) s
noncomputable def rg80_11 : Code := regAt Tryz.f80 11
def p80_11 : List Pl :=
 [.op ⟨some 36, .fieldAddr 174 (.tmp 9) 0, none⟩,
 .op ⟨some 37, .load 3 (.tmp 36), none⟩,
 .op ⟨some 38, .move (.tmp 10), none⟩,
 .op ⟨some 39, .unOp .not 4 (.tmp 38), none⟩,
 .chk [⟨some 37, .load 3 (.tmp 36), none⟩],
 .op ⟨some 40, .call (.mk (.value (.func 101)) #[(.tmp 39), (.const (.int .i64 12))] #[4,26]), none⟩,
 .op ⟨some 2, .assign (.tmp 37), none⟩,
 .op ⟨some 3, .assign (.tmp 40), none⟩,
 .chk [⟨some 37, .load 3 (.tmp 36), none⟩]]
theorem r80_11 (tab : Tab) (s : S) : exR (EV tab) rg80_11 s = norm (runS (E := EV tab) (callR (EV tab)) (roundR (EV tab)) p80_11 s) := exR_plan (by kernel_rfl) s
noncomputable def b80 : Code := (.seq rg80_0 (.seq rg80_1 (.seq (.seq rg80_2 (.block 0 (.loop (.seq rg80_3 (.seq (.cond (Operand.tmp 15) .skip (Code.exit 0)) (.seq (.block 1 (.seq rg80_4 rg80_5)) rg80_6)))))) (.seq (.seq rg80_7 (.seq rg80_8 (.cond (Operand.tmp 29) (.seq rg80_9 .ret) .skip))) (.seq rg80_10 (.seq rg80_11 .ret))))))
theorem enter80 (tab : Tab) (args : List Value) (h : H) (hx : callExt (EV tab) 80 args = none) (hl : Nat.ble args.length 41 = true) : callR (EV tab) 80 args h = finish (EV tab) [ResultVar.tmp 2, ResultVar.tmp 3] (exR (EV tab) b80 ⟨false, 41, ofArgs args 0 .leaf, h⟩) :=
  callR_enter (F := Tryz.f80) (c := b80) (by kernel_rfl) hx (by kernel_rfl) (by kernel_rfl) hl
def fF80 := And.intro @p80_0.eq_1 <| And.intro @r80_0 <| And.intro @p80_1.eq_1 <| And.intro @r80_1 <| And.intro @p80_2.eq_1 <| And.intro @r80_2 <| And.intro @p80_3.eq_1 <| And.intro @r80_3 <| And.intro @p80_4.eq_1 <| And.intro @r80_4 <| And.intro @p80_5.eq_1 <| And.intro @r80_5 <| And.intro @p80_6.eq_1 <| And.intro @r80_6 <| And.intro @p80_7.eq_1 <| And.intro @r80_7 <| And.intro @p80_8.eq_1 <| And.intro @r80_8 <| And.intro @p80_9.eq_1 <| And.intro @r80_9 <| And.intro @p80_10.eq_1 <| And.intro @r80_10 <| And.intro @p80_11.eq_1 <| And.intro @r80_11 <| @b80.eq_1
/- bowline/regmachine.Code -/
noncomputable def rg52_0 : Code := regAt Tryz.f52 0
def p52_0 : List Pl :=
 [.op ⟨some 2, .assign (.const (.int .i64 0)), none⟩,
 .op ⟨some 3, .assign (.const (.int .i64 0)), none⟩]
theorem r52_0 (tab : Tab) (s : S) : exR (EV tab) rg52_0 s = norm (runS (E := EV tab) (callR (EV tab)) (roundR (EV tab)) p52_0 s) := exR_plan (by kernel_rfl) s
noncomputable def rg52_1 : Code := regAt Tryz.f52 1
def p52_1 : List Pl :=
 [.op ⟨some 9, .makeMap 148 none, none⟩,
 .op ⟨none, .insert 148 (.tmp 9) (.const (.string ⟨#[102,51,50]⟩)) (.const (.int .i64 129)), none⟩,
 .op ⟨none, .insert 148 (.tmp 9) (.const (.string ⟨#[102,54,52]⟩)) (.const (.int .i64 130)), none⟩,
 .op ⟨none, .insert 148 (.tmp 9) (.const (.string ⟨#[112,116,114]⟩)) (.const (.int .i64 131)), none⟩,
 .op ⟨none, .insert 148 (.tmp 9) (.const (.string ⟨#[]⟩)) (.const (.int .i64 255)), none⟩,
 .op ⟨some 10, .move (.tmp 9), none⟩,
 .op ⟨some 4, .assign (.tmp 10), none⟩]
theorem r52_1 (tab : Tab) (s : S) : exR (EV tab) rg52_1 s = norm (runS (E := EV tab) (callR (EV tab)) (roundR (EV tab)) p52_1 s) := exR_plan (by kernel_rfl) s
noncomputable def rg52_2 : Code := regAt Tryz.f52 2
def p52_2 : List Pl :=
 [.op ⟨some 12, .move (.tmp 4), none⟩,
 .op ⟨some 13, .move (.tmp 0), none⟩,
 .op ⟨some 14, .lookup 148 (.tmp 12) (.tmp 13) true, none⟩,
 .op ⟨some 11, .move (.tmp 14), none⟩,
 .op ⟨some 15, .extract (.tmp 11) 0, none⟩,
 .op ⟨some 16, .extract (.tmp 11) 1, none⟩,
 .op ⟨some 5, .assign (.tmp 15), none⟩,
 .op ⟨some 6, .assign (.tmp 16), none⟩]
theorem r52_2 (tab : Tab) (s : S) : exR (EV tab) rg52_2 s = norm (runS (E := EV tab) (callR (EV tab)) (roundR (EV tab)) p52_2 s) := exR_plan (by kernel_rfl) s
noncomputable def rg52_3 : Code := regAt Tryz.f52 3
def p52_3 : List Pl :=
 [.op ⟨some 17, .move (.tmp 6), none⟩]
theorem r52_3 (tab : Tab) (s : S) : exR (EV tab) rg52_3 s = norm (runS (E := EV tab) (callR (EV tab)) (roundR (EV tab)) p52_3 s) := exR_plan (by kernel_rfl) s
noncomputable def rg52_4 : Code := regAt Tryz.f52 4
def p52_4 : List Pl :=
 [.op ⟨some 18, .move (.tmp 5), none⟩,
 .op ⟨some 2, .assign (.tmp 18), none⟩,
 .op ⟨some 3, .assign (.const (.int .i64 0)), none⟩]
theorem r52_4 (tab : Tab) (s : S) : exR (EV tab) rg52_4 s = norm (runS (E := EV tab) (callR (EV tab)) (roundR (EV tab)) p52_4 s) := exR_plan (by kernel_rfl) s
noncomputable def rg52_5 : Code := regAt Tryz.f52 5
def p52_5 : List Pl :=
 [.op ⟨some 20, .move (.tmp 0), none⟩,
 .op ⟨some 21, .call (.mk (.value (.func 80)) #[(.tmp 20)] #[9]), none⟩,
 .op ⟨some 19, .move (.tmp 21), none⟩,
 .op ⟨some 22, .extract (.tmp 19) 0, none⟩,
 .op ⟨some 23, .extract (.tmp 19) 1, none⟩,
 .op ⟨some 7, .assign (.tmp 22), none⟩,
 .op ⟨some 8, .assign (.tmp 23), none⟩]
theorem r52_5 (tab : Tab) (s : S) : exR (EV tab) rg52_5 s = norm (runS (E := EV tab) (callR (EV tab)) (roundR (EV tab)) p52_5 s) := exR_plan (by kernel_rfl) s
noncomputable def rg52_6 : Code := regAt Tryz.f52 6
def p52_6 : List Pl :=
 [.op ⟨some 24, .move (.tmp 8), none⟩,
 .op ⟨some 25, .binOp .neq 26 (.tmp 24) (.const (.int .i64 0)) 26, none⟩]
theorem r52_6 (tab : Tab) (s : S) : exR (EV tab) rg52_6 s = norm (runS (E := EV tab) (callR (EV tab)) (roundR (EV tab)) p52_6 s) := exR_plan (by kernel_rfl) s
noncomputable def rg52_7 : Code := regAt Tryz.f52 7
def p52_7 : List Pl :=
 [.op ⟨some 2, .assign (.const (.int .i64 0)), none⟩,
 .op ⟨some 3, .assign (.const (.int .i64 12)), none⟩]
theorem r52_7 (tab : Tab) (s : S) : exR (EV tab) rg52_7 s = norm (runS (E := EV tab) (callR (EV tab)) (roundR (EV tab)) p52_7 s) := exR_plan (by kernel_rfl) s
noncomputable def rg52_8 : Code := regAt Tryz.f52 8
def p52_8 : List Pl :=
 [.op ⟨some 26, .move (.tmp 0), none⟩,
 .op ⟨some 27, .index 9 (.tmp 26) (.const (.int .i64 0)), none⟩,
 .op ⟨some 28, .binOp .eql 5 (.tmp 27) (.const (.int .u8 105)) 5, none⟩]
theorem r52_8 (tab : Tab) (s : S) : exR (EV tab) rg52_8 s = norm (runS (E := EV tab) (callR (EV tab)) (roundR (EV tab)) p52_8 s) := exR_plan (by kernel_rfl) s
noncomputable def rg52_9 : Code := regAt Tryz.f52 9
def p52_9 : List Pl :=
 [.op ⟨some 29, .move (.tmp 7), none⟩,
 .op ⟨some 30, .binOp .add 3 (.tmp 29) (.const (.int .i64 64)) 3, none⟩,
 .op ⟨some 7, .assign (.tmp 30), none⟩]
theorem r52_9 (tab : Tab) (s : S) : exR (EV tab) rg52_9 s = norm (runS (E := EV tab) (callR (EV tab)) (roundR (EV tab)) p52_9 s) := exR_plan (by kernel_rfl) s
noncomputable def rg52_10 : Code := regAt Tryz.f52 10
def p52_10 : List Pl :=
 [.op ⟨some 31, .move (.tmp 7), none⟩,
 .op ⟨some 2, .assign (.tmp 31), none⟩,
 .op ⟨some 3, .assign (.const (.int .i64 0)), none⟩]
theorem r52_10 (tab : Tab) (s : S) : exR (EV tab) rg52_10 s = norm (runS (E := EV tab) (callR (EV tab)) (roundR (EV tab)) p52_10 s) := exR_plan (by kernel_rfl) s
noncomputable def b52 : Code := (.seq rg52_0 (.seq rg52_1 (.seq (.seq rg52_2 (.seq rg52_3 (.cond (Operand.tmp 17) (.seq rg52_4 .ret) .skip))) (.seq rg52_5 (.seq (.seq rg52_6 (.cond (Operand.tmp 25) (.seq rg52_7 .ret) .skip)) (.seq (.seq rg52_8 (.cond (Operand.tmp 28) rg52_9 .skip)) (.seq rg52_10 .ret)))))))
theorem enter52 (tab : Tab) (args : List Value) (h : H) (hx : callExt (EV tab) 52 args = none) (hl : Nat.ble args.length 32 = true) : callR (EV tab) 52 args h = finish (EV tab) [ResultVar.tmp 2, ResultVar.tmp 3] (exR (EV tab) b52 ⟨false, 32, ofArgs args 0 .leaf, h⟩) :=
  callR_enter (F := Tryz.f52) (c := b52) (by kernel_rfl) hx (by kernel_rfl) (by kernel_rfl) hl
def fF52 := And.intro @p52_0.eq_1 <| And.intro @r52_0 <| And.intro @p52_1.eq_1 <| And.intro @r52_1 <| And.intro @p52_2.eq_1 <| And.intro @r52_2 <| And.intro @p52_3.eq_1 <| And.intro @r52_3 <| And.intro @p52_4.eq_1 <| And.intro @r52_4 <| And.intro @p52_5.eq_1 <| And.intro @r52_5 <| And.intro @p52_6.eq_1 <| And.intro @r52_6 <| And.intro @p52_7.eq_1 <| And.intro @r52_7 <| And.intro @p52_8.eq_1 <| And.intro @r52_8 <| And.intro @p52_9.eq_1 <| And.intro @r52_9 <| And.intro @p52_10.eq_1 <| And.intro @r52_10 <| @b52.eq_1
/- bowline/ops.form -/
noncomputable def rg96_0 : Code := regAt Tryz.f96 0
def p96_0 : List Pl :=
 [.op ⟨some 2, .assign (.const (.int .i64 0)), none⟩]
theorem r96_0 (tab : Tab) (s : S) : exR (EV tab) rg96_0 s = norm (runS (E := EV tab) (callR (EV tab)) (roundR (EV tab)) p96_0 s) := exR_plan (by kernel_rfl) s
noncomputable def rg96_1 : Code := regAt Tryz.f96 1
def p96_1 : List Pl :=
 [.op ⟨some 5, .move (.tmp 0), none⟩,
 .op ⟨some 6, .binOp .geq 3 (.tmp 5) (.const (.int .i64 38)) 3, none⟩,
 .op ⟨some 7, .move (.tmp 6), none⟩,
 .op ⟨some 8, .move (.tmp 0), some (7, true)⟩,
 .op ⟨some 9, .binOp .leq 3 (.tmp 8) (.const (.int .i64 45)) 3, some (7, true)⟩,
 .op ⟨some 10, .pick (.tmp 7) (.tmp 9) (.const (.bool false)), none⟩]
theorem r96_1 (tab : Tab) (s : S) : exR (EV tab) rg96_1 s = norm (runS (E := EV tab) (callR (EV tab)) (roundR (EV tab)) p96_1 s) := exR_plan (by kernel_rfl) s
noncomputable def rg96_2 : Code := regAt Tryz.f96 2
def p96_2 : List Pl :=
 [.op ⟨some 2, .assign (.const (.int .i64 4)), none⟩]
theorem r96_2 (tab : Tab) (s : S) : exR (EV tab) rg96_2 s = norm (runS (E := EV tab) (callR (EV tab)) (roundR (EV tab)) p96_2 s) := exR_plan (by kernel_rfl) s
noncomputable def rg96_3 : Code := regAt Tryz.f96 3
def p96_3 : List Pl :=
 [.op ⟨some 12, .move (.tmp 0), none⟩,
 .op ⟨some 13, .call (.mk (.value (.func 97)) #[(.tmp 12)] #[3]), none⟩,
 .op ⟨some 11, .move (.tmp 13), none⟩,
 .op ⟨some 14, .extract (.tmp 11) 0, none⟩,
 .op ⟨some 15, .extract (.tmp 11) 1, none⟩,
 .op ⟨some 3, .alloc 169, none⟩,
 .op ⟨none, .store 169 (.tmp 3) (.tmp 14), none⟩,
 .op ⟨some 4, .assign (.tmp 15), none⟩]
theorem r96_3 (tab : Tab) (s : S) : exR (EV tab) rg96_3 s = norm (runS (E := EV tab) (callR (EV tab)) (roundR (EV tab)) p96_3 s) := exR_plan (by kernel_rfl) s
noncomputable def rg96_4 : Code := regAt Tryz.f96 4
def p96_4 : List Pl :=
 [.op ⟨some 16, .fieldAddr 169 (.tmp 3) 1, none⟩,
 .op ⟨some 17, .load 3 (.tmp 16), none⟩,
 .op ⟨some 2, .assign (.tmp 17), none⟩]
theorem r96_4 (tab : Tab) (s : S) : exR (EV tab) rg96_4 s = norm (runS (E := EV tab) (callR (EV tab)) (roundR (EV tab)) p96_4 s) := exR_plan (by kernel_rfl) s
noncomputable def b96 : Code := (.seq rg96_0 (.seq (.seq rg96_1 (.cond (Operand.tmp 10) (.seq rg96_2 .ret) .skip)) (.seq rg96_3 (.seq rg96_4 .ret))))
theorem enter96 (tab : Tab) (args : List Value) (h : H) (hx : callExt (EV tab) 96 args = none) (hl : Nat.ble args.length 18 = true) : callR (EV tab) 96 args h = finish (EV tab) [ResultVar.tmp 2] (exR (EV tab) b96 ⟨false, 18, ofArgs args 0 .leaf, h⟩) :=
  callR_enter (F := Tryz.f96) (c := b96) (by kernel_rfl) hx (by kernel_rfl) (by kernel_rfl) hl
def fF96 := And.intro @p96_0.eq_1 <| And.intro @r96_0 <| And.intro @p96_1.eq_1 <| And.intro @r96_1 <| And.intro @p96_2.eq_1 <| And.intro @r96_2 <| And.intro @p96_3.eq_1 <| And.intro @r96_3 <| And.intro @p96_4.eq_1 <| And.intro @r96_4 <| @b96.eq_1
/- bowline/ops.Form -/
noncomputable def rg77_0 : Code := regAt Tryz.f77 0
def p77_0 : List Pl :=
 [.op ⟨some 2, .assign (.const (.int .i64 0)), none⟩,
 .op ⟨some 3, .assign (.const (.int .i64 0)), none⟩]
theorem r77_0 (tab : Tab) (s : S) : exR (EV tab) rg77_0 s = norm (runS (E := EV tab) (callR (EV tab)) (roundR (EV tab)) p77_0 s) := exR_plan (by kernel_rfl) s
noncomputable def rg77_1 : Code := regAt Tryz.f77 1
def p77_1 : List Pl :=
 [.op ⟨some 4, .move (.tmp 0), none⟩,
 .op ⟨some 5, .binOp .lss 3 (.tmp 4) (.const (.int .i64 0)) 3, none⟩,
 .op ⟨some 6, .move (.tmp 5), none⟩,
 .op ⟨some 7, .move (.tmp 0), some (6, false)⟩,
 .op ⟨some 8, .binOp .geq 3 (.tmp 7) (.const (.int .i64 70)) 3, some (6, false)⟩,
 .op ⟨some 9, .pick (.tmp 6) (.const (.bool true)) (.tmp 8), none⟩]
theorem r77_1 (tab : Tab) (s : S) : exR (EV tab) rg77_1 s = norm (runS (E := EV tab) (callR (EV tab)) (roundR (EV tab)) p77_1 s) := exR_plan (by kernel_rfl) s
noncomputable def rg77_2 : Code := regAt Tryz.f77 2
def p77_2 : List Pl :=
 [.op ⟨some 2, .assign (.const (.int .i64 0)), none⟩,
 .op ⟨some 3, .assign (.const (.int .i64 8)), none⟩]
theorem r77_2 (tab : Tab) (s : S) : exR (EV tab) rg77_2 s = norm (runS (E := EV tab) (callR (EV tab)) (roundR (EV tab)) p77_2 s) := exR_plan (by kernel_rfl) s
noncomputable def rg77_3 : Code := regAt Tryz.f77 3
def p77_3 : List Pl :=
 [.op ⟨some 10, .move (.tmp 0), none⟩,
 .op ⟨some 11, .call (.mk (.value (.func 96)) #[(.tmp 10)] #[3]), none⟩,
 .op ⟨some 2, .assign (.tmp 11), none⟩,
 .op ⟨some 3, .assign (.const (.int .i64 0)), none⟩]
theorem r77_3 (tab : Tab) (s : S) : exR (EV tab) rg77_3 s = norm (runS (E := EV tab) (callR (EV tab)) (roundR (EV tab)) p77_3 s) := exR_plan (by kernel_rfl) s
noncomputable def b77 : Code := (.seq rg77_0 (.seq (.seq rg77_1 (.cond (Operand.tmp 9) (.seq rg77_2 .ret) .skip)) (.seq rg77_3 .ret)))
theorem enter77 (tab : Tab) (args : List Value) (h : H) (hx : callExt (EV tab) 77 args = none) (hl : Nat.ble args.length 12 = true) : callR (EV tab) 77 args h = finish (EV tab) [ResultVar.tmp 2, ResultVar.tmp 3] (exR (EV tab) b77 ⟨false, 12, ofArgs args 0 .leaf, h⟩) :=
  callR_enter (F := Tryz.f77) (c := b77) (by kernel_rfl) hx (by kernel_rfl) (by kernel_rfl) hl
def fF77 := And.intro @p77_0.eq_1 <| And.intro @r77_0 <| And.intro @p77_1.eq_1 <| And.intro @r77_1 <| And.intro @p77_2.eq_1 <| And.intro @r77_2 <| And.intro @p77_3.eq_1 <| And.intro @r77_3 <| @b77.eq_1
/- bowline/ops.Takes -/
noncomputable def rg78_0 : Code := regAt Tryz.f78 0
def p78_0 : List Pl :=
 [.op ⟨some 4, .assign (.const (.bool false)), none⟩]
theorem r78_0 (tab : Tab) (s : S) : exR (EV tab) rg78_0 s = norm (runS (E := EV tab) (callR (EV tab)) (roundR (EV tab)) p78_0 s) := exR_plan (by kernel_rfl) s
noncomputable def rg78_1 : Code := regAt Tryz.f78 1
def p78_1 : List Pl :=
 [.op ⟨some 10, .move (.tmp 0), none⟩,
 .op ⟨some 11, .call (.mk (.value (.func 97)) #[(.tmp 10)] #[3]), none⟩,
 .op ⟨some 9, .move (.tmp 11), none⟩,
 .op ⟨some 12, .extract (.tmp 9) 0, none⟩,
 .op ⟨some 13, .extract (.tmp 9) 1, none⟩,
 .op ⟨some 5, .alloc 169, none⟩,
 .op ⟨none, .store 169 (.tmp 5) (.tmp 12), none⟩,
 .op ⟨some 6, .assign (.tmp 13), none⟩]
theorem r78_1 (tab : Tab) (s : S) : exR (EV tab) rg78_1 s = norm (runS (E := EV tab) (callR (EV tab)) (roundR (EV tab)) p78_1 s) := exR_plan (by kernel_rfl) s
noncomputable def rg78_2 : Code := regAt Tryz.f78 2
def p78_2 : List Pl :=
 [.op ⟨some 14, .move (.tmp 6), none⟩,
 .op ⟨some 15, .unOp .not 4 (.tmp 14), none⟩]
theorem r78_2 (tab : Tab) (s : S) : exR (EV tab) rg78_2 s = norm (runS (E := EV tab) (callR (EV tab)) (roundR (EV tab)) p78_2 s) := exR_plan (by kernel_rfl) s
noncomputable def rg78_3 : Code := regAt Tryz.f78 3
def p78_3 : List Pl :=
 [.op ⟨some 4, .assign (.const (.bool false)), none⟩]
theorem r78_3 (tab : Tab) (s : S) : exR (EV tab) rg78_3 s = norm (runS (E := EV tab) (callR (EV tab)) (roundR (EV tab)) p78_3 s) := exR_plan (by kernel_rfl) s
noncomputable def rg78_4 : Code := regAt Tryz.f78 4
def p78_4 : List Pl :=
 [.op ⟨some 16, .move (.tmp 1), none⟩,
 .op ⟨some 17, .call (.mk (.value (.func 98)) #[(.tmp 16)] #[9]), none⟩]
theorem r78_4 (tab : Tab) (s : S) : exR (EV tab) rg78_4 s = norm (runS (E := EV tab) (callR (EV tab)) (roundR (EV tab)) p78_4 s) := exR_plan (by kernel_rfl) s
noncomputable def rg78_5 : Code := regAt Tryz.f78 5
def p78_5 : List Pl :=
 [.op ⟨some 18, .slice 172 (.global 0) none none none, none⟩,
 .op ⟨some 19, .move (.tmp 0), none⟩,
 .op ⟨some 20, .call (.mk (.value (.func 66)) #[(.tmp 18), (.tmp 19)] #[44,3]), none⟩,
 .op ⟨some 4, .assign (.tmp 20), none⟩]
theorem r78_5 (tab : Tab) (s : S) : exR (EV tab) rg78_5 s = norm (runS (E := EV tab) (callR (EV tab)) (roundR (EV tab)) p78_5 s) := exR_plan (by kernel_rfl) s
noncomputable def rg78_6 : Code := regAt Tryz.f78 6
def p78_6 : List Pl :=
 [.op ⟨some 22, .move (.tmp 1), none⟩,
 .op ⟨some 23, .call (.mk (.value (.func 99)) #[(.tmp 22)] #[9]), none⟩,
 .op ⟨some 21, .move (.tmp 23), none⟩,
 .op ⟨some 24, .extract (.tmp 21) 0, none⟩,
 .op ⟨some 25, .extract (.tmp 21) 1, none⟩,
 .op ⟨some 7, .alloc 174, none⟩,
 .op ⟨none, .store 174 (.tmp 7) (.tmp 24), none⟩,
 .op ⟨some 8, .assign (.tmp 25), none⟩]
theorem r78_6 (tab : Tab) (s : S) : exR (EV tab) rg78_6 s = norm (runS (E := EV tab) (callR (EV tab)) (roundR (EV tab)) p78_6 s) := exR_plan (by kernel_rfl) s
noncomputable def rg78_7 : Code := regAt Tryz.f78 7
def p78_7 : List Pl :=
 [.op ⟨some 26, .move (.tmp 0), none⟩]
theorem r78_7 (tab : Tab) (s : S) : exR (EV tab) rg78_7 s = norm (runS (E := EV tab) (callR (EV tab)) (roundR (EV tab)) p78_7 s) := exR_plan (by kernel_rfl) s
noncomputable def rg78_8 : Code := regAt Tryz.f78 8
def p78_8 : List Pl :=
 [.op ⟨some 28, .binOp .eql 3 (.tmp 26) (.const (.int .i64 46)) 3, none⟩,
 .op ⟨some 27, .assign (.tmp 28), none⟩]
theorem r78_8 (tab : Tab) (s : S) : exR (EV tab) rg78_8 s = norm (runS (E := EV tab) (callR (EV tab)) (roundR (EV tab)) p78_8 s) := exR_plan (by kernel_rfl) s
noncomputable def rg78_9 : Code := regAt Tryz.f78 9
def p78_9 : List Pl :=
 [.op ⟨some 29, .binOp .eql 3 (.tmp 26) (.const (.int .i64 47)) 3, none⟩,
 .op ⟨some 27, .assign (.tmp 29), none⟩]
theorem r78_9 (tab : Tab) (s : S) : exR (EV tab) rg78_9 s = norm (runS (E := EV tab) (callR (EV tab)) (roundR (EV tab)) p78_9 s) := exR_plan (by kernel_rfl) s
noncomputable def rg78_10 : Code := regAt Tryz.f78 10
def p78_10 : List Pl :=
 [.op ⟨some 30, .binOp .eql 3 (.tmp 26) (.const (.int .i64 48)) 3, none⟩,
 .op ⟨some 27, .assign (.tmp 30), none⟩]
theorem r78_10 (tab : Tab) (s : S) : exR (EV tab) rg78_10 s = norm (runS (E := EV tab) (callR (EV tab)) (roundR (EV tab)) p78_10 s) := exR_plan (by kernel_rfl) s
noncomputable def rg78_11 : Code := regAt Tryz.f78 11
def p78_11 : List Pl :=
 [.op ⟨some 31, .move (.tmp 8), none⟩,
 .op ⟨some 32, .move (.tmp 31), none⟩,
 .op ⟨some 33, .fieldAddr 174 (.tmp 7) 1, some (32, true)⟩,
 .op ⟨some 34, .load 4 (.tmp 33), some (32, true)⟩,
 .op ⟨some 35, .unOp .not 4 (.tmp 34), some (32, true)⟩,
 .op ⟨some 36, .pick (.tmp 32) (.tmp 35) (.const (.bool false)), none⟩,
 .op ⟨some 4, .assign (.tmp 36), none⟩]
theorem r78_11 (tab : Tab) (s : S) : exR (EV tab) rg78_11 s = norm (runS (E := EV tab) (callR (EV tab)) (roundR (EV tab)) p78_11 s) := exR_plan (by kernel_rfl) s
noncomputable def rg78_12 : Code := regAt Tryz.f78 12
def p78_12 : List Pl :=
 [.op ⟨some 38, .binOp .eql 3 (.tmp 26) (.const (.int .i64 49)) 3, none⟩,
 .op ⟨some 37, .assign (.tmp 38), none⟩]
theorem r78_12 (tab : Tab) (s : S) : exR (EV tab) rg78_12 s = norm (runS (E := EV tab) (callR (EV tab)) (roundR (EV tab)) p78_12 s) := exR_plan (by kernel_rfl) s
noncomputable def rg78_13 : Code := regAt Tryz.f78 13
def p78_13 : List Pl :=
 [.op ⟨some 39, .move (.tmp 8), none⟩,
 .op ⟨some 40, .move (.tmp 39), none⟩,
 .op ⟨some 41, .fieldAddr 174 (.tmp 7) 1, some (40, true)⟩,
 .op ⟨some 42, .load 4 (.tmp 41), some (40, true)⟩,
 .op ⟨some 43, .unOp .not 4 (.tmp 42), some (40, true)⟩,
 .op ⟨some 44, .pick (.tmp 40) (.tmp 43) (.const (.bool false)), none⟩,
 .op ⟨some 45, .move (.tmp 44), none⟩,
 .op ⟨some 46, .fieldAddr 174 (.tmp 7) 0, some (45, true)⟩,
 .op ⟨some 47, .load 3 (.tmp 46), some (45, true)⟩,
 .op ⟨some 48, .binOp .rem 3 (.tmp 47) (.const (.int .i64 8)) 3, some (45, true)⟩,
 .op ⟨some 49, .binOp .eql 3 (.tmp 48) (.const (.int .i64 0)) 3, some (45, true)⟩,
 .op ⟨some 50, .pick (.tmp 45) (.tmp 49) (.const (.bool false)), none⟩,
 .op ⟨some 4, .assign (.tmp 50), none⟩]
theorem r78_13 (tab : Tab) (s : S) : exR (EV tab) rg78_13 s = norm (runS (E := EV tab) (callR (EV tab)) (roundR (EV tab)) p78_13 s) := exR_plan (by kernel_rfl) s
noncomputable def rg78_14 : Code := regAt Tryz.f78 14
def p78_14 : List Pl :=
 [.op ⟨some 51, .move (.tmp 8), none⟩,
 .op ⟨some 4, .assign (.tmp 51), none⟩]
theorem r78_14 (tab : Tab) (s : S) : exR (EV tab) rg78_14 s = norm (runS (E := EV tab) (callR (EV tab)) (roundR (EV tab)) p78_14 s) := exR_plan (by kernel_rfl) s
noncomputable def b78 : Code := (.seq rg78_0 (.seq (.seq rg78_1 (.seq rg78_2 (.cond (Operand.tmp 15) (.seq rg78_3 .ret) .skip))) (.seq (.seq rg78_4 (.cond (Operand.tmp 17) (.seq rg78_5 .ret) .skip)) (.seq rg78_6 (.seq (.seq rg78_7 (.block 0 (.seq (.seq rg78_8 (.cond (Operand.tmp 27) .skip (.seq rg78_9 (.cond (Operand.tmp 27) .skip rg78_10)))) (.cond (Operand.tmp 27) (.seq rg78_11 .ret) (.seq rg78_12 (.cond (Operand.tmp 37) (.seq rg78_13 .ret) .skip)))))) (.seq rg78_14 .ret))))))
theorem enter78 (tab : Tab) (args : List Value) (h : H) (hx : callExt (EV tab) 78 args = none) (hl : Nat.ble args.length 52 = true) : callR (EV tab) 78 args h = finish (EV tab) [ResultVar.tmp 4] (exR (EV tab) b78 ⟨false, 52, ofArgs args 0 .leaf, h⟩) :=
  callR_enter (F := Tryz.f78) (c := b78) (by kernel_rfl) hx (by kernel_rfl) (by kernel_rfl) hl
def fF78 := And.intro @p78_0.eq_1 <| And.intro @r78_0 <| And.intro @p78_1.eq_1 <| And.intro @r78_1 <| And.intro @p78_2.eq_1 <| And.intro @r78_2 <| And.intro @p78_3.eq_1 <| And.intro @r78_3 <| And.intro @p78_4.eq_1 <| And.intro @r78_4 <| And.intro @p78_5.eq_1 <| And.intro @r78_5 <| And.intro @p78_6.eq_1 <| And.intro @r78_6 <| And.intro @p78_7.eq_1 <| And.intro @r78_7 <| And.intro @p78_8.eq_1 <| And.intro @r78_8 <| And.intro @p78_9.eq_1 <| And.intro @r78_9 <| And.intro @p78_10.eq_1 <| And.intro @r78_10 <| And.intro @p78_11.eq_1 <| And.intro @r78_11 <| And.intro @p78_12.eq_1 <| And.intro @r78_12 <| And.intro @p78_13.eq_1 <| And.intro @r78_13 <| And.intro @p78_14.eq_1 <| And.intro @r78_14 <| @b78.eq_1
theorem ti3 (tab : Tab) : (EV tab).info 3 = some ⟨.int .i64, 1, 8, [.int .i64 0]⟩ := by kernel_rfl
theorem ti4 (tab : Tab) : (EV tab).info 4 = some ⟨.bool, 1, 1, [.bool false]⟩ := by kernel_rfl
theorem ti5 (tab : Tab) : (EV tab).info 5 = some ⟨.int .u8, 1, 1, [.int .u8 0]⟩ := by kernel_rfl
theorem ti9 (tab : Tab) : (EV tab).info 9 = some ⟨.string, 1, 16, [.string ⟨#[]⟩]⟩ := by kernel_rfl
theorem ti21 (tab : Tab) : (EV tab).info 21 = some ⟨.int .i32, 1, 4, [.int .i32 0]⟩ := by kernel_rfl
theorem ti23 (tab : Tab) : (EV tab).info 23 = some ⟨.slice 5, 1, 24, [.slice none 0 0]⟩ := by kernel_rfl
theorem ti26 (tab : Tab) : (EV tab).info 26 = some ⟨.int .i64, 1, 8, [.int .i64 0]⟩ := by kernel_rfl
theorem ti38 (tab : Tab) : (EV tab).info 38 = some ⟨.int .u64, 1, 8, [.int .u64 0]⟩ := by kernel_rfl
theorem ti41 (tab : Tab) : (EV tab).info 41 = some ⟨.struct #[⟨ "Op", 3, 0, false, "", "", 0⟩, ⟨ "Type", 9, 1, false, "", "", 8⟩, ⟨ "To", 9, 2, false, "", "", 24⟩, ⟨ "Num", 38, 3, false, "", "", 40⟩, ⟨ "Imm", 3, 4, false, "", "", 48⟩, ⟨ "Size", 3, 5, false, "", "", 56⟩], 6, 64, [.int .i64 0, .string ⟨#[]⟩, .string ⟨#[]⟩, .int .u64 0, .int .i64 0, .int .i64 0]⟩ := by kernel_rfl
theorem ti44 (tab : Tab) : (EV tab).info 44 = some ⟨.slice 3, 1, 24, [.slice none 0 0]⟩ := by kernel_rfl
theorem ti58 (tab : Tab) : (EV tab).info 58 = some ⟨.slice 38, 1, 24, [.slice none 0 0]⟩ := by kernel_rfl
theorem ti87 (tab : Tab) : (EV tab).info 87 = some ⟨.array 2 3, 2, 16, [.int .i64 0, .int .i64 0]⟩ := by kernel_rfl
theorem ti88 (tab : Tab) : (EV tab).info 88 = some ⟨.func #[41] #[4] false, 1, 8, [.nilFunc]⟩ := by kernel_rfl
theorem ti90 (tab : Tab) : (EV tab).info 90 = some ⟨.struct #[⟨ "name", 9, 0, false, "", "bowline/stackmachine", 0⟩, ⟨ "operands", 9, 1, false, "", "bowline/stackmachine", 16⟩, ⟨ "effect", 87, 2, false, "", "bowline/stackmachine", 32⟩, ⟨ "right", 88, 4, false, "", "bowline/stackmachine", 48⟩], 5, 56, [.string ⟨#[]⟩, .string ⟨#[]⟩, .int .i64 0, .int .i64 0, .nilFunc]⟩ := by kernel_rfl
theorem ti94 (tab : Tab) : (EV tab).info 94 = some ⟨.interface #[("Error", 100)], 1, 16, [.nilIface]⟩ := by kernel_rfl
theorem ti103 (tab : Tab) : (EV tab).info 103 = some ⟨.slice 26, 1, 24, [.slice none 0 0]⟩ := by kernel_rfl
theorem ti116 (tab : Tab) : (EV tab).info 116 = some ⟨.slice 90, 1, 24, [.slice none 0 0]⟩ := by kernel_rfl
theorem ti148 (tab : Tab) : (EV tab).info 148 = some ⟨.map 9 3, 1, 8, [.map none]⟩ := by kernel_rfl
theorem ti167 (tab : Tab) : (EV tab).info 167 = some ⟨.func #[174, 38, 38] #[210] false, 1, 8, [.nilFunc]⟩ := by kernel_rfl
theorem ti169 (tab : Tab) : (EV tab).info 169 = some ⟨.struct #[⟨ "op", 3, 0, false, "", "bowline/ops", 0⟩, ⟨ "form", 3, 1, false, "", "bowline/ops", 8⟩, ⟨ "kinds", 44, 2, false, "", "bowline/ops", 16⟩, ⟨ "do", 167, 3, false, "", "bowline/ops", 40⟩], 4, 48, [.int .i64 0, .int .i64 0, .slice none 0 0, .nilFunc]⟩ := by kernel_rfl
theorem ti172 (tab : Tab) : (EV tab).info 172 = some ⟨.array 9 3, 9, 72, [.int .i64 0, .int .i64 0, .int .i64 0, .int .i64 0, .int .i64 0, .int .i64 0, .int .i64 0, .int .i64 0, .int .i64 0]⟩ := by kernel_rfl
theorem ti174 (tab : Tab) : (EV tab).info 174 = some ⟨.struct #[⟨ "width", 3, 0, false, "", "bowline/ops", 0⟩, ⟨ "signed", 4, 1, false, "", "bowline/ops", 8⟩], 2, 16, [.int .i64 0, .bool false]⟩ := by kernel_rfl
theorem ti177 (tab : Tab) : (EV tab).info 177 = some ⟨.struct #[⟨ "name", 9, 0, false, "", "bowline/ops", 0⟩, ⟨ "width", 3, 1, false, "", "bowline/ops", 16⟩], 2, 24, [.string ⟨#[]⟩, .int .i64 0]⟩ := by kernel_rfl
theorem ti178 (tab : Tab) : (EV tab).info 178 = some ⟨.array 2 177, 4, 48, [.string ⟨#[]⟩, .int .i64 0, .string ⟨#[]⟩, .int .i64 0]⟩ := by kernel_rfl
theorem ti244 (tab : Tab) : (EV tab).info 244 = some ⟨.struct #[⟨ "width", 3, 0, false, "", "bowline/wide", 0⟩, ⟨ "signed", 4, 1, false, "", "bowline/wide", 8⟩], 2, 16, [.int .i64 0, .bool false]⟩ := by kernel_rfl
theorem ti246 (tab : Tab) : (EV tab).info 246 = some ⟨.struct #[⟨ "integer", 244, 0, true, "", "bowline/wide", 0⟩, ⟨ "name", 9, 2, false, "", "bowline/wide", 16⟩], 3, 32, [.int .i64 0, .bool false, .string ⟨#[]⟩]⟩ := by kernel_rfl
theorem ti290 (tab : Tab) : (EV tab).info 290 = some ⟨.map 9 4, 1, 8, [.map none]⟩ := by kernel_rfl
def tTGa := And.intro @ti3 <| And.intro @ti4 <| And.intro @ti5 <| And.intro @ti9 <| And.intro @ti21 <| And.intro @ti23 <| And.intro @ti26 <| And.intro @ti38 <| And.intro @ti41 <| And.intro @ti44 <| And.intro @ti58 <| And.intro @ti87 <| And.intro @ti88 <| And.intro @ti90 <| And.intro @ti94 <| And.intro @ti103 <| And.intro @ti116 <| And.intro @ti148 <| And.intro @ti167 <| And.intro @ti169 <| And.intro @ti172 <| And.intro @ti174 <| And.intro @ti177 <| And.intro @ti178 <| And.intro @ti244 <| And.intro @ti246 <| @ti290
end Go.D
