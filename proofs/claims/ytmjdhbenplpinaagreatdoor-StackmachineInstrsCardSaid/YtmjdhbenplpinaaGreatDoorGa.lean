/- Plans of the functions, printed by genfn2.py out of the print of them by Lean; each is proved to be the code. -/
import Derived.Test.YtmjdhbenplpinaaGreatDoorEV
namespace Go.D
open Go.Proofs
set_option maxRecDepth 100000
set_option linter.defProp false
/- (*strings.Builder).String -/
theorem fF28 : RG 28 0 [oq 2 (.assign (sq #[]))] ∧
 RG 28 1 [mq 3 0, oq 4 (.nilCheck (tq 3)), oq 5 (.fieldAddr 82 (tq 4) 1), oq 6 (.load 49 (tq 5)), oq 7 (.call (.mk (.builtin .unsafeSliceData) #[(tq 6)] #[49])), mq 8 0, oq 9 (.nilCheck (tq 8)), oq 10 (.fieldAddr 82 (tq 9) 1), oq 11 (.load 49 (tq 10)), oq 12 (.call (.mk (.builtin .len) #[(tq 11)] #[49])), .chk [⟨some 6, .load 49 (tq 5), none⟩, ⟨some 11, .load 49 (tq 10), none⟩, ⟨some 12, .call (.mk (.builtin .len) #[(tq 11)] #[49]), none⟩], oq 13 (.call (.mk (.builtin .unsafeString) #[(tq 7), (tq 12)] #[124,3])), oq 2 (.assign (tq 13)), .chk []] := by and_intros <;> exact rgo fun _ => by kernel_rfl
theorem enter28 : ENT 28 14 [.tmp 2] (.seq (Rg 28 0) (.seq (Rg 28 1) .ret)) := ent Tryz.f28 (by kernel_rfl)
/- (*strings.Builder).WriteString -/
theorem fF26 : RG 26 0 [oq 4 (.assign (cq 0)), oq 5 (.assign (.const .nilIface))] ∧
 RG 26 1 [mq 6 0, oq 7 (.call (.mk (.value (.func 49)) #[(tq 6)] #[80]))] ∧
 RG 26 2 [mq 8 0, mq 9 0, oq 10 (.nilCheck (tq 9)), oq 11 (.fieldAddr 82 (tq 10) 1), oq 12 (.load 49 (tq 11)), mq 13 1, oq 14 (.call (.mk (.builtin .append) #[(tq 12), (tq 13)] #[49,9])), oq 15 (.nilCheck (tq 8)), oq 16 (.fieldAddr 82 (tq 15) 1), .op ⟨none, .store 49 (tq 16) (tq 14), none⟩] ∧
 RG 26 3 [mq 17 1, oq 18 (.call (.mk (.builtin .len) #[(tq 17)] #[9])), oq 4 (.assign (tq 18)), oq 5 (.assign (.const .nilIface))] := by and_intros <;> exact rgo fun _ => by kernel_rfl
theorem enter26 : ENT 26 19 [.tmp 4, .tmp 5] (.seq (Rg 26 0) (.seq (Rg 26 1) (.seq (Rg 26 2) (.seq (Rg 26 3) .ret)))) := ent Tryz.f26 (by kernel_rfl)
/- (bowline/stackmachine.Instr).bytes -/
theorem r31_0 : RG 31 0 [oq 1 (.box 39 (tq 0)), oq 2 (.assign (.const (.slice none 0 0)))] := rgo fun _ => by kernel_rfl
theorem r31_1 : RG 31 1 [oq 9 (.fieldAddr 39 (tq 1) 0), oq 10 (.load 3 (tq 9)), oq 11 (.call (.mk (.value (.func 23)) #[(tq 10)] #[3])), mq 8 11, oq 12 (.extract (tq 8) 0), oq 13 (.extract (tq 8) 1), oq 3 (.alloc 73), .op ⟨none, .store 73 (tq 3) (tq 12), none⟩, oq 4 (.assign (tq 13))] := rgo fun _ => by kernel_rfl
theorem r31_2 : RG 31 2 [oq 14 (.fieldAddr 39 (tq 1) 0), oq 15 (.load 3 (tq 14)), oq 16 (.convert 3 5 (tq 15)), oq 17 (.buildSlice 49 1 #[(0, (tq 16))]), oq 5 (.assign (tq 17))] := rgo fun _ => by kernel_rfl
theorem r31_3 : RG 31 3 [oq 18 (.fieldAddr 73 (tq 3) 1), oq 19 (.load 9 (tq 18)), oq 20 (.range 9 (tq 19))] := rgo fun _ => by kernel_rfl
theorem r31_4 : RG 31 4 [oq 21 (.next (tq 20) true), oq 22 (.extract (tq 21) 0)] := rgo fun _ => by kernel_rfl
theorem r31_5 : RG 31 5 [oq 23 (.extract (tq 21) 2), oq 7 (.assign (tq 23))] := rgo fun _ => by kernel_rfl
theorem r31_6 : RG 31 6 [mq 24 5, oq 25 (.load 39 (tq 1)), mq 26 7, oq 27 (.call (.mk (.value (.func 55)) #[(tq 25), (tq 26)] #[39,21])), oq 28 (.call (.mk (.builtin .append) #[(tq 24), (tq 27)] #[49,49])), oq 5 (.assign (tq 28))] := rgo fun _ => by kernel_rfl
theorem r31_7 : RG 31 7 [mq 29 5, oq 2 (.assign (tq 29))] := rgo fun _ => by kernel_rfl
def fF31 := And.intro r31_0 <| And.intro r31_1 <| And.intro r31_2 <| And.intro r31_3 <| And.intro r31_4 <| And.intro r31_5 <| And.intro r31_6 <| r31_7
theorem enter31 : ENT 31 30 [.tmp 2] (.seq (Rg 31 0) (.seq (Rg 31 1) (.seq (Rg 31 2) (.seq (.seq (Rg 31 3) (.block 0 (.loop (.seq (Rg 31 4) (.seq (.cond (.tmp 22) .skip (Code.exit 0)) (.block 1 (.seq (Rg 31 5) (Rg 31 6)))))))) (.seq (Rg 31 7) .ret))))) := ent Tryz.f31 (by kernel_rfl)
/- (bowline/stackmachine.Instr).parts -/
theorem fF27 : RG 27 0 [oq 1 (.box 39 (tq 0)), oq 2 (.assign (.const .nilFunc))] ∧
 RG 27 1 [oq 3 (.makeFunc (Fn.func 50) #[] #[(tq 1)]), oq 2 (.assign (tq 3))] := by and_intros <;> exact rgo fun _ => by kernel_rfl
theorem enter27 : ENT 27 4 [.tmp 2] (.seq (Rg 27 0) (.seq (Rg 27 1) .ret)) := ent Tryz.f27 (by kernel_rfl)
/- (bowline/stackmachine.Instr).parts$1 -/
theorem r50_0 : RG 50 0 [oq 9 (.fieldAddr 39 (tq 1) 0), oq 10 (.load 3 (tq 9)), oq 11 (.call (.mk (.value (.func 23)) #[(tq 10)] #[3])), mq 8 11, oq 12 (.extract (tq 8) 0), oq 13 (.extract (tq 8) 1), oq 3 (.alloc 73), .op ⟨none, .store 73 (tq 3) (tq 12), none⟩, oq 4 (.assign (tq 13))] := rgo fun _ => by kernel_rfl
theorem r50_1 : RG 50 1 [oq 14 (.fieldAddr 73 (tq 3) 1), oq 15 (.load 9 (tq 14)), oq 16 (.range 9 (tq 15))] := rgo fun _ => by kernel_rfl
theorem r50_2 : RG 50 2 [oq 17 (.next (tq 16) true), oq 18 (.extract (tq 17) 0)] := rgo fun _ => by kernel_rfl
theorem r50_3 : RG 50 3 [oq 19 (.extract (tq 17) 2), oq 6 (.assign (tq 19))] := rgo fun _ => by kernel_rfl
theorem r50_4 : RG 50 4 [oq 20 (.fieldAddr 39 (tq 1) 3), oq 21 (.load 34 (tq 20)), oq 22 (.call (.mk (.value (.func 51)) #[(tq 21), (cq 10)] #[34,3])), oq 7 (.assign (tq 22))] := rgo fun _ => by kernel_rfl
theorem r50_5 : RG 50 5 [mq 23 6] := rgo fun _ => by kernel_rfl
theorem r50_6 : RG 50 6 [oq 25 (.binOp .eql 21 (tq 23) (.const (.int .i32 84)) 21), oq 24 (.assign (tq 25))] := rgo fun _ => by kernel_rfl
theorem r50_7 : RG 50 7 [oq 26 (.fieldAddr 39 (tq 1) 1), oq 27 (.load 9 (tq 26)), oq 7 (.assign (tq 27))] := rgo fun _ => by kernel_rfl
theorem r50_8 : RG 50 8 [oq 29 (.binOp .eql 21 (tq 23) (.const (.int .i32 85)) 21), oq 28 (.assign (tq 29))] := rgo fun _ => by kernel_rfl
theorem r50_9 : RG 50 9 [oq 30 (.fieldAddr 39 (tq 1) 2), oq 31 (.load 9 (tq 30)), oq 7 (.assign (tq 31))] := rgo fun _ => by kernel_rfl
theorem r50_10 : RG 50 10 [oq 33 (.binOp .eql 21 (tq 23) (.const (.int .i32 115)) 21), oq 32 (.assign (tq 33))] := rgo fun _ => by kernel_rfl
theorem r50_11 : RG 50 11 [oq 34 (.binOp .eql 21 (tq 23) (.const (.int .i32 100)) 21), oq 32 (.assign (tq 34))] := rgo fun _ => by kernel_rfl
theorem r50_12 : RG 50 12 [oq 35 (.binOp .eql 21 (tq 23) (.const (.int .i32 80)) 21), oq 32 (.assign (tq 35))] := rgo fun _ => by kernel_rfl
theorem r50_13 : RG 50 13 [oq 36 (.fieldAddr 39 (tq 1) 4), oq 37 (.load 3 (tq 36)), oq 38 (.call (.mk (.value (.func 52)) #[(tq 37)] #[3])), oq 7 (.assign (tq 38))] := rgo fun _ => by kernel_rfl
theorem r50_14 : RG 50 14 [oq 40 (.binOp .eql 21 (tq 23) (.const (.int .i32 70)) 21), oq 39 (.assign (tq 40))] := rgo fun _ => by kernel_rfl
theorem r50_15 : RG 50 15 [oq 41 (.fieldAddr 39 (tq 1) 5), oq 42 (.load 3 (tq 41)), oq 43 (.call (.mk (.value (.func 52)) #[(tq 42)] #[3])), oq 7 (.assign (tq 43))] := rgo fun _ => by kernel_rfl
theorem r50_16 : RG 50 16 [mq 44 0, mq 45 7, oq 46 (.call (.mk (.value (tq 44)) #[(tq 45)] #[9])), oq 47 (.unOp .not 4 (tq 46))] := rgo fun _ => by kernel_rfl
def fF50 := And.intro r50_0 <| And.intro r50_1 <| And.intro r50_2 <| And.intro r50_3 <| And.intro r50_4 <| And.intro r50_5 <| And.intro r50_6 <| And.intro r50_7 <| And.intro r50_8 <| And.intro r50_9 <| And.intro r50_10 <| And.intro r50_11 <| And.intro r50_12 <| And.intro r50_13 <| And.intro r50_14 <| And.intro r50_15 <| r50_16
theorem enter50 : ENT 50 48 [] (.seq (Rg 50 0) (.seq (Rg 50 1) (.block 0 (.loop (.seq (Rg 50 2) (.seq (.cond (.tmp 18) .skip (Code.exit 0)) (.block 1 (.seq (Rg 50 3) (.seq (Rg 50 4) (.seq (.seq (Rg 50 5) (.block 2 (.seq (Rg 50 6) (.cond (.tmp 24) (Rg 50 7) (.seq (Rg 50 8) (.cond (.tmp 28) (Rg 50 9) (.seq (.seq (Rg 50 10) (.cond (.tmp 32) .skip (.seq (Rg 50 11) (.cond (.tmp 32) .skip (Rg 50 12))))) (.cond (.tmp 32) (Rg 50 13) (.seq (Rg 50 14) (.cond (.tmp 39) (Rg 50 15) .skip)))))))))) (.seq (Rg 50 16) (.cond (.tmp 47) .ret .skip)))))))))))) := ent Tryz.f50 (by kernel_rfl)
/- (bowline/stackmachine.kind).uses -/
theorem fF34 : RG 34 0 [oq 2 (.box 73 (tq 0)), oq 4 (.assign (.const (.bool false)))] ∧
 RG 34 1 [oq 5 (.fieldAddr 73 (tq 2) 1), oq 6 (.load 9 (tq 5)), mq 7 1, oq 8 (.call (.mk (.value (.func 61)) #[(tq 6), (tq 7)] #[9,9])), oq 4 (.assign (tq 8))] := by and_intros <;> exact rgo fun _ => by kernel_rfl
theorem enter34 : ENT 34 9 [.tmp 4] (.seq (Rg 34 0) (.seq (Rg 34 1) .ret)) := ent Tryz.f34 (by kernel_rfl)
/- bowline/bowlinelaw26.StackmachineInstrs -/
theorem r3_0 : RG 3 0 [oq 4 (.assign (.const (.bool false)))] := rgo fun _ => by kernel_rfl
theorem r3_1 : RG 3 1 [mq 25 0, oq 26 (.call (.mk (.value (.func 4)) #[(tq 25)] #[22])), oq 27 (.unOp .not 4 (tq 26))] := rgo fun _ => by kernel_rfl
theorem r3_2 : RG 3 2 [oq 28 (.call (.mk (.value (.func 5)) #[] #[])), oq 4 (.assign (tq 28))] := rgo fun _ => by kernel_rfl
theorem r3_3 : RG 3 3 [mq 30 1, oq 31 (.call (.mk (.value (.func 6)) #[(tq 30)] #[3])), mq 29 31, oq 32 (.extract (tq 29) 0), oq 33 (.extract (tq 29) 1), oq 5 (.assign (tq 32)), oq 6 (.assign (tq 33))] := rgo fun _ => by kernel_rfl
theorem r3_4 : RG 3 4 [mq 35 1, oq 36 (.call (.mk (.value (.func 7)) #[(tq 35)] #[3])), mq 34 36, oq 37 (.extract (tq 34) 0), oq 38 (.extract (tq 34) 1), oq 7 (.assign (tq 37)), oq 8 (.assign (tq 38))] := rgo fun _ => by kernel_rfl
theorem r3_5 : RG 3 5 [mq 40 0, oq 41 (.call (.mk (.value (.func 9)) #[(tq 40)] #[22])), oq 42 (.call (.mk (.value (.func 8)) #[(tq 41)] #[31])), mq 39 42, oq 43 (.extract (tq 39) 0), oq 44 (.extract (tq 39) 1), oq 9 (.assign (tq 43)), oq 10 (.assign (tq 44))] := rgo fun _ => by kernel_rfl
theorem r3_6 : RG 3 6 [mq 46 0, oq 47 (.call (.mk (.value (.func 10)) #[(tq 46)] #[22])), mq 45 47, oq 48 (.extract (tq 45) 0), oq 49 (.extract (tq 45) 1), oq 11 (.assign (tq 48)), oq 12 (.assign (tq 49))] := rgo fun _ => by kernel_rfl
theorem r3_7 : RG 3 7 [mq 50 5, mq 51 7, oq 52 (.binOp .neq 9 (tq 50) (tq 51) 9), mq 53 52, .op ⟨some 54, .move (tq 6), some (53, false)⟩, .op ⟨some 55, .move (tq 8), some (53, false)⟩, .op ⟨some 56, .binOp .neq 3 (tq 54) (tq 55) 3, some (53, false)⟩, oq 57 (.pick (tq 53) (.const (.bool true)) (tq 56)), mq 58 57, .op ⟨some 59, .move (tq 9), some (58, false)⟩, .op ⟨some 60, .move (tq 11), some (58, false)⟩, .op ⟨some 61, .binOp .neq 9 (tq 59) (tq 60) 9, some (58, false)⟩, oq 62 (.pick (tq 58) (.const (.bool true)) (tq 61)), mq 63 62, .op ⟨some 64, .move (tq 10), some (63, false)⟩, .op ⟨some 65, .move (tq 12), some (63, false)⟩, .op ⟨some 66, .binOp .neq 3 (tq 64) (tq 65) 3, some (63, false)⟩, oq 67 (.pick (tq 63) (.const (.bool true)) (tq 66))] := rgo fun _ => by kernel_rfl
theorem r3_8 : RG 3 8 [oq 4 (.assign (.const (.bool false)))] := rgo fun _ => by kernel_rfl
theorem r3_9 : RG 3 9 [mq 68 0, mq 69 0, oq 70 (.call (.mk (.builtin .len) #[(tq 69)] #[22])), oq 71 (.call (.mk (.builtin .min) #[(tq 70), (cq 200)] #[3,3])), oq 72 (.slice 22 (tq 68) none (some (tq 71)) none), oq 73 (.call (.mk (.builtin .len) #[(tq 72)] #[22])), oq 74 (.move (cq 0))] := rgo fun _ => by kernel_rfl
theorem r3_10 : RG 3 10 [oq 75 (.binOp .lss 3 (tq 74) (tq 73) 3)] := rgo fun _ => by kernel_rfl
theorem r3_11 : RG 3 11 [oq 76 (.indexAddr 22 (tq 72) (tq 74)), oq 77 (.load 36 (tq 76)), oq 14 (.alloc 36), .op ⟨none, .store 36 (tq 14) (tq 77), none⟩] := rgo fun _ => by kernel_rfl
theorem r3_12 : RG 3 12 [oq 79 (.load 36 (tq 14)), oq 80 (.call (.mk (.value (.func 11)) #[(tq 79)] #[39])), mq 78 80, oq 81 (.extract (tq 78) 0), oq 82 (.extract (tq 78) 1), oq 15 (.assign (tq 81)), oq 16 (.assign (tq 82))] := rgo fun _ => by kernel_rfl
theorem r3_13 : RG 3 13 [oq 84 (.load 36 (tq 14)), oq 85 (.call (.mk (.value (.func 12)) #[(tq 84)] #[36])), mq 83 85, oq 86 (.extract (tq 83) 0), oq 87 (.extract (tq 83) 1), oq 17 (.assign (tq 86)), oq 18 (.assign (tq 87))] := rgo fun _ => by kernel_rfl
theorem r3_14 : RG 3 14 [oq 89 (.load 36 (tq 14)), oq 90 (.call (.mk (.value (.func 13)) #[(tq 89)] #[39])), mq 88 90, oq 91 (.extract (tq 88) 0), oq 92 (.extract (tq 88) 1), oq 93 (.extract (tq 88) 2), oq 19 (.assign (tq 91)), oq 20 (.assign (tq 92)), oq 21 (.assign (tq 93))] := rgo fun _ => by kernel_rfl
theorem r3_15 : RG 3 15 [oq 95 (.load 36 (tq 14)), oq 96 (.call (.mk (.value (.func 14)) #[(tq 95)] #[36])), mq 94 96, oq 97 (.extract (tq 94) 0), oq 98 (.extract (tq 94) 1), oq 99 (.extract (tq 94) 2), oq 22 (.assign (tq 97)), oq 23 (.assign (tq 98)), oq 24 (.assign (tq 99))] := rgo fun _ => by kernel_rfl
theorem r3_16 : RG 3 16 [mq 100 15, mq 101 17, oq 102 (.binOp .neq 3 (tq 100) (tq 101) 3), mq 103 102, .op ⟨some 104, .move (tq 16), some (103, false)⟩, .op ⟨some 105, .move (tq 18), some (103, false)⟩, .op ⟨some 106, .binOp .neq 3 (tq 104) (tq 105) 3, some (103, false)⟩, oq 107 (.pick (tq 103) (.const (.bool true)) (tq 106)), mq 108 107, .op ⟨some 109, .move (tq 19), some (108, false)⟩, .op ⟨some 110, .move (tq 22), some (108, false)⟩, .op ⟨some 111, .binOp .neq 3 (tq 109) (tq 110) 3, some (108, false)⟩, oq 112 (.pick (tq 108) (.const (.bool true)) (tq 111)), mq 113 112, .op ⟨some 114, .move (tq 20), some (113, false)⟩, .op ⟨some 115, .move (tq 23), some (113, false)⟩, .op ⟨some 116, .binOp .neq 3 (tq 114) (tq 115) 3, some (113, false)⟩, oq 117 (.pick (tq 113) (.const (.bool true)) (tq 116)), mq 118 117, .op ⟨some 119, .move (tq 21), some (118, false)⟩, .op ⟨some 120, .move (tq 24), some (118, false)⟩, .op ⟨some 121, .binOp .neq 3 (tq 119) (tq 120) 3, some (118, false)⟩, oq 122 (.pick (tq 118) (.const (.bool true)) (tq 121)), mq 123 122, .op ⟨some 124, .load 36 (tq 14), some (123, false)⟩, .op ⟨some 126, .load 36 (tq 14), some (123, false)⟩, .chk [⟨some 124, .load 36 (tq 14), some (123, false)⟩, ⟨some 126, .load 36 (tq 14), some (123, false)⟩], .op ⟨some 125, .call (.mk (.value (.func 15)) #[(tq 124)] #[39]), some (123, false)⟩, .chk [⟨some 126, .load 36 (tq 14), some (123, false)⟩], .op ⟨some 127, .call (.mk (.value (.func 16)) #[(tq 126)] #[36]), some (123, false)⟩, .op ⟨some 128, .binOp .neq 3 (tq 125) (tq 127) 3, some (123, false)⟩, oq 129 (.pick (tq 123) (.const (.bool true)) (tq 128)), .chk []] := rgo fun _ => by kernel_rfl
theorem r3_17 : RG 3 17 [oq 4 (.assign (.const (.bool false)))] := rgo fun _ => by kernel_rfl
theorem r3_18 : RG 3 18 [oq 130 (.binOp .add 3 (tq 74) (cq 1) 3), mq 74 130] := rgo fun _ => by kernel_rfl
theorem r3_19 : RG 3 19 [oq 131 (.call (.mk (.value (.func 5)) #[] #[])), oq 4 (.assign (tq 131))] := rgo fun _ => by kernel_rfl
def fF3 := And.intro r3_0 <| And.intro r3_1 <| And.intro r3_2 <| And.intro r3_3 <| And.intro r3_4 <| And.intro r3_5 <| And.intro r3_6 <| And.intro r3_7 <| And.intro r3_8 <| And.intro r3_9 <| And.intro r3_10 <| And.intro r3_11 <| And.intro r3_12 <| And.intro r3_13 <| And.intro r3_14 <| And.intro r3_15 <| And.intro r3_16 <| And.intro r3_17 <| And.intro r3_18 <| r3_19
theorem enter3 : ENT 3 132 [.tmp 4] (.seq (Rg 3 0) (.seq (.seq (Rg 3 1) (.cond (.tmp 27) (.seq (Rg 3 2) .ret) .skip)) (.seq (Rg 3 3) (.seq (Rg 3 4) (.seq (Rg 3 5) (.seq (Rg 3 6) (.seq (.seq (Rg 3 7) (.cond (.tmp 67) (.seq (Rg 3 8) .ret) .skip)) (.seq (.seq (Rg 3 9) (.block 0 (.loop (.seq (Rg 3 10) (.seq (.cond (.tmp 75) .skip (Code.exit 0)) (.seq (.block 1 (.seq (Rg 3 11) (.seq (Rg 3 12) (.seq (Rg 3 13) (.seq (Rg 3 14) (.seq (Rg 3 15) (.seq (Rg 3 16) (.cond (.tmp 129) (.seq (Rg 3 17) .ret) .skip)))))))) (Rg 3 18))))))) (.seq (Rg 3 19) .ret))))))))) := ent Tryz.f3 (by kernel_rfl)
/- bowline/bowlinelaw26.short -/
theorem r4_0 : RG 4 0 [oq 2 (.assign (.const (.bool false)))] := rgo fun _ => by kernel_rfl
theorem r4_1 : RG 4 1 [mq 5 0, oq 6 (.call (.mk (.builtin .len) #[(tq 5)] #[22])), oq 7 (.binOp .gtr 3 (tq 6) (cq 200) 3), mq 8 7, .op ⟨some 9, .move (tq 0), some (8, true)⟩, .op ⟨some 10, .call (.mk (.builtin .len) #[(tq 9)] #[22]), some (8, true)⟩, .op ⟨some 11, .binOp .neq 3 (tq 10) (cq 4001) 3, some (8, true)⟩, oq 12 (.pick (tq 8) (tq 11) (.const (.bool false)))] := rgo fun _ => by kernel_rfl
theorem r4_2 : RG 4 2 [oq 2 (.assign (.const (.bool false)))] := rgo fun _ => by kernel_rfl
theorem r4_3 : RG 4 3 [mq 13 0, oq 14 (.call (.mk (.builtin .len) #[(tq 13)] #[22])), oq 15 (.move (cq 0))] := rgo fun _ => by kernel_rfl
theorem r4_4 : RG 4 4 [oq 16 (.binOp .lss 3 (tq 15) (tq 14) 3)] := rgo fun _ => by kernel_rfl
theorem r4_5 : RG 4 5 [oq 17 (.indexAddr 22 (tq 13) (tq 15)), oq 18 (.load 36 (tq 17)), oq 4 (.alloc 36), .op ⟨none, .store 36 (tq 4) (tq 18), none⟩] := rgo fun _ => by kernel_rfl
theorem r4_6 : RG 4 6 [oq 19 (.fieldAddr 36 (tq 4) 1), oq 20 (.load 9 (tq 19)), oq 21 (.call (.mk (.builtin .len) #[(tq 20)] #[9])), oq 22 (.binOp .gtr 3 (tq 21) (cq 100) 3), mq 23 22, .op ⟨some 24, .fieldAddr 36 (tq 4) 2, some (23, false)⟩, .op ⟨some 25, .load 9 (tq 24), some (23, false)⟩, .op ⟨some 26, .call (.mk (.builtin .len) #[(tq 25)] #[9]), some (23, false)⟩, .op ⟨some 27, .binOp .gtr 3 (tq 26) (cq 100) 3, some (23, false)⟩, oq 28 (.pick (tq 23) (.const (.bool true)) (tq 27))] := rgo fun _ => by kernel_rfl
theorem r4_7 : RG 4 7 [oq 2 (.assign (.const (.bool false)))] := rgo fun _ => by kernel_rfl
theorem r4_8 : RG 4 8 [oq 29 (.binOp .add 3 (tq 15) (cq 1) 3), mq 15 29] := rgo fun _ => by kernel_rfl
theorem r4_9 : RG 4 9 [oq 2 (.assign (.const (.bool true)))] := rgo fun _ => by kernel_rfl
def fF4 := And.intro r4_0 <| And.intro r4_1 <| And.intro r4_2 <| And.intro r4_3 <| And.intro r4_4 <| And.intro r4_5 <| And.intro r4_6 <| And.intro r4_7 <| And.intro r4_8 <| r4_9
theorem enter4 : ENT 4 30 [.tmp 2] (.seq (Rg 4 0) (.seq (.seq (Rg 4 1) (.cond (.tmp 12) (.seq (Rg 4 2) .ret) .skip)) (.seq (.seq (Rg 4 3) (.block 0 (.loop (.seq (Rg 4 4) (.seq (.cond (.tmp 16) .skip (Code.exit 0)) (.seq (.block 1 (.seq (Rg 4 5) (.seq (Rg 4 6) (.cond (.tmp 28) (.seq (Rg 4 7) .ret) .skip)))) (Rg 4 8))))))) (.seq (Rg 4 9) .ret)))) := ent Tryz.f4 (by kernel_rfl)
/- bowline/bowlinelaw26.theirs -/
theorem r9_0 : RG 9 0 [oq 2 (.assign (.const (.slice none 0 0)))] := rgo fun _ => by kernel_rfl
theorem r9_1 : RG 9 1 [oq 3 (.assign (.const (.slice none 0 0)))] := rgo fun _ => by kernel_rfl
theorem r9_2 : RG 9 2 [mq 6 0, oq 7 (.call (.mk (.builtin .len) #[(tq 6)] #[22])), oq 8 (.move (cq 0))] := rgo fun _ => by kernel_rfl
theorem r9_3 : RG 9 3 [oq 9 (.binOp .lss 3 (tq 8) (tq 7) 3)] := rgo fun _ => by kernel_rfl
theorem r9_4 : RG 9 4 [oq 10 (.indexAddr 22 (tq 6) (tq 8)), oq 11 (.load 36 (tq 10)), oq 5 (.alloc 36), .op ⟨none, .store 36 (tq 5) (tq 11), none⟩] := rgo fun _ => by kernel_rfl
theorem r9_5 : RG 9 5 [mq 12 3, oq 13 (.load 36 (tq 5)), oq 14 (.buildSlice 31 1 #[(0, (tq 13))]), oq 15 (.call (.mk (.builtin .append) #[(tq 12), (tq 14)] #[31,31])), oq 3 (.assign (tq 15))] := rgo fun _ => by kernel_rfl
theorem r9_6 : RG 9 6 [oq 16 (.binOp .add 3 (tq 8) (cq 1) 3), mq 8 16] := rgo fun _ => by kernel_rfl
theorem r9_7 : RG 9 7 [mq 17 3, oq 2 (.assign (tq 17))] := rgo fun _ => by kernel_rfl
def fF9 := And.intro r9_0 <| And.intro r9_1 <| And.intro r9_2 <| And.intro r9_3 <| And.intro r9_4 <| And.intro r9_5 <| And.intro r9_6 <| r9_7
theorem enter9 : ENT 9 18 [.tmp 2] (.seq (Rg 9 0) (.seq (Rg 9 1) (.seq (.seq (Rg 9 2) (.block 0 (.loop (.seq (Rg 9 3) (.seq (.cond (.tmp 9) .skip (Code.exit 0)) (.seq (.block 1 (.seq (Rg 9 4) (Rg 9 5))) (Rg 9 6))))))) (.seq (Rg 9 7) .ret)))) := ent Tryz.f9 (by kernel_rfl)
/- bowline/bowlineref01.Check -/
theorem fF125 : RG 125 0 [oq 2 (.assign (cq 0))] ∧
 RG 125 1 [mq 7 0, oq 8 (.call (.mk (.value (.func 126)) #[(tq 7)] #[9])), mq 6 8, oq 9 (.extract (tq 6) 0), oq 10 (.extract (tq 6) 1), oq 11 (.extract (tq 6) 2), oq 3 (.assign (tq 9)), oq 4 (.assign (tq 10)), oq 5 (.assign (tq 11))] ∧
 RG 125 2 [mq 12 5, oq 2 (.assign (tq 12))] := by and_intros <;> exact rgo fun _ => by kernel_rfl
theorem enter125 : ENT 125 13 [.tmp 2] (.seq (Rg 125 0) (.seq (Rg 125 1) (.seq (Rg 125 2) .ret))) := ent Tryz.f125 (by kernel_rfl)
/- bowline/bowlineref01.First -/
theorem fF39 : RG 39 0 [oq 2 (.assign (cq 0))] ∧
 RG 39 1 [oq 3 (.assign (cq 0))] ∧
 RG 39 2 [mq 4 3, mq 5 0, oq 6 (.call (.mk (.builtin .len) #[(tq 5)] #[55])), oq 7 (.binOp .lss 3 (tq 4) (tq 6) 3)] ∧
 RG 39 4 [mq 10 0, mq 11 3, oq 12 (.indexAddr 55 (tq 10) (tq 11)), oq 13 (.load 3 (tq 12)), oq 14 (.binOp .neq 3 (tq 13) (cq 0) 3)] ∧
 RG 39 5 [mq 15 0, mq 16 3, oq 17 (.indexAddr 55 (tq 15) (tq 16)), oq 18 (.load 3 (tq 17)), oq 2 (.assign (tq 18))] ∧
 RG 39 3 [mq 8 3, oq 9 (.binOp .add 3 (tq 8) (cq 1) 3), oq 3 (.assign (tq 9))] ∧
 RG 39 6 [oq 2 (.assign (cq 0))] := by and_intros <;> exact rgo fun _ => by kernel_rfl
theorem enter39 : ENT 39 19 [.tmp 2] (.seq (Rg 39 0) (.seq (.seq (Rg 39 1) (.block 0 (.loop (.seq (.seq (Rg 39 2) (.cond (.tmp 7) .skip (Code.exit 0))) (.seq (.block 1 (.seq (Rg 39 4) (.cond (.tmp 14) (.seq (Rg 39 5) .ret) .skip))) (Rg 39 3)))))) (.seq (Rg 39 6) .ret))) := ent Tryz.f39 (by kernel_rfl)
/- bowline/bowlineref01.IsDigit -/
theorem fF196 : RG 196 0 [oq 2 (.assign (.const (.bool false)))] ∧
 RG 196 1 [mq 3 0, oq 4 (.binOp .geq 5 (tq 3) (.const (.int .u8 48)) 5), mq 5 4, .op ⟨some 6, .move (tq 0), some (5, true)⟩, .op ⟨some 7, .binOp .leq 5 (tq 6) (.const (.int .u8 57)) 5, some (5, true)⟩, oq 8 (.pick (tq 5) (tq 7) (.const (.bool false))), oq 2 (.assign (tq 8))] := by and_intros <;> exact rgo fun _ => by kernel_rfl
theorem enter196 : ENT 196 9 [.tmp 2] (.seq (Rg 196 0) (.seq (Rg 196 1) .ret)) := ent Tryz.f196 (by kernel_rfl)
/- bowline/bowlineref01.Number -/
theorem r140_0 : RG 140 0 [oq 2 (.assign (cq 0)), oq 3 (.assign (.const (.bool false)))] := rgo fun _ => by kernel_rfl
theorem r140_1 : RG 140 1 [mq 6 0, oq 7 (.binOp .eql 9 (tq 6) (sq #[]) 9), mq 8 7, .op ⟨some 9, .move (tq 0), some (8, false)⟩, .op ⟨some 10, .call (.mk (.builtin .len) #[(tq 9)] #[9]), some (8, false)⟩, .op ⟨some 11, .binOp .gtr 3 (tq 10) (cq 15) 3, some (8, false)⟩, oq 12 (.pick (tq 8) (.const (.bool true)) (tq 11)), mq 13 12, .op ⟨some 14, .move (tq 0), some (13, false)⟩, .op ⟨some 15, .call (.mk (.builtin .len) #[(tq 14)] #[9]), some (13, false)⟩, .op ⟨some 16, .binOp .gtr 3 (tq 15) (cq 1) 3, some (13, false)⟩, .op ⟨some 17, .move (tq 16), some (13, false)⟩, .op ⟨some 18, .move (tq 0), some (17, true)⟩, .op ⟨some 19, .index 9 (tq 18) (cq 0), some (17, true)⟩, .op ⟨some 20, .binOp .eql 5 (tq 19) (.const (.int .u8 48)) 5, some (17, true)⟩, .op ⟨some 21, .pick (tq 17) (tq 20) (.const (.bool false)), some (13, false)⟩, oq 22 (.pick (tq 13) (.const (.bool true)) (tq 21))] := rgo fun _ => by kernel_rfl
theorem r140_2 : RG 140 2 [oq 2 (.assign (cq 0)), oq 3 (.assign (.const (.bool false)))] := rgo fun _ => by kernel_rfl
theorem r140_3 : RG 140 3 [oq 4 (.assign (cq 0))] := rgo fun _ => by kernel_rfl
theorem r140_4 : RG 140 4 [oq 5 (.assign (cq 0))] := rgo fun _ => by kernel_rfl
theorem r140_5 : RG 140 5 [mq 23 5, mq 24 0, oq 25 (.call (.mk (.builtin .len) #[(tq 24)] #[9])), oq 26 (.binOp .lss 3 (tq 23) (tq 25) 3)] := rgo fun _ => by kernel_rfl
theorem r140_7 : RG 140 7 [mq 29 0, mq 30 5, oq 31 (.index 9 (tq 29) (tq 30)), oq 32 (.call (.mk (.value (.func 196)) #[(tq 31)] #[5])), oq 33 (.unOp .not 4 (tq 32))] := rgo fun _ => by kernel_rfl
theorem r140_8 : RG 140 8 [oq 2 (.assign (cq 0)), oq 3 (.assign (.const (.bool false)))] := rgo fun _ => by kernel_rfl
theorem r140_9 : RG 140 9 [mq 34 4, oq 35 (.binOp .mul 3 (cq 10) (tq 34) 3), mq 36 0, mq 37 5, oq 38 (.index 9 (tq 36) (tq 37)), oq 39 (.binOp .sub 5 (tq 38) (.const (.int .u8 48)) 5), oq 40 (.convert 5 3 (tq 39)), oq 41 (.binOp .add 3 (tq 35) (tq 40) 3), oq 4 (.assign (tq 41))] := rgo fun _ => by kernel_rfl
theorem r140_6 : RG 140 6 [mq 27 5, oq 28 (.binOp .add 3 (tq 27) (cq 1) 3), oq 5 (.assign (tq 28))] := rgo fun _ => by kernel_rfl
theorem r140_10 : RG 140 10 [mq 42 4, oq 2 (.assign (tq 42)), oq 3 (.assign (.const (.bool true)))] := rgo fun _ => by kernel_rfl
def fF140 := And.intro r140_0 <| And.intro r140_1 <| And.intro r140_2 <| And.intro r140_3 <| And.intro r140_4 <| And.intro r140_5 <| And.intro r140_7 <| And.intro r140_8 <| And.intro r140_9 <| And.intro r140_6 <| r140_10
theorem enter140 : ENT 140 43 [.tmp 2, .tmp 3] (.seq (Rg 140 0) (.seq (.seq (Rg 140 1) (.cond (.tmp 22) (.seq (Rg 140 2) .ret) .skip)) (.seq (Rg 140 3) (.seq (.seq (Rg 140 4) (.block 0 (.loop (.seq (.seq (Rg 140 5) (.cond (.tmp 26) .skip (Code.exit 0))) (.seq (.block 1 (.seq (.seq (Rg 140 7) (.cond (.tmp 33) (.seq (Rg 140 8) .ret) .skip)) (Rg 140 9))) (Rg 140 6)))))) (.seq (Rg 140 10) .ret))))) := ent Tryz.f140 (by kernel_rfl)
/- bowline/bowlineref01.When -/
theorem fF65 : RG 65 0 [oq 4 (.assign (cq 0))] ∧
 RG 65 1 [mq 5 0] ∧
 RG 65 2 [mq 6 1, oq 4 (.assign (tq 6))] ∧
 RG 65 3 [oq 4 (.assign (cq 0))] := by and_intros <;> exact rgo fun _ => by kernel_rfl
theorem enter65 : ENT 65 7 [.tmp 4] (.seq (Rg 65 0) (.seq (.seq (Rg 65 1) (.cond (.tmp 5) (.seq (Rg 65 2) .ret) .skip)) (.seq (Rg 65 3) .ret))) := ent Tryz.f65 (by kernel_rfl)
/- bowline/bowlineref01.Width -/
theorem fF103 : RG 103 0 [oq 2 (.assign (cq 0)), oq 3 (.assign (.const (.bool false))), oq 4 (.assign (cq 0))] ∧
 RG 103 1 [mq 9 0, oq 10 (.call (.mk (.value (.func 126)) #[(tq 9)] #[9])), mq 8 10, oq 11 (.extract (tq 8) 0), oq 12 (.extract (tq 8) 1), oq 13 (.extract (tq 8) 2), oq 5 (.assign (tq 11)), oq 6 (.assign (tq 12)), oq 7 (.assign (tq 13))] ∧
 RG 103 2 [mq 14 7, oq 15 (.binOp .neq 3 (tq 14) (cq 0) 3)] ∧
 RG 103 3 [mq 16 7, oq 2 (.assign (cq 0)), oq 3 (.assign (.const (.bool false))), oq 4 (.assign (tq 16))] ∧
 RG 103 4 [mq 17 6, mq 18 5, oq 2 (.assign (tq 17)), oq 3 (.assign (tq 18)), oq 4 (.assign (cq 0))] := by and_intros <;> exact rgo fun _ => by kernel_rfl
theorem enter103 : ENT 103 19 [.tmp 2, .tmp 3, .tmp 4] (.seq (Rg 103 0) (.seq (Rg 103 1) (.seq (.seq (Rg 103 2) (.cond (.tmp 15) (.seq (Rg 103 3) .ret) .skip)) (.seq (Rg 103 4) .ret)))) := ent Tryz.f103 (by kernel_rfl)
/- bowline/bowlineref01.parts -/
theorem fF126 : RG 126 0 [oq 2 (.assign (.const (.bool false))), oq 3 (.assign (cq 0)), oq 4 (.assign (cq 0))] ∧
 RG 126 1 [mq 8 0, oq 9 (.binOp .eql 9 (tq 8) (sq #[]) 9), mq 10 9, .op ⟨some 11, .move (tq 0), some (10, false)⟩, .op ⟨some 12, .index 9 (tq 11) (cq 0), some (10, false)⟩, .op ⟨some 13, .binOp .neq 5 (tq 12) (.const (.int .u8 117)) 5, some (10, false)⟩, .op ⟨some 14, .move (tq 13), some (10, false)⟩, .op ⟨some 15, .move (tq 0), some (14, true)⟩, .op ⟨some 16, .index 9 (tq 15) (cq 0), some (14, true)⟩, .op ⟨some 17, .binOp .neq 5 (tq 16) (.const (.int .u8 105)) 5, some (14, true)⟩, .op ⟨some 18, .pick (tq 14) (tq 17) (.const (.bool false)), some (10, false)⟩, oq 19 (.pick (tq 10) (.const (.bool true)) (tq 18)), mq 20 19, .op ⟨some 21, .move (tq 0), some (20, false)⟩, .op ⟨some 22, .call (.mk (.builtin .len) #[(tq 21)] #[9]), some (20, false)⟩, .op ⟨some 23, .binOp .gtr 3 (tq 22) (cq 4) 3, some (20, false)⟩, oq 24 (.pick (tq 20) (.const (.bool true)) (tq 23))] ∧
 RG 126 2 [oq 2 (.assign (.const (.bool false))), oq 3 (.assign (cq 0)), oq 4 (.assign (cq 6))] ∧
 RG 126 3 [mq 26 0, oq 27 (.slice 9 (tq 26) (some (cq 1)) none none), oq 28 (.call (.mk (.value (.func 140)) #[(tq 27)] #[9])), mq 25 28, oq 29 (.extract (tq 25) 0), oq 30 (.extract (tq 25) 1), oq 5 (.assign (tq 29)), oq 6 (.assign (tq 30))] ∧
 RG 126 4 [mq 31 6, oq 32 (.unOp .not 4 (tq 31))] ∧
 RG 126 5 [oq 2 (.assign (.const (.bool false))), oq 3 (.assign (cq 0)), oq 4 (.assign (cq 6))] ∧
 RG 126 6 [mq 33 0, oq 34 (.index 9 (tq 33) (cq 0)), oq 35 (.binOp .eql 5 (tq 34) (.const (.int .u8 105)) 5), oq 7 (.assign (tq 35))] ∧
 RG 126 7 [mq 36 7, mq 37 5, mq 38 5, oq 39 (.binOp .gtr 3 (tq 38) (cq 64) 3), mq 40 39, .op ⟨some 41, .move (tq 7), some (40, false)⟩, .op ⟨some 42, .move (tq 41), some (40, false)⟩, .op ⟨some 43, .move (tq 5), some (42, true)⟩, .op ⟨some 44, .binOp .eql 3 (tq 43) (cq 0) 3, some (42, true)⟩, .op ⟨some 45, .pick (tq 42) (tq 44) (.const (.bool false)), some (40, false)⟩, oq 46 (.pick (tq 40) (.const (.bool true)) (tq 45)), oq 47 (.call (.mk (.value (.func 65)) #[(tq 46), (cq 3)] #[4,3])), oq 2 (.assign (tq 36)), oq 3 (.assign (tq 37)), oq 4 (.assign (tq 47))] := by and_intros <;> exact rgo fun _ => by kernel_rfl
theorem enter126 : ENT 126 48 [.tmp 2, .tmp 3, .tmp 4] (.seq (Rg 126 0) (.seq (.seq (Rg 126 1) (.cond (.tmp 24) (.seq (Rg 126 2) .ret) .skip)) (.seq (Rg 126 3) (.seq (.seq (Rg 126 4) (.cond (.tmp 32) (.seq (Rg 126 5) .ret) .skip)) (.seq (Rg 126 6) (.seq (Rg 126 7) .ret)))))) := ent Tryz.f126 (by kernel_rfl)
/- bowline/bowlineref11.Converts -/
theorem fF70 : RG 70 0 [oq 6 (.assign (.const (.bool false)))] ∧
 RG 70 1 [mq 13 1, oq 14 (.call (.mk (.value (.func 102)) #[(tq 13)] #[9])), mq 15 2, oq 16 (.call (.mk (.value (.func 102)) #[(tq 15)] #[9])), oq 7 (.assign (tq 14)), oq 8 (.assign (tq 16))] ∧
 RG 70 2 [mq 18 1, oq 19 (.call (.mk (.value (.func 104)) #[(tq 18)] #[9])), mq 17 19, oq 20 (.extract (tq 17) 0), oq 21 (.extract (tq 17) 1), oq 9 (.assign (tq 20)), oq 10 (.assign (tq 21))] ∧
 RG 70 3 [mq 23 2, oq 24 (.call (.mk (.value (.func 104)) #[(tq 23)] #[9])), mq 22 24, oq 25 (.extract (tq 22) 0), oq 26 (.extract (tq 22) 1), oq 11 (.assign (tq 25)), oq 12 (.assign (tq 26))] ∧
 RG 70 4 [mq 27 0] ∧
 RG 70 5 [oq 29 (.binOp .eql 3 (tq 27) (cq 38) 3), oq 28 (.assign (tq 29))] ∧
 RG 70 6 [oq 30 (.binOp .eql 3 (tq 27) (cq 39) 3), oq 28 (.assign (tq 30))] ∧
 RG 70 7 [mq 31 7, mq 32 31, .op ⟨some 33, .move (tq 8), some (32, true)⟩, oq 34 (.pick (tq 32) (tq 33) (.const (.bool false))), oq 6 (.assign (tq 34))] ∧
 RG 70 8 [oq 36 (.binOp .eql 3 (tq 27) (cq 40) 3), oq 35 (.assign (tq 36))] ∧
 RG 70 9 [mq 37 7, mq 38 37, .op ⟨some 39, .move (tq 8), some (38, true)⟩, oq 40 (.pick (tq 38) (tq 39) (.const (.bool false))), mq 41 40, .op ⟨some 42, .move (tq 11), some (41, true)⟩, .op ⟨some 43, .move (tq 9), some (41, true)⟩, .op ⟨some 44, .binOp .leq 3 (tq 42) (tq 43) 3, some (41, true)⟩, oq 45 (.pick (tq 41) (tq 44) (.const (.bool false))), oq 6 (.assign (tq 45))] ∧
 RG 70 10 [oq 47 (.binOp .eql 3 (tq 27) (cq 41) 3), oq 46 (.assign (tq 47))] ∧
 RG 70 11 [mq 48 7, mq 49 48, .op ⟨some 50, .move (tq 1), some (49, false)⟩, .op ⟨some 51, .call (.mk (.value (.func 101)) #[(tq 50)] #[9]), some (49, false)⟩, oq 52 (.pick (tq 49) (.const (.bool true)) (tq 51)), mq 53 52, .op ⟨some 54, .move (tq 8), some (53, true)⟩, .op ⟨some 55, .move (tq 54), some (53, true)⟩, .op ⟨some 56, .move (tq 2), some (55, false)⟩, .op ⟨some 57, .call (.mk (.value (.func 101)) #[(tq 56)] #[9]), some (55, false)⟩, .op ⟨some 58, .pick (tq 55) (.const (.bool true)) (tq 57), some (53, true)⟩, oq 59 (.pick (tq 53) (tq 58) (.const (.bool false))), mq 60 59, .op ⟨some 61, .move (tq 9), some (60, true)⟩, .op ⟨some 62, .move (tq 11), some (60, true)⟩, .op ⟨some 63, .binOp .eql 3 (tq 61) (tq 62) 3, some (60, true)⟩, oq 64 (.pick (tq 60) (tq 63) (.const (.bool false))), oq 6 (.assign (tq 64))] ∧
 RG 70 12 [oq 66 (.binOp .eql 3 (tq 27) (cq 42) 3), oq 65 (.assign (tq 66))] ∧
 RG 70 13 [mq 67 7, mq 68 67, .op ⟨some 69, .move (tq 2), some (68, true)⟩, .op ⟨some 70, .call (.mk (.value (.func 101)) #[(tq 69)] #[9]), some (68, true)⟩, oq 71 (.pick (tq 68) (tq 70) (.const (.bool false))), oq 6 (.assign (tq 71))] ∧
 RG 70 14 [oq 73 (.binOp .eql 3 (tq 27) (cq 43) 3), oq 72 (.assign (tq 73))] ∧
 RG 70 15 [oq 74 (.binOp .eql 3 (tq 27) (cq 44) 3), oq 72 (.assign (tq 74))] ∧
 RG 70 16 [mq 75 1, oq 76 (.call (.mk (.value (.func 101)) #[(tq 75)] #[9])), mq 77 76, .op ⟨some 78, .move (tq 8), some (77, true)⟩, oq 79 (.pick (tq 77) (tq 78) (.const (.bool false))), oq 6 (.assign (tq 79))] ∧
 RG 70 17 [oq 81 (.binOp .eql 3 (tq 27) (cq 45) 3), oq 80 (.assign (tq 81))] ∧
 RG 70 18 [mq 82 1, oq 83 (.binOp .eql 9 (tq 82) (sq #[102,51,50]) 9), mq 84 83, .op ⟨some 85, .move (tq 2), some (84, true)⟩, .op ⟨some 86, .binOp .eql 9 (tq 85) (sq #[102,54,52]) 9, some (84, true)⟩, oq 87 (.pick (tq 84) (tq 86) (.const (.bool false))), mq 88 87, .op ⟨some 89, .move (tq 1), some (88, false)⟩, .op ⟨some 90, .binOp .eql 9 (tq 89) (sq #[102,54,52]) 9, some (88, false)⟩, .op ⟨some 91, .move (tq 90), some (88, false)⟩, .op ⟨some 92, .move (tq 2), some (91, true)⟩, .op ⟨some 93, .binOp .eql 9 (tq 92) (sq #[102,51,50]) 9, some (91, true)⟩, .op ⟨some 94, .pick (tq 91) (tq 93) (.const (.bool false)), some (88, false)⟩, oq 95 (.pick (tq 88) (.const (.bool true)) (tq 94)), oq 6 (.assign (tq 95))] ∧
 RG 70 19 [oq 6 (.assign (.const (.bool false)))] := by and_intros <;> exact rgo fun _ => by kernel_rfl
theorem enter70 : ENT 70 96 [.tmp 6] (.seq (Rg 70 0) (.seq (Rg 70 1) (.seq (Rg 70 2) (.seq (Rg 70 3) (.seq (.seq (Rg 70 4) (.block 0 (.seq (.seq (Rg 70 5) (.cond (.tmp 28) .skip (Rg 70 6))) (.cond (.tmp 28) (.seq (Rg 70 7) .ret) (.seq (Rg 70 8) (.cond (.tmp 35) (.seq (Rg 70 9) .ret) (.seq (Rg 70 10) (.cond (.tmp 46) (.seq (Rg 70 11) .ret) (.seq (Rg 70 12) (.cond (.tmp 65) (.seq (Rg 70 13) .ret) (.seq (.seq (Rg 70 14) (.cond (.tmp 72) .skip (Rg 70 15))) (.cond (.tmp 72) (.seq (Rg 70 16) .ret) (.seq (Rg 70 17) (.cond (.tmp 80) (.seq (Rg 70 18) .ret) .skip)))))))))))))) (.seq (Rg 70 19) .ret)))))) := ent Tryz.f70 (by kernel_rfl)
/- bowline/bowlineref11.Form -/
theorem fF68 : RG 68 0 [oq 2 (.assign (cq 0)), oq 3 (.assign (cq 0))] ∧
 RG 68 1 [mq 4 0, oq 5 (.binOp .lss 3 (tq 4) (cq 0) 3), mq 6 5, .op ⟨some 7, .move (tq 0), some (6, false)⟩, .op ⟨some 8, .call (.mk (.value (.func 99)) #[] #[]), some (6, false)⟩, .op ⟨some 9, .call (.mk (.builtin .len) #[(tq 8)] #[163]), some (6, false)⟩, .op ⟨some 10, .binOp .geq 3 (tq 7) (tq 9) 3, some (6, false)⟩, oq 11 (.pick (tq 6) (.const (.bool true)) (tq 10))] ∧
 RG 68 2 [oq 2 (.assign (cq 0)), oq 3 (.assign (cq 8))] ∧
 RG 68 3 [mq 12 0, oq 13 (.call (.mk (.value (.func 100)) #[(tq 12)] #[3])), oq 2 (.assign (tq 13)), oq 3 (.assign (cq 0))] := by and_intros <;> exact rgo fun _ => by kernel_rfl
theorem enter68 : ENT 68 14 [.tmp 2, .tmp 3] (.seq (Rg 68 0) (.seq (.seq (Rg 68 1) (.cond (.tmp 11) (.seq (Rg 68 2) .ret) .skip)) (.seq (Rg 68 3) .ret))) := ent Tryz.f68 (by kernel_rfl)
/- bowline/bowlineref11.IsFloat -/
theorem fF101 : RG 101 0 [oq 2 (.assign (.const (.bool false)))] ∧
 RG 101 1 [mq 3 0, oq 4 (.binOp .eql 9 (tq 3) (sq #[102,51,50]) 9), mq 5 4, .op ⟨some 6, .move (tq 0), some (5, false)⟩, .op ⟨some 7, .binOp .eql 9 (tq 6) (sq #[102,54,52]) 9, some (5, false)⟩, oq 8 (.pick (tq 5) (.const (.bool true)) (tq 7)), oq 2 (.assign (tq 8))] := by and_intros <;> exact rgo fun _ => by kernel_rfl
theorem enter101 : ENT 101 9 [.tmp 2] (.seq (Rg 101 0) (.seq (Rg 101 1) .ret)) := ent Tryz.f101 (by kernel_rfl)
/- bowline/bowlineref11.IsInt -/
theorem fF102 : RG 102 0 [oq 2 (.assign (.const (.bool false)))] ∧
 RG 102 1 [mq 3 0, oq 4 (.call (.mk (.value (.func 125)) #[(tq 3)] #[9])), oq 5 (.binOp .eql 3 (tq 4) (cq 0) 3), oq 2 (.assign (tq 5))] := by and_intros <;> exact rgo fun _ => by kernel_rfl
theorem enter102 : ENT 102 6 [.tmp 2] (.seq (Rg 102 0) (.seq (Rg 102 1) .ret)) := ent Tryz.f102 (by kernel_rfl)
/- bowline/bowlineref11.Takes -/
theorem fF69 : RG 69 0 [oq 4 (.assign (.const (.bool false)))] ∧
 RG 69 1 [mq 9 0, oq 10 (.call (.mk (.value (.func 100)) #[(tq 9)] #[3])), oq 5 (.assign (tq 10))] ∧
 RG 69 2 [mq 11 5, oq 12 (.binOp .eql 3 (tq 11) (cq 0) 3), mq 13 12, .op ⟨some 14, .move (tq 5), some (13, false)⟩, .op ⟨some 15, .binOp .eql 3 (tq 14) (cq 4) 3, some (13, false)⟩, oq 16 (.pick (tq 13) (.const (.bool true)) (tq 15))] ∧
 RG 69 3 [oq 4 (.assign (.const (.bool false)))] ∧
 RG 69 4 [mq 17 1, oq 18 (.call (.mk (.value (.func 101)) #[(tq 17)] #[9]))] ∧
 RG 69 5 [mq 19 0, oq 20 (.binOp .eql 3 (tq 19) (cq 6) 3), mq 21 20, .op ⟨some 22, .move (tq 0), some (21, false)⟩, .op ⟨some 23, .binOp .eql 3 (tq 22) (cq 7) 3, some (21, false)⟩, oq 24 (.pick (tq 21) (.const (.bool true)) (tq 23)), mq 25 24, .op ⟨some 26, .move (tq 0), some (25, false)⟩, .op ⟨some 27, .binOp .eql 3 (tq 26) (cq 8) 3, some (25, false)⟩, oq 28 (.pick (tq 25) (.const (.bool true)) (tq 27)), mq 29 28, .op ⟨some 30, .move (tq 0), some (29, false)⟩, .op ⟨some 31, .binOp .eql 3 (tq 30) (cq 18) 3, some (29, false)⟩, oq 32 (.pick (tq 29) (.const (.bool true)) (tq 31)), mq 33 32, .op ⟨some 34, .move (tq 0), some (33, false)⟩, .op ⟨some 35, .binOp .eql 3 (tq 34) (cq 30) 3, some (33, false)⟩, oq 36 (.pick (tq 33) (.const (.bool true)) (tq 35)), mq 37 36, .op ⟨some 38, .move (tq 0), some (37, false)⟩, .op ⟨some 39, .binOp .geq 3 (tq 38) (cq 34) 3, some (37, false)⟩, .op ⟨some 40, .move (tq 39), some (37, false)⟩, .op ⟨some 41, .move (tq 0), some (40, true)⟩, .op ⟨some 42, .binOp .leq 3 (tq 41) (cq 37) 3, some (40, true)⟩, .op ⟨some 43, .pick (tq 40) (tq 42) (.const (.bool false)), some (37, false)⟩, oq 44 (.pick (tq 37) (.const (.bool true)) (tq 43)), oq 4 (.assign (tq 44))] ∧
 RG 69 6 [mq 45 1, oq 46 (.call (.mk (.value (.func 102)) #[(tq 45)] #[9])), oq 47 (.unOp .not 4 (tq 46))] ∧
 RG 69 7 [oq 4 (.assign (.const (.bool false)))] ∧
 RG 69 8 [mq 49 1, oq 50 (.call (.mk (.value (.func 103)) #[(tq 49)] #[9])), mq 48 50, oq 51 (.extract (tq 48) 0), oq 52 (.extract (tq 48) 1), oq 53 (.extract (tq 48) 2), oq 6 (.assign (tq 51)), oq 7 (.assign (tq 52)), oq 8 (.assign (tq 53))] ∧
 RG 69 9 [mq 54 0, oq 55 (.binOp .geq 3 (tq 54) (cq 46) 3), mq 56 55, .op ⟨some 57, .move (tq 0), some (56, true)⟩, .op ⟨some 58, .binOp .leq 3 (tq 57) (cq 49) 3, some (56, true)⟩, oq 59 (.pick (tq 56) (tq 58) (.const (.bool false)))] ∧
 RG 69 10 [mq 60 7, oq 61 (.unOp .not 4 (tq 60)), mq 62 61, .op ⟨some 63, .move (tq 0), some (62, true)⟩, .op ⟨some 64, .binOp .neq 3 (tq 63) (cq 49) 3, some (62, true)⟩, .op ⟨some 65, .move (tq 64), some (62, true)⟩, .op ⟨some 66, .move (tq 6), some (65, false)⟩, .op ⟨some 67, .binOp .rem 3 (tq 66) (cq 8) 3, some (65, false)⟩, .op ⟨some 68, .binOp .eql 3 (tq 67) (cq 0) 3, some (65, false)⟩, .op ⟨some 69, .pick (tq 65) (.const (.bool true)) (tq 68), some (62, true)⟩, oq 70 (.pick (tq 62) (tq 69) (.const (.bool false))), oq 4 (.assign (tq 70))] ∧
 RG 69 11 [oq 4 (.assign (.const (.bool true)))] := by and_intros <;> exact rgo fun _ => by kernel_rfl
theorem enter69 : ENT 69 71 [.tmp 4] (.seq (Rg 69 0) (.seq (Rg 69 1) (.seq (.seq (Rg 69 2) (.cond (.tmp 16) (.seq (Rg 69 3) .ret) .skip)) (.seq (.seq (Rg 69 4) (.cond (.tmp 18) (.seq (Rg 69 5) .ret) .skip)) (.seq (.seq (Rg 69 6) (.cond (.tmp 47) (.seq (Rg 69 7) .ret) .skip)) (.seq (Rg 69 8) (.seq (.seq (Rg 69 9) (.cond (.tmp 59) (.seq (Rg 69 10) .ret) .skip)) (.seq (Rg 69 11) .ret)))))))) := ent Tryz.f69 (by kernel_rfl)
/- bowline/bowlineref11.Width -/
theorem fF104 : RG 104 0 [oq 2 (.assign (cq 0)), oq 3 (.assign (cq 0))] ∧
 RG 104 1 [mq 7 0] ∧
 RG 104 2 [oq 9 (.binOp .eql 9 (tq 7) (sq #[102,51,50]) 9), oq 8 (.assign (tq 9))] ∧
 RG 104 3 [oq 2 (.assign (cq 32)), oq 3 (.assign (cq 0))] ∧
 RG 104 4 [oq 11 (.binOp .eql 9 (tq 7) (sq #[102,54,52]) 9), oq 10 (.assign (tq 11))] ∧
 RG 104 5 [oq 12 (.binOp .eql 9 (tq 7) (sq #[112,116,114]) 9), oq 10 (.assign (tq 12))] ∧
 RG 104 6 [oq 2 (.assign (cq 64)), oq 3 (.assign (cq 0))] ∧
 RG 104 7 [mq 14 0, oq 15 (.call (.mk (.value (.func 103)) #[(tq 14)] #[9])), mq 13 15, oq 16 (.extract (tq 13) 0), oq 17 (.extract (tq 13) 1), oq 18 (.extract (tq 13) 2), oq 4 (.assign (tq 16)), oq 5 (.assign (tq 17)), oq 6 (.assign (tq 18))] ∧
 RG 104 8 [mq 19 6, oq 20 (.binOp .neq 3 (tq 19) (cq 0) 3)] ∧
 RG 104 9 [oq 2 (.assign (cq 0)), oq 3 (.assign (cq 12))] ∧
 RG 104 10 [mq 21 4, oq 2 (.assign (tq 21)), oq 3 (.assign (cq 0))] := by and_intros <;> exact rgo fun _ => by kernel_rfl
theorem enter104 : ENT 104 22 [.tmp 2, .tmp 3] (.seq (Rg 104 0) (.seq (.seq (Rg 104 1) (.block 0 (.seq (Rg 104 2) (.cond (.tmp 8) (.seq (Rg 104 3) .ret) (.seq (.seq (Rg 104 4) (.cond (.tmp 10) .skip (Rg 104 5))) (.cond (.tmp 10) (.seq (Rg 104 6) .ret) .skip)))))) (.seq (Rg 104 7) (.seq (.seq (Rg 104 8) (.cond (.tmp 20) (.seq (Rg 104 9) .ret) .skip)) (.seq (Rg 104 10) .ret))))) := ent Tryz.f104 (by kernel_rfl)
/- bowline/bowlineref11.form -/
theorem fF100 : RG 100 0 [oq 2 (.assign (cq 0))] ∧
 RG 100 1 [mq 4 0, oq 5 (.binOp .eql 3 (tq 4) (cq 29) 3), mq 6 5, .op ⟨some 7, .move (tq 0), some (6, false)⟩, .op ⟨some 8, .binOp .eql 3 (tq 7) (cq 30) 3, some (6, false)⟩, oq 9 (.pick (tq 6) (.const (.bool true)) (tq 8)), mq 10 9, .op ⟨some 11, .move (tq 0), some (10, false)⟩, .op ⟨some 12, .binOp .eql 3 (tq 11) (cq 31) 3, some (10, false)⟩, oq 13 (.pick (tq 10) (.const (.bool true)) (tq 12)), mq 14 13, .op ⟨some 15, .move (tq 0), some (14, false)⟩, .op ⟨some 16, .binOp .geq 3 (tq 15) (cq 46) 3, some (14, false)⟩, .op ⟨some 17, .move (tq 16), some (14, false)⟩, .op ⟨some 18, .move (tq 0), some (17, true)⟩, .op ⟨some 19, .binOp .leq 3 (tq 18) (cq 49) 3, some (17, true)⟩, .op ⟨some 20, .pick (tq 17) (tq 19) (.const (.bool false)), some (14, false)⟩, oq 21 (.pick (tq 14) (.const (.bool true)) (tq 20)), oq 3 (.assign (tq 21))] ∧
 RG 100 2 [oq 2 (.assign (cq 1))] ∧
 RG 100 3 [mq 23 0, oq 24 (.binOp .geq 3 (tq 23) (cq 15) 3), mq 25 24, .op ⟨some 26, .move (tq 0), some (25, true)⟩, .op ⟨some 27, .binOp .leq 3 (tq 26) (cq 17) 3, some (25, true)⟩, oq 28 (.pick (tq 25) (tq 27) (.const (.bool false))), mq 29 28, .op ⟨some 30, .move (tq 0), some (29, false)⟩, .op ⟨some 31, .binOp .geq 3 (tq 30) (cq 34) 3, some (29, false)⟩, .op ⟨some 32, .move (tq 31), some (29, false)⟩, .op ⟨some 33, .move (tq 0), some (32, true)⟩, .op ⟨some 34, .binOp .leq 3 (tq 33) (cq 37) 3, some (32, true)⟩, .op ⟨some 35, .pick (tq 32) (tq 34) (.const (.bool false)), some (29, false)⟩, oq 36 (.pick (tq 29) (.const (.bool true)) (tq 35)), oq 22 (.assign (tq 36))] ∧
 RG 100 4 [oq 2 (.assign (cq 3))] ∧
 RG 100 5 [mq 38 0, oq 39 (.binOp .geq 3 (tq 38) (cq 6) 3), mq 40 39, .op ⟨some 41, .move (tq 0), some (40, true)⟩, .op ⟨some 42, .binOp .leq 3 (tq 41) (cq 33) 3, some (40, true)⟩, oq 43 (.pick (tq 40) (tq 42) (.const (.bool false))), oq 37 (.assign (tq 43))] ∧
 RG 100 6 [oq 2 (.assign (cq 2))] ∧
 RG 100 7 [mq 45 0, oq 46 (.binOp .geq 3 (tq 45) (cq 38) 3), mq 47 46, .op ⟨some 48, .move (tq 0), some (47, true)⟩, .op ⟨some 49, .binOp .leq 3 (tq 48) (cq 45) 3, some (47, true)⟩, oq 50 (.pick (tq 47) (tq 49) (.const (.bool false))), oq 44 (.assign (tq 50))] ∧
 RG 100 8 [oq 2 (.assign (cq 4))] ∧
 RG 100 9 [oq 2 (.assign (cq 0))] := by and_intros <;> exact rgo fun _ => by kernel_rfl
theorem enter100 : ENT 100 51 [.tmp 2] (.seq (Rg 100 0) (.seq (.block 0 (.seq (Rg 100 1) (.cond (.tmp 3) (.seq (Rg 100 2) .ret) (.seq (Rg 100 3) (.cond (.tmp 22) (.seq (Rg 100 4) .ret) (.seq (Rg 100 5) (.cond (.tmp 37) (.seq (Rg 100 6) .ret) (.seq (Rg 100 7) (.cond (.tmp 44) (.seq (Rg 100 8) .ret) .skip))))))))) (.seq (Rg 100 9) .ret))) := ent Tryz.f100 (by kernel_rfl)
/- bowline/bowlineref11.names -/
theorem fF99 : RG 99 0 [oq 0 (.assign (.const (.slice none 0 0)))] ∧
 RG 99 1 [oq 1 (.buildSlice 163 70 #[(0, (sq #[99,111,110,115,116])), (1, (sq #[117,110,100,101,102])), (2, (sq #[110,117,108,108])), (3, (sq #[103,108,111,98,97,108])), (4, (sq #[115,108,111,116])), (5, (sq #[109,111,118,101])), (6, (sq #[97,100,100])), (7, (sq #[115,117,98])), (8, (sq #[109,117,108])), (9, (sq #[97,100,100,119,114,97,112])), (10, (sq #[115,117,98,119,114,97,112])), (11, (sq #[109,117,108,119,114,97,112])), (12, (sq #[97,100,100,115,97,116])), (13, (sq #[115,117,98,115,97,116])), (14, (sq #[109,117,108,115,97,116])), (15, (sq #[97,100,100,111,118,101,114])), (16, (sq #[115,117,98,111,118,101,114])), (17, (sq #[109,117,108,111,118,101,114])), (18, (sq #[100,105,118])), (19, (sq #[100,105,118,102,108,111,111,114])), (20, (sq #[100,105,118,101,120,97,99,116])), (21, (sq #[114,101,109])), (22, (sq #[109,111,100])), (23, (sq #[115,104,108])), (24, (sq #[115,104,108,101,120,97,99,116])), (25, (sq #[115,104,114])), (26, (sq #[97,110,100])), (27, (sq #[111,114])), (28, (sq #[120,111,114])), (29, (sq #[110,111,116])), (30, (sq #[110,101,103])), (31, (sq #[110,101,103,119,114,97,112])), (32, (sq #[109,105,110])), (33, (sq #[109,97,120])), (34, (sq #[101,113])), (35, (sq #[110,101])), (36, (sq #[108,116])), (37, (sq #[108,101])), (38, (sq #[102,105,116])), (39, (sq #[102,105,116,115])), (40, (sq #[116,114,117,110,99])), (41, (sq #[98,105,116,115])), (42, (sq #[116,111,102,108,111,97,116])), (43, (sq #[116,111,105,110,116])), (44, (sq #[116,111,102,105,116,115])), (45, (sq #[114,111,117,110,100])), (46, (sq #[112,111,112,99,111,117,110,116])), (47, (sq #[99,108,122])), (48, (sq #[99,116,122])), (49, (sq #[98,121,116,101,115,119,97,112])), (50, (sq #[108,111,97,100])), (51, (sq #[115,116,111,114,101])), (52, (sq #[111,102,102,115,101,116])), (53, (sq #[105,110,100,101,120])), (54, (sq #[99,111,112,121])), (55, (sq #[101,114,97,115,101])), (56, (sq #[97,108,108,111,99])), (57, (sq #[102,114,101,101])), (58, (sq #[99,97,108,108])), (59, (sq #[97,115,115,117,109,101])), (60, (sq #[111,117,116])), (61, (sq #[111,117,116,98,121,116,101,115])), (62, (sq #[116,114,97,99,101])), (63, (sq #[102,111,114,103,101,116])), (64, (sq #[106,117,109,112])), (65, (sq #[98,114,97,110,99,104])), (66, (sq #[115,119,105,116,99,104])), (67, (sq #[114,101,116,117,114,110])), (68, (sq #[117,110,114,101,97,99,104,97,98,108,101])), (69, (sq #[112,97,110,105,99]))]), oq 0 (.assign (tq 1))] := by and_intros <;> exact rgo fun _ => by kernel_rfl
theorem enter99 : ENT 99 2 [.tmp 0] (.seq (Rg 99 0) (.seq (Rg 99 1) .ret)) := ent Tryz.f99 (by kernel_rfl)
/- bowline/bowlineref12.Bits -/
theorem fF91 : RG 91 0 [oq 2 (.assign (cq 0))] ∧
 RG 91 1 [mq 5 0, oq 6 (.binOp .eql 9 (tq 5) (sq #[102,51,50]) 9)] ∧
 RG 91 2 [oq 2 (.assign (cq 32))] ∧
 RG 91 3 [mq 7 0, oq 8 (.binOp .eql 9 (tq 7) (sq #[102,54,52]) 9), mq 9 8, .op ⟨some 10, .move (tq 0), some (9, false)⟩, .op ⟨some 11, .binOp .eql 9 (tq 10) (sq #[112,116,114]) 9, some (9, false)⟩, oq 12 (.pick (tq 9) (.const (.bool true)) (tq 11))] ∧
 RG 91 4 [oq 2 (.assign (cq 64))] ∧
 RG 91 5 [mq 14 0, oq 15 (.call (.mk (.value (.func 118)) #[(tq 14)] #[9])), mq 13 15, oq 16 (.extract (tq 13) 0), oq 17 (.extract (tq 13) 1), oq 3 (.assign (tq 16)), oq 4 (.assign (tq 17))] ∧
 RG 91 6 [mq 18 3, oq 2 (.assign (tq 18))] := by and_intros <;> exact rgo fun _ => by kernel_rfl
theorem enter91 : ENT 91 19 [.tmp 2] (.seq (Rg 91 0) (.seq (.seq (Rg 91 1) (.cond (.tmp 6) (.seq (Rg 91 2) .ret) .skip)) (.seq (.seq (Rg 91 3) (.cond (.tmp 12) (.seq (Rg 91 4) .ret) .skip)) (.seq (Rg 91 5) (.seq (Rg 91 6) .ret))))) := ent Tryz.f91 (by kernel_rfl)
/- bowline/bowlineref12.IsAlign -/
theorem fF67 : RG 67 0 [oq 2 (.assign (.const (.bool false)))] ∧
 RG 67 1 [mq 3 0, oq 4 (.binOp .eql 3 (tq 3) (cq 1) 3), mq 5 4, .op ⟨some 6, .move (tq 0), some (5, false)⟩, .op ⟨some 7, .binOp .eql 3 (tq 6) (cq 2) 3, some (5, false)⟩, oq 8 (.pick (tq 5) (.const (.bool true)) (tq 7)), mq 9 8, .op ⟨some 10, .move (tq 0), some (9, false)⟩, .op ⟨some 11, .binOp .eql 3 (tq 10) (cq 4) 3, some (9, false)⟩, oq 12 (.pick (tq 9) (.const (.bool true)) (tq 11)), mq 13 12, .op ⟨some 14, .move (tq 0), some (13, false)⟩, .op ⟨some 15, .binOp .eql 3 (tq 14) (cq 8) 3, some (13, false)⟩, oq 16 (.pick (tq 13) (.const (.bool true)) (tq 15)), mq 17 16, .op ⟨some 18, .move (tq 0), some (17, false)⟩, .op ⟨some 19, .binOp .eql 3 (tq 18) (cq 16) 3, some (17, false)⟩, oq 20 (.pick (tq 17) (.const (.bool true)) (tq 19)), oq 2 (.assign (tq 20))] := by and_intros <;> exact rgo fun _ => by kernel_rfl
theorem enter67 : ENT 67 21 [.tmp 2] (.seq (Rg 67 0) (.seq (Rg 67 1) .ret)) := ent Tryz.f67 (by kernel_rfl)
/- bowline/bowlineref12.Size -/
theorem fF90 : RG 90 0 [oq 2 (.assign (cq 0)), oq 3 (.assign (cq 0))] ∧
 RG 90 1 [mq 6 0] ∧
 RG 90 2 [oq 8 (.binOp .eql 9 (tq 6) (sq #[102,51,50]) 9), oq 7 (.assign (tq 8))] ∧
 RG 90 3 [oq 2 (.assign (cq 4)), oq 3 (.assign (cq 0))] ∧
 RG 90 4 [oq 10 (.binOp .eql 9 (tq 6) (sq #[102,54,52]) 9), oq 9 (.assign (tq 10))] ∧
 RG 90 5 [oq 11 (.binOp .eql 9 (tq 6) (sq #[112,116,114]) 9), oq 9 (.assign (tq 11))] ∧
 RG 90 6 [oq 2 (.assign (cq 8)), oq 3 (.assign (cq 0))] ∧
 RG 90 7 [mq 13 0, oq 14 (.call (.mk (.value (.func 118)) #[(tq 13)] #[9])), mq 12 14, oq 15 (.extract (tq 12) 0), oq 16 (.extract (tq 12) 1), oq 4 (.assign (tq 15)), oq 5 (.assign (tq 16))] ∧
 RG 90 8 [mq 17 5, oq 18 (.unOp .not 4 (tq 17))] ∧
 RG 90 9 [oq 2 (.assign (cq 0)), oq 3 (.assign (cq 12))] ∧
 RG 90 10 [mq 19 4, oq 20 (.binOp .add 3 (tq 19) (cq 7) 3), oq 21 (.binOp .quo 3 (tq 20) (cq 8) 3), oq 2 (.assign (tq 21)), oq 3 (.assign (cq 0))] := by and_intros <;> exact rgo fun _ => by kernel_rfl
theorem enter90 : ENT 90 22 [.tmp 2, .tmp 3] (.seq (Rg 90 0) (.seq (.seq (Rg 90 1) (.block 0 (.seq (Rg 90 2) (.cond (.tmp 7) (.seq (Rg 90 3) .ret) (.seq (.seq (Rg 90 4) (.cond (.tmp 9) .skip (Rg 90 5))) (.cond (.tmp 9) (.seq (Rg 90 6) .ret) .skip)))))) (.seq (Rg 90 7) (.seq (.seq (Rg 90 8) (.cond (.tmp 18) (.seq (Rg 90 9) .ret) .skip)) (.seq (Rg 90 10) .ret))))) := ent Tryz.f90 (by kernel_rfl)
/- bowline/bowlineref12.width -/
theorem fF118 : RG 118 0 [oq 2 (.assign (cq 0)), oq 3 (.assign (.const (.bool false)))] ∧
 RG 118 1 [mq 6 0, oq 7 (.call (.mk (.builtin .len) #[(tq 6)] #[9])), oq 8 (.binOp .lss 3 (tq 7) (cq 2) 3), mq 9 8, .op ⟨some 10, .move (tq 0), some (9, false)⟩, .op ⟨some 11, .index 9 (tq 10) (cq 0), some (9, false)⟩, .op ⟨some 12, .binOp .neq 5 (tq 11) (.const (.int .u8 117)) 5, some (9, false)⟩, .op ⟨some 13, .move (tq 12), some (9, false)⟩, .op ⟨some 14, .move (tq 0), some (13, true)⟩, .op ⟨some 15, .index 9 (tq 14) (cq 0), some (13, true)⟩, .op ⟨some 16, .binOp .neq 5 (tq 15) (.const (.int .u8 105)) 5, some (13, true)⟩, .op ⟨some 17, .pick (tq 13) (tq 16) (.const (.bool false)), some (9, false)⟩, oq 18 (.pick (tq 9) (.const (.bool true)) (tq 17))] ∧
 RG 118 2 [oq 2 (.assign (cq 0)), oq 3 (.assign (.const (.bool false)))] ∧
 RG 118 3 [mq 20 0, oq 21 (.slice 9 (tq 20) (some (cq 1)) none none), oq 22 (.call (.mk (.value (.func 140)) #[(tq 21)] #[9])), mq 19 22, oq 23 (.extract (tq 19) 0), oq 24 (.extract (tq 19) 1), oq 4 (.assign (tq 23)), oq 5 (.assign (tq 24))] ∧
 RG 118 4 [mq 25 4, mq 26 5, mq 27 26, .op ⟨some 28, .move (tq 4), some (27, true)⟩, .op ⟨some 29, .binOp .leq 3 (tq 28) (cq 64) 3, some (27, true)⟩, oq 30 (.pick (tq 27) (tq 29) (.const (.bool false))), mq 31 30, .op ⟨some 32, .move (tq 4), some (31, true)⟩, .op ⟨some 33, .binOp .gtr 3 (tq 32) (cq 0) 3, some (31, true)⟩, .op ⟨some 34, .move (tq 33), some (31, true)⟩, .op ⟨some 35, .move (tq 0), some (34, false)⟩, .op ⟨some 36, .index 9 (tq 35) (cq 0), some (34, false)⟩, .op ⟨some 37, .binOp .eql 5 (tq 36) (.const (.int .u8 117)) 5, some (34, false)⟩, .op ⟨some 38, .pick (tq 34) (.const (.bool true)) (tq 37), some (31, true)⟩, oq 39 (.pick (tq 31) (tq 38) (.const (.bool false))), oq 2 (.assign (tq 25)), oq 3 (.assign (tq 39)), .chk []] := by and_intros <;> exact rgo fun _ => by kernel_rfl
theorem enter118 : ENT 118 40 [.tmp 2, .tmp 3] (.seq (Rg 118 0) (.seq (.seq (Rg 118 1) (.cond (.tmp 18) (.seq (Rg 118 2) .ret) .skip)) (.seq (Rg 118 3) (.seq (Rg 118 4) .ret)))) := ent Tryz.f118 (by kernel_rfl)
/- bowline/bowlineref24.Code -/
theorem fF56 : RG 56 0 [oq 2 (.assign (cq 0)), oq 3 (.assign (cq 0))] ∧
 RG 56 1 [mq 7 0] ∧
 RG 56 2 [oq 9 (.binOp .eql 9 (tq 7) (sq #[]) 9), oq 8 (.assign (tq 9))] ∧
 RG 56 3 [oq 2 (.assign (cq 255)), oq 3 (.assign (cq 0))] ∧
 RG 56 4 [oq 11 (.binOp .eql 9 (tq 7) (sq #[102,51,50]) 9), oq 10 (.assign (tq 11))] ∧
 RG 56 5 [oq 2 (.assign (cq 129)), oq 3 (.assign (cq 0))] ∧
 RG 56 6 [oq 13 (.binOp .eql 9 (tq 7) (sq #[102,54,52]) 9), oq 12 (.assign (tq 13))] ∧
 RG 56 7 [oq 2 (.assign (cq 130)), oq 3 (.assign (cq 0))] ∧
 RG 56 8 [oq 15 (.binOp .eql 9 (tq 7) (sq #[112,116,114]) 9), oq 14 (.assign (tq 15))] ∧
 RG 56 9 [oq 2 (.assign (cq 131)), oq 3 (.assign (cq 0))] ∧
 RG 56 10 [mq 17 0, oq 18 (.call (.mk (.value (.func 90)) #[(tq 17)] #[9])), mq 16 18, oq 19 (.extract (tq 16) 0), oq 20 (.extract (tq 16) 1), oq 4 (.assign (tq 19)), oq 5 (.assign (tq 20))] ∧
 RG 56 11 [mq 21 5, oq 22 (.binOp .neq 3 (tq 21) (cq 0) 3)] ∧
 RG 56 12 [oq 2 (.assign (cq 0)), oq 3 (.assign (cq 12))] ∧
 RG 56 13 [mq 23 0, oq 24 (.call (.mk (.value (.func 91)) #[(tq 23)] #[9])), oq 6 (.assign (tq 24))] ∧
 RG 56 14 [mq 25 0, oq 26 (.index 9 (tq 25) (cq 0)), oq 27 (.binOp .eql 5 (tq 26) (.const (.int .u8 105)) 5)] ∧
 RG 56 15 [mq 28 6, oq 29 (.binOp .add 3 (cq 64) (tq 28) 3), oq 2 (.assign (tq 29)), oq 3 (.assign (cq 0))] ∧
 RG 56 16 [mq 30 6, oq 2 (.assign (tq 30)), oq 3 (.assign (cq 0))] := by and_intros <;> exact rgo fun _ => by kernel_rfl
theorem enter56 : ENT 56 31 [.tmp 2, .tmp 3] (.seq (Rg 56 0) (.seq (.seq (Rg 56 1) (.block 0 (.seq (Rg 56 2) (.cond (.tmp 8) (.seq (Rg 56 3) .ret) (.seq (Rg 56 4) (.cond (.tmp 10) (.seq (Rg 56 5) .ret) (.seq (Rg 56 6) (.cond (.tmp 12) (.seq (Rg 56 7) .ret) (.seq (Rg 56 8) (.cond (.tmp 14) (.seq (Rg 56 9) .ret) .skip)))))))))) (.seq (.seq (Rg 56 10) (.seq (Rg 56 11) (.cond (.tmp 22) (.seq (Rg 56 12) .ret) .skip))) (.seq (Rg 56 13) (.seq (.seq (Rg 56 14) (.cond (.tmp 27) (.seq (Rg 56 15) .ret) .skip)) (.seq (Rg 56 16) .ret)))))) := ent Tryz.f56 (by kernel_rfl)
/- bowline/bowlineref24.Decimal -/
theorem fF54 : RG 54 0 [oq 2 (.assign (sq #[]))] ∧
 RG 54 1 [mq 3 0, oq 4 (.binOp .lss 3 (tq 3) (cq 0) 3)] ∧
 RG 54 2 [mq 5 0, oq 6 (.unOp .neg 3 (tq 5)), oq 7 (.convert 3 34 (tq 6)), oq 8 (.call (.mk (.value (.func 86)) #[(tq 7)] #[34])), oq 9 (.binOp .add 9 (sq #[45]) (tq 8) 9), oq 2 (.assign (tq 9))] ∧
 RG 54 3 [mq 10 0, oq 11 (.convert 3 34 (tq 10)), oq 12 (.call (.mk (.value (.func 86)) #[(tq 11)] #[34])), oq 2 (.assign (tq 12))] := by and_intros <;> exact rgo fun _ => by kernel_rfl
theorem enter54 : ENT 54 13 [.tmp 2] (.seq (Rg 54 0) (.seq (.seq (Rg 54 1) (.cond (.tmp 4) (.seq (Rg 54 2) .ret) .skip)) (.seq (Rg 54 3) .ret))) := ent Tryz.f54 (by kernel_rfl)
/- bowline/bowlineref24.IsImm -/
theorem fF66 : RG 66 0 [oq 2 (.assign (.const (.bool false)))] ∧
 RG 66 1 [mq 3 0, oq 4 (.binOp .geq 3 (tq 3) (cq (-2147483648)) 3), mq 5 4, .op ⟨some 6, .move (tq 0), some (5, true)⟩, .op ⟨some 7, .binOp .leq 3 (tq 6) (cq 2147483647) 3, some (5, true)⟩, oq 8 (.pick (tq 5) (tq 7) (.const (.bool false))), oq 2 (.assign (tq 8))] := by and_intros <;> exact rgo fun _ => by kernel_rfl
theorem enter66 : ENT 66 9 [.tmp 2] (.seq (Rg 66 0) (.seq (Rg 66 1) .ret)) := ent Tryz.f66 (by kernel_rfl)
/- bowline/bowlineref24.Natural -/
theorem fF53 : RG 53 0 [oq 2 (.assign (sq #[]))] ∧
 RG 53 1 [mq 3 0, oq 4 (.call (.mk (.value (.func 86)) #[(tq 3)] #[34])), oq 2 (.assign (tq 4))] := by and_intros <;> exact rgo fun _ => by kernel_rfl
theorem enter53 : ENT 53 5 [.tmp 2] (.seq (Rg 53 0) (.seq (Rg 53 1) .ret)) := ent Tryz.f53 (by kernel_rfl)
/- bowline/bowlineref24.natural -/
theorem fF86 : RG 86 0 [oq 2 (.assign (sq #[]))] ∧
 RG 86 1 [mq 3 0, oq 4 (.binOp .lss 34 (tq 3) (.const (.int .u64 10)) 34)] ∧
 RG 86 2 [mq 5 0, oq 6 (.convert 34 3 (tq 5)), oq 7 (.binOp .add 3 (cq 48) (tq 6) 3), oq 8 (.convert 3 21 (tq 7)), oq 9 (.convert 21 9 (tq 8)), oq 2 (.assign (tq 9))] ∧
 RG 86 3 [mq 10 0, oq 11 (.binOp .quo 34 (tq 10) (.const (.int .u64 10)) 34), oq 12 (.call (.mk (.value (.func 86)) #[(tq 11)] #[34])), mq 13 0, oq 14 (.binOp .rem 34 (tq 13) (.const (.int .u64 10)) 34), oq 15 (.convert 34 3 (tq 14)), oq 16 (.binOp .add 3 (cq 48) (tq 15) 3), oq 17 (.convert 3 21 (tq 16)), oq 18 (.convert 21 9 (tq 17)), oq 19 (.binOp .add 9 (tq 12) (tq 18) 9), oq 2 (.assign (tq 19))] := by and_intros <;> exact rgo fun _ => by kernel_rfl
theorem enter86 : ENT 86 20 [.tmp 2] (.seq (Rg 86 0) (.seq (.seq (Rg 86 1) (.cond (.tmp 4) (.seq (Rg 86 2) .ret) .skip)) (.seq (Rg 86 3) .ret))) := ent Tryz.f86 (by kernel_rfl)
/- bowline/bowlineref26.Check -/
theorem r16_0 : RG 16 0 [oq 1 (.box 36 (tq 0)), oq 2 (.assign (cq 0))] := rgo fun _ => by kernel_rfl
theorem r16_1 : RG 16 1 [oq 7 (.fieldAddr 36 (tq 1) 0), oq 8 (.load 3 (tq 7)), oq 9 (.binOp .lss 3 (tq 8) (cq 0) 3), mq 10 9, .op ⟨some 11, .fieldAddr 36 (tq 1) 0, some (10, false)⟩, .op ⟨some 12, .load 3 (tq 11), some (10, false)⟩, .op ⟨some 13, .binOp .geq 3 (tq 12) (cq 29) 3, some (10, false)⟩, oq 14 (.pick (tq 10) (.const (.bool true)) (tq 13))] := rgo fun _ => by kernel_rfl
theorem r16_2 : RG 16 2 [oq 2 (.assign (cq 11))] := rgo fun _ => by kernel_rfl
theorem r16_3 : RG 16 3 [oq 15 (.fieldAddr 36 (tq 1) 0), oq 16 (.load 3 (tq 15)), oq 17 (.call (.mk (.value (.func 24)) #[(tq 16)] #[3])), oq 3 (.alloc 77), .op ⟨none, .store 77 (tq 3) (tq 17), none⟩] := rgo fun _ => by kernel_rfl
theorem r16_4 : RG 16 4 [oq 18 (.load 77 (tq 3)), oq 19 (.call (.mk (.value (.func 38)) #[(tq 18), (.const (.int .u8 101))] #[77,5])), oq 4 (.assign (tq 19))] := rgo fun _ => by kernel_rfl
theorem r16_5 : RG 16 5 [oq 20 (.fieldAddr 36 (tq 1) 1), oq 21 (.load 9 (tq 20)), oq 22 (.load 77 (tq 3)), oq 25 (.fieldAddr 36 (tq 1) 2), oq 26 (.load 9 (tq 25)), oq 27 (.load 77 (tq 3)), .chk [⟨some 21, .load 9 (tq 20), none⟩, ⟨some 22, .load 77 (tq 3), none⟩, ⟨some 26, .load 9 (tq 25), none⟩, ⟨some 27, .load 77 (tq 3), none⟩], oq 23 (.call (.mk (.value (.func 38)) #[(tq 22), (.const (.int .u8 116))] #[77,5])), .chk [⟨some 21, .load 9 (tq 20), none⟩, ⟨some 26, .load 9 (tq 25), none⟩, ⟨some 27, .load 77 (tq 3), none⟩], oq 24 (.call (.mk (.value (.func 40)) #[(tq 21), (tq 23)] #[9,4])), .chk [⟨some 26, .load 9 (tq 25), none⟩, ⟨some 27, .load 77 (tq 3), none⟩], oq 28 (.call (.mk (.value (.func 38)) #[(tq 27), (.const (.int .u8 117))] #[77,5])), .chk [⟨some 26, .load 9 (tq 25), none⟩], oq 29 (.call (.mk (.value (.func 40)) #[(tq 26), (tq 28)] #[9,4])), oq 30 (.buildSlice 55 2 #[(0, (tq 24)), (1, (tq 29))]), .chk [], oq 31 (.call (.mk (.value (.func 39)) #[(tq 30)] #[55])), oq 5 (.assign (tq 31)), .chk []] := rgo fun _ => by kernel_rfl
theorem r16_6 : RG 16 6 [mq 32 5, oq 33 (.binOp .neq 3 (tq 32) (cq 0) 3)] := rgo fun _ => by kernel_rfl
theorem r16_7 : RG 16 7 [mq 34 5, oq 2 (.assign (tq 34))] := rgo fun _ => by kernel_rfl
theorem r16_8 : RG 16 8 [oq 35 (.load 77 (tq 3)), oq 36 (.call (.mk (.value (.func 38)) #[(tq 35), (.const (.int .u8 110))] #[77,5])), oq 37 (.unOp .not 4 (tq 36)), mq 38 37, .op ⟨some 39, .load 77 (tq 3), some (38, true)⟩, .op ⟨some 40, .call (.mk (.value (.func 38)) #[(tq 39), (.const (.int .u8 119))] #[77,5]), some (38, true)⟩, .op ⟨some 41, .unOp .not 4 (tq 40), some (38, true)⟩, oq 42 (.pick (tq 38) (tq 41) (.const (.bool false))), mq 43 42, .op ⟨some 44, .move (tq 4), some (43, true)⟩, .op ⟨some 45, .unOp .not 4 (tq 44), some (43, true)⟩, oq 46 (.pick (tq 43) (tq 45) (.const (.bool false))), mq 47 46, .op ⟨some 48, .fieldAddr 36 (tq 1) 3, some (47, true)⟩, .op ⟨some 49, .load 34 (tq 48), some (47, true)⟩, .op ⟨some 50, .binOp .neq 34 (tq 49) (.const (.int .u64 0)) 34, some (47, true)⟩, oq 51 (.pick (tq 47) (tq 50) (.const (.bool false))), mq 52 51, .op ⟨some 53, .load 77 (tq 3), some (52, false)⟩, .op ⟨some 54, .call (.mk (.value (.func 38)) #[(tq 53), (.const (.int .u8 115))] #[77,5]), some (52, false)⟩, .op ⟨some 55, .unOp .not 4 (tq 54), some (52, false)⟩, .op ⟨some 56, .move (tq 55), some (52, false)⟩, .op ⟨some 57, .load 77 (tq 3), some (56, true)⟩, .op ⟨some 58, .call (.mk (.value (.func 38)) #[(tq 57), (.const (.int .u8 100))] #[77,5]), some (56, true)⟩, .op ⟨some 59, .unOp .not 4 (tq 58), some (56, true)⟩, .op ⟨some 60, .pick (tq 56) (tq 59) (.const (.bool false)), some (52, false)⟩, .op ⟨some 61, .move (tq 60), some (52, false)⟩, .op ⟨some 62, .move (tq 4), some (61, true)⟩, .op ⟨some 63, .unOp .not 4 (tq 62), some (61, true)⟩, .op ⟨some 64, .pick (tq 61) (tq 63) (.const (.bool false)), some (52, false)⟩, .op ⟨some 65, .move (tq 64), some (52, false)⟩, .op ⟨some 66, .fieldAddr 36 (tq 1) 4, some (65, true)⟩, .op ⟨some 67, .load 3 (tq 66), some (65, true)⟩, .op ⟨some 68, .binOp .neq 3 (tq 67) (cq 0) 3, some (65, true)⟩, .op ⟨some 69, .pick (tq 65) (tq 68) (.const (.bool false)), some (52, false)⟩, oq 70 (.pick (tq 52) (.const (.bool true)) (tq 69)), mq 71 70, .op ⟨some 72, .move (tq 4), some (71, false)⟩, .op ⟨some 73, .unOp .not 4 (tq 72), some (71, false)⟩, .op ⟨some 74, .move (tq 73), some (71, false)⟩, .op ⟨some 75, .fieldAddr 36 (tq 1) 5, some (74, true)⟩, .op ⟨some 76, .load 3 (tq 75), some (74, true)⟩, .op ⟨some 77, .binOp .neq 3 (tq 76) (cq 0) 3, some (74, true)⟩, .op ⟨some 78, .pick (tq 74) (tq 77) (.const (.bool false)), some (71, false)⟩, oq 79 (.pick (tq 71) (.const (.bool true)) (tq 78))] := rgo fun _ => by kernel_rfl
theorem r16_9 : RG 16 9 [oq 2 (.assign (cq 1))] := rgo fun _ => by kernel_rfl
theorem r16_10 : RG 16 10 [oq 80 (.load 36 (tq 1)), oq 81 (.call (.mk (.value (.func 41)) #[(tq 80)] #[36])), oq 6 (.assign (tq 81))] := rgo fun _ => by kernel_rfl
theorem r16_11 : RG 16 11 [mq 82 6, oq 83 (.binOp .neq 3 (tq 82) (cq 0) 3)] := rgo fun _ => by kernel_rfl
theorem r16_12 : RG 16 12 [mq 84 6, oq 2 (.assign (tq 84))] := rgo fun _ => by kernel_rfl
theorem r16_13 : RG 16 13 [oq 85 (.load 36 (tq 1)), oq 86 (.call (.mk (.value (.func 42)) #[(tq 85)] #[36])), oq 2 (.assign (tq 86))] := rgo fun _ => by kernel_rfl
def fF16 := And.intro r16_0 <| And.intro r16_1 <| And.intro r16_2 <| And.intro r16_3 <| And.intro r16_4 <| And.intro r16_5 <| And.intro r16_6 <| And.intro r16_7 <| And.intro r16_8 <| And.intro r16_9 <| And.intro r16_10 <| And.intro r16_11 <| And.intro r16_12 <| r16_13
theorem enter16 : ENT 16 87 [.tmp 2] (.seq (Rg 16 0) (.seq (.seq (Rg 16 1) (.cond (.tmp 14) (.seq (Rg 16 2) .ret) .skip)) (.seq (Rg 16 3) (.seq (Rg 16 4) (.seq (Rg 16 5) (.seq (.seq (Rg 16 6) (.cond (.tmp 33) (.seq (Rg 16 7) .ret) .skip)) (.seq (.seq (Rg 16 8) (.cond (.tmp 79) (.seq (Rg 16 9) .ret) .skip)) (.seq (.seq (Rg 16 10) (.seq (Rg 16 11) (.cond (.tmp 83) (.seq (Rg 16 12) .ret) .skip))) (.seq (Rg 16 13) .ret))))))))) := ent Tryz.f16 (by kernel_rfl)
/- bowline/bowlineref26.Effect -/
theorem fF14 : RG 14 0 [oq 1 (.box 36 (tq 0)), oq 2 (.assign (cq 0)), oq 3 (.assign (cq 0)), oq 4 (.assign (cq 0))] ∧
 RG 14 1 [oq 7 (.load 36 (tq 1)), oq 8 (.call (.mk (.value (.func 16)) #[(tq 7)] #[36])), oq 5 (.assign (tq 8))] ∧
 RG 14 2 [mq 9 5, oq 10 (.binOp .neq 3 (tq 9) (cq 0) 3)] ∧
 RG 14 3 [mq 11 5, oq 2 (.assign (cq 0)), oq 3 (.assign (cq 0)), oq 4 (.assign (tq 11))] ∧
 RG 14 4 [oq 12 (.fieldAddr 36 (tq 1) 0), oq 13 (.load 3 (tq 12)), oq 14 (.call (.mk (.value (.func 24)) #[(tq 13)] #[3])), oq 6 (.alloc 77), .op ⟨none, .store 77 (tq 6) (tq 14), none⟩] ∧
 RG 14 5 [oq 15 (.fieldAddr 36 (tq 1) 0), oq 16 (.load 3 (tq 15)), oq 17 (.binOp .eql 3 (tq 16) (cq 25) 3)] ∧
 RG 14 6 [oq 18 (.fieldAddr 36 (tq 1) 3), oq 19 (.load 34 (tq 18)), oq 20 (.convert 34 3 (tq 19)), oq 2 (.assign (tq 20)), oq 3 (.assign (cq 0)), oq 4 (.assign (cq 0))] ∧
 RG 14 7 [oq 21 (.fieldAddr 77 (tq 6) 2), oq 22 (.load 3 (tq 21)), oq 23 (.fieldAddr 77 (tq 6) 3), oq 24 (.load 3 (tq 23)), oq 2 (.assign (tq 22)), oq 3 (.assign (tq 24)), oq 4 (.assign (cq 0)), .chk [⟨some 22, .load 3 (tq 21), none⟩, ⟨some 24, .load 3 (tq 23), none⟩]] := by and_intros <;> exact rgo fun _ => by kernel_rfl
theorem enter14 : ENT 14 25 [.tmp 2, .tmp 3, .tmp 4] (.seq (Rg 14 0) (.seq (.seq (Rg 14 1) (.seq (Rg 14 2) (.cond (.tmp 10) (.seq (Rg 14 3) .ret) .skip))) (.seq (Rg 14 4) (.seq (.seq (Rg 14 5) (.cond (.tmp 17) (.seq (Rg 14 6) .ret) .skip)) (.seq (Rg 14 7) .ret))))) := ent Tryz.f14 (by kernel_rfl)
/- bowline/bowlineref26.Name -/
theorem fF7 : RG 7 0 [oq 2 (.assign (sq #[])), oq 3 (.assign (cq 0))] ∧
 RG 7 1 [mq 4 0, oq 5 (.binOp .lss 3 (tq 4) (cq 0) 3), mq 6 5, .op ⟨some 7, .move (tq 0), some (6, false)⟩, .op ⟨some 8, .binOp .geq 3 (tq 7) (cq 29) 3, some (6, false)⟩, oq 9 (.pick (tq 6) (.const (.bool true)) (tq 8))] ∧
 RG 7 2 [oq 2 (.assign (sq #[])), oq 3 (.assign (cq 11))] ∧
 RG 7 3 [mq 10 0, oq 11 (.call (.mk (.value (.func 24)) #[(tq 10)] #[3])), oq 12 (.field 77 (tq 11) 0), oq 2 (.assign (tq 12)), oq 3 (.assign (cq 0))] := by and_intros <;> exact rgo fun _ => by kernel_rfl
theorem enter7 : ENT 7 13 [.tmp 2, .tmp 3] (.seq (Rg 7 0) (.seq (.seq (Rg 7 1) (.cond (.tmp 9) (.seq (Rg 7 2) .ret) .skip)) (.seq (Rg 7 3) .ret))) := ent Tryz.f7 (by kernel_rfl)
/- bowline/bowlineref26.Number -/
theorem fF57 : RG 57 0 [oq 2 (.assign (.const (.slice none 0 0)))] ∧
 RG 57 1 [mq 3 0, oq 4 (.binOp .lss 34 (tq 3) (.const (.int .u64 128)) 34)] ∧
 RG 57 2 [mq 5 0, oq 6 (.convert 34 5 (tq 5)), oq 7 (.buildSlice 49 1 #[(0, (tq 6))]), oq 2 (.assign (tq 7))] ∧
 RG 57 3 [mq 8 0, oq 9 (.binOp .rem 34 (tq 8) (.const (.int .u64 128)) 34), oq 10 (.convert 34 5 (tq 9)), oq 11 (.binOp .add 5 (tq 10) (.const (.int .u8 128)) 5), oq 12 (.buildSlice 49 1 #[(0, (tq 11))]), mq 13 0, oq 14 (.binOp .quo 34 (tq 13) (.const (.int .u64 128)) 34), oq 15 (.call (.mk (.value (.func 57)) #[(tq 14)] #[34])), oq 16 (.call (.mk (.builtin .append) #[(tq 12), (tq 15)] #[49,49])), oq 2 (.assign (tq 16))] := by and_intros <;> exact rgo fun _ => by kernel_rfl
theorem enter57 : ENT 57 17 [.tmp 2] (.seq (Rg 57 0) (.seq (.seq (Rg 57 1) (.cond (.tmp 4) (.seq (Rg 57 2) .ret) .skip)) (.seq (Rg 57 3) .ret))) := ent Tryz.f57 (by kernel_rfl)
/- bowline/bowlineref26.Print -/
theorem r10_0 : RG 10 0 [oq 2 (.assign (sq #[])), oq 3 (.assign (cq 0))] := rgo fun _ => by kernel_rfl
theorem r10_1 : RG 10 1 [mq 7 0, oq 8 (.call (.mk (.value (.func 29)) #[(tq 7)] #[22])), oq 4 (.assign (tq 8))] := rgo fun _ => by kernel_rfl
theorem r10_2 : RG 10 2 [mq 9 4, oq 10 (.binOp .neq 3 (tq 9) (cq 0) 3)] := rgo fun _ => by kernel_rfl
theorem r10_3 : RG 10 3 [mq 11 4, oq 2 (.assign (sq #[])), oq 3 (.assign (tq 11))] := rgo fun _ => by kernel_rfl
theorem r10_4 : RG 10 4 [oq 5 (.assign (sq #[]))] := rgo fun _ => by kernel_rfl
theorem r10_5 : RG 10 5 [oq 6 (.assign (cq 0))] := rgo fun _ => by kernel_rfl
theorem r10_6 : RG 10 6 [mq 12 6, mq 13 0, oq 14 (.call (.mk (.builtin .len) #[(tq 13)] #[22])), oq 15 (.binOp .lss 3 (tq 12) (tq 14) 3)] := rgo fun _ => by kernel_rfl
theorem r10_8 : RG 10 8 [mq 18 5, mq 19 0, mq 20 6, oq 21 (.indexAddr 22 (tq 19) (tq 20)), oq 22 (.load 36 (tq 21)), oq 23 (.call (.mk (.value (.func 30)) #[(tq 22)] #[36])), oq 24 (.binOp .add 9 (tq 18) (tq 23) 9), oq 5 (.assign (tq 24))] := rgo fun _ => by kernel_rfl
theorem r10_7 : RG 10 7 [mq 16 6, oq 17 (.binOp .add 3 (tq 16) (cq 1) 3), oq 6 (.assign (tq 17))] := rgo fun _ => by kernel_rfl
theorem r10_9 : RG 10 9 [mq 25 5, oq 2 (.assign (tq 25)), oq 3 (.assign (cq 0))] := rgo fun _ => by kernel_rfl
def fF10 := And.intro r10_0 <| And.intro r10_1 <| And.intro r10_2 <| And.intro r10_3 <| And.intro r10_4 <| And.intro r10_5 <| And.intro r10_6 <| And.intro r10_8 <| And.intro r10_7 <| r10_9
theorem enter10 : ENT 10 26 [.tmp 2, .tmp 3] (.seq (Rg 10 0) (.seq (.seq (Rg 10 1) (.seq (Rg 10 2) (.cond (.tmp 10) (.seq (Rg 10 3) .ret) .skip))) (.seq (Rg 10 4) (.seq (.seq (Rg 10 5) (.block 0 (.loop (.seq (.seq (Rg 10 6) (.cond (.tmp 15) .skip (Code.exit 0))) (.seq (.block 1 (Rg 10 8)) (Rg 10 7)))))) (.seq (Rg 10 9) .ret))))) := ent Tryz.f10 (by kernel_rfl)
/- bowline/bowlineref26.Size -/
theorem fF12 : RG 12 0 [oq 1 (.box 36 (tq 0)), oq 2 (.assign (cq 0)), oq 3 (.assign (cq 0))] ∧
 RG 12 1 [oq 5 (.load 36 (tq 1)), oq 6 (.call (.mk (.value (.func 16)) #[(tq 5)] #[36])), oq 4 (.assign (tq 6))] ∧
 RG 12 2 [mq 7 4, oq 8 (.binOp .neq 3 (tq 7) (cq 0) 3)] ∧
 RG 12 3 [mq 9 4, oq 2 (.assign (cq 0)), oq 3 (.assign (tq 9))] ∧
 RG 12 4 [oq 10 (.load 36 (tq 1)), oq 11 (.call (.mk (.value (.func 32)) #[(tq 10)] #[36])), oq 12 (.call (.mk (.builtin .len) #[(tq 11)] #[49])), oq 2 (.assign (tq 12)), oq 3 (.assign (cq 0))] := by and_intros <;> exact rgo fun _ => by kernel_rfl
theorem enter12 : ENT 12 13 [.tmp 2, .tmp 3] (.seq (Rg 12 0) (.seq (.seq (Rg 12 1) (.seq (Rg 12 2) (.cond (.tmp 8) (.seq (Rg 12 3) .ret) .skip))) (.seq (Rg 12 4) .ret))) := ent Tryz.f12 (by kernel_rfl)
/- bowline/bowlineref26.bytes -/
theorem r32_0 : RG 32 0 [oq 1 (.box 36 (tq 0)), oq 2 (.assign (.const (.slice none 0 0)))] := rgo fun _ => by kernel_rfl
theorem r32_1 : RG 32 1 [oq 10 (.fieldAddr 36 (tq 1) 0), oq 11 (.load 3 (tq 10)), oq 12 (.call (.mk (.value (.func 24)) #[(tq 11)] #[3])), oq 3 (.alloc 77), .op ⟨none, .store 77 (tq 3) (tq 12), none⟩] := rgo fun _ => by kernel_rfl
theorem r32_2 : RG 32 2 [oq 13 (.fieldAddr 36 (tq 1) 0), oq 14 (.load 3 (tq 13)), oq 15 (.convert 3 5 (tq 14)), oq 16 (.buildSlice 49 1 #[(0, (tq 15))]), oq 4 (.assign (tq 16))] := rgo fun _ => by kernel_rfl
theorem r32_3 : RG 32 3 [oq 5 (.assign (cq 0))] := rgo fun _ => by kernel_rfl
theorem r32_4 : RG 32 4 [mq 17 5, oq 18 (.fieldAddr 77 (tq 3) 1), oq 19 (.load 9 (tq 18)), oq 20 (.call (.mk (.builtin .len) #[(tq 19)] #[9])), oq 21 (.binOp .lss 3 (tq 17) (tq 20) 3)] := rgo fun _ => by kernel_rfl
theorem r32_6 : RG 32 6 [oq 24 (.fieldAddr 77 (tq 3) 1), oq 25 (.load 9 (tq 24)), mq 26 5, oq 27 (.index 9 (tq 25) (tq 26))] := rgo fun _ => by kernel_rfl
theorem r32_7 : RG 32 7 [oq 29 (.binOp .eql 5 (tq 27) (.const (.int .u8 116)) 5), oq 28 (.assign (tq 29))] := rgo fun _ => by kernel_rfl
theorem r32_8 : RG 32 8 [oq 31 (.fieldAddr 36 (tq 1) 1), oq 32 (.load 9 (tq 31)), oq 33 (.call (.mk (.value (.func 56)) #[(tq 32)] #[9])), mq 30 33, oq 34 (.extract (tq 30) 0), oq 35 (.extract (tq 30) 1), oq 6 (.assign (tq 34)), oq 7 (.assign (tq 35))] := rgo fun _ => by kernel_rfl
theorem r32_9 : RG 32 9 [mq 36 4, mq 37 6, oq 38 (.convert 3 5 (tq 37)), oq 39 (.buildSlice 49 1 #[(0, (tq 38))]), oq 40 (.call (.mk (.builtin .append) #[(tq 36), (tq 39)] #[49,49])), oq 4 (.assign (tq 40))] := rgo fun _ => by kernel_rfl
theorem r32_10 : RG 32 10 [oq 42 (.binOp .eql 5 (tq 27) (.const (.int .u8 117)) 5), oq 41 (.assign (tq 42))] := rgo fun _ => by kernel_rfl
theorem r32_11 : RG 32 11 [oq 44 (.fieldAddr 36 (tq 1) 2), oq 45 (.load 9 (tq 44)), oq 46 (.call (.mk (.value (.func 56)) #[(tq 45)] #[9])), mq 43 46, oq 47 (.extract (tq 43) 0), oq 48 (.extract (tq 43) 1), oq 8 (.assign (tq 47)), oq 9 (.assign (tq 48))] := rgo fun _ => by kernel_rfl
theorem r32_12 : RG 32 12 [mq 49 4, mq 50 8, oq 51 (.convert 3 5 (tq 50)), oq 52 (.buildSlice 49 1 #[(0, (tq 51))]), oq 53 (.call (.mk (.builtin .append) #[(tq 49), (tq 52)] #[49,49])), oq 4 (.assign (tq 53))] := rgo fun _ => by kernel_rfl
theorem r32_13 : RG 32 13 [oq 55 (.binOp .eql 5 (tq 27) (.const (.int .u8 110)) 5), oq 54 (.assign (tq 55))] := rgo fun _ => by kernel_rfl
theorem r32_14 : RG 32 14 [mq 56 4, oq 57 (.fieldAddr 36 (tq 1) 3), oq 58 (.load 34 (tq 57)), oq 59 (.call (.mk (.value (.func 57)) #[(tq 58)] #[34])), oq 60 (.call (.mk (.builtin .append) #[(tq 56), (tq 59)] #[49,49])), oq 4 (.assign (tq 60))] := rgo fun _ => by kernel_rfl
theorem r32_15 : RG 32 15 [oq 62 (.binOp .eql 5 (tq 27) (.const (.int .u8 115)) 5), oq 61 (.assign (tq 62))] := rgo fun _ => by kernel_rfl
theorem r32_16 : RG 32 16 [mq 63 4, oq 64 (.fieldAddr 36 (tq 1) 4), oq 65 (.load 3 (tq 64)), oq 66 (.call (.mk (.value (.func 58)) #[(tq 65)] #[3])), oq 67 (.call (.mk (.value (.func 57)) #[(tq 66)] #[34])), oq 68 (.call (.mk (.builtin .append) #[(tq 63), (tq 67)] #[49,49])), oq 4 (.assign (tq 68))] := rgo fun _ => by kernel_rfl
theorem r32_17 : RG 32 17 [oq 70 (.binOp .eql 5 (tq 27) (.const (.int .u8 100)) 5), oq 69 (.assign (tq 70))] := rgo fun _ => by kernel_rfl
theorem r32_18 : RG 32 18 [mq 71 4, oq 72 (.fieldAddr 36 (tq 1) 4), oq 73 (.load 3 (tq 72)), oq 74 (.convert 3 34 (tq 73)), oq 75 (.call (.mk (.value (.func 59)) #[(tq 74), (cq 4)] #[34,3])), oq 76 (.call (.mk (.builtin .append) #[(tq 71), (tq 75)] #[49,49])), oq 4 (.assign (tq 76))] := rgo fun _ => by kernel_rfl
theorem r32_19 : RG 32 19 [oq 78 (.binOp .eql 5 (tq 27) (.const (.int .u8 119)) 5), oq 77 (.assign (tq 78))] := rgo fun _ => by kernel_rfl
theorem r32_20 : RG 32 20 [mq 79 4, oq 80 (.fieldAddr 36 (tq 1) 3), oq 81 (.load 34 (tq 80)), oq 82 (.call (.mk (.value (.func 59)) #[(tq 81), (cq 8)] #[34,3])), oq 83 (.call (.mk (.builtin .append) #[(tq 79), (tq 82)] #[49,49])), oq 4 (.assign (tq 83))] := rgo fun _ => by kernel_rfl
theorem r32_21 : RG 32 21 [oq 85 (.binOp .eql 5 (tq 27) (.const (.int .u8 101)) 5), oq 84 (.assign (tq 85))] := rgo fun _ => by kernel_rfl
theorem r32_22 : RG 32 22 [mq 86 4, oq 87 (.fieldAddr 36 (tq 1) 4), oq 88 (.load 3 (tq 87)), oq 89 (.convert 3 34 (tq 88)), oq 90 (.call (.mk (.value (.func 57)) #[(tq 89)] #[34])), oq 91 (.call (.mk (.builtin .append) #[(tq 86), (tq 90)] #[49,49])), oq 4 (.assign (tq 91))] := rgo fun _ => by kernel_rfl
theorem r32_23 : RG 32 23 [mq 92 4, oq 93 (.fieldAddr 36 (tq 1) 3), oq 94 (.load 34 (tq 93)), oq 95 (.call (.mk (.value (.func 57)) #[(tq 94)] #[34])), oq 96 (.call (.mk (.builtin .append) #[(tq 92), (tq 95)] #[49,49])), oq 4 (.assign (tq 96))] := rgo fun _ => by kernel_rfl
theorem r32_24 : RG 32 24 [mq 97 4, oq 98 (.fieldAddr 36 (tq 1) 5), oq 99 (.load 3 (tq 98)), oq 100 (.convert 3 34 (tq 99)), oq 101 (.call (.mk (.value (.func 57)) #[(tq 100)] #[34])), oq 102 (.call (.mk (.builtin .append) #[(tq 97), (tq 101)] #[49,49])), oq 4 (.assign (tq 102))] := rgo fun _ => by kernel_rfl
theorem r32_5 : RG 32 5 [mq 22 5, oq 23 (.binOp .add 3 (tq 22) (cq 1) 3), oq 5 (.assign (tq 23))] := rgo fun _ => by kernel_rfl
theorem r32_25 : RG 32 25 [mq 103 4, oq 2 (.assign (tq 103))] := rgo fun _ => by kernel_rfl
def fF32 := And.intro r32_0 <| And.intro r32_1 <| And.intro r32_2 <| And.intro r32_3 <| And.intro r32_4 <| And.intro r32_6 <| And.intro r32_7 <| And.intro r32_8 <| And.intro r32_9 <| And.intro r32_10 <| And.intro r32_11 <| And.intro r32_12 <| And.intro r32_13 <| And.intro r32_14 <| And.intro r32_15 <| And.intro r32_16 <| And.intro r32_17 <| And.intro r32_18 <| And.intro r32_19 <| And.intro r32_20 <| And.intro r32_21 <| And.intro r32_22 <| And.intro r32_23 <| And.intro r32_24 <| And.intro r32_5 <| r32_25
theorem enter32 : ENT 32 104 [.tmp 2] (.seq (Rg 32 0) (.seq (Rg 32 1) (.seq (Rg 32 2) (.seq (.seq (Rg 32 3) (.block 0 (.loop (.seq (.seq (Rg 32 4) (.cond (.tmp 21) .skip (Code.exit 0))) (.seq (.block 1 (.seq (Rg 32 6) (.block 2 (.seq (Rg 32 7) (.cond (.tmp 28) (.seq (Rg 32 8) (Rg 32 9)) (.seq (Rg 32 10) (.cond (.tmp 41) (.seq (Rg 32 11) (Rg 32 12)) (.seq (Rg 32 13) (.cond (.tmp 54) (Rg 32 14) (.seq (Rg 32 15) (.cond (.tmp 61) (Rg 32 16) (.seq (Rg 32 17) (.cond (.tmp 69) (Rg 32 18) (.seq (Rg 32 19) (.cond (.tmp 77) (Rg 32 20) (.seq (Rg 32 21) (.cond (.tmp 84) (.seq (Rg 32 22) (.seq (Rg 32 23) (Rg 32 24))) .skip))))))))))))))))) (Rg 32 5)))))) (.seq (Rg 32 25) .ret))))) := ent Tryz.f32 (by kernel_rfl)
/- bowline/bowlineref26.checkList -/
theorem r29_0 : RG 29 0 [oq 2 (.assign (cq 0))] := rgo fun _ => by kernel_rfl
theorem r29_1 : RG 29 1 [mq 5 0, oq 6 (.call (.mk (.builtin .len) #[(tq 5)] #[22])), oq 7 (.binOp .gtr 3 (tq 6) (cq 4000) 3)] := rgo fun _ => by kernel_rfl
theorem r29_2 : RG 29 2 [oq 2 (.assign (cq 5))] := rgo fun _ => by kernel_rfl
theorem r29_3 : RG 29 3 [oq 3 (.assign (cq 0))] := rgo fun _ => by kernel_rfl
theorem r29_4 : RG 29 4 [mq 8 3, mq 9 0, oq 10 (.call (.mk (.builtin .len) #[(tq 9)] #[22])), oq 11 (.binOp .lss 3 (tq 8) (tq 10) 3)] := rgo fun _ => by kernel_rfl
theorem r29_6 : RG 29 6 [mq 14 0, mq 15 3, oq 16 (.indexAddr 22 (tq 14) (tq 15)), oq 17 (.load 36 (tq 16)), oq 18 (.call (.mk (.value (.func 16)) #[(tq 17)] #[36])), oq 4 (.assign (tq 18))] := rgo fun _ => by kernel_rfl
theorem r29_7 : RG 29 7 [mq 19 4, oq 20 (.binOp .neq 3 (tq 19) (cq 0) 3)] := rgo fun _ => by kernel_rfl
theorem r29_8 : RG 29 8 [mq 21 4, oq 2 (.assign (tq 21))] := rgo fun _ => by kernel_rfl
theorem r29_5 : RG 29 5 [mq 12 3, oq 13 (.binOp .add 3 (tq 12) (cq 1) 3), oq 3 (.assign (tq 13))] := rgo fun _ => by kernel_rfl
theorem r29_9 : RG 29 9 [oq 2 (.assign (cq 0))] := rgo fun _ => by kernel_rfl
def fF29 := And.intro r29_0 <| And.intro r29_1 <| And.intro r29_2 <| And.intro r29_3 <| And.intro r29_4 <| And.intro r29_6 <| And.intro r29_7 <| And.intro r29_8 <| And.intro r29_5 <| r29_9
theorem enter29 : ENT 29 22 [.tmp 2] (.seq (Rg 29 0) (.seq (.seq (Rg 29 1) (.cond (.tmp 7) (.seq (Rg 29 2) .ret) .skip)) (.seq (.seq (Rg 29 3) (.block 0 (.loop (.seq (.seq (Rg 29 4) (.cond (.tmp 11) .skip (Code.exit 0))) (.seq (.block 1 (.seq (Rg 29 6) (.seq (Rg 29 7) (.cond (.tmp 20) (.seq (Rg 29 8) .ret) .skip)))) (Rg 29 5)))))) (.seq (Rg 29 9) .ret)))) := ent Tryz.f29 (by kernel_rfl)
/- bowline/bowlineref26.has -/
theorem r38_0 : RG 38 0 [oq 2 (.box 77 (tq 0)), oq 4 (.assign (.const (.bool false)))] := rgo fun _ => by kernel_rfl
theorem r38_1 : RG 38 1 [oq 5 (.assign (cq 0))] := rgo fun _ => by kernel_rfl
theorem r38_2 : RG 38 2 [mq 6 5, oq 7 (.fieldAddr 77 (tq 2) 1), oq 8 (.load 9 (tq 7)), oq 9 (.call (.mk (.builtin .len) #[(tq 8)] #[9])), oq 10 (.binOp .lss 3 (tq 6) (tq 9) 3)] := rgo fun _ => by kernel_rfl
theorem r38_4 : RG 38 4 [oq 13 (.fieldAddr 77 (tq 2) 1), oq 14 (.load 9 (tq 13)), mq 15 5, oq 16 (.index 9 (tq 14) (tq 15)), mq 17 1, oq 18 (.binOp .eql 5 (tq 16) (tq 17) 5)] := rgo fun _ => by kernel_rfl
theorem r38_5 : RG 38 5 [oq 4 (.assign (.const (.bool true)))] := rgo fun _ => by kernel_rfl
theorem r38_3 : RG 38 3 [mq 11 5, oq 12 (.binOp .add 3 (tq 11) (cq 1) 3), oq 5 (.assign (tq 12))] := rgo fun _ => by kernel_rfl
theorem r38_6 : RG 38 6 [oq 4 (.assign (.const (.bool false)))] := rgo fun _ => by kernel_rfl
def fF38 := And.intro r38_0 <| And.intro r38_1 <| And.intro r38_2 <| And.intro r38_4 <| And.intro r38_5 <| And.intro r38_3 <| r38_6
theorem enter38 : ENT 38 19 [.tmp 4] (.seq (Rg 38 0) (.seq (.seq (Rg 38 1) (.block 0 (.loop (.seq (.seq (Rg 38 2) (.cond (.tmp 10) .skip (Code.exit 0))) (.seq (.block 1 (.seq (Rg 38 4) (.cond (.tmp 18) (.seq (Rg 38 5) .ret) .skip))) (Rg 38 3)))))) (.seq (Rg 38 6) .ret))) := ent Tryz.f38 (by kernel_rfl)
/- bowline/bowlineref26.line -/
theorem r30_0 : RG 30 0 [oq 1 (.box 36 (tq 0)), oq 2 (.assign (sq #[]))] := rgo fun _ => by kernel_rfl
theorem r30_1 : RG 30 1 [oq 6 (.fieldAddr 36 (tq 1) 0), oq 7 (.load 3 (tq 6)), oq 8 (.call (.mk (.value (.func 24)) #[(tq 7)] #[3])), oq 3 (.alloc 77), .op ⟨none, .store 77 (tq 3) (tq 8), none⟩] := rgo fun _ => by kernel_rfl
theorem r30_2 : RG 30 2 [oq 9 (.fieldAddr 77 (tq 3) 0), oq 10 (.load 9 (tq 9)), oq 4 (.assign (tq 10))] := rgo fun _ => by kernel_rfl
theorem r30_3 : RG 30 3 [oq 5 (.assign (cq 0))] := rgo fun _ => by kernel_rfl
theorem r30_4 : RG 30 4 [mq 11 5, oq 12 (.fieldAddr 77 (tq 3) 1), oq 13 (.load 9 (tq 12)), oq 14 (.call (.mk (.builtin .len) #[(tq 13)] #[9])), oq 15 (.binOp .lss 3 (tq 11) (tq 14) 3)] := rgo fun _ => by kernel_rfl
theorem r30_6 : RG 30 6 [oq 18 (.fieldAddr 77 (tq 3) 1), oq 19 (.load 9 (tq 18)), mq 20 5, oq 21 (.index 9 (tq 19) (tq 20))] := rgo fun _ => by kernel_rfl
theorem r30_7 : RG 30 7 [oq 23 (.binOp .eql 5 (tq 21) (.const (.int .u8 116)) 5), oq 22 (.assign (tq 23))] := rgo fun _ => by kernel_rfl
theorem r30_8 : RG 30 8 [mq 24 4, oq 25 (.binOp .add 9 (tq 24) (sq #[32]) 9), oq 26 (.fieldAddr 36 (tq 1) 1), oq 27 (.load 9 (tq 26)), oq 28 (.binOp .add 9 (tq 25) (tq 27) 9), oq 4 (.assign (tq 28))] := rgo fun _ => by kernel_rfl
theorem r30_9 : RG 30 9 [oq 30 (.binOp .eql 5 (tq 21) (.const (.int .u8 117)) 5), oq 29 (.assign (tq 30))] := rgo fun _ => by kernel_rfl
theorem r30_10 : RG 30 10 [mq 31 4, oq 32 (.binOp .add 9 (tq 31) (sq #[32]) 9), oq 33 (.fieldAddr 36 (tq 1) 2), oq 34 (.load 9 (tq 33)), oq 35 (.binOp .add 9 (tq 32) (tq 34) 9), oq 4 (.assign (tq 35))] := rgo fun _ => by kernel_rfl
theorem r30_11 : RG 30 11 [oq 37 (.binOp .eql 5 (tq 21) (.const (.int .u8 110)) 5), oq 36 (.assign (tq 37))] := rgo fun _ => by kernel_rfl
theorem r30_12 : RG 30 12 [oq 38 (.binOp .eql 5 (tq 21) (.const (.int .u8 119)) 5), oq 36 (.assign (tq 38))] := rgo fun _ => by kernel_rfl
theorem r30_13 : RG 30 13 [mq 39 4, oq 40 (.binOp .add 9 (tq 39) (sq #[32]) 9), oq 41 (.fieldAddr 36 (tq 1) 3), oq 42 (.load 34 (tq 41)), oq 43 (.call (.mk (.value (.func 53)) #[(tq 42)] #[34])), oq 44 (.binOp .add 9 (tq 40) (tq 43) 9), oq 4 (.assign (tq 44))] := rgo fun _ => by kernel_rfl
theorem r30_14 : RG 30 14 [oq 46 (.binOp .eql 5 (tq 21) (.const (.int .u8 115)) 5), oq 45 (.assign (tq 46))] := rgo fun _ => by kernel_rfl
theorem r30_15 : RG 30 15 [oq 47 (.binOp .eql 5 (tq 21) (.const (.int .u8 100)) 5), oq 45 (.assign (tq 47))] := rgo fun _ => by kernel_rfl
theorem r30_16 : RG 30 16 [mq 48 4, oq 49 (.binOp .add 9 (tq 48) (sq #[32]) 9), oq 50 (.fieldAddr 36 (tq 1) 4), oq 51 (.load 3 (tq 50)), oq 52 (.call (.mk (.value (.func 54)) #[(tq 51)] #[3])), oq 53 (.binOp .add 9 (tq 49) (tq 52) 9), oq 4 (.assign (tq 53))] := rgo fun _ => by kernel_rfl
theorem r30_17 : RG 30 17 [oq 55 (.binOp .eql 5 (tq 21) (.const (.int .u8 101)) 5), oq 54 (.assign (tq 55))] := rgo fun _ => by kernel_rfl
theorem r30_18 : RG 30 18 [mq 56 4, oq 57 (.binOp .add 9 (tq 56) (sq #[32]) 9), oq 58 (.fieldAddr 36 (tq 1) 4), oq 59 (.load 3 (tq 58)), oq 63 (.fieldAddr 36 (tq 1) 3), oq 64 (.load 34 (tq 63)), oq 68 (.fieldAddr 36 (tq 1) 5), oq 69 (.load 3 (tq 68)), .chk [⟨some 59, .load 3 (tq 58), none⟩, ⟨some 64, .load 34 (tq 63), none⟩, ⟨some 69, .load 3 (tq 68), none⟩], oq 60 (.call (.mk (.value (.func 54)) #[(tq 59)] #[3])), oq 61 (.binOp .add 9 (tq 57) (tq 60) 9), oq 62 (.binOp .add 9 (tq 61) (sq #[32]) 9), .chk [⟨some 64, .load 34 (tq 63), none⟩, ⟨some 69, .load 3 (tq 68), none⟩], oq 65 (.call (.mk (.value (.func 53)) #[(tq 64)] #[34])), oq 66 (.binOp .add 9 (tq 62) (tq 65) 9), oq 67 (.binOp .add 9 (tq 66) (sq #[32]) 9), .chk [⟨some 69, .load 3 (tq 68), none⟩], oq 70 (.call (.mk (.value (.func 54)) #[(tq 69)] #[3])), oq 71 (.binOp .add 9 (tq 67) (tq 70) 9), .chk [], oq 4 (.assign (tq 71))] := rgo fun _ => by kernel_rfl
theorem r30_5 : RG 30 5 [mq 16 5, oq 17 (.binOp .add 3 (tq 16) (cq 1) 3), oq 5 (.assign (tq 17))] := rgo fun _ => by kernel_rfl
theorem r30_19 : RG 30 19 [mq 72 4, oq 73 (.binOp .add 9 (tq 72) (sq #[10]) 9), oq 2 (.assign (tq 73))] := rgo fun _ => by kernel_rfl
def fF30 := And.intro r30_0 <| And.intro r30_1 <| And.intro r30_2 <| And.intro r30_3 <| And.intro r30_4 <| And.intro r30_6 <| And.intro r30_7 <| And.intro r30_8 <| And.intro r30_9 <| And.intro r30_10 <| And.intro r30_11 <| And.intro r30_12 <| And.intro r30_13 <| And.intro r30_14 <| And.intro r30_15 <| And.intro r30_16 <| And.intro r30_17 <| And.intro r30_18 <| And.intro r30_5 <| r30_19
theorem enter30 : ENT 30 74 [.tmp 2] (.seq (Rg 30 0) (.seq (Rg 30 1) (.seq (Rg 30 2) (.seq (.seq (Rg 30 3) (.block 0 (.loop (.seq (.seq (Rg 30 4) (.cond (.tmp 15) .skip (Code.exit 0))) (.seq (.block 1 (.seq (Rg 30 6) (.block 2 (.seq (Rg 30 7) (.cond (.tmp 22) (Rg 30 8) (.seq (Rg 30 9) (.cond (.tmp 29) (Rg 30 10) (.seq (.seq (Rg 30 11) (.cond (.tmp 36) .skip (Rg 30 12))) (.cond (.tmp 36) (Rg 30 13) (.seq (.seq (Rg 30 14) (.cond (.tmp 45) .skip (Rg 30 15))) (.cond (.tmp 45) (Rg 30 16) (.seq (Rg 30 17) (.cond (.tmp 54) (Rg 30 18) .skip))))))))))))) (Rg 30 5)))))) (.seq (Rg 30 19) .ret))))) := ent Tryz.f30 (by kernel_rfl)
/- bowline/bowlineref26.little -/
theorem r59_0 : RG 59 0 [oq 4 (.assign (.const (.slice none 0 0)))] := rgo fun _ => by kernel_rfl
theorem r59_1 : RG 59 1 [oq 5 (.assign (.const (.slice none 0 0)))] := rgo fun _ => by kernel_rfl
theorem r59_2 : RG 59 2 [oq 6 (.assign (cq 0))] := rgo fun _ => by kernel_rfl
theorem r59_3 : RG 59 3 [mq 7 6, mq 8 1, oq 9 (.binOp .lss 3 (tq 7) (tq 8) 3)] := rgo fun _ => by kernel_rfl
theorem r59_5 : RG 59 5 [mq 12 5, mq 13 0, mq 14 6, oq 15 (.binOp .mul 3 (cq 8) (tq 14) 3), oq 16 (.binOp .shr 34 (tq 13) (tq 15) 3), oq 17 (.convert 34 5 (tq 16)), oq 18 (.buildSlice 49 1 #[(0, (tq 17))]), oq 19 (.call (.mk (.builtin .append) #[(tq 12), (tq 18)] #[49,49])), oq 5 (.assign (tq 19))] := rgo fun _ => by kernel_rfl
theorem r59_4 : RG 59 4 [mq 10 6, oq 11 (.binOp .add 3 (tq 10) (cq 1) 3), oq 6 (.assign (tq 11))] := rgo fun _ => by kernel_rfl
theorem r59_6 : RG 59 6 [mq 20 5, oq 4 (.assign (tq 20))] := rgo fun _ => by kernel_rfl
def fF59 := And.intro r59_0 <| And.intro r59_1 <| And.intro r59_2 <| And.intro r59_3 <| And.intro r59_5 <| And.intro r59_4 <| r59_6
theorem enter59 : ENT 59 21 [.tmp 4] (.seq (Rg 59 0) (.seq (Rg 59 1) (.seq (.seq (Rg 59 2) (.block 0 (.loop (.seq (.seq (Rg 59 3) (.cond (.tmp 9) .skip (Code.exit 0))) (.seq (.block 1 (Rg 59 5)) (Rg 59 4)))))) (.seq (Rg 59 6) .ret)))) := ent Tryz.f59 (by kernel_rfl)
theorem ti3 : TI 3 ⟨.int .i64, 1, 8, [.int .i64 0]⟩ := fun _ => by kernel_rfl
theorem ti4 : TI 4 ⟨.bool, 1, 1, [.bool false]⟩ := fun _ => by kernel_rfl
theorem ti5 : TI 5 ⟨.int .u8, 1, 1, [.int .u8 0]⟩ := fun _ => by kernel_rfl
theorem ti9 : TI 9 ⟨.string, 1, 16, [.string ⟨#[]⟩]⟩ := fun _ => by kernel_rfl
theorem ti21 : TI 21 ⟨.int .i32, 1, 4, [.int .i32 0]⟩ := fun _ => by kernel_rfl
theorem ti22 : TI 22 ⟨.slice 36, 1, 24, [.slice none 0 0]⟩ := fun _ => by kernel_rfl
theorem ti31 : TI 31 ⟨.slice 39, 1, 24, [.slice none 0 0]⟩ := fun _ => by kernel_rfl
theorem ti34 : TI 34 ⟨.int .u64, 1, 8, [.int .u64 0]⟩ := fun _ => by kernel_rfl
theorem ti36 : TI 36 ⟨.struct #[⟨ "Op", 3, 0, false, "", "", 0⟩, ⟨ "Type", 9, 1, false, "", "", 8⟩, ⟨ "To", 9, 2, false, "", "", 24⟩, ⟨ "Num", 34, 3, false, "", "", 40⟩, ⟨ "Imm", 3, 4, false, "", "", 48⟩, ⟨ "Size", 3, 5, false, "", "", 56⟩], 6, 64, [.int .i64 0, .string ⟨#[]⟩, .string ⟨#[]⟩, .int .u64 0, .int .i64 0, .int .i64 0]⟩ := fun _ => by kernel_rfl
theorem ti39 : TI 39 ⟨.struct #[⟨ "Op", 3, 0, false, "", "", 0⟩, ⟨ "Type", 9, 1, false, "", "", 8⟩, ⟨ "To", 9, 2, false, "", "", 24⟩, ⟨ "Num", 34, 3, false, "", "", 40⟩, ⟨ "Imm", 3, 4, false, "", "", 48⟩, ⟨ "Size", 3, 5, false, "", "", 56⟩], 6, 64, [.int .i64 0, .string ⟨#[]⟩, .string ⟨#[]⟩, .int .u64 0, .int .i64 0, .int .i64 0]⟩ := fun _ => by kernel_rfl
theorem ti49 : TI 49 ⟨.slice 5, 1, 24, [.slice none 0 0]⟩ := fun _ => by kernel_rfl
theorem ti55 : TI 55 ⟨.slice 3, 1, 24, [.slice none 0 0]⟩ := fun _ => by kernel_rfl
theorem ti70 : TI 70 ⟨.array 2 3, 2, 16, [.int .i64 0, .int .i64 0]⟩ := fun _ => by kernel_rfl
theorem ti71 : TI 71 ⟨.func #[39] #[4] false, 1, 8, [.nilFunc]⟩ := fun _ => by kernel_rfl
theorem ti73 : TI 73 ⟨.struct #[⟨ "name", 9, 0, false, "", "bowline/stackmachine", 0⟩, ⟨ "operands", 9, 1, false, "", "bowline/stackmachine", 16⟩, ⟨ "effect", 70, 2, false, "", "bowline/stackmachine", 32⟩, ⟨ "right", 71, 4, false, "", "bowline/stackmachine", 48⟩], 5, 56, [.string ⟨#[]⟩, .string ⟨#[]⟩, .int .i64 0, .int .i64 0, .nilFunc]⟩ := fun _ => by kernel_rfl
theorem ti77 : TI 77 ⟨.struct #[⟨ "name", 9, 0, false, "", "bowline/bowlineref26", 0⟩, ⟨ "uses", 9, 1, false, "", "bowline/bowlineref26", 16⟩, ⟨ "pops", 3, 2, false, "", "bowline/bowlineref26", 32⟩, ⟨ "puts", 3, 3, false, "", "bowline/bowlineref26", 40⟩], 4, 48, [.string ⟨#[]⟩, .string ⟨#[]⟩, .int .i64 0, .int .i64 0]⟩ := fun _ => by kernel_rfl
theorem ti80 : TI 80 ⟨.pointer 82, 1, 8, [.pointer none]⟩ := fun _ => by kernel_rfl
theorem ti82 : TI 82 ⟨.struct #[⟨ "addr", 80, 0, false, "", "strings", 0⟩, ⟨ "buf", 49, 1, false, "", "strings", 8⟩], 2, 32, [.pointer none, .slice none 0 0]⟩ := fun _ => by kernel_rfl
theorem ti124 : TI 124 ⟨.pointer 5, 1, 8, [.pointer none]⟩ := fun _ => by kernel_rfl
theorem ti163 : TI 163 ⟨.slice 9, 1, 24, [.slice none 0 0]⟩ := fun _ => by kernel_rfl
def tTGa := And.intro ti3 <| And.intro ti4 <| And.intro ti5 <| And.intro ti9 <| And.intro ti21 <| And.intro ti22 <| And.intro ti31 <| And.intro ti34 <| And.intro ti36 <| And.intro ti39 <| And.intro ti49 <| And.intro ti55 <| And.intro ti70 <| And.intro ti71 <| And.intro ti73 <| And.intro ti77 <| And.intro ti80 <| And.intro ti82 <| And.intro ti124 <| ti163
end Go.D
