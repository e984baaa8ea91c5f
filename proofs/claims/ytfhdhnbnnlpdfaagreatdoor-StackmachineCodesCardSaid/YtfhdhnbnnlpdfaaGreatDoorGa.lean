/- Plans of the functions, printed by genfn2.py out of the print of them by Lean; each is proved to be the code. -/
import Derived.Test.YtfhdhnbnnlpdfaaGreatDoorEV
namespace Go.D
open Go.Proofs
set_option maxRecDepth 100000
set_option linter.defProp false
/- (*bowline/bowlineref26.reader).int -/
theorem fF50 : RG 50 0 [oq 2 (.assign (cq 0))] ∧
 RG 50 1 [mq 4 0, oq 5 (.call (.mk (.value (.func 49)) #[(tq 4)] #[129])), oq 3 (.assign (tq 5))] ∧
 RG 50 2 [mq 6 0, oq 7 (.nilCheck (tq 6)), oq 8 (.fieldAddr 131 (tq 7) 2), oq 9 (.load 3 (tq 8)), oq 10 (.binOp .eql 3 (tq 9) (cq 0) 3), mq 11 10, .op ⟨some 12, .move (tq 3), some (11, true)⟩, .op ⟨some 13, .binOp .gtr 42 (tq 12) (.const (.int .u64 4611686018427387904)) 42, some (11, true)⟩, oq 14 (.pick (tq 11) (tq 13) (.const (.bool false)))] ∧
 RG 50 3 [mq 15 0, oq 16 (.nilCheck (tq 15)), oq 17 (.fieldAddr 131 (tq 16) 2), .op ⟨none, .store 3 (tq 17) (cq 1), none⟩] ∧
 RG 50 4 [mq 18 0, oq 19 (.nilCheck (tq 18)), oq 20 (.fieldAddr 131 (tq 19) 2), oq 21 (.load 3 (tq 20)), oq 22 (.binOp .neq 3 (tq 21) (cq 0) 3)] ∧
 RG 50 5 [oq 2 (.assign (cq 0))] ∧
 RG 50 6 [mq 23 3, oq 24 (.convert 42 3 (tq 23)), oq 2 (.assign (tq 24))] := by and_intros <;> exact rgo fun _ => by kernel_rfl
theorem enter50 : ENT 50 25 [.tmp 2] (.seq (Rg 50 0) (.seq (Rg 50 1) (.seq (.seq (Rg 50 2) (.cond (.tmp 14) (Rg 50 3) .skip)) (.seq (.seq (Rg 50 4) (.cond (.tmp 22) (.seq (Rg 50 5) .ret) .skip)) (.seq (Rg 50 6) .ret))))) := ent Tryz.f50 (by kernel_rfl)
/- (*bowline/bowlineref26.reader).number -/
theorem r49_0 : RG 49 0 [oq 2 (.assign (.const (.int .u64 0)))] := rgo fun _ => by kernel_rfl
theorem r49_1 : RG 49 1 [oq 3 (.assign (.const (.int .u64 0)))] := rgo fun _ => by kernel_rfl
theorem r49_2 : RG 49 2 [oq 4 (.assign (cq 0))] := rgo fun _ => by kernel_rfl
theorem r49_3 : RG 49 3 [mq 6 0, oq 7 (.nilCheck (tq 6)), oq 8 (.fieldAddr 131 (tq 7) 2), oq 9 (.load 3 (tq 8)), oq 10 (.binOp .eql 3 (tq 9) (cq 0) 3)] := rgo fun _ => by kernel_rfl
theorem r49_5 : RG 49 5 [mq 13 0, oq 14 (.call (.mk (.value (.func 52)) #[(tq 13), (cq 1)] #[129,3])), oq 15 (.indexAddr 23 (tq 14) (cq 0)), oq 16 (.load 5 (tq 15)), oq 5 (.assign (tq 16))] := rgo fun _ => by kernel_rfl
theorem r49_6 : RG 49 6 [mq 17 0, oq 18 (.nilCheck (tq 17)), oq 19 (.fieldAddr 131 (tq 18) 2), oq 20 (.load 3 (tq 19)), oq 21 (.binOp .neq 3 (tq 20) (cq 0) 3)] := rgo fun _ => by kernel_rfl
theorem r49_7 : RG 49 7 [oq 2 (.assign (.const (.int .u64 0)))] := rgo fun _ => by kernel_rfl
theorem r49_8 : RG 49 8 [mq 22 4, oq 23 (.binOp .eql 3 (tq 22) (cq 9) 3), mq 24 23, .op ⟨some 25, .move (tq 5), some (24, true)⟩, .op ⟨some 26, .binOp .gtr 5 (tq 25) (.const (.int .u8 1)) 5, some (24, true)⟩, oq 27 (.pick (tq 24) (tq 26) (.const (.bool false))), mq 28 27, .op ⟨some 29, .move (tq 4), some (28, false)⟩, .op ⟨some 30, .binOp .gtr 3 (tq 29) (cq 0) 3, some (28, false)⟩, .op ⟨some 31, .move (tq 30), some (28, false)⟩, .op ⟨some 32, .move (tq 5), some (31, true)⟩, .op ⟨some 33, .binOp .eql 5 (tq 32) (.const (.int .u8 0)) 5, some (31, true)⟩, .op ⟨some 34, .pick (tq 31) (tq 33) (.const (.bool false)), some (28, false)⟩, oq 35 (.pick (tq 28) (.const (.bool true)) (tq 34))] := rgo fun _ => by kernel_rfl
theorem r49_9 : RG 49 9 [mq 36 0, oq 37 (.nilCheck (tq 36)), oq 38 (.fieldAddr 131 (tq 37) 2), .op ⟨none, .store 3 (tq 38) (cq 1), none⟩] := rgo fun _ => by kernel_rfl
theorem r49_10 : RG 49 10 [oq 2 (.assign (.const (.int .u64 0)))] := rgo fun _ => by kernel_rfl
theorem r49_11 : RG 49 11 [mq 39 3, mq 40 5, oq 41 (.binOp .rem 5 (tq 40) (.const (.int .u8 128)) 5), oq 42 (.convert 5 42 (tq 41)), mq 43 4, oq 44 (.binOp .mul 3 (cq 7) (tq 43) 3), oq 45 (.binOp .shl 42 (tq 42) (tq 44) 3), oq 46 (.binOp .or 42 (tq 39) (tq 45) 42), oq 3 (.assign (tq 46))] := rgo fun _ => by kernel_rfl
theorem r49_12 : RG 49 12 [mq 47 5, oq 48 (.binOp .lss 5 (tq 47) (.const (.int .u8 128)) 5)] := rgo fun _ => by kernel_rfl
theorem r49_13 : RG 49 13 [mq 49 3, oq 2 (.assign (tq 49))] := rgo fun _ => by kernel_rfl
theorem r49_4 : RG 49 4 [mq 11 4, oq 12 (.binOp .add 3 (tq 11) (cq 1) 3), oq 4 (.assign (tq 12))] := rgo fun _ => by kernel_rfl
theorem r49_14 : RG 49 14 [oq 2 (.assign (.const (.int .u64 0)))] := rgo fun _ => by kernel_rfl
def fF49 := And.intro r49_0 <| And.intro r49_1 <| And.intro r49_2 <| And.intro r49_3 <| And.intro r49_5 <| And.intro r49_6 <| And.intro r49_7 <| And.intro r49_8 <| And.intro r49_9 <| And.intro r49_10 <| And.intro r49_11 <| And.intro r49_12 <| And.intro r49_13 <| And.intro r49_4 <| r49_14
theorem enter49 : ENT 49 50 [.tmp 2] (.seq (Rg 49 0) (.seq (Rg 49 1) (.seq (.seq (Rg 49 2) (.block 0 (.loop (.seq (.seq (Rg 49 3) (.cond (.tmp 10) .skip (Code.exit 0))) (.seq (.block 1 (.seq (Rg 49 5) (.seq (.seq (Rg 49 6) (.cond (.tmp 21) (.seq (Rg 49 7) .ret) .skip)) (.seq (.seq (Rg 49 8) (.cond (.tmp 35) (.seq (Rg 49 9) (.seq (Rg 49 10) .ret)) .skip)) (.seq (Rg 49 11) (.seq (Rg 49 12) (.cond (.tmp 48) (.seq (Rg 49 13) .ret) .skip))))))) (Rg 49 4)))))) (.seq (Rg 49 14) .ret)))) := ent Tryz.f49 (by kernel_rfl)
/- (*bowline/bowlineref26.reader).take -/
theorem fF52 : RG 52 0 [oq 4 (.assign (.const (.slice none 0 0)))] ∧
 RG 52 1 [mq 5 0, oq 6 (.nilCheck (tq 5)), oq 7 (.fieldAddr 131 (tq 6) 2), oq 8 (.load 3 (tq 7)), oq 9 (.binOp .eql 3 (tq 8) (cq 0) 3), mq 10 9, .op ⟨some 11, .move (tq 0), some (10, true)⟩, .op ⟨some 12, .nilCheck (tq 11), some (10, true)⟩, .op ⟨some 13, .fieldAddr 131 (tq 12) 0, some (10, true)⟩, .op ⟨some 14, .load 23 (tq 13), some (10, true)⟩, .op ⟨some 15, .call (.mk (.builtin .len) #[(tq 14)] #[23]), some (10, true)⟩, .op ⟨some 16, .move (tq 0), some (10, true)⟩, .op ⟨some 17, .nilCheck (tq 16), some (10, true)⟩, .op ⟨some 18, .fieldAddr 131 (tq 17) 1, some (10, true)⟩, .op ⟨some 19, .load 3 (tq 18), some (10, true)⟩, .op ⟨some 20, .binOp .sub 3 (tq 15) (tq 19) 3, some (10, true)⟩, .op ⟨some 21, .move (tq 1), some (10, true)⟩, .op ⟨some 22, .binOp .lss 3 (tq 20) (tq 21) 3, some (10, true)⟩, oq 23 (.pick (tq 10) (tq 22) (.const (.bool false))), .chk [⟨some 8, .load 3 (tq 7), none⟩, ⟨some 14, .load 23 (tq 13), some (10, true)⟩, ⟨some 15, .call (.mk (.builtin .len) #[(tq 14)] #[23]), some (10, true)⟩, ⟨some 19, .load 3 (tq 18), some (10, true)⟩]] ∧
 RG 52 2 [mq 24 0, oq 25 (.nilCheck (tq 24)), oq 26 (.fieldAddr 131 (tq 25) 2), .op ⟨none, .store 3 (tq 26) (cq 39), none⟩] ∧
 RG 52 3 [mq 27 0, oq 28 (.nilCheck (tq 27)), oq 29 (.fieldAddr 131 (tq 28) 2), oq 30 (.load 3 (tq 29)), oq 31 (.binOp .neq 3 (tq 30) (cq 0) 3)] ∧
 RG 52 4 [mq 32 1, oq 33 (.makeSlice 23 (tq 32) (tq 32)), oq 4 (.assign (tq 33))] ∧
 RG 52 5 [mq 34 0, mq 35 0, oq 36 (.nilCheck (tq 35)), oq 37 (.fieldAddr 131 (tq 36) 1), oq 38 (.load 3 (tq 37)), mq 39 1, oq 40 (.binOp .add 3 (tq 38) (tq 39) 3), oq 41 (.nilCheck (tq 34)), oq 42 (.fieldAddr 131 (tq 41) 1), .op ⟨none, .store 3 (tq 42) (tq 40), none⟩] ∧
 RG 52 6 [mq 43 0, oq 44 (.nilCheck (tq 43)), oq 45 (.fieldAddr 131 (tq 44) 0), oq 46 (.load 23 (tq 45)), mq 47 0, oq 48 (.nilCheck (tq 47)), oq 49 (.fieldAddr 131 (tq 48) 1), oq 50 (.load 3 (tq 49)), mq 51 1, oq 52 (.binOp .sub 3 (tq 50) (tq 51) 3), mq 53 0, oq 54 (.nilCheck (tq 53)), oq 55 (.fieldAddr 131 (tq 54) 1), oq 56 (.load 3 (tq 55)), oq 57 (.slice 23 (tq 46) (some (tq 52)) (some (tq 56)) none), oq 4 (.assign (tq 57)), .chk [⟨some 46, .load 23 (tq 45), none⟩, ⟨some 50, .load 3 (tq 49), none⟩, ⟨some 56, .load 3 (tq 55), none⟩, ⟨some 57, .slice 23 (tq 46) (some (tq 52)) (some (tq 56)) none, none⟩]] := by and_intros <;> exact rgo fun _ => by kernel_rfl
theorem enter52 : ENT 52 58 [.tmp 4] (.seq (Rg 52 0) (.seq (.seq (Rg 52 1) (.cond (.tmp 23) (Rg 52 2) .skip)) (.seq (.seq (Rg 52 3) (.cond (.tmp 31) (.seq (Rg 52 4) .ret) .skip)) (.seq (Rg 52 5) (.seq (Rg 52 6) .ret))))) := ent Tryz.f52 (by kernel_rfl)
/- (*bowline/bowlineref26.reader).typ -/
theorem fF48 : RG 48 0 [oq 2 (.assign (sq #[]))] ∧
 RG 48 1 [mq 6 0, oq 7 (.call (.mk (.value (.func 52)) #[(tq 6), (cq 1)] #[129,3])), oq 8 (.indexAddr 23 (tq 7) (cq 0)), oq 9 (.load 5 (tq 8)), oq 3 (.assign (tq 9))] ∧
 RG 48 2 [mq 10 0, oq 11 (.nilCheck (tq 10)), oq 12 (.fieldAddr 131 (tq 11) 2), oq 13 (.load 3 (tq 12)), oq 14 (.binOp .neq 3 (tq 13) (cq 0) 3)] ∧
 RG 48 3 [oq 2 (.assign (sq #[]))] ∧
 RG 48 4 [mq 16 3, oq 17 (.convert 5 3 (tq 16)), oq 18 (.call (.mk (.value (.func 85)) #[(tq 17)] #[3])), mq 15 18, oq 19 (.extract (tq 15) 0), oq 20 (.extract (tq 15) 1), oq 4 (.assign (tq 19)), oq 5 (.assign (tq 20))] ∧
 RG 48 5 [mq 21 5, oq 22 (.unOp .not 4 (tq 21))] ∧
 RG 48 6 [mq 23 0, oq 24 (.nilCheck (tq 23)), oq 25 (.fieldAddr 131 (tq 24) 2), .op ⟨none, .store 3 (tq 25) (cq 12), none⟩] ∧
 RG 48 7 [mq 26 4, oq 2 (.assign (tq 26))] := by and_intros <;> exact rgo fun _ => by kernel_rfl
theorem enter48 : ENT 48 27 [.tmp 2] (.seq (Rg 48 0) (.seq (Rg 48 1) (.seq (.seq (Rg 48 2) (.cond (.tmp 14) (.seq (Rg 48 3) .ret) .skip)) (.seq (Rg 48 4) (.seq (.seq (Rg 48 5) (.cond (.tmp 22) (Rg 48 6) .skip)) (.seq (Rg 48 7) .ret)))))) := ent Tryz.f48 (by kernel_rfl)
/- (*bowline/stackmachine.reader).fixed -/
theorem r83_0 : RG 83 0 [oq 4 (.assign (.const (.int .u64 0)))] := rgo fun _ => by kernel_rfl
theorem r83_1 : RG 83 1 [oq 5 (.assign (.const (.int .u64 0)))] := rgo fun _ => by kernel_rfl
theorem r83_2 : RG 83 2 [mq 8 0, mq 9 1, oq 10 (.call (.mk (.value (.func 113)) #[(tq 8), (tq 9)] #[124,3])), oq 11 (.call (.mk (.builtin .len) #[(tq 10)] #[23])), oq 12 (.move (cq 0))] := rgo fun _ => by kernel_rfl
theorem r83_3 : RG 83 3 [oq 13 (.binOp .lss 3 (tq 12) (tq 11) 3)] := rgo fun _ => by kernel_rfl
theorem r83_4 : RG 83 4 [mq 14 12, oq 15 (.indexAddr 23 (tq 10) (tq 12)), oq 16 (.load 5 (tq 15)), oq 6 (.assign (tq 14)), oq 7 (.assign (tq 16))] := rgo fun _ => by kernel_rfl
theorem r83_5 : RG 83 5 [mq 17 5, mq 18 7, oq 19 (.convert 5 42 (tq 18)), mq 20 6, oq 21 (.binOp .mul 3 (cq 8) (tq 20) 3), oq 22 (.binOp .shl 42 (tq 19) (tq 21) 3), oq 23 (.binOp .or 42 (tq 17) (tq 22) 42), oq 5 (.assign (tq 23))] := rgo fun _ => by kernel_rfl
theorem r83_6 : RG 83 6 [oq 24 (.binOp .add 3 (tq 12) (cq 1) 3), mq 12 24] := rgo fun _ => by kernel_rfl
theorem r83_7 : RG 83 7 [mq 25 5, oq 4 (.assign (tq 25))] := rgo fun _ => by kernel_rfl
def fF83 := And.intro r83_0 <| And.intro r83_1 <| And.intro r83_2 <| And.intro r83_3 <| And.intro r83_4 <| And.intro r83_5 <| And.intro r83_6 <| r83_7
theorem enter83 : ENT 83 26 [.tmp 4] (.seq (Rg 83 0) (.seq (Rg 83 1) (.seq (.seq (Rg 83 2) (.block 0 (.loop (.seq (Rg 83 3) (.seq (.cond (.tmp 13) .skip (Code.exit 0)) (.seq (.block 1 (.seq (Rg 83 4) (Rg 83 5))) (Rg 83 6))))))) (.seq (Rg 83 7) .ret)))) := ent Tryz.f83 (by kernel_rfl)
/- (*bowline/stackmachine.reader).number -/
theorem r81_0 : RG 81 0 [oq 2 (.assign (.const (.int .u64 0)))] := rgo fun _ => by kernel_rfl
theorem r81_1 : RG 81 1 [oq 3 (.assign (.const (.int .u64 0)))] := rgo fun _ => by kernel_rfl
theorem r81_2 : RG 81 2 [oq 4 (.assign (cq 0))] := rgo fun _ => by kernel_rfl
theorem r81_4 : RG 81 4 [mq 9 0, oq 10 (.call (.mk (.value (.func 113)) #[(tq 9), (cq 1)] #[124,3])), oq 11 (.indexAddr 23 (tq 10) (cq 0)), oq 12 (.load 5 (tq 11)), oq 5 (.assign (tq 12))] := rgo fun _ => by kernel_rfl
theorem r81_5 : RG 81 5 [mq 13 0, oq 14 (.nilCheck (tq 13)), oq 15 (.fieldAddr 126 (tq 14) 1), oq 16 (.load 26 (tq 15)), oq 17 (.binOp .neq 26 (tq 16) (cq 0) 26)] := rgo fun _ => by kernel_rfl
theorem r81_6 : RG 81 6 [oq 2 (.assign (.const (.int .u64 0)))] := rgo fun _ => by kernel_rfl
theorem r81_7 : RG 81 7 [mq 18 5, oq 19 (.binOp .and 5 (tq 18) (.const (.int .u8 127)) 5), oq 20 (.convert 5 42 (tq 19)), oq 6 (.assign (tq 20))] := rgo fun _ => by kernel_rfl
theorem r81_8 : RG 81 8 [mq 21 4, oq 22 (.binOp .eql 3 (tq 21) (cq 63) 3), mq 23 22, .op ⟨some 24, .move (tq 5), some (23, true)⟩, .op ⟨some 25, .binOp .gtr 5 (tq 24) (.const (.int .u8 1)) 5, some (23, true)⟩, oq 26 (.pick (tq 23) (tq 25) (.const (.bool false))), mq 27 26, .op ⟨some 28, .move (tq 4), some (27, false)⟩, .op ⟨some 29, .binOp .gtr 3 (tq 28) (cq 0) 3, some (27, false)⟩, .op ⟨some 30, .move (tq 29), some (27, false)⟩, .op ⟨some 31, .move (tq 5), some (30, true)⟩, .op ⟨some 32, .binOp .eql 5 (tq 31) (.const (.int .u8 0)) 5, some (30, true)⟩, .op ⟨some 33, .pick (tq 30) (tq 32) (.const (.bool false)), some (27, false)⟩, oq 34 (.pick (tq 27) (.const (.bool true)) (tq 33))] := rgo fun _ => by kernel_rfl
theorem r81_9 : RG 81 9 [mq 35 0, oq 36 (.nilCheck (tq 35)), oq 37 (.fieldAddr 126 (tq 36) 1), .op ⟨none, .store 26 (tq 37) (cq 1), none⟩] := rgo fun _ => by kernel_rfl
theorem r81_10 : RG 81 10 [oq 2 (.assign (.const (.int .u64 0)))] := rgo fun _ => by kernel_rfl
theorem r81_11 : RG 81 11 [mq 38 3, mq 39 6, mq 40 4, oq 41 (.binOp .shl 42 (tq 39) (tq 40) 3), oq 42 (.binOp .or 42 (tq 38) (tq 41) 42), oq 3 (.assign (tq 42))] := rgo fun _ => by kernel_rfl
theorem r81_12 : RG 81 12 [mq 43 5, oq 44 (.binOp .lss 5 (tq 43) (.const (.int .u8 128)) 5)] := rgo fun _ => by kernel_rfl
theorem r81_13 : RG 81 13 [mq 45 3, oq 2 (.assign (tq 45))] := rgo fun _ => by kernel_rfl
theorem r81_3 : RG 81 3 [mq 7 4, oq 8 (.binOp .add 3 (tq 7) (cq 7) 3), oq 4 (.assign (tq 8))] := rgo fun _ => by kernel_rfl
def fF81 := And.intro r81_0 <| And.intro r81_1 <| And.intro r81_2 <| And.intro r81_4 <| And.intro r81_5 <| And.intro r81_6 <| And.intro r81_7 <| And.intro r81_8 <| And.intro r81_9 <| And.intro r81_10 <| And.intro r81_11 <| And.intro r81_12 <| And.intro r81_13 <| r81_3
theorem enter81 : ENT 81 46 [.tmp 2] (.seq (Rg 81 0) (.seq (Rg 81 1) (.seq (Rg 81 2) (.block 0 (.loop (.seq (.block 1 (.seq (Rg 81 4) (.seq (.seq (Rg 81 5) (.cond (.tmp 17) (.seq (Rg 81 6) .ret) .skip)) (.seq (Rg 81 7) (.seq (.seq (Rg 81 8) (.cond (.tmp 34) (.seq (Rg 81 9) (.seq (Rg 81 10) .ret)) .skip)) (.seq (Rg 81 11) (.seq (Rg 81 12) (.cond (.tmp 44) (.seq (Rg 81 13) .ret) .skip)))))))) (Rg 81 3))))))) := ent Tryz.f81 (by kernel_rfl)
/- (*bowline/stackmachine.reader).read -/
theorem fF47 : RG 47 0 [mq 6 2] ∧
 RG 47 2 [oq 13 (.binOp .eql 21 (tq 6) (.const (.int .i32 84)) 21), oq 12 (.assign (tq 13))] ∧
 RG 47 3 [mq 14 1, mq 15 0, oq 16 (.call (.mk (.value (.func 80)) #[(tq 15)] #[124])), oq 17 (.nilCheck (tq 14)), oq 18 (.fieldAddr 45 (tq 17) 1), .op ⟨none, .store 9 (tq 18) (tq 16), none⟩] ∧
 RG 47 4 [oq 20 (.binOp .eql 21 (tq 6) (.const (.int .i32 85)) 21), oq 19 (.assign (tq 20))] ∧
 RG 47 5 [mq 21 1, mq 22 0, oq 23 (.call (.mk (.value (.func 80)) #[(tq 22)] #[124])), oq 24 (.nilCheck (tq 21)), oq 25 (.fieldAddr 45 (tq 24) 2), .op ⟨none, .store 9 (tq 25) (tq 23), none⟩] ∧
 RG 47 6 [oq 27 (.binOp .eql 21 (tq 6) (.const (.int .i32 110)) 21), oq 26 (.assign (tq 27))] ∧
 RG 47 7 [oq 28 (.binOp .eql 21 (tq 6) (.const (.int .i32 76)) 21), oq 26 (.assign (tq 28))] ∧
 RG 47 8 [mq 29 1, mq 30 0, oq 31 (.call (.mk (.value (.func 81)) #[(tq 30)] #[124])), oq 32 (.nilCheck (tq 29)), oq 33 (.fieldAddr 45 (tq 32) 3), .op ⟨none, .store 42 (tq 33) (tq 31), none⟩] ∧
 RG 47 9 [oq 35 (.binOp .eql 21 (tq 6) (.const (.int .i32 115)) 21), oq 34 (.assign (tq 35))] ∧
 RG 47 10 [mq 36 1, mq 37 0, oq 38 (.call (.mk (.value (.func 82)) #[(tq 37)] #[124])), oq 39 (.nilCheck (tq 36)), oq 40 (.fieldAddr 45 (tq 39) 4), .op ⟨none, .store 3 (tq 40) (tq 38), none⟩] ∧
 RG 47 11 [oq 42 (.binOp .eql 21 (tq 6) (.const (.int .i32 100)) 21), oq 41 (.assign (tq 42))] ∧
 RG 47 12 [mq 43 1, mq 44 0, oq 45 (.call (.mk (.value (.func 83)) #[(tq 44), (cq 4)] #[124,3])), oq 46 (.convert 42 154 (tq 45)), oq 47 (.convert 154 21 (tq 46)), oq 48 (.convert 21 3 (tq 47)), oq 49 (.nilCheck (tq 43)), oq 50 (.fieldAddr 45 (tq 49) 4), .op ⟨none, .store 3 (tq 50) (tq 48), none⟩] ∧
 RG 47 13 [oq 52 (.binOp .eql 21 (tq 6) (.const (.int .i32 119)) 21), oq 51 (.assign (tq 52))] ∧
 RG 47 14 [mq 53 1, mq 54 0, oq 55 (.call (.mk (.value (.func 83)) #[(tq 54), (cq 8)] #[124,3])), oq 56 (.nilCheck (tq 53)), oq 57 (.fieldAddr 45 (tq 56) 3), .op ⟨none, .store 42 (tq 57) (tq 55), none⟩] ∧
 RG 47 15 [oq 59 (.binOp .eql 21 (tq 6) (.const (.int .i32 80)) 21), oq 58 (.assign (tq 59))] ∧
 RG 47 16 [mq 60 1, mq 61 0, oq 62 (.call (.mk (.value (.func 84)) #[(tq 61)] #[124])), oq 63 (.nilCheck (tq 60)), oq 64 (.fieldAddr 45 (tq 63) 4), .op ⟨none, .store 3 (tq 64) (tq 62), none⟩] ∧
 RG 47 1 [mq 7 1, mq 8 0, oq 9 (.call (.mk (.value (.func 84)) #[(tq 8)] #[124])), oq 10 (.nilCheck (tq 7)), oq 11 (.fieldAddr 45 (tq 10) 5), .op ⟨none, .store 3 (tq 11) (tq 9), none⟩] := by and_intros <;> exact rgo fun _ => by kernel_rfl
theorem enter47 : ENT 47 65 [] (.seq (Rg 47 0) (.block 0 (.seq (Rg 47 2) (.cond (.tmp 12) (Rg 47 3) (.seq (Rg 47 4) (.cond (.tmp 19) (Rg 47 5) (.seq (.seq (Rg 47 6) (.cond (.tmp 26) .skip (Rg 47 7))) (.cond (.tmp 26) (Rg 47 8) (.seq (Rg 47 9) (.cond (.tmp 34) (Rg 47 10) (.seq (Rg 47 11) (.cond (.tmp 41) (Rg 47 12) (.seq (Rg 47 13) (.cond (.tmp 51) (Rg 47 14) (.seq (Rg 47 15) (.cond (.tmp 58) (Rg 47 16) (Rg 47 1))))))))))))))))) := ent Tryz.f47 (by kernel_rfl)
/- (*bowline/stackmachine.reader).signed -/
theorem fF82 : RG 82 0 [oq 2 (.assign (cq 0))] ∧
 RG 82 1 [mq 4 0, oq 5 (.call (.mk (.value (.func 84)) #[(tq 4)] #[124])), oq 3 (.assign (tq 5))] ∧
 RG 82 2 [mq 6 3, oq 7 (.binOp .rem 3 (tq 6) (cq 2) 3), oq 8 (.binOp .eql 3 (tq 7) (cq 1) 3)] ∧
 RG 82 3 [mq 9 3, oq 10 (.binOp .quo 3 (tq 9) (cq 2) 3), oq 11 (.binOp .add 3 (tq 10) (cq 1) 3), oq 12 (.unOp .neg 3 (tq 11)), oq 2 (.assign (tq 12))] ∧
 RG 82 4 [mq 13 3, oq 14 (.binOp .quo 3 (tq 13) (cq 2) 3), oq 2 (.assign (tq 14))] := by and_intros <;> exact rgo fun _ => by kernel_rfl
theorem enter82 : ENT 82 15 [.tmp 2] (.seq (Rg 82 0) (.seq (Rg 82 1) (.seq (.seq (Rg 82 2) (.cond (.tmp 8) (.seq (Rg 82 3) .ret) .skip)) (.seq (Rg 82 4) .ret)))) := ent Tryz.f82 (by kernel_rfl)
/- (*bowline/stackmachine.reader).small -/
theorem fF84 : RG 84 0 [oq 2 (.assign (cq 0))] ∧
 RG 84 1 [mq 4 0, oq 5 (.call (.mk (.value (.func 81)) #[(tq 4)] #[124])), oq 3 (.assign (tq 5))] ∧
 RG 84 2 [mq 6 3, oq 7 (.binOp .gtr 42 (tq 6) (.const (.int .u64 4611686018427387904)) 42)] ∧
 RG 84 3 [mq 8 0, mq 9 0, oq 10 (.nilCheck (tq 9)), oq 11 (.fieldAddr 126 (tq 10) 1), oq 12 (.load 26 (tq 11)), oq 13 (.buildSlice 111 2 #[(0, (tq 12)), (1, (cq 1))]), oq 14 (.call (.mk (.value (.func 37)) #[(tq 13)] #[111])), oq 15 (.nilCheck (tq 8)), oq 16 (.fieldAddr 126 (tq 15) 1), .op ⟨none, .store 26 (tq 16) (tq 14), none⟩] ∧
 RG 84 4 [oq 2 (.assign (cq 0))] ∧
 RG 84 5 [mq 17 3, oq 18 (.convert 42 3 (tq 17)), oq 2 (.assign (tq 18))] := by and_intros <;> exact rgo fun _ => by kernel_rfl
theorem enter84 : ENT 84 19 [.tmp 2] (.seq (Rg 84 0) (.seq (Rg 84 1) (.seq (.seq (Rg 84 2) (.cond (.tmp 7) (.seq (Rg 84 3) (.seq (Rg 84 4) .ret)) .skip)) (.seq (Rg 84 5) .ret)))) := ent Tryz.f84 (by kernel_rfl)
/- (*bowline/stackmachine.reader).take -/
theorem fF113 : RG 113 0 [oq 4 (.assign (.const (.slice none 0 0)))] ∧
 RG 113 1 [mq 6 0, oq 7 (.nilCheck (tq 6)), oq 8 (.fieldAddr 126 (tq 7) 1), oq 9 (.load 26 (tq 8)), oq 10 (.binOp .neq 26 (tq 9) (cq 0) 26), mq 11 10, .op ⟨some 12, .move (tq 0), some (11, false)⟩, .op ⟨some 13, .nilCheck (tq 12), some (11, false)⟩, .op ⟨some 14, .fieldAddr 126 (tq 13) 0, some (11, false)⟩, .op ⟨some 15, .load 23 (tq 14), some (11, false)⟩, .op ⟨some 16, .call (.mk (.builtin .len) #[(tq 15)] #[23]), some (11, false)⟩, .op ⟨some 17, .move (tq 1), some (11, false)⟩, .op ⟨some 18, .binOp .lss 3 (tq 16) (tq 17) 3, some (11, false)⟩, oq 19 (.pick (tq 11) (.const (.bool true)) (tq 18))] ∧
 RG 113 2 [mq 20 0, mq 21 0, oq 22 (.nilCheck (tq 21)), oq 23 (.fieldAddr 126 (tq 22) 1), oq 24 (.load 26 (tq 23)), oq 25 (.buildSlice 111 2 #[(0, (tq 24)), (1, (cq 39))]), oq 26 (.call (.mk (.value (.func 37)) #[(tq 25)] #[111])), oq 27 (.nilCheck (tq 20)), oq 28 (.fieldAddr 126 (tq 27) 1), .op ⟨none, .store 26 (tq 28) (tq 26), none⟩] ∧
 RG 113 3 [mq 29 1, oq 30 (.makeSlice 23 (tq 29) (tq 29)), oq 4 (.assign (tq 30))] ∧
 RG 113 4 [mq 31 0, oq 32 (.nilCheck (tq 31)), oq 33 (.fieldAddr 126 (tq 32) 0), oq 34 (.load 23 (tq 33)), mq 35 1, oq 36 (.slice 23 (tq 34) none (some (tq 35)) none), oq 5 (.assign (tq 36))] ∧
 RG 113 5 [mq 37 0, mq 38 0, oq 39 (.nilCheck (tq 38)), oq 40 (.fieldAddr 126 (tq 39) 0), oq 41 (.load 23 (tq 40)), mq 42 1, oq 43 (.slice 23 (tq 41) (some (tq 42)) none none), oq 44 (.nilCheck (tq 37)), oq 45 (.fieldAddr 126 (tq 44) 0), .op ⟨none, .store 23 (tq 45) (tq 43), none⟩] ∧
 RG 113 6 [mq 46 5, oq 4 (.assign (tq 46))] := by and_intros <;> exact rgo fun _ => by kernel_rfl
theorem enter113 : ENT 113 47 [.tmp 4] (.seq (Rg 113 0) (.seq (.seq (Rg 113 1) (.cond (.tmp 19) (.seq (Rg 113 2) (.seq (Rg 113 3) .ret)) .skip)) (.seq (Rg 113 4) (.seq (Rg 113 5) (.seq (Rg 113 6) .ret))))) := ent Tryz.f113 (by kernel_rfl)
/- (*bowline/stackmachine.reader).typ -/
theorem fF80 : RG 80 0 [oq 2 (.assign (sq #[]))] ∧
 RG 80 1 [mq 4 0, oq 5 (.call (.mk (.value (.func 113)) #[(tq 4), (cq 1)] #[124,3])), oq 6 (.indexAddr 23 (tq 5) (cq 0)), oq 7 (.load 5 (tq 6)), oq 8 (.convert 5 3 (tq 7)), oq 3 (.assign (tq 8))] ∧
 RG 80 2 [mq 10 0, oq 11 (.nilCheck (tq 10)), oq 12 (.fieldAddr 126 (tq 11) 1), oq 13 (.load 26 (tq 12)), oq 14 (.binOp .neq 26 (tq 13) (cq 0) 26), oq 9 (.assign (tq 14))] ∧
 RG 80 3 [oq 2 (.assign (sq #[]))] ∧
 RG 80 4 [mq 16 3, oq 17 (.binOp .leq 3 (tq 16) (cq 64) 3), oq 15 (.assign (tq 17))] ∧
 RG 80 5 [mq 18 3, oq 19 (.call (.mk (.value (.func 65)) #[(tq 18)] #[3])), oq 20 (.binOp .add 9 (sq #[117]) (tq 19) 9), oq 2 (.assign (tq 20))] ∧
 RG 80 6 [mq 22 3, oq 23 (.binOp .leq 3 (tq 22) (cq 128) 3), oq 21 (.assign (tq 23))] ∧
 RG 80 7 [mq 24 3, oq 25 (.binOp .sub 3 (tq 24) (cq 64) 3), oq 26 (.call (.mk (.value (.func 65)) #[(tq 25)] #[3])), oq 27 (.binOp .add 9 (sq #[105]) (tq 26) 9), oq 2 (.assign (tq 27))] ∧
 RG 80 8 [mq 29 3, oq 30 (.binOp .leq 3 (tq 29) (cq 131) 3), oq 28 (.assign (tq 30))] ∧
 RG 80 9 [oq 31 (.buildSlice 182 3 #[(0, (sq #[102,51,50])), (1, (sq #[102,54,52])), (2, (sq #[112,116,114]))]), mq 32 3, oq 33 (.binOp .sub 3 (tq 32) (cq 129) 3), oq 34 (.indexAddr 182 (tq 31) (tq 33)), oq 35 (.load 9 (tq 34)), oq 2 (.assign (tq 35))] ∧
 RG 80 10 [mq 37 3, oq 38 (.binOp .neq 3 (tq 37) (cq 255) 3), oq 36 (.assign (tq 38))] ∧
 RG 80 11 [mq 39 0, oq 40 (.nilCheck (tq 39)), oq 41 (.fieldAddr 126 (tq 40) 1), .op ⟨none, .store 26 (tq 41) (cq 12), none⟩] ∧
 RG 80 12 [oq 2 (.assign (sq #[]))] := by and_intros <;> exact rgo fun _ => by kernel_rfl
theorem enter80 : ENT 80 42 [.tmp 2] (.seq (Rg 80 0) (.seq (Rg 80 1) (.seq (.block 0 (.seq (Rg 80 2) (.cond (.tmp 9) (.seq (Rg 80 3) .ret) (.seq (Rg 80 4) (.cond (.tmp 15) (.seq (Rg 80 5) .ret) (.seq (Rg 80 6) (.cond (.tmp 21) (.seq (Rg 80 7) .ret) (.seq (Rg 80 8) (.cond (.tmp 28) (.seq (Rg 80 9) .ret) (.seq (Rg 80 10) (.cond (.tmp 36) (Rg 80 11) .skip))))))))))) (.seq (Rg 80 12) .ret)))) := ent Tryz.f80 (by kernel_rfl)
/- (bowline/stackmachine.Instr).bytes -/
theorem r24_0 : RG 24 0 [oq 1 (.box 45 (tq 0)), oq 2 (.assign (.const (.slice none 0 0)))] := rgo fun _ => by kernel_rfl
theorem r24_1 : RG 24 1 [oq 9 (.fieldAddr 45 (tq 1) 0), oq 10 (.load 3 (tq 9)), oq 11 (.call (.mk (.value (.func 32)) #[(tq 10)] #[3])), mq 8 11, oq 12 (.extract (tq 8) 0), oq 13 (.extract (tq 8) 1), oq 3 (.alloc 98), .op ⟨none, .store 98 (tq 3) (tq 12), none⟩, oq 4 (.assign (tq 13))] := rgo fun _ => by kernel_rfl
theorem r24_2 : RG 24 2 [oq 14 (.fieldAddr 45 (tq 1) 0), oq 15 (.load 3 (tq 14)), oq 16 (.convert 3 5 (tq 15)), oq 17 (.buildSlice 23 1 #[(0, (tq 16))]), oq 5 (.assign (tq 17))] := rgo fun _ => by kernel_rfl
theorem r24_3 : RG 24 3 [oq 18 (.fieldAddr 98 (tq 3) 1), oq 19 (.load 9 (tq 18)), oq 20 (.range 9 (tq 19))] := rgo fun _ => by kernel_rfl
theorem r24_4 : RG 24 4 [oq 21 (.next (tq 20) true), oq 22 (.extract (tq 21) 0)] := rgo fun _ => by kernel_rfl
theorem r24_5 : RG 24 5 [oq 23 (.extract (tq 21) 2), oq 7 (.assign (tq 23))] := rgo fun _ => by kernel_rfl
theorem r24_6 : RG 24 6 [mq 24 5, oq 25 (.load 45 (tq 1)), mq 26 7, oq 27 (.call (.mk (.value (.func 40)) #[(tq 25), (tq 26)] #[45,21])), oq 28 (.call (.mk (.builtin .append) #[(tq 24), (tq 27)] #[23,23])), oq 5 (.assign (tq 28))] := rgo fun _ => by kernel_rfl
theorem r24_7 : RG 24 7 [mq 29 5, oq 2 (.assign (tq 29))] := rgo fun _ => by kernel_rfl
def fF24 := And.intro r24_0 <| And.intro r24_1 <| And.intro r24_2 <| And.intro r24_3 <| And.intro r24_4 <| And.intro r24_5 <| And.intro r24_6 <| r24_7
theorem enter24 : ENT 24 30 [.tmp 2] (.seq (Rg 24 0) (.seq (Rg 24 1) (.seq (Rg 24 2) (.seq (.seq (Rg 24 3) (.block 0 (.loop (.seq (Rg 24 4) (.seq (.cond (.tmp 22) .skip (Code.exit 0)) (.block 1 (.seq (Rg 24 5) (Rg 24 6)))))))) (.seq (Rg 24 7) .ret))))) := ent Tryz.f24 (by kernel_rfl)
/- (bowline/stackmachine.kind).uses -/
theorem fF67 : RG 67 0 [oq 2 (.box 98 (tq 0)), oq 4 (.assign (.const (.bool false)))] ∧
 RG 67 1 [oq 5 (.fieldAddr 98 (tq 2) 1), oq 6 (.load 9 (tq 5)), mq 7 1, oq 8 (.call (.mk (.value (.func 101)) #[(tq 6), (tq 7)] #[9,9])), oq 4 (.assign (tq 8))] := by and_intros <;> exact rgo fun _ => by kernel_rfl
theorem enter67 : ENT 67 9 [.tmp 4] (.seq (Rg 67 0) (.seq (Rg 67 1) .ret)) := ent Tryz.f67 (by kernel_rfl)
/- bowline/bowlinelaw26.StackmachineCodes -/
theorem fF3 : RG 3 0 [oq 4 (.assign (.const (.bool false)))] ∧
 RG 3 1 [mq 15 0, oq 16 (.call (.mk (.value (.func 4)) #[(tq 15)] #[22])), oq 17 (.unOp .not 4 (tq 16)), mq 18 17, .op ⟨some 19, .move (tq 1), some (18, false)⟩, .op ⟨some 20, .call (.mk (.builtin .len) #[(tq 19)] #[23]), some (18, false)⟩, .op ⟨some 21, .binOp .gtr 3 (tq 20) (cq 2000) 3, some (18, false)⟩, .op ⟨some 22, .move (tq 21), some (18, false)⟩, .op ⟨some 23, .move (tq 1), some (22, true)⟩, .op ⟨some 24, .call (.mk (.builtin .len) #[(tq 23)] #[23]), some (22, true)⟩, .op ⟨some 25, .binOp .neq 3 (tq 24) (cq 65537) 3, some (22, true)⟩, .op ⟨some 26, .pick (tq 22) (tq 25) (.const (.bool false)), some (18, false)⟩, oq 27 (.pick (tq 18) (.const (.bool true)) (tq 26))] ∧
 RG 3 2 [oq 28 (.call (.mk (.value (.func 5)) #[] #[])), oq 4 (.assign (tq 28))] ∧
 RG 3 3 [mq 30 0, oq 31 (.call (.mk (.value (.func 7)) #[(tq 30)] #[22])), oq 32 (.call (.mk (.value (.func 6)) #[(tq 31)] #[29])), mq 29 32, oq 33 (.extract (tq 29) 0), oq 34 (.extract (tq 29) 1), oq 5 (.assign (tq 33)), oq 6 (.assign (tq 34))] ∧
 RG 3 4 [mq 36 0, oq 37 (.call (.mk (.value (.func 8)) #[(tq 36)] #[22])), mq 35 37, oq 38 (.extract (tq 35) 0), oq 39 (.extract (tq 35) 1), oq 7 (.assign (tq 38)), oq 8 (.assign (tq 39))] ∧
 RG 3 5 [mq 41 1, oq 42 (.call (.mk (.value (.func 10)) #[(tq 41)] #[23])), oq 43 (.call (.mk (.value (.func 9)) #[(tq 42)] #[23])), mq 40 43, oq 44 (.extract (tq 40) 0), oq 45 (.extract (tq 40) 1), oq 46 (.extract (tq 40) 2), oq 9 (.assign (tq 44)), oq 10 (.assign (tq 45)), oq 11 (.assign (tq 46))] ∧
 RG 3 6 [mq 48 1, oq 49 (.call (.mk (.value (.func 11)) #[(tq 48)] #[23])), mq 47 49, oq 50 (.extract (tq 47) 0), oq 51 (.extract (tq 47) 1), oq 52 (.extract (tq 47) 2), oq 12 (.assign (tq 50)), oq 13 (.assign (tq 51)), oq 14 (.assign (tq 52))] ∧
 RG 3 7 [mq 53 5, mq 54 7, oq 55 (.call (.mk (.value (.func 12)) #[(tq 53), (tq 54)] #[23,23])), mq 56 55, .op ⟨some 57, .move (tq 6), some (56, true)⟩, .op ⟨some 58, .move (tq 8), some (56, true)⟩, .op ⟨some 59, .binOp .eql 3 (tq 57) (tq 58) 3, some (56, true)⟩, oq 60 (.pick (tq 56) (tq 59) (.const (.bool false))), mq 61 60, .op ⟨some 62, .move (tq 9), some (61, true)⟩, .op ⟨some 63, .call (.mk (.value (.func 14)) #[(tq 62)] #[29]), some (61, true)⟩, .op ⟨some 64, .move (tq 12), some (61, true)⟩, .op ⟨some 65, .call (.mk (.value (.func 13)) #[(tq 63), (tq 64)] #[22,22]), some (61, true)⟩, oq 66 (.pick (tq 61) (tq 65) (.const (.bool false))), mq 67 66, .op ⟨some 68, .move (tq 10), some (67, true)⟩, .op ⟨some 69, .move (tq 13), some (67, true)⟩, .op ⟨some 70, .binOp .eql 3 (tq 68) (tq 69) 3, some (67, true)⟩, oq 71 (.pick (tq 67) (tq 70) (.const (.bool false))), mq 72 71, .op ⟨some 73, .move (tq 11), some (72, true)⟩, .op ⟨some 74, .move (tq 14), some (72, true)⟩, .op ⟨some 75, .binOp .eql 3 (tq 73) (tq 74) 3, some (72, true)⟩, oq 76 (.pick (tq 72) (tq 75) (.const (.bool false))), mq 77 76, .op ⟨some 78, .call (.mk (.value (.func 5)) #[] #[]), some (77, true)⟩, oq 79 (.pick (tq 77) (tq 78) (.const (.bool false))), oq 4 (.assign (tq 79))] := by and_intros <;> exact rgo fun _ => by kernel_rfl
theorem enter3 : ENT 3 80 [.tmp 4] (.seq (Rg 3 0) (.seq (.seq (Rg 3 1) (.cond (.tmp 27) (.seq (Rg 3 2) .ret) .skip)) (.seq (Rg 3 3) (.seq (Rg 3 4) (.seq (Rg 3 5) (.seq (Rg 3 6) (.seq (Rg 3 7) .ret))))))) := ent Tryz.f3 (by kernel_rfl)
/- bowline/bowlinelaw26.same -/
theorem r13_0 : RG 13 0 [oq 4 (.assign (.const (.bool false)))] := rgo fun _ => by kernel_rfl
theorem r13_1 : RG 13 1 [mq 6 0, oq 7 (.call (.mk (.builtin .len) #[(tq 6)] #[22])), mq 8 1, oq 9 (.call (.mk (.builtin .len) #[(tq 8)] #[22])), oq 10 (.binOp .neq 3 (tq 7) (tq 9) 3)] := rgo fun _ => by kernel_rfl
theorem r13_2 : RG 13 2 [oq 4 (.assign (.const (.bool false)))] := rgo fun _ => by kernel_rfl
theorem r13_3 : RG 13 3 [mq 11 0, oq 12 (.call (.mk (.builtin .len) #[(tq 11)] #[22])), oq 13 (.move (cq 0))] := rgo fun _ => by kernel_rfl
theorem r13_4 : RG 13 4 [oq 14 (.binOp .lss 3 (tq 13) (tq 12) 3)] := rgo fun _ => by kernel_rfl
theorem r13_5 : RG 13 5 [mq 15 13, oq 5 (.assign (tq 15))] := rgo fun _ => by kernel_rfl
theorem r13_6 : RG 13 6 [mq 16 0, mq 17 5, oq 18 (.indexAddr 22 (tq 16) (tq 17)), oq 19 (.load 44 (tq 18)), mq 20 1, mq 21 5, oq 22 (.indexAddr 22 (tq 20) (tq 21)), oq 23 (.load 44 (tq 22)), oq 24 (.binOp .neq 44 (tq 19) (tq 23) 44), .chk [⟨some 19, .load 44 (tq 18), none⟩, ⟨some 23, .load 44 (tq 22), none⟩]] := rgo fun _ => by kernel_rfl
theorem r13_7 : RG 13 7 [oq 4 (.assign (.const (.bool false)))] := rgo fun _ => by kernel_rfl
theorem r13_8 : RG 13 8 [oq 25 (.binOp .add 3 (tq 13) (cq 1) 3), mq 13 25] := rgo fun _ => by kernel_rfl
theorem r13_9 : RG 13 9 [oq 4 (.assign (.const (.bool true)))] := rgo fun _ => by kernel_rfl
def fF13 := And.intro r13_0 <| And.intro r13_1 <| And.intro r13_2 <| And.intro r13_3 <| And.intro r13_4 <| And.intro r13_5 <| And.intro r13_6 <| And.intro r13_7 <| And.intro r13_8 <| r13_9
theorem enter13 : ENT 13 26 [.tmp 4] (.seq (Rg 13 0) (.seq (.seq (Rg 13 1) (.cond (.tmp 10) (.seq (Rg 13 2) .ret) .skip)) (.seq (.seq (Rg 13 3) (.block 0 (.loop (.seq (Rg 13 4) (.seq (.cond (.tmp 14) .skip (Code.exit 0)) (.seq (.block 1 (.seq (Rg 13 5) (.seq (Rg 13 6) (.cond (.tmp 24) (.seq (Rg 13 7) .ret) .skip)))) (Rg 13 8))))))) (.seq (Rg 13 9) .ret)))) := ent Tryz.f13 (by kernel_rfl)
/- bowline/bowlinelaw26.short -/
theorem r4_0 : RG 4 0 [oq 2 (.assign (.const (.bool false)))] := rgo fun _ => by kernel_rfl
theorem r4_1 : RG 4 1 [mq 5 0, oq 6 (.call (.mk (.builtin .len) #[(tq 5)] #[22])), oq 7 (.binOp .gtr 3 (tq 6) (cq 200) 3), mq 8 7, .op ⟨some 9, .move (tq 0), some (8, true)⟩, .op ⟨some 10, .call (.mk (.builtin .len) #[(tq 9)] #[22]), some (8, true)⟩, .op ⟨some 11, .binOp .neq 3 (tq 10) (cq 4001) 3, some (8, true)⟩, oq 12 (.pick (tq 8) (tq 11) (.const (.bool false)))] := rgo fun _ => by kernel_rfl
theorem r4_2 : RG 4 2 [oq 2 (.assign (.const (.bool false)))] := rgo fun _ => by kernel_rfl
theorem r4_3 : RG 4 3 [mq 13 0, oq 14 (.call (.mk (.builtin .len) #[(tq 13)] #[22])), oq 15 (.move (cq 0))] := rgo fun _ => by kernel_rfl
theorem r4_4 : RG 4 4 [oq 16 (.binOp .lss 3 (tq 15) (tq 14) 3)] := rgo fun _ => by kernel_rfl
theorem r4_5 : RG 4 5 [oq 17 (.indexAddr 22 (tq 13) (tq 15)), oq 18 (.load 44 (tq 17)), oq 4 (.alloc 44), .op ⟨none, .store 44 (tq 4) (tq 18), none⟩] := rgo fun _ => by kernel_rfl
theorem r4_6 : RG 4 6 [oq 19 (.fieldAddr 44 (tq 4) 1), oq 20 (.load 9 (tq 19)), oq 21 (.call (.mk (.builtin .len) #[(tq 20)] #[9])), oq 22 (.binOp .gtr 3 (tq 21) (cq 100) 3), mq 23 22, .op ⟨some 24, .fieldAddr 44 (tq 4) 2, some (23, false)⟩, .op ⟨some 25, .load 9 (tq 24), some (23, false)⟩, .op ⟨some 26, .call (.mk (.builtin .len) #[(tq 25)] #[9]), some (23, false)⟩, .op ⟨some 27, .binOp .gtr 3 (tq 26) (cq 100) 3, some (23, false)⟩, oq 28 (.pick (tq 23) (.const (.bool true)) (tq 27))] := rgo fun _ => by kernel_rfl
theorem r4_7 : RG 4 7 [oq 2 (.assign (.const (.bool false)))] := rgo fun _ => by kernel_rfl
theorem r4_8 : RG 4 8 [oq 29 (.binOp .add 3 (tq 15) (cq 1) 3), mq 15 29] := rgo fun _ => by kernel_rfl
theorem r4_9 : RG 4 9 [oq 2 (.assign (.const (.bool true)))] := rgo fun _ => by kernel_rfl
def fF4 := And.intro r4_0 <| And.intro r4_1 <| And.intro r4_2 <| And.intro r4_3 <| And.intro r4_4 <| And.intro r4_5 <| And.intro r4_6 <| And.intro r4_7 <| And.intro r4_8 <| r4_9
theorem enter4 : ENT 4 30 [.tmp 2] (.seq (Rg 4 0) (.seq (.seq (Rg 4 1) (.cond (.tmp 12) (.seq (Rg 4 2) .ret) .skip)) (.seq (.seq (Rg 4 3) (.block 0 (.loop (.seq (Rg 4 4) (.seq (.cond (.tmp 16) .skip (Code.exit 0)) (.seq (.block 1 (.seq (Rg 4 5) (.seq (Rg 4 6) (.cond (.tmp 28) (.seq (Rg 4 7) .ret) .skip)))) (Rg 4 8))))))) (.seq (Rg 4 9) .ret)))) := ent Tryz.f4 (by kernel_rfl)
/- bowline/bowlinelaw26.theirs -/
theorem r7_0 : RG 7 0 [oq 2 (.assign (.const (.slice none 0 0)))] := rgo fun _ => by kernel_rfl
theorem r7_1 : RG 7 1 [oq 3 (.assign (.const (.slice none 0 0)))] := rgo fun _ => by kernel_rfl
theorem r7_2 : RG 7 2 [mq 6 0, oq 7 (.call (.mk (.builtin .len) #[(tq 6)] #[22])), oq 8 (.move (cq 0))] := rgo fun _ => by kernel_rfl
theorem r7_3 : RG 7 3 [oq 9 (.binOp .lss 3 (tq 8) (tq 7) 3)] := rgo fun _ => by kernel_rfl
theorem r7_4 : RG 7 4 [oq 10 (.indexAddr 22 (tq 6) (tq 8)), oq 11 (.load 44 (tq 10)), oq 5 (.alloc 44), .op ⟨none, .store 44 (tq 5) (tq 11), none⟩] := rgo fun _ => by kernel_rfl
theorem r7_5 : RG 7 5 [mq 12 3, oq 13 (.load 44 (tq 5)), oq 14 (.buildSlice 29 1 #[(0, (tq 13))]), oq 15 (.call (.mk (.builtin .append) #[(tq 12), (tq 14)] #[29,29])), oq 3 (.assign (tq 15))] := rgo fun _ => by kernel_rfl
theorem r7_6 : RG 7 6 [oq 16 (.binOp .add 3 (tq 8) (cq 1) 3), mq 8 16] := rgo fun _ => by kernel_rfl
theorem r7_7 : RG 7 7 [mq 17 3, oq 2 (.assign (tq 17))] := rgo fun _ => by kernel_rfl
def fF7 := And.intro r7_0 <| And.intro r7_1 <| And.intro r7_2 <| And.intro r7_3 <| And.intro r7_4 <| And.intro r7_5 <| And.intro r7_6 <| r7_7
theorem enter7 : ENT 7 18 [.tmp 2] (.seq (Rg 7 0) (.seq (Rg 7 1) (.seq (.seq (Rg 7 2) (.block 0 (.loop (.seq (Rg 7 3) (.seq (.cond (.tmp 9) .skip (Code.exit 0)) (.seq (.block 1 (.seq (Rg 7 4) (Rg 7 5))) (Rg 7 6))))))) (.seq (Rg 7 7) .ret)))) := ent Tryz.f7 (by kernel_rfl)
/- bowline/bowlinelaw26.told -/
theorem r14_0 : RG 14 0 [oq 2 (.assign (.const (.slice none 0 0)))] := rgo fun _ => by kernel_rfl
theorem r14_1 : RG 14 1 [oq 3 (.assign (.const (.slice none 0 0)))] := rgo fun _ => by kernel_rfl
theorem r14_2 : RG 14 2 [mq 6 0, oq 7 (.call (.mk (.builtin .len) #[(tq 6)] #[29])), oq 8 (.move (cq 0))] := rgo fun _ => by kernel_rfl
theorem r14_3 : RG 14 3 [oq 9 (.binOp .lss 3 (tq 8) (tq 7) 3)] := rgo fun _ => by kernel_rfl
theorem r14_4 : RG 14 4 [oq 10 (.indexAddr 29 (tq 6) (tq 8)), oq 11 (.load 45 (tq 10)), oq 5 (.alloc 45), .op ⟨none, .store 45 (tq 5) (tq 11), none⟩] := rgo fun _ => by kernel_rfl
theorem r14_5 : RG 14 5 [mq 12 3, oq 13 (.load 45 (tq 5)), oq 14 (.buildSlice 22 1 #[(0, (tq 13))]), oq 15 (.call (.mk (.builtin .append) #[(tq 12), (tq 14)] #[22,22])), oq 3 (.assign (tq 15))] := rgo fun _ => by kernel_rfl
theorem r14_6 : RG 14 6 [oq 16 (.binOp .add 3 (tq 8) (cq 1) 3), mq 8 16] := rgo fun _ => by kernel_rfl
theorem r14_7 : RG 14 7 [mq 17 3, oq 2 (.assign (tq 17))] := rgo fun _ => by kernel_rfl
def fF14 := And.intro r14_0 <| And.intro r14_1 <| And.intro r14_2 <| And.intro r14_3 <| And.intro r14_4 <| And.intro r14_5 <| And.intro r14_6 <| r14_7
theorem enter14 : ENT 14 18 [.tmp 2] (.seq (Rg 14 0) (.seq (Rg 14 1) (.seq (.seq (Rg 14 2) (.block 0 (.loop (.seq (Rg 14 3) (.seq (.cond (.tmp 9) .skip (Code.exit 0)) (.seq (.block 1 (.seq (Rg 14 4) (Rg 14 5))) (Rg 14 6))))))) (.seq (Rg 14 7) .ret)))) := ent Tryz.f14 (by kernel_rfl)
/- bowline/bowlineref01.Check -/
theorem fF168 : RG 168 0 [oq 2 (.assign (cq 0))] ∧
 RG 168 1 [mq 7 0, oq 8 (.call (.mk (.value (.func 169)) #[(tq 7)] #[9])), mq 6 8, oq 9 (.extract (tq 6) 0), oq 10 (.extract (tq 6) 1), oq 11 (.extract (tq 6) 2), oq 3 (.assign (tq 9)), oq 4 (.assign (tq 10)), oq 5 (.assign (tq 11))] ∧
 RG 168 2 [mq 12 5, oq 2 (.assign (tq 12))] := by and_intros <;> exact rgo fun _ => by kernel_rfl
theorem enter168 : ENT 168 13 [.tmp 2] (.seq (Rg 168 0) (.seq (Rg 168 1) (.seq (Rg 168 2) .ret))) := ent Tryz.f168 (by kernel_rfl)
/- bowline/bowlineref01.First -/
theorem fF74 : RG 74 0 [oq 2 (.assign (cq 0))] ∧
 RG 74 1 [oq 3 (.assign (cq 0))] ∧
 RG 74 2 [mq 4 3, mq 5 0, oq 6 (.call (.mk (.builtin .len) #[(tq 5)] #[48])), oq 7 (.binOp .lss 3 (tq 4) (tq 6) 3)] ∧
 RG 74 4 [mq 10 0, mq 11 3, oq 12 (.indexAddr 48 (tq 10) (tq 11)), oq 13 (.load 3 (tq 12)), oq 14 (.binOp .neq 3 (tq 13) (cq 0) 3)] ∧
 RG 74 5 [mq 15 0, mq 16 3, oq 17 (.indexAddr 48 (tq 15) (tq 16)), oq 18 (.load 3 (tq 17)), oq 2 (.assign (tq 18))] ∧
 RG 74 3 [mq 8 3, oq 9 (.binOp .add 3 (tq 8) (cq 1) 3), oq 3 (.assign (tq 9))] ∧
 RG 74 6 [oq 2 (.assign (cq 0))] := by and_intros <;> exact rgo fun _ => by kernel_rfl
theorem enter74 : ENT 74 19 [.tmp 2] (.seq (Rg 74 0) (.seq (.seq (Rg 74 1) (.block 0 (.loop (.seq (.seq (Rg 74 2) (.cond (.tmp 7) .skip (Code.exit 0))) (.seq (.block 1 (.seq (Rg 74 4) (.cond (.tmp 14) (.seq (Rg 74 5) .ret) .skip))) (Rg 74 3)))))) (.seq (Rg 74 6) .ret))) := ent Tryz.f74 (by kernel_rfl)
/- bowline/bowlineref01.IsDigit -/
theorem fF170 : RG 170 0 [oq 2 (.assign (.const (.bool false)))] ∧
 RG 170 1 [mq 3 0, oq 4 (.binOp .geq 5 (tq 3) (.const (.int .u8 48)) 5), mq 5 4, .op ⟨some 6, .move (tq 0), some (5, true)⟩, .op ⟨some 7, .binOp .leq 5 (tq 6) (.const (.int .u8 57)) 5, some (5, true)⟩, oq 8 (.pick (tq 5) (tq 7) (.const (.bool false))), oq 2 (.assign (tq 8))] := by and_intros <;> exact rgo fun _ => by kernel_rfl
theorem enter170 : ENT 170 9 [.tmp 2] (.seq (Rg 170 0) (.seq (Rg 170 1) .ret)) := ent Tryz.f170 (by kernel_rfl)
/- bowline/bowlineref01.Number -/
theorem r141_0 : RG 141 0 [oq 2 (.assign (cq 0)), oq 3 (.assign (.const (.bool false)))] := rgo fun _ => by kernel_rfl
theorem r141_1 : RG 141 1 [mq 6 0, oq 7 (.binOp .eql 9 (tq 6) (sq #[]) 9), mq 8 7, .op ⟨some 9, .move (tq 0), some (8, false)⟩, .op ⟨some 10, .call (.mk (.builtin .len) #[(tq 9)] #[9]), some (8, false)⟩, .op ⟨some 11, .binOp .gtr 3 (tq 10) (cq 15) 3, some (8, false)⟩, oq 12 (.pick (tq 8) (.const (.bool true)) (tq 11)), mq 13 12, .op ⟨some 14, .move (tq 0), some (13, false)⟩, .op ⟨some 15, .call (.mk (.builtin .len) #[(tq 14)] #[9]), some (13, false)⟩, .op ⟨some 16, .binOp .gtr 3 (tq 15) (cq 1) 3, some (13, false)⟩, .op ⟨some 17, .move (tq 16), some (13, false)⟩, .op ⟨some 18, .move (tq 0), some (17, true)⟩, .op ⟨some 19, .index 9 (tq 18) (cq 0), some (17, true)⟩, .op ⟨some 20, .binOp .eql 5 (tq 19) (.const (.int .u8 48)) 5, some (17, true)⟩, .op ⟨some 21, .pick (tq 17) (tq 20) (.const (.bool false)), some (13, false)⟩, oq 22 (.pick (tq 13) (.const (.bool true)) (tq 21))] := rgo fun _ => by kernel_rfl
theorem r141_2 : RG 141 2 [oq 2 (.assign (cq 0)), oq 3 (.assign (.const (.bool false)))] := rgo fun _ => by kernel_rfl
theorem r141_3 : RG 141 3 [oq 4 (.assign (cq 0))] := rgo fun _ => by kernel_rfl
theorem r141_4 : RG 141 4 [oq 5 (.assign (cq 0))] := rgo fun _ => by kernel_rfl
theorem r141_5 : RG 141 5 [mq 23 5, mq 24 0, oq 25 (.call (.mk (.builtin .len) #[(tq 24)] #[9])), oq 26 (.binOp .lss 3 (tq 23) (tq 25) 3)] := rgo fun _ => by kernel_rfl
theorem r141_7 : RG 141 7 [mq 29 0, mq 30 5, oq 31 (.index 9 (tq 29) (tq 30)), oq 32 (.call (.mk (.value (.func 170)) #[(tq 31)] #[5])), oq 33 (.unOp .not 4 (tq 32))] := rgo fun _ => by kernel_rfl
theorem r141_8 : RG 141 8 [oq 2 (.assign (cq 0)), oq 3 (.assign (.const (.bool false)))] := rgo fun _ => by kernel_rfl
theorem r141_9 : RG 141 9 [mq 34 4, oq 35 (.binOp .mul 3 (cq 10) (tq 34) 3), mq 36 0, mq 37 5, oq 38 (.index 9 (tq 36) (tq 37)), oq 39 (.binOp .sub 5 (tq 38) (.const (.int .u8 48)) 5), oq 40 (.convert 5 3 (tq 39)), oq 41 (.binOp .add 3 (tq 35) (tq 40) 3), oq 4 (.assign (tq 41))] := rgo fun _ => by kernel_rfl
theorem r141_6 : RG 141 6 [mq 27 5, oq 28 (.binOp .add 3 (tq 27) (cq 1) 3), oq 5 (.assign (tq 28))] := rgo fun _ => by kernel_rfl
theorem r141_10 : RG 141 10 [mq 42 4, oq 2 (.assign (tq 42)), oq 3 (.assign (.const (.bool true)))] := rgo fun _ => by kernel_rfl
def fF141 := And.intro r141_0 <| And.intro r141_1 <| And.intro r141_2 <| And.intro r141_3 <| And.intro r141_4 <| And.intro r141_5 <| And.intro r141_7 <| And.intro r141_8 <| And.intro r141_9 <| And.intro r141_6 <| r141_10
theorem enter141 : ENT 141 43 [.tmp 2, .tmp 3] (.seq (Rg 141 0) (.seq (.seq (Rg 141 1) (.cond (.tmp 22) (.seq (Rg 141 2) .ret) .skip)) (.seq (Rg 141 3) (.seq (.seq (Rg 141 4) (.block 0 (.loop (.seq (.seq (Rg 141 5) (.cond (.tmp 26) .skip (Code.exit 0))) (.seq (.block 1 (.seq (.seq (Rg 141 7) (.cond (.tmp 33) (.seq (Rg 141 8) .ret) .skip)) (Rg 141 9))) (Rg 141 6)))))) (.seq (Rg 141 10) .ret))))) := ent Tryz.f141 (by kernel_rfl)
/- bowline/bowlineref01.OwnBytes -/
theorem fF10 : RG 10 0 [oq 2 (.assign (.const (.slice none 0 0)))] ∧
 RG 10 1 [mq 3 0, oq 4 (.call (.mk (.builtin .append) #[(.const (.slice none 0 0)), (tq 3)] #[23,23])), oq 2 (.assign (tq 4))] := by and_intros <;> exact rgo fun _ => by kernel_rfl
theorem enter10 : ENT 10 5 [.tmp 2] (.seq (Rg 10 0) (.seq (Rg 10 1) .ret)) := ent Tryz.f10 (by kernel_rfl)
/- bowline/bowlineref01.SameBytes -/
theorem fF12 : RG 12 0 [oq 4 (.assign (.const (.bool false)))] ∧
 RG 12 1 [mq 5 0, oq 6 (.convert 23 9 (tq 5)), mq 7 1, oq 8 (.convert 23 9 (tq 7)), oq 9 (.binOp .eql 9 (tq 6) (tq 8) 9), oq 4 (.assign (tq 9))] := by and_intros <;> exact rgo fun _ => by kernel_rfl
theorem enter12 : ENT 12 10 [.tmp 4] (.seq (Rg 12 0) (.seq (Rg 12 1) .ret)) := ent Tryz.f12 (by kernel_rfl)
/- bowline/bowlineref01.When -/
theorem fF106 : RG 106 0 [oq 4 (.assign (cq 0))] ∧
 RG 106 1 [mq 5 0] ∧
 RG 106 2 [mq 6 1, oq 4 (.assign (tq 6))] ∧
 RG 106 3 [oq 4 (.assign (cq 0))] := by and_intros <;> exact rgo fun _ => by kernel_rfl
theorem enter106 : ENT 106 7 [.tmp 4] (.seq (Rg 106 0) (.seq (.seq (Rg 106 1) (.cond (.tmp 5) (.seq (Rg 106 2) .ret) .skip)) (.seq (Rg 106 3) .ret))) := ent Tryz.f106 (by kernel_rfl)
/- bowline/bowlineref01.Width -/
theorem fF139 : RG 139 0 [oq 2 (.assign (cq 0)), oq 3 (.assign (.const (.bool false))), oq 4 (.assign (cq 0))] ∧
 RG 139 1 [mq 9 0, oq 10 (.call (.mk (.value (.func 169)) #[(tq 9)] #[9])), mq 8 10, oq 11 (.extract (tq 8) 0), oq 12 (.extract (tq 8) 1), oq 13 (.extract (tq 8) 2), oq 5 (.assign (tq 11)), oq 6 (.assign (tq 12)), oq 7 (.assign (tq 13))] ∧
 RG 139 2 [mq 14 7, oq 15 (.binOp .neq 3 (tq 14) (cq 0) 3)] ∧
 RG 139 3 [mq 16 7, oq 2 (.assign (cq 0)), oq 3 (.assign (.const (.bool false))), oq 4 (.assign (tq 16))] ∧
 RG 139 4 [mq 17 6, mq 18 5, oq 2 (.assign (tq 17)), oq 3 (.assign (tq 18)), oq 4 (.assign (cq 0))] := by and_intros <;> exact rgo fun _ => by kernel_rfl
theorem enter139 : ENT 139 19 [.tmp 2, .tmp 3, .tmp 4] (.seq (Rg 139 0) (.seq (Rg 139 1) (.seq (.seq (Rg 139 2) (.cond (.tmp 15) (.seq (Rg 139 3) .ret) .skip)) (.seq (Rg 139 4) .ret)))) := ent Tryz.f139 (by kernel_rfl)
/- bowline/bowlineref01.parts -/
theorem fF169 : RG 169 0 [oq 2 (.assign (.const (.bool false))), oq 3 (.assign (cq 0)), oq 4 (.assign (cq 0))] ∧
 RG 169 1 [mq 8 0, oq 9 (.binOp .eql 9 (tq 8) (sq #[]) 9), mq 10 9, .op ⟨some 11, .move (tq 0), some (10, false)⟩, .op ⟨some 12, .index 9 (tq 11) (cq 0), some (10, false)⟩, .op ⟨some 13, .binOp .neq 5 (tq 12) (.const (.int .u8 117)) 5, some (10, false)⟩, .op ⟨some 14, .move (tq 13), some (10, false)⟩, .op ⟨some 15, .move (tq 0), some (14, true)⟩, .op ⟨some 16, .index 9 (tq 15) (cq 0), some (14, true)⟩, .op ⟨some 17, .binOp .neq 5 (tq 16) (.const (.int .u8 105)) 5, some (14, true)⟩, .op ⟨some 18, .pick (tq 14) (tq 17) (.const (.bool false)), some (10, false)⟩, oq 19 (.pick (tq 10) (.const (.bool true)) (tq 18)), mq 20 19, .op ⟨some 21, .move (tq 0), some (20, false)⟩, .op ⟨some 22, .call (.mk (.builtin .len) #[(tq 21)] #[9]), some (20, false)⟩, .op ⟨some 23, .binOp .gtr 3 (tq 22) (cq 4) 3, some (20, false)⟩, oq 24 (.pick (tq 20) (.const (.bool true)) (tq 23))] ∧
 RG 169 2 [oq 2 (.assign (.const (.bool false))), oq 3 (.assign (cq 0)), oq 4 (.assign (cq 6))] ∧
 RG 169 3 [mq 26 0, oq 27 (.slice 9 (tq 26) (some (cq 1)) none none), oq 28 (.call (.mk (.value (.func 141)) #[(tq 27)] #[9])), mq 25 28, oq 29 (.extract (tq 25) 0), oq 30 (.extract (tq 25) 1), oq 5 (.assign (tq 29)), oq 6 (.assign (tq 30))] ∧
 RG 169 4 [mq 31 6, oq 32 (.unOp .not 4 (tq 31))] ∧
 RG 169 5 [oq 2 (.assign (.const (.bool false))), oq 3 (.assign (cq 0)), oq 4 (.assign (cq 6))] ∧
 RG 169 6 [mq 33 0, oq 34 (.index 9 (tq 33) (cq 0)), oq 35 (.binOp .eql 5 (tq 34) (.const (.int .u8 105)) 5), oq 7 (.assign (tq 35))] ∧
 RG 169 7 [mq 36 7, mq 37 5, mq 38 5, oq 39 (.binOp .gtr 3 (tq 38) (cq 64) 3), mq 40 39, .op ⟨some 41, .move (tq 7), some (40, false)⟩, .op ⟨some 42, .move (tq 41), some (40, false)⟩, .op ⟨some 43, .move (tq 5), some (42, true)⟩, .op ⟨some 44, .binOp .eql 3 (tq 43) (cq 0) 3, some (42, true)⟩, .op ⟨some 45, .pick (tq 42) (tq 44) (.const (.bool false)), some (40, false)⟩, oq 46 (.pick (tq 40) (.const (.bool true)) (tq 45)), oq 47 (.call (.mk (.value (.func 106)) #[(tq 46), (cq 3)] #[4,3])), oq 2 (.assign (tq 36)), oq 3 (.assign (tq 37)), oq 4 (.assign (tq 47))] := by and_intros <;> exact rgo fun _ => by kernel_rfl
theorem enter169 : ENT 169 48 [.tmp 2, .tmp 3, .tmp 4] (.seq (Rg 169 0) (.seq (.seq (Rg 169 1) (.cond (.tmp 24) (.seq (Rg 169 2) .ret) .skip)) (.seq (Rg 169 3) (.seq (.seq (Rg 169 4) (.cond (.tmp 32) (.seq (Rg 169 5) .ret) .skip)) (.seq (Rg 169 6) (.seq (Rg 169 7) .ret)))))) := ent Tryz.f169 (by kernel_rfl)
/- bowline/bowlineref11.Converts -/
theorem fF111 : RG 111 0 [oq 6 (.assign (.const (.bool false)))] ∧
 RG 111 1 [mq 13 1, oq 14 (.call (.mk (.value (.func 138)) #[(tq 13)] #[9])), mq 15 2, oq 16 (.call (.mk (.value (.func 138)) #[(tq 15)] #[9])), oq 7 (.assign (tq 14)), oq 8 (.assign (tq 16))] ∧
 RG 111 2 [mq 18 1, oq 19 (.call (.mk (.value (.func 140)) #[(tq 18)] #[9])), mq 17 19, oq 20 (.extract (tq 17) 0), oq 21 (.extract (tq 17) 1), oq 9 (.assign (tq 20)), oq 10 (.assign (tq 21))] ∧
 RG 111 3 [mq 23 2, oq 24 (.call (.mk (.value (.func 140)) #[(tq 23)] #[9])), mq 22 24, oq 25 (.extract (tq 22) 0), oq 26 (.extract (tq 22) 1), oq 11 (.assign (tq 25)), oq 12 (.assign (tq 26))] ∧
 RG 111 4 [mq 27 0] ∧
 RG 111 5 [oq 29 (.binOp .eql 3 (tq 27) (cq 38) 3), oq 28 (.assign (tq 29))] ∧
 RG 111 6 [oq 30 (.binOp .eql 3 (tq 27) (cq 39) 3), oq 28 (.assign (tq 30))] ∧
 RG 111 7 [mq 31 7, mq 32 31, .op ⟨some 33, .move (tq 8), some (32, true)⟩, oq 34 (.pick (tq 32) (tq 33) (.const (.bool false))), oq 6 (.assign (tq 34))] ∧
 RG 111 8 [oq 36 (.binOp .eql 3 (tq 27) (cq 40) 3), oq 35 (.assign (tq 36))] ∧
 RG 111 9 [mq 37 7, mq 38 37, .op ⟨some 39, .move (tq 8), some (38, true)⟩, oq 40 (.pick (tq 38) (tq 39) (.const (.bool false))), mq 41 40, .op ⟨some 42, .move (tq 11), some (41, true)⟩, .op ⟨some 43, .move (tq 9), some (41, true)⟩, .op ⟨some 44, .binOp .leq 3 (tq 42) (tq 43) 3, some (41, true)⟩, oq 45 (.pick (tq 41) (tq 44) (.const (.bool false))), oq 6 (.assign (tq 45))] ∧
 RG 111 10 [oq 47 (.binOp .eql 3 (tq 27) (cq 41) 3), oq 46 (.assign (tq 47))] ∧
 RG 111 11 [mq 48 7, mq 49 48, .op ⟨some 50, .move (tq 1), some (49, false)⟩, .op ⟨some 51, .call (.mk (.value (.func 137)) #[(tq 50)] #[9]), some (49, false)⟩, oq 52 (.pick (tq 49) (.const (.bool true)) (tq 51)), mq 53 52, .op ⟨some 54, .move (tq 8), some (53, true)⟩, .op ⟨some 55, .move (tq 54), some (53, true)⟩, .op ⟨some 56, .move (tq 2), some (55, false)⟩, .op ⟨some 57, .call (.mk (.value (.func 137)) #[(tq 56)] #[9]), some (55, false)⟩, .op ⟨some 58, .pick (tq 55) (.const (.bool true)) (tq 57), some (53, true)⟩, oq 59 (.pick (tq 53) (tq 58) (.const (.bool false))), mq 60 59, .op ⟨some 61, .move (tq 9), some (60, true)⟩, .op ⟨some 62, .move (tq 11), some (60, true)⟩, .op ⟨some 63, .binOp .eql 3 (tq 61) (tq 62) 3, some (60, true)⟩, oq 64 (.pick (tq 60) (tq 63) (.const (.bool false))), oq 6 (.assign (tq 64))] ∧
 RG 111 12 [oq 66 (.binOp .eql 3 (tq 27) (cq 42) 3), oq 65 (.assign (tq 66))] ∧
 RG 111 13 [mq 67 7, mq 68 67, .op ⟨some 69, .move (tq 2), some (68, true)⟩, .op ⟨some 70, .call (.mk (.value (.func 137)) #[(tq 69)] #[9]), some (68, true)⟩, oq 71 (.pick (tq 68) (tq 70) (.const (.bool false))), oq 6 (.assign (tq 71))] ∧
 RG 111 14 [oq 73 (.binOp .eql 3 (tq 27) (cq 43) 3), oq 72 (.assign (tq 73))] ∧
 RG 111 15 [oq 74 (.binOp .eql 3 (tq 27) (cq 44) 3), oq 72 (.assign (tq 74))] ∧
 RG 111 16 [mq 75 1, oq 76 (.call (.mk (.value (.func 137)) #[(tq 75)] #[9])), mq 77 76, .op ⟨some 78, .move (tq 8), some (77, true)⟩, oq 79 (.pick (tq 77) (tq 78) (.const (.bool false))), oq 6 (.assign (tq 79))] ∧
 RG 111 17 [oq 81 (.binOp .eql 3 (tq 27) (cq 45) 3), oq 80 (.assign (tq 81))] ∧
 RG 111 18 [mq 82 1, oq 83 (.binOp .eql 9 (tq 82) (sq #[102,51,50]) 9), mq 84 83, .op ⟨some 85, .move (tq 2), some (84, true)⟩, .op ⟨some 86, .binOp .eql 9 (tq 85) (sq #[102,54,52]) 9, some (84, true)⟩, oq 87 (.pick (tq 84) (tq 86) (.const (.bool false))), mq 88 87, .op ⟨some 89, .move (tq 1), some (88, false)⟩, .op ⟨some 90, .binOp .eql 9 (tq 89) (sq #[102,54,52]) 9, some (88, false)⟩, .op ⟨some 91, .move (tq 90), some (88, false)⟩, .op ⟨some 92, .move (tq 2), some (91, true)⟩, .op ⟨some 93, .binOp .eql 9 (tq 92) (sq #[102,51,50]) 9, some (91, true)⟩, .op ⟨some 94, .pick (tq 91) (tq 93) (.const (.bool false)), some (88, false)⟩, oq 95 (.pick (tq 88) (.const (.bool true)) (tq 94)), oq 6 (.assign (tq 95))] ∧
 RG 111 19 [oq 6 (.assign (.const (.bool false)))] := by and_intros <;> exact rgo fun _ => by kernel_rfl
theorem enter111 : ENT 111 96 [.tmp 6] (.seq (Rg 111 0) (.seq (Rg 111 1) (.seq (Rg 111 2) (.seq (Rg 111 3) (.seq (.seq (Rg 111 4) (.block 0 (.seq (.seq (Rg 111 5) (.cond (.tmp 28) .skip (Rg 111 6))) (.cond (.tmp 28) (.seq (Rg 111 7) .ret) (.seq (Rg 111 8) (.cond (.tmp 35) (.seq (Rg 111 9) .ret) (.seq (Rg 111 10) (.cond (.tmp 46) (.seq (Rg 111 11) .ret) (.seq (Rg 111 12) (.cond (.tmp 65) (.seq (Rg 111 13) .ret) (.seq (.seq (Rg 111 14) (.cond (.tmp 72) .skip (Rg 111 15))) (.cond (.tmp 72) (.seq (Rg 111 16) .ret) (.seq (Rg 111 17) (.cond (.tmp 80) (.seq (Rg 111 18) .ret) .skip)))))))))))))) (.seq (Rg 111 19) .ret)))))) := ent Tryz.f111 (by kernel_rfl)
/- bowline/bowlineref11.Form -/
theorem fF109 : RG 109 0 [oq 2 (.assign (cq 0)), oq 3 (.assign (cq 0))] ∧
 RG 109 1 [mq 4 0, oq 5 (.binOp .lss 3 (tq 4) (cq 0) 3), mq 6 5, .op ⟨some 7, .move (tq 0), some (6, false)⟩, .op ⟨some 8, .call (.mk (.value (.func 135)) #[] #[]), some (6, false)⟩, .op ⟨some 9, .call (.mk (.builtin .len) #[(tq 8)] #[182]), some (6, false)⟩, .op ⟨some 10, .binOp .geq 3 (tq 7) (tq 9) 3, some (6, false)⟩, oq 11 (.pick (tq 6) (.const (.bool true)) (tq 10))] ∧
 RG 109 2 [oq 2 (.assign (cq 0)), oq 3 (.assign (cq 8))] ∧
 RG 109 3 [mq 12 0, oq 13 (.call (.mk (.value (.func 136)) #[(tq 12)] #[3])), oq 2 (.assign (tq 13)), oq 3 (.assign (cq 0))] := by and_intros <;> exact rgo fun _ => by kernel_rfl
theorem enter109 : ENT 109 14 [.tmp 2, .tmp 3] (.seq (Rg 109 0) (.seq (.seq (Rg 109 1) (.cond (.tmp 11) (.seq (Rg 109 2) .ret) .skip)) (.seq (Rg 109 3) .ret))) := ent Tryz.f109 (by kernel_rfl)
/- bowline/bowlineref11.IsFloat -/
theorem fF137 : RG 137 0 [oq 2 (.assign (.const (.bool false)))] ∧
 RG 137 1 [mq 3 0, oq 4 (.binOp .eql 9 (tq 3) (sq #[102,51,50]) 9), mq 5 4, .op ⟨some 6, .move (tq 0), some (5, false)⟩, .op ⟨some 7, .binOp .eql 9 (tq 6) (sq #[102,54,52]) 9, some (5, false)⟩, oq 8 (.pick (tq 5) (.const (.bool true)) (tq 7)), oq 2 (.assign (tq 8))] := by and_intros <;> exact rgo fun _ => by kernel_rfl
theorem enter137 : ENT 137 9 [.tmp 2] (.seq (Rg 137 0) (.seq (Rg 137 1) .ret)) := ent Tryz.f137 (by kernel_rfl)
/- bowline/bowlineref11.IsInt -/
theorem fF138 : RG 138 0 [oq 2 (.assign (.const (.bool false)))] ∧
 RG 138 1 [mq 3 0, oq 4 (.call (.mk (.value (.func 168)) #[(tq 3)] #[9])), oq 5 (.binOp .eql 3 (tq 4) (cq 0) 3), oq 2 (.assign (tq 5))] := by and_intros <;> exact rgo fun _ => by kernel_rfl
theorem enter138 : ENT 138 6 [.tmp 2] (.seq (Rg 138 0) (.seq (Rg 138 1) .ret)) := ent Tryz.f138 (by kernel_rfl)
/- bowline/bowlineref11.Takes -/
theorem fF110 : RG 110 0 [oq 4 (.assign (.const (.bool false)))] ∧
 RG 110 1 [mq 9 0, oq 10 (.call (.mk (.value (.func 136)) #[(tq 9)] #[3])), oq 5 (.assign (tq 10))] ∧
 RG 110 2 [mq 11 5, oq 12 (.binOp .eql 3 (tq 11) (cq 0) 3), mq 13 12, .op ⟨some 14, .move (tq 5), some (13, false)⟩, .op ⟨some 15, .binOp .eql 3 (tq 14) (cq 4) 3, some (13, false)⟩, oq 16 (.pick (tq 13) (.const (.bool true)) (tq 15))] ∧
 RG 110 3 [oq 4 (.assign (.const (.bool false)))] ∧
 RG 110 4 [mq 17 1, oq 18 (.call (.mk (.value (.func 137)) #[(tq 17)] #[9]))] ∧
 RG 110 5 [mq 19 0, oq 20 (.binOp .eql 3 (tq 19) (cq 6) 3), mq 21 20, .op ⟨some 22, .move (tq 0), some (21, false)⟩, .op ⟨some 23, .binOp .eql 3 (tq 22) (cq 7) 3, some (21, false)⟩, oq 24 (.pick (tq 21) (.const (.bool true)) (tq 23)), mq 25 24, .op ⟨some 26, .move (tq 0), some (25, false)⟩, .op ⟨some 27, .binOp .eql 3 (tq 26) (cq 8) 3, some (25, false)⟩, oq 28 (.pick (tq 25) (.const (.bool true)) (tq 27)), mq 29 28, .op ⟨some 30, .move (tq 0), some (29, false)⟩, .op ⟨some 31, .binOp .eql 3 (tq 30) (cq 18) 3, some (29, false)⟩, oq 32 (.pick (tq 29) (.const (.bool true)) (tq 31)), mq 33 32, .op ⟨some 34, .move (tq 0), some (33, false)⟩, .op ⟨some 35, .binOp .eql 3 (tq 34) (cq 30) 3, some (33, false)⟩, oq 36 (.pick (tq 33) (.const (.bool true)) (tq 35)), mq 37 36, .op ⟨some 38, .move (tq 0), some (37, false)⟩, .op ⟨some 39, .binOp .geq 3 (tq 38) (cq 34) 3, some (37, false)⟩, .op ⟨some 40, .move (tq 39), some (37, false)⟩, .op ⟨some 41, .move (tq 0), some (40, true)⟩, .op ⟨some 42, .binOp .leq 3 (tq 41) (cq 37) 3, some (40, true)⟩, .op ⟨some 43, .pick (tq 40) (tq 42) (.const (.bool false)), some (37, false)⟩, oq 44 (.pick (tq 37) (.const (.bool true)) (tq 43)), oq 4 (.assign (tq 44))] ∧
 RG 110 6 [mq 45 1, oq 46 (.call (.mk (.value (.func 138)) #[(tq 45)] #[9])), oq 47 (.unOp .not 4 (tq 46))] ∧
 RG 110 7 [oq 4 (.assign (.const (.bool false)))] ∧
 RG 110 8 [mq 49 1, oq 50 (.call (.mk (.value (.func 139)) #[(tq 49)] #[9])), mq 48 50, oq 51 (.extract (tq 48) 0), oq 52 (.extract (tq 48) 1), oq 53 (.extract (tq 48) 2), oq 6 (.assign (tq 51)), oq 7 (.assign (tq 52)), oq 8 (.assign (tq 53))] ∧
 RG 110 9 [mq 54 0, oq 55 (.binOp .geq 3 (tq 54) (cq 46) 3), mq 56 55, .op ⟨some 57, .move (tq 0), some (56, true)⟩, .op ⟨some 58, .binOp .leq 3 (tq 57) (cq 49) 3, some (56, true)⟩, oq 59 (.pick (tq 56) (tq 58) (.const (.bool false)))] ∧
 RG 110 10 [mq 60 7, oq 61 (.unOp .not 4 (tq 60)), mq 62 61, .op ⟨some 63, .move (tq 0), some (62, true)⟩, .op ⟨some 64, .binOp .neq 3 (tq 63) (cq 49) 3, some (62, true)⟩, .op ⟨some 65, .move (tq 64), some (62, true)⟩, .op ⟨some 66, .move (tq 6), some (65, false)⟩, .op ⟨some 67, .binOp .rem 3 (tq 66) (cq 8) 3, some (65, false)⟩, .op ⟨some 68, .binOp .eql 3 (tq 67) (cq 0) 3, some (65, false)⟩, .op ⟨some 69, .pick (tq 65) (.const (.bool true)) (tq 68), some (62, true)⟩, oq 70 (.pick (tq 62) (tq 69) (.const (.bool false))), oq 4 (.assign (tq 70))] ∧
 RG 110 11 [oq 4 (.assign (.const (.bool true)))] := by and_intros <;> exact rgo fun _ => by kernel_rfl
theorem enter110 : ENT 110 71 [.tmp 4] (.seq (Rg 110 0) (.seq (Rg 110 1) (.seq (.seq (Rg 110 2) (.cond (.tmp 16) (.seq (Rg 110 3) .ret) .skip)) (.seq (.seq (Rg 110 4) (.cond (.tmp 18) (.seq (Rg 110 5) .ret) .skip)) (.seq (.seq (Rg 110 6) (.cond (.tmp 47) (.seq (Rg 110 7) .ret) .skip)) (.seq (Rg 110 8) (.seq (.seq (Rg 110 9) (.cond (.tmp 59) (.seq (Rg 110 10) .ret) .skip)) (.seq (Rg 110 11) .ret)))))))) := ent Tryz.f110 (by kernel_rfl)
/- bowline/bowlineref11.Width -/
theorem fF140 : RG 140 0 [oq 2 (.assign (cq 0)), oq 3 (.assign (cq 0))] ∧
 RG 140 1 [mq 7 0] ∧
 RG 140 2 [oq 9 (.binOp .eql 9 (tq 7) (sq #[102,51,50]) 9), oq 8 (.assign (tq 9))] ∧
 RG 140 3 [oq 2 (.assign (cq 32)), oq 3 (.assign (cq 0))] ∧
 RG 140 4 [oq 11 (.binOp .eql 9 (tq 7) (sq #[102,54,52]) 9), oq 10 (.assign (tq 11))] ∧
 RG 140 5 [oq 12 (.binOp .eql 9 (tq 7) (sq #[112,116,114]) 9), oq 10 (.assign (tq 12))] ∧
 RG 140 6 [oq 2 (.assign (cq 64)), oq 3 (.assign (cq 0))] ∧
 RG 140 7 [mq 14 0, oq 15 (.call (.mk (.value (.func 139)) #[(tq 14)] #[9])), mq 13 15, oq 16 (.extract (tq 13) 0), oq 17 (.extract (tq 13) 1), oq 18 (.extract (tq 13) 2), oq 4 (.assign (tq 16)), oq 5 (.assign (tq 17)), oq 6 (.assign (tq 18))] ∧
 RG 140 8 [mq 19 6, oq 20 (.binOp .neq 3 (tq 19) (cq 0) 3)] ∧
 RG 140 9 [oq 2 (.assign (cq 0)), oq 3 (.assign (cq 12))] ∧
 RG 140 10 [mq 21 4, oq 2 (.assign (tq 21)), oq 3 (.assign (cq 0))] := by and_intros <;> exact rgo fun _ => by kernel_rfl
theorem enter140 : ENT 140 22 [.tmp 2, .tmp 3] (.seq (Rg 140 0) (.seq (.seq (Rg 140 1) (.block 0 (.seq (Rg 140 2) (.cond (.tmp 8) (.seq (Rg 140 3) .ret) (.seq (.seq (Rg 140 4) (.cond (.tmp 10) .skip (Rg 140 5))) (.cond (.tmp 10) (.seq (Rg 140 6) .ret) .skip)))))) (.seq (Rg 140 7) (.seq (.seq (Rg 140 8) (.cond (.tmp 20) (.seq (Rg 140 9) .ret) .skip)) (.seq (Rg 140 10) .ret))))) := ent Tryz.f140 (by kernel_rfl)
/- bowline/bowlineref11.form -/
theorem fF136 : RG 136 0 [oq 2 (.assign (cq 0))] ∧
 RG 136 1 [mq 4 0, oq 5 (.binOp .eql 3 (tq 4) (cq 29) 3), mq 6 5, .op ⟨some 7, .move (tq 0), some (6, false)⟩, .op ⟨some 8, .binOp .eql 3 (tq 7) (cq 30) 3, some (6, false)⟩, oq 9 (.pick (tq 6) (.const (.bool true)) (tq 8)), mq 10 9, .op ⟨some 11, .move (tq 0), some (10, false)⟩, .op ⟨some 12, .binOp .eql 3 (tq 11) (cq 31) 3, some (10, false)⟩, oq 13 (.pick (tq 10) (.const (.bool true)) (tq 12)), mq 14 13, .op ⟨some 15, .move (tq 0), some (14, false)⟩, .op ⟨some 16, .binOp .geq 3 (tq 15) (cq 46) 3, some (14, false)⟩, .op ⟨some 17, .move (tq 16), some (14, false)⟩, .op ⟨some 18, .move (tq 0), some (17, true)⟩, .op ⟨some 19, .binOp .leq 3 (tq 18) (cq 49) 3, some (17, true)⟩, .op ⟨some 20, .pick (tq 17) (tq 19) (.const (.bool false)), some (14, false)⟩, oq 21 (.pick (tq 14) (.const (.bool true)) (tq 20)), oq 3 (.assign (tq 21))] ∧
 RG 136 2 [oq 2 (.assign (cq 1))] ∧
 RG 136 3 [mq 23 0, oq 24 (.binOp .geq 3 (tq 23) (cq 15) 3), mq 25 24, .op ⟨some 26, .move (tq 0), some (25, true)⟩, .op ⟨some 27, .binOp .leq 3 (tq 26) (cq 17) 3, some (25, true)⟩, oq 28 (.pick (tq 25) (tq 27) (.const (.bool false))), mq 29 28, .op ⟨some 30, .move (tq 0), some (29, false)⟩, .op ⟨some 31, .binOp .geq 3 (tq 30) (cq 34) 3, some (29, false)⟩, .op ⟨some 32, .move (tq 31), some (29, false)⟩, .op ⟨some 33, .move (tq 0), some (32, true)⟩, .op ⟨some 34, .binOp .leq 3 (tq 33) (cq 37) 3, some (32, true)⟩, .op ⟨some 35, .pick (tq 32) (tq 34) (.const (.bool false)), some (29, false)⟩, oq 36 (.pick (tq 29) (.const (.bool true)) (tq 35)), oq 22 (.assign (tq 36))] ∧
 RG 136 4 [oq 2 (.assign (cq 3))] ∧
 RG 136 5 [mq 38 0, oq 39 (.binOp .geq 3 (tq 38) (cq 6) 3), mq 40 39, .op ⟨some 41, .move (tq 0), some (40, true)⟩, .op ⟨some 42, .binOp .leq 3 (tq 41) (cq 33) 3, some (40, true)⟩, oq 43 (.pick (tq 40) (tq 42) (.const (.bool false))), oq 37 (.assign (tq 43))] ∧
 RG 136 6 [oq 2 (.assign (cq 2))] ∧
 RG 136 7 [mq 45 0, oq 46 (.binOp .geq 3 (tq 45) (cq 38) 3), mq 47 46, .op ⟨some 48, .move (tq 0), some (47, true)⟩, .op ⟨some 49, .binOp .leq 3 (tq 48) (cq 45) 3, some (47, true)⟩, oq 50 (.pick (tq 47) (tq 49) (.const (.bool false))), oq 44 (.assign (tq 50))] ∧
 RG 136 8 [oq 2 (.assign (cq 4))] ∧
 RG 136 9 [oq 2 (.assign (cq 0))] := by and_intros <;> exact rgo fun _ => by kernel_rfl
theorem enter136 : ENT 136 51 [.tmp 2] (.seq (Rg 136 0) (.seq (.block 0 (.seq (Rg 136 1) (.cond (.tmp 3) (.seq (Rg 136 2) .ret) (.seq (Rg 136 3) (.cond (.tmp 22) (.seq (Rg 136 4) .ret) (.seq (Rg 136 5) (.cond (.tmp 37) (.seq (Rg 136 6) .ret) (.seq (Rg 136 7) (.cond (.tmp 44) (.seq (Rg 136 8) .ret) .skip))))))))) (.seq (Rg 136 9) .ret))) := ent Tryz.f136 (by kernel_rfl)
/- bowline/bowlineref11.names -/
theorem fF135 : RG 135 0 [oq 0 (.assign (.const (.slice none 0 0)))] ∧
 RG 135 1 [oq 1 (.buildSlice 182 70 #[(0, (sq #[99,111,110,115,116])), (1, (sq #[117,110,100,101,102])), (2, (sq #[110,117,108,108])), (3, (sq #[103,108,111,98,97,108])), (4, (sq #[115,108,111,116])), (5, (sq #[109,111,118,101])), (6, (sq #[97,100,100])), (7, (sq #[115,117,98])), (8, (sq #[109,117,108])), (9, (sq #[97,100,100,119,114,97,112])), (10, (sq #[115,117,98,119,114,97,112])), (11, (sq #[109,117,108,119,114,97,112])), (12, (sq #[97,100,100,115,97,116])), (13, (sq #[115,117,98,115,97,116])), (14, (sq #[109,117,108,115,97,116])), (15, (sq #[97,100,100,111,118,101,114])), (16, (sq #[115,117,98,111,118,101,114])), (17, (sq #[109,117,108,111,118,101,114])), (18, (sq #[100,105,118])), (19, (sq #[100,105,118,102,108,111,111,114])), (20, (sq #[100,105,118,101,120,97,99,116])), (21, (sq #[114,101,109])), (22, (sq #[109,111,100])), (23, (sq #[115,104,108])), (24, (sq #[115,104,108,101,120,97,99,116])), (25, (sq #[115,104,114])), (26, (sq #[97,110,100])), (27, (sq #[111,114])), (28, (sq #[120,111,114])), (29, (sq #[110,111,116])), (30, (sq #[110,101,103])), (31, (sq #[110,101,103,119,114,97,112])), (32, (sq #[109,105,110])), (33, (sq #[109,97,120])), (34, (sq #[101,113])), (35, (sq #[110,101])), (36, (sq #[108,116])), (37, (sq #[108,101])), (38, (sq #[102,105,116])), (39, (sq #[102,105,116,115])), (40, (sq #[116,114,117,110,99])), (41, (sq #[98,105,116,115])), (42, (sq #[116,111,102,108,111,97,116])), (43, (sq #[116,111,105,110,116])), (44, (sq #[116,111,102,105,116,115])), (45, (sq #[114,111,117,110,100])), (46, (sq #[112,111,112,99,111,117,110,116])), (47, (sq #[99,108,122])), (48, (sq #[99,116,122])), (49, (sq #[98,121,116,101,115,119,97,112])), (50, (sq #[108,111,97,100])), (51, (sq #[115,116,111,114,101])), (52, (sq #[111,102,102,115,101,116])), (53, (sq #[105,110,100,101,120])), (54, (sq #[99,111,112,121])), (55, (sq #[101,114,97,115,101])), (56, (sq #[97,108,108,111,99])), (57, (sq #[102,114,101,101])), (58, (sq #[99,97,108,108])), (59, (sq #[97,115,115,117,109,101])), (60, (sq #[111,117,116])), (61, (sq #[111,117,116,98,121,116,101,115])), (62, (sq #[116,114,97,99,101])), (63, (sq #[102,111,114,103,101,116])), (64, (sq #[106,117,109,112])), (65, (sq #[98,114,97,110,99,104])), (66, (sq #[115,119,105,116,99,104])), (67, (sq #[114,101,116,117,114,110])), (68, (sq #[117,110,114,101,97,99,104,97,98,108,101])), (69, (sq #[112,97,110,105,99]))]), oq 0 (.assign (tq 1))] := by and_intros <;> exact rgo fun _ => by kernel_rfl
theorem enter135 : ENT 135 2 [.tmp 0] (.seq (Rg 135 0) (.seq (Rg 135 1) .ret)) := ent Tryz.f135 (by kernel_rfl)
/- bowline/bowlineref12.Bits -/
theorem fF79 : RG 79 0 [oq 2 (.assign (cq 0))] ∧
 RG 79 1 [mq 5 0, oq 6 (.binOp .eql 9 (tq 5) (sq #[102,51,50]) 9)] ∧
 RG 79 2 [oq 2 (.assign (cq 32))] ∧
 RG 79 3 [mq 7 0, oq 8 (.binOp .eql 9 (tq 7) (sq #[102,54,52]) 9), mq 9 8, .op ⟨some 10, .move (tq 0), some (9, false)⟩, .op ⟨some 11, .binOp .eql 9 (tq 10) (sq #[112,116,114]) 9, some (9, false)⟩, oq 12 (.pick (tq 9) (.const (.bool true)) (tq 11))] ∧
 RG 79 4 [oq 2 (.assign (cq 64))] ∧
 RG 79 5 [mq 14 0, oq 15 (.call (.mk (.value (.func 112)) #[(tq 14)] #[9])), mq 13 15, oq 16 (.extract (tq 13) 0), oq 17 (.extract (tq 13) 1), oq 3 (.assign (tq 16)), oq 4 (.assign (tq 17))] ∧
 RG 79 6 [mq 18 3, oq 2 (.assign (tq 18))] := by and_intros <;> exact rgo fun _ => by kernel_rfl
theorem enter79 : ENT 79 19 [.tmp 2] (.seq (Rg 79 0) (.seq (.seq (Rg 79 1) (.cond (.tmp 6) (.seq (Rg 79 2) .ret) .skip)) (.seq (.seq (Rg 79 3) (.cond (.tmp 12) (.seq (Rg 79 4) .ret) .skip)) (.seq (Rg 79 5) (.seq (Rg 79 6) .ret))))) := ent Tryz.f79 (by kernel_rfl)
/- bowline/bowlineref12.IsAlign -/
theorem fF108 : RG 108 0 [oq 2 (.assign (.const (.bool false)))] ∧
 RG 108 1 [mq 3 0, oq 4 (.binOp .eql 3 (tq 3) (cq 1) 3), mq 5 4, .op ⟨some 6, .move (tq 0), some (5, false)⟩, .op ⟨some 7, .binOp .eql 3 (tq 6) (cq 2) 3, some (5, false)⟩, oq 8 (.pick (tq 5) (.const (.bool true)) (tq 7)), mq 9 8, .op ⟨some 10, .move (tq 0), some (9, false)⟩, .op ⟨some 11, .binOp .eql 3 (tq 10) (cq 4) 3, some (9, false)⟩, oq 12 (.pick (tq 9) (.const (.bool true)) (tq 11)), mq 13 12, .op ⟨some 14, .move (tq 0), some (13, false)⟩, .op ⟨some 15, .binOp .eql 3 (tq 14) (cq 8) 3, some (13, false)⟩, oq 16 (.pick (tq 13) (.const (.bool true)) (tq 15)), mq 17 16, .op ⟨some 18, .move (tq 0), some (17, false)⟩, .op ⟨some 19, .binOp .eql 3 (tq 18) (cq 16) 3, some (17, false)⟩, oq 20 (.pick (tq 17) (.const (.bool true)) (tq 19)), oq 2 (.assign (tq 20))] := by and_intros <;> exact rgo fun _ => by kernel_rfl
theorem enter108 : ENT 108 21 [.tmp 2] (.seq (Rg 108 0) (.seq (Rg 108 1) .ret)) := ent Tryz.f108 (by kernel_rfl)
/- bowline/bowlineref12.Size -/
theorem fF78 : RG 78 0 [oq 2 (.assign (cq 0)), oq 3 (.assign (cq 0))] ∧
 RG 78 1 [mq 6 0] ∧
 RG 78 2 [oq 8 (.binOp .eql 9 (tq 6) (sq #[102,51,50]) 9), oq 7 (.assign (tq 8))] ∧
 RG 78 3 [oq 2 (.assign (cq 4)), oq 3 (.assign (cq 0))] ∧
 RG 78 4 [oq 10 (.binOp .eql 9 (tq 6) (sq #[102,54,52]) 9), oq 9 (.assign (tq 10))] ∧
 RG 78 5 [oq 11 (.binOp .eql 9 (tq 6) (sq #[112,116,114]) 9), oq 9 (.assign (tq 11))] ∧
 RG 78 6 [oq 2 (.assign (cq 8)), oq 3 (.assign (cq 0))] ∧
 RG 78 7 [mq 13 0, oq 14 (.call (.mk (.value (.func 112)) #[(tq 13)] #[9])), mq 12 14, oq 15 (.extract (tq 12) 0), oq 16 (.extract (tq 12) 1), oq 4 (.assign (tq 15)), oq 5 (.assign (tq 16))] ∧
 RG 78 8 [mq 17 5, oq 18 (.unOp .not 4 (tq 17))] ∧
 RG 78 9 [oq 2 (.assign (cq 0)), oq 3 (.assign (cq 12))] ∧
 RG 78 10 [mq 19 4, oq 20 (.binOp .add 3 (tq 19) (cq 7) 3), oq 21 (.binOp .quo 3 (tq 20) (cq 8) 3), oq 2 (.assign (tq 21)), oq 3 (.assign (cq 0))] := by and_intros <;> exact rgo fun _ => by kernel_rfl
theorem enter78 : ENT 78 22 [.tmp 2, .tmp 3] (.seq (Rg 78 0) (.seq (.seq (Rg 78 1) (.block 0 (.seq (Rg 78 2) (.cond (.tmp 7) (.seq (Rg 78 3) .ret) (.seq (.seq (Rg 78 4) (.cond (.tmp 9) .skip (Rg 78 5))) (.cond (.tmp 9) (.seq (Rg 78 6) .ret) .skip)))))) (.seq (Rg 78 7) (.seq (.seq (Rg 78 8) (.cond (.tmp 18) (.seq (Rg 78 9) .ret) .skip)) (.seq (Rg 78 10) .ret))))) := ent Tryz.f78 (by kernel_rfl)
/- bowline/bowlineref12.width -/
theorem fF112 : RG 112 0 [oq 2 (.assign (cq 0)), oq 3 (.assign (.const (.bool false)))] ∧
 RG 112 1 [mq 6 0, oq 7 (.call (.mk (.builtin .len) #[(tq 6)] #[9])), oq 8 (.binOp .lss 3 (tq 7) (cq 2) 3), mq 9 8, .op ⟨some 10, .move (tq 0), some (9, false)⟩, .op ⟨some 11, .index 9 (tq 10) (cq 0), some (9, false)⟩, .op ⟨some 12, .binOp .neq 5 (tq 11) (.const (.int .u8 117)) 5, some (9, false)⟩, .op ⟨some 13, .move (tq 12), some (9, false)⟩, .op ⟨some 14, .move (tq 0), some (13, true)⟩, .op ⟨some 15, .index 9 (tq 14) (cq 0), some (13, true)⟩, .op ⟨some 16, .binOp .neq 5 (tq 15) (.const (.int .u8 105)) 5, some (13, true)⟩, .op ⟨some 17, .pick (tq 13) (tq 16) (.const (.bool false)), some (9, false)⟩, oq 18 (.pick (tq 9) (.const (.bool true)) (tq 17))] ∧
 RG 112 2 [oq 2 (.assign (cq 0)), oq 3 (.assign (.const (.bool false)))] ∧
 RG 112 3 [mq 20 0, oq 21 (.slice 9 (tq 20) (some (cq 1)) none none), oq 22 (.call (.mk (.value (.func 141)) #[(tq 21)] #[9])), mq 19 22, oq 23 (.extract (tq 19) 0), oq 24 (.extract (tq 19) 1), oq 4 (.assign (tq 23)), oq 5 (.assign (tq 24))] ∧
 RG 112 4 [mq 25 4, mq 26 5, mq 27 26, .op ⟨some 28, .move (tq 4), some (27, true)⟩, .op ⟨some 29, .binOp .leq 3 (tq 28) (cq 64) 3, some (27, true)⟩, oq 30 (.pick (tq 27) (tq 29) (.const (.bool false))), mq 31 30, .op ⟨some 32, .move (tq 4), some (31, true)⟩, .op ⟨some 33, .binOp .gtr 3 (tq 32) (cq 0) 3, some (31, true)⟩, .op ⟨some 34, .move (tq 33), some (31, true)⟩, .op ⟨some 35, .move (tq 0), some (34, false)⟩, .op ⟨some 36, .index 9 (tq 35) (cq 0), some (34, false)⟩, .op ⟨some 37, .binOp .eql 5 (tq 36) (.const (.int .u8 117)) 5, some (34, false)⟩, .op ⟨some 38, .pick (tq 34) (.const (.bool true)) (tq 37), some (31, true)⟩, oq 39 (.pick (tq 31) (tq 38) (.const (.bool false))), oq 2 (.assign (tq 25)), oq 3 (.assign (tq 39)), .chk []] := by and_intros <;> exact rgo fun _ => by kernel_rfl
theorem enter112 : ENT 112 40 [.tmp 2, .tmp 3] (.seq (Rg 112 0) (.seq (.seq (Rg 112 1) (.cond (.tmp 18) (.seq (Rg 112 2) .ret) .skip)) (.seq (Rg 112 3) (.seq (Rg 112 4) .ret)))) := ent Tryz.f112 (by kernel_rfl)
/- bowline/bowlineref24.Code -/
theorem fF43 : RG 43 0 [oq 2 (.assign (cq 0)), oq 3 (.assign (cq 0))] ∧
 RG 43 1 [mq 7 0] ∧
 RG 43 2 [oq 9 (.binOp .eql 9 (tq 7) (sq #[]) 9), oq 8 (.assign (tq 9))] ∧
 RG 43 3 [oq 2 (.assign (cq 255)), oq 3 (.assign (cq 0))] ∧
 RG 43 4 [oq 11 (.binOp .eql 9 (tq 7) (sq #[102,51,50]) 9), oq 10 (.assign (tq 11))] ∧
 RG 43 5 [oq 2 (.assign (cq 129)), oq 3 (.assign (cq 0))] ∧
 RG 43 6 [oq 13 (.binOp .eql 9 (tq 7) (sq #[102,54,52]) 9), oq 12 (.assign (tq 13))] ∧
 RG 43 7 [oq 2 (.assign (cq 130)), oq 3 (.assign (cq 0))] ∧
 RG 43 8 [oq 15 (.binOp .eql 9 (tq 7) (sq #[112,116,114]) 9), oq 14 (.assign (tq 15))] ∧
 RG 43 9 [oq 2 (.assign (cq 131)), oq 3 (.assign (cq 0))] ∧
 RG 43 10 [mq 17 0, oq 18 (.call (.mk (.value (.func 78)) #[(tq 17)] #[9])), mq 16 18, oq 19 (.extract (tq 16) 0), oq 20 (.extract (tq 16) 1), oq 4 (.assign (tq 19)), oq 5 (.assign (tq 20))] ∧
 RG 43 11 [mq 21 5, oq 22 (.binOp .neq 3 (tq 21) (cq 0) 3)] ∧
 RG 43 12 [oq 2 (.assign (cq 0)), oq 3 (.assign (cq 12))] ∧
 RG 43 13 [mq 23 0, oq 24 (.call (.mk (.value (.func 79)) #[(tq 23)] #[9])), oq 6 (.assign (tq 24))] ∧
 RG 43 14 [mq 25 0, oq 26 (.index 9 (tq 25) (cq 0)), oq 27 (.binOp .eql 5 (tq 26) (.const (.int .u8 105)) 5)] ∧
 RG 43 15 [mq 28 6, oq 29 (.binOp .add 3 (cq 64) (tq 28) 3), oq 2 (.assign (tq 29)), oq 3 (.assign (cq 0))] ∧
 RG 43 16 [mq 30 6, oq 2 (.assign (tq 30)), oq 3 (.assign (cq 0))] := by and_intros <;> exact rgo fun _ => by kernel_rfl
theorem enter43 : ENT 43 31 [.tmp 2, .tmp 3] (.seq (Rg 43 0) (.seq (.seq (Rg 43 1) (.block 0 (.seq (Rg 43 2) (.cond (.tmp 8) (.seq (Rg 43 3) .ret) (.seq (Rg 43 4) (.cond (.tmp 10) (.seq (Rg 43 5) .ret) (.seq (Rg 43 6) (.cond (.tmp 12) (.seq (Rg 43 7) .ret) (.seq (Rg 43 8) (.cond (.tmp 14) (.seq (Rg 43 9) .ret) .skip)))))))))) (.seq (.seq (Rg 43 10) (.seq (Rg 43 11) (.cond (.tmp 22) (.seq (Rg 43 12) .ret) .skip))) (.seq (Rg 43 13) (.seq (.seq (Rg 43 14) (.cond (.tmp 27) (.seq (Rg 43 15) .ret) .skip)) (.seq (Rg 43 16) .ret)))))) := ent Tryz.f43 (by kernel_rfl)
/- bowline/bowlineref24.IsImm -/
theorem fF107 : RG 107 0 [oq 2 (.assign (.const (.bool false)))] ∧
 RG 107 1 [mq 3 0, oq 4 (.binOp .geq 3 (tq 3) (cq (-2147483648)) 3), mq 5 4, .op ⟨some 6, .move (tq 0), some (5, true)⟩, .op ⟨some 7, .binOp .leq 3 (tq 6) (cq 2147483647) 3, some (5, true)⟩, oq 8 (.pick (tq 5) (tq 7) (.const (.bool false))), oq 2 (.assign (tq 8))] := by and_intros <;> exact rgo fun _ => by kernel_rfl
theorem enter107 : ENT 107 9 [.tmp 2] (.seq (Rg 107 0) (.seq (Rg 107 1) .ret)) := ent Tryz.f107 (by kernel_rfl)
/- bowline/bowlineref24.Little -/
theorem r53_0 : RG 53 0 [oq 2 (.assign (.const (.int .u64 0)))] := rgo fun _ => by kernel_rfl
theorem r53_1 : RG 53 1 [oq 3 (.assign (.const (.int .u64 0)))] := rgo fun _ => by kernel_rfl
theorem r53_2 : RG 53 2 [oq 4 (.assign (cq 0))] := rgo fun _ => by kernel_rfl
theorem r53_3 : RG 53 3 [mq 5 4, mq 6 0, oq 7 (.call (.mk (.builtin .len) #[(tq 6)] #[23])), oq 8 (.binOp .lss 3 (tq 5) (tq 7) 3)] := rgo fun _ => by kernel_rfl
theorem r53_5 : RG 53 5 [mq 11 3, mq 12 0, mq 13 4, oq 14 (.indexAddr 23 (tq 12) (tq 13)), oq 15 (.load 5 (tq 14)), oq 16 (.convert 5 42 (tq 15)), mq 17 4, oq 18 (.binOp .mul 3 (cq 8) (tq 17) 3), oq 19 (.binOp .shl 42 (tq 16) (tq 18) 3), oq 20 (.binOp .or 42 (tq 11) (tq 19) 42), oq 3 (.assign (tq 20))] := rgo fun _ => by kernel_rfl
theorem r53_4 : RG 53 4 [mq 9 4, oq 10 (.binOp .add 3 (tq 9) (cq 1) 3), oq 4 (.assign (tq 10))] := rgo fun _ => by kernel_rfl
theorem r53_6 : RG 53 6 [mq 21 3, oq 2 (.assign (tq 21))] := rgo fun _ => by kernel_rfl
def fF53 := And.intro r53_0 <| And.intro r53_1 <| And.intro r53_2 <| And.intro r53_3 <| And.intro r53_5 <| And.intro r53_4 <| r53_6
theorem enter53 : ENT 53 22 [.tmp 2] (.seq (Rg 53 0) (.seq (Rg 53 1) (.seq (.seq (Rg 53 2) (.block 0 (.loop (.seq (.seq (Rg 53 3) (.cond (.tmp 8) .skip (Code.exit 0))) (.seq (.block 1 (Rg 53 5)) (Rg 53 4)))))) (.seq (Rg 53 6) .ret)))) := ent Tryz.f53 (by kernel_rfl)
/- bowline/bowlineref24.Signed -/
theorem fF51 : RG 51 0 [oq 2 (.assign (cq 0))] ∧
 RG 51 1 [mq 3 0, oq 4 (.call (.mk (.value (.func 53)) #[(tq 3)] #[23])), oq 5 (.convert 42 154 (tq 4)), oq 6 (.convert 154 21 (tq 5)), oq 7 (.convert 21 3 (tq 6)), oq 2 (.assign (tq 7))] := by and_intros <;> exact rgo fun _ => by kernel_rfl
theorem enter51 : ENT 51 8 [.tmp 2] (.seq (Rg 51 0) (.seq (Rg 51 1) .ret)) := ent Tryz.f51 (by kernel_rfl)
/- bowline/bowlineref24.Typed -/
theorem fF85 : RG 85 0 [oq 2 (.assign (sq #[])), oq 3 (.assign (.const (.bool false)))] ∧
 RG 85 1 [mq 5 0, oq 6 (.binOp .eql 3 (tq 5) (cq 255) 3), oq 4 (.assign (tq 6))] ∧
 RG 85 2 [oq 2 (.assign (sq #[])), oq 3 (.assign (.const (.bool true)))] ∧
 RG 85 3 [mq 8 0, oq 9 (.binOp .geq 3 (tq 8) (cq 0) 3), mq 10 9, .op ⟨some 11, .move (tq 0), some (10, true)⟩, .op ⟨some 12, .binOp .leq 3 (tq 11) (cq 64) 3, some (10, true)⟩, oq 13 (.pick (tq 10) (tq 12) (.const (.bool false))), oq 7 (.assign (tq 13))] ∧
 RG 85 4 [mq 14 0, oq 15 (.call (.mk (.value (.func 114)) #[(tq 14)] #[3])), oq 16 (.binOp .add 9 (sq #[117]) (tq 15) 9), oq 2 (.assign (tq 16)), oq 3 (.assign (.const (.bool true)))] ∧
 RG 85 5 [mq 18 0, oq 19 (.binOp .geq 3 (tq 18) (cq 65) 3), mq 20 19, .op ⟨some 21, .move (tq 0), some (20, true)⟩, .op ⟨some 22, .binOp .leq 3 (tq 21) (cq 128) 3, some (20, true)⟩, oq 23 (.pick (tq 20) (tq 22) (.const (.bool false))), oq 17 (.assign (tq 23))] ∧
 RG 85 6 [mq 24 0, oq 25 (.binOp .sub 3 (tq 24) (cq 64) 3), oq 26 (.call (.mk (.value (.func 114)) #[(tq 25)] #[3])), oq 27 (.binOp .add 9 (sq #[105]) (tq 26) 9), oq 2 (.assign (tq 27)), oq 3 (.assign (.const (.bool true)))] ∧
 RG 85 7 [mq 29 0, oq 30 (.binOp .eql 3 (tq 29) (cq 129) 3), oq 28 (.assign (tq 30))] ∧
 RG 85 8 [oq 2 (.assign (sq #[102,51,50])), oq 3 (.assign (.const (.bool true)))] ∧
 RG 85 9 [mq 32 0, oq 33 (.binOp .eql 3 (tq 32) (cq 130) 3), oq 31 (.assign (tq 33))] ∧
 RG 85 10 [oq 2 (.assign (sq #[102,54,52])), oq 3 (.assign (.const (.bool true)))] ∧
 RG 85 11 [mq 35 0, oq 36 (.binOp .eql 3 (tq 35) (cq 131) 3), oq 34 (.assign (tq 36))] ∧
 RG 85 12 [oq 2 (.assign (sq #[112,116,114])), oq 3 (.assign (.const (.bool true)))] ∧
 RG 85 13 [oq 2 (.assign (sq #[])), oq 3 (.assign (.const (.bool false)))] := by and_intros <;> exact rgo fun _ => by kernel_rfl
theorem enter85 : ENT 85 37 [.tmp 2, .tmp 3] (.seq (Rg 85 0) (.seq (.block 0 (.seq (Rg 85 1) (.cond (.tmp 4) (.seq (Rg 85 2) .ret) (.seq (Rg 85 3) (.cond (.tmp 7) (.seq (Rg 85 4) .ret) (.seq (Rg 85 5) (.cond (.tmp 17) (.seq (Rg 85 6) .ret) (.seq (Rg 85 7) (.cond (.tmp 28) (.seq (Rg 85 8) .ret) (.seq (Rg 85 9) (.cond (.tmp 31) (.seq (Rg 85 10) .ret) (.seq (Rg 85 11) (.cond (.tmp 34) (.seq (Rg 85 12) .ret) .skip))))))))))))) (.seq (Rg 85 13) .ret))) := ent Tryz.f85 (by kernel_rfl)
/- bowline/bowlineref26.Check -/
theorem r41_0 : RG 41 0 [oq 1 (.box 44 (tq 0)), oq 2 (.assign (cq 0))] := rgo fun _ => by kernel_rfl
theorem r41_1 : RG 41 1 [oq 7 (.fieldAddr 44 (tq 1) 0), oq 8 (.load 3 (tq 7)), oq 9 (.binOp .lss 3 (tq 8) (cq 0) 3), mq 10 9, .op ⟨some 11, .fieldAddr 44 (tq 1) 0, some (10, false)⟩, .op ⟨some 12, .load 3 (tq 11), some (10, false)⟩, .op ⟨some 13, .binOp .geq 3 (tq 12) (cq 29) 3, some (10, false)⟩, oq 14 (.pick (tq 10) (.const (.bool true)) (tq 13))] := rgo fun _ => by kernel_rfl
theorem r41_2 : RG 41 2 [oq 2 (.assign (cq 11))] := rgo fun _ => by kernel_rfl
theorem r41_3 : RG 41 3 [oq 15 (.fieldAddr 44 (tq 1) 0), oq 16 (.load 3 (tq 15)), oq 17 (.call (.mk (.value (.func 42)) #[(tq 16)] #[3])), oq 3 (.alloc 117), .op ⟨none, .store 117 (tq 3) (tq 17), none⟩] := rgo fun _ => by kernel_rfl
theorem r41_4 : RG 41 4 [oq 18 (.load 117 (tq 3)), oq 19 (.call (.mk (.value (.func 73)) #[(tq 18), (.const (.int .u8 101))] #[117,5])), oq 4 (.assign (tq 19))] := rgo fun _ => by kernel_rfl
theorem r41_5 : RG 41 5 [oq 20 (.fieldAddr 44 (tq 1) 1), oq 21 (.load 9 (tq 20)), oq 22 (.load 117 (tq 3)), oq 25 (.fieldAddr 44 (tq 1) 2), oq 26 (.load 9 (tq 25)), oq 27 (.load 117 (tq 3)), .chk [⟨some 21, .load 9 (tq 20), none⟩, ⟨some 22, .load 117 (tq 3), none⟩, ⟨some 26, .load 9 (tq 25), none⟩, ⟨some 27, .load 117 (tq 3), none⟩], oq 23 (.call (.mk (.value (.func 73)) #[(tq 22), (.const (.int .u8 116))] #[117,5])), .chk [⟨some 21, .load 9 (tq 20), none⟩, ⟨some 26, .load 9 (tq 25), none⟩, ⟨some 27, .load 117 (tq 3), none⟩], oq 24 (.call (.mk (.value (.func 75)) #[(tq 21), (tq 23)] #[9,4])), .chk [⟨some 26, .load 9 (tq 25), none⟩, ⟨some 27, .load 117 (tq 3), none⟩], oq 28 (.call (.mk (.value (.func 73)) #[(tq 27), (.const (.int .u8 117))] #[117,5])), .chk [⟨some 26, .load 9 (tq 25), none⟩], oq 29 (.call (.mk (.value (.func 75)) #[(tq 26), (tq 28)] #[9,4])), oq 30 (.buildSlice 48 2 #[(0, (tq 24)), (1, (tq 29))]), .chk [], oq 31 (.call (.mk (.value (.func 74)) #[(tq 30)] #[48])), oq 5 (.assign (tq 31)), .chk []] := rgo fun _ => by kernel_rfl
theorem r41_6 : RG 41 6 [mq 32 5, oq 33 (.binOp .neq 3 (tq 32) (cq 0) 3)] := rgo fun _ => by kernel_rfl
theorem r41_7 : RG 41 7 [mq 34 5, oq 2 (.assign (tq 34))] := rgo fun _ => by kernel_rfl
theorem r41_8 : RG 41 8 [oq 35 (.load 117 (tq 3)), oq 36 (.call (.mk (.value (.func 73)) #[(tq 35), (.const (.int .u8 110))] #[117,5])), oq 37 (.unOp .not 4 (tq 36)), mq 38 37, .op ⟨some 39, .load 117 (tq 3), some (38, true)⟩, .op ⟨some 40, .call (.mk (.value (.func 73)) #[(tq 39), (.const (.int .u8 119))] #[117,5]), some (38, true)⟩, .op ⟨some 41, .unOp .not 4 (tq 40), some (38, true)⟩, oq 42 (.pick (tq 38) (tq 41) (.const (.bool false))), mq 43 42, .op ⟨some 44, .move (tq 4), some (43, true)⟩, .op ⟨some 45, .unOp .not 4 (tq 44), some (43, true)⟩, oq 46 (.pick (tq 43) (tq 45) (.const (.bool false))), mq 47 46, .op ⟨some 48, .fieldAddr 44 (tq 1) 3, some (47, true)⟩, .op ⟨some 49, .load 42 (tq 48), some (47, true)⟩, .op ⟨some 50, .binOp .neq 42 (tq 49) (.const (.int .u64 0)) 42, some (47, true)⟩, oq 51 (.pick (tq 47) (tq 50) (.const (.bool false))), mq 52 51, .op ⟨some 53, .load 117 (tq 3), some (52, false)⟩, .op ⟨some 54, .call (.mk (.value (.func 73)) #[(tq 53), (.const (.int .u8 115))] #[117,5]), some (52, false)⟩, .op ⟨some 55, .unOp .not 4 (tq 54), some (52, false)⟩, .op ⟨some 56, .move (tq 55), some (52, false)⟩, .op ⟨some 57, .load 117 (tq 3), some (56, true)⟩, .op ⟨some 58, .call (.mk (.value (.func 73)) #[(tq 57), (.const (.int .u8 100))] #[117,5]), some (56, true)⟩, .op ⟨some 59, .unOp .not 4 (tq 58), some (56, true)⟩, .op ⟨some 60, .pick (tq 56) (tq 59) (.const (.bool false)), some (52, false)⟩, .op ⟨some 61, .move (tq 60), some (52, false)⟩, .op ⟨some 62, .move (tq 4), some (61, true)⟩, .op ⟨some 63, .unOp .not 4 (tq 62), some (61, true)⟩, .op ⟨some 64, .pick (tq 61) (tq 63) (.const (.bool false)), some (52, false)⟩, .op ⟨some 65, .move (tq 64), some (52, false)⟩, .op ⟨some 66, .fieldAddr 44 (tq 1) 4, some (65, true)⟩, .op ⟨some 67, .load 3 (tq 66), some (65, true)⟩, .op ⟨some 68, .binOp .neq 3 (tq 67) (cq 0) 3, some (65, true)⟩, .op ⟨some 69, .pick (tq 65) (tq 68) (.const (.bool false)), some (52, false)⟩, oq 70 (.pick (tq 52) (.const (.bool true)) (tq 69)), mq 71 70, .op ⟨some 72, .move (tq 4), some (71, false)⟩, .op ⟨some 73, .unOp .not 4 (tq 72), some (71, false)⟩, .op ⟨some 74, .move (tq 73), some (71, false)⟩, .op ⟨some 75, .fieldAddr 44 (tq 1) 5, some (74, true)⟩, .op ⟨some 76, .load 3 (tq 75), some (74, true)⟩, .op ⟨some 77, .binOp .neq 3 (tq 76) (cq 0) 3, some (74, true)⟩, .op ⟨some 78, .pick (tq 74) (tq 77) (.const (.bool false)), some (71, false)⟩, oq 79 (.pick (tq 71) (.const (.bool true)) (tq 78))] := rgo fun _ => by kernel_rfl
theorem r41_9 : RG 41 9 [oq 2 (.assign (cq 1))] := rgo fun _ => by kernel_rfl
theorem r41_10 : RG 41 10 [oq 80 (.load 44 (tq 1)), oq 81 (.call (.mk (.value (.func 76)) #[(tq 80)] #[44])), oq 6 (.assign (tq 81))] := rgo fun _ => by kernel_rfl
theorem r41_11 : RG 41 11 [mq 82 6, oq 83 (.binOp .neq 3 (tq 82) (cq 0) 3)] := rgo fun _ => by kernel_rfl
theorem r41_12 : RG 41 12 [mq 84 6, oq 2 (.assign (tq 84))] := rgo fun _ => by kernel_rfl
theorem r41_13 : RG 41 13 [oq 85 (.load 44 (tq 1)), oq 86 (.call (.mk (.value (.func 77)) #[(tq 85)] #[44])), oq 2 (.assign (tq 86))] := rgo fun _ => by kernel_rfl
def fF41 := And.intro r41_0 <| And.intro r41_1 <| And.intro r41_2 <| And.intro r41_3 <| And.intro r41_4 <| And.intro r41_5 <| And.intro r41_6 <| And.intro r41_7 <| And.intro r41_8 <| And.intro r41_9 <| And.intro r41_10 <| And.intro r41_11 <| And.intro r41_12 <| r41_13
theorem enter41 : ENT 41 87 [.tmp 2] (.seq (Rg 41 0) (.seq (.seq (Rg 41 1) (.cond (.tmp 14) (.seq (Rg 41 2) .ret) .skip)) (.seq (Rg 41 3) (.seq (Rg 41 4) (.seq (Rg 41 5) (.seq (.seq (Rg 41 6) (.cond (.tmp 33) (.seq (Rg 41 7) .ret) .skip)) (.seq (.seq (Rg 41 8) (.cond (.tmp 79) (.seq (Rg 41 9) .ret) .skip)) (.seq (.seq (Rg 41 10) (.seq (Rg 41 11) (.cond (.tmp 83) (.seq (Rg 41 12) .ret) .skip))) (.seq (Rg 41 13) .ret))))))))) := ent Tryz.f41 (by kernel_rfl)
/- bowline/bowlineref26.Decode -/
theorem r11_0 : RG 11 0 [oq 2 (.assign (.const (.slice none 0 0))), oq 3 (.assign (cq 0)), oq 4 (.assign (cq 0))] := rgo fun _ => by kernel_rfl
theorem r11_1 : RG 11 1 [mq 10 0, oq 11 (.call (.mk (.builtin .len) #[(tq 10)] #[23])), oq 12 (.binOp .gtr 3 (tq 11) (cq 65536) 3)] := rgo fun _ => by kernel_rfl
theorem r11_2 : RG 11 2 [oq 2 (.assign (.const (.slice none 0 0))), oq 3 (.assign (cq 0)), oq 4 (.assign (cq 4))] := rgo fun _ => by kernel_rfl
theorem r11_3 : RG 11 3 [oq 5 (.assign (.const (.slice none 0 0)))] := rgo fun _ => by kernel_rfl
theorem r11_4 : RG 11 4 [oq 6 (.assign (cq 0))] := rgo fun _ => by kernel_rfl
theorem r11_5 : RG 11 5 [mq 13 6, mq 14 0, oq 15 (.call (.mk (.builtin .len) #[(tq 14)] #[23])), oq 16 (.binOp .lss 3 (tq 13) (tq 15) 3)] := rgo fun _ => by kernel_rfl
theorem r11_6 : RG 11 6 [mq 18 0, mq 19 6, oq 20 (.slice 23 (tq 18) (some (tq 19)) none none), oq 21 (.call (.mk (.value (.func 28)) #[(tq 20)] #[23])), mq 17 21, oq 22 (.extract (tq 17) 0), oq 23 (.extract (tq 17) 1), oq 24 (.extract (tq 17) 2), oq 7 (.alloc 44), .op ⟨none, .store 44 (tq 7) (tq 22), none⟩, oq 8 (.assign (tq 23)), oq 9 (.assign (tq 24))] := rgo fun _ => by kernel_rfl
theorem r11_7 : RG 11 7 [mq 25 9, oq 26 (.binOp .neq 3 (tq 25) (cq 0) 3)] := rgo fun _ => by kernel_rfl
theorem r11_8 : RG 11 8 [mq 27 6, mq 28 9, oq 2 (.assign (.const (.slice none 0 0))), oq 3 (.assign (tq 27)), oq 4 (.assign (tq 28))] := rgo fun _ => by kernel_rfl
theorem r11_9 : RG 11 9 [mq 29 5, oq 30 (.load 44 (tq 7)), oq 31 (.buildSlice 22 1 #[(0, (tq 30))]), oq 32 (.call (.mk (.builtin .append) #[(tq 29), (tq 31)] #[22,22])), oq 5 (.assign (tq 32))] := rgo fun _ => by kernel_rfl
theorem r11_10 : RG 11 10 [mq 33 6, mq 34 8, oq 35 (.binOp .add 3 (tq 33) (tq 34) 3), oq 6 (.assign (tq 35))] := rgo fun _ => by kernel_rfl
theorem r11_11 : RG 11 11 [mq 36 5, oq 2 (.assign (tq 36)), oq 3 (.assign (cq 0)), oq 4 (.assign (cq 0))] := rgo fun _ => by kernel_rfl
def fF11 := And.intro r11_0 <| And.intro r11_1 <| And.intro r11_2 <| And.intro r11_3 <| And.intro r11_4 <| And.intro r11_5 <| And.intro r11_6 <| And.intro r11_7 <| And.intro r11_8 <| And.intro r11_9 <| And.intro r11_10 <| r11_11
theorem enter11 : ENT 11 37 [.tmp 2, .tmp 3, .tmp 4] (.seq (Rg 11 0) (.seq (.seq (Rg 11 1) (.cond (.tmp 12) (.seq (Rg 11 2) .ret) .skip)) (.seq (Rg 11 3) (.seq (.seq (Rg 11 4) (.block 0 (.loop (.seq (.seq (Rg 11 5) (.cond (.tmp 16) .skip (Code.exit 0))) (.block 1 (.seq (Rg 11 6) (.seq (.seq (Rg 11 7) (.cond (.tmp 26) (.seq (Rg 11 8) .ret) .skip)) (.seq (Rg 11 9) (Rg 11 10))))))))) (.seq (Rg 11 11) .ret))))) := ent Tryz.f11 (by kernel_rfl)
/- bowline/bowlineref26.Encode -/
theorem r8_0 : RG 8 0 [oq 2 (.assign (.const (.slice none 0 0))), oq 3 (.assign (cq 0))] := rgo fun _ => by kernel_rfl
theorem r8_1 : RG 8 1 [mq 7 0, oq 8 (.call (.mk (.value (.func 25)) #[(tq 7)] #[22])), oq 4 (.assign (tq 8))] := rgo fun _ => by kernel_rfl
theorem r8_2 : RG 8 2 [mq 9 4, oq 10 (.binOp .neq 3 (tq 9) (cq 0) 3)] := rgo fun _ => by kernel_rfl
theorem r8_3 : RG 8 3 [mq 11 4, oq 2 (.assign (.const (.slice none 0 0))), oq 3 (.assign (tq 11))] := rgo fun _ => by kernel_rfl
theorem r8_4 : RG 8 4 [oq 5 (.assign (.const (.slice none 0 0)))] := rgo fun _ => by kernel_rfl
theorem r8_5 : RG 8 5 [oq 6 (.assign (cq 0))] := rgo fun _ => by kernel_rfl
theorem r8_6 : RG 8 6 [mq 12 6, mq 13 0, oq 14 (.call (.mk (.builtin .len) #[(tq 13)] #[22])), oq 15 (.binOp .lss 3 (tq 12) (tq 14) 3)] := rgo fun _ => by kernel_rfl
theorem r8_8 : RG 8 8 [mq 18 5, mq 19 0, mq 20 6, oq 21 (.indexAddr 22 (tq 19) (tq 20)), oq 22 (.load 44 (tq 21)), oq 23 (.call (.mk (.value (.func 26)) #[(tq 22)] #[44])), oq 24 (.call (.mk (.builtin .append) #[(tq 18), (tq 23)] #[23,23])), oq 5 (.assign (tq 24))] := rgo fun _ => by kernel_rfl
theorem r8_7 : RG 8 7 [mq 16 6, oq 17 (.binOp .add 3 (tq 16) (cq 1) 3), oq 6 (.assign (tq 17))] := rgo fun _ => by kernel_rfl
theorem r8_9 : RG 8 9 [mq 25 5, oq 2 (.assign (tq 25)), oq 3 (.assign (cq 0))] := rgo fun _ => by kernel_rfl
def fF8 := And.intro r8_0 <| And.intro r8_1 <| And.intro r8_2 <| And.intro r8_3 <| And.intro r8_4 <| And.intro r8_5 <| And.intro r8_6 <| And.intro r8_8 <| And.intro r8_7 <| r8_9
theorem enter8 : ENT 8 26 [.tmp 2, .tmp 3] (.seq (Rg 8 0) (.seq (.seq (Rg 8 1) (.seq (Rg 8 2) (.cond (.tmp 10) (.seq (Rg 8 3) .ret) .skip))) (.seq (Rg 8 4) (.seq (.seq (Rg 8 5) (.block 0 (.loop (.seq (.seq (Rg 8 6) (.cond (.tmp 15) .skip (Code.exit 0))) (.seq (.block 1 (Rg 8 8)) (Rg 8 7)))))) (.seq (Rg 8 9) .ret))))) := ent Tryz.f8 (by kernel_rfl)
/- bowline/bowlineref26.Number -/
theorem fF44 : RG 44 0 [oq 2 (.assign (.const (.slice none 0 0)))] ∧
 RG 44 1 [mq 3 0, oq 4 (.binOp .lss 42 (tq 3) (.const (.int .u64 128)) 42)] ∧
 RG 44 2 [mq 5 0, oq 6 (.convert 42 5 (tq 5)), oq 7 (.buildSlice 23 1 #[(0, (tq 6))]), oq 2 (.assign (tq 7))] ∧
 RG 44 3 [mq 8 0, oq 9 (.binOp .rem 42 (tq 8) (.const (.int .u64 128)) 42), oq 10 (.convert 42 5 (tq 9)), oq 11 (.binOp .add 5 (tq 10) (.const (.int .u8 128)) 5), oq 12 (.buildSlice 23 1 #[(0, (tq 11))]), mq 13 0, oq 14 (.binOp .quo 42 (tq 13) (.const (.int .u64 128)) 42), oq 15 (.call (.mk (.value (.func 44)) #[(tq 14)] #[42])), oq 16 (.call (.mk (.builtin .append) #[(tq 12), (tq 15)] #[23,23])), oq 2 (.assign (tq 16))] := by and_intros <;> exact rgo fun _ => by kernel_rfl
theorem enter44 : ENT 44 17 [.tmp 2] (.seq (Rg 44 0) (.seq (.seq (Rg 44 1) (.cond (.tmp 4) (.seq (Rg 44 2) .ret) .skip)) (.seq (Rg 44 3) .ret))) := ent Tryz.f44 (by kernel_rfl)
/- bowline/bowlineref26.One -/
theorem r28_0 : RG 28 0 [oq 2 (.alloc 44), oq 3 (.assign (cq 0)), oq 4 (.assign (cq 0))] := rgo fun _ => by kernel_rfl
theorem r28_1 : RG 28 1 [mq 11 0, oq 12 (.call (.mk (.builtin .len) #[(tq 11)] #[23])), oq 13 (.binOp .eql 3 (tq 12) (cq 0) 3)] := rgo fun _ => by kernel_rfl
theorem r28_2 : RG 28 2 [oq 14 (.build 44 #[]), .op ⟨none, .store 44 (tq 2) (tq 14), none⟩, oq 3 (.assign (cq 0)), oq 4 (.assign (cq 39))] := rgo fun _ => by kernel_rfl
theorem r28_3 : RG 28 3 [mq 15 0, oq 16 (.indexAddr 23 (tq 15) (cq 0)), oq 17 (.load 5 (tq 16)), oq 18 (.convert 5 3 (tq 17)), oq 19 (.binOp .geq 3 (tq 18) (cq 29) 3)] := rgo fun _ => by kernel_rfl
theorem r28_4 : RG 28 4 [oq 20 (.build 44 #[]), .op ⟨none, .store 44 (tq 2) (tq 20), none⟩, oq 3 (.assign (cq 0)), oq 4 (.assign (cq 11))] := rgo fun _ => by kernel_rfl
theorem r28_5 : RG 28 5 [mq 21 0, oq 22 (.build 131 #[(0, (tq 21)), (1, (cq 1))]), oq 23 (.box 131 (tq 22)), oq 5 (.assign (tq 23))] := rgo fun _ => by kernel_rfl
theorem r28_6 : RG 28 6 [mq 24 0, oq 25 (.indexAddr 23 (tq 24) (cq 0)), oq 26 (.load 5 (tq 25)), oq 27 (.convert 5 3 (tq 26)), oq 28 (.build 44 #[(0, (tq 27))]), oq 6 (.alloc 44), .op ⟨none, .store 44 (tq 6) (tq 28), none⟩] := rgo fun _ => by kernel_rfl
theorem r28_7 : RG 28 7 [oq 29 (.fieldAddr 44 (tq 6) 0), oq 30 (.load 3 (tq 29)), oq 31 (.call (.mk (.value (.func 42)) #[(tq 30)] #[3])), oq 32 (.field 117 (tq 31) 1), oq 7 (.assign (tq 32))] := rgo fun _ => by kernel_rfl
theorem r28_8 : RG 28 8 [oq 8 (.assign (cq 0))] := rgo fun _ => by kernel_rfl
theorem r28_9 : RG 28 9 [mq 33 8, mq 34 7, oq 35 (.call (.mk (.builtin .len) #[(tq 34)] #[9])), oq 36 (.binOp .lss 3 (tq 33) (tq 35) 3)] := rgo fun _ => by kernel_rfl
theorem r28_11 : RG 28 11 [mq 39 7, mq 40 8, oq 41 (.index 9 (tq 39) (tq 40))] := rgo fun _ => by kernel_rfl
theorem r28_12 : RG 28 12 [oq 43 (.binOp .eql 5 (tq 41) (.const (.int .u8 116)) 5), oq 42 (.assign (tq 43))] := rgo fun _ => by kernel_rfl
theorem r28_13 : RG 28 13 [mq 44 5, oq 45 (.call (.mk (.value (.func 48)) #[(tq 44)] #[129])), oq 46 (.fieldAddr 44 (tq 6) 1), .op ⟨none, .store 9 (tq 46) (tq 45), none⟩] := rgo fun _ => by kernel_rfl
theorem r28_14 : RG 28 14 [oq 48 (.binOp .eql 5 (tq 41) (.const (.int .u8 117)) 5), oq 47 (.assign (tq 48))] := rgo fun _ => by kernel_rfl
theorem r28_15 : RG 28 15 [mq 49 5, oq 50 (.call (.mk (.value (.func 48)) #[(tq 49)] #[129])), oq 51 (.fieldAddr 44 (tq 6) 2), .op ⟨none, .store 9 (tq 51) (tq 50), none⟩] := rgo fun _ => by kernel_rfl
theorem r28_16 : RG 28 16 [oq 53 (.binOp .eql 5 (tq 41) (.const (.int .u8 110)) 5), oq 52 (.assign (tq 53))] := rgo fun _ => by kernel_rfl
theorem r28_17 : RG 28 17 [mq 54 5, oq 55 (.call (.mk (.value (.func 49)) #[(tq 54)] #[129])), oq 56 (.fieldAddr 44 (tq 6) 3), .op ⟨none, .store 42 (tq 56) (tq 55), none⟩] := rgo fun _ => by kernel_rfl
theorem r28_18 : RG 28 18 [oq 58 (.binOp .eql 5 (tq 41) (.const (.int .u8 115)) 5), oq 57 (.assign (tq 58))] := rgo fun _ => by kernel_rfl
theorem r28_19 : RG 28 19 [mq 59 5, oq 60 (.call (.mk (.value (.func 50)) #[(tq 59)] #[129])), oq 9 (.assign (tq 60))] := rgo fun _ => by kernel_rfl
theorem r28_20 : RG 28 20 [mq 61 9, oq 62 (.binOp .quo 3 (tq 61) (cq 2) 3), oq 63 (.fieldAddr 44 (tq 6) 4), .op ⟨none, .store 3 (tq 63) (tq 62), none⟩] := rgo fun _ => by kernel_rfl
theorem r28_21 : RG 28 21 [mq 64 9, oq 65 (.binOp .rem 3 (tq 64) (cq 2) 3), oq 66 (.binOp .eql 3 (tq 65) (cq 1) 3)] := rgo fun _ => by kernel_rfl
theorem r28_22 : RG 28 22 [mq 67 9, oq 68 (.binOp .add 3 (tq 67) (cq 1) 3), oq 69 (.unOp .neg 3 (tq 68)), oq 70 (.binOp .quo 3 (tq 69) (cq 2) 3), oq 71 (.fieldAddr 44 (tq 6) 4), .op ⟨none, .store 3 (tq 71) (tq 70), none⟩] := rgo fun _ => by kernel_rfl
theorem r28_23 : RG 28 23 [oq 73 (.binOp .eql 5 (tq 41) (.const (.int .u8 100)) 5), oq 72 (.assign (tq 73))] := rgo fun _ => by kernel_rfl
theorem r28_24 : RG 28 24 [mq 74 5, oq 75 (.call (.mk (.value (.func 52)) #[(tq 74), (cq 4)] #[129,3])), oq 76 (.call (.mk (.value (.func 51)) #[(tq 75)] #[23])), oq 77 (.fieldAddr 44 (tq 6) 4), .op ⟨none, .store 3 (tq 77) (tq 76), none⟩] := rgo fun _ => by kernel_rfl
theorem r28_25 : RG 28 25 [oq 79 (.binOp .eql 5 (tq 41) (.const (.int .u8 119)) 5), oq 78 (.assign (tq 79))] := rgo fun _ => by kernel_rfl
theorem r28_26 : RG 28 26 [mq 80 5, oq 81 (.call (.mk (.value (.func 52)) #[(tq 80), (cq 8)] #[129,3])), oq 82 (.call (.mk (.value (.func 53)) #[(tq 81)] #[23])), oq 83 (.fieldAddr 44 (tq 6) 3), .op ⟨none, .store 42 (tq 83) (tq 82), none⟩] := rgo fun _ => by kernel_rfl
theorem r28_27 : RG 28 27 [oq 85 (.binOp .eql 5 (tq 41) (.const (.int .u8 101)) 5), oq 84 (.assign (tq 85))] := rgo fun _ => by kernel_rfl
theorem r28_28 : RG 28 28 [mq 86 5, oq 87 (.call (.mk (.value (.func 50)) #[(tq 86)] #[129])), oq 88 (.fieldAddr 44 (tq 6) 4), .op ⟨none, .store 3 (tq 88) (tq 87), none⟩] := rgo fun _ => by kernel_rfl
theorem r28_29 : RG 28 29 [mq 89 5, oq 90 (.call (.mk (.value (.func 49)) #[(tq 89)] #[129])), oq 91 (.fieldAddr 44 (tq 6) 3), .op ⟨none, .store 42 (tq 91) (tq 90), none⟩] := rgo fun _ => by kernel_rfl
theorem r28_30 : RG 28 30 [mq 92 5, oq 93 (.call (.mk (.value (.func 50)) #[(tq 92)] #[129])), oq 94 (.fieldAddr 44 (tq 6) 5), .op ⟨none, .store 3 (tq 94) (tq 93), none⟩] := rgo fun _ => by kernel_rfl
theorem r28_10 : RG 28 10 [mq 37 8, oq 38 (.binOp .add 3 (tq 37) (cq 1) 3), oq 8 (.assign (tq 38))] := rgo fun _ => by kernel_rfl
theorem r28_31 : RG 28 31 [mq 95 5, oq 96 (.nilCheck (tq 95)), oq 97 (.fieldAddr 131 (tq 96) 2), oq 98 (.load 3 (tq 97)), oq 99 (.binOp .neq 3 (tq 98) (cq 0) 3)] := rgo fun _ => by kernel_rfl
theorem r28_32 : RG 28 32 [oq 100 (.build 44 #[]), mq 101 5, oq 102 (.nilCheck (tq 101)), oq 103 (.fieldAddr 131 (tq 102) 2), oq 104 (.load 3 (tq 103)), .chk [⟨some 104, .load 3 (tq 103), none⟩], .op ⟨none, .store 44 (tq 2) (tq 100), none⟩, oq 3 (.assign (cq 0)), oq 4 (.assign (tq 104)), .chk [⟨some 104, .load 3 (tq 103), none⟩]] := rgo fun _ => by kernel_rfl
theorem r28_33 : RG 28 33 [oq 105 (.load 44 (tq 6)), oq 106 (.call (.mk (.value (.func 41)) #[(tq 105)] #[44])), oq 10 (.assign (tq 106))] := rgo fun _ => by kernel_rfl
theorem r28_34 : RG 28 34 [mq 107 10, oq 108 (.binOp .neq 3 (tq 107) (cq 0) 3)] := rgo fun _ => by kernel_rfl
theorem r28_35 : RG 28 35 [oq 109 (.build 44 #[]), mq 110 10, .op ⟨none, .store 44 (tq 2) (tq 109), none⟩, oq 3 (.assign (cq 0)), oq 4 (.assign (tq 110))] := rgo fun _ => by kernel_rfl
theorem r28_36 : RG 28 36 [oq 111 (.load 44 (tq 6)), mq 112 5, oq 113 (.nilCheck (tq 112)), oq 114 (.fieldAddr 131 (tq 113) 1), oq 115 (.load 3 (tq 114)), .chk [⟨some 111, .load 44 (tq 6), none⟩, ⟨some 115, .load 3 (tq 114), none⟩], .op ⟨none, .store 44 (tq 2) (tq 111), none⟩, oq 3 (.assign (tq 115)), oq 4 (.assign (cq 0)), .chk [⟨some 115, .load 3 (tq 114), none⟩]] := rgo fun _ => by kernel_rfl
def fF28 := And.intro r28_0 <| And.intro r28_1 <| And.intro r28_2 <| And.intro r28_3 <| And.intro r28_4 <| And.intro r28_5 <| And.intro r28_6 <| And.intro r28_7 <| And.intro r28_8 <| And.intro r28_9 <| And.intro r28_11 <| And.intro r28_12 <| And.intro r28_13 <| And.intro r28_14 <| And.intro r28_15 <| And.intro r28_16 <| And.intro r28_17 <| And.intro r28_18 <| And.intro r28_19 <| And.intro r28_20 <| And.intro r28_21 <| And.intro r28_22 <| And.intro r28_23 <| And.intro r28_24 <| And.intro r28_25 <| And.intro r28_26 <| And.intro r28_27 <| And.intro r28_28 <| And.intro r28_29 <| And.intro r28_30 <| And.intro r28_10 <| And.intro r28_31 <| And.intro r28_32 <| And.intro r28_33 <| And.intro r28_34 <| And.intro r28_35 <| r28_36
theorem enter28 : ENT 28 116 [.cell 2 44, .tmp 3, .tmp 4] (.seq (Rg 28 0) (.seq (.seq (Rg 28 1) (.cond (.tmp 13) (.seq (Rg 28 2) .ret) .skip)) (.seq (.seq (Rg 28 3) (.cond (.tmp 19) (.seq (Rg 28 4) .ret) .skip)) (.seq (Rg 28 5) (.seq (Rg 28 6) (.seq (Rg 28 7) (.seq (.seq (Rg 28 8) (.block 0 (.loop (.seq (.seq (Rg 28 9) (.cond (.tmp 36) .skip (Code.exit 0))) (.seq (.block 1 (.seq (Rg 28 11) (.block 2 (.seq (Rg 28 12) (.cond (.tmp 42) (Rg 28 13) (.seq (Rg 28 14) (.cond (.tmp 47) (Rg 28 15) (.seq (Rg 28 16) (.cond (.tmp 52) (Rg 28 17) (.seq (Rg 28 18) (.cond (.tmp 57) (.seq (Rg 28 19) (.seq (Rg 28 20) (.seq (Rg 28 21) (.cond (.tmp 66) (Rg 28 22) .skip)))) (.seq (Rg 28 23) (.cond (.tmp 72) (Rg 28 24) (.seq (Rg 28 25) (.cond (.tmp 78) (Rg 28 26) (.seq (Rg 28 27) (.cond (.tmp 84) (.seq (Rg 28 28) (.seq (Rg 28 29) (Rg 28 30))) .skip))))))))))))))))) (Rg 28 10)))))) (.seq (.seq (Rg 28 31) (.cond (.tmp 99) (.seq (Rg 28 32) .ret) .skip)) (.seq (.seq (Rg 28 33) (.seq (Rg 28 34) (.cond (.tmp 108) (.seq (Rg 28 35) .ret) .skip))) (.seq (Rg 28 36) .ret)))))))))) := ent Tryz.f28 (by kernel_rfl)
theorem ti3 : TI 3 ⟨.int .i64, 1, 8, [.int .i64 0]⟩ := fun _ => by kernel_rfl
theorem ti4 : TI 4 ⟨.bool, 1, 1, [.bool false]⟩ := fun _ => by kernel_rfl
theorem ti5 : TI 5 ⟨.int .u8, 1, 1, [.int .u8 0]⟩ := fun _ => by kernel_rfl
theorem ti9 : TI 9 ⟨.string, 1, 16, [.string ⟨#[]⟩]⟩ := fun _ => by kernel_rfl
theorem ti21 : TI 21 ⟨.int .i32, 1, 4, [.int .i32 0]⟩ := fun _ => by kernel_rfl
theorem ti22 : TI 22 ⟨.slice 44, 1, 24, [.slice none 0 0]⟩ := fun _ => by kernel_rfl
theorem ti23 : TI 23 ⟨.slice 5, 1, 24, [.slice none 0 0]⟩ := fun _ => by kernel_rfl
theorem ti26 : TI 26 ⟨.int .i64, 1, 8, [.int .i64 0]⟩ := fun _ => by kernel_rfl
theorem ti29 : TI 29 ⟨.slice 45, 1, 24, [.slice none 0 0]⟩ := fun _ => by kernel_rfl
theorem ti42 : TI 42 ⟨.int .u64, 1, 8, [.int .u64 0]⟩ := fun _ => by kernel_rfl
theorem ti44 : TI 44 ⟨.struct #[⟨ "Op", 3, 0, false, "", "", 0⟩, ⟨ "Type", 9, 1, false, "", "", 8⟩, ⟨ "To", 9, 2, false, "", "", 24⟩, ⟨ "Num", 42, 3, false, "", "", 40⟩, ⟨ "Imm", 3, 4, false, "", "", 48⟩, ⟨ "Size", 3, 5, false, "", "", 56⟩], 6, 64, [.int .i64 0, .string ⟨#[]⟩, .string ⟨#[]⟩, .int .u64 0, .int .i64 0, .int .i64 0]⟩ := fun _ => by kernel_rfl
theorem ti45 : TI 45 ⟨.struct #[⟨ "Op", 3, 0, false, "", "", 0⟩, ⟨ "Type", 9, 1, false, "", "", 8⟩, ⟨ "To", 9, 2, false, "", "", 24⟩, ⟨ "Num", 42, 3, false, "", "", 40⟩, ⟨ "Imm", 3, 4, false, "", "", 48⟩, ⟨ "Size", 3, 5, false, "", "", 56⟩], 6, 64, [.int .i64 0, .string ⟨#[]⟩, .string ⟨#[]⟩, .int .u64 0, .int .i64 0, .int .i64 0]⟩ := fun _ => by kernel_rfl
theorem ti48 : TI 48 ⟨.slice 3, 1, 24, [.slice none 0 0]⟩ := fun _ => by kernel_rfl
theorem ti95 : TI 95 ⟨.array 2 3, 2, 16, [.int .i64 0, .int .i64 0]⟩ := fun _ => by kernel_rfl
theorem ti96 : TI 96 ⟨.func #[45] #[4] false, 1, 8, [.nilFunc]⟩ := fun _ => by kernel_rfl
theorem ti98 : TI 98 ⟨.struct #[⟨ "name", 9, 0, false, "", "bowline/stackmachine", 0⟩, ⟨ "operands", 9, 1, false, "", "bowline/stackmachine", 16⟩, ⟨ "effect", 95, 2, false, "", "bowline/stackmachine", 32⟩, ⟨ "right", 96, 4, false, "", "bowline/stackmachine", 48⟩], 5, 56, [.string ⟨#[]⟩, .string ⟨#[]⟩, .int .i64 0, .int .i64 0, .nilFunc]⟩ := fun _ => by kernel_rfl
theorem ti111 : TI 111 ⟨.slice 26, 1, 24, [.slice none 0 0]⟩ := fun _ => by kernel_rfl
theorem ti117 : TI 117 ⟨.struct #[⟨ "name", 9, 0, false, "", "bowline/bowlineref26", 0⟩, ⟨ "uses", 9, 1, false, "", "bowline/bowlineref26", 16⟩, ⟨ "pops", 3, 2, false, "", "bowline/bowlineref26", 32⟩, ⟨ "puts", 3, 3, false, "", "bowline/bowlineref26", 40⟩], 4, 48, [.string ⟨#[]⟩, .string ⟨#[]⟩, .int .i64 0, .int .i64 0]⟩ := fun _ => by kernel_rfl
theorem ti124 : TI 124 ⟨.pointer 126, 1, 8, [.pointer none]⟩ := fun _ => by kernel_rfl
theorem ti126 : TI 126 ⟨.struct #[⟨ "rest", 23, 0, false, "", "bowline/stackmachine", 0⟩, ⟨ "err", 26, 1, false, "", "bowline/stackmachine", 24⟩], 2, 32, [.slice none 0 0, .int .i64 0]⟩ := fun _ => by kernel_rfl
theorem ti129 : TI 129 ⟨.pointer 131, 1, 8, [.pointer none]⟩ := fun _ => by kernel_rfl
theorem ti131 : TI 131 ⟨.struct #[⟨ "b", 23, 0, false, "", "bowline/bowlineref26", 0⟩, ⟨ "at", 3, 1, false, "", "bowline/bowlineref26", 24⟩, ⟨ "e", 3, 2, false, "", "bowline/bowlineref26", 32⟩], 3, 40, [.slice none 0 0, .int .i64 0, .int .i64 0]⟩ := fun _ => by kernel_rfl
theorem ti154 : TI 154 ⟨.int .u32, 1, 4, [.int .u32 0]⟩ := fun _ => by kernel_rfl
theorem ti182 : TI 182 ⟨.slice 9, 1, 24, [.slice none 0 0]⟩ := fun _ => by kernel_rfl
def tTGa := And.intro ti3 <| And.intro ti4 <| And.intro ti5 <| And.intro ti9 <| And.intro ti21 <| And.intro ti22 <| And.intro ti23 <| And.intro ti26 <| And.intro ti29 <| And.intro ti42 <| And.intro ti44 <| And.intro ti45 <| And.intro ti48 <| And.intro ti95 <| And.intro ti96 <| And.intro ti98 <| And.intro ti111 <| And.intro ti117 <| And.intro ti124 <| And.intro ti126 <| And.intro ti129 <| And.intro ti131 <| And.intro ti154 <| ti182
end Go.D
