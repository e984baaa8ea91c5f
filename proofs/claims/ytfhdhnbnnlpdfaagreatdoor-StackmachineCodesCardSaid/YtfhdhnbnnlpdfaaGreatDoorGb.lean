/- Plans of the functions, printed by genfn2.py out of the print of them by Lean; each is proved to be the code. -/
import Derived.Test.YtfhdhnbnnlpdfaaGreatDoorGa
namespace Go.D
open Go.Proofs
set_option maxRecDepth 100000
set_option linter.defProp false
/- bowline/bowlineref26.bytes -/
theorem r26_0 : RG 26 0 [oq 1 (.box 44 (tq 0)), oq 2 (.assign (.const (.slice none 0 0)))] := rgo fun _ => by kernel_rfl
theorem r26_1 : RG 26 1 [oq 10 (.fieldAddr 44 (tq 1) 0), oq 11 (.load 3 (tq 10)), oq 12 (.call (.mk (.value (.func 42)) #[(tq 11)] #[3])), oq 3 (.alloc 117), .op ⟨none, .store 117 (tq 3) (tq 12), none⟩] := rgo fun _ => by kernel_rfl
theorem r26_2 : RG 26 2 [oq 13 (.fieldAddr 44 (tq 1) 0), oq 14 (.load 3 (tq 13)), oq 15 (.convert 3 5 (tq 14)), oq 16 (.buildSlice 23 1 #[(0, (tq 15))]), oq 4 (.assign (tq 16))] := rgo fun _ => by kernel_rfl
theorem r26_3 : RG 26 3 [oq 5 (.assign (cq 0))] := rgo fun _ => by kernel_rfl
theorem r26_4 : RG 26 4 [mq 17 5, oq 18 (.fieldAddr 117 (tq 3) 1), oq 19 (.load 9 (tq 18)), oq 20 (.call (.mk (.builtin .len) #[(tq 19)] #[9])), oq 21 (.binOp .lss 3 (tq 17) (tq 20) 3)] := rgo fun _ => by kernel_rfl
theorem r26_6 : RG 26 6 [oq 24 (.fieldAddr 117 (tq 3) 1), oq 25 (.load 9 (tq 24)), mq 26 5, oq 27 (.index 9 (tq 25) (tq 26))] := rgo fun _ => by kernel_rfl
theorem r26_7 : RG 26 7 [oq 29 (.binOp .eql 5 (tq 27) (.const (.int .u8 116)) 5), oq 28 (.assign (tq 29))] := rgo fun _ => by kernel_rfl
theorem r26_8 : RG 26 8 [oq 31 (.fieldAddr 44 (tq 1) 1), oq 32 (.load 9 (tq 31)), oq 33 (.call (.mk (.value (.func 43)) #[(tq 32)] #[9])), mq 30 33, oq 34 (.extract (tq 30) 0), oq 35 (.extract (tq 30) 1), oq 6 (.assign (tq 34)), oq 7 (.assign (tq 35))] := rgo fun _ => by kernel_rfl
theorem r26_9 : RG 26 9 [mq 36 4, mq 37 6, oq 38 (.convert 3 5 (tq 37)), oq 39 (.buildSlice 23 1 #[(0, (tq 38))]), oq 40 (.call (.mk (.builtin .append) #[(tq 36), (tq 39)] #[23,23])), oq 4 (.assign (tq 40))] := rgo fun _ => by kernel_rfl
theorem r26_10 : RG 26 10 [oq 42 (.binOp .eql 5 (tq 27) (.const (.int .u8 117)) 5), oq 41 (.assign (tq 42))] := rgo fun _ => by kernel_rfl
theorem r26_11 : RG 26 11 [oq 44 (.fieldAddr 44 (tq 1) 2), oq 45 (.load 9 (tq 44)), oq 46 (.call (.mk (.value (.func 43)) #[(tq 45)] #[9])), mq 43 46, oq 47 (.extract (tq 43) 0), oq 48 (.extract (tq 43) 1), oq 8 (.assign (tq 47)), oq 9 (.assign (tq 48))] := rgo fun _ => by kernel_rfl
theorem r26_12 : RG 26 12 [mq 49 4, mq 50 8, oq 51 (.convert 3 5 (tq 50)), oq 52 (.buildSlice 23 1 #[(0, (tq 51))]), oq 53 (.call (.mk (.builtin .append) #[(tq 49), (tq 52)] #[23,23])), oq 4 (.assign (tq 53))] := rgo fun _ => by kernel_rfl
theorem r26_13 : RG 26 13 [oq 55 (.binOp .eql 5 (tq 27) (.const (.int .u8 110)) 5), oq 54 (.assign (tq 55))] := rgo fun _ => by kernel_rfl
theorem r26_14 : RG 26 14 [mq 56 4, oq 57 (.fieldAddr 44 (tq 1) 3), oq 58 (.load 42 (tq 57)), oq 59 (.call (.mk (.value (.func 44)) #[(tq 58)] #[42])), oq 60 (.call (.mk (.builtin .append) #[(tq 56), (tq 59)] #[23,23])), oq 4 (.assign (tq 60))] := rgo fun _ => by kernel_rfl
theorem r26_15 : RG 26 15 [oq 62 (.binOp .eql 5 (tq 27) (.const (.int .u8 115)) 5), oq 61 (.assign (tq 62))] := rgo fun _ => by kernel_rfl
theorem r26_16 : RG 26 16 [mq 63 4, oq 64 (.fieldAddr 44 (tq 1) 4), oq 65 (.load 3 (tq 64)), oq 66 (.call (.mk (.value (.func 45)) #[(tq 65)] #[3])), oq 67 (.call (.mk (.value (.func 44)) #[(tq 66)] #[42])), oq 68 (.call (.mk (.builtin .append) #[(tq 63), (tq 67)] #[23,23])), oq 4 (.assign (tq 68))] := rgo fun _ => by kernel_rfl
theorem r26_17 : RG 26 17 [oq 70 (.binOp .eql 5 (tq 27) (.const (.int .u8 100)) 5), oq 69 (.assign (tq 70))] := rgo fun _ => by kernel_rfl
theorem r26_18 : RG 26 18 [mq 71 4, oq 72 (.fieldAddr 44 (tq 1) 4), oq 73 (.load 3 (tq 72)), oq 74 (.convert 3 42 (tq 73)), oq 75 (.call (.mk (.value (.func 46)) #[(tq 74), (cq 4)] #[42,3])), oq 76 (.call (.mk (.builtin .append) #[(tq 71), (tq 75)] #[23,23])), oq 4 (.assign (tq 76))] := rgo fun _ => by kernel_rfl
theorem r26_19 : RG 26 19 [oq 78 (.binOp .eql 5 (tq 27) (.const (.int .u8 119)) 5), oq 77 (.assign (tq 78))] := rgo fun _ => by kernel_rfl
theorem r26_20 : RG 26 20 [mq 79 4, oq 80 (.fieldAddr 44 (tq 1) 3), oq 81 (.load 42 (tq 80)), oq 82 (.call (.mk (.value (.func 46)) #[(tq 81), (cq 8)] #[42,3])), oq 83 (.call (.mk (.builtin .append) #[(tq 79), (tq 82)] #[23,23])), oq 4 (.assign (tq 83))] := rgo fun _ => by kernel_rfl
theorem r26_21 : RG 26 21 [oq 85 (.binOp .eql 5 (tq 27) (.const (.int .u8 101)) 5), oq 84 (.assign (tq 85))] := rgo fun _ => by kernel_rfl
theorem r26_22 : RG 26 22 [mq 86 4, oq 87 (.fieldAddr 44 (tq 1) 4), oq 88 (.load 3 (tq 87)), oq 89 (.convert 3 42 (tq 88)), oq 90 (.call (.mk (.value (.func 44)) #[(tq 89)] #[42])), oq 91 (.call (.mk (.builtin .append) #[(tq 86), (tq 90)] #[23,23])), oq 4 (.assign (tq 91))] := rgo fun _ => by kernel_rfl
theorem r26_23 : RG 26 23 [mq 92 4, oq 93 (.fieldAddr 44 (tq 1) 3), oq 94 (.load 42 (tq 93)), oq 95 (.call (.mk (.value (.func 44)) #[(tq 94)] #[42])), oq 96 (.call (.mk (.builtin .append) #[(tq 92), (tq 95)] #[23,23])), oq 4 (.assign (tq 96))] := rgo fun _ => by kernel_rfl
theorem r26_24 : RG 26 24 [mq 97 4, oq 98 (.fieldAddr 44 (tq 1) 5), oq 99 (.load 3 (tq 98)), oq 100 (.convert 3 42 (tq 99)), oq 101 (.call (.mk (.value (.func 44)) #[(tq 100)] #[42])), oq 102 (.call (.mk (.builtin .append) #[(tq 97), (tq 101)] #[23,23])), oq 4 (.assign (tq 102))] := rgo fun _ => by kernel_rfl
theorem r26_5 : RG 26 5 [mq 22 5, oq 23 (.binOp .add 3 (tq 22) (cq 1) 3), oq 5 (.assign (tq 23))] := rgo fun _ => by kernel_rfl
theorem r26_25 : RG 26 25 [mq 103 4, oq 2 (.assign (tq 103))] := rgo fun _ => by kernel_rfl
def fF26 := And.intro r26_0 <| And.intro r26_1 <| And.intro r26_2 <| And.intro r26_3 <| And.intro r26_4 <| And.intro r26_6 <| And.intro r26_7 <| And.intro r26_8 <| And.intro r26_9 <| And.intro r26_10 <| And.intro r26_11 <| And.intro r26_12 <| And.intro r26_13 <| And.intro r26_14 <| And.intro r26_15 <| And.intro r26_16 <| And.intro r26_17 <| And.intro r26_18 <| And.intro r26_19 <| And.intro r26_20 <| And.intro r26_21 <| And.intro r26_22 <| And.intro r26_23 <| And.intro r26_24 <| And.intro r26_5 <| r26_25
theorem enter26 : ENT 26 104 [.tmp 2] (.seq (Rg 26 0) (.seq (Rg 26 1) (.seq (Rg 26 2) (.seq (.seq (Rg 26 3) (.block 0 (.loop (.seq (.seq (Rg 26 4) (.cond (.tmp 21) .skip (Code.exit 0))) (.seq (.block 1 (.seq (Rg 26 6) (.block 2 (.seq (Rg 26 7) (.cond (.tmp 28) (.seq (Rg 26 8) (Rg 26 9)) (.seq (Rg 26 10) (.cond (.tmp 41) (.seq (Rg 26 11) (Rg 26 12)) (.seq (Rg 26 13) (.cond (.tmp 54) (Rg 26 14) (.seq (Rg 26 15) (.cond (.tmp 61) (Rg 26 16) (.seq (Rg 26 17) (.cond (.tmp 69) (Rg 26 18) (.seq (Rg 26 19) (.cond (.tmp 77) (Rg 26 20) (.seq (Rg 26 21) (.cond (.tmp 84) (.seq (Rg 26 22) (.seq (Rg 26 23) (Rg 26 24))) .skip))))))))))))))))) (Rg 26 5)))))) (.seq (Rg 26 25) .ret))))) := ent Tryz.f26 (by kernel_rfl)
/- bowline/bowlineref26.checkList -/
theorem r25_0 : RG 25 0 [oq 2 (.assign (cq 0))] := rgo fun _ => by kernel_rfl
theorem r25_1 : RG 25 1 [mq 5 0, oq 6 (.call (.mk (.builtin .len) #[(tq 5)] #[22])), oq 7 (.binOp .gtr 3 (tq 6) (cq 4000) 3)] := rgo fun _ => by kernel_rfl
theorem r25_2 : RG 25 2 [oq 2 (.assign (cq 5))] := rgo fun _ => by kernel_rfl
theorem r25_3 : RG 25 3 [oq 3 (.assign (cq 0))] := rgo fun _ => by kernel_rfl
theorem r25_4 : RG 25 4 [mq 8 3, mq 9 0, oq 10 (.call (.mk (.builtin .len) #[(tq 9)] #[22])), oq 11 (.binOp .lss 3 (tq 8) (tq 10) 3)] := rgo fun _ => by kernel_rfl
theorem r25_6 : RG 25 6 [mq 14 0, mq 15 3, oq 16 (.indexAddr 22 (tq 14) (tq 15)), oq 17 (.load 44 (tq 16)), oq 18 (.call (.mk (.value (.func 41)) #[(tq 17)] #[44])), oq 4 (.assign (tq 18))] := rgo fun _ => by kernel_rfl
theorem r25_7 : RG 25 7 [mq 19 4, oq 20 (.binOp .neq 3 (tq 19) (cq 0) 3)] := rgo fun _ => by kernel_rfl
theorem r25_8 : RG 25 8 [mq 21 4, oq 2 (.assign (tq 21))] := rgo fun _ => by kernel_rfl
theorem r25_5 : RG 25 5 [mq 12 3, oq 13 (.binOp .add 3 (tq 12) (cq 1) 3), oq 3 (.assign (tq 13))] := rgo fun _ => by kernel_rfl
theorem r25_9 : RG 25 9 [oq 2 (.assign (cq 0))] := rgo fun _ => by kernel_rfl
def fF25 := And.intro r25_0 <| And.intro r25_1 <| And.intro r25_2 <| And.intro r25_3 <| And.intro r25_4 <| And.intro r25_6 <| And.intro r25_7 <| And.intro r25_8 <| And.intro r25_5 <| r25_9
theorem enter25 : ENT 25 22 [.tmp 2] (.seq (Rg 25 0) (.seq (.seq (Rg 25 1) (.cond (.tmp 7) (.seq (Rg 25 2) .ret) .skip)) (.seq (.seq (Rg 25 3) (.block 0 (.loop (.seq (.seq (Rg 25 4) (.cond (.tmp 11) .skip (Code.exit 0))) (.seq (.block 1 (.seq (Rg 25 6) (.seq (Rg 25 7) (.cond (.tmp 20) (.seq (Rg 25 8) .ret) .skip)))) (Rg 25 5)))))) (.seq (Rg 25 9) .ret)))) := ent Tryz.f25 (by kernel_rfl)
/- bowline/bowlineref26.has -/
theorem r73_0 : RG 73 0 [oq 2 (.box 117 (tq 0)), oq 4 (.assign (.const (.bool false)))] := rgo fun _ => by kernel_rfl
theorem r73_1 : RG 73 1 [oq 5 (.assign (cq 0))] := rgo fun _ => by kernel_rfl
theorem r73_2 : RG 73 2 [mq 6 5, oq 7 (.fieldAddr 117 (tq 2) 1), oq 8 (.load 9 (tq 7)), oq 9 (.call (.mk (.builtin .len) #[(tq 8)] #[9])), oq 10 (.binOp .lss 3 (tq 6) (tq 9) 3)] := rgo fun _ => by kernel_rfl
theorem r73_4 : RG 73 4 [oq 13 (.fieldAddr 117 (tq 2) 1), oq 14 (.load 9 (tq 13)), mq 15 5, oq 16 (.index 9 (tq 14) (tq 15)), mq 17 1, oq 18 (.binOp .eql 5 (tq 16) (tq 17) 5)] := rgo fun _ => by kernel_rfl
theorem r73_5 : RG 73 5 [oq 4 (.assign (.const (.bool true)))] := rgo fun _ => by kernel_rfl
theorem r73_3 : RG 73 3 [mq 11 5, oq 12 (.binOp .add 3 (tq 11) (cq 1) 3), oq 5 (.assign (tq 12))] := rgo fun _ => by kernel_rfl
theorem r73_6 : RG 73 6 [oq 4 (.assign (.const (.bool false)))] := rgo fun _ => by kernel_rfl
def fF73 := And.intro r73_0 <| And.intro r73_1 <| And.intro r73_2 <| And.intro r73_4 <| And.intro r73_5 <| And.intro r73_3 <| r73_6
theorem enter73 : ENT 73 19 [.tmp 4] (.seq (Rg 73 0) (.seq (.seq (Rg 73 1) (.block 0 (.loop (.seq (.seq (Rg 73 2) (.cond (.tmp 10) .skip (Code.exit 0))) (.seq (.block 1 (.seq (Rg 73 4) (.cond (.tmp 18) (.seq (Rg 73 5) .ret) .skip))) (Rg 73 3)))))) (.seq (Rg 73 6) .ret))) := ent Tryz.f73 (by kernel_rfl)
/- bowline/bowlineref26.little -/
theorem r46_0 : RG 46 0 [oq 4 (.assign (.const (.slice none 0 0)))] := rgo fun _ => by kernel_rfl
theorem r46_1 : RG 46 1 [oq 5 (.assign (.const (.slice none 0 0)))] := rgo fun _ => by kernel_rfl
theorem r46_2 : RG 46 2 [oq 6 (.assign (cq 0))] := rgo fun _ => by kernel_rfl
theorem r46_3 : RG 46 3 [mq 7 6, mq 8 1, oq 9 (.binOp .lss 3 (tq 7) (tq 8) 3)] := rgo fun _ => by kernel_rfl
theorem r46_5 : RG 46 5 [mq 12 5, mq 13 0, mq 14 6, oq 15 (.binOp .mul 3 (cq 8) (tq 14) 3), oq 16 (.binOp .shr 42 (tq 13) (tq 15) 3), oq 17 (.convert 42 5 (tq 16)), oq 18 (.buildSlice 23 1 #[(0, (tq 17))]), oq 19 (.call (.mk (.builtin .append) #[(tq 12), (tq 18)] #[23,23])), oq 5 (.assign (tq 19))] := rgo fun _ => by kernel_rfl
theorem r46_4 : RG 46 4 [mq 10 6, oq 11 (.binOp .add 3 (tq 10) (cq 1) 3), oq 6 (.assign (tq 11))] := rgo fun _ => by kernel_rfl
theorem r46_6 : RG 46 6 [mq 20 5, oq 4 (.assign (tq 20))] := rgo fun _ => by kernel_rfl
def fF46 := And.intro r46_0 <| And.intro r46_1 <| And.intro r46_2 <| And.intro r46_3 <| And.intro r46_5 <| And.intro r46_4 <| r46_6
theorem enter46 : ENT 46 21 [.tmp 4] (.seq (Rg 46 0) (.seq (Rg 46 1) (.seq (.seq (Rg 46 2) (.block 0 (.loop (.seq (.seq (Rg 46 3) (.cond (.tmp 9) .skip (Code.exit 0))) (.seq (.block 1 (Rg 46 5)) (Rg 46 4)))))) (.seq (Rg 46 6) .ret)))) := ent Tryz.f46 (by kernel_rfl)
/- bowline/bowlineref26.operation -/
theorem fF77 : RG 77 0 [oq 1 (.box 44 (tq 0)), oq 2 (.assign (cq 0))] ∧
 RG 77 1 [oq 7 (.fieldAddr 44 (tq 1) 0), oq 8 (.load 3 (tq 7)), oq 9 (.binOp .lss 3 (tq 8) (cq 6) 3), mq 10 9, .op ⟨some 11, .fieldAddr 44 (tq 1) 0, some (10, false)⟩, .op ⟨some 12, .load 3 (tq 11), some (10, false)⟩, .op ⟨some 13, .binOp .gtr 3 (tq 12) (cq 8) 3, some (10, false)⟩, oq 14 (.pick (tq 10) (.const (.bool true)) (tq 13))] ∧
 RG 77 2 [oq 2 (.assign (cq 0))] ∧
 RG 77 3 [oq 15 (.fieldAddr 44 (tq 1) 3), oq 16 (.load 42 (tq 15)), oq 17 (.convert 42 3 (tq 16)), oq 3 (.assign (tq 17))] ∧
 RG 77 4 [mq 19 3, oq 20 (.call (.mk (.value (.func 109)) #[(tq 19)] #[3])), mq 18 20, oq 21 (.extract (tq 18) 0), oq 22 (.extract (tq 18) 1), oq 4 (.assign (tq 21)), oq 5 (.assign (tq 22))] ∧
 RG 77 5 [mq 23 5, oq 24 (.binOp .neq 3 (tq 23) (cq 0) 3)] ∧
 RG 77 6 [oq 2 (.assign (cq 11))] ∧
 RG 77 7 [oq 6 (.assign (.const (.bool false)))] ∧
 RG 77 8 [oq 25 (.fieldAddr 44 (tq 1) 0), oq 26 (.load 3 (tq 25))] ∧
 RG 77 9 [oq 28 (.binOp .eql 3 (tq 26) (cq 6) 3), oq 27 (.assign (tq 28))] ∧
 RG 77 10 [mq 29 4, oq 30 (.binOp .eql 3 (tq 29) (cq 1) 3), mq 31 30, .op ⟨some 32, .move (tq 3), some (31, true)⟩, .op ⟨some 33, .fieldAddr 44 (tq 1) 1, some (31, true)⟩, .op ⟨some 34, .load 9 (tq 33), some (31, true)⟩, .op ⟨some 35, .call (.mk (.value (.func 110)) #[(tq 32), (tq 34)] #[3,9]), some (31, true)⟩, oq 36 (.pick (tq 31) (tq 35) (.const (.bool false))), oq 6 (.assign (tq 36))] ∧
 RG 77 11 [oq 38 (.binOp .eql 3 (tq 26) (cq 7) 3), oq 37 (.assign (tq 38))] ∧
 RG 77 12 [mq 39 4, oq 40 (.binOp .eql 3 (tq 39) (cq 2) 3), mq 41 40, .op ⟨some 42, .move (tq 4), some (41, false)⟩, .op ⟨some 43, .binOp .eql 3 (tq 42) (cq 3) 3, some (41, false)⟩, oq 44 (.pick (tq 41) (.const (.bool true)) (tq 43)), mq 45 44, .op ⟨some 46, .move (tq 3), some (45, true)⟩, .op ⟨some 47, .fieldAddr 44 (tq 1) 1, some (45, true)⟩, .op ⟨some 48, .load 9 (tq 47), some (45, true)⟩, .op ⟨some 49, .call (.mk (.value (.func 110)) #[(tq 46), (tq 48)] #[3,9]), some (45, true)⟩, oq 50 (.pick (tq 45) (tq 49) (.const (.bool false))), oq 6 (.assign (tq 50))] ∧
 RG 77 13 [oq 52 (.binOp .eql 3 (tq 26) (cq 8) 3), oq 51 (.assign (tq 52))] ∧
 RG 77 14 [mq 53 4, oq 54 (.binOp .eql 3 (tq 53) (cq 4) 3), mq 55 54, .op ⟨some 56, .move (tq 3), some (55, true)⟩, .op ⟨some 57, .fieldAddr 44 (tq 1) 1, some (55, true)⟩, .op ⟨some 58, .load 9 (tq 57), some (55, true)⟩, .op ⟨some 59, .fieldAddr 44 (tq 1) 2, some (55, true)⟩, .op ⟨some 60, .load 9 (tq 59), some (55, true)⟩, .op ⟨some 61, .call (.mk (.value (.func 111)) #[(tq 56), (tq 58), (tq 60)] #[3,9,9]), some (55, true)⟩, oq 62 (.pick (tq 55) (tq 61) (.const (.bool false))), oq 6 (.assign (tq 62))] ∧
 RG 77 15 [mq 63 6, oq 64 (.unOp .not 4 (tq 63)), oq 65 (.call (.mk (.value (.func 106)) #[(tq 64), (cq 11)] #[4,3])), oq 2 (.assign (tq 65))] := by and_intros <;> exact rgo fun _ => by kernel_rfl
theorem enter77 : ENT 77 66 [.tmp 2] (.seq (Rg 77 0) (.seq (.seq (Rg 77 1) (.cond (.tmp 14) (.seq (Rg 77 2) .ret) .skip)) (.seq (Rg 77 3) (.seq (Rg 77 4) (.seq (.seq (Rg 77 5) (.cond (.tmp 24) (.seq (Rg 77 6) .ret) .skip)) (.seq (Rg 77 7) (.seq (.seq (Rg 77 8) (.block 0 (.seq (Rg 77 9) (.cond (.tmp 27) (Rg 77 10) (.seq (Rg 77 11) (.cond (.tmp 37) (Rg 77 12) (.seq (Rg 77 13) (.cond (.tmp 51) (Rg 77 14) .skip)))))))) (.seq (Rg 77 15) .ret)))))))) := ent Tryz.f77 (by kernel_rfl)
/- bowline/bowlineref26.ranges -/
theorem fF76 : RG 76 0 [oq 1 (.box 44 (tq 0)), oq 2 (.assign (cq 0))] ∧
 RG 76 1 [oq 5 (.fieldAddr 44 (tq 1) 0), oq 6 (.load 3 (tq 5)), oq 7 (.call (.mk (.value (.func 42)) #[(tq 6)] #[3])), oq 3 (.alloc 117), .op ⟨none, .store 117 (tq 3) (tq 7), none⟩] ∧
 RG 76 2 [oq 8 (.load 117 (tq 3)), oq 9 (.call (.mk (.value (.func 73)) #[(tq 8), (.const (.int .u8 115))] #[117,5])), mq 10 9, .op ⟨some 11, .load 117 (tq 3), some (10, false)⟩, .op ⟨some 12, .call (.mk (.value (.func 73)) #[(tq 11), (.const (.int .u8 100))] #[117,5]), some (10, false)⟩, oq 13 (.pick (tq 10) (.const (.bool true)) (tq 12)), mq 14 13, .op ⟨some 15, .fieldAddr 44 (tq 1) 4, some (14, true)⟩, .op ⟨some 16, .load 3 (tq 15), some (14, true)⟩, .op ⟨some 17, .call (.mk (.value (.func 107)) #[(tq 16)] #[3]), some (14, true)⟩, .op ⟨some 18, .unOp .not 4 (tq 17), some (14, true)⟩, oq 19 (.pick (tq 14) (tq 18) (.const (.bool false)))] ∧
 RG 76 3 [oq 2 (.assign (cq 3))] ∧
 RG 76 4 [oq 4 (.assign (.const (.bool false)))] ∧
 RG 76 5 [oq 20 (.fieldAddr 44 (tq 1) 0), oq 21 (.load 3 (tq 20))] ∧
 RG 76 6 [oq 23 (.binOp .eql 3 (tq 21) (cq 2) 3), oq 22 (.assign (tq 23))] ∧
 RG 76 7 [oq 24 (.binOp .eql 3 (tq 21) (cq 3) 3), oq 22 (.assign (tq 24))] ∧
 RG 76 8 [oq 25 (.binOp .eql 3 (tq 21) (cq 4) 3), oq 22 (.assign (tq 25))] ∧
 RG 76 9 [oq 26 (.fieldAddr 44 (tq 1) 3), oq 27 (.load 42 (tq 26)), oq 28 (.binOp .gtr 42 (tq 27) (.const (.int .u64 9999)) 42), oq 4 (.assign (tq 28))] ∧
 RG 76 10 [oq 30 (.binOp .eql 3 (tq 21) (cq 6) 3), oq 29 (.assign (tq 30))] ∧
 RG 76 11 [oq 31 (.binOp .eql 3 (tq 21) (cq 7) 3), oq 29 (.assign (tq 31))] ∧
 RG 76 12 [oq 32 (.binOp .eql 3 (tq 21) (cq 8) 3), oq 29 (.assign (tq 32))] ∧
 RG 76 13 [oq 33 (.fieldAddr 44 (tq 1) 3), oq 34 (.load 42 (tq 33)), oq 35 (.binOp .gtr 42 (tq 34) (.const (.int .u64 255)) 42), oq 4 (.assign (tq 35))] ∧
 RG 76 14 [oq 37 (.binOp .eql 3 (tq 21) (cq 13) 3), oq 36 (.assign (tq 37))] ∧
 RG 76 15 [oq 38 (.fieldAddr 44 (tq 1) 3), oq 39 (.load 42 (tq 38)), oq 40 (.binOp .gtr 42 (tq 39) (.const (.int .u64 2147483647)) 42), oq 4 (.assign (tq 40))] ∧
 RG 76 16 [oq 42 (.binOp .eql 3 (tq 21) (cq 14) 3), oq 41 (.assign (tq 42))] ∧
 RG 76 17 [oq 43 (.fieldAddr 44 (tq 1) 3), oq 44 (.load 42 (tq 43)), oq 45 (.binOp .gtr 42 (tq 44) (.const (.int .u64 16)) 42), mq 46 45, .op ⟨some 47, .fieldAddr 44 (tq 1) 3, some (46, false)⟩, .op ⟨some 48, .load 42 (tq 47), some (46, false)⟩, .op ⟨some 49, .convert 42 3 (tq 48), some (46, false)⟩, .op ⟨some 50, .call (.mk (.value (.func 108)) #[(tq 49)] #[3]), some (46, false)⟩, .op ⟨some 51, .unOp .not 4 (tq 50), some (46, false)⟩, oq 52 (.pick (tq 46) (.const (.bool true)) (tq 51)), oq 4 (.assign (tq 52))] ∧
 RG 76 18 [oq 54 (.binOp .eql 3 (tq 21) (cq 24) 3), oq 53 (.assign (tq 54))] ∧
 RG 76 19 [oq 55 (.fieldAddr 44 (tq 1) 3), oq 56 (.load 42 (tq 55)), oq 57 (.binOp .gtr 42 (tq 56) (.const (.int .u64 9999)) 42), mq 58 57, .op ⟨some 59, .fieldAddr 44 (tq 1) 4, some (58, false)⟩, .op ⟨some 60, .load 3 (tq 59), some (58, false)⟩, .op ⟨some 61, .binOp .lss 3 (tq 60) (cq 0) 3, some (58, false)⟩, oq 62 (.pick (tq 58) (.const (.bool true)) (tq 61)), mq 63 62, .op ⟨some 64, .fieldAddr 44 (tq 1) 4, some (63, false)⟩, .op ⟨some 65, .load 3 (tq 64), some (63, false)⟩, .op ⟨some 66, .fieldAddr 44 (tq 1) 3, some (63, false)⟩, .op ⟨some 67, .load 42 (tq 66), some (63, false)⟩, .op ⟨some 68, .convert 42 3 (tq 67), some (63, false)⟩, .op ⟨some 69, .binOp .gtr 3 (tq 65) (tq 68) 3, some (63, false)⟩, oq 70 (.pick (tq 63) (.const (.bool true)) (tq 69)), mq 71 70, .op ⟨some 72, .fieldAddr 44 (tq 1) 5, some (71, false)⟩, .op ⟨some 73, .load 3 (tq 72), some (71, false)⟩, .op ⟨some 74, .binOp .lss 3 (tq 73) (cq 0) 3, some (71, false)⟩, oq 75 (.pick (tq 71) (.const (.bool true)) (tq 74)), mq 76 75, .op ⟨some 77, .fieldAddr 44 (tq 1) 5, some (76, false)⟩, .op ⟨some 78, .load 3 (tq 77), some (76, false)⟩, .op ⟨some 79, .binOp .gtr 3 (tq 78) (cq 65536) 3, some (76, false)⟩, oq 80 (.pick (tq 76) (.const (.bool true)) (tq 79)), oq 4 (.assign (tq 80))] ∧
 RG 76 20 [oq 82 (.binOp .eql 3 (tq 21) (cq 25) 3), oq 81 (.assign (tq 82))] ∧
 RG 76 21 [oq 83 (.fieldAddr 44 (tq 1) 3), oq 84 (.load 42 (tq 83)), oq 85 (.binOp .gtr 42 (tq 84) (.const (.int .u64 1)) 42), oq 4 (.assign (tq 85))] ∧
 RG 76 22 [oq 87 (.binOp .eql 3 (tq 21) (cq 26) 3), oq 86 (.assign (tq 87))] ∧
 RG 76 23 [oq 88 (.fieldAddr 44 (tq 1) 3), oq 89 (.load 42 (tq 88)), oq 90 (.binOp .gtr 42 (tq 89) (.const (.int .u64 65536)) 42), oq 4 (.assign (tq 90))] ∧
 RG 76 24 [oq 92 (.binOp .eql 3 (tq 21) (cq 27) 3), oq 91 (.assign (tq 92))] ∧
 RG 76 25 [oq 93 (.fieldAddr 44 (tq 1) 3), oq 94 (.load 42 (tq 93)), oq 95 (.binOp .geq 42 (tq 94) (.const (.int .u64 13)) 42), oq 4 (.assign (tq 95))] ∧
 RG 76 26 [oq 97 (.binOp .eql 3 (tq 21) (cq 28) 3), oq 96 (.assign (tq 97))] ∧
 RG 76 27 [oq 98 (.fieldAddr 44 (tq 1) 3), oq 99 (.load 42 (tq 98)), oq 100 (.binOp .geq 42 (tq 99) (.const (.int .u64 19)) 42), oq 4 (.assign (tq 100))] ∧
 RG 76 28 [mq 101 4, oq 102 (.call (.mk (.value (.func 106)) #[(tq 101), (cq 3)] #[4,3])), oq 2 (.assign (tq 102))] := by and_intros <;> exact rgo fun _ => by kernel_rfl
theorem enter76 : ENT 76 103 [.tmp 2] (.seq (Rg 76 0) (.seq (Rg 76 1) (.seq (.seq (Rg 76 2) (.cond (.tmp 19) (.seq (Rg 76 3) .ret) .skip)) (.seq (Rg 76 4) (.seq (.seq (Rg 76 5) (.block 0 (.seq (.seq (Rg 76 6) (.cond (.tmp 22) .skip (.seq (Rg 76 7) (.cond (.tmp 22) .skip (Rg 76 8))))) (.cond (.tmp 22) (Rg 76 9) (.seq (.seq (Rg 76 10) (.cond (.tmp 29) .skip (.seq (Rg 76 11) (.cond (.tmp 29) .skip (Rg 76 12))))) (.cond (.tmp 29) (Rg 76 13) (.seq (Rg 76 14) (.cond (.tmp 36) (Rg 76 15) (.seq (Rg 76 16) (.cond (.tmp 41) (Rg 76 17) (.seq (Rg 76 18) (.cond (.tmp 53) (Rg 76 19) (.seq (Rg 76 20) (.cond (.tmp 81) (Rg 76 21) (.seq (Rg 76 22) (.cond (.tmp 86) (Rg 76 23) (.seq (Rg 76 24) (.cond (.tmp 91) (Rg 76 25) (.seq (Rg 76 26) (.cond (.tmp 96) (Rg 76 27) .skip)))))))))))))))))))) (.seq (Rg 76 28) .ret)))))) := ent Tryz.f76 (by kernel_rfl)
/- bowline/bowlineref26.rowOf -/
theorem fF42 : RG 42 0 [oq 2 (.alloc 117)] ∧
 RG 42 1 [oq 4 (.build 117 #[(0, (sq #[99,111,110,115,116])), (1, (sq #[110])), (2, (cq 0)), (3, (cq 1))]), oq 5 (.build 117 #[(0, (sq #[119,111,114,100])), (1, (sq #[119])), (2, (cq 0)), (3, (cq 1))]), oq 6 (.build 117 #[(0, (sq #[103,101,116])), (1, (sq #[110])), (2, (cq 0)), (3, (cq 1))]), oq 7 (.build 117 #[(0, (sq #[115,101,116])), (1, (sq #[110])), (2, (cq 1)), (3, (cq 0))]), oq 8 (.build 117 #[(0, (sq #[116,101,101])), (1, (sq #[110])), (2, (cq 1)), (3, (cq 1))]), oq 9 (.build 117 #[(0, (sq #[100,114,111,112])), (1, (sq #[])), (2, (cq 1)), (3, (cq 0))]), oq 10 (.build 117 #[(0, (sq #[117,110,97,114,121])), (1, (sq #[116,110])), (2, (cq 1)), (3, (cq 1))]), oq 11 (.build 117 #[(0, (sq #[98,105,110,97,114,121])), (1, (sq #[116,110])), (2, (cq 2)), (3, (cq 1))]), oq 12 (.build 117 #[(0, (sq #[99,111,110,118,101,114,116])), (1, (sq #[116,117,110])), (2, (cq 1)), (3, (cq 1))]), oq 13 (.build 117 #[(0, (sq #[108,111,97,100])), (1, (sq #[116,115])), (2, (cq 1)), (3, (cq 1))]), oq 14 (.build 117 #[(0, (sq #[115,116,111,114,101])), (1, (sq #[116,115])), (2, (cq 2)), (3, (cq 0))]), oq 15 (.build 117 #[(0, (sq #[108,101,97])), (1, (sq #[115])), (2, (cq 1)), (3, (cq 1))]), oq 16 (.build 117 #[(0, (sq #[105,110,100,101,120])), (1, (sq #[115])), (2, (cq 2)), (3, (cq 1))]), oq 17 (.build 117 #[(0, (sq #[99,111,112,121])), (1, (sq #[110])), (2, (cq 2)), (3, (cq 0))]), oq 18 (.build 117 #[(0, (sq #[97,108,108,111,99])), (1, (sq #[110])), (2, (cq 1)), (3, (cq 1))]), oq 19 (.build 117 #[(0, (sq #[102,114,101,101])), (1, (sq #[])), (2, (cq 1)), (3, (cq 0))]), oq 20 (.build 117 #[(0, (sq #[111,117,116])), (1, (sq #[116])), (2, (cq 1)), (3, (cq 0))]), oq 21 (.build 117 #[(0, (sq #[112,114,105,110,116])), (1, (sq #[])), (2, (cq 2)), (3, (cq 0))]), oq 22 (.build 117 #[(0, (sq #[116,114,97,99,101])), (1, (sq #[])), (2, (cq 0)), (3, (cq 0))]), oq 23 (.build 117 #[(0, (sq #[102,111,114,103,101,116])), (1, (sq #[])), (2, (cq 0)), (3, (cq 0))]), oq 24 (.build 117 #[(0, (sq #[106,117,109,112])), (1, (sq #[100])), (2, (cq 0)), (3, (cq 0))]), oq 25 (.build 117 #[(0, (sq #[98,114,97,110,99,104])), (1, (sq #[100])), (2, (cq 1)), (3, (cq 0))]), oq 26 (.build 117 #[(0, (sq #[99,97,115,101])), (1, (sq #[116,119,100])), (2, (cq 1)), (3, (cq 1))]), oq 27 (.build 117 #[(0, (sq #[99,97,108,108])), (1, (sq #[100])), (2, (cq 0)), (3, (cq 0))]), oq 28 (.build 117 #[(0, (sq #[101,110,116,101,114])), (1, (sq #[101])), (2, (cq 0)), (3, (cq 0))]), oq 29 (.build 117 #[(0, (sq #[114,101,116,117,114,110])), (1, (sq #[110])), (2, (cq 0)), (3, (cq 0))]), oq 30 (.build 117 #[(0, (sq #[102,114,97,109,101])), (1, (sq #[110])), (2, (cq 0)), (3, (cq 1))]), oq 31 (.build 117 #[(0, (sq #[116,114,97,112])), (1, (sq #[110])), (2, (cq 0)), (3, (cq 0))]), oq 32 (.build 117 #[(0, (sq #[99,114,97,115,104])), (1, (sq #[110])), (2, (cq 0)), (3, (cq 0))]), oq 33 (.buildSlice 152 29 #[(0, (tq 4)), (1, (tq 5)), (2, (tq 6)), (3, (tq 7)), (4, (tq 8)), (5, (tq 9)), (6, (tq 10)), (7, (tq 11)), (8, (tq 12)), (9, (tq 13)), (10, (tq 14)), (11, (tq 15)), (12, (tq 16)), (13, (tq 17)), (14, (tq 18)), (15, (tq 19)), (16, (tq 20)), (17, (tq 21)), (18, (tq 22)), (19, (tq 23)), (20, (tq 24)), (21, (tq 25)), (22, (tq 26)), (23, (tq 27)), (24, (tq 28)), (25, (tq 29)), (26, (tq 30)), (27, (tq 31)), (28, (tq 32))]), oq 3 (.assign (tq 33))] ∧
 RG 42 2 [mq 34 3, mq 35 0, oq 36 (.indexAddr 152 (tq 34) (tq 35)), oq 37 (.load 117 (tq 36)), .op ⟨none, .store 117 (tq 2) (tq 37), none⟩] := by and_intros <;> exact rgo fun _ => by kernel_rfl
theorem enter42 : ENT 42 38 [.cell 2 117] (.seq (Rg 42 0) (.seq (Rg 42 1) (.seq (Rg 42 2) .ret))) := ent Tryz.f42 (by kernel_rfl)
/- bowline/bowlineref26.signed -/
theorem fF45 : RG 45 0 [oq 2 (.assign (.const (.int .u64 0)))] ∧
 RG 45 1 [mq 3 0, oq 4 (.binOp .lss 3 (tq 3) (cq 0) 3)] ∧
 RG 45 2 [mq 5 0, oq 6 (.binOp .mul 3 (cq (-2)) (tq 5) 3), oq 7 (.binOp .sub 3 (tq 6) (cq 1) 3), oq 8 (.convert 3 42 (tq 7)), oq 2 (.assign (tq 8))] ∧
 RG 45 3 [mq 9 0, oq 10 (.binOp .mul 3 (cq 2) (tq 9) 3), oq 11 (.convert 3 42 (tq 10)), oq 2 (.assign (tq 11))] := by and_intros <;> exact rgo fun _ => by kernel_rfl
theorem enter45 : ENT 45 12 [.tmp 2] (.seq (Rg 45 0) (.seq (.seq (Rg 45 1) (.cond (.tmp 4) (.seq (Rg 45 2) .ret) .skip)) (.seq (Rg 45 3) .ret))) := ent Tryz.f45 (by kernel_rfl)
/- bowline/bowlineref26.types -/
theorem fF75 : RG 75 0 [oq 4 (.assign (cq 0))] ∧
 RG 75 1 [mq 8 0, oq 9 (.call (.mk (.value (.func 43)) #[(tq 8)] #[9])), mq 7 9, oq 10 (.extract (tq 7) 0), oq 11 (.extract (tq 7) 1), oq 5 (.assign (tq 10)), oq 6 (.assign (tq 11))] ∧
 RG 75 2 [mq 12 6, oq 13 (.binOp .neq 3 (tq 12) (cq 0) 3), mq 14 13, .op ⟨some 15, .move (tq 0), some (14, false)⟩, .op ⟨some 16, .binOp .eql 9 (tq 15) (sq #[]) 9, some (14, false)⟩, .op ⟨some 17, .move (tq 1), some (14, false)⟩, .op ⟨some 18, .binOp .eql 4 (tq 16) (tq 17) 4, some (14, false)⟩, oq 19 (.pick (tq 14) (.const (.bool true)) (tq 18)), oq 20 (.call (.mk (.value (.func 106)) #[(tq 19), (cq 12)] #[4,3])), oq 4 (.assign (tq 20))] := by and_intros <;> exact rgo fun _ => by kernel_rfl
theorem enter75 : ENT 75 21 [.tmp 4] (.seq (Rg 75 0) (.seq (Rg 75 1) (.seq (Rg 75 2) .ret))) := ent Tryz.f75 (by kernel_rfl)
/- internal/strconv.Atoi -/
theorem fF299 : RG 299 0 [oq 2 (.assign (cq 0)), oq 3 (.assign (.const .nilIface))] ∧
 RG 299 1 [mq 11 0, oq 12 (.call (.mk (.builtin .len) #[(tq 11)] #[9])), oq 4 (.assign (tq 12))] ∧
 RG 299 2 [oq 13 (.move (.const (.bool false))), .op ⟨some 14, .move (tq 4), some (13, true)⟩, .op ⟨some 15, .binOp .lss 3 (cq 0) (tq 14) 3, some (13, true)⟩, .op ⟨some 16, .move (tq 15), some (13, true)⟩, .op ⟨some 17, .move (tq 4), some (16, true)⟩, .op ⟨some 18, .binOp .lss 3 (tq 17) (cq 10) 3, some (16, true)⟩, .op ⟨some 19, .pick (tq 16) (tq 18) (.const (.bool false)), some (13, true)⟩, oq 20 (.pick (tq 13) (tq 19) (.const (.bool false))), mq 21 20, .op ⟨some 22, .move (.const (.bool true)), some (21, false)⟩, .op ⟨some 23, .move (tq 4), some (22, true)⟩, .op ⟨some 24, .binOp .lss 3 (cq 0) (tq 23) 3, some (22, true)⟩, .op ⟨some 25, .move (tq 24), some (22, true)⟩, .op ⟨some 26, .move (tq 4), some (25, true)⟩, .op ⟨some 27, .binOp .lss 3 (tq 26) (cq 19) 3, some (25, true)⟩, .op ⟨some 28, .pick (tq 25) (tq 27) (.const (.bool false)), some (22, true)⟩, .op ⟨some 29, .pick (tq 22) (tq 28) (.const (.bool false)), some (21, false)⟩, oq 30 (.pick (tq 21) (.const (.bool true)) (tq 29))] ∧
 RG 299 3 [mq 31 0, oq 5 (.assign (tq 31))] ∧
 RG 299 4 [mq 32 0, oq 33 (.index 9 (tq 32) (cq 0)), oq 34 (.binOp .eql 5 (tq 33) (.const (.int .u8 45)) 5), mq 35 34, .op ⟨some 36, .move (tq 0), some (35, false)⟩, .op ⟨some 37, .index 9 (tq 36) (cq 0), some (35, false)⟩, .op ⟨some 38, .binOp .eql 5 (tq 37) (.const (.int .u8 43)) 5, some (35, false)⟩, oq 39 (.pick (tq 35) (.const (.bool true)) (tq 38))] ∧
 RG 299 5 [mq 40 0, oq 41 (.slice 9 (tq 40) (some (cq 1)) none none), oq 0 (.assign (tq 41))] ∧
 RG 299 6 [mq 42 0, oq 43 (.call (.mk (.builtin .len) #[(tq 42)] #[9])), oq 44 (.binOp .lss 3 (tq 43) (cq 1) 3)] ∧
 RG 299 7 [oq 45 (.makeInterface 365 (cq 2)), oq 2 (.assign (cq 0)), oq 3 (.assign (tq 45))] ∧
 RG 299 8 [oq 6 (.assign (cq 0))] ∧
 RG 299 9 [mq 46 0, oq 47 (.convert 9 23 (tq 46)), oq 48 (.call (.mk (.builtin .len) #[(tq 47)] #[23])), oq 49 (.move (cq 0))] ∧
 RG 299 10 [oq 50 (.binOp .lss 3 (tq 49) (tq 48) 3)] ∧
 RG 299 11 [oq 51 (.indexAddr 23 (tq 47) (tq 49)), oq 52 (.load 5 (tq 51)), oq 8 (.assign (tq 52))] ∧
 RG 299 12 [mq 53 8, oq 54 (.binOp .sub 5 (tq 53) (.const (.int .u8 48)) 5), oq 8 (.assign (tq 54))] ∧
 RG 299 13 [mq 55 8, oq 56 (.binOp .gtr 5 (tq 55) (.const (.int .u8 9)) 5)] ∧
 RG 299 14 [oq 57 (.makeInterface 365 (cq 2)), oq 2 (.assign (cq 0)), oq 3 (.assign (tq 57))] ∧
 RG 299 15 [mq 58 6, oq 59 (.binOp .mul 3 (tq 58) (cq 10) 3), mq 60 8, oq 61 (.convert 5 3 (tq 60)), oq 62 (.binOp .add 3 (tq 59) (tq 61) 3), oq 6 (.assign (tq 62))] ∧
 RG 299 16 [oq 63 (.binOp .add 3 (tq 49) (cq 1) 3), mq 49 63] ∧
 RG 299 17 [mq 64 5, oq 65 (.index 9 (tq 64) (cq 0)), oq 66 (.binOp .eql 5 (tq 65) (.const (.int .u8 45)) 5)] ∧
 RG 299 18 [mq 67 6, oq 68 (.unOp .neg 3 (tq 67)), oq 6 (.assign (tq 68))] ∧
 RG 299 19 [mq 69 6, oq 2 (.assign (tq 69)), oq 3 (.assign (.const .nilIface))] ∧
 RG 299 20 [mq 71 0, oq 72 (.call (.mk (.value (.func 321)) #[(tq 71), (cq 10), (cq 0)] #[9,3,3])), mq 70 72, oq 73 (.extract (tq 70) 0), oq 74 (.extract (tq 70) 1), oq 9 (.assign (tq 73)), oq 10 (.assign (tq 74))] ∧
 RG 299 21 [mq 75 9, mq 76 10, oq 2 (.assign (tq 75)), oq 3 (.assign (tq 76))] := by and_intros <;> exact rgo fun _ => by kernel_rfl
theorem enter299 : ENT 299 77 [.tmp 2, .tmp 3] (.seq (Rg 299 0) (.seq (Rg 299 1) (.seq (.seq (Rg 299 2) (.cond (.tmp 30) (.seq (Rg 299 3) (.seq (.seq (Rg 299 4) (.cond (.tmp 39) (.seq (Rg 299 5) (.seq (Rg 299 6) (.cond (.tmp 44) (.seq (Rg 299 7) .ret) .skip))) .skip)) (.seq (Rg 299 8) (.seq (.seq (Rg 299 9) (.block 0 (.loop (.seq (Rg 299 10) (.seq (.cond (.tmp 50) .skip (Code.exit 0)) (.seq (.block 1 (.seq (Rg 299 11) (.seq (Rg 299 12) (.seq (.seq (Rg 299 13) (.cond (.tmp 56) (.seq (Rg 299 14) .ret) .skip)) (Rg 299 15))))) (Rg 299 16))))))) (.seq (.seq (Rg 299 17) (.cond (.tmp 66) (Rg 299 18) .skip)) (.seq (Rg 299 19) .ret)))))) .skip)) (.seq (Rg 299 20) (.seq (Rg 299 21) .ret))))) := ent Tryz.f299 (by kernel_rfl)
/- bowline/ops.Converts -/
theorem fF104 : RG 104 0 [oq 6 (.assign (.const (.bool false)))] ∧
 RG 104 1 [mq 16 1, oq 17 (.call (.mk (.value (.func 132)) #[(tq 16)] #[9])), mq 15 17, oq 18 (.extract (tq 15) 0), oq 19 (.extract (tq 15) 1), oq 7 (.alloc 204), .op ⟨none, .store 204 (tq 7) (tq 18), none⟩, oq 8 (.assign (tq 19))] ∧
 RG 104 2 [mq 21 2, oq 22 (.call (.mk (.value (.func 132)) #[(tq 21)] #[9])), mq 20 22, oq 23 (.extract (tq 20) 0), oq 24 (.extract (tq 20) 1), oq 9 (.alloc 204), .op ⟨none, .store 204 (tq 9) (tq 23), none⟩, oq 10 (.assign (tq 24))] ∧
 RG 104 3 [mq 26 1, oq 27 (.call (.mk (.value (.func 105)) #[(tq 26)] #[9])), mq 25 27, oq 28 (.extract (tq 25) 0), oq 29 (.extract (tq 25) 1), oq 11 (.assign (tq 28)), oq 12 (.assign (tq 29))] ∧
 RG 104 4 [mq 31 2, oq 32 (.call (.mk (.value (.func 105)) #[(tq 31)] #[9])), mq 30 32, oq 33 (.extract (tq 30) 0), oq 34 (.extract (tq 30) 1), oq 13 (.assign (tq 33)), oq 14 (.assign (tq 34))] ∧
 RG 104 5 [mq 35 0] ∧
 RG 104 6 [oq 37 (.binOp .eql 3 (tq 35) (cq 38) 3), oq 36 (.assign (tq 37))] ∧
 RG 104 7 [oq 38 (.binOp .eql 3 (tq 35) (cq 39) 3), oq 36 (.assign (tq 38))] ∧
 RG 104 8 [mq 39 8, mq 40 39, .op ⟨some 41, .move (tq 10), some (40, true)⟩, oq 42 (.pick (tq 40) (tq 41) (.const (.bool false))), oq 6 (.assign (tq 42))] ∧
 RG 104 9 [oq 44 (.binOp .eql 3 (tq 35) (cq 40) 3), oq 43 (.assign (tq 44))] ∧
 RG 104 10 [mq 45 8, mq 46 45, .op ⟨some 47, .move (tq 10), some (46, true)⟩, oq 48 (.pick (tq 46) (tq 47) (.const (.bool false))), mq 49 48, .op ⟨some 50, .fieldAddr 204 (tq 9) 0, some (49, true)⟩, .op ⟨some 51, .load 3 (tq 50), some (49, true)⟩, .op ⟨some 52, .fieldAddr 204 (tq 7) 0, some (49, true)⟩, .op ⟨some 53, .load 3 (tq 52), some (49, true)⟩, .op ⟨some 54, .binOp .leq 3 (tq 51) (tq 53) 3, some (49, true)⟩, oq 55 (.pick (tq 49) (tq 54) (.const (.bool false))), oq 6 (.assign (tq 55))] ∧
 RG 104 11 [oq 57 (.binOp .eql 3 (tq 35) (cq 41) 3), oq 56 (.assign (tq 57))] ∧
 RG 104 12 [mq 58 12, mq 59 14, oq 60 (.buildSlice 111 2 #[(0, (tq 58)), (1, (tq 59))]), oq 61 (.call (.mk (.value (.func 133)) #[(tq 60)] #[111])), oq 62 (.binOp .eql 26 (tq 61) (cq 0) 26), mq 63 62, .op ⟨some 64, .move (tq 11), some (63, true)⟩, .op ⟨some 65, .move (tq 13), some (63, true)⟩, .op ⟨some 66, .binOp .eql 3 (tq 64) (tq 65) 3, some (63, true)⟩, oq 67 (.pick (tq 63) (tq 66) (.const (.bool false))), mq 68 67, .op ⟨some 69, .move (tq 1), some (68, true)⟩, .op ⟨some 70, .binOp .neq 9 (tq 69) (sq #[112,116,114]) 9, some (68, true)⟩, oq 71 (.pick (tq 68) (tq 70) (.const (.bool false))), mq 72 71, .op ⟨some 73, .move (tq 2), some (72, true)⟩, .op ⟨some 74, .binOp .neq 9 (tq 73) (sq #[112,116,114]) 9, some (72, true)⟩, oq 75 (.pick (tq 72) (tq 74) (.const (.bool false))), oq 6 (.assign (tq 75))] ∧
 RG 104 13 [oq 77 (.binOp .eql 3 (tq 35) (cq 42) 3), oq 76 (.assign (tq 77))] ∧
 RG 104 14 [mq 78 8, mq 79 78, .op ⟨some 80, .move (tq 2), some (79, true)⟩, .op ⟨some 81, .call (.mk (.value (.func 131)) #[(tq 80)] #[9]), some (79, true)⟩, oq 82 (.pick (tq 79) (tq 81) (.const (.bool false))), oq 6 (.assign (tq 82))] ∧
 RG 104 15 [oq 84 (.binOp .eql 3 (tq 35) (cq 43) 3), oq 83 (.assign (tq 84))] ∧
 RG 104 16 [oq 85 (.binOp .eql 3 (tq 35) (cq 44) 3), oq 83 (.assign (tq 85))] ∧
 RG 104 17 [mq 86 1, oq 87 (.call (.mk (.value (.func 131)) #[(tq 86)] #[9])), mq 88 87, .op ⟨some 89, .move (tq 10), some (88, true)⟩, oq 90 (.pick (tq 88) (tq 89) (.const (.bool false))), oq 6 (.assign (tq 90))] ∧
 RG 104 18 [oq 92 (.binOp .eql 3 (tq 35) (cq 45) 3), oq 91 (.assign (tq 92))] ∧
 RG 104 19 [mq 93 1, oq 94 (.call (.mk (.value (.func 131)) #[(tq 93)] #[9])), mq 95 94, .op ⟨some 96, .move (tq 2), some (95, true)⟩, .op ⟨some 97, .call (.mk (.value (.func 131)) #[(tq 96)] #[9]), some (95, true)⟩, oq 98 (.pick (tq 95) (tq 97) (.const (.bool false))), mq 99 98, .op ⟨some 100, .move (tq 1), some (99, true)⟩, .op ⟨some 101, .move (tq 2), some (99, true)⟩, .op ⟨some 102, .binOp .neq 9 (tq 100) (tq 101) 9, some (99, true)⟩, oq 103 (.pick (tq 99) (tq 102) (.const (.bool false))), oq 6 (.assign (tq 103))] ∧
 RG 104 20 [oq 6 (.assign (.const (.bool false)))] := by and_intros <;> exact rgo fun _ => by kernel_rfl
theorem enter104 : ENT 104 104 [.tmp 6] (.seq (Rg 104 0) (.seq (Rg 104 1) (.seq (Rg 104 2) (.seq (Rg 104 3) (.seq (Rg 104 4) (.seq (.seq (Rg 104 5) (.block 0 (.seq (.seq (Rg 104 6) (.cond (.tmp 36) .skip (Rg 104 7))) (.cond (.tmp 36) (.seq (Rg 104 8) .ret) (.seq (Rg 104 9) (.cond (.tmp 43) (.seq (Rg 104 10) .ret) (.seq (Rg 104 11) (.cond (.tmp 56) (.seq (Rg 104 12) .ret) (.seq (Rg 104 13) (.cond (.tmp 76) (.seq (Rg 104 14) .ret) (.seq (.seq (Rg 104 15) (.cond (.tmp 83) .skip (Rg 104 16))) (.cond (.tmp 83) (.seq (Rg 104 17) .ret) (.seq (Rg 104 18) (.cond (.tmp 91) (.seq (Rg 104 19) .ret) .skip)))))))))))))) (.seq (Rg 104 20) .ret))))))) := ent Tryz.f104 (by kernel_rfl)
/- bowline/ops.Form -/
theorem fF102 : RG 102 0 [oq 2 (.assign (cq 0)), oq 3 (.assign (cq 0))] ∧
 RG 102 1 [mq 4 0, oq 5 (.binOp .lss 3 (tq 4) (cq 0) 3), mq 6 5, .op ⟨some 7, .move (tq 0), some (6, false)⟩, .op ⟨some 8, .binOp .geq 3 (tq 7) (cq 70) 3, some (6, false)⟩, oq 9 (.pick (tq 6) (.const (.bool true)) (tq 8))] ∧
 RG 102 2 [oq 2 (.assign (cq 0)), oq 3 (.assign (cq 8))] ∧
 RG 102 3 [mq 10 0, oq 11 (.call (.mk (.value (.func 129)) #[(tq 10)] #[3])), oq 2 (.assign (tq 11)), oq 3 (.assign (cq 0))] := by and_intros <;> exact rgo fun _ => by kernel_rfl
theorem enter102 : ENT 102 12 [.tmp 2, .tmp 3] (.seq (Rg 102 0) (.seq (.seq (Rg 102 1) (.cond (.tmp 9) (.seq (Rg 102 2) .ret) .skip)) (.seq (Rg 102 3) .ret))) := ent Tryz.f102 (by kernel_rfl)
/- bowline/ops.Takes -/
theorem fF103 : RG 103 0 [oq 4 (.assign (.const (.bool false)))] ∧
 RG 103 1 [mq 10 0, oq 11 (.call (.mk (.value (.func 130)) #[(tq 10)] #[3])), mq 9 11, oq 12 (.extract (tq 9) 0), oq 13 (.extract (tq 9) 1), oq 5 (.alloc 199), .op ⟨none, .store 199 (tq 5) (tq 12), none⟩, oq 6 (.assign (tq 13))] ∧
 RG 103 2 [mq 14 6, oq 15 (.unOp .not 4 (tq 14))] ∧
 RG 103 3 [oq 4 (.assign (.const (.bool false)))] ∧
 RG 103 4 [mq 16 1, oq 17 (.call (.mk (.value (.func 131)) #[(tq 16)] #[9]))] ∧
 RG 103 5 [oq 18 (.slice 202 (.global 0) none none none), mq 19 0, oq 20 (.call (.mk (.value (.func 91)) #[(tq 18), (tq 19)] #[48,3])), oq 4 (.assign (tq 20))] ∧
 RG 103 6 [mq 22 1, oq 23 (.call (.mk (.value (.func 132)) #[(tq 22)] #[9])), mq 21 23, oq 24 (.extract (tq 21) 0), oq 25 (.extract (tq 21) 1), oq 7 (.alloc 204), .op ⟨none, .store 204 (tq 7) (tq 24), none⟩, oq 8 (.assign (tq 25))] ∧
 RG 103 7 [mq 26 0] ∧
 RG 103 8 [oq 28 (.binOp .eql 3 (tq 26) (cq 46) 3), oq 27 (.assign (tq 28))] ∧
 RG 103 9 [oq 29 (.binOp .eql 3 (tq 26) (cq 47) 3), oq 27 (.assign (tq 29))] ∧
 RG 103 10 [oq 30 (.binOp .eql 3 (tq 26) (cq 48) 3), oq 27 (.assign (tq 30))] ∧
 RG 103 11 [mq 31 8, mq 32 31, .op ⟨some 33, .fieldAddr 204 (tq 7) 1, some (32, true)⟩, .op ⟨some 34, .load 4 (tq 33), some (32, true)⟩, .op ⟨some 35, .unOp .not 4 (tq 34), some (32, true)⟩, oq 36 (.pick (tq 32) (tq 35) (.const (.bool false))), oq 4 (.assign (tq 36))] ∧
 RG 103 12 [oq 38 (.binOp .eql 3 (tq 26) (cq 49) 3), oq 37 (.assign (tq 38))] ∧
 RG 103 13 [mq 39 8, mq 40 39, .op ⟨some 41, .fieldAddr 204 (tq 7) 1, some (40, true)⟩, .op ⟨some 42, .load 4 (tq 41), some (40, true)⟩, .op ⟨some 43, .unOp .not 4 (tq 42), some (40, true)⟩, oq 44 (.pick (tq 40) (tq 43) (.const (.bool false))), mq 45 44, .op ⟨some 46, .fieldAddr 204 (tq 7) 0, some (45, true)⟩, .op ⟨some 47, .load 3 (tq 46), some (45, true)⟩, .op ⟨some 48, .binOp .rem 3 (tq 47) (cq 8) 3, some (45, true)⟩, .op ⟨some 49, .binOp .eql 3 (tq 48) (cq 0) 3, some (45, true)⟩, oq 50 (.pick (tq 45) (tq 49) (.const (.bool false))), oq 4 (.assign (tq 50))] ∧
 RG 103 14 [mq 51 8, oq 4 (.assign (tq 51))] := by and_intros <;> exact rgo fun _ => by kernel_rfl
theorem enter103 : ENT 103 52 [.tmp 4] (.seq (Rg 103 0) (.seq (.seq (Rg 103 1) (.seq (Rg 103 2) (.cond (.tmp 15) (.seq (Rg 103 3) .ret) .skip))) (.seq (.seq (Rg 103 4) (.cond (.tmp 17) (.seq (Rg 103 5) .ret) .skip)) (.seq (Rg 103 6) (.seq (.seq (Rg 103 7) (.block 0 (.seq (.seq (Rg 103 8) (.cond (.tmp 27) .skip (.seq (Rg 103 9) (.cond (.tmp 27) .skip (Rg 103 10))))) (.cond (.tmp 27) (.seq (Rg 103 11) .ret) (.seq (Rg 103 12) (.cond (.tmp 37) (.seq (Rg 103 13) .ret) .skip)))))) (.seq (Rg 103 14) .ret)))))) := ent Tryz.f103 (by kernel_rfl)
/- bowline/ops.Width -/
theorem fF105 : RG 105 0 [oq 2 (.assign (cq 0)), oq 3 (.assign (cq 0))] ∧
 RG 105 1 [oq 11 (.makeMap 175 none), .op ⟨none, .insert 175 (tq 11) (sq #[112,116,114]) (cq 64), none⟩, mq 12 11, oq 4 (.assign (tq 12))] ∧
 RG 105 2 [oq 13 (.load 208 (.global 1)), oq 14 (.move (cq 0))] ∧
 RG 105 3 [oq 15 (.binOp .lss 3 (tq 14) (cq 2) 3)] ∧
 RG 105 4 [oq 16 (.index 208 (tq 13) (tq 14)), oq 6 (.alloc 207), .op ⟨none, .store 207 (tq 6) (tq 16), none⟩] ∧
 RG 105 5 [mq 17 4, oq 18 (.fieldAddr 207 (tq 6) 0), oq 19 (.load 9 (tq 18)), oq 20 (.fieldAddr 207 (tq 6) 1), oq 21 (.load 3 (tq 20)), .op ⟨none, .mapUpdate 175 (tq 17) (tq 19) (tq 21), none⟩] ∧
 RG 105 6 [oq 22 (.binOp .add 3 (tq 14) (cq 1) 3), mq 14 22] ∧
 RG 105 7 [mq 24 4, mq 25 0, oq 26 (.lookup 175 (tq 24) (tq 25) true), mq 23 26, oq 27 (.extract (tq 23) 0), oq 28 (.extract (tq 23) 1), oq 7 (.assign (tq 27)), oq 8 (.assign (tq 28))] ∧
 RG 105 8 [mq 29 8] ∧
 RG 105 9 [mq 30 7, oq 2 (.assign (tq 30)), oq 3 (.assign (cq 0))] ∧
 RG 105 10 [mq 32 0, oq 33 (.call (.mk (.value (.func 132)) #[(tq 32)] #[9])), mq 31 33, oq 34 (.extract (tq 31) 0), oq 35 (.extract (tq 31) 1), oq 9 (.alloc 204), .op ⟨none, .store 204 (tq 9) (tq 34), none⟩, oq 10 (.assign (tq 35))] ∧
 RG 105 11 [oq 36 (.fieldAddr 204 (tq 9) 0), oq 37 (.load 3 (tq 36)), mq 38 10, oq 39 (.unOp .not 4 (tq 38)), .chk [⟨some 37, .load 3 (tq 36), none⟩], oq 40 (.call (.mk (.value (.func 134)) #[(tq 39), (cq 12)] #[4,26])), oq 2 (.assign (tq 37)), oq 3 (.assign (tq 40)), .chk [⟨some 37, .load 3 (tq 36), none⟩]] := by and_intros <;> exact rgo fun _ => by kernel_rfl
theorem enter105 : ENT 105 41 [.tmp 2, .tmp 3] (.seq (Rg 105 0) (.seq (Rg 105 1) (.seq (.seq (Rg 105 2) (.block 0 (.loop (.seq (Rg 105 3) (.seq (.cond (.tmp 15) .skip (Code.exit 0)) (.seq (.block 1 (.seq (Rg 105 4) (Rg 105 5))) (Rg 105 6))))))) (.seq (.seq (Rg 105 7) (.seq (Rg 105 8) (.cond (.tmp 29) (.seq (Rg 105 9) .ret) .skip))) (.seq (Rg 105 10) (.seq (Rg 105 11) .ret)))))) := ent Tryz.f105 (by kernel_rfl)
/- bowline/ops.first -/
theorem fF133 : RG 133 0 [oq 2 (.assign (cq 0))] ∧
 RG 133 1 [mq 5 0, oq 6 (.call (.mk (.builtin .len) #[(tq 5)] #[111])), oq 7 (.move (cq 0))] ∧
 RG 133 2 [oq 8 (.binOp .lss 3 (tq 7) (tq 6) 3)] ∧
 RG 133 3 [oq 9 (.indexAddr 111 (tq 5) (tq 7)), oq 10 (.load 26 (tq 9)), oq 4 (.assign (tq 10))] ∧
 RG 133 4 [mq 11 4, oq 12 (.binOp .neq 26 (tq 11) (cq 0) 26)] ∧
 RG 133 5 [mq 13 4, oq 2 (.assign (tq 13))] ∧
 RG 133 6 [oq 14 (.binOp .add 3 (tq 7) (cq 1) 3), mq 7 14] ∧
 RG 133 7 [oq 2 (.assign (cq 0))] := by and_intros <;> exact rgo fun _ => by kernel_rfl
theorem enter133 : ENT 133 15 [.tmp 2] (.seq (Rg 133 0) (.seq (.seq (Rg 133 1) (.block 0 (.loop (.seq (Rg 133 2) (.seq (.cond (.tmp 8) .skip (Code.exit 0)) (.seq (.block 1 (.seq (Rg 133 3) (.seq (Rg 133 4) (.cond (.tmp 12) (.seq (Rg 133 5) .ret) .skip)))) (Rg 133 6))))))) (.seq (Rg 133 7) .ret))) := ent Tryz.f133 (by kernel_rfl)
/- bowline/ops.form -/
theorem fF129 : RG 129 0 [oq 2 (.assign (cq 0))] ∧
 RG 129 1 [mq 5 0, oq 6 (.binOp .geq 3 (tq 5) (cq 38) 3), mq 7 6, .op ⟨some 8, .move (tq 0), some (7, true)⟩, .op ⟨some 9, .binOp .leq 3 (tq 8) (cq 45) 3, some (7, true)⟩, oq 10 (.pick (tq 7) (tq 9) (.const (.bool false)))] ∧
 RG 129 2 [oq 2 (.assign (cq 4))] ∧
 RG 129 3 [mq 12 0, oq 13 (.call (.mk (.value (.func 130)) #[(tq 12)] #[3])), mq 11 13, oq 14 (.extract (tq 11) 0), oq 15 (.extract (tq 11) 1), oq 3 (.alloc 199), .op ⟨none, .store 199 (tq 3) (tq 14), none⟩, oq 4 (.assign (tq 15))] ∧
 RG 129 4 [oq 16 (.fieldAddr 199 (tq 3) 1), oq 17 (.load 3 (tq 16)), oq 2 (.assign (tq 17))] := by and_intros <;> exact rgo fun _ => by kernel_rfl
theorem enter129 : ENT 129 18 [.tmp 2] (.seq (Rg 129 0) (.seq (.seq (Rg 129 1) (.cond (.tmp 10) (.seq (Rg 129 2) .ret) .skip)) (.seq (Rg 129 3) (.seq (Rg 129 4) .ret)))) := ent Tryz.f129 (by kernel_rfl)
/- bowline/ops.integer -/
theorem fF132 : RG 132 0 [oq 2 (.alloc 204), oq 3 (.assign (.const (.bool false)))] ∧
 RG 132 1 [mq 8 0, oq 9 (.call (.mk (.value (.func 167)) #[(tq 8)] #[9])), mq 7 9, oq 10 (.extract (tq 7) 0), oq 11 (.extract (tq 7) 1), oq 12 (.extract (tq 7) 2), oq 4 (.assign (tq 10)), oq 5 (.assign (tq 11)), oq 6 (.assign (tq 12))] ∧
 RG 132 2 [mq 13 4, mq 14 5, oq 15 (.build 204 #[(0, (tq 13)), (1, (tq 14))]), mq 16 6, oq 17 (.binOp .eql 26 (tq 16) (cq 0) 26), .op ⟨none, .store 204 (tq 2) (tq 15), none⟩, oq 3 (.assign (tq 17))] := by and_intros <;> exact rgo fun _ => by kernel_rfl
theorem enter132 : ENT 132 18 [.cell 2 204, .tmp 3] (.seq (Rg 132 0) (.seq (Rg 132 1) (.seq (Rg 132 2) .ret))) := ent Tryz.f132 (by kernel_rfl)
/- bowline/ops.isFloat -/
theorem fF131 : RG 131 0 [oq 2 (.assign (.const (.bool false)))] ∧
 RG 131 1 [oq 5 (.load 208 (.global 1)), oq 6 (.move (cq 0))] ∧
 RG 131 2 [oq 7 (.binOp .lss 3 (tq 6) (cq 2) 3)] ∧
 RG 131 3 [oq 8 (.index 208 (tq 5) (tq 6)), oq 4 (.alloc 207), .op ⟨none, .store 207 (tq 4) (tq 8), none⟩] ∧
 RG 131 4 [oq 9 (.fieldAddr 207 (tq 4) 0), oq 10 (.load 9 (tq 9)), mq 11 0, oq 12 (.binOp .eql 9 (tq 10) (tq 11) 9)] ∧
 RG 131 5 [oq 2 (.assign (.const (.bool true)))] ∧
 RG 131 6 [oq 13 (.binOp .add 3 (tq 6) (cq 1) 3), mq 6 13] ∧
 RG 131 7 [oq 2 (.assign (.const (.bool false)))] := by and_intros <;> exact rgo fun _ => by kernel_rfl
theorem enter131 : ENT 131 14 [.tmp 2] (.seq (Rg 131 0) (.seq (.seq (Rg 131 1) (.block 0 (.loop (.seq (Rg 131 2) (.seq (.cond (.tmp 7) .skip (Code.exit 0)) (.seq (.block 1 (.seq (Rg 131 3) (.seq (Rg 131 4) (.cond (.tmp 12) (.seq (Rg 131 5) .ret) .skip)))) (Rg 131 6))))))) (.seq (Rg 131 7) .ret))) := ent Tryz.f131 (by kernel_rfl)
/- bowline/ops.when -/
theorem fF134 : RG 134 0 [oq 4 (.assign (cq 0))] ∧
 RG 134 1 [mq 5 0] ∧
 RG 134 2 [mq 6 1, oq 4 (.assign (tq 6))] ∧
 RG 134 3 [oq 4 (.assign (cq 0))] := by and_intros <;> exact rgo fun _ => by kernel_rfl
theorem enter134 : ENT 134 7 [.tmp 4] (.seq (Rg 134 0) (.seq (.seq (Rg 134 1) (.cond (.tmp 5) (.seq (Rg 134 2) .ret) .skip)) (.seq (Rg 134 3) .ret))) := ent Tryz.f134 (by kernel_rfl)
/- bowline/regmachine.Code -/
theorem fF69 : RG 69 0 [oq 2 (.assign (cq 0)), oq 3 (.assign (cq 0))] ∧
 RG 69 1 [oq 9 (.makeMap 175 none), .op ⟨none, .insert 175 (tq 9) (sq #[102,51,50]) (cq 129), none⟩, .op ⟨none, .insert 175 (tq 9) (sq #[102,54,52]) (cq 130), none⟩, .op ⟨none, .insert 175 (tq 9) (sq #[112,116,114]) (cq 131), none⟩, .op ⟨none, .insert 175 (tq 9) (sq #[]) (cq 255), none⟩, mq 10 9, oq 4 (.assign (tq 10))] ∧
 RG 69 2 [mq 12 4, mq 13 0, oq 14 (.lookup 175 (tq 12) (tq 13) true), mq 11 14, oq 15 (.extract (tq 11) 0), oq 16 (.extract (tq 11) 1), oq 5 (.assign (tq 15)), oq 6 (.assign (tq 16))] ∧
 RG 69 3 [mq 17 6] ∧
 RG 69 4 [mq 18 5, oq 2 (.assign (tq 18)), oq 3 (.assign (cq 0))] ∧
 RG 69 5 [mq 20 0, oq 21 (.call (.mk (.value (.func 105)) #[(tq 20)] #[9])), mq 19 21, oq 22 (.extract (tq 19) 0), oq 23 (.extract (tq 19) 1), oq 7 (.assign (tq 22)), oq 8 (.assign (tq 23))] ∧
 RG 69 6 [mq 24 8, oq 25 (.binOp .neq 26 (tq 24) (cq 0) 26)] ∧
 RG 69 7 [oq 2 (.assign (cq 0)), oq 3 (.assign (cq 12))] ∧
 RG 69 8 [mq 26 0, oq 27 (.index 9 (tq 26) (cq 0)), oq 28 (.binOp .eql 5 (tq 27) (.const (.int .u8 105)) 5)] ∧
 RG 69 9 [mq 29 7, oq 30 (.binOp .add 3 (tq 29) (cq 64) 3), oq 7 (.assign (tq 30))] ∧
 RG 69 10 [mq 31 7, oq 2 (.assign (tq 31)), oq 3 (.assign (cq 0))] := by and_intros <;> exact rgo fun _ => by kernel_rfl
theorem enter69 : ENT 69 32 [.tmp 2, .tmp 3] (.seq (Rg 69 0) (.seq (Rg 69 1) (.seq (.seq (Rg 69 2) (.seq (Rg 69 3) (.cond (.tmp 17) (.seq (Rg 69 4) .ret) .skip))) (.seq (Rg 69 5) (.seq (.seq (Rg 69 6) (.cond (.tmp 25) (.seq (Rg 69 7) .ret) .skip)) (.seq (.seq (Rg 69 8) (.cond (.tmp 28) (Rg 69 9) .skip)) (.seq (Rg 69 10) .ret))))))) := ent Tryz.f69 (by kernel_rfl)
/- slices.Concat[[]byte,byte] -/
theorem r22_0 : RG 22 0 [oq 2 (.assign (.const (.slice none 0 0)))] := rgo fun _ => by kernel_rfl
theorem r22_1 : RG 22 1 [oq 3 (.assign (cq 0))] := rgo fun _ => by kernel_rfl
theorem r22_2 : RG 22 2 [mq 9 0, oq 10 (.call (.mk (.builtin .len) #[(tq 9)] #[69])), oq 11 (.move (cq 0))] := rgo fun _ => by kernel_rfl
theorem r22_3 : RG 22 3 [oq 12 (.binOp .lss 3 (tq 11) (tq 10) 3)] := rgo fun _ => by kernel_rfl
theorem r22_4 : RG 22 4 [oq 13 (.indexAddr 69 (tq 9) (tq 11)), oq 14 (.load 23 (tq 13)), oq 5 (.assign (tq 14))] := rgo fun _ => by kernel_rfl
theorem r22_5 : RG 22 5 [mq 15 3, mq 16 5, oq 17 (.call (.mk (.builtin .len) #[(tq 16)] #[23])), oq 18 (.binOp .add 3 (tq 15) (tq 17) 3), oq 3 (.assign (tq 18))] := rgo fun _ => by kernel_rfl
theorem r22_6 : RG 22 6 [mq 19 3, oq 20 (.binOp .lss 3 (tq 19) (cq 0) 3)] := rgo fun _ => by kernel_rfl
theorem r22_7 : RG 22 7 [oq 21 (.makeInterface 9 (sq #[108,101,110,32,111,117,116,32,111,102,32,114,97,110,103,101])), .op ⟨none, .panic (tq 21), none⟩] := rgo fun _ => by kernel_rfl
theorem r22_8 : RG 22 8 [oq 22 (.binOp .add 3 (tq 11) (cq 1) 3), mq 11 22] := rgo fun _ => by kernel_rfl
theorem r22_9 : RG 22 9 [mq 23 3, oq 24 (.call (.mk (.value (.func 39)) #[(.const (.slice none 0 0)), (tq 23)] #[23,3])), oq 6 (.assign (tq 24))] := rgo fun _ => by kernel_rfl
theorem r22_10 : RG 22 10 [mq 25 0, oq 26 (.call (.mk (.builtin .len) #[(tq 25)] #[69])), oq 27 (.move (cq 0))] := rgo fun _ => by kernel_rfl
theorem r22_11 : RG 22 11 [oq 28 (.binOp .lss 3 (tq 27) (tq 26) 3)] := rgo fun _ => by kernel_rfl
theorem r22_12 : RG 22 12 [oq 29 (.indexAddr 69 (tq 25) (tq 27)), oq 30 (.load 23 (tq 29)), oq 8 (.assign (tq 30))] := rgo fun _ => by kernel_rfl
theorem r22_13 : RG 22 13 [mq 31 6, mq 32 8, oq 33 (.call (.mk (.builtin .append) #[(tq 31), (tq 32)] #[23,23])), oq 6 (.assign (tq 33))] := rgo fun _ => by kernel_rfl
theorem r22_14 : RG 22 14 [oq 34 (.binOp .add 3 (tq 27) (cq 1) 3), mq 27 34] := rgo fun _ => by kernel_rfl
theorem r22_15 : RG 22 15 [mq 35 6, oq 2 (.assign (tq 35))] := rgo fun _ => by kernel_rfl
def fF22 := And.intro r22_0 <| And.intro r22_1 <| And.intro r22_2 <| And.intro r22_3 <| And.intro r22_4 <| And.intro r22_5 <| And.intro r22_6 <| And.intro r22_7 <| And.intro r22_8 <| And.intro r22_9 <| And.intro r22_10 <| And.intro r22_11 <| And.intro r22_12 <| And.intro r22_13 <| And.intro r22_14 <| r22_15
theorem enter22 : ENT 22 36 [.tmp 2] (.seq (Rg 22 0) (.seq (Rg 22 1) (.seq (.seq (Rg 22 2) (.block 0 (.loop (.seq (Rg 22 3) (.seq (.cond (.tmp 12) .skip (Code.exit 0)) (.seq (.block 1 (.seq (Rg 22 4) (.seq (Rg 22 5) (.seq (Rg 22 6) (.cond (.tmp 20) (Rg 22 7) .skip))))) (Rg 22 8))))))) (.seq (Rg 22 9) (.seq (.seq (Rg 22 10) (.block 2 (.loop (.seq (Rg 22 11) (.seq (.cond (.tmp 28) .skip (Code.exit 2)) (.seq (.block 3 (.seq (Rg 22 12) (Rg 22 13))) (Rg 22 14))))))) (.seq (Rg 22 15) .ret)))))) := ent Tryz.f22 (by kernel_rfl)
/- slices.Contains[[]int,int] -/
theorem fF91 : RG 91 0 [oq 4 (.assign (.const (.bool false)))] ∧
 RG 91 1 [mq 5 0, mq 6 1, oq 7 (.call (.mk (.value (.func 121)) #[(tq 5), (tq 6)] #[48,3])), oq 8 (.binOp .geq 3 (tq 7) (cq 0) 3), oq 4 (.assign (tq 8))] := by and_intros <;> exact rgo fun _ => by kernel_rfl
theorem enter91 : ENT 91 9 [.tmp 4] (.seq (Rg 91 0) (.seq (Rg 91 1) .ret)) := ent Tryz.f91 (by kernel_rfl)
/- slices.Contains[[]uint64,uint64] -/
theorem fF123 : RG 123 0 [oq 4 (.assign (.const (.bool false)))] ∧
 RG 123 1 [mq 5 0, mq 6 1, oq 7 (.call (.mk (.value (.func 158)) #[(tq 5), (tq 6)] #[62,42])), oq 8 (.binOp .geq 3 (tq 7) (cq 0) 3), oq 4 (.assign (tq 8))] := by and_intros <;> exact rgo fun _ => by kernel_rfl
theorem enter123 : ENT 123 9 [.tmp 4] (.seq (Rg 123 0) (.seq (Rg 123 1) .ret)) := ent Tryz.f123 (by kernel_rfl)
/- slices.Grow[[]byte,byte] -/
theorem fF39 : RG 39 0 [oq 4 (.assign (.const (.slice none 0 0)))] ∧
 RG 39 1 [mq 5 1, oq 6 (.binOp .lss 3 (tq 5) (cq 0) 3)] ∧
 RG 39 2 [oq 7 (.makeInterface 9 (sq #[99,97,110,110,111,116,32,98,101,32,110,101,103,97,116,105,118,101])), .op ⟨none, .panic (tq 7), none⟩] ∧
 RG 39 3 [mq 8 1, mq 9 0, oq 10 (.call (.mk (.builtin .cap) #[(tq 9)] #[23])), mq 11 0, oq 12 (.call (.mk (.builtin .len) #[(tq 11)] #[23])), oq 13 (.binOp .sub 3 (tq 10) (tq 12) 3), oq 14 (.binOp .sub 3 (tq 8) (tq 13) 3), oq 1 (.assign (tq 14))] ∧
 RG 39 4 [mq 15 1, oq 16 (.binOp .gtr 3 (tq 15) (cq 0) 3)] ∧
 RG 39 5 [mq 17 0, mq 18 0, oq 19 (.call (.mk (.builtin .cap) #[(tq 18)] #[23])), oq 20 (.slice 23 (tq 17) none (some (tq 19)) none), mq 21 1, oq 22 (.call (.mk (.builtin .append) #[(tq 20), (tq 21)] #[23,3])), mq 23 0, oq 24 (.call (.mk (.builtin .len) #[(tq 23)] #[23])), oq 25 (.slice 23 (tq 22) none (some (tq 24)) none), oq 0 (.assign (tq 25))] ∧
 RG 39 6 [mq 26 0, oq 4 (.assign (tq 26))] := by and_intros <;> exact rgo fun _ => by kernel_rfl
theorem enter39 : ENT 39 27 [.tmp 4] (.seq (Rg 39 0) (.seq (.seq (Rg 39 1) (.cond (.tmp 6) (Rg 39 2) .skip)) (.seq (.seq (Rg 39 3) (.seq (Rg 39 4) (.cond (.tmp 16) (Rg 39 5) .skip))) (.seq (Rg 39 6) .ret)))) := ent Tryz.f39 (by kernel_rfl)
/- slices.Index[[]int,int] -/
theorem fF121 : RG 121 0 [oq 4 (.assign (cq 0))] ∧
 RG 121 1 [mq 6 0, oq 7 (.call (.mk (.builtin .len) #[(tq 6)] #[48])), oq 8 (.move (cq 0))] ∧
 RG 121 2 [oq 9 (.binOp .lss 3 (tq 8) (tq 7) 3)] ∧
 RG 121 3 [mq 10 8, oq 5 (.assign (tq 10))] ∧
 RG 121 4 [mq 11 1, mq 12 0, mq 13 5, oq 14 (.indexAddr 48 (tq 12) (tq 13)), oq 15 (.load 3 (tq 14)), oq 16 (.binOp .eql 3 (tq 11) (tq 15) 3)] ∧
 RG 121 5 [mq 17 5, oq 4 (.assign (tq 17))] ∧
 RG 121 6 [oq 18 (.binOp .add 3 (tq 8) (cq 1) 3), mq 8 18] ∧
 RG 121 7 [oq 4 (.assign (cq (-1)))] := by and_intros <;> exact rgo fun _ => by kernel_rfl
theorem enter121 : ENT 121 19 [.tmp 4] (.seq (Rg 121 0) (.seq (.seq (Rg 121 1) (.block 0 (.loop (.seq (Rg 121 2) (.seq (.cond (.tmp 9) .skip (Code.exit 0)) (.seq (.block 1 (.seq (Rg 121 3) (.seq (Rg 121 4) (.cond (.tmp 16) (.seq (Rg 121 5) .ret) .skip)))) (Rg 121 6))))))) (.seq (Rg 121 7) .ret))) := ent Tryz.f121 (by kernel_rfl)
/- slices.Index[[]uint64,uint64] -/
theorem fF158 : RG 158 0 [oq 4 (.assign (cq 0))] ∧
 RG 158 1 [mq 6 0, oq 7 (.call (.mk (.builtin .len) #[(tq 6)] #[62])), oq 8 (.move (cq 0))] ∧
 RG 158 2 [oq 9 (.binOp .lss 3 (tq 8) (tq 7) 3)] ∧
 RG 158 3 [mq 10 8, oq 5 (.assign (tq 10))] ∧
 RG 158 4 [mq 11 1, mq 12 0, mq 13 5, oq 14 (.indexAddr 62 (tq 12) (tq 13)), oq 15 (.load 42 (tq 14)), oq 16 (.binOp .eql 42 (tq 11) (tq 15) 42)] ∧
 RG 158 5 [mq 17 5, oq 4 (.assign (tq 17))] ∧
 RG 158 6 [oq 18 (.binOp .add 3 (tq 8) (cq 1) 3), mq 8 18] ∧
 RG 158 7 [oq 4 (.assign (cq (-1)))] := by and_intros <;> exact rgo fun _ => by kernel_rfl
theorem enter158 : ENT 158 19 [.tmp 4] (.seq (Rg 158 0) (.seq (.seq (Rg 158 1) (.block 0 (.loop (.seq (Rg 158 2) (.seq (.cond (.tmp 9) .skip (Code.exit 0)) (.seq (.block 1 (.seq (Rg 158 3) (.seq (Rg 158 4) (.cond (.tmp 16) (.seq (Rg 158 5) .ret) .skip)))) (Rg 158 6))))))) (.seq (Rg 158 7) .ret))) := ent Tryz.f158 (by kernel_rfl)
/- bowline/stackmachine.Check -/
theorem r36_0 : RG 36 0 [oq 1 (.box 45 (tq 0)), oq 2 (.assign (cq 0))] := rgo fun _ => by kernel_rfl
theorem r36_1 : RG 36 1 [oq 8 (.fieldAddr 45 (tq 1) 0), oq 9 (.load 3 (tq 8)), oq 10 (.call (.mk (.value (.func 32)) #[(tq 9)] #[3])), mq 7 10, oq 11 (.extract (tq 7) 0), oq 12 (.extract (tq 7) 1), oq 3 (.alloc 98), .op ⟨none, .store 98 (tq 3) (tq 11), none⟩, oq 4 (.assign (tq 12))] := rgo fun _ => by kernel_rfl
theorem r36_2 : RG 36 2 [mq 13 4, oq 14 (.unOp .not 4 (tq 13))] := rgo fun _ => by kernel_rfl
theorem r36_3 : RG 36 3 [oq 2 (.assign (cq 11))] := rgo fun _ => by kernel_rfl
theorem r36_4 : RG 36 4 [oq 15 (.fieldAddr 45 (tq 1) 1), oq 16 (.load 9 (tq 15)), oq 17 (.load 98 (tq 3)), .chk [⟨some 16, .load 9 (tq 15), none⟩, ⟨some 17, .load 98 (tq 3), none⟩], oq 18 (.call (.mk (.value (.func 67)) #[(tq 17), (sq #[84])] #[98,9])), .chk [⟨some 16, .load 9 (tq 15), none⟩], oq 19 (.call (.mk (.value (.func 66)) #[(tq 16), (tq 18)] #[9,4])), mq 20 19, .op ⟨some 21, .fieldAddr 45 (tq 1) 2, some (20, false)⟩, .op ⟨some 22, .load 9 (tq 21), some (20, false)⟩, .op ⟨some 23, .load 98 (tq 3), some (20, false)⟩, .chk [⟨some 22, .load 9 (tq 21), some (20, false)⟩, ⟨some 23, .load 98 (tq 3), some (20, false)⟩], .op ⟨some 24, .call (.mk (.value (.func 67)) #[(tq 23), (sq #[85])] #[98,9]), some (20, false)⟩, .chk [⟨some 22, .load 9 (tq 21), some (20, false)⟩], .op ⟨some 25, .call (.mk (.value (.func 66)) #[(tq 22), (tq 24)] #[9,4]), some (20, false)⟩, oq 26 (.pick (tq 20) (.const (.bool true)) (tq 25)), oq 5 (.assign (tq 26)), .chk []] := rgo fun _ => by kernel_rfl
theorem r36_5 : RG 36 5 [oq 27 (.fieldAddr 45 (tq 1) 3), oq 28 (.load 42 (tq 27)), oq 29 (.binOp .neq 42 (tq 28) (.const (.int .u64 0)) 42), mq 30 29, .op ⟨some 31, .load 98 (tq 3), some (30, true)⟩, .op ⟨some 32, .call (.mk (.value (.func 67)) #[(tq 31), (sq #[110,119,76])] #[98,9]), some (30, true)⟩, .op ⟨some 33, .unOp .not 4 (tq 32), some (30, true)⟩, oq 34 (.pick (tq 30) (tq 33) (.const (.bool false))), mq 35 34, .op ⟨some 36, .fieldAddr 45 (tq 1) 4, some (35, false)⟩, .op ⟨some 37, .load 3 (tq 36), some (35, false)⟩, .op ⟨some 38, .binOp .neq 3 (tq 37) (cq 0) 3, some (35, false)⟩, .op ⟨some 39, .move (tq 38), some (35, false)⟩, .op ⟨some 40, .load 98 (tq 3), some (39, true)⟩, .op ⟨some 41, .call (.mk (.value (.func 67)) #[(tq 40), (sq #[115,100,80])] #[98,9]), some (39, true)⟩, .op ⟨some 42, .unOp .not 4 (tq 41), some (39, true)⟩, .op ⟨some 43, .pick (tq 39) (tq 42) (.const (.bool false)), some (35, false)⟩, oq 44 (.pick (tq 35) (.const (.bool true)) (tq 43)), mq 45 44, .op ⟨some 46, .fieldAddr 45 (tq 1) 5, some (45, false)⟩, .op ⟨some 47, .load 3 (tq 46), some (45, false)⟩, .op ⟨some 48, .binOp .neq 3 (tq 47) (cq 0) 3, some (45, false)⟩, .op ⟨some 49, .move (tq 48), some (45, false)⟩, .op ⟨some 50, .load 98 (tq 3), some (49, true)⟩, .op ⟨some 51, .call (.mk (.value (.func 67)) #[(tq 50), (sq #[70])] #[98,9]), some (49, true)⟩, .op ⟨some 52, .unOp .not 4 (tq 51), some (49, true)⟩, .op ⟨some 53, .pick (tq 49) (tq 52) (.const (.bool false)), some (45, false)⟩, oq 54 (.pick (tq 45) (.const (.bool true)) (tq 53)), oq 6 (.assign (tq 54))] := rgo fun _ => by kernel_rfl
theorem r36_6 : RG 36 6 [mq 55 5, mq 57 6, oq 59 (.fieldAddr 98 (tq 3) 3), oq 60 (.load 96 (tq 59)), oq 61 (.load 45 (tq 1)), oq 65 (.load 45 (tq 1)), .chk [⟨some 60, .load 96 (tq 59), none⟩, ⟨some 61, .load 45 (tq 1), none⟩, ⟨some 65, .load 45 (tq 1), none⟩], oq 56 (.call (.mk (.value (.func 55)) #[(tq 55), (cq 12)] #[4,26])), .chk [⟨some 60, .load 96 (tq 59), none⟩, ⟨some 61, .load 45 (tq 1), none⟩, ⟨some 65, .load 45 (tq 1), none⟩], oq 58 (.call (.mk (.value (.func 55)) #[(tq 57), (cq 1)] #[4,26])), .chk [⟨some 60, .load 96 (tq 59), none⟩, ⟨some 61, .load 45 (tq 1), none⟩, ⟨some 65, .load 45 (tq 1), none⟩], oq 62 (.call (.mk (.value (tq 60)) #[(tq 61)] #[45])), oq 63 (.unOp .not 4 (tq 62)), .chk [⟨some 65, .load 45 (tq 1), none⟩], oq 64 (.call (.mk (.value (.func 55)) #[(tq 63), (cq 3)] #[4,26])), .chk [⟨some 65, .load 45 (tq 1), none⟩], oq 66 (.call (.mk (.value (.func 68)) #[(tq 65)] #[45])), oq 67 (.unOp .not 4 (tq 66)), .chk [], oq 68 (.call (.mk (.value (.func 55)) #[(tq 67), (cq 11)] #[4,26])), oq 69 (.buildSlice 111 4 #[(0, (tq 56)), (1, (tq 58)), (2, (tq 64)), (3, (tq 68))]), .chk [], oq 70 (.call (.mk (.value (.func 37)) #[(tq 69)] #[111])), oq 2 (.assign (tq 70)), .chk []] := rgo fun _ => by kernel_rfl
def fF36 := And.intro r36_0 <| And.intro r36_1 <| And.intro r36_2 <| And.intro r36_3 <| And.intro r36_4 <| And.intro r36_5 <| r36_6
theorem enter36 : ENT 36 71 [.tmp 2] (.seq (Rg 36 0) (.seq (Rg 36 1) (.seq (.seq (Rg 36 2) (.cond (.tmp 14) (.seq (Rg 36 3) .ret) .skip)) (.seq (Rg 36 4) (.seq (Rg 36 5) (.seq (Rg 36 6) .ret)))))) := ent Tryz.f36 (by kernel_rfl)
/- bowline/stackmachine.Decode -/
theorem r9_0 : RG 9 0 [oq 2 (.assign (.const (.slice none 0 0))), oq 3 (.assign (cq 0)), oq 4 (.assign (cq 0))] := rgo fun _ => by kernel_rfl
theorem r9_1 : RG 9 1 [mq 10 0, oq 11 (.call (.mk (.builtin .len) #[(tq 10)] #[23])), oq 12 (.binOp .gtr 3 (tq 11) (cq 65536) 3)] := rgo fun _ => by kernel_rfl
theorem r9_2 : RG 9 2 [oq 2 (.assign (.const (.slice none 0 0))), oq 3 (.assign (cq 0)), oq 4 (.assign (cq 4))] := rgo fun _ => by kernel_rfl
theorem r9_3 : RG 9 3 [oq 5 (.assign (.const (.slice none 0 0)))] := rgo fun _ => by kernel_rfl
theorem r9_4 : RG 9 4 [oq 6 (.assign (cq 0))] := rgo fun _ => by kernel_rfl
theorem r9_5 : RG 9 5 [mq 13 6, mq 14 0, oq 15 (.call (.mk (.builtin .len) #[(tq 14)] #[23])), oq 16 (.binOp .lss 3 (tq 13) (tq 15) 3)] := rgo fun _ => by kernel_rfl
theorem r9_6 : RG 9 6 [mq 18 0, mq 19 6, oq 20 (.slice 23 (tq 18) (some (tq 19)) none none), oq 21 (.call (.mk (.value (.func 27)) #[(tq 20)] #[23])), mq 17 21, oq 22 (.extract (tq 17) 0), oq 23 (.extract (tq 17) 1), oq 24 (.extract (tq 17) 2), oq 7 (.alloc 45), .op ⟨none, .store 45 (tq 7) (tq 22), none⟩, oq 8 (.assign (tq 23)), oq 9 (.assign (tq 24))] := rgo fun _ => by kernel_rfl
theorem r9_7 : RG 9 7 [mq 25 9, oq 26 (.binOp .neq 26 (tq 25) (cq 0) 26)] := rgo fun _ => by kernel_rfl
theorem r9_8 : RG 9 8 [mq 27 6, mq 28 9, oq 2 (.assign (.const (.slice none 0 0))), oq 3 (.assign (tq 27)), oq 4 (.assign (tq 28))] := rgo fun _ => by kernel_rfl
theorem r9_9 : RG 9 9 [mq 29 5, oq 30 (.load 45 (tq 7)), oq 31 (.buildSlice 29 1 #[(0, (tq 30))]), oq 32 (.call (.mk (.builtin .append) #[(tq 29), (tq 31)] #[29,29])), oq 5 (.assign (tq 32))] := rgo fun _ => by kernel_rfl
theorem r9_10 : RG 9 10 [mq 33 6, mq 34 8, oq 35 (.binOp .add 3 (tq 33) (tq 34) 3), oq 6 (.assign (tq 35))] := rgo fun _ => by kernel_rfl
theorem r9_11 : RG 9 11 [mq 36 5, oq 2 (.assign (tq 36)), oq 3 (.assign (cq 0)), oq 4 (.assign (cq 0))] := rgo fun _ => by kernel_rfl
def fF9 := And.intro r9_0 <| And.intro r9_1 <| And.intro r9_2 <| And.intro r9_3 <| And.intro r9_4 <| And.intro r9_5 <| And.intro r9_6 <| And.intro r9_7 <| And.intro r9_8 <| And.intro r9_9 <| And.intro r9_10 <| r9_11
theorem enter9 : ENT 9 37 [.tmp 2, .tmp 3, .tmp 4] (.seq (Rg 9 0) (.seq (.seq (Rg 9 1) (.cond (.tmp 12) (.seq (Rg 9 2) .ret) .skip)) (.seq (Rg 9 3) (.seq (.seq (Rg 9 4) (.block 0 (.loop (.seq (.seq (Rg 9 5) (.cond (.tmp 16) .skip (Code.exit 0))) (.block 1 (.seq (Rg 9 6) (.seq (.seq (Rg 9 7) (.cond (.tmp 26) (.seq (Rg 9 8) .ret) .skip)) (.seq (Rg 9 9) (Rg 9 10))))))))) (.seq (Rg 9 11) .ret))))) := ent Tryz.f9 (by kernel_rfl)
/- bowline/stackmachine.Encode -/
theorem fF6 : RG 6 0 [oq 2 (.assign (.const (.slice none 0 0))), oq 3 (.assign (cq 0))] ∧
 RG 6 1 [mq 5 0, oq 6 (.call (.mk (.value (.func 21)) #[(tq 5)] #[29])), oq 4 (.assign (tq 6))] ∧
 RG 6 2 [mq 7 4, oq 8 (.binOp .neq 26 (tq 7) (cq 0) 26)] ∧
 RG 6 3 [mq 9 4, oq 2 (.assign (.const (.slice none 0 0))), oq 3 (.assign (tq 9))] ∧
 RG 6 4 [mq 10 0, oq 11 (.call (.mk (.value (.func 23)) #[(tq 10), (.func 24)] #[29,71])), oq 12 (.call (.mk (.value (.func 22)) #[(tq 11)] #[69])), oq 2 (.assign (tq 12)), oq 3 (.assign (cq 0))] := by and_intros <;> exact rgo fun _ => by kernel_rfl
theorem enter6 : ENT 6 13 [.tmp 2, .tmp 3] (.seq (Rg 6 0) (.seq (.seq (Rg 6 1) (.seq (Rg 6 2) (.cond (.tmp 8) (.seq (Rg 6 3) .ret) .skip))) (.seq (Rg 6 4) .ret))) := ent Tryz.f6 (by kernel_rfl)
/- bowline/stackmachine.Number -/
theorem r70_0 : RG 70 0 [oq 2 (.assign (.const (.slice none 0 0)))] := rgo fun _ => by kernel_rfl
theorem r70_1 : RG 70 1 [oq 3 (.assign (.const (.slice none 0 0)))] := rgo fun _ => by kernel_rfl
theorem r70_2 : RG 70 2 [mq 4 0, oq 5 (.binOp .geq 42 (tq 4) (.const (.int .u64 128)) 42)] := rgo fun _ => by kernel_rfl
theorem r70_3 : RG 70 3 [mq 6 3, mq 7 0, oq 8 (.convert 42 5 (tq 7)), oq 9 (.binOp .or 5 (tq 8) (.const (.int .u8 128)) 5), oq 10 (.buildSlice 23 1 #[(0, (tq 9))]), oq 11 (.call (.mk (.builtin .append) #[(tq 6), (tq 10)] #[23,23])), oq 3 (.assign (tq 11))] := rgo fun _ => by kernel_rfl
theorem r70_4 : RG 70 4 [mq 12 0, oq 13 (.binOp .shr 42 (tq 12) (.const (.int .u64 7)) 177), oq 0 (.assign (tq 13))] := rgo fun _ => by kernel_rfl
theorem r70_5 : RG 70 5 [mq 14 3, mq 15 0, oq 16 (.convert 42 5 (tq 15)), oq 17 (.buildSlice 23 1 #[(0, (tq 16))]), oq 18 (.call (.mk (.builtin .append) #[(tq 14), (tq 17)] #[23,23])), oq 2 (.assign (tq 18))] := rgo fun _ => by kernel_rfl
def fF70 := And.intro r70_0 <| And.intro r70_1 <| And.intro r70_2 <| And.intro r70_3 <| And.intro r70_4 <| r70_5
theorem enter70 : ENT 70 19 [.tmp 2] (.seq (Rg 70 0) (.seq (Rg 70 1) (.seq (.block 0 (.loop (.seq (.seq (Rg 70 2) (.cond (.tmp 5) .skip (Code.exit 0))) (.block 1 (.seq (Rg 70 3) (Rg 70 4)))))) (.seq (Rg 70 5) .ret)))) := ent Tryz.f70 (by kernel_rfl)
/- bowline/stackmachine.Size -/
theorem fF31 : RG 31 0 [oq 1 (.box 45 (tq 0)), oq 2 (.assign (cq 0)), oq 3 (.assign (cq 0))] ∧
 RG 31 1 [oq 5 (.load 45 (tq 1)), oq 6 (.call (.mk (.value (.func 36)) #[(tq 5)] #[45])), oq 4 (.assign (tq 6))] ∧
 RG 31 2 [mq 7 4, oq 8 (.binOp .neq 26 (tq 7) (cq 0) 26)] ∧
 RG 31 3 [mq 9 4, oq 2 (.assign (cq 0)), oq 3 (.assign (tq 9))] ∧
 RG 31 4 [oq 10 (.load 45 (tq 1)), oq 11 (.call (.mk (.value (.func 24)) #[(tq 10)] #[45])), oq 12 (.call (.mk (.builtin .len) #[(tq 11)] #[23])), oq 2 (.assign (tq 12)), oq 3 (.assign (cq 0))] := by and_intros <;> exact rgo fun _ => by kernel_rfl
theorem enter31 : ENT 31 13 [.tmp 2, .tmp 3] (.seq (Rg 31 0) (.seq (.seq (Rg 31 1) (.seq (Rg 31 2) (.cond (.tmp 8) (.seq (Rg 31 3) .ret) .skip))) (.seq (Rg 31 4) .ret))) := ent Tryz.f31 (by kernel_rfl)
/- bowline/stackmachine.aligned -/
theorem fF96 : RG 96 0 [oq 1 (.box 45 (tq 0)), oq 2 (.assign (.const (.bool false)))] ∧
 RG 96 1 [oq 3 (.buildSlice 62 5 #[(0, (.const (.int .u64 1))), (1, (.const (.int .u64 2))), (2, (.const (.int .u64 4))), (3, (.const (.int .u64 8))), (4, (.const (.int .u64 16)))]), oq 4 (.fieldAddr 45 (tq 1) 3), oq 5 (.load 42 (tq 4)), oq 6 (.call (.mk (.value (.func 123)) #[(tq 3), (tq 5)] #[62,42])), oq 2 (.assign (tq 6))] := by and_intros <;> exact rgo fun _ => by kernel_rfl
theorem enter96 : ENT 96 7 [.tmp 2] (.seq (Rg 96 0) (.seq (Rg 96 1) .ret)) := ent Tryz.f96 (by kernel_rfl)
/- bowline/stackmachine.below -/
theorem fF94 : RG 94 0 [oq 1 (.box 42 (tq 0)), oq 2 (.assign (.const .nilFunc))] ∧
 RG 94 1 [oq 3 (.makeFunc (Fn.func 122) #[] #[(tq 1)]), oq 2 (.assign (tq 3))] := by and_intros <;> exact rgo fun _ => by kernel_rfl
theorem enter94 : ENT 94 4 [.tmp 2] (.seq (Rg 94 0) (.seq (Rg 94 1) .ret)) := ent Tryz.f94 (by kernel_rfl)
/- bowline/stackmachine.below$1 -/
theorem fF122 : RG 122 0 [oq 2 (.box 45 (tq 0)), oq 3 (.assign (.const (.bool false)))] ∧
 RG 122 1 [oq 4 (.fieldAddr 45 (tq 2) 3), oq 5 (.load 42 (tq 4)), oq 6 (.load 42 (tq 1)), oq 7 (.binOp .leq 42 (tq 5) (tq 6) 42), oq 3 (.assign (tq 7))] := by and_intros <;> exact rgo fun _ => by kernel_rfl
theorem enter122 : ENT 122 8 [.tmp 3] (.seq (Rg 122 0) (.seq (Rg 122 1) .ret)) := ent Tryz.f122 (by kernel_rfl)
/- bowline/stackmachine.checkAll -/
theorem fF21 : RG 21 0 [oq 2 (.assign (cq 0))] ∧
 RG 21 1 [mq 3 0, oq 4 (.call (.mk (.builtin .len) #[(tq 3)] #[29])), oq 5 (.binOp .gtr 3 (tq 4) (cq 4000) 3)] ∧
 RG 21 2 [oq 2 (.assign (cq 5))] ∧
 RG 21 3 [mq 6 0, oq 7 (.call (.mk (.value (.func 38)) #[(tq 6), (.func 36)] #[29,109])), oq 8 (.call (.mk (.value (.func 37)) #[(tq 7)] #[111])), oq 2 (.assign (tq 8))] := by and_intros <;> exact rgo fun _ => by kernel_rfl
theorem enter21 : ENT 21 9 [.tmp 2] (.seq (Rg 21 0) (.seq (.seq (Rg 21 1) (.cond (.tmp 5) (.seq (Rg 21 2) .ret) .skip)) (.seq (Rg 21 3) .ret))) := ent Tryz.f21 (by kernel_rfl)
/- bowline/stackmachine.decode -/
theorem r27_0 : RG 27 0 [oq 2 (.alloc 45), oq 3 (.assign (cq 0)), oq 4 (.assign (cq 0))] := rgo fun _ => by kernel_rfl
theorem r27_1 : RG 27 1 [mq 12 0, oq 13 (.indexAddr 23 (tq 12) (cq 0)), oq 14 (.load 5 (tq 13)), oq 15 (.convert 5 3 (tq 14)), oq 16 (.build 45 #[(0, (tq 15))]), oq 5 (.alloc 45), .op ⟨none, .store 45 (tq 5) (tq 16), none⟩] := rgo fun _ => by kernel_rfl
theorem r27_2 : RG 27 2 [oq 18 (.fieldAddr 45 (tq 5) 0), oq 19 (.load 3 (tq 18)), oq 20 (.call (.mk (.value (.func 32)) #[(tq 19)] #[3])), mq 17 20, oq 21 (.extract (tq 17) 0), oq 22 (.extract (tq 17) 1), oq 6 (.alloc 98), .op ⟨none, .store 98 (tq 6) (tq 21), none⟩, oq 7 (.assign (tq 22))] := rgo fun _ => by kernel_rfl
theorem r27_3 : RG 27 3 [mq 23 7, oq 24 (.unOp .not 4 (tq 23))] := rgo fun _ => by kernel_rfl
theorem r27_4 : RG 27 4 [oq 25 (.build 45 #[]), .op ⟨none, .store 45 (tq 2) (tq 25), none⟩, oq 3 (.assign (cq 0)), oq 4 (.assign (cq 11))] := rgo fun _ => by kernel_rfl
theorem r27_5 : RG 27 5 [mq 26 0, oq 27 (.slice 23 (tq 26) (some (cq 1)) none none), oq 28 (.build 126 #[(0, (tq 27))]), oq 29 (.box 126 (tq 28)), oq 8 (.assign (tq 29))] := rgo fun _ => by kernel_rfl
theorem r27_6 : RG 27 6 [oq 30 (.fieldAddr 98 (tq 6) 1), oq 31 (.load 9 (tq 30)), oq 32 (.range 9 (tq 31))] := rgo fun _ => by kernel_rfl
theorem r27_7 : RG 27 7 [oq 33 (.next (tq 32) true), oq 34 (.extract (tq 33) 0)] := rgo fun _ => by kernel_rfl
theorem r27_8 : RG 27 8 [oq 35 (.extract (tq 33) 2), oq 10 (.assign (tq 35))] := rgo fun _ => by kernel_rfl
theorem r27_9 : RG 27 9 [mq 36 8, mq 37 10, oq 38 (.call (.mk (.value (.func 47)) #[(tq 36), (tq 5), (tq 37)] #[124,128,21]))] := rgo fun _ => by kernel_rfl
theorem r27_10 : RG 27 10 [mq 39 8, oq 40 (.nilCheck (tq 39)), oq 41 (.fieldAddr 126 (tq 40) 1), oq 42 (.load 26 (tq 41)), oq 43 (.load 45 (tq 5)), .chk [⟨some 42, .load 26 (tq 41), none⟩, ⟨some 43, .load 45 (tq 5), none⟩], oq 44 (.call (.mk (.value (.func 36)) #[(tq 43)] #[45])), oq 45 (.buildSlice 111 2 #[(0, (tq 42)), (1, (tq 44))]), .chk [⟨some 42, .load 26 (tq 41), none⟩], oq 46 (.call (.mk (.value (.func 37)) #[(tq 45)] #[111])), oq 11 (.assign (tq 46)), .chk []] := rgo fun _ => by kernel_rfl
theorem r27_11 : RG 27 11 [mq 47 11, oq 48 (.binOp .neq 26 (tq 47) (cq 0) 26)] := rgo fun _ => by kernel_rfl
theorem r27_12 : RG 27 12 [oq 49 (.build 45 #[]), mq 50 11, .op ⟨none, .store 45 (tq 2) (tq 49), none⟩, oq 3 (.assign (cq 0)), oq 4 (.assign (tq 50))] := rgo fun _ => by kernel_rfl
theorem r27_13 : RG 27 13 [oq 51 (.load 45 (tq 5)), mq 52 0, oq 53 (.call (.mk (.builtin .len) #[(tq 52)] #[23])), mq 54 8, oq 55 (.nilCheck (tq 54)), oq 56 (.fieldAddr 126 (tq 55) 0), oq 57 (.load 23 (tq 56)), oq 58 (.call (.mk (.builtin .len) #[(tq 57)] #[23])), oq 59 (.binOp .sub 3 (tq 53) (tq 58) 3), .chk [⟨some 51, .load 45 (tq 5), none⟩, ⟨some 53, .call (.mk (.builtin .len) #[(tq 52)] #[23]), none⟩, ⟨some 57, .load 23 (tq 56), none⟩, ⟨some 58, .call (.mk (.builtin .len) #[(tq 57)] #[23]), none⟩], .op ⟨none, .store 45 (tq 2) (tq 51), none⟩, oq 3 (.assign (tq 59)), oq 4 (.assign (cq 0)), .chk [⟨some 53, .call (.mk (.builtin .len) #[(tq 52)] #[23]), none⟩, ⟨some 57, .load 23 (tq 56), none⟩, ⟨some 58, .call (.mk (.builtin .len) #[(tq 57)] #[23]), none⟩]] := rgo fun _ => by kernel_rfl
def fF27 := And.intro r27_0 <| And.intro r27_1 <| And.intro r27_2 <| And.intro r27_3 <| And.intro r27_4 <| And.intro r27_5 <| And.intro r27_6 <| And.intro r27_7 <| And.intro r27_8 <| And.intro r27_9 <| And.intro r27_10 <| And.intro r27_11 <| And.intro r27_12 <| r27_13
theorem enter27 : ENT 27 60 [.cell 2 45, .tmp 3, .tmp 4] (.seq (Rg 27 0) (.seq (Rg 27 1) (.seq (Rg 27 2) (.seq (.seq (Rg 27 3) (.cond (.tmp 24) (.seq (Rg 27 4) .ret) .skip)) (.seq (Rg 27 5) (.seq (.seq (Rg 27 6) (.block 0 (.loop (.seq (Rg 27 7) (.seq (.cond (.tmp 34) .skip (Code.exit 0)) (.block 1 (.seq (Rg 27 8) (Rg 27 9)))))))) (.seq (.seq (Rg 27 10) (.seq (Rg 27 11) (.cond (.tmp 48) (.seq (Rg 27 12) .ret) .skip))) (.seq (Rg 27 13) .ret)))))))) := ent Tryz.f27 (by kernel_rfl)
/- bowline/stackmachine.entered -/
theorem fF97 : RG 97 0 [oq 1 (.box 45 (tq 0)), oq 2 (.assign (.const (.bool false)))] ∧
 RG 97 1 [oq 3 (.fieldAddr 45 (tq 1) 3), oq 4 (.load 42 (tq 3)), oq 5 (.binOp .leq 42 (tq 4) (.const (.int .u64 9999)) 42), mq 6 5, .op ⟨some 7, .fieldAddr 45 (tq 1) 4, some (6, true)⟩, .op ⟨some 8, .load 3 (tq 7), some (6, true)⟩, .op ⟨some 9, .binOp .geq 3 (tq 8) (cq 0) 3, some (6, true)⟩, oq 10 (.pick (tq 6) (tq 9) (.const (.bool false))), mq 11 10, .op ⟨some 12, .fieldAddr 45 (tq 1) 4, some (11, true)⟩, .op ⟨some 13, .load 3 (tq 12), some (11, true)⟩, .op ⟨some 14, .fieldAddr 45 (tq 1) 3, some (11, true)⟩, .op ⟨some 15, .load 42 (tq 14), some (11, true)⟩, .op ⟨some 16, .convert 42 3 (tq 15), some (11, true)⟩, .op ⟨some 17, .binOp .leq 3 (tq 13) (tq 16) 3, some (11, true)⟩, oq 18 (.pick (tq 11) (tq 17) (.const (.bool false))), mq 19 18, .op ⟨some 20, .fieldAddr 45 (tq 1) 5, some (19, true)⟩, .op ⟨some 21, .load 3 (tq 20), some (19, true)⟩, .op ⟨some 22, .binOp .geq 3 (tq 21) (cq 0) 3, some (19, true)⟩, oq 23 (.pick (tq 19) (tq 22) (.const (.bool false))), mq 24 23, .op ⟨some 25, .fieldAddr 45 (tq 1) 5, some (24, true)⟩, .op ⟨some 26, .load 3 (tq 25), some (24, true)⟩, .op ⟨some 27, .binOp .leq 3 (tq 26) (cq 65536) 3, some (24, true)⟩, oq 28 (.pick (tq 24) (tq 27) (.const (.bool false))), oq 2 (.assign (tq 28))] := by and_intros <;> exact rgo fun _ => by kernel_rfl
theorem enter97 : ENT 97 29 [.tmp 2] (.seq (Rg 97 0) (.seq (Rg 97 1) .ret)) := ent Tryz.f97 (by kernel_rfl)
/- bowline/stackmachine.exists -/
theorem fF68 : RG 68 0 [oq 1 (.box 45 (tq 0)), oq 2 (.assign (.const (.bool false)))] ∧
 RG 68 1 [oq 6 (.fieldAddr 45 (tq 1) 3), oq 7 (.load 42 (tq 6)), oq 8 (.convert 42 3 (tq 7)), oq 3 (.assign (tq 8))] ∧
 RG 68 2 [mq 10 3, oq 11 (.call (.mk (.value (.func 102)) #[(tq 10)] #[3])), mq 9 11, oq 12 (.extract (tq 9) 0), oq 13 (.extract (tq 9) 1), oq 4 (.assign (tq 12)), oq 5 (.assign (tq 13))] ∧
 RG 68 3 [oq 14 (.fieldAddr 45 (tq 1) 0), oq 15 (.load 3 (tq 14))] ∧
 RG 68 4 [oq 17 (.binOp .eql 3 (tq 15) (cq 6) 3), oq 16 (.assign (tq 17))] ∧
 RG 68 5 [mq 18 5, oq 19 (.binOp .eql 26 (tq 18) (cq 0) 26), mq 20 19, .op ⟨some 21, .move (tq 4), some (20, true)⟩, .op ⟨some 22, .binOp .eql 3 (tq 21) (cq 1) 3, some (20, true)⟩, oq 23 (.pick (tq 20) (tq 22) (.const (.bool false))), mq 24 23, .op ⟨some 25, .move (tq 3), some (24, true)⟩, .op ⟨some 26, .fieldAddr 45 (tq 1) 1, some (24, true)⟩, .op ⟨some 27, .load 9 (tq 26), some (24, true)⟩, .op ⟨some 28, .call (.mk (.value (.func 103)) #[(tq 25), (tq 27)] #[3,9]), some (24, true)⟩, oq 29 (.pick (tq 24) (tq 28) (.const (.bool false))), oq 2 (.assign (tq 29))] ∧
 RG 68 6 [oq 31 (.binOp .eql 3 (tq 15) (cq 7) 3), oq 30 (.assign (tq 31))] ∧
 RG 68 7 [mq 32 5, oq 33 (.binOp .eql 26 (tq 32) (cq 0) 26), mq 34 33, .op ⟨some 35, .move (tq 4), some (34, true)⟩, .op ⟨some 36, .binOp .eql 3 (tq 35) (cq 2) 3, some (34, true)⟩, .op ⟨some 37, .move (tq 36), some (34, true)⟩, .op ⟨some 38, .move (tq 4), some (37, false)⟩, .op ⟨some 39, .binOp .eql 3 (tq 38) (cq 3) 3, some (37, false)⟩, .op ⟨some 40, .pick (tq 37) (.const (.bool true)) (tq 39), some (34, true)⟩, oq 41 (.pick (tq 34) (tq 40) (.const (.bool false))), mq 42 41, .op ⟨some 43, .move (tq 3), some (42, true)⟩, .op ⟨some 44, .fieldAddr 45 (tq 1) 1, some (42, true)⟩, .op ⟨some 45, .load 9 (tq 44), some (42, true)⟩, .op ⟨some 46, .call (.mk (.value (.func 103)) #[(tq 43), (tq 45)] #[3,9]), some (42, true)⟩, oq 47 (.pick (tq 42) (tq 46) (.const (.bool false))), oq 2 (.assign (tq 47))] ∧
 RG 68 8 [oq 49 (.binOp .eql 3 (tq 15) (cq 8) 3), oq 48 (.assign (tq 49))] ∧
 RG 68 9 [mq 50 5, oq 51 (.binOp .eql 26 (tq 50) (cq 0) 26), mq 52 51, .op ⟨some 53, .move (tq 4), some (52, true)⟩, .op ⟨some 54, .binOp .eql 3 (tq 53) (cq 4) 3, some (52, true)⟩, oq 55 (.pick (tq 52) (tq 54) (.const (.bool false))), mq 56 55, .op ⟨some 57, .move (tq 3), some (56, true)⟩, .op ⟨some 58, .fieldAddr 45 (tq 1) 1, some (56, true)⟩, .op ⟨some 59, .load 9 (tq 58), some (56, true)⟩, .op ⟨some 60, .fieldAddr 45 (tq 1) 2, some (56, true)⟩, .op ⟨some 61, .load 9 (tq 60), some (56, true)⟩, .op ⟨some 62, .call (.mk (.value (.func 104)) #[(tq 57), (tq 59), (tq 61)] #[3,9,9]), some (56, true)⟩, oq 63 (.pick (tq 56) (tq 62) (.const (.bool false))), oq 2 (.assign (tq 63))] ∧
 RG 68 10 [oq 2 (.assign (.const (.bool true)))] := by and_intros <;> exact rgo fun _ => by kernel_rfl
theorem enter68 : ENT 68 64 [.tmp 2] (.seq (Rg 68 0) (.seq (Rg 68 1) (.seq (Rg 68 2) (.seq (.seq (Rg 68 3) (.block 0 (.seq (Rg 68 4) (.cond (.tmp 16) (.seq (Rg 68 5) .ret) (.seq (Rg 68 6) (.cond (.tmp 30) (.seq (Rg 68 7) .ret) (.seq (Rg 68 8) (.cond (.tmp 48) (.seq (Rg 68 9) .ret) .skip)))))))) (.seq (Rg 68 10) .ret))))) := ent Tryz.f68 (by kernel_rfl)
/- bowline/stackmachine.first -/
theorem fF37 : RG 37 0 [oq 2 (.assign (cq 0))] ∧
 RG 37 1 [mq 5 0, oq 6 (.call (.mk (.builtin .len) #[(tq 5)] #[111])), oq 7 (.move (cq 0))] ∧
 RG 37 2 [oq 8 (.binOp .lss 3 (tq 7) (tq 6) 3)] ∧
 RG 37 3 [oq 9 (.indexAddr 111 (tq 5) (tq 7)), oq 10 (.load 26 (tq 9)), oq 4 (.assign (tq 10))] ∧
 RG 37 4 [mq 11 4, oq 12 (.binOp .neq 26 (tq 11) (cq 0) 26)] ∧
 RG 37 5 [mq 13 4, oq 2 (.assign (tq 13))] ∧
 RG 37 6 [oq 14 (.binOp .add 3 (tq 7) (cq 1) 3), mq 7 14] ∧
 RG 37 7 [oq 2 (.assign (cq 0))] := by and_intros <;> exact rgo fun _ => by kernel_rfl
theorem enter37 : ENT 37 15 [.tmp 2] (.seq (Rg 37 0) (.seq (.seq (Rg 37 1) (.block 0 (.loop (.seq (Rg 37 2) (.seq (.cond (.tmp 8) .skip (Code.exit 0)) (.seq (.block 1 (.seq (Rg 37 3) (.seq (Rg 37 4) (.cond (.tmp 12) (.seq (Rg 37 5) .ret) .skip)))) (Rg 37 6))))))) (.seq (Rg 37 7) .ret))) := ent Tryz.f37 (by kernel_rfl)
/- bowline/stackmachine.fixed -/
theorem r72_0 : RG 72 0 [oq 4 (.assign (.const (.slice none 0 0)))] := rgo fun _ => by kernel_rfl
theorem r72_1 : RG 72 1 [oq 5 (.assign (.const (.slice none 0 0)))] := rgo fun _ => by kernel_rfl
theorem r72_2 : RG 72 2 [mq 6 1, oq 7 (.move (cq 0))] := rgo fun _ => by kernel_rfl
theorem r72_3 : RG 72 3 [oq 8 (.binOp .lss 3 (tq 7) (tq 6) 3)] := rgo fun _ => by kernel_rfl
theorem r72_4 : RG 72 4 [mq 9 5, mq 10 0, oq 11 (.convert 42 5 (tq 10)), oq 12 (.buildSlice 23 1 #[(0, (tq 11))]), oq 13 (.call (.mk (.builtin .append) #[(tq 9), (tq 12)] #[23,23])), oq 5 (.assign (tq 13))] := rgo fun _ => by kernel_rfl
theorem r72_5 : RG 72 5 [mq 14 0, oq 15 (.binOp .shr 42 (tq 14) (.const (.int .u64 8)) 177), oq 0 (.assign (tq 15))] := rgo fun _ => by kernel_rfl
theorem r72_6 : RG 72 6 [oq 16 (.binOp .add 3 (tq 7) (cq 1) 3), mq 7 16] := rgo fun _ => by kernel_rfl
theorem r72_7 : RG 72 7 [mq 17 5, oq 4 (.assign (tq 17))] := rgo fun _ => by kernel_rfl
def fF72 := And.intro r72_0 <| And.intro r72_1 <| And.intro r72_2 <| And.intro r72_3 <| And.intro r72_4 <| And.intro r72_5 <| And.intro r72_6 <| r72_7
theorem enter72 : ENT 72 18 [.tmp 4] (.seq (Rg 72 0) (.seq (Rg 72 1) (.seq (.seq (Rg 72 2) (.block 0 (.loop (.seq (Rg 72 3) (.seq (.cond (.tmp 8) .skip (Code.exit 0)) (.seq (.block 1 (.seq (Rg 72 4) (Rg 72 5))) (Rg 72 6))))))) (.seq (Rg 72 7) .ret)))) := ent Tryz.f72 (by kernel_rfl)
/- bowline/stackmachine.free -/
theorem fF93 : RG 93 0 [oq 1 (.box 45 (tq 0)), oq 2 (.assign (.const (.bool false)))] ∧
 RG 93 1 [oq 2 (.assign (.const (.bool true)))] := by and_intros <;> exact rgo fun _ => by kernel_rfl
theorem enter93 : ENT 93 3 [.tmp 2] (.seq (Rg 93 0) (.seq (Rg 93 1) .ret)) := ent Tryz.f93 (by kernel_rfl)
/- bowline/stackmachine.hasAny -/
theorem fF101 : RG 101 0 [oq 4 (.assign (.const (.bool false)))] ∧
 RG 101 1 [mq 9 0, oq 10 (.range 9 (tq 9))] ∧
 RG 101 2 [oq 11 (.next (tq 10) true), oq 12 (.extract (tq 11) 0)] ∧
 RG 101 3 [oq 13 (.extract (tq 11) 2), oq 6 (.assign (tq 13))] ∧
 RG 101 4 [mq 14 1, oq 15 (.range 9 (tq 14))] ∧
 RG 101 5 [oq 16 (.next (tq 15) true), oq 17 (.extract (tq 16) 0)] ∧
 RG 101 6 [oq 18 (.extract (tq 16) 2), oq 8 (.assign (tq 18))] ∧
 RG 101 7 [mq 19 6, mq 20 8, oq 21 (.binOp .eql 21 (tq 19) (tq 20) 21)] ∧
 RG 101 8 [oq 4 (.assign (.const (.bool true)))] ∧
 RG 101 9 [oq 4 (.assign (.const (.bool false)))] := by and_intros <;> exact rgo fun _ => by kernel_rfl
theorem enter101 : ENT 101 22 [.tmp 4] (.seq (Rg 101 0) (.seq (.seq (Rg 101 1) (.block 0 (.loop (.seq (Rg 101 2) (.seq (.cond (.tmp 12) .skip (Code.exit 0)) (.block 1 (.seq (Rg 101 3) (.seq (Rg 101 4) (.block 2 (.loop (.seq (Rg 101 5) (.seq (.cond (.tmp 17) .skip (Code.exit 2)) (.block 3 (.seq (Rg 101 6) (.seq (Rg 101 7) (.cond (.tmp 21) (.seq (Rg 101 8) .ret) .skip)))))))))))))))) (.seq (Rg 101 9) .ret))) := ent Tryz.f101 (by kernel_rfl)
/- bowline/stackmachine.kindOf -/
theorem fF32 : RG 32 0 [oq 2 (.alloc 98), oq 3 (.assign (.const (.bool false)))] ∧
 RG 32 1 [oq 5 (.call (.mk (.value (.func 61)) #[] #[])), oq 4 (.assign (tq 5))] ∧
 RG 32 2 [mq 6 0, oq 7 (.binOp .lss 3 (tq 6) (cq 0) 3), mq 8 7, .op ⟨some 9, .move (tq 0), some (8, false)⟩, .op ⟨some 10, .move (tq 4), some (8, false)⟩, .op ⟨some 11, .call (.mk (.builtin .len) #[(tq 10)] #[141]), some (8, false)⟩, .op ⟨some 12, .binOp .geq 3 (tq 9) (tq 11) 3, some (8, false)⟩, oq 13 (.pick (tq 8) (.const (.bool true)) (tq 12))] ∧
 RG 32 3 [oq 14 (.build 98 #[]), .op ⟨none, .store 98 (tq 2) (tq 14), none⟩, oq 3 (.assign (.const (.bool false)))] ∧
 RG 32 4 [mq 15 4, mq 16 0, oq 17 (.indexAddr 141 (tq 15) (tq 16)), oq 18 (.load 98 (tq 17)), .op ⟨none, .store 98 (tq 2) (tq 18), none⟩, oq 3 (.assign (.const (.bool true)))] := by and_intros <;> exact rgo fun _ => by kernel_rfl
theorem enter32 : ENT 32 19 [.cell 2 98, .tmp 3] (.seq (Rg 32 0) (.seq (Rg 32 1) (.seq (.seq (Rg 32 2) (.cond (.tmp 13) (.seq (Rg 32 3) .ret) .skip)) (.seq (Rg 32 4) .ret)))) := ent Tryz.f32 (by kernel_rfl)
/- bowline/stackmachine.kinds -/
theorem fF61 : RG 61 0 [oq 0 (.assign (.const (.slice none 0 0)))] ∧
 RG 61 1 [oq 1 (.build 95 #[(0, (cq 0)), (1, (cq 1))]), oq 2 (.build 98 #[(0, (sq #[99,111,110,115,116])), (1, (sq #[110])), (2, (tq 1)), (3, (.func 93))]), oq 3 (.build 95 #[(0, (cq 0)), (1, (cq 1))]), oq 4 (.build 98 #[(0, (sq #[119,111,114,100])), (1, (sq #[119])), (2, (tq 3)), (3, (.func 93))]), oq 5 (.build 95 #[(0, (cq 0)), (1, (cq 1))]), oq 6 (.call (.mk (.value (.func 94)) #[(.const (.int .u64 9999))] #[42])), oq 7 (.build 98 #[(0, (sq #[103,101,116])), (1, (sq #[110])), (2, (tq 5)), (3, (tq 6))]), oq 8 (.build 95 #[(0, (cq 1)), (1, (cq 0))]), oq 9 (.call (.mk (.value (.func 94)) #[(.const (.int .u64 9999))] #[42])), oq 10 (.build 98 #[(0, (sq #[115,101,116])), (1, (sq #[110])), (2, (tq 8)), (3, (tq 9))]), oq 11 (.build 95 #[(0, (cq 1)), (1, (cq 1))]), oq 12 (.call (.mk (.value (.func 94)) #[(.const (.int .u64 9999))] #[42])), oq 13 (.build 98 #[(0, (sq #[116,101,101])), (1, (sq #[110])), (2, (tq 11)), (3, (tq 12))]), oq 14 (.build 95 #[(0, (cq 1)), (1, (cq 0))]), oq 15 (.build 98 #[(0, (sq #[100,114,111,112])), (1, (sq #[])), (2, (tq 14)), (3, (.func 93))]), oq 16 (.build 95 #[(0, (cq 1)), (1, (cq 1))]), oq 17 (.call (.mk (.value (.func 94)) #[(.const (.int .u64 255))] #[42])), oq 18 (.build 98 #[(0, (sq #[117,110,97,114,121])), (1, (sq #[84,110])), (2, (tq 16)), (3, (tq 17))]), oq 19 (.build 95 #[(0, (cq 2)), (1, (cq 1))]), oq 20 (.call (.mk (.value (.func 94)) #[(.const (.int .u64 255))] #[42])), oq 21 (.build 98 #[(0, (sq #[98,105,110,97,114,121])), (1, (sq #[84,110])), (2, (tq 19)), (3, (tq 20))]), oq 22 (.build 95 #[(0, (cq 1)), (1, (cq 1))]), oq 23 (.call (.mk (.value (.func 94)) #[(.const (.int .u64 255))] #[42])), oq 24 (.build 98 #[(0, (sq #[99,111,110,118,101,114,116])), (1, (sq #[84,85,110])), (2, (tq 22)), (3, (tq 23))]), oq 25 (.build 95 #[(0, (cq 1)), (1, (cq 1))]), oq 26 (.build 98 #[(0, (sq #[108,111,97,100])), (1, (sq #[84,115])), (2, (tq 25)), (3, (.func 95))]), oq 27 (.build 95 #[(0, (cq 2)), (1, (cq 0))]), oq 28 (.build 98 #[(0, (sq #[115,116,111,114,101])), (1, (sq #[84,115])), (2, (tq 27)), (3, (.func 95))]), oq 29 (.build 95 #[(0, (cq 1)), (1, (cq 1))]), oq 30 (.build 98 #[(0, (sq #[108,101,97])), (1, (sq #[115])), (2, (tq 29)), (3, (.func 95))]), oq 31 (.build 95 #[(0, (cq 2)), (1, (cq 1))]), oq 32 (.build 98 #[(0, (sq #[105,110,100,101,120])), (1, (sq #[115])), (2, (tq 31)), (3, (.func 95))]), oq 33 (.build 95 #[(0, (cq 2)), (1, (cq 0))]), oq 34 (.call (.mk (.value (.func 94)) #[(.const (.int .u64 2147483647))] #[42])), oq 35 (.build 98 #[(0, (sq #[99,111,112,121])), (1, (sq #[110])), (2, (tq 33)), (3, (tq 34))]), oq 36 (.build 95 #[(0, (cq 1)), (1, (cq 1))]), oq 37 (.build 98 #[(0, (sq #[97,108,108,111,99])), (1, (sq #[110])), (2, (tq 36)), (3, (.func 96))]), oq 38 (.build 95 #[(0, (cq 1)), (1, (cq 0))]), oq 39 (.build 98 #[(0, (sq #[102,114,101,101])), (1, (sq #[])), (2, (tq 38)), (3, (.func 93))]), oq 40 (.build 95 #[(0, (cq 1)), (1, (cq 0))]), oq 41 (.build 98 #[(0, (sq #[111,117,116])), (1, (sq #[84])), (2, (tq 40)), (3, (.func 93))]), oq 42 (.build 95 #[(0, (cq 2)), (1, (cq 0))]), oq 43 (.build 98 #[(0, (sq #[112,114,105,110,116])), (1, (sq #[])), (2, (tq 42)), (3, (.func 93))]), oq 44 (.build 95 #[(0, (cq 0)), (1, (cq 0))]), oq 45 (.build 98 #[(0, (sq #[116,114,97,99,101])), (1, (sq #[])), (2, (tq 44)), (3, (.func 93))]), oq 46 (.build 95 #[(0, (cq 0)), (1, (cq 0))]), oq 47 (.build 98 #[(0, (sq #[102,111,114,103,101,116])), (1, (sq #[])), (2, (tq 46)), (3, (.func 93))]), oq 48 (.build 95 #[(0, (cq 0)), (1, (cq 0))]), oq 49 (.build 98 #[(0, (sq #[106,117,109,112])), (1, (sq #[100])), (2, (tq 48)), (3, (.func 95))]), oq 50 (.build 95 #[(0, (cq 1)), (1, (cq 0))]), oq 51 (.build 98 #[(0, (sq #[98,114,97,110,99,104])), (1, (sq #[100])), (2, (tq 50)), (3, (.func 95))]), oq 52 (.build 95 #[(0, (cq 1)), (1, (cq 1))]), oq 53 (.build 98 #[(0, (sq #[99,97,115,101])), (1, (sq #[84,119,100])), (2, (tq 52)), (3, (.func 95))]), oq 54 (.build 95 #[(0, (cq 0)), (1, (cq 0))]), oq 55 (.build 98 #[(0, (sq #[99,97,108,108])), (1, (sq #[100])), (2, (tq 54)), (3, (.func 95))]), oq 56 (.build 95 #[(0, (cq 0)), (1, (cq 0))]), oq 57 (.build 98 #[(0, (sq #[101,110,116,101,114])), (1, (sq #[80,76,70])), (2, (tq 56)), (3, (.func 97))]), oq 58 (.build 95 #[(0, (cq 0)), (1, (cq 0))]), oq 59 (.call (.mk (.value (.func 94)) #[(.const (.int .u64 1))] #[42])), oq 60 (.build 98 #[(0, (sq #[114,101,116,117,114,110])), (1, (sq #[110])), (2, (tq 58)), (3, (tq 59))]), oq 61 (.build 95 #[(0, (cq 0)), (1, (cq 1))]), oq 62 (.call (.mk (.value (.func 94)) #[(.const (.int .u64 65536))] #[42])), oq 63 (.build 98 #[(0, (sq #[102,114,97,109,101])), (1, (sq #[110])), (2, (tq 61)), (3, (tq 62))]), oq 64 (.build 95 #[(0, (cq 0)), (1, (cq 0))]), oq 65 (.call (.mk (.value (.func 94)) #[(.const (.int .u64 12))] #[42])), oq 66 (.build 98 #[(0, (sq #[116,114,97,112])), (1, (sq #[110])), (2, (tq 64)), (3, (tq 65))]), oq 67 (.build 95 #[(0, (cq 0)), (1, (cq 0))]), oq 68 (.call (.mk (.value (.func 94)) #[(.const (.int .u64 18))] #[42])), oq 69 (.build 98 #[(0, (sq #[99,114,97,115,104])), (1, (sq #[110])), (2, (tq 67)), (3, (tq 68))]), oq 70 (.buildSlice 141 29 #[(0, (tq 2)), (1, (tq 4)), (2, (tq 7)), (3, (tq 10)), (4, (tq 13)), (5, (tq 15)), (6, (tq 18)), (7, (tq 21)), (8, (tq 24)), (9, (tq 26)), (10, (tq 28)), (11, (tq 30)), (12, (tq 32)), (13, (tq 35)), (14, (tq 37)), (15, (tq 39)), (16, (tq 41)), (17, (tq 43)), (18, (tq 45)), (19, (tq 47)), (20, (tq 49)), (21, (tq 51)), (22, (tq 53)), (23, (tq 55)), (24, (tq 57)), (25, (tq 60)), (26, (tq 63)), (27, (tq 66)), (28, (tq 69))]), oq 0 (.assign (tq 70))] := by and_intros <;> exact rgo fun _ => by kernel_rfl
theorem enter61 : ENT 61 71 [.tmp 0] (.seq (Rg 61 0) (.seq (Rg 61 1) .ret)) := ent Tryz.f61 (by kernel_rfl)
/- bowline/stackmachine.mapped[bowline/stackmachine.Instr,[]byte] -/
theorem r23_0 : RG 23 0 [oq 4 (.assign (.const (.slice none 0 0)))] := rgo fun _ => by kernel_rfl
theorem r23_1 : RG 23 1 [oq 5 (.assign (.const (.slice none 0 0)))] := rgo fun _ => by kernel_rfl
theorem r23_2 : RG 23 2 [mq 8 0, oq 9 (.call (.mk (.builtin .len) #[(tq 8)] #[29])), oq 10 (.move (cq 0))] := rgo fun _ => by kernel_rfl
theorem r23_3 : RG 23 3 [oq 11 (.binOp .lss 3 (tq 10) (tq 9) 3)] := rgo fun _ => by kernel_rfl
theorem r23_4 : RG 23 4 [oq 12 (.indexAddr 29 (tq 8) (tq 10)), oq 13 (.load 45 (tq 12)), oq 7 (.alloc 45), .op ⟨none, .store 45 (tq 7) (tq 13), none⟩] := rgo fun _ => by kernel_rfl
theorem r23_5 : RG 23 5 [mq 14 5, mq 15 1, oq 16 (.load 45 (tq 7)), oq 17 (.call (.mk (.value (tq 15)) #[(tq 16)] #[45])), oq 18 (.buildSlice 69 1 #[(0, (tq 17))]), oq 19 (.call (.mk (.builtin .append) #[(tq 14), (tq 18)] #[69,69])), oq 5 (.assign (tq 19))] := rgo fun _ => by kernel_rfl
theorem r23_6 : RG 23 6 [oq 20 (.binOp .add 3 (tq 10) (cq 1) 3), mq 10 20] := rgo fun _ => by kernel_rfl
theorem r23_7 : RG 23 7 [mq 21 5, oq 4 (.assign (tq 21))] := rgo fun _ => by kernel_rfl
def fF23 := And.intro r23_0 <| And.intro r23_1 <| And.intro r23_2 <| And.intro r23_3 <| And.intro r23_4 <| And.intro r23_5 <| And.intro r23_6 <| r23_7
theorem enter23 : ENT 23 22 [.tmp 4] (.seq (Rg 23 0) (.seq (Rg 23 1) (.seq (.seq (Rg 23 2) (.block 0 (.loop (.seq (Rg 23 3) (.seq (.cond (.tmp 11) .skip (Code.exit 0)) (.seq (.block 1 (.seq (Rg 23 4) (Rg 23 5))) (Rg 23 6))))))) (.seq (Rg 23 7) .ret)))) := ent Tryz.f23 (by kernel_rfl)
/- bowline/stackmachine.mapped[bowline/stackmachine.Instr,bowline/api.Errno] -/
theorem r38_0 : RG 38 0 [oq 4 (.assign (.const (.slice none 0 0)))] := rgo fun _ => by kernel_rfl
theorem r38_1 : RG 38 1 [oq 5 (.assign (.const (.slice none 0 0)))] := rgo fun _ => by kernel_rfl
theorem r38_2 : RG 38 2 [mq 8 0, oq 9 (.call (.mk (.builtin .len) #[(tq 8)] #[29])), oq 10 (.move (cq 0))] := rgo fun _ => by kernel_rfl
theorem r38_3 : RG 38 3 [oq 11 (.binOp .lss 3 (tq 10) (tq 9) 3)] := rgo fun _ => by kernel_rfl
theorem r38_4 : RG 38 4 [oq 12 (.indexAddr 29 (tq 8) (tq 10)), oq 13 (.load 45 (tq 12)), oq 7 (.alloc 45), .op ⟨none, .store 45 (tq 7) (tq 13), none⟩] := rgo fun _ => by kernel_rfl
theorem r38_5 : RG 38 5 [mq 14 5, mq 15 1, oq 16 (.load 45 (tq 7)), oq 17 (.call (.mk (.value (tq 15)) #[(tq 16)] #[45])), oq 18 (.buildSlice 111 1 #[(0, (tq 17))]), oq 19 (.call (.mk (.builtin .append) #[(tq 14), (tq 18)] #[111,111])), oq 5 (.assign (tq 19))] := rgo fun _ => by kernel_rfl
theorem r38_6 : RG 38 6 [oq 20 (.binOp .add 3 (tq 10) (cq 1) 3), mq 10 20] := rgo fun _ => by kernel_rfl
theorem r38_7 : RG 38 7 [mq 21 5, oq 4 (.assign (tq 21))] := rgo fun _ => by kernel_rfl
def fF38 := And.intro r38_0 <| And.intro r38_1 <| And.intro r38_2 <| And.intro r38_3 <| And.intro r38_4 <| And.intro r38_5 <| And.intro r38_6 <| r38_7
theorem enter38 : ENT 38 22 [.tmp 4] (.seq (Rg 38 0) (.seq (Rg 38 1) (.seq (.seq (Rg 38 2) (.block 0 (.loop (.seq (Rg 38 3) (.seq (.cond (.tmp 11) .skip (Code.exit 0)) (.seq (.block 1 (.seq (Rg 38 4) (Rg 38 5))) (Rg 38 6))))))) (.seq (Rg 38 7) .ret)))) := ent Tryz.f38 (by kernel_rfl)
/- bowline/stackmachine.near -/
theorem fF95 : RG 95 0 [oq 1 (.box 45 (tq 0)), oq 2 (.assign (.const (.bool false)))] ∧
 RG 95 1 [oq 3 (.fieldAddr 45 (tq 1) 4), oq 4 (.load 3 (tq 3)), oq 5 (.binOp .geq 3 (tq 4) (cq (-2147483648)) 3), mq 6 5, .op ⟨some 7, .fieldAddr 45 (tq 1) 4, some (6, true)⟩, .op ⟨some 8, .load 3 (tq 7), some (6, true)⟩, .op ⟨some 9, .binOp .lss 3 (tq 8) (cq 2147483648) 3, some (6, true)⟩, oq 10 (.pick (tq 6) (tq 9) (.const (.bool false))), oq 2 (.assign (tq 10))] := by and_intros <;> exact rgo fun _ => by kernel_rfl
theorem enter95 : ENT 95 11 [.tmp 2] (.seq (Rg 95 0) (.seq (Rg 95 1) .ret)) := ent Tryz.f95 (by kernel_rfl)
/- bowline/stackmachine.operand -/
theorem fF40 : RG 40 0 [oq 2 (.box 45 (tq 0)), oq 4 (.assign (.const (.slice none 0 0)))] ∧
 RG 40 1 [mq 8 1] ∧
 RG 40 2 [oq 10 (.binOp .eql 21 (tq 8) (.const (.int .i32 84)) 21), oq 9 (.assign (tq 10))] ∧
 RG 40 3 [oq 11 (.binOp .eql 21 (tq 8) (.const (.int .i32 85)) 21), oq 9 (.assign (tq 11))] ∧
 RG 40 4 [oq 12 (.fieldAddr 45 (tq 2) 1), oq 13 (.load 9 (tq 12)), oq 5 (.assign (tq 13))] ∧
 RG 40 5 [mq 14 1, oq 15 (.binOp .eql 21 (tq 14) (.const (.int .i32 85)) 21)] ∧
 RG 40 6 [oq 16 (.fieldAddr 45 (tq 2) 2), oq 17 (.load 9 (tq 16)), oq 5 (.assign (tq 17))] ∧
 RG 40 7 [mq 19 5, oq 20 (.call (.mk (.value (.func 69)) #[(tq 19)] #[9])), mq 18 20, oq 21 (.extract (tq 18) 0), oq 22 (.extract (tq 18) 1), oq 6 (.assign (tq 21)), oq 7 (.assign (tq 22))] ∧
 RG 40 8 [mq 23 6, oq 24 (.convert 3 5 (tq 23)), oq 25 (.buildSlice 23 1 #[(0, (tq 24))]), oq 4 (.assign (tq 25))] ∧
 RG 40 9 [oq 27 (.binOp .eql 21 (tq 8) (.const (.int .i32 110)) 21), oq 26 (.assign (tq 27))] ∧
 RG 40 10 [oq 28 (.binOp .eql 21 (tq 8) (.const (.int .i32 76)) 21), oq 26 (.assign (tq 28))] ∧
 RG 40 11 [oq 29 (.fieldAddr 45 (tq 2) 3), oq 30 (.load 42 (tq 29)), oq 31 (.call (.mk (.value (.func 70)) #[(tq 30)] #[42])), oq 4 (.assign (tq 31))] ∧
 RG 40 12 [oq 33 (.binOp .eql 21 (tq 8) (.const (.int .i32 115)) 21), oq 32 (.assign (tq 33))] ∧
 RG 40 13 [oq 34 (.fieldAddr 45 (tq 2) 4), oq 35 (.load 3 (tq 34)), oq 36 (.call (.mk (.value (.func 71)) #[(tq 35)] #[3])), oq 37 (.call (.mk (.value (.func 70)) #[(tq 36)] #[42])), oq 4 (.assign (tq 37))] ∧
 RG 40 14 [oq 39 (.binOp .eql 21 (tq 8) (.const (.int .i32 100)) 21), oq 38 (.assign (tq 39))] ∧
 RG 40 15 [oq 40 (.fieldAddr 45 (tq 2) 4), oq 41 (.load 3 (tq 40)), oq 42 (.convert 3 42 (tq 41)), oq 43 (.call (.mk (.value (.func 72)) #[(tq 42), (cq 4)] #[42,3])), oq 4 (.assign (tq 43))] ∧
 RG 40 16 [oq 45 (.binOp .eql 21 (tq 8) (.const (.int .i32 119)) 21), oq 44 (.assign (tq 45))] ∧
 RG 40 17 [oq 46 (.fieldAddr 45 (tq 2) 3), oq 47 (.load 42 (tq 46)), oq 48 (.call (.mk (.value (.func 72)) #[(tq 47), (cq 8)] #[42,3])), oq 4 (.assign (tq 48))] ∧
 RG 40 18 [oq 50 (.binOp .eql 21 (tq 8) (.const (.int .i32 80)) 21), oq 49 (.assign (tq 50))] ∧
 RG 40 19 [oq 51 (.fieldAddr 45 (tq 2) 4), oq 52 (.load 3 (tq 51)), oq 53 (.convert 3 42 (tq 52)), oq 54 (.call (.mk (.value (.func 70)) #[(tq 53)] #[42])), oq 4 (.assign (tq 54))] ∧
 RG 40 20 [oq 55 (.fieldAddr 45 (tq 2) 5), oq 56 (.load 3 (tq 55)), oq 57 (.convert 3 42 (tq 56)), oq 58 (.call (.mk (.value (.func 70)) #[(tq 57)] #[42])), oq 4 (.assign (tq 58))] := by and_intros <;> exact rgo fun _ => by kernel_rfl
theorem enter40 : ENT 40 59 [.tmp 4] (.seq (Rg 40 0) (.seq (.seq (Rg 40 1) (.block 0 (.seq (.seq (Rg 40 2) (.cond (.tmp 9) .skip (Rg 40 3))) (.cond (.tmp 9) (.seq (Rg 40 4) (.seq (.seq (Rg 40 5) (.cond (.tmp 15) (Rg 40 6) .skip)) (.seq (Rg 40 7) (.seq (Rg 40 8) .ret)))) (.seq (.seq (Rg 40 9) (.cond (.tmp 26) .skip (Rg 40 10))) (.cond (.tmp 26) (.seq (Rg 40 11) .ret) (.seq (Rg 40 12) (.cond (.tmp 32) (.seq (Rg 40 13) .ret) (.seq (Rg 40 14) (.cond (.tmp 38) (.seq (Rg 40 15) .ret) (.seq (Rg 40 16) (.cond (.tmp 44) (.seq (Rg 40 17) .ret) (.seq (Rg 40 18) (.cond (.tmp 49) (.seq (Rg 40 19) .ret) .skip)))))))))))))) (.seq (Rg 40 20) .ret))) := ent Tryz.f40 (by kernel_rfl)
/- bowline/stackmachine.when -/
theorem fF55 : RG 55 0 [oq 4 (.assign (cq 0))] ∧
 RG 55 1 [mq 5 0] ∧
 RG 55 2 [mq 6 1, oq 4 (.assign (tq 6))] ∧
 RG 55 3 [oq 4 (.assign (cq 0))] := by and_intros <;> exact rgo fun _ => by kernel_rfl
theorem enter55 : ENT 55 7 [.tmp 4] (.seq (Rg 55 0) (.seq (.seq (Rg 55 1) (.cond (.tmp 5) (.seq (Rg 55 2) .ret) .skip)) (.seq (Rg 55 3) .ret))) := ent Tryz.f55 (by kernel_rfl)
/- bowline/stackmachine.wrongType -/
theorem fF66 : RG 66 0 [oq 4 (.assign (.const (.bool false)))] ∧
 RG 66 1 [mq 8 0, oq 9 (.call (.mk (.value (.func 69)) #[(tq 8)] #[9])), mq 7 9, oq 10 (.extract (tq 7) 0), oq 11 (.extract (tq 7) 1), oq 5 (.assign (tq 10)), oq 6 (.assign (tq 11))] ∧
 RG 66 2 [mq 12 6, oq 13 (.binOp .neq 26 (tq 12) (cq 0) 26), mq 14 13, .op ⟨some 15, .move (tq 0), some (14, false)⟩, .op ⟨some 16, .binOp .neq 9 (tq 15) (sq #[]) 9, some (14, false)⟩, .op ⟨some 17, .move (tq 1), some (14, false)⟩, .op ⟨some 18, .binOp .neq 4 (tq 16) (tq 17) 4, some (14, false)⟩, oq 19 (.pick (tq 14) (.const (.bool true)) (tq 18)), oq 4 (.assign (tq 19))] := by and_intros <;> exact rgo fun _ => by kernel_rfl
theorem enter66 : ENT 66 20 [.tmp 4] (.seq (Rg 66 0) (.seq (Rg 66 1) (.seq (Rg 66 2) .ret))) := ent Tryz.f66 (by kernel_rfl)
/- bowline/stackmachine.zigzag -/
theorem fF71 : RG 71 0 [oq 2 (.assign (.const (.int .u64 0)))] ∧
 RG 71 1 [mq 3 0, oq 4 (.binOp .lss 3 (tq 3) (cq 0) 3)] ∧
 RG 71 2 [mq 5 0, oq 6 (.binOp .mul 3 (cq (-2)) (tq 5) 3), oq 7 (.binOp .sub 3 (tq 6) (cq 1) 3), oq 8 (.convert 3 42 (tq 7)), oq 2 (.assign (tq 8))] ∧
 RG 71 3 [mq 9 0, oq 10 (.binOp .mul 3 (cq 2) (tq 9) 3), oq 11 (.convert 3 42 (tq 10)), oq 2 (.assign (tq 11))] := by and_intros <;> exact rgo fun _ => by kernel_rfl
theorem enter71 : ENT 71 12 [.tmp 2] (.seq (Rg 71 0) (.seq (.seq (Rg 71 1) (.cond (.tmp 4) (.seq (Rg 71 2) .ret) .skip)) (.seq (Rg 71 3) .ret))) := ent Tryz.f71 (by kernel_rfl)
/- strconv.Atoi -/
theorem fF256 : RG 256 0 [oq 2 (.assign (cq 0)), oq 3 (.assign (.const .nilIface))] ∧
 RG 256 1 [mq 7 0, oq 8 (.call (.mk (.value (.func 299)) #[(tq 7)] #[9])), mq 6 8, oq 9 (.extract (tq 6) 0), oq 10 (.extract (tq 6) 1), oq 4 (.assign (tq 9)), oq 5 (.assign (tq 10))] ∧
 RG 256 2 [mq 11 5, oq 12 (.binOp .neq 102 (tq 11) (.const .nilIface) 102)] ∧
 RG 256 3 [mq 13 4, mq 14 0, mq 15 5, oq 16 (.call (.mk (.value (.func 300)) #[(sq #[65,116,111,105]), (tq 14), (cq 0), (cq 0), (tq 15)] #[9,9,3,3,102])), oq 2 (.assign (tq 13)), oq 3 (.assign (tq 16))] ∧
 RG 256 4 [mq 17 4, oq 2 (.assign (tq 17)), oq 3 (.assign (.const .nilIface))] := by and_intros <;> exact rgo fun _ => by kernel_rfl
theorem enter256 : ENT 256 18 [.tmp 2, .tmp 3] (.seq (Rg 256 0) (.seq (Rg 256 1) (.seq (.seq (Rg 256 2) (.cond (.tmp 12) (.seq (Rg 256 3) .ret) .skip)) (.seq (Rg 256 4) .ret)))) := ent Tryz.f256 (by kernel_rfl)
/- bowline/wide.Width -/
theorem fF167 : RG 167 0 [oq 2 (.assign (cq 0)), oq 3 (.assign (.const (.bool false))), oq 4 (.assign (cq 0))] ∧
 RG 167 1 [mq 8 0, oq 9 (.call (.mk (.value (.func 226)) #[(tq 8)] #[9])), mq 7 9, oq 10 (.extract (tq 7) 0), oq 11 (.extract (tq 7) 1), oq 5 (.alloc 281), .op ⟨none, .store 281 (tq 5) (tq 10), none⟩, oq 6 (.assign (tq 11))] ∧
 RG 167 2 [oq 12 (.fieldAddr 281 (tq 5) 0), oq 13 (.fieldAddr 279 (tq 12) 0), oq 14 (.load 3 (tq 13)), oq 15 (.fieldAddr 281 (tq 5) 0), oq 16 (.fieldAddr 279 (tq 15) 1), oq 17 (.load 4 (tq 16)), mq 18 6, oq 2 (.assign (tq 14)), oq 3 (.assign (tq 17)), oq 4 (.assign (tq 18)), .chk [⟨some 14, .load 3 (tq 13), none⟩, ⟨some 17, .load 4 (tq 16), none⟩]] := by and_intros <;> exact rgo fun _ => by kernel_rfl
theorem enter167 : ENT 167 19 [.tmp 2, .tmp 3, .tmp 4] (.seq (Rg 167 0) (.seq (Rg 167 1) (.seq (Rg 167 2) .ret))) := ent Tryz.f167 (by kernel_rfl)
/- bowline/wide.isDigits -/
theorem fF282 : RG 282 0 [oq 2 (.assign (.const (.bool false)))] ∧
 RG 282 1 [mq 5 0, oq 6 (.range 9 (tq 5))] ∧
 RG 282 2 [oq 7 (.next (tq 6) true), oq 8 (.extract (tq 7) 0)] ∧
 RG 282 3 [oq 9 (.extract (tq 7) 2), oq 4 (.assign (tq 9))] ∧
 RG 282 4 [mq 10 4, oq 11 (.binOp .lss 21 (tq 10) (.const (.int .i32 48)) 21), mq 12 11, .op ⟨some 13, .move (tq 4), some (12, false)⟩, .op ⟨some 14, .binOp .gtr 21 (tq 13) (.const (.int .i32 57)) 21, some (12, false)⟩, oq 15 (.pick (tq 12) (.const (.bool true)) (tq 14))] ∧
 RG 282 5 [oq 2 (.assign (.const (.bool false)))] ∧
 RG 282 6 [mq 16 0, oq 17 (.binOp .neq 9 (tq 16) (sq #[]) 9), mq 18 17, .op ⟨some 19, .move (tq 0), some (18, true)⟩, .op ⟨some 20, .binOp .eql 9 (tq 19) (sq #[48]) 9, some (18, true)⟩, .op ⟨some 21, .move (tq 20), some (18, true)⟩, .op ⟨some 22, .move (tq 0), some (21, false)⟩, .op ⟨some 23, .index 9 (tq 22) (cq 0), some (21, false)⟩, .op ⟨some 24, .binOp .neq 5 (tq 23) (.const (.int .u8 48)) 5, some (21, false)⟩, .op ⟨some 25, .pick (tq 21) (.const (.bool true)) (tq 24), some (18, true)⟩, oq 26 (.pick (tq 18) (tq 25) (.const (.bool false))), oq 2 (.assign (tq 26))] := by and_intros <;> exact rgo fun _ => by kernel_rfl
theorem enter282 : ENT 282 27 [.tmp 2] (.seq (Rg 282 0) (.seq (.seq (Rg 282 1) (.block 0 (.loop (.seq (Rg 282 2) (.seq (.cond (.tmp 8) .skip (Code.exit 0)) (.block 1 (.seq (Rg 282 3) (.seq (Rg 282 4) (.cond (.tmp 15) (.seq (Rg 282 5) .ret) .skip))))))))) (.seq (Rg 282 6) .ret))) := ent Tryz.f282 (by kernel_rfl)
/- bowline/wide.read -/
theorem fF226 : RG 226 0 [oq 2 (.alloc 281), oq 3 (.assign (cq 0))] ∧
 RG 226 1 [oq 4 (.assign (sq #[])), oq 5 (.assign (sq #[]))] ∧
 RG 226 2 [mq 12 0, oq 13 (.binOp .neq 9 (tq 12) (sq #[]) 9)] ∧
 RG 226 3 [mq 14 0, oq 15 (.slice 9 (tq 14) none (some (cq 1)) none), mq 16 0, oq 17 (.slice 9 (tq 16) (some (cq 1)) none none), oq 4 (.assign (tq 15)), oq 5 (.assign (tq 17)), .chk [⟨some 15, .slice 9 (tq 14) none (some (cq 1)) none, none⟩, ⟨some 17, .slice 9 (tq 16) (some (cq 1)) none none, none⟩]] ∧
 RG 226 4 [oq 18 (.makeMap 325 none), .op ⟨none, .insert 325 (tq 18) (sq #[117]) (.const (.bool false)), none⟩, .op ⟨none, .insert 325 (tq 18) (sq #[105]) (.const (.bool true)), none⟩, mq 19 18, oq 6 (.assign (tq 19))] ∧
 RG 226 5 [mq 21 6, mq 22 4, oq 23 (.lookup 325 (tq 21) (tq 22) true), mq 20 23, oq 24 (.extract (tq 20) 0), oq 25 (.extract (tq 20) 1), oq 7 (.assign (tq 24)), oq 8 (.assign (tq 25))] ∧
 RG 226 6 [mq 26 8, oq 27 (.unOp .not 4 (tq 26)), mq 28 27, .op ⟨some 29, .move (tq 5), some (28, false)⟩, .op ⟨some 30, .call (.mk (.value (.func 282)) #[(tq 29)] #[9]), some (28, false)⟩, .op ⟨some 31, .unOp .not 4 (tq 30), some (28, false)⟩, oq 32 (.pick (tq 28) (.const (.bool true)) (tq 31)), mq 33 32, .op ⟨some 34, .move (tq 5), some (33, false)⟩, .op ⟨some 35, .call (.mk (.builtin .len) #[(tq 34)] #[9]), some (33, false)⟩, .op ⟨some 36, .binOp .gtr 3 (tq 35) (cq 3) 3, some (33, false)⟩, oq 37 (.pick (tq 33) (.const (.bool true)) (tq 36))] ∧
 RG 226 7 [oq 38 (.build 281 #[]), .op ⟨none, .store 281 (tq 2) (tq 38), none⟩, oq 3 (.assign (cq 6))] ∧
 RG 226 8 [mq 40 5, oq 41 (.call (.mk (.value (.func 256)) #[(tq 40)] #[9])), mq 39 41, oq 42 (.extract (tq 39) 0), oq 43 (.extract (tq 39) 1), oq 9 (.assign (tq 42)), oq 10 (.assign (tq 43))] ∧
 RG 226 9 [mq 44 9, mq 45 7, oq 46 (.build 279 #[(0, (tq 44)), (1, (tq 45))]), oq 11 (.alloc 279), .op ⟨none, .store 279 (tq 11) (tq 46), none⟩] ∧
 RG 226 10 [mq 47 9, oq 48 (.binOp .gtr 3 (tq 47) (cq 64) 3), mq 49 48, .op ⟨some 50, .load 279 (tq 11), some (49, false)⟩, .op ⟨some 51, .build 279 #[(0, (cq 0)), (1, (.const (.bool true)))], some (49, false)⟩, .op ⟨some 52, .binOp .eql 279 (tq 50) (tq 51) 279, some (49, false)⟩, oq 53 (.pick (tq 49) (.const (.bool true)) (tq 52))] ∧
 RG 226 11 [oq 54 (.build 281 #[]), .op ⟨none, .store 281 (tq 2) (tq 54), none⟩, oq 3 (.assign (cq 3))] ∧
 RG 226 12 [oq 55 (.load 279 (tq 11)), mq 56 0, oq 57 (.build 281 #[(0, (tq 55)), (1, (tq 56))]), .op ⟨none, .store 281 (tq 2) (tq 57), none⟩, oq 3 (.assign (cq 0))] := by and_intros <;> exact rgo fun _ => by kernel_rfl
theorem enter226 : ENT 226 58 [.cell 2 281, .tmp 3] (.seq (Rg 226 0) (.seq (Rg 226 1) (.seq (.seq (Rg 226 2) (.cond (.tmp 13) (Rg 226 3) .skip)) (.seq (Rg 226 4) (.seq (Rg 226 5) (.seq (.seq (Rg 226 6) (.cond (.tmp 37) (.seq (Rg 226 7) .ret) .skip)) (.seq (Rg 226 8) (.seq (Rg 226 9) (.seq (.seq (Rg 226 10) (.cond (.tmp 53) (.seq (Rg 226 11) .ret) .skip)) (.seq (Rg 226 12) .ret)))))))))) := ent Tryz.f226 (by kernel_rfl)
theorem ti62 : TI 62 ⟨.slice 42, 1, 24, [.slice none 0 0]⟩ := fun _ => by kernel_rfl
theorem ti69 : TI 69 ⟨.slice 23, 1, 24, [.slice none 0 0]⟩ := fun _ => by kernel_rfl
theorem ti71 : TI 71 ⟨.func #[45] #[23] false, 1, 8, [.nilFunc]⟩ := fun _ => by kernel_rfl
theorem ti102 : TI 102 ⟨.interface #[("Error", 108)], 1, 16, [.nilIface]⟩ := fun _ => by kernel_rfl
theorem ti109 : TI 109 ⟨.func #[45] #[26] false, 1, 8, [.nilFunc]⟩ := fun _ => by kernel_rfl
theorem ti128 : TI 128 ⟨.pointer 45, 1, 8, [.pointer none]⟩ := fun _ => by kernel_rfl
theorem ti141 : TI 141 ⟨.slice 98, 1, 24, [.slice none 0 0]⟩ := fun _ => by kernel_rfl
theorem ti152 : TI 152 ⟨.slice 117, 1, 24, [.slice none 0 0]⟩ := fun _ => by kernel_rfl
theorem ti175 : TI 175 ⟨.map 9 3, 1, 8, [.map none]⟩ := fun _ => by kernel_rfl
theorem ti177 : TI 177 ⟨.int .u64, 1, 8, [.int .u64 0]⟩ := fun _ => by kernel_rfl
theorem ti197 : TI 197 ⟨.func #[204, 42, 42] #[246] false, 1, 8, [.nilFunc]⟩ := fun _ => by kernel_rfl
theorem ti199 : TI 199 ⟨.struct #[⟨ "op", 3, 0, false, "", "bowline/ops", 0⟩, ⟨ "form", 3, 1, false, "", "bowline/ops", 8⟩, ⟨ "kinds", 48, 2, false, "", "bowline/ops", 16⟩, ⟨ "do", 197, 3, false, "", "bowline/ops", 40⟩], 4, 48, [.int .i64 0, .int .i64 0, .slice none 0 0, .nilFunc]⟩ := fun _ => by kernel_rfl
theorem ti202 : TI 202 ⟨.array 9 3, 9, 72, [.int .i64 0, .int .i64 0, .int .i64 0, .int .i64 0, .int .i64 0, .int .i64 0, .int .i64 0, .int .i64 0, .int .i64 0]⟩ := fun _ => by kernel_rfl
theorem ti204 : TI 204 ⟨.struct #[⟨ "width", 3, 0, false, "", "bowline/ops", 0⟩, ⟨ "signed", 4, 1, false, "", "bowline/ops", 8⟩], 2, 16, [.int .i64 0, .bool false]⟩ := fun _ => by kernel_rfl
theorem ti207 : TI 207 ⟨.struct #[⟨ "name", 9, 0, false, "", "bowline/ops", 0⟩, ⟨ "width", 3, 1, false, "", "bowline/ops", 16⟩], 2, 24, [.string ⟨#[]⟩, .int .i64 0]⟩ := fun _ => by kernel_rfl
theorem ti208 : TI 208 ⟨.array 2 207, 4, 48, [.string ⟨#[]⟩, .int .i64 0, .string ⟨#[]⟩, .int .i64 0]⟩ := fun _ => by kernel_rfl
theorem ti279 : TI 279 ⟨.struct #[⟨ "width", 3, 0, false, "", "bowline/wide", 0⟩, ⟨ "signed", 4, 1, false, "", "bowline/wide", 8⟩], 2, 16, [.int .i64 0, .bool false]⟩ := fun _ => by kernel_rfl
theorem ti281 : TI 281 ⟨.struct #[⟨ "integer", 279, 0, true, "", "bowline/wide", 0⟩, ⟨ "name", 9, 2, false, "", "bowline/wide", 16⟩], 3, 32, [.int .i64 0, .bool false, .string ⟨#[]⟩]⟩ := fun _ => by kernel_rfl
theorem ti325 : TI 325 ⟨.map 9 4, 1, 8, [.map none]⟩ := fun _ => by kernel_rfl
def tT := And.intro ti62 <| And.intro ti69 <| And.intro ti71 <| And.intro ti102 <| And.intro ti109 <| And.intro ti128 <| And.intro ti141 <| And.intro ti152 <| And.intro ti175 <| And.intro ti177 <| And.intro ti197 <| And.intro ti199 <| And.intro ti202 <| And.intro ti204 <| And.intro ti207 <| And.intro ti208 <| And.intro ti279 <| And.intro ti281 <| And.intro ti325 <| tTGa
end Go.D
