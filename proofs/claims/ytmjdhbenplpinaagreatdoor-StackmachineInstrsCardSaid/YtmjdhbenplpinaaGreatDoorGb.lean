/- Plans of the functions, printed by genfn2.py out of the print of them by Lean; each is proved to be the code. -/
import Derived.Test.YtmjdhbenplpinaaGreatDoorGa
namespace Go.D
open Go.Proofs
set_option maxRecDepth 100000
set_option linter.defProp false
/- bowline/bowlineref26.operation -/
theorem fF42 : RG 42 0 [oq 1 (.box 36 (tq 0)), oq 2 (.assign (cq 0))] ∧
 RG 42 1 [oq 7 (.fieldAddr 36 (tq 1) 0), oq 8 (.load 3 (tq 7)), oq 9 (.binOp .lss 3 (tq 8) (cq 6) 3), mq 10 9, .op ⟨some 11, .fieldAddr 36 (tq 1) 0, some (10, false)⟩, .op ⟨some 12, .load 3 (tq 11), some (10, false)⟩, .op ⟨some 13, .binOp .gtr 3 (tq 12) (cq 8) 3, some (10, false)⟩, oq 14 (.pick (tq 10) (.const (.bool true)) (tq 13))] ∧
 RG 42 2 [oq 2 (.assign (cq 0))] ∧
 RG 42 3 [oq 15 (.fieldAddr 36 (tq 1) 3), oq 16 (.load 34 (tq 15)), oq 17 (.convert 34 3 (tq 16)), oq 3 (.assign (tq 17))] ∧
 RG 42 4 [mq 19 3, oq 20 (.call (.mk (.value (.func 68)) #[(tq 19)] #[3])), mq 18 20, oq 21 (.extract (tq 18) 0), oq 22 (.extract (tq 18) 1), oq 4 (.assign (tq 21)), oq 5 (.assign (tq 22))] ∧
 RG 42 5 [mq 23 5, oq 24 (.binOp .neq 3 (tq 23) (cq 0) 3)] ∧
 RG 42 6 [oq 2 (.assign (cq 11))] ∧
 RG 42 7 [oq 6 (.assign (.const (.bool false)))] ∧
 RG 42 8 [oq 25 (.fieldAddr 36 (tq 1) 0), oq 26 (.load 3 (tq 25))] ∧
 RG 42 9 [oq 28 (.binOp .eql 3 (tq 26) (cq 6) 3), oq 27 (.assign (tq 28))] ∧
 RG 42 10 [mq 29 4, oq 30 (.binOp .eql 3 (tq 29) (cq 1) 3), mq 31 30, .op ⟨some 32, .move (tq 3), some (31, true)⟩, .op ⟨some 33, .fieldAddr 36 (tq 1) 1, some (31, true)⟩, .op ⟨some 34, .load 9 (tq 33), some (31, true)⟩, .op ⟨some 35, .call (.mk (.value (.func 69)) #[(tq 32), (tq 34)] #[3,9]), some (31, true)⟩, oq 36 (.pick (tq 31) (tq 35) (.const (.bool false))), oq 6 (.assign (tq 36))] ∧
 RG 42 11 [oq 38 (.binOp .eql 3 (tq 26) (cq 7) 3), oq 37 (.assign (tq 38))] ∧
 RG 42 12 [mq 39 4, oq 40 (.binOp .eql 3 (tq 39) (cq 2) 3), mq 41 40, .op ⟨some 42, .move (tq 4), some (41, false)⟩, .op ⟨some 43, .binOp .eql 3 (tq 42) (cq 3) 3, some (41, false)⟩, oq 44 (.pick (tq 41) (.const (.bool true)) (tq 43)), mq 45 44, .op ⟨some 46, .move (tq 3), some (45, true)⟩, .op ⟨some 47, .fieldAddr 36 (tq 1) 1, some (45, true)⟩, .op ⟨some 48, .load 9 (tq 47), some (45, true)⟩, .op ⟨some 49, .call (.mk (.value (.func 69)) #[(tq 46), (tq 48)] #[3,9]), some (45, true)⟩, oq 50 (.pick (tq 45) (tq 49) (.const (.bool false))), oq 6 (.assign (tq 50))] ∧
 RG 42 13 [oq 52 (.binOp .eql 3 (tq 26) (cq 8) 3), oq 51 (.assign (tq 52))] ∧
 RG 42 14 [mq 53 4, oq 54 (.binOp .eql 3 (tq 53) (cq 4) 3), mq 55 54, .op ⟨some 56, .move (tq 3), some (55, true)⟩, .op ⟨some 57, .fieldAddr 36 (tq 1) 1, some (55, true)⟩, .op ⟨some 58, .load 9 (tq 57), some (55, true)⟩, .op ⟨some 59, .fieldAddr 36 (tq 1) 2, some (55, true)⟩, .op ⟨some 60, .load 9 (tq 59), some (55, true)⟩, .op ⟨some 61, .call (.mk (.value (.func 70)) #[(tq 56), (tq 58), (tq 60)] #[3,9,9]), some (55, true)⟩, oq 62 (.pick (tq 55) (tq 61) (.const (.bool false))), oq 6 (.assign (tq 62))] ∧
 RG 42 15 [mq 63 6, oq 64 (.unOp .not 4 (tq 63)), oq 65 (.call (.mk (.value (.func 65)) #[(tq 64), (cq 11)] #[4,3])), oq 2 (.assign (tq 65))] := by and_intros <;> exact rgo fun _ => by kernel_rfl
theorem enter42 : ENT 42 66 [.tmp 2] (.seq (Rg 42 0) (.seq (.seq (Rg 42 1) (.cond (.tmp 14) (.seq (Rg 42 2) .ret) .skip)) (.seq (Rg 42 3) (.seq (Rg 42 4) (.seq (.seq (Rg 42 5) (.cond (.tmp 24) (.seq (Rg 42 6) .ret) .skip)) (.seq (Rg 42 7) (.seq (.seq (Rg 42 8) (.block 0 (.seq (Rg 42 9) (.cond (.tmp 27) (Rg 42 10) (.seq (Rg 42 11) (.cond (.tmp 37) (Rg 42 12) (.seq (Rg 42 13) (.cond (.tmp 51) (Rg 42 14) .skip)))))))) (.seq (Rg 42 15) .ret)))))))) := ent Tryz.f42 (by kernel_rfl)
/- bowline/bowlineref26.ranges -/
theorem fF41 : RG 41 0 [oq 1 (.box 36 (tq 0)), oq 2 (.assign (cq 0))] ∧
 RG 41 1 [oq 5 (.fieldAddr 36 (tq 1) 0), oq 6 (.load 3 (tq 5)), oq 7 (.call (.mk (.value (.func 24)) #[(tq 6)] #[3])), oq 3 (.alloc 77), .op ⟨none, .store 77 (tq 3) (tq 7), none⟩] ∧
 RG 41 2 [oq 8 (.load 77 (tq 3)), oq 9 (.call (.mk (.value (.func 38)) #[(tq 8), (.const (.int .u8 115))] #[77,5])), mq 10 9, .op ⟨some 11, .load 77 (tq 3), some (10, false)⟩, .op ⟨some 12, .call (.mk (.value (.func 38)) #[(tq 11), (.const (.int .u8 100))] #[77,5]), some (10, false)⟩, oq 13 (.pick (tq 10) (.const (.bool true)) (tq 12)), mq 14 13, .op ⟨some 15, .fieldAddr 36 (tq 1) 4, some (14, true)⟩, .op ⟨some 16, .load 3 (tq 15), some (14, true)⟩, .op ⟨some 17, .call (.mk (.value (.func 66)) #[(tq 16)] #[3]), some (14, true)⟩, .op ⟨some 18, .unOp .not 4 (tq 17), some (14, true)⟩, oq 19 (.pick (tq 14) (tq 18) (.const (.bool false)))] ∧
 RG 41 3 [oq 2 (.assign (cq 3))] ∧
 RG 41 4 [oq 4 (.assign (.const (.bool false)))] ∧
 RG 41 5 [oq 20 (.fieldAddr 36 (tq 1) 0), oq 21 (.load 3 (tq 20))] ∧
 RG 41 6 [oq 23 (.binOp .eql 3 (tq 21) (cq 2) 3), oq 22 (.assign (tq 23))] ∧
 RG 41 7 [oq 24 (.binOp .eql 3 (tq 21) (cq 3) 3), oq 22 (.assign (tq 24))] ∧
 RG 41 8 [oq 25 (.binOp .eql 3 (tq 21) (cq 4) 3), oq 22 (.assign (tq 25))] ∧
 RG 41 9 [oq 26 (.fieldAddr 36 (tq 1) 3), oq 27 (.load 34 (tq 26)), oq 28 (.binOp .gtr 34 (tq 27) (.const (.int .u64 9999)) 34), oq 4 (.assign (tq 28))] ∧
 RG 41 10 [oq 30 (.binOp .eql 3 (tq 21) (cq 6) 3), oq 29 (.assign (tq 30))] ∧
 RG 41 11 [oq 31 (.binOp .eql 3 (tq 21) (cq 7) 3), oq 29 (.assign (tq 31))] ∧
 RG 41 12 [oq 32 (.binOp .eql 3 (tq 21) (cq 8) 3), oq 29 (.assign (tq 32))] ∧
 RG 41 13 [oq 33 (.fieldAddr 36 (tq 1) 3), oq 34 (.load 34 (tq 33)), oq 35 (.binOp .gtr 34 (tq 34) (.const (.int .u64 255)) 34), oq 4 (.assign (tq 35))] ∧
 RG 41 14 [oq 37 (.binOp .eql 3 (tq 21) (cq 13) 3), oq 36 (.assign (tq 37))] ∧
 RG 41 15 [oq 38 (.fieldAddr 36 (tq 1) 3), oq 39 (.load 34 (tq 38)), oq 40 (.binOp .gtr 34 (tq 39) (.const (.int .u64 2147483647)) 34), oq 4 (.assign (tq 40))] ∧
 RG 41 16 [oq 42 (.binOp .eql 3 (tq 21) (cq 14) 3), oq 41 (.assign (tq 42))] ∧
 RG 41 17 [oq 43 (.fieldAddr 36 (tq 1) 3), oq 44 (.load 34 (tq 43)), oq 45 (.binOp .gtr 34 (tq 44) (.const (.int .u64 16)) 34), mq 46 45, .op ⟨some 47, .fieldAddr 36 (tq 1) 3, some (46, false)⟩, .op ⟨some 48, .load 34 (tq 47), some (46, false)⟩, .op ⟨some 49, .convert 34 3 (tq 48), some (46, false)⟩, .op ⟨some 50, .call (.mk (.value (.func 67)) #[(tq 49)] #[3]), some (46, false)⟩, .op ⟨some 51, .unOp .not 4 (tq 50), some (46, false)⟩, oq 52 (.pick (tq 46) (.const (.bool true)) (tq 51)), oq 4 (.assign (tq 52))] ∧
 RG 41 18 [oq 54 (.binOp .eql 3 (tq 21) (cq 24) 3), oq 53 (.assign (tq 54))] ∧
 RG 41 19 [oq 55 (.fieldAddr 36 (tq 1) 3), oq 56 (.load 34 (tq 55)), oq 57 (.binOp .gtr 34 (tq 56) (.const (.int .u64 9999)) 34), mq 58 57, .op ⟨some 59, .fieldAddr 36 (tq 1) 4, some (58, false)⟩, .op ⟨some 60, .load 3 (tq 59), some (58, false)⟩, .op ⟨some 61, .binOp .lss 3 (tq 60) (cq 0) 3, some (58, false)⟩, oq 62 (.pick (tq 58) (.const (.bool true)) (tq 61)), mq 63 62, .op ⟨some 64, .fieldAddr 36 (tq 1) 4, some (63, false)⟩, .op ⟨some 65, .load 3 (tq 64), some (63, false)⟩, .op ⟨some 66, .fieldAddr 36 (tq 1) 3, some (63, false)⟩, .op ⟨some 67, .load 34 (tq 66), some (63, false)⟩, .op ⟨some 68, .convert 34 3 (tq 67), some (63, false)⟩, .op ⟨some 69, .binOp .gtr 3 (tq 65) (tq 68) 3, some (63, false)⟩, oq 70 (.pick (tq 63) (.const (.bool true)) (tq 69)), mq 71 70, .op ⟨some 72, .fieldAddr 36 (tq 1) 5, some (71, false)⟩, .op ⟨some 73, .load 3 (tq 72), some (71, false)⟩, .op ⟨some 74, .binOp .lss 3 (tq 73) (cq 0) 3, some (71, false)⟩, oq 75 (.pick (tq 71) (.const (.bool true)) (tq 74)), mq 76 75, .op ⟨some 77, .fieldAddr 36 (tq 1) 5, some (76, false)⟩, .op ⟨some 78, .load 3 (tq 77), some (76, false)⟩, .op ⟨some 79, .binOp .gtr 3 (tq 78) (cq 65536) 3, some (76, false)⟩, oq 80 (.pick (tq 76) (.const (.bool true)) (tq 79)), oq 4 (.assign (tq 80))] ∧
 RG 41 20 [oq 82 (.binOp .eql 3 (tq 21) (cq 25) 3), oq 81 (.assign (tq 82))] ∧
 RG 41 21 [oq 83 (.fieldAddr 36 (tq 1) 3), oq 84 (.load 34 (tq 83)), oq 85 (.binOp .gtr 34 (tq 84) (.const (.int .u64 1)) 34), oq 4 (.assign (tq 85))] ∧
 RG 41 22 [oq 87 (.binOp .eql 3 (tq 21) (cq 26) 3), oq 86 (.assign (tq 87))] ∧
 RG 41 23 [oq 88 (.fieldAddr 36 (tq 1) 3), oq 89 (.load 34 (tq 88)), oq 90 (.binOp .gtr 34 (tq 89) (.const (.int .u64 65536)) 34), oq 4 (.assign (tq 90))] ∧
 RG 41 24 [oq 92 (.binOp .eql 3 (tq 21) (cq 27) 3), oq 91 (.assign (tq 92))] ∧
 RG 41 25 [oq 93 (.fieldAddr 36 (tq 1) 3), oq 94 (.load 34 (tq 93)), oq 95 (.binOp .geq 34 (tq 94) (.const (.int .u64 13)) 34), oq 4 (.assign (tq 95))] ∧
 RG 41 26 [oq 97 (.binOp .eql 3 (tq 21) (cq 28) 3), oq 96 (.assign (tq 97))] ∧
 RG 41 27 [oq 98 (.fieldAddr 36 (tq 1) 3), oq 99 (.load 34 (tq 98)), oq 100 (.binOp .geq 34 (tq 99) (.const (.int .u64 19)) 34), oq 4 (.assign (tq 100))] ∧
 RG 41 28 [mq 101 4, oq 102 (.call (.mk (.value (.func 65)) #[(tq 101), (cq 3)] #[4,3])), oq 2 (.assign (tq 102))] := by and_intros <;> exact rgo fun _ => by kernel_rfl
theorem enter41 : ENT 41 103 [.tmp 2] (.seq (Rg 41 0) (.seq (Rg 41 1) (.seq (.seq (Rg 41 2) (.cond (.tmp 19) (.seq (Rg 41 3) .ret) .skip)) (.seq (Rg 41 4) (.seq (.seq (Rg 41 5) (.block 0 (.seq (.seq (Rg 41 6) (.cond (.tmp 22) .skip (.seq (Rg 41 7) (.cond (.tmp 22) .skip (Rg 41 8))))) (.cond (.tmp 22) (Rg 41 9) (.seq (.seq (Rg 41 10) (.cond (.tmp 29) .skip (.seq (Rg 41 11) (.cond (.tmp 29) .skip (Rg 41 12))))) (.cond (.tmp 29) (Rg 41 13) (.seq (Rg 41 14) (.cond (.tmp 36) (Rg 41 15) (.seq (Rg 41 16) (.cond (.tmp 41) (Rg 41 17) (.seq (Rg 41 18) (.cond (.tmp 53) (Rg 41 19) (.seq (Rg 41 20) (.cond (.tmp 81) (Rg 41 21) (.seq (Rg 41 22) (.cond (.tmp 86) (Rg 41 23) (.seq (Rg 41 24) (.cond (.tmp 91) (Rg 41 25) (.seq (Rg 41 26) (.cond (.tmp 96) (Rg 41 27) .skip)))))))))))))))))))) (.seq (Rg 41 28) .ret)))))) := ent Tryz.f41 (by kernel_rfl)
/- bowline/bowlineref26.rowOf -/
theorem fF24 : RG 24 0 [oq 2 (.alloc 77)] ∧
 RG 24 1 [oq 4 (.build 77 #[(0, (sq #[99,111,110,115,116])), (1, (sq #[110])), (2, (cq 0)), (3, (cq 1))]), oq 5 (.build 77 #[(0, (sq #[119,111,114,100])), (1, (sq #[119])), (2, (cq 0)), (3, (cq 1))]), oq 6 (.build 77 #[(0, (sq #[103,101,116])), (1, (sq #[110])), (2, (cq 0)), (3, (cq 1))]), oq 7 (.build 77 #[(0, (sq #[115,101,116])), (1, (sq #[110])), (2, (cq 1)), (3, (cq 0))]), oq 8 (.build 77 #[(0, (sq #[116,101,101])), (1, (sq #[110])), (2, (cq 1)), (3, (cq 1))]), oq 9 (.build 77 #[(0, (sq #[100,114,111,112])), (1, (sq #[])), (2, (cq 1)), (3, (cq 0))]), oq 10 (.build 77 #[(0, (sq #[117,110,97,114,121])), (1, (sq #[116,110])), (2, (cq 1)), (3, (cq 1))]), oq 11 (.build 77 #[(0, (sq #[98,105,110,97,114,121])), (1, (sq #[116,110])), (2, (cq 2)), (3, (cq 1))]), oq 12 (.build 77 #[(0, (sq #[99,111,110,118,101,114,116])), (1, (sq #[116,117,110])), (2, (cq 1)), (3, (cq 1))]), oq 13 (.build 77 #[(0, (sq #[108,111,97,100])), (1, (sq #[116,115])), (2, (cq 1)), (3, (cq 1))]), oq 14 (.build 77 #[(0, (sq #[115,116,111,114,101])), (1, (sq #[116,115])), (2, (cq 2)), (3, (cq 0))]), oq 15 (.build 77 #[(0, (sq #[108,101,97])), (1, (sq #[115])), (2, (cq 1)), (3, (cq 1))]), oq 16 (.build 77 #[(0, (sq #[105,110,100,101,120])), (1, (sq #[115])), (2, (cq 2)), (3, (cq 1))]), oq 17 (.build 77 #[(0, (sq #[99,111,112,121])), (1, (sq #[110])), (2, (cq 2)), (3, (cq 0))]), oq 18 (.build 77 #[(0, (sq #[97,108,108,111,99])), (1, (sq #[110])), (2, (cq 1)), (3, (cq 1))]), oq 19 (.build 77 #[(0, (sq #[102,114,101,101])), (1, (sq #[])), (2, (cq 1)), (3, (cq 0))]), oq 20 (.build 77 #[(0, (sq #[111,117,116])), (1, (sq #[116])), (2, (cq 1)), (3, (cq 0))]), oq 21 (.build 77 #[(0, (sq #[112,114,105,110,116])), (1, (sq #[])), (2, (cq 2)), (3, (cq 0))]), oq 22 (.build 77 #[(0, (sq #[116,114,97,99,101])), (1, (sq #[])), (2, (cq 0)), (3, (cq 0))]), oq 23 (.build 77 #[(0, (sq #[102,111,114,103,101,116])), (1, (sq #[])), (2, (cq 0)), (3, (cq 0))]), oq 24 (.build 77 #[(0, (sq #[106,117,109,112])), (1, (sq #[100])), (2, (cq 0)), (3, (cq 0))]), oq 25 (.build 77 #[(0, (sq #[98,114,97,110,99,104])), (1, (sq #[100])), (2, (cq 1)), (3, (cq 0))]), oq 26 (.build 77 #[(0, (sq #[99,97,115,101])), (1, (sq #[116,119,100])), (2, (cq 1)), (3, (cq 1))]), oq 27 (.build 77 #[(0, (sq #[99,97,108,108])), (1, (sq #[100])), (2, (cq 0)), (3, (cq 0))]), oq 28 (.build 77 #[(0, (sq #[101,110,116,101,114])), (1, (sq #[101])), (2, (cq 0)), (3, (cq 0))]), oq 29 (.build 77 #[(0, (sq #[114,101,116,117,114,110])), (1, (sq #[110])), (2, (cq 0)), (3, (cq 0))]), oq 30 (.build 77 #[(0, (sq #[102,114,97,109,101])), (1, (sq #[110])), (2, (cq 0)), (3, (cq 1))]), oq 31 (.build 77 #[(0, (sq #[116,114,97,112])), (1, (sq #[110])), (2, (cq 0)), (3, (cq 0))]), oq 32 (.build 77 #[(0, (sq #[99,114,97,115,104])), (1, (sq #[110])), (2, (cq 0)), (3, (cq 0))]), oq 33 (.buildSlice 119 29 #[(0, (tq 4)), (1, (tq 5)), (2, (tq 6)), (3, (tq 7)), (4, (tq 8)), (5, (tq 9)), (6, (tq 10)), (7, (tq 11)), (8, (tq 12)), (9, (tq 13)), (10, (tq 14)), (11, (tq 15)), (12, (tq 16)), (13, (tq 17)), (14, (tq 18)), (15, (tq 19)), (16, (tq 20)), (17, (tq 21)), (18, (tq 22)), (19, (tq 23)), (20, (tq 24)), (21, (tq 25)), (22, (tq 26)), (23, (tq 27)), (24, (tq 28)), (25, (tq 29)), (26, (tq 30)), (27, (tq 31)), (28, (tq 32))]), oq 3 (.assign (tq 33))] ∧
 RG 24 2 [mq 34 3, mq 35 0, oq 36 (.indexAddr 119 (tq 34) (tq 35)), oq 37 (.load 77 (tq 36)), .op ⟨none, .store 77 (tq 2) (tq 37), none⟩] := by and_intros <;> exact rgo fun _ => by kernel_rfl
theorem enter24 : ENT 24 38 [.cell 2 77] (.seq (Rg 24 0) (.seq (Rg 24 1) (.seq (Rg 24 2) .ret))) := ent Tryz.f24 (by kernel_rfl)
/- bowline/bowlineref26.signed -/
theorem fF58 : RG 58 0 [oq 2 (.assign (.const (.int .u64 0)))] ∧
 RG 58 1 [mq 3 0, oq 4 (.binOp .lss 3 (tq 3) (cq 0) 3)] ∧
 RG 58 2 [mq 5 0, oq 6 (.binOp .mul 3 (cq (-2)) (tq 5) 3), oq 7 (.binOp .sub 3 (tq 6) (cq 1) 3), oq 8 (.convert 3 34 (tq 7)), oq 2 (.assign (tq 8))] ∧
 RG 58 3 [mq 9 0, oq 10 (.binOp .mul 3 (cq 2) (tq 9) 3), oq 11 (.convert 3 34 (tq 10)), oq 2 (.assign (tq 11))] := by and_intros <;> exact rgo fun _ => by kernel_rfl
theorem enter58 : ENT 58 12 [.tmp 2] (.seq (Rg 58 0) (.seq (.seq (Rg 58 1) (.cond (.tmp 4) (.seq (Rg 58 2) .ret) .skip)) (.seq (Rg 58 3) .ret))) := ent Tryz.f58 (by kernel_rfl)
/- bowline/bowlineref26.types -/
theorem fF40 : RG 40 0 [oq 4 (.assign (cq 0))] ∧
 RG 40 1 [mq 8 0, oq 9 (.call (.mk (.value (.func 56)) #[(tq 8)] #[9])), mq 7 9, oq 10 (.extract (tq 7) 0), oq 11 (.extract (tq 7) 1), oq 5 (.assign (tq 10)), oq 6 (.assign (tq 11))] ∧
 RG 40 2 [mq 12 6, oq 13 (.binOp .neq 3 (tq 12) (cq 0) 3), mq 14 13, .op ⟨some 15, .move (tq 0), some (14, false)⟩, .op ⟨some 16, .binOp .eql 9 (tq 15) (sq #[]) 9, some (14, false)⟩, .op ⟨some 17, .move (tq 1), some (14, false)⟩, .op ⟨some 18, .binOp .eql 4 (tq 16) (tq 17) 4, some (14, false)⟩, oq 19 (.pick (tq 14) (.const (.bool true)) (tq 18)), oq 20 (.call (.mk (.value (.func 65)) #[(tq 19), (cq 12)] #[4,3])), oq 4 (.assign (tq 20))] := by and_intros <;> exact rgo fun _ => by kernel_rfl
theorem enter40 : ENT 40 21 [.tmp 4] (.seq (Rg 40 0) (.seq (Rg 40 1) (.seq (Rg 40 2) .ret))) := ent Tryz.f40 (by kernel_rfl)
/- internal/strconv.Atoi -/
theorem fF239 : RG 239 0 [oq 2 (.assign (cq 0)), oq 3 (.assign (.const .nilIface))] ∧
 RG 239 1 [mq 11 0, oq 12 (.call (.mk (.builtin .len) #[(tq 11)] #[9])), oq 4 (.assign (tq 12))] ∧
 RG 239 2 [oq 13 (.move (.const (.bool false))), .op ⟨some 14, .move (tq 4), some (13, true)⟩, .op ⟨some 15, .binOp .lss 3 (cq 0) (tq 14) 3, some (13, true)⟩, .op ⟨some 16, .move (tq 15), some (13, true)⟩, .op ⟨some 17, .move (tq 4), some (16, true)⟩, .op ⟨some 18, .binOp .lss 3 (tq 17) (cq 10) 3, some (16, true)⟩, .op ⟨some 19, .pick (tq 16) (tq 18) (.const (.bool false)), some (13, true)⟩, oq 20 (.pick (tq 13) (tq 19) (.const (.bool false))), mq 21 20, .op ⟨some 22, .move (.const (.bool true)), some (21, false)⟩, .op ⟨some 23, .move (tq 4), some (22, true)⟩, .op ⟨some 24, .binOp .lss 3 (cq 0) (tq 23) 3, some (22, true)⟩, .op ⟨some 25, .move (tq 24), some (22, true)⟩, .op ⟨some 26, .move (tq 4), some (25, true)⟩, .op ⟨some 27, .binOp .lss 3 (tq 26) (cq 19) 3, some (25, true)⟩, .op ⟨some 28, .pick (tq 25) (tq 27) (.const (.bool false)), some (22, true)⟩, .op ⟨some 29, .pick (tq 22) (tq 28) (.const (.bool false)), some (21, false)⟩, oq 30 (.pick (tq 21) (.const (.bool true)) (tq 29))] ∧
 RG 239 3 [mq 31 0, oq 5 (.assign (tq 31))] ∧
 RG 239 4 [mq 32 0, oq 33 (.index 9 (tq 32) (cq 0)), oq 34 (.binOp .eql 5 (tq 33) (.const (.int .u8 45)) 5), mq 35 34, .op ⟨some 36, .move (tq 0), some (35, false)⟩, .op ⟨some 37, .index 9 (tq 36) (cq 0), some (35, false)⟩, .op ⟨some 38, .binOp .eql 5 (tq 37) (.const (.int .u8 43)) 5, some (35, false)⟩, oq 39 (.pick (tq 35) (.const (.bool true)) (tq 38))] ∧
 RG 239 5 [mq 40 0, oq 41 (.slice 9 (tq 40) (some (cq 1)) none none), oq 0 (.assign (tq 41))] ∧
 RG 239 6 [mq 42 0, oq 43 (.call (.mk (.builtin .len) #[(tq 42)] #[9])), oq 44 (.binOp .lss 3 (tq 43) (cq 1) 3)] ∧
 RG 239 7 [oq 45 (.makeInterface 319 (cq 2)), oq 2 (.assign (cq 0)), oq 3 (.assign (tq 45))] ∧
 RG 239 8 [oq 6 (.assign (cq 0))] ∧
 RG 239 9 [mq 46 0, oq 47 (.convert 9 49 (tq 46)), oq 48 (.call (.mk (.builtin .len) #[(tq 47)] #[49])), oq 49 (.move (cq 0))] ∧
 RG 239 10 [oq 50 (.binOp .lss 3 (tq 49) (tq 48) 3)] ∧
 RG 239 11 [oq 51 (.indexAddr 49 (tq 47) (tq 49)), oq 52 (.load 5 (tq 51)), oq 8 (.assign (tq 52))] ∧
 RG 239 12 [mq 53 8, oq 54 (.binOp .sub 5 (tq 53) (.const (.int .u8 48)) 5), oq 8 (.assign (tq 54))] ∧
 RG 239 13 [mq 55 8, oq 56 (.binOp .gtr 5 (tq 55) (.const (.int .u8 9)) 5)] ∧
 RG 239 14 [oq 57 (.makeInterface 319 (cq 2)), oq 2 (.assign (cq 0)), oq 3 (.assign (tq 57))] ∧
 RG 239 15 [mq 58 6, oq 59 (.binOp .mul 3 (tq 58) (cq 10) 3), mq 60 8, oq 61 (.convert 5 3 (tq 60)), oq 62 (.binOp .add 3 (tq 59) (tq 61) 3), oq 6 (.assign (tq 62))] ∧
 RG 239 16 [oq 63 (.binOp .add 3 (tq 49) (cq 1) 3), mq 49 63] ∧
 RG 239 17 [mq 64 5, oq 65 (.index 9 (tq 64) (cq 0)), oq 66 (.binOp .eql 5 (tq 65) (.const (.int .u8 45)) 5)] ∧
 RG 239 18 [mq 67 6, oq 68 (.unOp .neg 3 (tq 67)), oq 6 (.assign (tq 68))] ∧
 RG 239 19 [mq 69 6, oq 2 (.assign (tq 69)), oq 3 (.assign (.const .nilIface))] ∧
 RG 239 20 [mq 71 0, oq 72 (.call (.mk (.value (.func 278)) #[(tq 71), (cq 10), (cq 0)] #[9,3,3])), mq 70 72, oq 73 (.extract (tq 70) 0), oq 74 (.extract (tq 70) 1), oq 9 (.assign (tq 73)), oq 10 (.assign (tq 74))] ∧
 RG 239 21 [mq 75 9, mq 76 10, oq 2 (.assign (tq 75)), oq 3 (.assign (tq 76))] := by and_intros <;> exact rgo fun _ => by kernel_rfl
theorem enter239 : ENT 239 77 [.tmp 2, .tmp 3] (.seq (Rg 239 0) (.seq (Rg 239 1) (.seq (.seq (Rg 239 2) (.cond (.tmp 30) (.seq (Rg 239 3) (.seq (.seq (Rg 239 4) (.cond (.tmp 39) (.seq (Rg 239 5) (.seq (Rg 239 6) (.cond (.tmp 44) (.seq (Rg 239 7) .ret) .skip))) .skip)) (.seq (Rg 239 8) (.seq (.seq (Rg 239 9) (.block 0 (.loop (.seq (Rg 239 10) (.seq (.cond (.tmp 50) .skip (Code.exit 0)) (.seq (.block 1 (.seq (Rg 239 11) (.seq (Rg 239 12) (.seq (.seq (Rg 239 13) (.cond (.tmp 56) (.seq (Rg 239 14) .ret) .skip)) (Rg 239 15))))) (Rg 239 16))))))) (.seq (.seq (Rg 239 17) (.cond (.tmp 66) (Rg 239 18) .skip)) (.seq (Rg 239 19) .ret)))))) .skip)) (.seq (Rg 239 20) (.seq (Rg 239 21) .ret))))) := ent Tryz.f239 (by kernel_rfl)
/- bowline/ops.Converts -/
theorem fF64 : RG 64 0 [oq 6 (.assign (.const (.bool false)))] ∧
 RG 64 1 [mq 16 1, oq 17 (.call (.mk (.value (.func 97)) #[(tq 16)] #[9])), mq 15 17, oq 18 (.extract (tq 15) 0), oq 19 (.extract (tq 15) 1), oq 7 (.alloc 160), .op ⟨none, .store 160 (tq 7) (tq 18), none⟩, oq 8 (.assign (tq 19))] ∧
 RG 64 2 [mq 21 2, oq 22 (.call (.mk (.value (.func 97)) #[(tq 21)] #[9])), mq 20 22, oq 23 (.extract (tq 20) 0), oq 24 (.extract (tq 20) 1), oq 9 (.alloc 160), .op ⟨none, .store 160 (tq 9) (tq 23), none⟩, oq 10 (.assign (tq 24))] ∧
 RG 64 3 [mq 26 1, oq 27 (.call (.mk (.value (.func 92)) #[(tq 26)] #[9])), mq 25 27, oq 28 (.extract (tq 25) 0), oq 29 (.extract (tq 25) 1), oq 11 (.assign (tq 28)), oq 12 (.assign (tq 29))] ∧
 RG 64 4 [mq 31 2, oq 32 (.call (.mk (.value (.func 92)) #[(tq 31)] #[9])), mq 30 32, oq 33 (.extract (tq 30) 0), oq 34 (.extract (tq 30) 1), oq 13 (.assign (tq 33)), oq 14 (.assign (tq 34))] ∧
 RG 64 5 [mq 35 0] ∧
 RG 64 6 [oq 37 (.binOp .eql 3 (tq 35) (cq 38) 3), oq 36 (.assign (tq 37))] ∧
 RG 64 7 [oq 38 (.binOp .eql 3 (tq 35) (cq 39) 3), oq 36 (.assign (tq 38))] ∧
 RG 64 8 [mq 39 8, mq 40 39, .op ⟨some 41, .move (tq 10), some (40, true)⟩, oq 42 (.pick (tq 40) (tq 41) (.const (.bool false))), oq 6 (.assign (tq 42))] ∧
 RG 64 9 [oq 44 (.binOp .eql 3 (tq 35) (cq 40) 3), oq 43 (.assign (tq 44))] ∧
 RG 64 10 [mq 45 8, mq 46 45, .op ⟨some 47, .move (tq 10), some (46, true)⟩, oq 48 (.pick (tq 46) (tq 47) (.const (.bool false))), mq 49 48, .op ⟨some 50, .fieldAddr 160 (tq 9) 0, some (49, true)⟩, .op ⟨some 51, .load 3 (tq 50), some (49, true)⟩, .op ⟨some 52, .fieldAddr 160 (tq 7) 0, some (49, true)⟩, .op ⟨some 53, .load 3 (tq 52), some (49, true)⟩, .op ⟨some 54, .binOp .leq 3 (tq 51) (tq 53) 3, some (49, true)⟩, oq 55 (.pick (tq 49) (tq 54) (.const (.bool false))), oq 6 (.assign (tq 55))] ∧
 RG 64 11 [oq 57 (.binOp .eql 3 (tq 35) (cq 41) 3), oq 56 (.assign (tq 57))] ∧
 RG 64 12 [mq 58 12, mq 59 14, oq 60 (.buildSlice 120 2 #[(0, (tq 58)), (1, (tq 59))]), oq 61 (.call (.mk (.value (.func 98)) #[(tq 60)] #[120])), oq 62 (.binOp .eql 25 (tq 61) (cq 0) 25), mq 63 62, .op ⟨some 64, .move (tq 11), some (63, true)⟩, .op ⟨some 65, .move (tq 13), some (63, true)⟩, .op ⟨some 66, .binOp .eql 3 (tq 64) (tq 65) 3, some (63, true)⟩, oq 67 (.pick (tq 63) (tq 66) (.const (.bool false))), mq 68 67, .op ⟨some 69, .move (tq 1), some (68, true)⟩, .op ⟨some 70, .binOp .neq 9 (tq 69) (sq #[112,116,114]) 9, some (68, true)⟩, oq 71 (.pick (tq 68) (tq 70) (.const (.bool false))), mq 72 71, .op ⟨some 73, .move (tq 2), some (72, true)⟩, .op ⟨some 74, .binOp .neq 9 (tq 73) (sq #[112,116,114]) 9, some (72, true)⟩, oq 75 (.pick (tq 72) (tq 74) (.const (.bool false))), oq 6 (.assign (tq 75))] ∧
 RG 64 13 [oq 77 (.binOp .eql 3 (tq 35) (cq 42) 3), oq 76 (.assign (tq 77))] ∧
 RG 64 14 [mq 78 8, mq 79 78, .op ⟨some 80, .move (tq 2), some (79, true)⟩, .op ⟨some 81, .call (.mk (.value (.func 95)) #[(tq 80)] #[9]), some (79, true)⟩, oq 82 (.pick (tq 79) (tq 81) (.const (.bool false))), oq 6 (.assign (tq 82))] ∧
 RG 64 15 [oq 84 (.binOp .eql 3 (tq 35) (cq 43) 3), oq 83 (.assign (tq 84))] ∧
 RG 64 16 [oq 85 (.binOp .eql 3 (tq 35) (cq 44) 3), oq 83 (.assign (tq 85))] ∧
 RG 64 17 [mq 86 1, oq 87 (.call (.mk (.value (.func 95)) #[(tq 86)] #[9])), mq 88 87, .op ⟨some 89, .move (tq 10), some (88, true)⟩, oq 90 (.pick (tq 88) (tq 89) (.const (.bool false))), oq 6 (.assign (tq 90))] ∧
 RG 64 18 [oq 92 (.binOp .eql 3 (tq 35) (cq 45) 3), oq 91 (.assign (tq 92))] ∧
 RG 64 19 [mq 93 1, oq 94 (.call (.mk (.value (.func 95)) #[(tq 93)] #[9])), mq 95 94, .op ⟨some 96, .move (tq 2), some (95, true)⟩, .op ⟨some 97, .call (.mk (.value (.func 95)) #[(tq 96)] #[9]), some (95, true)⟩, oq 98 (.pick (tq 95) (tq 97) (.const (.bool false))), mq 99 98, .op ⟨some 100, .move (tq 1), some (99, true)⟩, .op ⟨some 101, .move (tq 2), some (99, true)⟩, .op ⟨some 102, .binOp .neq 9 (tq 100) (tq 101) 9, some (99, true)⟩, oq 103 (.pick (tq 99) (tq 102) (.const (.bool false))), oq 6 (.assign (tq 103))] ∧
 RG 64 20 [oq 6 (.assign (.const (.bool false)))] := by and_intros <;> exact rgo fun _ => by kernel_rfl
theorem enter64 : ENT 64 104 [.tmp 6] (.seq (Rg 64 0) (.seq (Rg 64 1) (.seq (Rg 64 2) (.seq (Rg 64 3) (.seq (Rg 64 4) (.seq (.seq (Rg 64 5) (.block 0 (.seq (.seq (Rg 64 6) (.cond (.tmp 36) .skip (Rg 64 7))) (.cond (.tmp 36) (.seq (Rg 64 8) .ret) (.seq (Rg 64 9) (.cond (.tmp 43) (.seq (Rg 64 10) .ret) (.seq (Rg 64 11) (.cond (.tmp 56) (.seq (Rg 64 12) .ret) (.seq (Rg 64 13) (.cond (.tmp 76) (.seq (Rg 64 14) .ret) (.seq (.seq (Rg 64 15) (.cond (.tmp 83) .skip (Rg 64 16))) (.cond (.tmp 83) (.seq (Rg 64 17) .ret) (.seq (Rg 64 18) (.cond (.tmp 91) (.seq (Rg 64 19) .ret) .skip)))))))))))))) (.seq (Rg 64 20) .ret))))))) := ent Tryz.f64 (by kernel_rfl)
/- bowline/ops.Form -/
theorem fF62 : RG 62 0 [oq 2 (.assign (cq 0)), oq 3 (.assign (cq 0))] ∧
 RG 62 1 [mq 4 0, oq 5 (.binOp .lss 3 (tq 4) (cq 0) 3), mq 6 5, .op ⟨some 7, .move (tq 0), some (6, false)⟩, .op ⟨some 8, .binOp .geq 3 (tq 7) (cq 70) 3, some (6, false)⟩, oq 9 (.pick (tq 6) (.const (.bool true)) (tq 8))] ∧
 RG 62 2 [oq 2 (.assign (cq 0)), oq 3 (.assign (cq 8))] ∧
 RG 62 3 [mq 10 0, oq 11 (.call (.mk (.value (.func 93)) #[(tq 10)] #[3])), oq 2 (.assign (tq 11)), oq 3 (.assign (cq 0))] := by and_intros <;> exact rgo fun _ => by kernel_rfl
theorem enter62 : ENT 62 12 [.tmp 2, .tmp 3] (.seq (Rg 62 0) (.seq (.seq (Rg 62 1) (.cond (.tmp 9) (.seq (Rg 62 2) .ret) .skip)) (.seq (Rg 62 3) .ret))) := ent Tryz.f62 (by kernel_rfl)
/- bowline/ops.Takes -/
theorem fF63 : RG 63 0 [oq 4 (.assign (.const (.bool false)))] ∧
 RG 63 1 [mq 10 0, oq 11 (.call (.mk (.value (.func 94)) #[(tq 10)] #[3])), mq 9 11, oq 12 (.extract (tq 9) 0), oq 13 (.extract (tq 9) 1), oq 5 (.alloc 154), .op ⟨none, .store 154 (tq 5) (tq 12), none⟩, oq 6 (.assign (tq 13))] ∧
 RG 63 2 [mq 14 6, oq 15 (.unOp .not 4 (tq 14))] ∧
 RG 63 3 [oq 4 (.assign (.const (.bool false)))] ∧
 RG 63 4 [mq 16 1, oq 17 (.call (.mk (.value (.func 95)) #[(tq 16)] #[9]))] ∧
 RG 63 5 [oq 18 (.slice 158 (.global 0) none none none), mq 19 0, oq 20 (.call (.mk (.value (.func 96)) #[(tq 18), (tq 19)] #[55,3])), oq 4 (.assign (tq 20))] ∧
 RG 63 6 [mq 22 1, oq 23 (.call (.mk (.value (.func 97)) #[(tq 22)] #[9])), mq 21 23, oq 24 (.extract (tq 21) 0), oq 25 (.extract (tq 21) 1), oq 7 (.alloc 160), .op ⟨none, .store 160 (tq 7) (tq 24), none⟩, oq 8 (.assign (tq 25))] ∧
 RG 63 7 [mq 26 0] ∧
 RG 63 8 [oq 28 (.binOp .eql 3 (tq 26) (cq 46) 3), oq 27 (.assign (tq 28))] ∧
 RG 63 9 [oq 29 (.binOp .eql 3 (tq 26) (cq 47) 3), oq 27 (.assign (tq 29))] ∧
 RG 63 10 [oq 30 (.binOp .eql 3 (tq 26) (cq 48) 3), oq 27 (.assign (tq 30))] ∧
 RG 63 11 [mq 31 8, mq 32 31, .op ⟨some 33, .fieldAddr 160 (tq 7) 1, some (32, true)⟩, .op ⟨some 34, .load 4 (tq 33), some (32, true)⟩, .op ⟨some 35, .unOp .not 4 (tq 34), some (32, true)⟩, oq 36 (.pick (tq 32) (tq 35) (.const (.bool false))), oq 4 (.assign (tq 36))] ∧
 RG 63 12 [oq 38 (.binOp .eql 3 (tq 26) (cq 49) 3), oq 37 (.assign (tq 38))] ∧
 RG 63 13 [mq 39 8, mq 40 39, .op ⟨some 41, .fieldAddr 160 (tq 7) 1, some (40, true)⟩, .op ⟨some 42, .load 4 (tq 41), some (40, true)⟩, .op ⟨some 43, .unOp .not 4 (tq 42), some (40, true)⟩, oq 44 (.pick (tq 40) (tq 43) (.const (.bool false))), mq 45 44, .op ⟨some 46, .fieldAddr 160 (tq 7) 0, some (45, true)⟩, .op ⟨some 47, .load 3 (tq 46), some (45, true)⟩, .op ⟨some 48, .binOp .rem 3 (tq 47) (cq 8) 3, some (45, true)⟩, .op ⟨some 49, .binOp .eql 3 (tq 48) (cq 0) 3, some (45, true)⟩, oq 50 (.pick (tq 45) (tq 49) (.const (.bool false))), oq 4 (.assign (tq 50))] ∧
 RG 63 14 [mq 51 8, oq 4 (.assign (tq 51))] := by and_intros <;> exact rgo fun _ => by kernel_rfl
theorem enter63 : ENT 63 52 [.tmp 4] (.seq (Rg 63 0) (.seq (.seq (Rg 63 1) (.seq (Rg 63 2) (.cond (.tmp 15) (.seq (Rg 63 3) .ret) .skip))) (.seq (.seq (Rg 63 4) (.cond (.tmp 17) (.seq (Rg 63 5) .ret) .skip)) (.seq (Rg 63 6) (.seq (.seq (Rg 63 7) (.block 0 (.seq (.seq (Rg 63 8) (.cond (.tmp 27) .skip (.seq (Rg 63 9) (.cond (.tmp 27) .skip (Rg 63 10))))) (.cond (.tmp 27) (.seq (Rg 63 11) .ret) (.seq (Rg 63 12) (.cond (.tmp 37) (.seq (Rg 63 13) .ret) .skip)))))) (.seq (Rg 63 14) .ret)))))) := ent Tryz.f63 (by kernel_rfl)
/- bowline/ops.Width -/
theorem fF92 : RG 92 0 [oq 2 (.assign (cq 0)), oq 3 (.assign (cq 0))] ∧
 RG 92 1 [oq 11 (.makeMap 148 none), .op ⟨none, .insert 148 (tq 11) (sq #[112,116,114]) (cq 64), none⟩, mq 12 11, oq 4 (.assign (tq 12))] ∧
 RG 92 2 [oq 13 (.load 187 (.global 1)), oq 14 (.move (cq 0))] ∧
 RG 92 3 [oq 15 (.binOp .lss 3 (tq 14) (cq 2) 3)] ∧
 RG 92 4 [oq 16 (.index 187 (tq 13) (tq 14)), oq 6 (.alloc 186), .op ⟨none, .store 186 (tq 6) (tq 16), none⟩] ∧
 RG 92 5 [mq 17 4, oq 18 (.fieldAddr 186 (tq 6) 0), oq 19 (.load 9 (tq 18)), oq 20 (.fieldAddr 186 (tq 6) 1), oq 21 (.load 3 (tq 20)), .op ⟨none, .mapUpdate 148 (tq 17) (tq 19) (tq 21), none⟩] ∧
 RG 92 6 [oq 22 (.binOp .add 3 (tq 14) (cq 1) 3), mq 14 22] ∧
 RG 92 7 [mq 24 4, mq 25 0, oq 26 (.lookup 148 (tq 24) (tq 25) true), mq 23 26, oq 27 (.extract (tq 23) 0), oq 28 (.extract (tq 23) 1), oq 7 (.assign (tq 27)), oq 8 (.assign (tq 28))] ∧
 RG 92 8 [mq 29 8] ∧
 RG 92 9 [mq 30 7, oq 2 (.assign (tq 30)), oq 3 (.assign (cq 0))] ∧
 RG 92 10 [mq 32 0, oq 33 (.call (.mk (.value (.func 97)) #[(tq 32)] #[9])), mq 31 33, oq 34 (.extract (tq 31) 0), oq 35 (.extract (tq 31) 1), oq 9 (.alloc 160), .op ⟨none, .store 160 (tq 9) (tq 34), none⟩, oq 10 (.assign (tq 35))] ∧
 RG 92 11 [oq 36 (.fieldAddr 160 (tq 9) 0), oq 37 (.load 3 (tq 36)), mq 38 10, oq 39 (.unOp .not 4 (tq 38)), .chk [⟨some 37, .load 3 (tq 36), none⟩], oq 40 (.call (.mk (.value (.func 119)) #[(tq 39), (cq 12)] #[4,25])), oq 2 (.assign (tq 37)), oq 3 (.assign (tq 40)), .chk [⟨some 37, .load 3 (tq 36), none⟩]] := by and_intros <;> exact rgo fun _ => by kernel_rfl
theorem enter92 : ENT 92 41 [.tmp 2, .tmp 3] (.seq (Rg 92 0) (.seq (Rg 92 1) (.seq (.seq (Rg 92 2) (.block 0 (.loop (.seq (Rg 92 3) (.seq (.cond (.tmp 15) .skip (Code.exit 0)) (.seq (.block 1 (.seq (Rg 92 4) (Rg 92 5))) (Rg 92 6))))))) (.seq (.seq (Rg 92 7) (.seq (Rg 92 8) (.cond (.tmp 29) (.seq (Rg 92 9) .ret) .skip))) (.seq (Rg 92 10) (.seq (Rg 92 11) .ret)))))) := ent Tryz.f92 (by kernel_rfl)
/- bowline/ops.first -/
theorem fF98 : RG 98 0 [oq 2 (.assign (cq 0))] ∧
 RG 98 1 [mq 5 0, oq 6 (.call (.mk (.builtin .len) #[(tq 5)] #[120])), oq 7 (.move (cq 0))] ∧
 RG 98 2 [oq 8 (.binOp .lss 3 (tq 7) (tq 6) 3)] ∧
 RG 98 3 [oq 9 (.indexAddr 120 (tq 5) (tq 7)), oq 10 (.load 25 (tq 9)), oq 4 (.assign (tq 10))] ∧
 RG 98 4 [mq 11 4, oq 12 (.binOp .neq 25 (tq 11) (cq 0) 25)] ∧
 RG 98 5 [mq 13 4, oq 2 (.assign (tq 13))] ∧
 RG 98 6 [oq 14 (.binOp .add 3 (tq 7) (cq 1) 3), mq 7 14] ∧
 RG 98 7 [oq 2 (.assign (cq 0))] := by and_intros <;> exact rgo fun _ => by kernel_rfl
theorem enter98 : ENT 98 15 [.tmp 2] (.seq (Rg 98 0) (.seq (.seq (Rg 98 1) (.block 0 (.loop (.seq (Rg 98 2) (.seq (.cond (.tmp 8) .skip (Code.exit 0)) (.seq (.block 1 (.seq (Rg 98 3) (.seq (Rg 98 4) (.cond (.tmp 12) (.seq (Rg 98 5) .ret) .skip)))) (Rg 98 6))))))) (.seq (Rg 98 7) .ret))) := ent Tryz.f98 (by kernel_rfl)
/- bowline/ops.form -/
theorem fF93 : RG 93 0 [oq 2 (.assign (cq 0))] ∧
 RG 93 1 [mq 5 0, oq 6 (.binOp .geq 3 (tq 5) (cq 38) 3), mq 7 6, .op ⟨some 8, .move (tq 0), some (7, true)⟩, .op ⟨some 9, .binOp .leq 3 (tq 8) (cq 45) 3, some (7, true)⟩, oq 10 (.pick (tq 7) (tq 9) (.const (.bool false)))] ∧
 RG 93 2 [oq 2 (.assign (cq 4))] ∧
 RG 93 3 [mq 12 0, oq 13 (.call (.mk (.value (.func 94)) #[(tq 12)] #[3])), mq 11 13, oq 14 (.extract (tq 11) 0), oq 15 (.extract (tq 11) 1), oq 3 (.alloc 154), .op ⟨none, .store 154 (tq 3) (tq 14), none⟩, oq 4 (.assign (tq 15))] ∧
 RG 93 4 [oq 16 (.fieldAddr 154 (tq 3) 1), oq 17 (.load 3 (tq 16)), oq 2 (.assign (tq 17))] := by and_intros <;> exact rgo fun _ => by kernel_rfl
theorem enter93 : ENT 93 18 [.tmp 2] (.seq (Rg 93 0) (.seq (.seq (Rg 93 1) (.cond (.tmp 10) (.seq (Rg 93 2) .ret) .skip)) (.seq (Rg 93 3) (.seq (Rg 93 4) .ret)))) := ent Tryz.f93 (by kernel_rfl)
/- bowline/ops.integer -/
theorem fF97 : RG 97 0 [oq 2 (.alloc 160), oq 3 (.assign (.const (.bool false)))] ∧
 RG 97 1 [mq 8 0, oq 9 (.call (.mk (.value (.func 124)) #[(tq 8)] #[9])), mq 7 9, oq 10 (.extract (tq 7) 0), oq 11 (.extract (tq 7) 1), oq 12 (.extract (tq 7) 2), oq 4 (.assign (tq 10)), oq 5 (.assign (tq 11)), oq 6 (.assign (tq 12))] ∧
 RG 97 2 [mq 13 4, mq 14 5, oq 15 (.build 160 #[(0, (tq 13)), (1, (tq 14))]), mq 16 6, oq 17 (.binOp .eql 25 (tq 16) (cq 0) 25), .op ⟨none, .store 160 (tq 2) (tq 15), none⟩, oq 3 (.assign (tq 17))] := by and_intros <;> exact rgo fun _ => by kernel_rfl
theorem enter97 : ENT 97 18 [.cell 2 160, .tmp 3] (.seq (Rg 97 0) (.seq (Rg 97 1) (.seq (Rg 97 2) .ret))) := ent Tryz.f97 (by kernel_rfl)
/- bowline/ops.isFloat -/
theorem fF95 : RG 95 0 [oq 2 (.assign (.const (.bool false)))] ∧
 RG 95 1 [oq 5 (.load 187 (.global 1)), oq 6 (.move (cq 0))] ∧
 RG 95 2 [oq 7 (.binOp .lss 3 (tq 6) (cq 2) 3)] ∧
 RG 95 3 [oq 8 (.index 187 (tq 5) (tq 6)), oq 4 (.alloc 186), .op ⟨none, .store 186 (tq 4) (tq 8), none⟩] ∧
 RG 95 4 [oq 9 (.fieldAddr 186 (tq 4) 0), oq 10 (.load 9 (tq 9)), mq 11 0, oq 12 (.binOp .eql 9 (tq 10) (tq 11) 9)] ∧
 RG 95 5 [oq 2 (.assign (.const (.bool true)))] ∧
 RG 95 6 [oq 13 (.binOp .add 3 (tq 6) (cq 1) 3), mq 6 13] ∧
 RG 95 7 [oq 2 (.assign (.const (.bool false)))] := by and_intros <;> exact rgo fun _ => by kernel_rfl
theorem enter95 : ENT 95 14 [.tmp 2] (.seq (Rg 95 0) (.seq (.seq (Rg 95 1) (.block 0 (.loop (.seq (Rg 95 2) (.seq (.cond (.tmp 7) .skip (Code.exit 0)) (.seq (.block 1 (.seq (Rg 95 3) (.seq (Rg 95 4) (.cond (.tmp 12) (.seq (Rg 95 5) .ret) .skip)))) (Rg 95 6))))))) (.seq (Rg 95 7) .ret))) := ent Tryz.f95 (by kernel_rfl)
/- bowline/ops.when -/
theorem fF119 : RG 119 0 [oq 4 (.assign (cq 0))] ∧
 RG 119 1 [mq 5 0] ∧
 RG 119 2 [mq 6 1, oq 4 (.assign (tq 6))] ∧
 RG 119 3 [oq 4 (.assign (cq 0))] := by and_intros <;> exact rgo fun _ => by kernel_rfl
theorem enter119 : ENT 119 7 [.tmp 4] (.seq (Rg 119 0) (.seq (.seq (Rg 119 1) (.cond (.tmp 5) (.seq (Rg 119 2) .ret) .skip)) (.seq (Rg 119 3) .ret))) := ent Tryz.f119 (by kernel_rfl)
/- bowline/regmachine.Code -/
theorem fF60 : RG 60 0 [oq 2 (.assign (cq 0)), oq 3 (.assign (cq 0))] ∧
 RG 60 1 [oq 9 (.makeMap 148 none), .op ⟨none, .insert 148 (tq 9) (sq #[102,51,50]) (cq 129), none⟩, .op ⟨none, .insert 148 (tq 9) (sq #[102,54,52]) (cq 130), none⟩, .op ⟨none, .insert 148 (tq 9) (sq #[112,116,114]) (cq 131), none⟩, .op ⟨none, .insert 148 (tq 9) (sq #[]) (cq 255), none⟩, mq 10 9, oq 4 (.assign (tq 10))] ∧
 RG 60 2 [mq 12 4, mq 13 0, oq 14 (.lookup 148 (tq 12) (tq 13) true), mq 11 14, oq 15 (.extract (tq 11) 0), oq 16 (.extract (tq 11) 1), oq 5 (.assign (tq 15)), oq 6 (.assign (tq 16))] ∧
 RG 60 3 [mq 17 6] ∧
 RG 60 4 [mq 18 5, oq 2 (.assign (tq 18)), oq 3 (.assign (cq 0))] ∧
 RG 60 5 [mq 20 0, oq 21 (.call (.mk (.value (.func 92)) #[(tq 20)] #[9])), mq 19 21, oq 22 (.extract (tq 19) 0), oq 23 (.extract (tq 19) 1), oq 7 (.assign (tq 22)), oq 8 (.assign (tq 23))] ∧
 RG 60 6 [mq 24 8, oq 25 (.binOp .neq 25 (tq 24) (cq 0) 25)] ∧
 RG 60 7 [oq 2 (.assign (cq 0)), oq 3 (.assign (cq 12))] ∧
 RG 60 8 [mq 26 0, oq 27 (.index 9 (tq 26) (cq 0)), oq 28 (.binOp .eql 5 (tq 27) (.const (.int .u8 105)) 5)] ∧
 RG 60 9 [mq 29 7, oq 30 (.binOp .add 3 (tq 29) (cq 64) 3), oq 7 (.assign (tq 30))] ∧
 RG 60 10 [mq 31 7, oq 2 (.assign (tq 31)), oq 3 (.assign (cq 0))] := by and_intros <;> exact rgo fun _ => by kernel_rfl
theorem enter60 : ENT 60 32 [.tmp 2, .tmp 3] (.seq (Rg 60 0) (.seq (Rg 60 1) (.seq (.seq (Rg 60 2) (.seq (Rg 60 3) (.cond (.tmp 17) (.seq (Rg 60 4) .ret) .skip))) (.seq (Rg 60 5) (.seq (.seq (Rg 60 6) (.cond (.tmp 25) (.seq (Rg 60 7) .ret) .skip)) (.seq (.seq (Rg 60 8) (.cond (.tmp 28) (Rg 60 9) .skip)) (.seq (Rg 60 10) .ret))))))) := ent Tryz.f60 (by kernel_rfl)
/- slices.Contains[[]int,int] -/
theorem fF96 : RG 96 0 [oq 4 (.assign (.const (.bool false)))] ∧
 RG 96 1 [mq 5 0, mq 6 1, oq 7 (.call (.mk (.value (.func 123)) #[(tq 5), (tq 6)] #[55,3])), oq 8 (.binOp .geq 3 (tq 7) (cq 0) 3), oq 4 (.assign (tq 8))] := by and_intros <;> exact rgo fun _ => by kernel_rfl
theorem enter96 : ENT 96 9 [.tmp 4] (.seq (Rg 96 0) (.seq (Rg 96 1) .ret)) := ent Tryz.f96 (by kernel_rfl)
/- slices.Contains[[]uint64,uint64] -/
theorem fF112 : RG 112 0 [oq 4 (.assign (.const (.bool false)))] ∧
 RG 112 1 [mq 5 0, mq 6 1, oq 7 (.call (.mk (.value (.func 134)) #[(tq 5), (tq 6)] #[69,34])), oq 8 (.binOp .geq 3 (tq 7) (cq 0) 3), oq 4 (.assign (tq 8))] := by and_intros <;> exact rgo fun _ => by kernel_rfl
theorem enter112 : ENT 112 9 [.tmp 4] (.seq (Rg 112 0) (.seq (Rg 112 1) .ret)) := ent Tryz.f112 (by kernel_rfl)
/- slices.Index[[]int,int] -/
theorem fF123 : RG 123 0 [oq 4 (.assign (cq 0))] ∧
 RG 123 1 [mq 6 0, oq 7 (.call (.mk (.builtin .len) #[(tq 6)] #[55])), oq 8 (.move (cq 0))] ∧
 RG 123 2 [oq 9 (.binOp .lss 3 (tq 8) (tq 7) 3)] ∧
 RG 123 3 [mq 10 8, oq 5 (.assign (tq 10))] ∧
 RG 123 4 [mq 11 1, mq 12 0, mq 13 5, oq 14 (.indexAddr 55 (tq 12) (tq 13)), oq 15 (.load 3 (tq 14)), oq 16 (.binOp .eql 3 (tq 11) (tq 15) 3)] ∧
 RG 123 5 [mq 17 5, oq 4 (.assign (tq 17))] ∧
 RG 123 6 [oq 18 (.binOp .add 3 (tq 8) (cq 1) 3), mq 8 18] ∧
 RG 123 7 [oq 4 (.assign (cq (-1)))] := by and_intros <;> exact rgo fun _ => by kernel_rfl
theorem enter123 : ENT 123 19 [.tmp 4] (.seq (Rg 123 0) (.seq (.seq (Rg 123 1) (.block 0 (.loop (.seq (Rg 123 2) (.seq (.cond (.tmp 9) .skip (Code.exit 0)) (.seq (.block 1 (.seq (Rg 123 3) (.seq (Rg 123 4) (.cond (.tmp 16) (.seq (Rg 123 5) .ret) .skip)))) (Rg 123 6))))))) (.seq (Rg 123 7) .ret))) := ent Tryz.f123 (by kernel_rfl)
/- slices.Index[[]uint64,uint64] -/
theorem fF134 : RG 134 0 [oq 4 (.assign (cq 0))] ∧
 RG 134 1 [mq 6 0, oq 7 (.call (.mk (.builtin .len) #[(tq 6)] #[69])), oq 8 (.move (cq 0))] ∧
 RG 134 2 [oq 9 (.binOp .lss 3 (tq 8) (tq 7) 3)] ∧
 RG 134 3 [mq 10 8, oq 5 (.assign (tq 10))] ∧
 RG 134 4 [mq 11 1, mq 12 0, mq 13 5, oq 14 (.indexAddr 69 (tq 12) (tq 13)), oq 15 (.load 34 (tq 14)), oq 16 (.binOp .eql 34 (tq 11) (tq 15) 34)] ∧
 RG 134 5 [mq 17 5, oq 4 (.assign (tq 17))] ∧
 RG 134 6 [oq 18 (.binOp .add 3 (tq 8) (cq 1) 3), mq 8 18] ∧
 RG 134 7 [oq 4 (.assign (cq (-1)))] := by and_intros <;> exact rgo fun _ => by kernel_rfl
theorem enter134 : ENT 134 19 [.tmp 4] (.seq (Rg 134 0) (.seq (.seq (Rg 134 1) (.block 0 (.loop (.seq (Rg 134 2) (.seq (.cond (.tmp 9) .skip (Code.exit 0)) (.seq (.block 1 (.seq (Rg 134 3) (.seq (Rg 134 4) (.cond (.tmp 16) (.seq (Rg 134 5) .ret) .skip)))) (Rg 134 6))))))) (.seq (Rg 134 7) .ret))) := ent Tryz.f134 (by kernel_rfl)
/- bowline/stackmachine.Check -/
theorem r15_0 : RG 15 0 [oq 1 (.box 39 (tq 0)), oq 2 (.assign (cq 0))] := rgo fun _ => by kernel_rfl
theorem r15_1 : RG 15 1 [oq 8 (.fieldAddr 39 (tq 1) 0), oq 9 (.load 3 (tq 8)), oq 10 (.call (.mk (.value (.func 23)) #[(tq 9)] #[3])), mq 7 10, oq 11 (.extract (tq 7) 0), oq 12 (.extract (tq 7) 1), oq 3 (.alloc 73), .op ⟨none, .store 73 (tq 3) (tq 11), none⟩, oq 4 (.assign (tq 12))] := rgo fun _ => by kernel_rfl
theorem r15_2 : RG 15 2 [mq 13 4, oq 14 (.unOp .not 4 (tq 13))] := rgo fun _ => by kernel_rfl
theorem r15_3 : RG 15 3 [oq 2 (.assign (cq 11))] := rgo fun _ => by kernel_rfl
theorem r15_4 : RG 15 4 [oq 15 (.fieldAddr 39 (tq 1) 1), oq 16 (.load 9 (tq 15)), oq 17 (.load 73 (tq 3)), .chk [⟨some 16, .load 9 (tq 15), none⟩, ⟨some 17, .load 73 (tq 3), none⟩], oq 18 (.call (.mk (.value (.func 34)) #[(tq 17), (sq #[84])] #[73,9])), .chk [⟨some 16, .load 9 (tq 15), none⟩], oq 19 (.call (.mk (.value (.func 33)) #[(tq 16), (tq 18)] #[9,4])), mq 20 19, .op ⟨some 21, .fieldAddr 39 (tq 1) 2, some (20, false)⟩, .op ⟨some 22, .load 9 (tq 21), some (20, false)⟩, .op ⟨some 23, .load 73 (tq 3), some (20, false)⟩, .chk [⟨some 22, .load 9 (tq 21), some (20, false)⟩, ⟨some 23, .load 73 (tq 3), some (20, false)⟩], .op ⟨some 24, .call (.mk (.value (.func 34)) #[(tq 23), (sq #[85])] #[73,9]), some (20, false)⟩, .chk [⟨some 22, .load 9 (tq 21), some (20, false)⟩], .op ⟨some 25, .call (.mk (.value (.func 33)) #[(tq 22), (tq 24)] #[9,4]), some (20, false)⟩, oq 26 (.pick (tq 20) (.const (.bool true)) (tq 25)), oq 5 (.assign (tq 26)), .chk []] := rgo fun _ => by kernel_rfl
theorem r15_5 : RG 15 5 [oq 27 (.fieldAddr 39 (tq 1) 3), oq 28 (.load 34 (tq 27)), oq 29 (.binOp .neq 34 (tq 28) (.const (.int .u64 0)) 34), mq 30 29, .op ⟨some 31, .load 73 (tq 3), some (30, true)⟩, .op ⟨some 32, .call (.mk (.value (.func 34)) #[(tq 31), (sq #[110,119,76])] #[73,9]), some (30, true)⟩, .op ⟨some 33, .unOp .not 4 (tq 32), some (30, true)⟩, oq 34 (.pick (tq 30) (tq 33) (.const (.bool false))), mq 35 34, .op ⟨some 36, .fieldAddr 39 (tq 1) 4, some (35, false)⟩, .op ⟨some 37, .load 3 (tq 36), some (35, false)⟩, .op ⟨some 38, .binOp .neq 3 (tq 37) (cq 0) 3, some (35, false)⟩, .op ⟨some 39, .move (tq 38), some (35, false)⟩, .op ⟨some 40, .load 73 (tq 3), some (39, true)⟩, .op ⟨some 41, .call (.mk (.value (.func 34)) #[(tq 40), (sq #[115,100,80])] #[73,9]), some (39, true)⟩, .op ⟨some 42, .unOp .not 4 (tq 41), some (39, true)⟩, .op ⟨some 43, .pick (tq 39) (tq 42) (.const (.bool false)), some (35, false)⟩, oq 44 (.pick (tq 35) (.const (.bool true)) (tq 43)), mq 45 44, .op ⟨some 46, .fieldAddr 39 (tq 1) 5, some (45, false)⟩, .op ⟨some 47, .load 3 (tq 46), some (45, false)⟩, .op ⟨some 48, .binOp .neq 3 (tq 47) (cq 0) 3, some (45, false)⟩, .op ⟨some 49, .move (tq 48), some (45, false)⟩, .op ⟨some 50, .load 73 (tq 3), some (49, true)⟩, .op ⟨some 51, .call (.mk (.value (.func 34)) #[(tq 50), (sq #[70])] #[73,9]), some (49, true)⟩, .op ⟨some 52, .unOp .not 4 (tq 51), some (49, true)⟩, .op ⟨some 53, .pick (tq 49) (tq 52) (.const (.bool false)), some (45, false)⟩, oq 54 (.pick (tq 45) (.const (.bool true)) (tq 53)), oq 6 (.assign (tq 54))] := rgo fun _ => by kernel_rfl
theorem r15_6 : RG 15 6 [mq 55 5, mq 57 6, oq 59 (.fieldAddr 73 (tq 3) 3), oq 60 (.load 71 (tq 59)), oq 61 (.load 39 (tq 1)), oq 65 (.load 39 (tq 1)), .chk [⟨some 60, .load 71 (tq 59), none⟩, ⟨some 61, .load 39 (tq 1), none⟩, ⟨some 65, .load 39 (tq 1), none⟩], oq 56 (.call (.mk (.value (.func 36)) #[(tq 55), (cq 12)] #[4,25])), .chk [⟨some 60, .load 71 (tq 59), none⟩, ⟨some 61, .load 39 (tq 1), none⟩, ⟨some 65, .load 39 (tq 1), none⟩], oq 58 (.call (.mk (.value (.func 36)) #[(tq 57), (cq 1)] #[4,25])), .chk [⟨some 60, .load 71 (tq 59), none⟩, ⟨some 61, .load 39 (tq 1), none⟩, ⟨some 65, .load 39 (tq 1), none⟩], oq 62 (.call (.mk (.value (tq 60)) #[(tq 61)] #[39])), oq 63 (.unOp .not 4 (tq 62)), .chk [⟨some 65, .load 39 (tq 1), none⟩], oq 64 (.call (.mk (.value (.func 36)) #[(tq 63), (cq 3)] #[4,25])), .chk [⟨some 65, .load 39 (tq 1), none⟩], oq 66 (.call (.mk (.value (.func 37)) #[(tq 65)] #[39])), oq 67 (.unOp .not 4 (tq 66)), .chk [], oq 68 (.call (.mk (.value (.func 36)) #[(tq 67), (cq 11)] #[4,25])), oq 69 (.buildSlice 120 4 #[(0, (tq 56)), (1, (tq 58)), (2, (tq 64)), (3, (tq 68))]), .chk [], oq 70 (.call (.mk (.value (.func 35)) #[(tq 69)] #[120])), oq 2 (.assign (tq 70)), .chk []] := rgo fun _ => by kernel_rfl
def fF15 := And.intro r15_0 <| And.intro r15_1 <| And.intro r15_2 <| And.intro r15_3 <| And.intro r15_4 <| And.intro r15_5 <| r15_6
theorem enter15 : ENT 15 71 [.tmp 2] (.seq (Rg 15 0) (.seq (Rg 15 1) (.seq (.seq (Rg 15 2) (.cond (.tmp 14) (.seq (Rg 15 3) .ret) .skip)) (.seq (Rg 15 4) (.seq (Rg 15 5) (.seq (Rg 15 6) .ret)))))) := ent Tryz.f15 (by kernel_rfl)
/- bowline/stackmachine.Effect -/
theorem fF13 : RG 13 0 [oq 1 (.box 39 (tq 0)), oq 2 (.assign (cq 0)), oq 3 (.assign (cq 0)), oq 4 (.assign (cq 0))] ∧
 RG 13 1 [oq 10 (.load 39 (tq 1)), oq 11 (.call (.mk (.value (.func 15)) #[(tq 10)] #[39])), oq 5 (.assign (tq 11))] ∧
 RG 13 2 [mq 12 5, oq 13 (.binOp .neq 25 (tq 12) (cq 0) 25)] ∧
 RG 13 3 [mq 14 5, oq 2 (.assign (cq 0)), oq 3 (.assign (cq 0)), oq 4 (.assign (tq 14))] ∧
 RG 13 4 [oq 16 (.fieldAddr 39 (tq 1) 0), oq 17 (.load 3 (tq 16)), oq 18 (.call (.mk (.value (.func 23)) #[(tq 17)] #[3])), mq 15 18, oq 19 (.extract (tq 15) 0), oq 20 (.extract (tq 15) 1), oq 6 (.alloc 73), .op ⟨none, .store 73 (tq 6) (tq 19), none⟩, oq 7 (.assign (tq 20))] ∧
 RG 13 5 [oq 21 (.fieldAddr 73 (tq 6) 2), oq 22 (.load 70 (tq 21)), oq 8 (.alloc 70), .op ⟨none, .store 70 (tq 8) (tq 22), none⟩] ∧
 RG 13 6 [oq 23 (.fieldAddr 39 (tq 1) 0), oq 24 (.load 3 (tq 23)), oq 25 (.binOp .eql 3 (tq 24) (cq 25) 3)] ∧
 RG 13 7 [oq 26 (.fieldAddr 39 (tq 1) 3), oq 27 (.load 34 (tq 26)), oq 28 (.convert 34 3 (tq 27)), oq 29 (.indexAddr 70 (tq 8) (cq 0)), .op ⟨none, .store 3 (tq 29) (tq 28), none⟩] ∧
 RG 13 8 [oq 30 (.build 70 #[]), oq 9 (.alloc 70), .op ⟨none, .store 70 (tq 9) (tq 30), none⟩] ∧
 RG 13 9 [oq 31 (.load 70 (tq 8)), oq 32 (.load 70 (tq 9)), oq 33 (.binOp .eql 70 (tq 31) (tq 32) 70)] ∧
 RG 13 10 [oq 2 (.assign (cq 0)), oq 3 (.assign (cq 0)), oq 4 (.assign (cq 0))] ∧
 RG 13 11 [oq 34 (.indexAddr 70 (tq 8) (cq 0)), oq 35 (.load 3 (tq 34)), oq 36 (.indexAddr 70 (tq 8) (cq 1)), oq 37 (.load 3 (tq 36)), oq 2 (.assign (tq 35)), oq 3 (.assign (tq 37)), oq 4 (.assign (cq 0)), .chk [⟨some 35, .load 3 (tq 34), none⟩, ⟨some 37, .load 3 (tq 36), none⟩]] := by and_intros <;> exact rgo fun _ => by kernel_rfl
theorem enter13 : ENT 13 38 [.tmp 2, .tmp 3, .tmp 4] (.seq (Rg 13 0) (.seq (.seq (Rg 13 1) (.seq (Rg 13 2) (.cond (.tmp 13) (.seq (Rg 13 3) .ret) .skip))) (.seq (Rg 13 4) (.seq (Rg 13 5) (.seq (.seq (Rg 13 6) (.cond (.tmp 25) (Rg 13 7) .skip)) (.seq (.seq (Rg 13 8) (.seq (Rg 13 9) (.cond (.tmp 33) (.seq (Rg 13 10) .ret) .skip))) (.seq (Rg 13 11) .ret))))))) := ent Tryz.f13 (by kernel_rfl)
/- bowline/stackmachine.Name -/
theorem fF6 : RG 6 0 [oq 2 (.assign (sq #[])), oq 3 (.assign (cq 0))] ∧
 RG 6 1 [mq 7 0, oq 8 (.call (.mk (.value (.func 23)) #[(tq 7)] #[3])), mq 6 8, oq 9 (.extract (tq 6) 0), oq 10 (.extract (tq 6) 1), oq 4 (.alloc 73), .op ⟨none, .store 73 (tq 4) (tq 9), none⟩, oq 5 (.assign (tq 10))] ∧
 RG 6 2 [mq 11 5, oq 12 (.unOp .not 4 (tq 11))] ∧
 RG 6 3 [oq 2 (.assign (sq #[])), oq 3 (.assign (cq 11))] ∧
 RG 6 4 [oq 13 (.fieldAddr 73 (tq 4) 0), oq 14 (.load 9 (tq 13)), oq 2 (.assign (tq 14)), oq 3 (.assign (cq 0))] := by and_intros <;> exact rgo fun _ => by kernel_rfl
theorem enter6 : ENT 6 15 [.tmp 2, .tmp 3] (.seq (Rg 6 0) (.seq (Rg 6 1) (.seq (.seq (Rg 6 2) (.cond (.tmp 12) (.seq (Rg 6 3) .ret) .skip)) (.seq (Rg 6 4) .ret)))) := ent Tryz.f6 (by kernel_rfl)
/- bowline/stackmachine.Number -/
theorem r87_0 : RG 87 0 [oq 2 (.assign (.const (.slice none 0 0)))] := rgo fun _ => by kernel_rfl
theorem r87_1 : RG 87 1 [oq 3 (.assign (.const (.slice none 0 0)))] := rgo fun _ => by kernel_rfl
theorem r87_2 : RG 87 2 [mq 4 0, oq 5 (.binOp .geq 34 (tq 4) (.const (.int .u64 128)) 34)] := rgo fun _ => by kernel_rfl
theorem r87_3 : RG 87 3 [mq 6 3, mq 7 0, oq 8 (.convert 34 5 (tq 7)), oq 9 (.binOp .or 5 (tq 8) (.const (.int .u8 128)) 5), oq 10 (.buildSlice 49 1 #[(0, (tq 9))]), oq 11 (.call (.mk (.builtin .append) #[(tq 6), (tq 10)] #[49,49])), oq 3 (.assign (tq 11))] := rgo fun _ => by kernel_rfl
theorem r87_4 : RG 87 4 [mq 12 0, oq 13 (.binOp .shr 34 (tq 12) (.const (.int .u64 7)) 184), oq 0 (.assign (tq 13))] := rgo fun _ => by kernel_rfl
theorem r87_5 : RG 87 5 [mq 14 3, mq 15 0, oq 16 (.convert 34 5 (tq 15)), oq 17 (.buildSlice 49 1 #[(0, (tq 16))]), oq 18 (.call (.mk (.builtin .append) #[(tq 14), (tq 17)] #[49,49])), oq 2 (.assign (tq 18))] := rgo fun _ => by kernel_rfl
def fF87 := And.intro r87_0 <| And.intro r87_1 <| And.intro r87_2 <| And.intro r87_3 <| And.intro r87_4 <| r87_5
theorem enter87 : ENT 87 19 [.tmp 2] (.seq (Rg 87 0) (.seq (Rg 87 1) (.seq (.block 0 (.loop (.seq (.seq (Rg 87 2) (.cond (.tmp 5) .skip (Code.exit 0))) (.block 1 (.seq (Rg 87 3) (Rg 87 4)))))) (.seq (Rg 87 5) .ret)))) := ent Tryz.f87 (by kernel_rfl)
/- bowline/stackmachine.Print -/
theorem r8_0 : RG 8 0 [oq 2 (.assign (sq #[])), oq 3 (.assign (cq 0))] := rgo fun _ => by kernel_rfl
theorem r8_1 : RG 8 1 [mq 11 0, oq 12 (.call (.mk (.value (.func 25)) #[(tq 11)] #[31])), oq 4 (.assign (tq 12))] := rgo fun _ => by kernel_rfl
theorem r8_2 : RG 8 2 [mq 13 4, oq 14 (.binOp .neq 25 (tq 13) (cq 0) 25)] := rgo fun _ => by kernel_rfl
theorem r8_3 : RG 8 3 [mq 15 4, oq 2 (.assign (sq #[])), oq 3 (.assign (tq 15))] := rgo fun _ => by kernel_rfl
theorem r8_4 : RG 8 4 [oq 5 (.alloc 82)] := rgo fun _ => by kernel_rfl
theorem r8_5 : RG 8 5 [mq 16 0, oq 17 (.call (.mk (.builtin .len) #[(tq 16)] #[31])), oq 18 (.move (cq 0))] := rgo fun _ => by kernel_rfl
theorem r8_6 : RG 8 6 [oq 19 (.binOp .lss 3 (tq 18) (tq 17) 3)] := rgo fun _ => by kernel_rfl
theorem r8_7 : RG 8 7 [oq 20 (.indexAddr 31 (tq 16) (tq 18)), oq 21 (.load 39 (tq 20)), oq 7 (.alloc 39), .op ⟨none, .store 39 (tq 7) (tq 21), none⟩] := rgo fun _ => by kernel_rfl
theorem r8_8 : RG 8 8 [oq 23 (.fieldAddr 39 (tq 7) 0), oq 24 (.load 3 (tq 23)), oq 25 (.call (.mk (.value (.func 23)) #[(tq 24)] #[3])), mq 22 25, oq 26 (.extract (tq 22) 0), oq 27 (.extract (tq 22) 1), oq 8 (.alloc 73), .op ⟨none, .store 73 (tq 8) (tq 26), none⟩, oq 9 (.assign (tq 27))] := rgo fun _ => by kernel_rfl
theorem r8_9 : RG 8 9 [oq 28 (.fieldAddr 73 (tq 8) 0), oq 29 (.load 9 (tq 28)), oq 30 (.call (.mk (.value (.func 26)) #[(tq 5), (tq 29)] #[82,9]))] := rgo fun _ => by kernel_rfl
theorem r8_10 : RG 8 10 [oq 31 (.load 39 (tq 7)), oq 32 (.call (.mk (.value (.func 27)) #[(tq 31)] #[39]))] := rgo fun _ => by kernel_rfl
theorem r8_11 : RG 8 11 [oq 10 (.assign (tq 33))] := rgo fun _ => by kernel_rfl
theorem r8_12 : RG 8 12 [mq 34 10, oq 35 (.binOp .add 9 (sq #[32]) (tq 34) 9), oq 36 (.call (.mk (.value (.func 26)) #[(tq 5), (tq 35)] #[82,9]))] := rgo fun _ => by kernel_rfl
theorem r8_13 : RG 8 13 [oq 37 (.call (.mk (.value (.func 26)) #[(tq 5), (sq #[10])] #[82,9]))] := rgo fun _ => by kernel_rfl
theorem r8_14 : RG 8 14 [oq 38 (.binOp .add 3 (tq 18) (cq 1) 3), mq 18 38] := rgo fun _ => by kernel_rfl
theorem r8_15 : RG 8 15 [oq 39 (.call (.mk (.value (.func 28)) #[(tq 5)] #[82])), oq 2 (.assign (tq 39)), oq 3 (.assign (cq 0))] := rgo fun _ => by kernel_rfl
def fF8 := And.intro r8_0 <| And.intro r8_1 <| And.intro r8_2 <| And.intro r8_3 <| And.intro r8_4 <| And.intro r8_5 <| And.intro r8_6 <| And.intro r8_7 <| And.intro r8_8 <| And.intro r8_9 <| And.intro r8_10 <| And.intro r8_11 <| And.intro r8_12 <| And.intro r8_13 <| And.intro r8_14 <| r8_15
theorem enter8 : ENT 8 40 [.tmp 2, .tmp 3] (.seq (Rg 8 0) (.seq (.seq (Rg 8 1) (.seq (Rg 8 2) (.cond (.tmp 14) (.seq (Rg 8 3) .ret) .skip))) (.seq (Rg 8 4) (.seq (.seq (Rg 8 5) (.block 0 (.loop (.seq (Rg 8 6) (.seq (.cond (.tmp 19) .skip (Code.exit 0)) (.seq (.block 1 (.seq (Rg 8 7) (.seq (Rg 8 8) (.seq (Rg 8 9) (.seq (.seq (Rg 8 10) (.block 2 (.rangeFunc (.tmp 32) #[33] (Rg 8 11) (.block 3 (Rg 8 12))))) (Rg 8 13)))))) (Rg 8 14))))))) (.seq (Rg 8 15) .ret))))) := ent Tryz.f8 (by kernel_rfl)
/- bowline/stackmachine.Size -/
theorem fF11 : RG 11 0 [oq 1 (.box 39 (tq 0)), oq 2 (.assign (cq 0)), oq 3 (.assign (cq 0))] ∧
 RG 11 1 [oq 5 (.load 39 (tq 1)), oq 6 (.call (.mk (.value (.func 15)) #[(tq 5)] #[39])), oq 4 (.assign (tq 6))] ∧
 RG 11 2 [mq 7 4, oq 8 (.binOp .neq 25 (tq 7) (cq 0) 25)] ∧
 RG 11 3 [mq 9 4, oq 2 (.assign (cq 0)), oq 3 (.assign (tq 9))] ∧
 RG 11 4 [oq 10 (.load 39 (tq 1)), oq 11 (.call (.mk (.value (.func 31)) #[(tq 10)] #[39])), oq 12 (.call (.mk (.builtin .len) #[(tq 11)] #[49])), oq 2 (.assign (tq 12)), oq 3 (.assign (cq 0))] := by and_intros <;> exact rgo fun _ => by kernel_rfl
theorem enter11 : ENT 11 13 [.tmp 2, .tmp 3] (.seq (Rg 11 0) (.seq (.seq (Rg 11 1) (.seq (Rg 11 2) (.cond (.tmp 8) (.seq (Rg 11 3) .ret) .skip))) (.seq (Rg 11 4) .ret))) := ent Tryz.f11 (by kernel_rfl)
/- bowline/stackmachine.aligned -/
theorem fF81 : RG 81 0 [oq 1 (.box 39 (tq 0)), oq 2 (.assign (.const (.bool false)))] ∧
 RG 81 1 [oq 3 (.buildSlice 69 5 #[(0, (.const (.int .u64 1))), (1, (.const (.int .u64 2))), (2, (.const (.int .u64 4))), (3, (.const (.int .u64 8))), (4, (.const (.int .u64 16)))]), oq 4 (.fieldAddr 39 (tq 1) 3), oq 5 (.load 34 (tq 4)), oq 6 (.call (.mk (.value (.func 112)) #[(tq 3), (tq 5)] #[69,34])), oq 2 (.assign (tq 6))] := by and_intros <;> exact rgo fun _ => by kernel_rfl
theorem enter81 : ENT 81 7 [.tmp 2] (.seq (Rg 81 0) (.seq (Rg 81 1) .ret)) := ent Tryz.f81 (by kernel_rfl)
/- bowline/stackmachine.below -/
theorem fF79 : RG 79 0 [oq 1 (.box 34 (tq 0)), oq 2 (.assign (.const .nilFunc))] ∧
 RG 79 1 [oq 3 (.makeFunc (Fn.func 111) #[] #[(tq 1)]), oq 2 (.assign (tq 3))] := by and_intros <;> exact rgo fun _ => by kernel_rfl
theorem enter79 : ENT 79 4 [.tmp 2] (.seq (Rg 79 0) (.seq (Rg 79 1) .ret)) := ent Tryz.f79 (by kernel_rfl)
/- bowline/stackmachine.below$1 -/
theorem fF111 : RG 111 0 [oq 2 (.box 39 (tq 0)), oq 3 (.assign (.const (.bool false)))] ∧
 RG 111 1 [oq 4 (.fieldAddr 39 (tq 2) 3), oq 5 (.load 34 (tq 4)), oq 6 (.load 34 (tq 1)), oq 7 (.binOp .leq 34 (tq 5) (tq 6) 34), oq 3 (.assign (tq 7))] := by and_intros <;> exact rgo fun _ => by kernel_rfl
theorem enter111 : ENT 111 8 [.tmp 3] (.seq (Rg 111 0) (.seq (Rg 111 1) .ret)) := ent Tryz.f111 (by kernel_rfl)
/- bowline/stackmachine.checkAll -/
theorem fF25 : RG 25 0 [oq 2 (.assign (cq 0))] ∧
 RG 25 1 [mq 3 0, oq 4 (.call (.mk (.builtin .len) #[(tq 3)] #[31])), oq 5 (.binOp .gtr 3 (tq 4) (cq 4000) 3)] ∧
 RG 25 2 [oq 2 (.assign (cq 5))] ∧
 RG 25 3 [mq 6 0, oq 7 (.call (.mk (.value (.func 48)) #[(tq 6), (.func 15)] #[31,46])), oq 8 (.call (.mk (.value (.func 35)) #[(tq 7)] #[120])), oq 2 (.assign (tq 8))] := by and_intros <;> exact rgo fun _ => by kernel_rfl
theorem enter25 : ENT 25 9 [.tmp 2] (.seq (Rg 25 0) (.seq (.seq (Rg 25 1) (.cond (.tmp 5) (.seq (Rg 25 2) .ret) .skip)) (.seq (Rg 25 3) .ret))) := ent Tryz.f25 (by kernel_rfl)
/- bowline/stackmachine.entered -/
theorem fF82 : RG 82 0 [oq 1 (.box 39 (tq 0)), oq 2 (.assign (.const (.bool false)))] ∧
 RG 82 1 [oq 3 (.fieldAddr 39 (tq 1) 3), oq 4 (.load 34 (tq 3)), oq 5 (.binOp .leq 34 (tq 4) (.const (.int .u64 9999)) 34), mq 6 5, .op ⟨some 7, .fieldAddr 39 (tq 1) 4, some (6, true)⟩, .op ⟨some 8, .load 3 (tq 7), some (6, true)⟩, .op ⟨some 9, .binOp .geq 3 (tq 8) (cq 0) 3, some (6, true)⟩, oq 10 (.pick (tq 6) (tq 9) (.const (.bool false))), mq 11 10, .op ⟨some 12, .fieldAddr 39 (tq 1) 4, some (11, true)⟩, .op ⟨some 13, .load 3 (tq 12), some (11, true)⟩, .op ⟨some 14, .fieldAddr 39 (tq 1) 3, some (11, true)⟩, .op ⟨some 15, .load 34 (tq 14), some (11, true)⟩, .op ⟨some 16, .convert 34 3 (tq 15), some (11, true)⟩, .op ⟨some 17, .binOp .leq 3 (tq 13) (tq 16) 3, some (11, true)⟩, oq 18 (.pick (tq 11) (tq 17) (.const (.bool false))), mq 19 18, .op ⟨some 20, .fieldAddr 39 (tq 1) 5, some (19, true)⟩, .op ⟨some 21, .load 3 (tq 20), some (19, true)⟩, .op ⟨some 22, .binOp .geq 3 (tq 21) (cq 0) 3, some (19, true)⟩, oq 23 (.pick (tq 19) (tq 22) (.const (.bool false))), mq 24 23, .op ⟨some 25, .fieldAddr 39 (tq 1) 5, some (24, true)⟩, .op ⟨some 26, .load 3 (tq 25), some (24, true)⟩, .op ⟨some 27, .binOp .leq 3 (tq 26) (cq 65536) 3, some (24, true)⟩, oq 28 (.pick (tq 24) (tq 27) (.const (.bool false))), oq 2 (.assign (tq 28))] := by and_intros <;> exact rgo fun _ => by kernel_rfl
theorem enter82 : ENT 82 29 [.tmp 2] (.seq (Rg 82 0) (.seq (Rg 82 1) .ret)) := ent Tryz.f82 (by kernel_rfl)
/- bowline/stackmachine.exists -/
theorem fF37 : RG 37 0 [oq 1 (.box 39 (tq 0)), oq 2 (.assign (.const (.bool false)))] ∧
 RG 37 1 [oq 6 (.fieldAddr 39 (tq 1) 3), oq 7 (.load 34 (tq 6)), oq 8 (.convert 34 3 (tq 7)), oq 3 (.assign (tq 8))] ∧
 RG 37 2 [mq 10 3, oq 11 (.call (.mk (.value (.func 62)) #[(tq 10)] #[3])), mq 9 11, oq 12 (.extract (tq 9) 0), oq 13 (.extract (tq 9) 1), oq 4 (.assign (tq 12)), oq 5 (.assign (tq 13))] ∧
 RG 37 3 [oq 14 (.fieldAddr 39 (tq 1) 0), oq 15 (.load 3 (tq 14))] ∧
 RG 37 4 [oq 17 (.binOp .eql 3 (tq 15) (cq 6) 3), oq 16 (.assign (tq 17))] ∧
 RG 37 5 [mq 18 5, oq 19 (.binOp .eql 25 (tq 18) (cq 0) 25), mq 20 19, .op ⟨some 21, .move (tq 4), some (20, true)⟩, .op ⟨some 22, .binOp .eql 3 (tq 21) (cq 1) 3, some (20, true)⟩, oq 23 (.pick (tq 20) (tq 22) (.const (.bool false))), mq 24 23, .op ⟨some 25, .move (tq 3), some (24, true)⟩, .op ⟨some 26, .fieldAddr 39 (tq 1) 1, some (24, true)⟩, .op ⟨some 27, .load 9 (tq 26), some (24, true)⟩, .op ⟨some 28, .call (.mk (.value (.func 63)) #[(tq 25), (tq 27)] #[3,9]), some (24, true)⟩, oq 29 (.pick (tq 24) (tq 28) (.const (.bool false))), oq 2 (.assign (tq 29))] ∧
 RG 37 6 [oq 31 (.binOp .eql 3 (tq 15) (cq 7) 3), oq 30 (.assign (tq 31))] ∧
 RG 37 7 [mq 32 5, oq 33 (.binOp .eql 25 (tq 32) (cq 0) 25), mq 34 33, .op ⟨some 35, .move (tq 4), some (34, true)⟩, .op ⟨some 36, .binOp .eql 3 (tq 35) (cq 2) 3, some (34, true)⟩, .op ⟨some 37, .move (tq 36), some (34, true)⟩, .op ⟨some 38, .move (tq 4), some (37, false)⟩, .op ⟨some 39, .binOp .eql 3 (tq 38) (cq 3) 3, some (37, false)⟩, .op ⟨some 40, .pick (tq 37) (.const (.bool true)) (tq 39), some (34, true)⟩, oq 41 (.pick (tq 34) (tq 40) (.const (.bool false))), mq 42 41, .op ⟨some 43, .move (tq 3), some (42, true)⟩, .op ⟨some 44, .fieldAddr 39 (tq 1) 1, some (42, true)⟩, .op ⟨some 45, .load 9 (tq 44), some (42, true)⟩, .op ⟨some 46, .call (.mk (.value (.func 63)) #[(tq 43), (tq 45)] #[3,9]), some (42, true)⟩, oq 47 (.pick (tq 42) (tq 46) (.const (.bool false))), oq 2 (.assign (tq 47))] ∧
 RG 37 8 [oq 49 (.binOp .eql 3 (tq 15) (cq 8) 3), oq 48 (.assign (tq 49))] ∧
 RG 37 9 [mq 50 5, oq 51 (.binOp .eql 25 (tq 50) (cq 0) 25), mq 52 51, .op ⟨some 53, .move (tq 4), some (52, true)⟩, .op ⟨some 54, .binOp .eql 3 (tq 53) (cq 4) 3, some (52, true)⟩, oq 55 (.pick (tq 52) (tq 54) (.const (.bool false))), mq 56 55, .op ⟨some 57, .move (tq 3), some (56, true)⟩, .op ⟨some 58, .fieldAddr 39 (tq 1) 1, some (56, true)⟩, .op ⟨some 59, .load 9 (tq 58), some (56, true)⟩, .op ⟨some 60, .fieldAddr 39 (tq 1) 2, some (56, true)⟩, .op ⟨some 61, .load 9 (tq 60), some (56, true)⟩, .op ⟨some 62, .call (.mk (.value (.func 64)) #[(tq 57), (tq 59), (tq 61)] #[3,9,9]), some (56, true)⟩, oq 63 (.pick (tq 56) (tq 62) (.const (.bool false))), oq 2 (.assign (tq 63))] ∧
 RG 37 10 [oq 2 (.assign (.const (.bool true)))] := by and_intros <;> exact rgo fun _ => by kernel_rfl
theorem enter37 : ENT 37 64 [.tmp 2] (.seq (Rg 37 0) (.seq (Rg 37 1) (.seq (Rg 37 2) (.seq (.seq (Rg 37 3) (.block 0 (.seq (Rg 37 4) (.cond (.tmp 16) (.seq (Rg 37 5) .ret) (.seq (Rg 37 6) (.cond (.tmp 30) (.seq (Rg 37 7) .ret) (.seq (Rg 37 8) (.cond (.tmp 48) (.seq (Rg 37 9) .ret) .skip)))))))) (.seq (Rg 37 10) .ret))))) := ent Tryz.f37 (by kernel_rfl)
/- bowline/stackmachine.first -/
theorem fF35 : RG 35 0 [oq 2 (.assign (cq 0))] ∧
 RG 35 1 [mq 5 0, oq 6 (.call (.mk (.builtin .len) #[(tq 5)] #[120])), oq 7 (.move (cq 0))] ∧
 RG 35 2 [oq 8 (.binOp .lss 3 (tq 7) (tq 6) 3)] ∧
 RG 35 3 [oq 9 (.indexAddr 120 (tq 5) (tq 7)), oq 10 (.load 25 (tq 9)), oq 4 (.assign (tq 10))] ∧
 RG 35 4 [mq 11 4, oq 12 (.binOp .neq 25 (tq 11) (cq 0) 25)] ∧
 RG 35 5 [mq 13 4, oq 2 (.assign (tq 13))] ∧
 RG 35 6 [oq 14 (.binOp .add 3 (tq 7) (cq 1) 3), mq 7 14] ∧
 RG 35 7 [oq 2 (.assign (cq 0))] := by and_intros <;> exact rgo fun _ => by kernel_rfl
theorem enter35 : ENT 35 15 [.tmp 2] (.seq (Rg 35 0) (.seq (.seq (Rg 35 1) (.block 0 (.loop (.seq (Rg 35 2) (.seq (.cond (.tmp 8) .skip (Code.exit 0)) (.seq (.block 1 (.seq (Rg 35 3) (.seq (Rg 35 4) (.cond (.tmp 12) (.seq (Rg 35 5) .ret) .skip)))) (Rg 35 6))))))) (.seq (Rg 35 7) .ret))) := ent Tryz.f35 (by kernel_rfl)
/- bowline/stackmachine.fixed -/
theorem r89_0 : RG 89 0 [oq 4 (.assign (.const (.slice none 0 0)))] := rgo fun _ => by kernel_rfl
theorem r89_1 : RG 89 1 [oq 5 (.assign (.const (.slice none 0 0)))] := rgo fun _ => by kernel_rfl
theorem r89_2 : RG 89 2 [mq 6 1, oq 7 (.move (cq 0))] := rgo fun _ => by kernel_rfl
theorem r89_3 : RG 89 3 [oq 8 (.binOp .lss 3 (tq 7) (tq 6) 3)] := rgo fun _ => by kernel_rfl
theorem r89_4 : RG 89 4 [mq 9 5, mq 10 0, oq 11 (.convert 34 5 (tq 10)), oq 12 (.buildSlice 49 1 #[(0, (tq 11))]), oq 13 (.call (.mk (.builtin .append) #[(tq 9), (tq 12)] #[49,49])), oq 5 (.assign (tq 13))] := rgo fun _ => by kernel_rfl
theorem r89_5 : RG 89 5 [mq 14 0, oq 15 (.binOp .shr 34 (tq 14) (.const (.int .u64 8)) 184), oq 0 (.assign (tq 15))] := rgo fun _ => by kernel_rfl
theorem r89_6 : RG 89 6 [oq 16 (.binOp .add 3 (tq 7) (cq 1) 3), mq 7 16] := rgo fun _ => by kernel_rfl
theorem r89_7 : RG 89 7 [mq 17 5, oq 4 (.assign (tq 17))] := rgo fun _ => by kernel_rfl
def fF89 := And.intro r89_0 <| And.intro r89_1 <| And.intro r89_2 <| And.intro r89_3 <| And.intro r89_4 <| And.intro r89_5 <| And.intro r89_6 <| r89_7
theorem enter89 : ENT 89 18 [.tmp 4] (.seq (Rg 89 0) (.seq (Rg 89 1) (.seq (.seq (Rg 89 2) (.block 0 (.loop (.seq (Rg 89 3) (.seq (.cond (.tmp 8) .skip (Code.exit 0)) (.seq (.block 1 (.seq (Rg 89 4) (Rg 89 5))) (Rg 89 6))))))) (.seq (Rg 89 7) .ret)))) := ent Tryz.f89 (by kernel_rfl)
/- bowline/stackmachine.free -/
theorem fF78 : RG 78 0 [oq 1 (.box 39 (tq 0)), oq 2 (.assign (.const (.bool false)))] ∧
 RG 78 1 [oq 2 (.assign (.const (.bool true)))] := by and_intros <;> exact rgo fun _ => by kernel_rfl
theorem enter78 : ENT 78 3 [.tmp 2] (.seq (Rg 78 0) (.seq (Rg 78 1) .ret)) := ent Tryz.f78 (by kernel_rfl)
/- bowline/stackmachine.hasAny -/
theorem fF61 : RG 61 0 [oq 4 (.assign (.const (.bool false)))] ∧
 RG 61 1 [mq 9 0, oq 10 (.range 9 (tq 9))] ∧
 RG 61 2 [oq 11 (.next (tq 10) true), oq 12 (.extract (tq 11) 0)] ∧
 RG 61 3 [oq 13 (.extract (tq 11) 2), oq 6 (.assign (tq 13))] ∧
 RG 61 4 [mq 14 1, oq 15 (.range 9 (tq 14))] ∧
 RG 61 5 [oq 16 (.next (tq 15) true), oq 17 (.extract (tq 16) 0)] ∧
 RG 61 6 [oq 18 (.extract (tq 16) 2), oq 8 (.assign (tq 18))] ∧
 RG 61 7 [mq 19 6, mq 20 8, oq 21 (.binOp .eql 21 (tq 19) (tq 20) 21)] ∧
 RG 61 8 [oq 4 (.assign (.const (.bool true)))] ∧
 RG 61 9 [oq 4 (.assign (.const (.bool false)))] := by and_intros <;> exact rgo fun _ => by kernel_rfl
theorem enter61 : ENT 61 22 [.tmp 4] (.seq (Rg 61 0) (.seq (.seq (Rg 61 1) (.block 0 (.loop (.seq (Rg 61 2) (.seq (.cond (.tmp 12) .skip (Code.exit 0)) (.block 1 (.seq (Rg 61 3) (.seq (Rg 61 4) (.block 2 (.loop (.seq (Rg 61 5) (.seq (.cond (.tmp 17) .skip (Code.exit 2)) (.block 3 (.seq (Rg 61 6) (.seq (Rg 61 7) (.cond (.tmp 21) (.seq (Rg 61 8) .ret) .skip)))))))))))))))) (.seq (Rg 61 9) .ret))) := ent Tryz.f61 (by kernel_rfl)
/- bowline/stackmachine.kindOf -/
theorem fF23 : RG 23 0 [oq 2 (.alloc 73), oq 3 (.assign (.const (.bool false)))] ∧
 RG 23 1 [oq 5 (.call (.mk (.value (.func 47)) #[] #[])), oq 4 (.assign (tq 5))] ∧
 RG 23 2 [mq 6 0, oq 7 (.binOp .lss 3 (tq 6) (cq 0) 3), mq 8 7, .op ⟨some 9, .move (tq 0), some (8, false)⟩, .op ⟨some 10, .move (tq 4), some (8, false)⟩, .op ⟨some 11, .call (.mk (.builtin .len) #[(tq 10)] #[117]), some (8, false)⟩, .op ⟨some 12, .binOp .geq 3 (tq 9) (tq 11) 3, some (8, false)⟩, oq 13 (.pick (tq 8) (.const (.bool true)) (tq 12))] ∧
 RG 23 3 [oq 14 (.build 73 #[]), .op ⟨none, .store 73 (tq 2) (tq 14), none⟩, oq 3 (.assign (.const (.bool false)))] ∧
 RG 23 4 [mq 15 4, mq 16 0, oq 17 (.indexAddr 117 (tq 15) (tq 16)), oq 18 (.load 73 (tq 17)), .op ⟨none, .store 73 (tq 2) (tq 18), none⟩, oq 3 (.assign (.const (.bool true)))] := by and_intros <;> exact rgo fun _ => by kernel_rfl
theorem enter23 : ENT 23 19 [.cell 2 73, .tmp 3] (.seq (Rg 23 0) (.seq (Rg 23 1) (.seq (.seq (Rg 23 2) (.cond (.tmp 13) (.seq (Rg 23 3) .ret) .skip)) (.seq (Rg 23 4) .ret)))) := ent Tryz.f23 (by kernel_rfl)
/- bowline/stackmachine.kinds -/
theorem fF47 : RG 47 0 [oq 0 (.assign (.const (.slice none 0 0)))] ∧
 RG 47 1 [oq 1 (.build 70 #[(0, (cq 0)), (1, (cq 1))]), oq 2 (.build 73 #[(0, (sq #[99,111,110,115,116])), (1, (sq #[110])), (2, (tq 1)), (3, (.func 78))]), oq 3 (.build 70 #[(0, (cq 0)), (1, (cq 1))]), oq 4 (.build 73 #[(0, (sq #[119,111,114,100])), (1, (sq #[119])), (2, (tq 3)), (3, (.func 78))]), oq 5 (.build 70 #[(0, (cq 0)), (1, (cq 1))]), oq 6 (.call (.mk (.value (.func 79)) #[(.const (.int .u64 9999))] #[34])), oq 7 (.build 73 #[(0, (sq #[103,101,116])), (1, (sq #[110])), (2, (tq 5)), (3, (tq 6))]), oq 8 (.build 70 #[(0, (cq 1)), (1, (cq 0))]), oq 9 (.call (.mk (.value (.func 79)) #[(.const (.int .u64 9999))] #[34])), oq 10 (.build 73 #[(0, (sq #[115,101,116])), (1, (sq #[110])), (2, (tq 8)), (3, (tq 9))]), oq 11 (.build 70 #[(0, (cq 1)), (1, (cq 1))]), oq 12 (.call (.mk (.value (.func 79)) #[(.const (.int .u64 9999))] #[34])), oq 13 (.build 73 #[(0, (sq #[116,101,101])), (1, (sq #[110])), (2, (tq 11)), (3, (tq 12))]), oq 14 (.build 70 #[(0, (cq 1)), (1, (cq 0))]), oq 15 (.build 73 #[(0, (sq #[100,114,111,112])), (1, (sq #[])), (2, (tq 14)), (3, (.func 78))]), oq 16 (.build 70 #[(0, (cq 1)), (1, (cq 1))]), oq 17 (.call (.mk (.value (.func 79)) #[(.const (.int .u64 255))] #[34])), oq 18 (.build 73 #[(0, (sq #[117,110,97,114,121])), (1, (sq #[84,110])), (2, (tq 16)), (3, (tq 17))]), oq 19 (.build 70 #[(0, (cq 2)), (1, (cq 1))]), oq 20 (.call (.mk (.value (.func 79)) #[(.const (.int .u64 255))] #[34])), oq 21 (.build 73 #[(0, (sq #[98,105,110,97,114,121])), (1, (sq #[84,110])), (2, (tq 19)), (3, (tq 20))]), oq 22 (.build 70 #[(0, (cq 1)), (1, (cq 1))]), oq 23 (.call (.mk (.value (.func 79)) #[(.const (.int .u64 255))] #[34])), oq 24 (.build 73 #[(0, (sq #[99,111,110,118,101,114,116])), (1, (sq #[84,85,110])), (2, (tq 22)), (3, (tq 23))]), oq 25 (.build 70 #[(0, (cq 1)), (1, (cq 1))]), oq 26 (.build 73 #[(0, (sq #[108,111,97,100])), (1, (sq #[84,115])), (2, (tq 25)), (3, (.func 80))]), oq 27 (.build 70 #[(0, (cq 2)), (1, (cq 0))]), oq 28 (.build 73 #[(0, (sq #[115,116,111,114,101])), (1, (sq #[84,115])), (2, (tq 27)), (3, (.func 80))]), oq 29 (.build 70 #[(0, (cq 1)), (1, (cq 1))]), oq 30 (.build 73 #[(0, (sq #[108,101,97])), (1, (sq #[115])), (2, (tq 29)), (3, (.func 80))]), oq 31 (.build 70 #[(0, (cq 2)), (1, (cq 1))]), oq 32 (.build 73 #[(0, (sq #[105,110,100,101,120])), (1, (sq #[115])), (2, (tq 31)), (3, (.func 80))]), oq 33 (.build 70 #[(0, (cq 2)), (1, (cq 0))]), oq 34 (.call (.mk (.value (.func 79)) #[(.const (.int .u64 2147483647))] #[34])), oq 35 (.build 73 #[(0, (sq #[99,111,112,121])), (1, (sq #[110])), (2, (tq 33)), (3, (tq 34))]), oq 36 (.build 70 #[(0, (cq 1)), (1, (cq 1))]), oq 37 (.build 73 #[(0, (sq #[97,108,108,111,99])), (1, (sq #[110])), (2, (tq 36)), (3, (.func 81))]), oq 38 (.build 70 #[(0, (cq 1)), (1, (cq 0))]), oq 39 (.build 73 #[(0, (sq #[102,114,101,101])), (1, (sq #[])), (2, (tq 38)), (3, (.func 78))]), oq 40 (.build 70 #[(0, (cq 1)), (1, (cq 0))]), oq 41 (.build 73 #[(0, (sq #[111,117,116])), (1, (sq #[84])), (2, (tq 40)), (3, (.func 78))]), oq 42 (.build 70 #[(0, (cq 2)), (1, (cq 0))]), oq 43 (.build 73 #[(0, (sq #[112,114,105,110,116])), (1, (sq #[])), (2, (tq 42)), (3, (.func 78))]), oq 44 (.build 70 #[(0, (cq 0)), (1, (cq 0))]), oq 45 (.build 73 #[(0, (sq #[116,114,97,99,101])), (1, (sq #[])), (2, (tq 44)), (3, (.func 78))]), oq 46 (.build 70 #[(0, (cq 0)), (1, (cq 0))]), oq 47 (.build 73 #[(0, (sq #[102,111,114,103,101,116])), (1, (sq #[])), (2, (tq 46)), (3, (.func 78))]), oq 48 (.build 70 #[(0, (cq 0)), (1, (cq 0))]), oq 49 (.build 73 #[(0, (sq #[106,117,109,112])), (1, (sq #[100])), (2, (tq 48)), (3, (.func 80))]), oq 50 (.build 70 #[(0, (cq 1)), (1, (cq 0))]), oq 51 (.build 73 #[(0, (sq #[98,114,97,110,99,104])), (1, (sq #[100])), (2, (tq 50)), (3, (.func 80))]), oq 52 (.build 70 #[(0, (cq 1)), (1, (cq 1))]), oq 53 (.build 73 #[(0, (sq #[99,97,115,101])), (1, (sq #[84,119,100])), (2, (tq 52)), (3, (.func 80))]), oq 54 (.build 70 #[(0, (cq 0)), (1, (cq 0))]), oq 55 (.build 73 #[(0, (sq #[99,97,108,108])), (1, (sq #[100])), (2, (tq 54)), (3, (.func 80))]), oq 56 (.build 70 #[(0, (cq 0)), (1, (cq 0))]), oq 57 (.build 73 #[(0, (sq #[101,110,116,101,114])), (1, (sq #[80,76,70])), (2, (tq 56)), (3, (.func 82))]), oq 58 (.build 70 #[(0, (cq 0)), (1, (cq 0))]), oq 59 (.call (.mk (.value (.func 79)) #[(.const (.int .u64 1))] #[34])), oq 60 (.build 73 #[(0, (sq #[114,101,116,117,114,110])), (1, (sq #[110])), (2, (tq 58)), (3, (tq 59))]), oq 61 (.build 70 #[(0, (cq 0)), (1, (cq 1))]), oq 62 (.call (.mk (.value (.func 79)) #[(.const (.int .u64 65536))] #[34])), oq 63 (.build 73 #[(0, (sq #[102,114,97,109,101])), (1, (sq #[110])), (2, (tq 61)), (3, (tq 62))]), oq 64 (.build 70 #[(0, (cq 0)), (1, (cq 0))]), oq 65 (.call (.mk (.value (.func 79)) #[(.const (.int .u64 12))] #[34])), oq 66 (.build 73 #[(0, (sq #[116,114,97,112])), (1, (sq #[110])), (2, (tq 64)), (3, (tq 65))]), oq 67 (.build 70 #[(0, (cq 0)), (1, (cq 0))]), oq 68 (.call (.mk (.value (.func 79)) #[(.const (.int .u64 18))] #[34])), oq 69 (.build 73 #[(0, (sq #[99,114,97,115,104])), (1, (sq #[110])), (2, (tq 67)), (3, (tq 68))]), oq 70 (.buildSlice 117 29 #[(0, (tq 2)), (1, (tq 4)), (2, (tq 7)), (3, (tq 10)), (4, (tq 13)), (5, (tq 15)), (6, (tq 18)), (7, (tq 21)), (8, (tq 24)), (9, (tq 26)), (10, (tq 28)), (11, (tq 30)), (12, (tq 32)), (13, (tq 35)), (14, (tq 37)), (15, (tq 39)), (16, (tq 41)), (17, (tq 43)), (18, (tq 45)), (19, (tq 47)), (20, (tq 49)), (21, (tq 51)), (22, (tq 53)), (23, (tq 55)), (24, (tq 57)), (25, (tq 60)), (26, (tq 63)), (27, (tq 66)), (28, (tq 69))]), oq 0 (.assign (tq 70))] := by and_intros <;> exact rgo fun _ => by kernel_rfl
theorem enter47 : ENT 47 71 [.tmp 0] (.seq (Rg 47 0) (.seq (Rg 47 1) .ret)) := ent Tryz.f47 (by kernel_rfl)
/- bowline/stackmachine.mapped[bowline/stackmachine.Instr,bowline/api.Errno] -/
theorem r48_0 : RG 48 0 [oq 4 (.assign (.const (.slice none 0 0)))] := rgo fun _ => by kernel_rfl
theorem r48_1 : RG 48 1 [oq 5 (.assign (.const (.slice none 0 0)))] := rgo fun _ => by kernel_rfl
theorem r48_2 : RG 48 2 [mq 8 0, oq 9 (.call (.mk (.builtin .len) #[(tq 8)] #[31])), oq 10 (.move (cq 0))] := rgo fun _ => by kernel_rfl
theorem r48_3 : RG 48 3 [oq 11 (.binOp .lss 3 (tq 10) (tq 9) 3)] := rgo fun _ => by kernel_rfl
theorem r48_4 : RG 48 4 [oq 12 (.indexAddr 31 (tq 8) (tq 10)), oq 13 (.load 39 (tq 12)), oq 7 (.alloc 39), .op ⟨none, .store 39 (tq 7) (tq 13), none⟩] := rgo fun _ => by kernel_rfl
theorem r48_5 : RG 48 5 [mq 14 5, mq 15 1, oq 16 (.load 39 (tq 7)), oq 17 (.call (.mk (.value (tq 15)) #[(tq 16)] #[39])), oq 18 (.buildSlice 120 1 #[(0, (tq 17))]), oq 19 (.call (.mk (.builtin .append) #[(tq 14), (tq 18)] #[120,120])), oq 5 (.assign (tq 19))] := rgo fun _ => by kernel_rfl
theorem r48_6 : RG 48 6 [oq 20 (.binOp .add 3 (tq 10) (cq 1) 3), mq 10 20] := rgo fun _ => by kernel_rfl
theorem r48_7 : RG 48 7 [mq 21 5, oq 4 (.assign (tq 21))] := rgo fun _ => by kernel_rfl
def fF48 := And.intro r48_0 <| And.intro r48_1 <| And.intro r48_2 <| And.intro r48_3 <| And.intro r48_4 <| And.intro r48_5 <| And.intro r48_6 <| r48_7
theorem enter48 : ENT 48 22 [.tmp 4] (.seq (Rg 48 0) (.seq (Rg 48 1) (.seq (.seq (Rg 48 2) (.block 0 (.loop (.seq (Rg 48 3) (.seq (.cond (.tmp 11) .skip (Code.exit 0)) (.seq (.block 1 (.seq (Rg 48 4) (Rg 48 5))) (Rg 48 6))))))) (.seq (Rg 48 7) .ret)))) := ent Tryz.f48 (by kernel_rfl)
/- bowline/stackmachine.near -/
theorem fF80 : RG 80 0 [oq 1 (.box 39 (tq 0)), oq 2 (.assign (.const (.bool false)))] ∧
 RG 80 1 [oq 3 (.fieldAddr 39 (tq 1) 4), oq 4 (.load 3 (tq 3)), oq 5 (.binOp .geq 3 (tq 4) (cq (-2147483648)) 3), mq 6 5, .op ⟨some 7, .fieldAddr 39 (tq 1) 4, some (6, true)⟩, .op ⟨some 8, .load 3 (tq 7), some (6, true)⟩, .op ⟨some 9, .binOp .lss 3 (tq 8) (cq 2147483648) 3, some (6, true)⟩, oq 10 (.pick (tq 6) (tq 9) (.const (.bool false))), oq 2 (.assign (tq 10))] := by and_intros <;> exact rgo fun _ => by kernel_rfl
theorem enter80 : ENT 80 11 [.tmp 2] (.seq (Rg 80 0) (.seq (Rg 80 1) .ret)) := ent Tryz.f80 (by kernel_rfl)
/- bowline/stackmachine.operand -/
theorem fF55 : RG 55 0 [oq 2 (.box 39 (tq 0)), oq 4 (.assign (.const (.slice none 0 0)))] ∧
 RG 55 1 [mq 8 1] ∧
 RG 55 2 [oq 10 (.binOp .eql 21 (tq 8) (.const (.int .i32 84)) 21), oq 9 (.assign (tq 10))] ∧
 RG 55 3 [oq 11 (.binOp .eql 21 (tq 8) (.const (.int .i32 85)) 21), oq 9 (.assign (tq 11))] ∧
 RG 55 4 [oq 12 (.fieldAddr 39 (tq 2) 1), oq 13 (.load 9 (tq 12)), oq 5 (.assign (tq 13))] ∧
 RG 55 5 [mq 14 1, oq 15 (.binOp .eql 21 (tq 14) (.const (.int .i32 85)) 21)] ∧
 RG 55 6 [oq 16 (.fieldAddr 39 (tq 2) 2), oq 17 (.load 9 (tq 16)), oq 5 (.assign (tq 17))] ∧
 RG 55 7 [mq 19 5, oq 20 (.call (.mk (.value (.func 60)) #[(tq 19)] #[9])), mq 18 20, oq 21 (.extract (tq 18) 0), oq 22 (.extract (tq 18) 1), oq 6 (.assign (tq 21)), oq 7 (.assign (tq 22))] ∧
 RG 55 8 [mq 23 6, oq 24 (.convert 3 5 (tq 23)), oq 25 (.buildSlice 49 1 #[(0, (tq 24))]), oq 4 (.assign (tq 25))] ∧
 RG 55 9 [oq 27 (.binOp .eql 21 (tq 8) (.const (.int .i32 110)) 21), oq 26 (.assign (tq 27))] ∧
 RG 55 10 [oq 28 (.binOp .eql 21 (tq 8) (.const (.int .i32 76)) 21), oq 26 (.assign (tq 28))] ∧
 RG 55 11 [oq 29 (.fieldAddr 39 (tq 2) 3), oq 30 (.load 34 (tq 29)), oq 31 (.call (.mk (.value (.func 87)) #[(tq 30)] #[34])), oq 4 (.assign (tq 31))] ∧
 RG 55 12 [oq 33 (.binOp .eql 21 (tq 8) (.const (.int .i32 115)) 21), oq 32 (.assign (tq 33))] ∧
 RG 55 13 [oq 34 (.fieldAddr 39 (tq 2) 4), oq 35 (.load 3 (tq 34)), oq 36 (.call (.mk (.value (.func 88)) #[(tq 35)] #[3])), oq 37 (.call (.mk (.value (.func 87)) #[(tq 36)] #[34])), oq 4 (.assign (tq 37))] ∧
 RG 55 14 [oq 39 (.binOp .eql 21 (tq 8) (.const (.int .i32 100)) 21), oq 38 (.assign (tq 39))] ∧
 RG 55 15 [oq 40 (.fieldAddr 39 (tq 2) 4), oq 41 (.load 3 (tq 40)), oq 42 (.convert 3 34 (tq 41)), oq 43 (.call (.mk (.value (.func 89)) #[(tq 42), (cq 4)] #[34,3])), oq 4 (.assign (tq 43))] ∧
 RG 55 16 [oq 45 (.binOp .eql 21 (tq 8) (.const (.int .i32 119)) 21), oq 44 (.assign (tq 45))] ∧
 RG 55 17 [oq 46 (.fieldAddr 39 (tq 2) 3), oq 47 (.load 34 (tq 46)), oq 48 (.call (.mk (.value (.func 89)) #[(tq 47), (cq 8)] #[34,3])), oq 4 (.assign (tq 48))] ∧
 RG 55 18 [oq 50 (.binOp .eql 21 (tq 8) (.const (.int .i32 80)) 21), oq 49 (.assign (tq 50))] ∧
 RG 55 19 [oq 51 (.fieldAddr 39 (tq 2) 4), oq 52 (.load 3 (tq 51)), oq 53 (.convert 3 34 (tq 52)), oq 54 (.call (.mk (.value (.func 87)) #[(tq 53)] #[34])), oq 4 (.assign (tq 54))] ∧
 RG 55 20 [oq 55 (.fieldAddr 39 (tq 2) 5), oq 56 (.load 3 (tq 55)), oq 57 (.convert 3 34 (tq 56)), oq 58 (.call (.mk (.value (.func 87)) #[(tq 57)] #[34])), oq 4 (.assign (tq 58))] := by and_intros <;> exact rgo fun _ => by kernel_rfl
theorem enter55 : ENT 55 59 [.tmp 4] (.seq (Rg 55 0) (.seq (.seq (Rg 55 1) (.block 0 (.seq (.seq (Rg 55 2) (.cond (.tmp 9) .skip (Rg 55 3))) (.cond (.tmp 9) (.seq (Rg 55 4) (.seq (.seq (Rg 55 5) (.cond (.tmp 15) (Rg 55 6) .skip)) (.seq (Rg 55 7) (.seq (Rg 55 8) .ret)))) (.seq (.seq (Rg 55 9) (.cond (.tmp 26) .skip (Rg 55 10))) (.cond (.tmp 26) (.seq (Rg 55 11) .ret) (.seq (Rg 55 12) (.cond (.tmp 32) (.seq (Rg 55 13) .ret) (.seq (Rg 55 14) (.cond (.tmp 38) (.seq (Rg 55 15) .ret) (.seq (Rg 55 16) (.cond (.tmp 44) (.seq (Rg 55 17) .ret) (.seq (Rg 55 18) (.cond (.tmp 49) (.seq (Rg 55 19) .ret) .skip)))))))))))))) (.seq (Rg 55 20) .ret))) := ent Tryz.f55 (by kernel_rfl)
/- bowline/stackmachine.when -/
theorem fF36 : RG 36 0 [oq 4 (.assign (cq 0))] ∧
 RG 36 1 [mq 5 0] ∧
 RG 36 2 [mq 6 1, oq 4 (.assign (tq 6))] ∧
 RG 36 3 [oq 4 (.assign (cq 0))] := by and_intros <;> exact rgo fun _ => by kernel_rfl
theorem enter36 : ENT 36 7 [.tmp 4] (.seq (Rg 36 0) (.seq (.seq (Rg 36 1) (.cond (.tmp 5) (.seq (Rg 36 2) .ret) .skip)) (.seq (Rg 36 3) .ret))) := ent Tryz.f36 (by kernel_rfl)
/- bowline/stackmachine.wrongType -/
theorem fF33 : RG 33 0 [oq 4 (.assign (.const (.bool false)))] ∧
 RG 33 1 [mq 8 0, oq 9 (.call (.mk (.value (.func 60)) #[(tq 8)] #[9])), mq 7 9, oq 10 (.extract (tq 7) 0), oq 11 (.extract (tq 7) 1), oq 5 (.assign (tq 10)), oq 6 (.assign (tq 11))] ∧
 RG 33 2 [mq 12 6, oq 13 (.binOp .neq 25 (tq 12) (cq 0) 25), mq 14 13, .op ⟨some 15, .move (tq 0), some (14, false)⟩, .op ⟨some 16, .binOp .neq 9 (tq 15) (sq #[]) 9, some (14, false)⟩, .op ⟨some 17, .move (tq 1), some (14, false)⟩, .op ⟨some 18, .binOp .neq 4 (tq 16) (tq 17) 4, some (14, false)⟩, oq 19 (.pick (tq 14) (.const (.bool true)) (tq 18)), oq 4 (.assign (tq 19))] := by and_intros <;> exact rgo fun _ => by kernel_rfl
theorem enter33 : ENT 33 20 [.tmp 4] (.seq (Rg 33 0) (.seq (Rg 33 1) (.seq (Rg 33 2) .ret))) := ent Tryz.f33 (by kernel_rfl)
/- bowline/stackmachine.zigzag -/
theorem fF88 : RG 88 0 [oq 2 (.assign (.const (.int .u64 0)))] ∧
 RG 88 1 [mq 3 0, oq 4 (.binOp .lss 3 (tq 3) (cq 0) 3)] ∧
 RG 88 2 [mq 5 0, oq 6 (.binOp .mul 3 (cq (-2)) (tq 5) 3), oq 7 (.binOp .sub 3 (tq 6) (cq 1) 3), oq 8 (.convert 3 34 (tq 7)), oq 2 (.assign (tq 8))] ∧
 RG 88 3 [mq 9 0, oq 10 (.binOp .mul 3 (cq 2) (tq 9) 3), oq 11 (.convert 3 34 (tq 10)), oq 2 (.assign (tq 11))] := by and_intros <;> exact rgo fun _ => by kernel_rfl
theorem enter88 : ENT 88 12 [.tmp 2] (.seq (Rg 88 0) (.seq (.seq (Rg 88 1) (.cond (.tmp 4) (.seq (Rg 88 2) .ret) .skip)) (.seq (Rg 88 3) .ret))) := ent Tryz.f88 (by kernel_rfl)
/- strconv.Atoi -/
theorem fF216 : RG 216 0 [oq 2 (.assign (cq 0)), oq 3 (.assign (.const .nilIface))] ∧
 RG 216 1 [mq 7 0, oq 8 (.call (.mk (.value (.func 239)) #[(tq 7)] #[9])), mq 6 8, oq 9 (.extract (tq 6) 0), oq 10 (.extract (tq 6) 1), oq 4 (.assign (tq 9)), oq 5 (.assign (tq 10))] ∧
 RG 216 2 [mq 11 5, oq 12 (.binOp .neq 84 (tq 11) (.const .nilIface) 84)] ∧
 RG 216 3 [mq 13 4, mq 14 0, mq 15 5, oq 16 (.call (.mk (.value (.func 240)) #[(sq #[65,116,111,105]), (tq 14), (cq 0), (cq 0), (tq 15)] #[9,9,3,3,84])), oq 2 (.assign (tq 13)), oq 3 (.assign (tq 16))] ∧
 RG 216 4 [mq 17 4, oq 2 (.assign (tq 17)), oq 3 (.assign (.const .nilIface))] := by and_intros <;> exact rgo fun _ => by kernel_rfl
theorem enter216 : ENT 216 18 [.tmp 2, .tmp 3] (.seq (Rg 216 0) (.seq (Rg 216 1) (.seq (.seq (Rg 216 2) (.cond (.tmp 12) (.seq (Rg 216 3) .ret) .skip)) (.seq (Rg 216 4) .ret)))) := ent Tryz.f216 (by kernel_rfl)
/- bowline/wide.Width -/
theorem fF124 : RG 124 0 [oq 2 (.assign (cq 0)), oq 3 (.assign (.const (.bool false))), oq 4 (.assign (cq 0))] ∧
 RG 124 1 [mq 8 0, oq 9 (.call (.mk (.value (.func 178)) #[(tq 8)] #[9])), mq 7 9, oq 10 (.extract (tq 7) 0), oq 11 (.extract (tq 7) 1), oq 5 (.alloc 230), .op ⟨none, .store 230 (tq 5) (tq 10), none⟩, oq 6 (.assign (tq 11))] ∧
 RG 124 2 [oq 12 (.fieldAddr 230 (tq 5) 0), oq 13 (.fieldAddr 228 (tq 12) 0), oq 14 (.load 3 (tq 13)), oq 15 (.fieldAddr 230 (tq 5) 0), oq 16 (.fieldAddr 228 (tq 15) 1), oq 17 (.load 4 (tq 16)), mq 18 6, oq 2 (.assign (tq 14)), oq 3 (.assign (tq 17)), oq 4 (.assign (tq 18)), .chk [⟨some 14, .load 3 (tq 13), none⟩, ⟨some 17, .load 4 (tq 16), none⟩]] := by and_intros <;> exact rgo fun _ => by kernel_rfl
theorem enter124 : ENT 124 19 [.tmp 2, .tmp 3, .tmp 4] (.seq (Rg 124 0) (.seq (Rg 124 1) (.seq (Rg 124 2) .ret))) := ent Tryz.f124 (by kernel_rfl)
/- bowline/wide.isDigits -/
theorem fF215 : RG 215 0 [oq 2 (.assign (.const (.bool false)))] ∧
 RG 215 1 [mq 5 0, oq 6 (.range 9 (tq 5))] ∧
 RG 215 2 [oq 7 (.next (tq 6) true), oq 8 (.extract (tq 7) 0)] ∧
 RG 215 3 [oq 9 (.extract (tq 7) 2), oq 4 (.assign (tq 9))] ∧
 RG 215 4 [mq 10 4, oq 11 (.binOp .lss 21 (tq 10) (.const (.int .i32 48)) 21), mq 12 11, .op ⟨some 13, .move (tq 4), some (12, false)⟩, .op ⟨some 14, .binOp .gtr 21 (tq 13) (.const (.int .i32 57)) 21, some (12, false)⟩, oq 15 (.pick (tq 12) (.const (.bool true)) (tq 14))] ∧
 RG 215 5 [oq 2 (.assign (.const (.bool false)))] ∧
 RG 215 6 [mq 16 0, oq 17 (.binOp .neq 9 (tq 16) (sq #[]) 9), mq 18 17, .op ⟨some 19, .move (tq 0), some (18, true)⟩, .op ⟨some 20, .binOp .eql 9 (tq 19) (sq #[48]) 9, some (18, true)⟩, .op ⟨some 21, .move (tq 20), some (18, true)⟩, .op ⟨some 22, .move (tq 0), some (21, false)⟩, .op ⟨some 23, .index 9 (tq 22) (cq 0), some (21, false)⟩, .op ⟨some 24, .binOp .neq 5 (tq 23) (.const (.int .u8 48)) 5, some (21, false)⟩, .op ⟨some 25, .pick (tq 21) (.const (.bool true)) (tq 24), some (18, true)⟩, oq 26 (.pick (tq 18) (tq 25) (.const (.bool false))), oq 2 (.assign (tq 26))] := by and_intros <;> exact rgo fun _ => by kernel_rfl
theorem enter215 : ENT 215 27 [.tmp 2] (.seq (Rg 215 0) (.seq (.seq (Rg 215 1) (.block 0 (.loop (.seq (Rg 215 2) (.seq (.cond (.tmp 8) .skip (Code.exit 0)) (.block 1 (.seq (Rg 215 3) (.seq (Rg 215 4) (.cond (.tmp 15) (.seq (Rg 215 5) .ret) .skip))))))))) (.seq (Rg 215 6) .ret))) := ent Tryz.f215 (by kernel_rfl)
/- bowline/wide.read -/
theorem fF178 : RG 178 0 [oq 2 (.alloc 230), oq 3 (.assign (cq 0))] ∧
 RG 178 1 [oq 4 (.assign (sq #[])), oq 5 (.assign (sq #[]))] ∧
 RG 178 2 [mq 12 0, oq 13 (.binOp .neq 9 (tq 12) (sq #[]) 9)] ∧
 RG 178 3 [mq 14 0, oq 15 (.slice 9 (tq 14) none (some (cq 1)) none), mq 16 0, oq 17 (.slice 9 (tq 16) (some (cq 1)) none none), oq 4 (.assign (tq 15)), oq 5 (.assign (tq 17)), .chk [⟨some 15, .slice 9 (tq 14) none (some (cq 1)) none, none⟩, ⟨some 17, .slice 9 (tq 16) (some (cq 1)) none none, none⟩]] ∧
 RG 178 4 [oq 18 (.makeMap 263 none), .op ⟨none, .insert 263 (tq 18) (sq #[117]) (.const (.bool false)), none⟩, .op ⟨none, .insert 263 (tq 18) (sq #[105]) (.const (.bool true)), none⟩, mq 19 18, oq 6 (.assign (tq 19))] ∧
 RG 178 5 [mq 21 6, mq 22 4, oq 23 (.lookup 263 (tq 21) (tq 22) true), mq 20 23, oq 24 (.extract (tq 20) 0), oq 25 (.extract (tq 20) 1), oq 7 (.assign (tq 24)), oq 8 (.assign (tq 25))] ∧
 RG 178 6 [mq 26 8, oq 27 (.unOp .not 4 (tq 26)), mq 28 27, .op ⟨some 29, .move (tq 5), some (28, false)⟩, .op ⟨some 30, .call (.mk (.value (.func 215)) #[(tq 29)] #[9]), some (28, false)⟩, .op ⟨some 31, .unOp .not 4 (tq 30), some (28, false)⟩, oq 32 (.pick (tq 28) (.const (.bool true)) (tq 31)), mq 33 32, .op ⟨some 34, .move (tq 5), some (33, false)⟩, .op ⟨some 35, .call (.mk (.builtin .len) #[(tq 34)] #[9]), some (33, false)⟩, .op ⟨some 36, .binOp .gtr 3 (tq 35) (cq 3) 3, some (33, false)⟩, oq 37 (.pick (tq 33) (.const (.bool true)) (tq 36))] ∧
 RG 178 7 [oq 38 (.build 230 #[]), .op ⟨none, .store 230 (tq 2) (tq 38), none⟩, oq 3 (.assign (cq 6))] ∧
 RG 178 8 [mq 40 5, oq 41 (.call (.mk (.value (.func 216)) #[(tq 40)] #[9])), mq 39 41, oq 42 (.extract (tq 39) 0), oq 43 (.extract (tq 39) 1), oq 9 (.assign (tq 42)), oq 10 (.assign (tq 43))] ∧
 RG 178 9 [mq 44 9, mq 45 7, oq 46 (.build 228 #[(0, (tq 44)), (1, (tq 45))]), oq 11 (.alloc 228), .op ⟨none, .store 228 (tq 11) (tq 46), none⟩] ∧
 RG 178 10 [mq 47 9, oq 48 (.binOp .gtr 3 (tq 47) (cq 64) 3), mq 49 48, .op ⟨some 50, .load 228 (tq 11), some (49, false)⟩, .op ⟨some 51, .build 228 #[(0, (cq 0)), (1, (.const (.bool true)))], some (49, false)⟩, .op ⟨some 52, .binOp .eql 228 (tq 50) (tq 51) 228, some (49, false)⟩, oq 53 (.pick (tq 49) (.const (.bool true)) (tq 52))] ∧
 RG 178 11 [oq 54 (.build 230 #[]), .op ⟨none, .store 230 (tq 2) (tq 54), none⟩, oq 3 (.assign (cq 3))] ∧
 RG 178 12 [oq 55 (.load 228 (tq 11)), mq 56 0, oq 57 (.build 230 #[(0, (tq 55)), (1, (tq 56))]), .op ⟨none, .store 230 (tq 2) (tq 57), none⟩, oq 3 (.assign (cq 0))] := by and_intros <;> exact rgo fun _ => by kernel_rfl
theorem enter178 : ENT 178 58 [.cell 2 230, .tmp 3] (.seq (Rg 178 0) (.seq (Rg 178 1) (.seq (.seq (Rg 178 2) (.cond (.tmp 13) (Rg 178 3) .skip)) (.seq (Rg 178 4) (.seq (Rg 178 5) (.seq (.seq (Rg 178 6) (.cond (.tmp 37) (.seq (Rg 178 7) .ret) .skip)) (.seq (Rg 178 8) (.seq (Rg 178 9) (.seq (.seq (Rg 178 10) (.cond (.tmp 53) (.seq (Rg 178 11) .ret) .skip)) (.seq (Rg 178 12) .ret)))))))))) := ent Tryz.f178 (by kernel_rfl)
theorem ti25 : TI 25 ⟨.int .i64, 1, 8, [.int .i64 0]⟩ := fun _ => by kernel_rfl
theorem ti46 : TI 46 ⟨.func #[39] #[25] false, 1, 8, [.nilFunc]⟩ := fun _ => by kernel_rfl
theorem ti69 : TI 69 ⟨.slice 34, 1, 24, [.slice none 0 0]⟩ := fun _ => by kernel_rfl
theorem ti84 : TI 84 ⟨.interface #[("Error", 90)], 1, 16, [.nilIface]⟩ := fun _ => by kernel_rfl
theorem ti117 : TI 117 ⟨.slice 73, 1, 24, [.slice none 0 0]⟩ := fun _ => by kernel_rfl
theorem ti119 : TI 119 ⟨.slice 77, 1, 24, [.slice none 0 0]⟩ := fun _ => by kernel_rfl
theorem ti120 : TI 120 ⟨.slice 25, 1, 24, [.slice none 0 0]⟩ := fun _ => by kernel_rfl
theorem ti148 : TI 148 ⟨.map 9 3, 1, 8, [.map none]⟩ := fun _ => by kernel_rfl
theorem ti152 : TI 152 ⟨.func #[160, 34, 34] #[221] false, 1, 8, [.nilFunc]⟩ := fun _ => by kernel_rfl
theorem ti154 : TI 154 ⟨.struct #[⟨ "op", 3, 0, false, "", "bowline/ops", 0⟩, ⟨ "form", 3, 1, false, "", "bowline/ops", 8⟩, ⟨ "kinds", 55, 2, false, "", "bowline/ops", 16⟩, ⟨ "do", 152, 3, false, "", "bowline/ops", 40⟩], 4, 48, [.int .i64 0, .int .i64 0, .slice none 0 0, .nilFunc]⟩ := fun _ => by kernel_rfl
theorem ti158 : TI 158 ⟨.array 9 3, 9, 72, [.int .i64 0, .int .i64 0, .int .i64 0, .int .i64 0, .int .i64 0, .int .i64 0, .int .i64 0, .int .i64 0, .int .i64 0]⟩ := fun _ => by kernel_rfl
theorem ti160 : TI 160 ⟨.struct #[⟨ "width", 3, 0, false, "", "bowline/ops", 0⟩, ⟨ "signed", 4, 1, false, "", "bowline/ops", 8⟩], 2, 16, [.int .i64 0, .bool false]⟩ := fun _ => by kernel_rfl
theorem ti184 : TI 184 ⟨.int .u64, 1, 8, [.int .u64 0]⟩ := fun _ => by kernel_rfl
theorem ti186 : TI 186 ⟨.struct #[⟨ "name", 9, 0, false, "", "bowline/ops", 0⟩, ⟨ "width", 3, 1, false, "", "bowline/ops", 16⟩], 2, 24, [.string ⟨#[]⟩, .int .i64 0]⟩ := fun _ => by kernel_rfl
theorem ti187 : TI 187 ⟨.array 2 186, 4, 48, [.string ⟨#[]⟩, .int .i64 0, .string ⟨#[]⟩, .int .i64 0]⟩ := fun _ => by kernel_rfl
theorem ti228 : TI 228 ⟨.struct #[⟨ "width", 3, 0, false, "", "bowline/wide", 0⟩, ⟨ "signed", 4, 1, false, "", "bowline/wide", 8⟩], 2, 16, [.int .i64 0, .bool false]⟩ := fun _ => by kernel_rfl
theorem ti230 : TI 230 ⟨.struct #[⟨ "integer", 228, 0, true, "", "bowline/wide", 0⟩, ⟨ "name", 9, 2, false, "", "bowline/wide", 16⟩], 3, 32, [.int .i64 0, .bool false, .string ⟨#[]⟩]⟩ := fun _ => by kernel_rfl
theorem ti263 : TI 263 ⟨.map 9 4, 1, 8, [.map none]⟩ := fun _ => by kernel_rfl
def tT := And.intro ti25 <| And.intro ti46 <| And.intro ti69 <| And.intro ti84 <| And.intro ti117 <| And.intro ti119 <| And.intro ti120 <| And.intro ti148 <| And.intro ti152 <| And.intro ti154 <| And.intro ti158 <| And.intro ti160 <| And.intro ti184 <| And.intro ti186 <| And.intro ti187 <| And.intro ti228 <| And.intro ti230 <| And.intro ti263 <| tTGa
end Go.D
