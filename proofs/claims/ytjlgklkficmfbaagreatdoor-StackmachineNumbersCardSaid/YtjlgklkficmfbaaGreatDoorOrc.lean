/- What pure calls answer on the way of awake(): each a run of D in the kernel. -/
import Derived.Test.YtjlgklkficmfbaaGreatDoorEnv
import Derived.Test.YtjlgklkficmfbaaGreatDoorDb
namespace Go.D
open Go.Proofs
set_option maxRecDepth 100000
def isV (r : Option (Value × H)) (v : Value) : Bool := match r with | some p => veq 4 p.1 v | none => false
def oaIn0 : List Value := [.agg ⟨[.int .i64 0, .string ⟨⟨[]⟩⟩, .string ⟨⟨[]⟩⟩, .int .u64 300, .int .i64 0, .int .i64 0]⟩]
def oaOut0 : Value := .int .i64 0
def oaIn1 : List Value := [.agg ⟨[.int .i64 11, .string ⟨⟨[]⟩⟩, .string ⟨⟨[]⟩⟩, .int .u64 0, .int .i64 (-3), .int .i64 0]⟩]
def oaOut1 : Value := .int .i64 0
def oaIn2 : List Value := [.agg ⟨[.int .i64 20, .string ⟨⟨[]⟩⟩, .string ⟨⟨[]⟩⟩, .int .u64 0, .int .i64 (-5), .int .i64 0]⟩]
def oaOut2 : Value := .int .i64 0
def oaIn3 : List Value := [.agg ⟨[.int .i64 24, .string ⟨⟨[]⟩⟩, .string ⟨⟨[]⟩⟩, .int .u64 2, .int .i64 2, .int .i64 0]⟩]
def oaOut3 : Value := .int .i64 0
def oaIn4 : List Value := [.agg ⟨[.int .i64 2, .string ⟨⟨[]⟩⟩, .string ⟨⟨[]⟩⟩, .int .u64 0, .int .i64 0, .int .i64 0]⟩]
def oaOut4 : Value := .int .i64 0
def oaIn5 : List Value := [.agg ⟨[.int .i64 2, .string ⟨⟨[]⟩⟩, .string ⟨⟨[]⟩⟩, .int .u64 1, .int .i64 0, .int .i64 0]⟩]
def oaOut5 : Value := .int .i64 0
def oaIn6 : List Value := [.agg ⟨[.int .i64 7, .string ⟨⟨[117, 56]⟩⟩, .string ⟨⟨[]⟩⟩, .int .u64 9, .int .i64 0, .int .i64 0]⟩]
def oaOut6 : Value := .int .i64 0
def oaIn7 : List Value := [.agg ⟨[.int .i64 25, .string ⟨⟨[]⟩⟩, .string ⟨⟨[]⟩⟩, .int .u64 1, .int .i64 0, .int .i64 0]⟩]
def oaOut7 : Value := .int .i64 0
def oaIn8 : List Value := [.agg ⟨[.int .i64 24, .string ⟨⟨[]⟩⟩, .string ⟨⟨[]⟩⟩, .int .u64 0, .int .i64 0, .int .i64 16]⟩]
def oaOut8 : Value := .int .i64 0
def oaIn9 : List Value := [.agg ⟨[.int .i64 26, .string ⟨⟨[]⟩⟩, .string ⟨⟨[]⟩⟩, .int .u64 8, .int .i64 0, .int .i64 0]⟩]
def oaOut9 : Value := .int .i64 0
def oaIn10 : List Value := [.agg ⟨[.int .i64 0, .string ⟨⟨[]⟩⟩, .string ⟨⟨[]⟩⟩, .int .u64 7, .int .i64 0, .int .i64 0]⟩]
def oaOut10 : Value := .int .i64 0
def oaIn11 : List Value := [.agg ⟨[.int .i64 10, .string ⟨⟨[117, 54, 52]⟩⟩, .string ⟨⟨[]⟩⟩, .int .u64 0, .int .i64 0, .int .i64 0]⟩]
def oaOut11 : Value := .int .i64 0
def oaIn12 : List Value := [.agg ⟨[.int .i64 9, .string ⟨⟨[117, 54, 52]⟩⟩, .string ⟨⟨[]⟩⟩, .int .u64 0, .int .i64 0, .int .i64 0]⟩]
def oaOut12 : Value := .int .i64 0
def oaIn13 : List Value := [.agg ⟨[.int .i64 24, .string ⟨⟨[]⟩⟩, .string ⟨⟨[]⟩⟩, .int .u64 0, .int .i64 0, .int .i64 0]⟩]
def oaOut13 : Value := .int .i64 0
def oaIn14 : List Value := [.agg ⟨[.int .i64 5, .string ⟨⟨[]⟩⟩, .string ⟨⟨[]⟩⟩, .int .u64 0, .int .i64 0, .int .i64 0]⟩]
def oaOut14 : Value := .int .i64 0
def oaIn15 : List Value := [.agg ⟨[.int .i64 27, .string ⟨⟨[]⟩⟩, .string ⟨⟨[]⟩⟩, .int .u64 3, .int .i64 0, .int .i64 0]⟩]
def oaOut15 : Value := .int .i64 0
def oaTab26 : List (List Value × Value) := [(oaIn0, oaOut0), (oaIn1, oaOut1), (oaIn2, oaOut2), (oaIn3, oaOut3), (oaIn4, oaOut4), (oaIn5, oaOut5), (oaIn6, oaOut6), (oaIn7, oaOut7), (oaIn8, oaOut8), (oaIn9, oaOut9), (oaIn10, oaOut10), (oaIn11, oaOut11), (oaIn12, oaOut12), (oaIn13, oaOut13), (oaIn14, oaOut14), (oaIn15, oaOut15)]
def oaTab (f : Nat) (args : List Value) : Option Value := bif Nat.beq f 26 then look oaTab26 args else none
theorem oaRun0 : isV (runD E0 1000 26 oaIn0 ⟨E0.ng, .leaf⟩) oaOut0 = true := by kernel_rfl
theorem oaRun1 : isV (runD E0 1000 26 oaIn1 ⟨E0.ng, .leaf⟩) oaOut1 = true := by kernel_rfl
theorem oaRun2 : isV (runD E0 1000 26 oaIn2 ⟨E0.ng, .leaf⟩) oaOut2 = true := by kernel_rfl
theorem oaRun3 : isV (runD E0 1000 26 oaIn3 ⟨E0.ng, .leaf⟩) oaOut3 = true := by kernel_rfl
theorem oaRun4 : isV (runD E0 1000 26 oaIn4 ⟨E0.ng, .leaf⟩) oaOut4 = true := by kernel_rfl
theorem oaRun5 : isV (runD E0 1000 26 oaIn5 ⟨E0.ng, .leaf⟩) oaOut5 = true := by kernel_rfl
theorem oaRun6 : isV (runD E0 1000 26 oaIn6 ⟨E0.ng, .leaf⟩) oaOut6 = true := by kernel_rfl
theorem oaRun7 : isV (runD E0 1000 26 oaIn7 ⟨E0.ng, .leaf⟩) oaOut7 = true := by kernel_rfl
theorem oaRun8 : isV (runD E0 1000 26 oaIn8 ⟨E0.ng, .leaf⟩) oaOut8 = true := by kernel_rfl
theorem oaRun9 : isV (runD E0 1000 26 oaIn9 ⟨E0.ng, .leaf⟩) oaOut9 = true := by kernel_rfl
theorem oaRun10 : isV (runD E0 1000 26 oaIn10 ⟨E0.ng, .leaf⟩) oaOut10 = true := by kernel_rfl
theorem oaRun11 : isV (runD E0 1000 26 oaIn11 ⟨E0.ng, .leaf⟩) oaOut11 = true := by kernel_rfl
theorem oaRun12 : isV (runD E0 1000 26 oaIn12 ⟨E0.ng, .leaf⟩) oaOut12 = true := by kernel_rfl
theorem oaRun13 : isV (runD E0 1000 26 oaIn13 ⟨E0.ng, .leaf⟩) oaOut13 = true := by kernel_rfl
theorem oaRun14 : isV (runD E0 1000 26 oaIn14 ⟨E0.ng, .leaf⟩) oaOut14 = true := by kernel_rfl
theorem oaRun15 : isV (runD E0 1000 26 oaIn15 ⟨E0.ng, .leaf⟩) oaOut15 = true := by kernel_rfl
noncomputable def E1 : Env := over E0 oaTab
def obIn0 : List Value := [.int .i64 0]
def obOut0 : Value := .tuple ⟨[.agg ⟨[.string ⟨⟨[99, 111, 110, 115, 116]⟩⟩, .string ⟨⟨[110]⟩⟩, .int .i64 0, .int .i64 1, .func (.func 56) ⟨[]⟩ ⟨[]⟩]⟩, .bool true]⟩
def obIn1 : List Value := [.int .i64 11]
def obOut1 : Value := .tuple ⟨[.agg ⟨[.string ⟨⟨[108, 101, 97]⟩⟩, .string ⟨⟨[115]⟩⟩, .int .i64 1, .int .i64 1, .func (.func 58) ⟨[]⟩ ⟨[]⟩]⟩, .bool true]⟩
def obIn2 : List Value := [.int .i64 20]
def obOut2 : Value := .tuple ⟨[.agg ⟨[.string ⟨⟨[106, 117, 109, 112]⟩⟩, .string ⟨⟨[100]⟩⟩, .int .i64 0, .int .i64 0, .func (.func 58) ⟨[]⟩ ⟨[]⟩]⟩, .bool true]⟩
def obIn3 : List Value := [.int .i64 24]
def obOut3 : Value := .tuple ⟨[.agg ⟨[.string ⟨⟨[101, 110, 116, 101, 114]⟩⟩, .string ⟨⟨[80, 76, 70]⟩⟩, .int .i64 0, .int .i64 0, .func (.func 60) ⟨[]⟩ ⟨[]⟩]⟩, .bool true]⟩
def obIn4 : List Value := [.string ⟨⟨[117, 56]⟩⟩]
def obOut4 : Value := .tuple ⟨[.int .i64 8, .int .i64 0]⟩
def obIn5 : List Value := [.agg ⟨[.int .i64 24, .string ⟨⟨[]⟩⟩, .string ⟨⟨[]⟩⟩, .int .u64 2, .int .i64 2, .int .i64 0]⟩]
def obOut5 : Value := .tuple ⟨[.int .i64 4, .int .i64 0]⟩
def obIn6 : List Value := [.agg ⟨[.int .i64 2, .string ⟨⟨[]⟩⟩, .string ⟨⟨[]⟩⟩, .int .u64 0, .int .i64 0, .int .i64 0]⟩]
def obOut6 : Value := .tuple ⟨[.int .i64 2, .int .i64 0]⟩
def obIn7 : List Value := [.agg ⟨[.int .i64 2, .string ⟨⟨[]⟩⟩, .string ⟨⟨[]⟩⟩, .int .u64 1, .int .i64 0, .int .i64 0]⟩]
def obOut7 : Value := .tuple ⟨[.int .i64 2, .int .i64 0]⟩
def obIn8 : List Value := [.agg ⟨[.int .i64 7, .string ⟨⟨[117, 56]⟩⟩, .string ⟨⟨[]⟩⟩, .int .u64 9, .int .i64 0, .int .i64 0]⟩]
def obOut8 : Value := .tuple ⟨[.int .i64 3, .int .i64 0]⟩
def obIn9 : List Value := [.agg ⟨[.int .i64 25, .string ⟨⟨[]⟩⟩, .string ⟨⟨[]⟩⟩, .int .u64 1, .int .i64 0, .int .i64 0]⟩]
def obOut9 : Value := .tuple ⟨[.int .i64 2, .int .i64 0]⟩
def obIn10 : List Value := [.string ⟨⟨[117, 56]⟩⟩, .int .u64 100]
def obOut10 : Value := .int .u64 100
def obIn11 : List Value := [.string ⟨⟨[117, 56]⟩⟩, .int .u64 200]
def obOut11 : Value := .int .u64 200
def obIn12 : List Value := [.int .i64 9, .string ⟨⟨[117, 56]⟩⟩, .int .u64 200, .int .u64 100]
def obOut12 : Value := .tuple ⟨[.int .u64 44, .int .i64 (-1), .int .i64 0]⟩
def obIn13 : List Value := [.int .i64 10]
def obOut13 : Value := .tuple ⟨[.agg ⟨[.string ⟨⟨[115, 116, 111, 114, 101]⟩⟩, .string ⟨⟨[84, 115]⟩⟩, .int .i64 2, .int .i64 0, .func (.func 58) ⟨[]⟩ ⟨[]⟩]⟩, .bool true]⟩
def obIn14 : List Value := [.string ⟨⟨[117, 54, 52]⟩⟩]
def obOut14 : Value := .tuple ⟨[.int .i64 64, .int .i64 0]⟩
def obIn15 : List Value := [.int .i64 9]
def obOut15 : Value := .tuple ⟨[.agg ⟨[.string ⟨⟨[108, 111, 97, 100]⟩⟩, .string ⟨⟨[84, 115]⟩⟩, .int .i64 1, .int .i64 1, .func (.func 58) ⟨[]⟩ ⟨[]⟩]⟩, .bool true]⟩
def obIn16 : List Value := [.agg ⟨[.int .i64 24, .string ⟨⟨[]⟩⟩, .string ⟨⟨[]⟩⟩, .int .u64 0, .int .i64 0, .int .i64 16]⟩]
def obOut16 : Value := .tuple ⟨[.int .i64 4, .int .i64 0]⟩
def obIn17 : List Value := [.agg ⟨[.int .i64 26, .string ⟨⟨[]⟩⟩, .string ⟨⟨[]⟩⟩, .int .u64 8, .int .i64 0, .int .i64 0]⟩]
def obOut17 : Value := .tuple ⟨[.int .i64 2, .int .i64 0]⟩
def obIn18 : List Value := [.agg ⟨[.int .i64 0, .string ⟨⟨[]⟩⟩, .string ⟨⟨[]⟩⟩, .int .u64 7, .int .i64 0, .int .i64 0]⟩]
def obOut18 : Value := .tuple ⟨[.int .i64 2, .int .i64 0]⟩
def obIn19 : List Value := [.agg ⟨[.int .i64 10, .string ⟨⟨[117, 54, 52]⟩⟩, .string ⟨⟨[]⟩⟩, .int .u64 0, .int .i64 0, .int .i64 0]⟩]
def obOut19 : Value := .tuple ⟨[.int .i64 3, .int .i64 0]⟩
def obIn20 : List Value := [.agg ⟨[.int .i64 9, .string ⟨⟨[117, 54, 52]⟩⟩, .string ⟨⟨[]⟩⟩, .int .u64 0, .int .i64 0, .int .i64 0]⟩]
def obOut20 : Value := .tuple ⟨[.int .i64 3, .int .i64 0]⟩
def obIn21 : List Value := [.string ⟨⟨[117, 54, 52]⟩⟩]
def obOut21 : Value := .tuple ⟨[.int .i64 8, .int .i64 0]⟩
def obIn22 : List Value := [.string ⟨⟨[117, 54, 52]⟩⟩, .int .u64 7]
def obOut22 : Value := .int .u64 7
def obIn23 : List Value := [.int .i64 5]
def obOut23 : Value := .tuple ⟨[.agg ⟨[.string ⟨⟨[100, 114, 111, 112]⟩⟩, .string ⟨⟨[]⟩⟩, .int .i64 1, .int .i64 0, .func (.func 56) ⟨[]⟩ ⟨[]⟩]⟩, .bool true]⟩
def obIn24 : List Value := [.agg ⟨[.int .i64 24, .string ⟨⟨[]⟩⟩, .string ⟨⟨[]⟩⟩, .int .u64 0, .int .i64 0, .int .i64 0]⟩]
def obOut24 : Value := .tuple ⟨[.int .i64 4, .int .i64 0]⟩
def obIn25 : List Value := [.agg ⟨[.int .i64 5, .string ⟨⟨[]⟩⟩, .string ⟨⟨[]⟩⟩, .int .u64 0, .int .i64 0, .int .i64 0]⟩]
def obOut25 : Value := .tuple ⟨[.int .i64 1, .int .i64 0]⟩
def obIn26 : List Value := [.agg ⟨[.int .i64 27, .string ⟨⟨[]⟩⟩, .string ⟨⟨[]⟩⟩, .int .u64 3, .int .i64 0, .int .i64 0]⟩]
def obOut26 : Value := .tuple ⟨[.int .i64 2, .int .i64 0]⟩
def obIn27 : List Value := [.agg ⟨[.int .i64 7, .string ⟨⟨[117, 56]⟩⟩, .string ⟨⟨[]⟩⟩, .int .u64 9, .int .i64 0, .int .i64 0]⟩]
def obOut27 : Value := .tuple ⟨[.int .i64 2, .int .i64 1, .int .i64 0]⟩
def obTab22 : List (List Value × Value) := [(obIn0, obOut0), (obIn1, obOut1), (obIn2, obOut2), (obIn3, obOut3), (obIn13, obOut13), (obIn15, obOut15), (obIn23, obOut23)]
def obTab46 : List (List Value × Value) := [(obIn4, obOut4), (obIn14, obOut14)]
def obTab21 : List (List Value × Value) := [(obIn5, obOut5), (obIn6, obOut6), (obIn7, obOut7), (obIn8, obOut8), (obIn9, obOut9), (obIn16, obOut16), (obIn17, obOut17), (obIn18, obOut18), (obIn19, obOut19), (obIn20, obOut20), (obIn24, obOut24), (obIn25, obOut25), (obIn26, obOut26)]
def obTab95 : List (List Value × Value) := [(obIn10, obOut10), (obIn11, obOut11), (obIn22, obOut22)]
def obTab97 : List (List Value × Value) := [(obIn12, obOut12)]
def obTab98 : List (List Value × Value) := [(obIn21, obOut21)]
def obTab14 : List (List Value × Value) := [(obIn27, obOut27)]
def obTab (f : Nat) (args : List Value) : Option Value := bif Nat.beq f 22 then look obTab22 args else bif Nat.beq f 46 then look obTab46 args else bif Nat.beq f 21 then look obTab21 args else bif Nat.beq f 95 then look obTab95 args else bif Nat.beq f 97 then look obTab97 args else bif Nat.beq f 98 then look obTab98 args else bif Nat.beq f 14 then look obTab14 args else none
theorem obRun0 : isV (runD E1 1000 22 obIn0 ⟨E1.ng, .leaf⟩) obOut0 = true := by kernel_rfl
theorem obRun1 : isV (runD E1 1000 22 obIn1 ⟨E1.ng, .leaf⟩) obOut1 = true := by kernel_rfl
theorem obRun2 : isV (runD E1 1000 22 obIn2 ⟨E1.ng, .leaf⟩) obOut2 = true := by kernel_rfl
theorem obRun3 : isV (runD E1 1000 22 obIn3 ⟨E1.ng, .leaf⟩) obOut3 = true := by kernel_rfl
theorem obRun4 : isV (runD E1 1000 46 obIn4 ⟨E1.ng, .leaf⟩) obOut4 = true := by kernel_rfl
theorem obRun5 : isV (runD E1 1000 21 obIn5 ⟨E1.ng, .leaf⟩) obOut5 = true := by kernel_rfl
theorem obRun6 : isV (runD E1 1000 21 obIn6 ⟨E1.ng, .leaf⟩) obOut6 = true := by kernel_rfl
theorem obRun7 : isV (runD E1 1000 21 obIn7 ⟨E1.ng, .leaf⟩) obOut7 = true := by kernel_rfl
theorem obRun8 : isV (runD E1 1000 21 obIn8 ⟨E1.ng, .leaf⟩) obOut8 = true := by kernel_rfl
theorem obRun9 : isV (runD E1 1000 21 obIn9 ⟨E1.ng, .leaf⟩) obOut9 = true := by kernel_rfl
theorem obRun10 : isV (runD E1 1000 95 obIn10 ⟨E1.ng, .leaf⟩) obOut10 = true := by kernel_rfl
theorem obRun11 : isV (runD E1 1000 95 obIn11 ⟨E1.ng, .leaf⟩) obOut11 = true := by kernel_rfl
theorem obRun12 : isV (runD E1 1000 97 obIn12 ⟨E1.ng, .leaf⟩) obOut12 = true := by kernel_rfl
theorem obRun13 : isV (runD E1 1000 22 obIn13 ⟨E1.ng, .leaf⟩) obOut13 = true := by kernel_rfl
theorem obRun14 : isV (runD E1 1000 46 obIn14 ⟨E1.ng, .leaf⟩) obOut14 = true := by kernel_rfl
theorem obRun15 : isV (runD E1 1000 22 obIn15 ⟨E1.ng, .leaf⟩) obOut15 = true := by kernel_rfl
theorem obRun16 : isV (runD E1 1000 21 obIn16 ⟨E1.ng, .leaf⟩) obOut16 = true := by kernel_rfl
theorem obRun17 : isV (runD E1 1000 21 obIn17 ⟨E1.ng, .leaf⟩) obOut17 = true := by kernel_rfl
theorem obRun18 : isV (runD E1 1000 21 obIn18 ⟨E1.ng, .leaf⟩) obOut18 = true := by kernel_rfl
theorem obRun19 : isV (runD E1 1000 21 obIn19 ⟨E1.ng, .leaf⟩) obOut19 = true := by kernel_rfl
theorem obRun20 : isV (runD E1 1000 21 obIn20 ⟨E1.ng, .leaf⟩) obOut20 = true := by kernel_rfl
theorem obRun21 : isV (runD E1 1000 98 obIn21 ⟨E1.ng, .leaf⟩) obOut21 = true := by kernel_rfl
theorem obRun22 : isV (runD E1 1000 95 obIn22 ⟨E1.ng, .leaf⟩) obOut22 = true := by kernel_rfl
theorem obRun23 : isV (runD E1 1000 22 obIn23 ⟨E1.ng, .leaf⟩) obOut23 = true := by kernel_rfl
theorem obRun24 : isV (runD E1 1000 21 obIn24 ⟨E1.ng, .leaf⟩) obOut24 = true := by kernel_rfl
theorem obRun25 : isV (runD E1 1000 21 obIn25 ⟨E1.ng, .leaf⟩) obOut25 = true := by kernel_rfl
theorem obRun26 : isV (runD E1 1000 21 obIn26 ⟨E1.ng, .leaf⟩) obOut26 = true := by kernel_rfl
theorem obRun27 : isV (runD E1 1000 14 obIn27 ⟨E1.ng, .leaf⟩) obOut27 = true := by kernel_rfl
noncomputable def E2 : Env := over E1 obTab
end Go.D
