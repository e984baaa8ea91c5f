/- What pure calls answer on the way of awake(), as tables; awake() itself by a run of D in the kernel. Printed by awk.py. -/
import Derived.Test.YtmjdhbenplpinaaGreatDoorW0
namespace Go.D
open Go.Proofs
set_option maxRecDepth 100000
set_option linter.unusedVariables false
def isV (r : Option (Value × H)) (v : Value) : Bool := match r with | some p => veq 4 p.1 v | none => false
def obIn0 : List Value := [.int .i64 0]
def obOut0 : Value := .tuple ⟨[.agg ⟨[.string ⟨⟨[99, 111, 110, 115, 116]⟩⟩, .string ⟨⟨[110]⟩⟩, .int .i64 0, .int .i64 1, .func (.func 78) ⟨[]⟩ ⟨[]⟩]⟩, .bool true]⟩
def obIn1 : List Value := [.int .i64 11]
def obOut1 : Value := .tuple ⟨[.agg ⟨[.string ⟨⟨[108, 101, 97]⟩⟩, .string ⟨⟨[115]⟩⟩, .int .i64 1, .int .i64 1, .func (.func 80) ⟨[]⟩ ⟨[]⟩]⟩, .bool true]⟩
def obIn2 : List Value := [.int .i64 20]
def obOut2 : Value := .tuple ⟨[.agg ⟨[.string ⟨⟨[106, 117, 109, 112]⟩⟩, .string ⟨⟨[100]⟩⟩, .int .i64 0, .int .i64 0, .func (.func 80) ⟨[]⟩ ⟨[]⟩]⟩, .bool true]⟩
def obIn3 : List Value := [.int .i64 24]
def obOut3 : Value := .tuple ⟨[.agg ⟨[.string ⟨⟨[101, 110, 116, 101, 114]⟩⟩, .string ⟨⟨[80, 76, 70]⟩⟩, .int .i64 0, .int .i64 0, .func (.func 82) ⟨[]⟩ ⟨[]⟩]⟩, .bool true]⟩
def obIn4 : List Value := [.agg ⟨[.int .i64 24, .string ⟨⟨[]⟩⟩, .string ⟨⟨[]⟩⟩, .int .u64 2, .int .i64 2, .int .i64 0]⟩]
def obOut4 : Value := .tuple ⟨[.int .i64 4, .int .i64 0]⟩
def obIn5 : List Value := [.agg ⟨[.int .i64 2, .string ⟨⟨[]⟩⟩, .string ⟨⟨[]⟩⟩, .int .u64 0, .int .i64 0, .int .i64 0]⟩]
def obOut5 : Value := .tuple ⟨[.int .i64 2, .int .i64 0]⟩
def obIn6 : List Value := [.agg ⟨[.int .i64 2, .string ⟨⟨[]⟩⟩, .string ⟨⟨[]⟩⟩, .int .u64 1, .int .i64 0, .int .i64 0]⟩]
def obOut6 : Value := .tuple ⟨[.int .i64 2, .int .i64 0]⟩
def obIn7 : List Value := [.agg ⟨[.int .i64 7, .string ⟨⟨[117, 56]⟩⟩, .string ⟨⟨[]⟩⟩, .int .u64 9, .int .i64 0, .int .i64 0]⟩]
def obOut7 : Value := .tuple ⟨[.int .i64 3, .int .i64 0]⟩
def obIn8 : List Value := [.agg ⟨[.int .i64 25, .string ⟨⟨[]⟩⟩, .string ⟨⟨[]⟩⟩, .int .u64 1, .int .i64 0, .int .i64 0]⟩]
def obOut8 : Value := .tuple ⟨[.int .i64 2, .int .i64 0]⟩
def obIn9 : List Value := [.string ⟨⟨[117, 56]⟩⟩, .int .u64 100]
def obOut9 : Value := .int .u64 100
def obIn10 : List Value := [.string ⟨⟨[117, 56]⟩⟩, .int .u64 200]
def obOut10 : Value := .int .u64 200
def obIn11 : List Value := [.int .i64 9, .string ⟨⟨[117, 56]⟩⟩, .int .u64 200, .int .u64 100]
def obOut11 : Value := .tuple ⟨[.int .u64 44, .int .i64 (-1), .int .i64 0]⟩
def obIn12 : List Value := [.int .i64 10]
def obOut12 : Value := .tuple ⟨[.agg ⟨[.string ⟨⟨[115, 116, 111, 114, 101]⟩⟩, .string ⟨⟨[84, 115]⟩⟩, .int .i64 2, .int .i64 0, .func (.func 80) ⟨[]⟩ ⟨[]⟩]⟩, .bool true]⟩
def obIn13 : List Value := [.int .i64 9]
def obOut13 : Value := .tuple ⟨[.agg ⟨[.string ⟨⟨[108, 111, 97, 100]⟩⟩, .string ⟨⟨[84, 115]⟩⟩, .int .i64 1, .int .i64 1, .func (.func 80) ⟨[]⟩ ⟨[]⟩]⟩, .bool true]⟩
def obIn14 : List Value := [.agg ⟨[.int .i64 24, .string ⟨⟨[]⟩⟩, .string ⟨⟨[]⟩⟩, .int .u64 0, .int .i64 0, .int .i64 16]⟩]
def obOut14 : Value := .tuple ⟨[.int .i64 4, .int .i64 0]⟩
def obIn15 : List Value := [.agg ⟨[.int .i64 26, .string ⟨⟨[]⟩⟩, .string ⟨⟨[]⟩⟩, .int .u64 8, .int .i64 0, .int .i64 0]⟩]
def obOut15 : Value := .tuple ⟨[.int .i64 2, .int .i64 0]⟩
def obIn16 : List Value := [.agg ⟨[.int .i64 0, .string ⟨⟨[]⟩⟩, .string ⟨⟨[]⟩⟩, .int .u64 7, .int .i64 0, .int .i64 0]⟩]
def obOut16 : Value := .tuple ⟨[.int .i64 2, .int .i64 0]⟩
def obIn17 : List Value := [.agg ⟨[.int .i64 10, .string ⟨⟨[117, 54, 52]⟩⟩, .string ⟨⟨[]⟩⟩, .int .u64 0, .int .i64 0, .int .i64 0]⟩]
def obOut17 : Value := .tuple ⟨[.int .i64 3, .int .i64 0]⟩
def obIn18 : List Value := [.agg ⟨[.int .i64 9, .string ⟨⟨[117, 54, 52]⟩⟩, .string ⟨⟨[]⟩⟩, .int .u64 0, .int .i64 0, .int .i64 0]⟩]
def obOut18 : Value := .tuple ⟨[.int .i64 3, .int .i64 0]⟩
def obIn19 : List Value := [.string ⟨⟨[117, 54, 52]⟩⟩]
def obOut19 : Value := .tuple ⟨[.int .i64 8, .int .i64 0]⟩
def obIn20 : List Value := [.string ⟨⟨[117, 54, 52]⟩⟩, .int .u64 7]
def obOut20 : Value := .int .u64 7
def obIn21 : List Value := [.int .i64 5]
def obOut21 : Value := .tuple ⟨[.agg ⟨[.string ⟨⟨[100, 114, 111, 112]⟩⟩, .string ⟨⟨[]⟩⟩, .int .i64 1, .int .i64 0, .func (.func 78) ⟨[]⟩ ⟨[]⟩]⟩, .bool true]⟩
def obIn22 : List Value := [.agg ⟨[.int .i64 24, .string ⟨⟨[]⟩⟩, .string ⟨⟨[]⟩⟩, .int .u64 0, .int .i64 0, .int .i64 0]⟩]
def obOut22 : Value := .tuple ⟨[.int .i64 4, .int .i64 0]⟩
def obIn23 : List Value := [.agg ⟨[.int .i64 5, .string ⟨⟨[]⟩⟩, .string ⟨⟨[]⟩⟩, .int .u64 0, .int .i64 0, .int .i64 0]⟩]
def obOut23 : Value := .tuple ⟨[.int .i64 1, .int .i64 0]⟩
def obIn24 : List Value := [.agg ⟨[.int .i64 27, .string ⟨⟨[]⟩⟩, .string ⟨⟨[]⟩⟩, .int .u64 3, .int .i64 0, .int .i64 0]⟩]
def obOut24 : Value := .tuple ⟨[.int .i64 2, .int .i64 0]⟩
def obIn25 : List Value := [.int .u64 2, .int .i64 10]
def obOut25 : Value := .string ⟨⟨[50]⟩⟩
def obIn26 : List Value := [.int .u64 0, .int .i64 10]
def obOut26 : Value := .string ⟨⟨[48]⟩⟩
def obIn27 : List Value := [.int .u64 1, .int .i64 10]
def obOut27 : Value := .string ⟨⟨[49]⟩⟩
def obIn28 : List Value := [.int .u64 9, .int .i64 10]
def obOut28 : Value := .string ⟨⟨[57]⟩⟩
def obIn29 : List Value := [.agg ⟨[.int .i64 7, .string ⟨⟨[117, 56]⟩⟩, .string ⟨⟨[]⟩⟩, .int .u64 9, .int .i64 0, .int .i64 0]⟩]
def obOut29 : Value := .tuple ⟨[.int .i64 2, .int .i64 1, .int .i64 0]⟩
def obT23 : List (List Value × Value) := [(obIn0, obOut0), (obIn1, obOut1), (obIn2, obOut2), (obIn3, obOut3), (obIn12, obOut12), (obIn13, obOut13), (obIn21, obOut21)]
def obT11 : List (List Value × Value) := [(obIn4, obOut4), (obIn5, obOut5), (obIn6, obOut6), (obIn7, obOut7), (obIn8, obOut8), (obIn14, obOut14), (obIn15, obOut15), (obIn16, obOut16), (obIn17, obOut17), (obIn18, obOut18), (obIn22, obOut22), (obIn23, obOut23), (obIn24, obOut24)]
def obT184 : List (List Value × Value) := [(obIn9, obOut9), (obIn10, obOut10), (obIn20, obOut20)]
def obT186 : List (List Value × Value) := [(obIn11, obOut11)]
def obT187 : List (List Value × Value) := [(obIn19, obOut19)]
def obT51 : List (List Value × Value) := [(obIn25, obOut25), (obIn26, obOut26), (obIn27, obOut27), (obIn28, obOut28)]
def obT13 : List (List Value × Value) := [(obIn29, obOut29)]
def obT15 : List (List Value × Value) := [([.agg ⟨[.int .i64 0, .string ⟨⟨[]⟩⟩, .string ⟨⟨[]⟩⟩, .int .u64 300, .int .i64 0, .int .i64 0]⟩], .int .i64 0),
 ([.agg ⟨[.int .i64 11, .string ⟨⟨[]⟩⟩, .string ⟨⟨[]⟩⟩, .int .u64 0, .int .i64 (-3), .int .i64 0]⟩], .int .i64 0),
 ([.agg ⟨[.int .i64 20, .string ⟨⟨[]⟩⟩, .string ⟨⟨[]⟩⟩, .int .u64 0, .int .i64 (-5), .int .i64 0]⟩], .int .i64 0),
 ([.agg ⟨[.int .i64 24, .string ⟨⟨[]⟩⟩, .string ⟨⟨[]⟩⟩, .int .u64 2, .int .i64 2, .int .i64 0]⟩], .int .i64 0),
 ([.agg ⟨[.int .i64 2, .string ⟨⟨[]⟩⟩, .string ⟨⟨[]⟩⟩, .int .u64 0, .int .i64 0, .int .i64 0]⟩], .int .i64 0),
 ([.agg ⟨[.int .i64 2, .string ⟨⟨[]⟩⟩, .string ⟨⟨[]⟩⟩, .int .u64 1, .int .i64 0, .int .i64 0]⟩], .int .i64 0),
 ([.agg ⟨[.int .i64 7, .string ⟨⟨[117, 56]⟩⟩, .string ⟨⟨[]⟩⟩, .int .u64 9, .int .i64 0, .int .i64 0]⟩], .int .i64 0),
 ([.agg ⟨[.int .i64 25, .string ⟨⟨[]⟩⟩, .string ⟨⟨[]⟩⟩, .int .u64 1, .int .i64 0, .int .i64 0]⟩], .int .i64 0),
 ([.agg ⟨[.int .i64 24, .string ⟨⟨[]⟩⟩, .string ⟨⟨[]⟩⟩, .int .u64 0, .int .i64 0, .int .i64 16]⟩], .int .i64 0),
 ([.agg ⟨[.int .i64 26, .string ⟨⟨[]⟩⟩, .string ⟨⟨[]⟩⟩, .int .u64 8, .int .i64 0, .int .i64 0]⟩], .int .i64 0),
 ([.agg ⟨[.int .i64 0, .string ⟨⟨[]⟩⟩, .string ⟨⟨[]⟩⟩, .int .u64 7, .int .i64 0, .int .i64 0]⟩], .int .i64 0),
 ([.agg ⟨[.int .i64 10, .string ⟨⟨[117, 54, 52]⟩⟩, .string ⟨⟨[]⟩⟩, .int .u64 0, .int .i64 0, .int .i64 0]⟩], .int .i64 0),
 ([.agg ⟨[.int .i64 9, .string ⟨⟨[117, 54, 52]⟩⟩, .string ⟨⟨[]⟩⟩, .int .u64 0, .int .i64 0, .int .i64 0]⟩], .int .i64 0),
 ([.agg ⟨[.int .i64 24, .string ⟨⟨[]⟩⟩, .string ⟨⟨[]⟩⟩, .int .u64 0, .int .i64 0, .int .i64 0]⟩], .int .i64 0),
 ([.agg ⟨[.int .i64 5, .string ⟨⟨[]⟩⟩, .string ⟨⟨[]⟩⟩, .int .u64 0, .int .i64 0, .int .i64 0]⟩], .int .i64 0),
 ([.agg ⟨[.int .i64 27, .string ⟨⟨[]⟩⟩, .string ⟨⟨[]⟩⟩, .int .u64 3, .int .i64 0, .int .i64 0]⟩], .int .i64 0)]
def obT88 : List (List Value × Value) := [([.int .i64 (-3)], .int .u64 5),
 ([.int .i64 0], .int .u64 0)]
def obT60 : List (List Value × Value) := [([.string ⟨⟨[117, 56]⟩⟩], .tuple ⟨[.int .i64 8, .int .i64 0]⟩),
 ([.string ⟨⟨[117, 54, 52]⟩⟩], .tuple ⟨[.int .i64 64, .int .i64 0]⟩)]
def obT36 : List (List Value × Value) := [([.bool false, .int .i64 5], .int .i64 0),
 ([.bool false, .int .i64 3], .int .i64 0)]
def obT52 : List (List Value × Value) := [([.int .i64 8], .string ⟨⟨[56]⟩⟩),
 ([.int .i64 64], .string ⟨⟨[54, 52]⟩⟩),
 ([.int .i64 2], .string ⟨⟨[50]⟩⟩),
 ([.int .i64 0], .string ⟨⟨[48]⟩⟩)]
def TQ : List (Nat × Spec) := [(23, look obT23), (11, look obT11), (184, look obT184), (186, look obT186), (187, look obT187), (51, look obT51), (13, look obT13), (15, look obT15), (88, look obT88), (60, look obT60), (36, look obT36), (52, look obT52)]
theorem awakeRun : isV (runD (EV (tabL TQ)) 1000 5 [] ⟨17, .leaf⟩) (.bool true) = true := by kernel_rfl
end Go.D
