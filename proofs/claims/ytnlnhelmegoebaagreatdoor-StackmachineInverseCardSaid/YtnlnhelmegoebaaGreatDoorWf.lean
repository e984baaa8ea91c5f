/- What pure calls answer on the way of awake(), each by a run of D in the kernel; then awake() itself. Printed by awk.py. -/
import Derived.Test.YtnlnhelmegoebaaGreatDoorWe
namespace Go.D
open Go.Proofs
set_option maxRecDepth 100000
set_option linter.unusedVariables false
def isV (r : Option (Value × H)) (v : Value) : Bool := match r with | some p => veq 4 p.1 v | none => false
theorem Fine.runs {T : List (Nat × Spec)} (hT : Fine T) {f : Nat} {F : Func} {l : List (List Value × Value)} (hf : E0.fn f = some F) (hc : E0.chk f = false)
    (hl : ∀ p ∈ l, (callExt (EV (tabL T)) f p.1).isNone = true ∧ p.1.all (afree 4) = true ∧ afree 4 p.2 = true ∧ isV (runD (EV (tabL T)) 1000 f p.1 ⟨17, .leaf⟩) p.2 = true) : Fine ((f, look l) :: T) :=
  hT.cons fun args v hv => by
    obtain ⟨a, b, c, d⟩ := hl _ (look_mem hv)
    have ho : outV (runD (EV (tabL T)) 1000 f args ⟨(EV (tabL T)).ng, .leaf⟩) = some v := by
      show outV (runD (EV (tabL T)) 1000 f args ⟨17, .leaf⟩) = some v
      unfold isV at d
      cases hr : runD (EV (tabL T)) 1000 f args ⟨17, .leaf⟩ with
      | none => rw [hr] at d; cases d
      | some r =>
        rw [hr] at d
        exact congrArg some (veq_eq 4 r.1 v d)
    exact (orc_of_run hT.ok hf hc (Option.isNone_iff_eq_none.1 a) b c ho).over
def obIn0 : List Value := [.int .i64 0]
def obOut0 : Value := .tuple ⟨[.agg ⟨[.string ⟨⟨[99, 111, 110, 115, 116]⟩⟩, .string ⟨⟨[110]⟩⟩, .int .i64 0, .int .i64 1, .func (.func 68) ⟨[]⟩ ⟨[]⟩]⟩, .bool true]⟩
theorem obRun0 : isV (runD (EV (tabL TP)) 1000 27 obIn0 ⟨17, .leaf⟩) obOut0 = true := by kernel_rfl
def obIn1 : List Value := [.int .i64 11]
def obOut1 : Value := .tuple ⟨[.agg ⟨[.string ⟨⟨[108, 101, 97]⟩⟩, .string ⟨⟨[115]⟩⟩, .int .i64 1, .int .i64 1, .func (.func 70) ⟨[]⟩ ⟨[]⟩]⟩, .bool true]⟩
theorem obRun1 : isV (runD (EV (tabL TP)) 1000 27 obIn1 ⟨17, .leaf⟩) obOut1 = true := by kernel_rfl
def obIn2 : List Value := [.int .i64 20]
def obOut2 : Value := .tuple ⟨[.agg ⟨[.string ⟨⟨[106, 117, 109, 112]⟩⟩, .string ⟨⟨[100]⟩⟩, .int .i64 0, .int .i64 0, .func (.func 70) ⟨[]⟩ ⟨[]⟩]⟩, .bool true]⟩
theorem obRun2 : isV (runD (EV (tabL TP)) 1000 27 obIn2 ⟨17, .leaf⟩) obOut2 = true := by kernel_rfl
def obIn3 : List Value := [.int .i64 24]
def obOut3 : Value := .tuple ⟨[.agg ⟨[.string ⟨⟨[101, 110, 116, 101, 114]⟩⟩, .string ⟨⟨[80, 76, 70]⟩⟩, .int .i64 0, .int .i64 0, .func (.func 72) ⟨[]⟩ ⟨[]⟩]⟩, .bool true]⟩
theorem obRun3 : isV (runD (EV (tabL TP)) 1000 27 obIn3 ⟨17, .leaf⟩) obOut3 = true := by kernel_rfl
def obIn4 : List Value := [.agg ⟨[.int .i64 24, .string ⟨⟨[]⟩⟩, .string ⟨⟨[]⟩⟩, .int .u64 2, .int .i64 2, .int .i64 0]⟩]
def obOut4 : Value := .tuple ⟨[.int .i64 4, .int .i64 0]⟩
theorem obRun4 : isV (runD (EV (tabL TP)) 1000 26 obIn4 ⟨17, .leaf⟩) obOut4 = true := by kernel_rfl
def obIn5 : List Value := [.agg ⟨[.int .i64 2, .string ⟨⟨[]⟩⟩, .string ⟨⟨[]⟩⟩, .int .u64 0, .int .i64 0, .int .i64 0]⟩]
def obOut5 : Value := .tuple ⟨[.int .i64 2, .int .i64 0]⟩
theorem obRun5 : isV (runD (EV (tabL TP)) 1000 26 obIn5 ⟨17, .leaf⟩) obOut5 = true := by kernel_rfl
def obIn6 : List Value := [.agg ⟨[.int .i64 2, .string ⟨⟨[]⟩⟩, .string ⟨⟨[]⟩⟩, .int .u64 1, .int .i64 0, .int .i64 0]⟩]
def obOut6 : Value := .tuple ⟨[.int .i64 2, .int .i64 0]⟩
theorem obRun6 : isV (runD (EV (tabL TP)) 1000 26 obIn6 ⟨17, .leaf⟩) obOut6 = true := by kernel_rfl
def obIn7 : List Value := [.agg ⟨[.int .i64 7, .string ⟨⟨[117, 56]⟩⟩, .string ⟨⟨[]⟩⟩, .int .u64 9, .int .i64 0, .int .i64 0]⟩]
def obOut7 : Value := .tuple ⟨[.int .i64 3, .int .i64 0]⟩
theorem obRun7 : isV (runD (EV (tabL TP)) 1000 26 obIn7 ⟨17, .leaf⟩) obOut7 = true := by kernel_rfl
def obIn8 : List Value := [.agg ⟨[.int .i64 25, .string ⟨⟨[]⟩⟩, .string ⟨⟨[]⟩⟩, .int .u64 1, .int .i64 0, .int .i64 0]⟩]
def obOut8 : Value := .tuple ⟨[.int .i64 2, .int .i64 0]⟩
theorem obRun8 : isV (runD (EV (tabL TP)) 1000 26 obIn8 ⟨17, .leaf⟩) obOut8 = true := by kernel_rfl
def obIn9 : List Value := [.string ⟨⟨[117, 56]⟩⟩, .int .u64 100]
def obOut9 : Value := .int .u64 100
theorem obRun9 : isV (runD (EV (tabL TP)) 1000 106 obIn9 ⟨17, .leaf⟩) obOut9 = true := by kernel_rfl
def obIn10 : List Value := [.string ⟨⟨[117, 56]⟩⟩, .int .u64 200]
def obOut10 : Value := .int .u64 200
theorem obRun10 : isV (runD (EV (tabL TP)) 1000 106 obIn10 ⟨17, .leaf⟩) obOut10 = true := by kernel_rfl
def obIn11 : List Value := [.int .i64 9, .string ⟨⟨[117, 56]⟩⟩, .int .u64 200, .int .u64 100]
def obOut11 : Value := .tuple ⟨[.int .u64 44, .int .i64 (-1), .int .i64 0]⟩
theorem obRun11 : isV (runD (EV (tabL TP)) 1000 108 obIn11 ⟨17, .leaf⟩) obOut11 = true := by kernel_rfl
def obIn12 : List Value := [.int .i64 10]
def obOut12 : Value := .tuple ⟨[.agg ⟨[.string ⟨⟨[115, 116, 111, 114, 101]⟩⟩, .string ⟨⟨[84, 115]⟩⟩, .int .i64 2, .int .i64 0, .func (.func 70) ⟨[]⟩ ⟨[]⟩]⟩, .bool true]⟩
theorem obRun12 : isV (runD (EV (tabL TP)) 1000 27 obIn12 ⟨17, .leaf⟩) obOut12 = true := by kernel_rfl
def obIn13 : List Value := [.int .i64 9]
def obOut13 : Value := .tuple ⟨[.agg ⟨[.string ⟨⟨[108, 111, 97, 100]⟩⟩, .string ⟨⟨[84, 115]⟩⟩, .int .i64 1, .int .i64 1, .func (.func 70) ⟨[]⟩ ⟨[]⟩]⟩, .bool true]⟩
theorem obRun13 : isV (runD (EV (tabL TP)) 1000 27 obIn13 ⟨17, .leaf⟩) obOut13 = true := by kernel_rfl
def obIn14 : List Value := [.agg ⟨[.int .i64 24, .string ⟨⟨[]⟩⟩, .string ⟨⟨[]⟩⟩, .int .u64 0, .int .i64 0, .int .i64 16]⟩]
def obOut14 : Value := .tuple ⟨[.int .i64 4, .int .i64 0]⟩
theorem obRun14 : isV (runD (EV (tabL TP)) 1000 26 obIn14 ⟨17, .leaf⟩) obOut14 = true := by kernel_rfl
def obIn15 : List Value := [.agg ⟨[.int .i64 26, .string ⟨⟨[]⟩⟩, .string ⟨⟨[]⟩⟩, .int .u64 8, .int .i64 0, .int .i64 0]⟩]
def obOut15 : Value := .tuple ⟨[.int .i64 2, .int .i64 0]⟩
theorem obRun15 : isV (runD (EV (tabL TP)) 1000 26 obIn15 ⟨17, .leaf⟩) obOut15 = true := by kernel_rfl
def obIn16 : List Value := [.agg ⟨[.int .i64 0, .string ⟨⟨[]⟩⟩, .string ⟨⟨[]⟩⟩, .int .u64 7, .int .i64 0, .int .i64 0]⟩]
def obOut16 : Value := .tuple ⟨[.int .i64 2, .int .i64 0]⟩
theorem obRun16 : isV (runD (EV (tabL TP)) 1000 26 obIn16 ⟨17, .leaf⟩) obOut16 = true := by kernel_rfl
def obIn17 : List Value := [.agg ⟨[.int .i64 10, .string ⟨⟨[117, 54, 52]⟩⟩, .string ⟨⟨[]⟩⟩, .int .u64 0, .int .i64 0, .int .i64 0]⟩]
def obOut17 : Value := .tuple ⟨[.int .i64 3, .int .i64 0]⟩
theorem obRun17 : isV (runD (EV (tabL TP)) 1000 26 obIn17 ⟨17, .leaf⟩) obOut17 = true := by kernel_rfl
def obIn18 : List Value := [.agg ⟨[.int .i64 9, .string ⟨⟨[117, 54, 52]⟩⟩, .string ⟨⟨[]⟩⟩, .int .u64 0, .int .i64 0, .int .i64 0]⟩]
def obOut18 : Value := .tuple ⟨[.int .i64 3, .int .i64 0]⟩
theorem obRun18 : isV (runD (EV (tabL TP)) 1000 26 obIn18 ⟨17, .leaf⟩) obOut18 = true := by kernel_rfl
def obIn19 : List Value := [.string ⟨⟨[117, 54, 52]⟩⟩]
def obOut19 : Value := .tuple ⟨[.int .i64 8, .int .i64 0]⟩
theorem obRun19 : isV (runD (EV (tabL TP)) 1000 109 obIn19 ⟨17, .leaf⟩) obOut19 = true := by kernel_rfl
def obIn20 : List Value := [.string ⟨⟨[117, 54, 52]⟩⟩, .int .u64 7]
def obOut20 : Value := .int .u64 7
theorem obRun20 : isV (runD (EV (tabL TP)) 1000 106 obIn20 ⟨17, .leaf⟩) obOut20 = true := by kernel_rfl
def obIn21 : List Value := [.int .i64 5]
def obOut21 : Value := .tuple ⟨[.agg ⟨[.string ⟨⟨[100, 114, 111, 112]⟩⟩, .string ⟨⟨[]⟩⟩, .int .i64 1, .int .i64 0, .func (.func 68) ⟨[]⟩ ⟨[]⟩]⟩, .bool true]⟩
theorem obRun21 : isV (runD (EV (tabL TP)) 1000 27 obIn21 ⟨17, .leaf⟩) obOut21 = true := by kernel_rfl
def obIn22 : List Value := [.agg ⟨[.int .i64 24, .string ⟨⟨[]⟩⟩, .string ⟨⟨[]⟩⟩, .int .u64 0, .int .i64 0, .int .i64 0]⟩]
def obOut22 : Value := .tuple ⟨[.int .i64 4, .int .i64 0]⟩
theorem obRun22 : isV (runD (EV (tabL TP)) 1000 26 obIn22 ⟨17, .leaf⟩) obOut22 = true := by kernel_rfl
def obIn23 : List Value := [.agg ⟨[.int .i64 5, .string ⟨⟨[]⟩⟩, .string ⟨⟨[]⟩⟩, .int .u64 0, .int .i64 0, .int .i64 0]⟩]
def obOut23 : Value := .tuple ⟨[.int .i64 1, .int .i64 0]⟩
theorem obRun23 : isV (runD (EV (tabL TP)) 1000 26 obIn23 ⟨17, .leaf⟩) obOut23 = true := by kernel_rfl
def obIn24 : List Value := [.agg ⟨[.int .i64 27, .string ⟨⟨[]⟩⟩, .string ⟨⟨[]⟩⟩, .int .u64 3, .int .i64 0, .int .i64 0]⟩]
def obOut24 : Value := .tuple ⟨[.int .i64 2, .int .i64 0]⟩
theorem obRun24 : isV (runD (EV (tabL TP)) 1000 26 obIn24 ⟨17, .leaf⟩) obOut24 = true := by kernel_rfl
def obIn25 : List Value := [.int .u64 2, .int .i64 10]
def obOut25 : Value := .string ⟨⟨[50]⟩⟩
theorem obRun25 : isV (runD (EV (tabL TP)) 1000 47 obIn25 ⟨17, .leaf⟩) obOut25 = true := by kernel_rfl
def obIn26 : List Value := [.int .u64 0, .int .i64 10]
def obOut26 : Value := .string ⟨⟨[48]⟩⟩
theorem obRun26 : isV (runD (EV (tabL TP)) 1000 47 obIn26 ⟨17, .leaf⟩) obOut26 = true := by kernel_rfl
def obIn27 : List Value := [.int .u64 1, .int .i64 10]
def obOut27 : Value := .string ⟨⟨[49]⟩⟩
theorem obRun27 : isV (runD (EV (tabL TP)) 1000 47 obIn27 ⟨17, .leaf⟩) obOut27 = true := by kernel_rfl
def obIn28 : List Value := [.int .u64 9, .int .i64 10]
def obOut28 : Value := .string ⟨⟨[57]⟩⟩
theorem obRun28 : isV (runD (EV (tabL TP)) 1000 47 obIn28 ⟨17, .leaf⟩) obOut28 = true := by kernel_rfl
def obIn29 : List Value := [.agg ⟨[.int .i64 7, .string ⟨⟨[117, 56]⟩⟩, .string ⟨⟨[]⟩⟩, .int .u64 9, .int .i64 0, .int .i64 0]⟩]
def obOut29 : Value := .tuple ⟨[.int .i64 2, .int .i64 1, .int .i64 0]⟩
theorem obRun29 : isV (runD (EV (tabL TP)) 1000 18 obIn29 ⟨17, .leaf⟩) obOut29 = true := by kernel_rfl
def obT27 : List (List Value × Value) := [(obIn0, obOut0), (obIn1, obOut1), (obIn2, obOut2), (obIn3, obOut3), (obIn12, obOut12), (obIn13, obOut13), (obIn21, obOut21)]
theorem obF27 : Fine ((27, look obT27) :: TP) := FP.runs (F := Tryz.f27) (by kernel_rfl) rfl (by
  intro p hp
  unfold obT27 at hp
  rcases List.mem_cons.1 hp with rfl | hp
  · exact ⟨by kernel_rfl, by kernel_rfl, by kernel_rfl, obRun0⟩
  rcases List.mem_cons.1 hp with rfl | hp
  · exact ⟨by kernel_rfl, by kernel_rfl, by kernel_rfl, obRun1⟩
  rcases List.mem_cons.1 hp with rfl | hp
  · exact ⟨by kernel_rfl, by kernel_rfl, by kernel_rfl, obRun2⟩
  rcases List.mem_cons.1 hp with rfl | hp
  · exact ⟨by kernel_rfl, by kernel_rfl, by kernel_rfl, obRun3⟩
  rcases List.mem_cons.1 hp with rfl | hp
  · exact ⟨by kernel_rfl, by kernel_rfl, by kernel_rfl, obRun12⟩
  rcases List.mem_cons.1 hp with rfl | hp
  · exact ⟨by kernel_rfl, by kernel_rfl, by kernel_rfl, obRun13⟩
  rcases List.mem_cons.1 hp with rfl | hp
  · exact ⟨by kernel_rfl, by kernel_rfl, by kernel_rfl, obRun21⟩
  cases hp)
def obT26 : List (List Value × Value) := [(obIn4, obOut4), (obIn5, obOut5), (obIn6, obOut6), (obIn7, obOut7), (obIn8, obOut8), (obIn14, obOut14), (obIn15, obOut15), (obIn16, obOut16), (obIn17, obOut17), (obIn18, obOut18), (obIn22, obOut22), (obIn23, obOut23), (obIn24, obOut24)]
theorem obF26 : Fine ((26, look obT26) :: TP) := FP.runs (F := Tryz.f26) (by kernel_rfl) rfl (by
  intro p hp
  unfold obT26 at hp
  rcases List.mem_cons.1 hp with rfl | hp
  · exact ⟨by kernel_rfl, by kernel_rfl, by kernel_rfl, obRun4⟩
  rcases List.mem_cons.1 hp with rfl | hp
  · exact ⟨by kernel_rfl, by kernel_rfl, by kernel_rfl, obRun5⟩
  rcases List.mem_cons.1 hp with rfl | hp
  · exact ⟨by kernel_rfl, by kernel_rfl, by kernel_rfl, obRun6⟩
  rcases List.mem_cons.1 hp with rfl | hp
  · exact ⟨by kernel_rfl, by kernel_rfl, by kernel_rfl, obRun7⟩
  rcases List.mem_cons.1 hp with rfl | hp
  · exact ⟨by kernel_rfl, by kernel_rfl, by kernel_rfl, obRun8⟩
  rcases List.mem_cons.1 hp with rfl | hp
  · exact ⟨by kernel_rfl, by kernel_rfl, by kernel_rfl, obRun14⟩
  rcases List.mem_cons.1 hp with rfl | hp
  · exact ⟨by kernel_rfl, by kernel_rfl, by kernel_rfl, obRun15⟩
  rcases List.mem_cons.1 hp with rfl | hp
  · exact ⟨by kernel_rfl, by kernel_rfl, by kernel_rfl, obRun16⟩
  rcases List.mem_cons.1 hp with rfl | hp
  · exact ⟨by kernel_rfl, by kernel_rfl, by kernel_rfl, obRun17⟩
  rcases List.mem_cons.1 hp with rfl | hp
  · exact ⟨by kernel_rfl, by kernel_rfl, by kernel_rfl, obRun18⟩
  rcases List.mem_cons.1 hp with rfl | hp
  · exact ⟨by kernel_rfl, by kernel_rfl, by kernel_rfl, obRun22⟩
  rcases List.mem_cons.1 hp with rfl | hp
  · exact ⟨by kernel_rfl, by kernel_rfl, by kernel_rfl, obRun23⟩
  rcases List.mem_cons.1 hp with rfl | hp
  · exact ⟨by kernel_rfl, by kernel_rfl, by kernel_rfl, obRun24⟩
  cases hp)
def obT106 : List (List Value × Value) := [(obIn9, obOut9), (obIn10, obOut10), (obIn20, obOut20)]
theorem obF106 : Fine ((106, look obT106) :: TP) := FP.runs (F := Tryz.f106) (by kernel_rfl) rfl (by
  intro p hp
  unfold obT106 at hp
  rcases List.mem_cons.1 hp with rfl | hp
  · exact ⟨by kernel_rfl, by kernel_rfl, by kernel_rfl, obRun9⟩
  rcases List.mem_cons.1 hp with rfl | hp
  · exact ⟨by kernel_rfl, by kernel_rfl, by kernel_rfl, obRun10⟩
  rcases List.mem_cons.1 hp with rfl | hp
  · exact ⟨by kernel_rfl, by kernel_rfl, by kernel_rfl, obRun20⟩
  cases hp)
def obT108 : List (List Value × Value) := [(obIn11, obOut11)]
theorem obF108 : Fine ((108, look obT108) :: TP) := FP.runs (F := Tryz.f108) (by kernel_rfl) rfl (by
  intro p hp
  unfold obT108 at hp
  rcases List.mem_cons.1 hp with rfl | hp
  · exact ⟨by kernel_rfl, by kernel_rfl, by kernel_rfl, obRun11⟩
  cases hp)
def obT109 : List (List Value × Value) := [(obIn19, obOut19)]
theorem obF109 : Fine ((109, look obT109) :: TP) := FP.runs (F := Tryz.f109) (by kernel_rfl) rfl (by
  intro p hp
  unfold obT109 at hp
  rcases List.mem_cons.1 hp with rfl | hp
  · exact ⟨by kernel_rfl, by kernel_rfl, by kernel_rfl, obRun19⟩
  cases hp)
def obT47 : List (List Value × Value) := [(obIn25, obOut25), (obIn26, obOut26), (obIn27, obOut27), (obIn28, obOut28)]
theorem obF47 : Fine ((47, look obT47) :: TP) := FP.runs (F := Tryz.f47) (by kernel_rfl) rfl (by
  intro p hp
  unfold obT47 at hp
  rcases List.mem_cons.1 hp with rfl | hp
  · exact ⟨by kernel_rfl, by kernel_rfl, by kernel_rfl, obRun25⟩
  rcases List.mem_cons.1 hp with rfl | hp
  · exact ⟨by kernel_rfl, by kernel_rfl, by kernel_rfl, obRun26⟩
  rcases List.mem_cons.1 hp with rfl | hp
  · exact ⟨by kernel_rfl, by kernel_rfl, by kernel_rfl, obRun27⟩
  rcases List.mem_cons.1 hp with rfl | hp
  · exact ⟨by kernel_rfl, by kernel_rfl, by kernel_rfl, obRun28⟩
  cases hp)
def obT18 : List (List Value × Value) := [(obIn29, obOut29)]
theorem obF18 : Fine ((18, look obT18) :: TP) := FP.runs (F := Tryz.f18) (by kernel_rfl) rfl (by
  intro p hp
  unfold obT18 at hp
  rcases List.mem_cons.1 hp with rfl | hp
  · exact ⟨by kernel_rfl, by kernel_rfl, by kernel_rfl, obRun29⟩
  cases hp)
def TQ : List (Nat × Spec) := (18, look obT18) :: (47, look obT47) :: (109, look obT109) :: (108, look obT108) :: (106, look obT106) :: (26, look obT26) :: (27, look obT27) :: (31, checkV) :: (38, whenV) :: (48, look itoT) :: (52, codeV) :: (54, zigV) :: []
theorem FQ : Fine TQ := ((((((((((((Fine.nil).cons F24.head).cons F16.head).cons F25.head).cons F1.head).cons F23.head).cons obF27.head).cons obF26.head).cons obF106.head).cons obF108.head).cons obF109.head).cons obF47.head).cons obF18.head
end Go.D
