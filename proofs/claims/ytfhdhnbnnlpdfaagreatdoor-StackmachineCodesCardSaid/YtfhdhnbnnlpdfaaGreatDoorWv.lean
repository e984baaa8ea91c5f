/- The tables of awake()'s run are right. Printed by awk.py. -/
import Derived.Test.YtfhdhnbnnlpdfaaGreatDoorWl
import Derived.Test.YtfhdhnbnnlpdfaaGreatDoorWt
namespace Go.D
open Go.Proofs
set_option maxRecDepth 100000
set_option linter.unusedVariables false
theorem Fine.runs {T : List (Nat × Spec)} (hT : Fine T) {f : Nat} {F : Func} {l : List (List Value × Value)} (hf : E0.fn f = some F) (hc : E0.chk f = false)
  (hl : ∀ p ∈ l, (callExt (EV (tabL T)) f p.1).isNone = true ∧ p.1.all (afree 4) = true ∧ afree 4 p.2 = true ∧ isV (runD (EV (tabL T)) 1000 f p.1 ⟨17, .leaf⟩) p.2 = true) : Fine ((f, look l) :: T) :=
 hT.cons fun args v hv => by
  obtain ⟨a, b, c, d⟩ := hl _ (look_mem hv)
  have ho : outV (runD (EV (tabL T)) 1000 f args ⟨(EV (tabL T)).ng, .leaf⟩) = some v := by
   show outV (runD (EV (tabL T)) 1000 f args ⟨17, .leaf⟩) = some v
   unfold isV at d
   cases hr : runD (EV (tabL T)) 1000 f args ⟨17, .leaf⟩ with
   | none => rw [hr] at d; cases d
   | some r =>
    rw [hr] at d
    exact congrArg some (veq_eq 4 r.1 v d)
  exact (orc_of_run hT.ok hf hc (Option.isNone_iff_eq_none.1 a) b c ho).over
theorem Fine.tab {T : List (Nat × Spec)} (hT : Fine T) {f : Nat} {s : Spec} {l : List (List Value × Value)} (h : ∀ args v, s args = some v → Orc Tryz.prog E0 f args v) (hl : l.all (fun p => match s p.1 with | some v => veq 4 v p.2 | none => false) = true) : Fine ((f, look l) :: T) :=
 hT.cons fun args v hv => h args v (by
  have d := List.all_eq_true.1 hl _ (look_mem hv)
  simp only at d
  split at d
  ·rename_i w hw
   rw [hw, veq_eq 4 w v d]
  ·cases d)
theorem obRun0 : isV (runD (EV (tabL TP)) 1000 32 obIn0 ⟨17, .leaf⟩) obOut0 = true := by kernel_rfl
theorem obRun1 : isV (runD (EV (tabL TP)) 1000 32 obIn1 ⟨17, .leaf⟩) obOut1 = true := by kernel_rfl
theorem obRun2 : isV (runD (EV (tabL TP)) 1000 32 obIn2 ⟨17, .leaf⟩) obOut2 = true := by kernel_rfl
theorem obRun3 : isV (runD (EV (tabL TP)) 1000 32 obIn3 ⟨17, .leaf⟩) obOut3 = true := by kernel_rfl
theorem obRun4 : isV (runD (EV (tabL TP)) 1000 31 obIn4 ⟨17, .leaf⟩) obOut4 = true := by kernel_rfl
theorem obRun5 : isV (runD (EV (tabL TP)) 1000 31 obIn5 ⟨17, .leaf⟩) obOut5 = true := by kernel_rfl
theorem obRun6 : isV (runD (EV (tabL TP)) 1000 31 obIn6 ⟨17, .leaf⟩) obOut6 = true := by kernel_rfl
theorem obRun7 : isV (runD (EV (tabL TP)) 1000 31 obIn7 ⟨17, .leaf⟩) obOut7 = true := by kernel_rfl
theorem obRun8 : isV (runD (EV (tabL TP)) 1000 31 obIn8 ⟨17, .leaf⟩) obOut8 = true := by kernel_rfl
theorem obRun9 : isV (runD (EV (tabL TP)) 1000 147 obIn9 ⟨17, .leaf⟩) obOut9 = true := by kernel_rfl
theorem obRun10 : isV (runD (EV (tabL TP)) 1000 147 obIn10 ⟨17, .leaf⟩) obOut10 = true := by kernel_rfl
theorem obRun11 : isV (runD (EV (tabL TP)) 1000 149 obIn11 ⟨17, .leaf⟩) obOut11 = true := by kernel_rfl
theorem obRun12 : isV (runD (EV (tabL TP)) 1000 32 obIn12 ⟨17, .leaf⟩) obOut12 = true := by kernel_rfl
theorem obRun13 : isV (runD (EV (tabL TP)) 1000 32 obIn13 ⟨17, .leaf⟩) obOut13 = true := by kernel_rfl
theorem obRun14 : isV (runD (EV (tabL TP)) 1000 31 obIn14 ⟨17, .leaf⟩) obOut14 = true := by kernel_rfl
theorem obRun15 : isV (runD (EV (tabL TP)) 1000 31 obIn15 ⟨17, .leaf⟩) obOut15 = true := by kernel_rfl
theorem obRun16 : isV (runD (EV (tabL TP)) 1000 31 obIn16 ⟨17, .leaf⟩) obOut16 = true := by kernel_rfl
theorem obRun17 : isV (runD (EV (tabL TP)) 1000 31 obIn17 ⟨17, .leaf⟩) obOut17 = true := by kernel_rfl
theorem obRun18 : isV (runD (EV (tabL TP)) 1000 31 obIn18 ⟨17, .leaf⟩) obOut18 = true := by kernel_rfl
theorem obRun19 : isV (runD (EV (tabL TP)) 1000 150 obIn19 ⟨17, .leaf⟩) obOut19 = true := by kernel_rfl
theorem obRun20 : isV (runD (EV (tabL TP)) 1000 147 obIn20 ⟨17, .leaf⟩) obOut20 = true := by kernel_rfl
theorem obRun21 : isV (runD (EV (tabL TP)) 1000 32 obIn21 ⟨17, .leaf⟩) obOut21 = true := by kernel_rfl
theorem obRun22 : isV (runD (EV (tabL TP)) 1000 31 obIn22 ⟨17, .leaf⟩) obOut22 = true := by kernel_rfl
theorem obRun23 : isV (runD (EV (tabL TP)) 1000 31 obIn23 ⟨17, .leaf⟩) obOut23 = true := by kernel_rfl
theorem obRun24 : isV (runD (EV (tabL TP)) 1000 31 obIn24 ⟨17, .leaf⟩) obOut24 = true := by kernel_rfl
theorem obRun25 : isV (runD (EV (tabL TP)) 1000 64 obIn25 ⟨17, .leaf⟩) obOut25 = true := by kernel_rfl
theorem obRun26 : isV (runD (EV (tabL TP)) 1000 64 obIn26 ⟨17, .leaf⟩) obOut26 = true := by kernel_rfl
theorem obRun27 : isV (runD (EV (tabL TP)) 1000 64 obIn27 ⟨17, .leaf⟩) obOut27 = true := by kernel_rfl
theorem obRun28 : isV (runD (EV (tabL TP)) 1000 64 obIn28 ⟨17, .leaf⟩) obOut28 = true := by kernel_rfl
theorem obRun29 : isV (runD (EV (tabL TP)) 1000 20 obIn29 ⟨17, .leaf⟩) obOut29 = true := by kernel_rfl
theorem obF32 : Fine ((32, look obT32) :: TP) := FP.runs (F := Tryz.f32) (by kernel_rfl) rfl (by
 intro p hp
 unfold obT32 at hp
 rcases List.mem_cons.1 hp with rfl | hp
 ·exact ⟨by kernel_rfl, by kernel_rfl, by kernel_rfl, obRun0⟩
 rcases List.mem_cons.1 hp with rfl | hp
 ·exact ⟨by kernel_rfl, by kernel_rfl, by kernel_rfl, obRun1⟩
 rcases List.mem_cons.1 hp with rfl | hp
 ·exact ⟨by kernel_rfl, by kernel_rfl, by kernel_rfl, obRun2⟩
 rcases List.mem_cons.1 hp with rfl | hp
 ·exact ⟨by kernel_rfl, by kernel_rfl, by kernel_rfl, obRun3⟩
 rcases List.mem_cons.1 hp with rfl | hp
 ·exact ⟨by kernel_rfl, by kernel_rfl, by kernel_rfl, obRun12⟩
 rcases List.mem_cons.1 hp with rfl | hp
 ·exact ⟨by kernel_rfl, by kernel_rfl, by kernel_rfl, obRun13⟩
 rcases List.mem_cons.1 hp with rfl | hp
 ·exact ⟨by kernel_rfl, by kernel_rfl, by kernel_rfl, obRun21⟩
 cases hp)
theorem obF31 : Fine ((31, look obT31) :: TP) := FP.runs (F := Tryz.f31) (by kernel_rfl) rfl (by
 intro p hp
 unfold obT31 at hp
 rcases List.mem_cons.1 hp with rfl | hp
 ·exact ⟨by kernel_rfl, by kernel_rfl, by kernel_rfl, obRun4⟩
 rcases List.mem_cons.1 hp with rfl | hp
 ·exact ⟨by kernel_rfl, by kernel_rfl, by kernel_rfl, obRun5⟩
 rcases List.mem_cons.1 hp with rfl | hp
 ·exact ⟨by kernel_rfl, by kernel_rfl, by kernel_rfl, obRun6⟩
 rcases List.mem_cons.1 hp with rfl | hp
 ·exact ⟨by kernel_rfl, by kernel_rfl, by kernel_rfl, obRun7⟩
 rcases List.mem_cons.1 hp with rfl | hp
 ·exact ⟨by kernel_rfl, by kernel_rfl, by kernel_rfl, obRun8⟩
 rcases List.mem_cons.1 hp with rfl | hp
 ·exact ⟨by kernel_rfl, by kernel_rfl, by kernel_rfl, obRun14⟩
 rcases List.mem_cons.1 hp with rfl | hp
 ·exact ⟨by kernel_rfl, by kernel_rfl, by kernel_rfl, obRun15⟩
 rcases List.mem_cons.1 hp with rfl | hp
 ·exact ⟨by kernel_rfl, by kernel_rfl, by kernel_rfl, obRun16⟩
 rcases List.mem_cons.1 hp with rfl | hp
 ·exact ⟨by kernel_rfl, by kernel_rfl, by kernel_rfl, obRun17⟩
 rcases List.mem_cons.1 hp with rfl | hp
 ·exact ⟨by kernel_rfl, by kernel_rfl, by kernel_rfl, obRun18⟩
 rcases List.mem_cons.1 hp with rfl | hp
 ·exact ⟨by kernel_rfl, by kernel_rfl, by kernel_rfl, obRun22⟩
 rcases List.mem_cons.1 hp with rfl | hp
 ·exact ⟨by kernel_rfl, by kernel_rfl, by kernel_rfl, obRun23⟩
 rcases List.mem_cons.1 hp with rfl | hp
 ·exact ⟨by kernel_rfl, by kernel_rfl, by kernel_rfl, obRun24⟩
 cases hp)
theorem obF147 : Fine ((147, look obT147) :: TP) := FP.runs (F := Tryz.f147) (by kernel_rfl) rfl (by
 intro p hp
 unfold obT147 at hp
 rcases List.mem_cons.1 hp with rfl | hp
 ·exact ⟨by kernel_rfl, by kernel_rfl, by kernel_rfl, obRun9⟩
 rcases List.mem_cons.1 hp with rfl | hp
 ·exact ⟨by kernel_rfl, by kernel_rfl, by kernel_rfl, obRun10⟩
 rcases List.mem_cons.1 hp with rfl | hp
 ·exact ⟨by kernel_rfl, by kernel_rfl, by kernel_rfl, obRun20⟩
 cases hp)
theorem obF149 : Fine ((149, look obT149) :: TP) := FP.runs (F := Tryz.f149) (by kernel_rfl) rfl (by
 intro p hp
 unfold obT149 at hp
 rcases List.mem_cons.1 hp with rfl | hp
 ·exact ⟨by kernel_rfl, by kernel_rfl, by kernel_rfl, obRun11⟩
 cases hp)
theorem obF150 : Fine ((150, look obT150) :: TP) := FP.runs (F := Tryz.f150) (by kernel_rfl) rfl (by
 intro p hp
 unfold obT150 at hp
 rcases List.mem_cons.1 hp with rfl | hp
 ·exact ⟨by kernel_rfl, by kernel_rfl, by kernel_rfl, obRun19⟩
 cases hp)
theorem obF64 : Fine ((64, look obT64) :: TP) := FP.runs (F := Tryz.f64) (by kernel_rfl) rfl (by
 intro p hp
 unfold obT64 at hp
 rcases List.mem_cons.1 hp with rfl | hp
 ·exact ⟨by kernel_rfl, by kernel_rfl, by kernel_rfl, obRun25⟩
 rcases List.mem_cons.1 hp with rfl | hp
 ·exact ⟨by kernel_rfl, by kernel_rfl, by kernel_rfl, obRun26⟩
 rcases List.mem_cons.1 hp with rfl | hp
 ·exact ⟨by kernel_rfl, by kernel_rfl, by kernel_rfl, obRun27⟩
 rcases List.mem_cons.1 hp with rfl | hp
 ·exact ⟨by kernel_rfl, by kernel_rfl, by kernel_rfl, obRun28⟩
 cases hp)
theorem obF20 : Fine ((20, look obT20) :: TP) := FP.runs (F := Tryz.f20) (by kernel_rfl) rfl (by
 intro p hp
 unfold obT20 at hp
 rcases List.mem_cons.1 hp with rfl | hp
 ·exact ⟨by kernel_rfl, by kernel_rfl, by kernel_rfl, obRun29⟩
 cases hp)
theorem FQ : Fine TQ := ((((((((((((Fine.nil).tab F25.head (l := obT65) (by kernel_rfl)).tab F1.head (l := obT55) (by kernel_rfl)).tab F16.head (l := obT69) (by kernel_rfl)).tab F24.head (l := obT71) (by kernel_rfl)).tab F23.head (l := obT36) (by kernel_rfl)).cons obF20.head).cons obF64.head).cons obF150.head).cons obF149.head).cons obF147.head).cons obF31.head).cons obF32.head
def awT : List (List Value × Value) := [([], .bool true)]
theorem awF : Fine ((5, look awT) :: TQ) := FQ.runs (F := Tryz.f5) (by kernel_rfl) rfl (by
 intro p hp
 unfold awT at hp
 rcases List.mem_cons.1 hp with rfl | hp
 ·exact ⟨by kernel_rfl, by kernel_rfl, by kernel_rfl, awakeRun⟩
 cases hp)
def TLc : List (Nat × Spec) := (5, look awT) :: TR_
theorem FLc : Fine TLc := FR.cons awF.head
end Go.D
