/- The tables of awake()'s run are right. Printed by awk.py. -/
import Derived.Test.YtmjdhbenplpinaaGreatDoorWu
import Derived.Test.YtmjdhbenplpinaaGreatDoorWt
namespace Go.D
open Go.Proofs
set_option maxRecDepth 100000
set_option linter.unusedVariables false
theorem Fine.runs {T : List (Nat × Spec)} (hT : Fine T) {f : Nat} {F : Func} {l : List (List Value × Value)} (hf : E0.fn f = some F) (hc : E0.chk f = false)
  (hl : ∀ p ∈ l, (callExt (EV (tabL T)) f p.1).isNone = true ∧ p.1.all (afree 4) = true ∧ afree 4 p.2 = true ∧ isV (runD (EV (tabL T)) 1000 f p.1 ⟨17, .leaf⟩) p.2 = true) : Fine ((f, look l) :: T) :=
 hT.cons fun args v hv => by
  obtain ⟨a, b, c, d⟩ := hl _ (look_mem hv)
  have ho : outV (runD (EV (tabL T)) 1000 f args ⟨(EV (tabL T)).ng, .leaf⟩) = some v := by
   show outV (runD (EV (tabL T)) 1000 f args ⟨17, .leaf⟩) = some v
   unfold isV at d
   cases hr : runD (EV (tabL T)) 1000 f args ⟨17, .leaf⟩ with
   | none => rw [hr] at d; cases d
   | some r =>
    rw [hr] at d
    exact congrArg some (veq_eq 4 r.1 v d)
  exact (orc_of_run hT.ok hf hc (Option.isNone_iff_eq_none.1 a) b c ho).over
theorem Fine.tab {T : List (Nat × Spec)} (hT : Fine T) {f : Nat} {s : Spec} {l : List (List Value × Value)} (h : ∀ args v, s args = some v → Orc Tryz.prog E0 f args v) (hl : l.all (fun p => match s p.1 with | some v => veq 4 v p.2 | none => false) = true) : Fine ((f, look l) :: T) :=
 hT.cons fun args v hv => h args v (by
  have d := List.all_eq_true.1 hl _ (look_mem hv)
  simp only at d
  split at d
  ·rename_i w hw
   rw [hw, veq_eq 4 w v d]
  ·cases d)
theorem obRun0 : isV (runD (EV (tabL TP)) 1000 23 obIn0 ⟨17, .leaf⟩) obOut0 = true := by kernel_rfl
theorem obRun1 : isV (runD (EV (tabL TP)) 1000 23 obIn1 ⟨17, .leaf⟩) obOut1 = true := by kernel_rfl
theorem obRun2 : isV (runD (EV (tabL TP)) 1000 23 obIn2 ⟨17, .leaf⟩) obOut2 = true := by kernel_rfl
theorem obRun3 : isV (runD (EV (tabL TP)) 1000 23 obIn3 ⟨17, .leaf⟩) obOut3 = true := by kernel_rfl
theorem obRun4 : isV (runD (EV (tabL TP)) 1000 11 obIn4 ⟨17, .leaf⟩) obOut4 = true := by kernel_rfl
theorem obRun5 : isV (runD (EV (tabL TP)) 1000 11 obIn5 ⟨17, .leaf⟩) obOut5 = true := by kernel_rfl
theorem obRun6 : isV (runD (EV (tabL TP)) 1000 11 obIn6 ⟨17, .leaf⟩) obOut6 = true := by kernel_rfl
theorem obRun7 : isV (runD (EV (tabL TP)) 1000 11 obIn7 ⟨17, .leaf⟩) obOut7 = true := by kernel_rfl
theorem obRun8 : isV (runD (EV (tabL TP)) 1000 11 obIn8 ⟨17, .leaf⟩) obOut8 = true := by kernel_rfl
theorem obRun9 : isV (runD (EV (tabL TP)) 1000 184 obIn9 ⟨17, .leaf⟩) obOut9 = true := by kernel_rfl
theorem obRun10 : isV (runD (EV (tabL TP)) 1000 184 obIn10 ⟨17, .leaf⟩) obOut10 = true := by kernel_rfl
theorem obRun11 : isV (runD (EV (tabL TP)) 1000 186 obIn11 ⟨17, .leaf⟩) obOut11 = true := by kernel_rfl
theorem obRun12 : isV (runD (EV (tabL TP)) 1000 23 obIn12 ⟨17, .leaf⟩) obOut12 = true := by kernel_rfl
theorem obRun13 : isV (runD (EV (tabL TP)) 1000 23 obIn13 ⟨17, .leaf⟩) obOut13 = true := by kernel_rfl
theorem obRun14 : isV (runD (EV (tabL TP)) 1000 11 obIn14 ⟨17, .leaf⟩) obOut14 = true := by kernel_rfl
theorem obRun15 : isV (runD (EV (tabL TP)) 1000 11 obIn15 ⟨17, .leaf⟩) obOut15 = true := by kernel_rfl
theorem obRun16 : isV (runD (EV (tabL TP)) 1000 11 obIn16 ⟨17, .leaf⟩) obOut16 = true := by kernel_rfl
theorem obRun17 : isV (runD (EV (tabL TP)) 1000 11 obIn17 ⟨17, .leaf⟩) obOut17 = true := by kernel_rfl
theorem obRun18 : isV (runD (EV (tabL TP)) 1000 11 obIn18 ⟨17, .leaf⟩) obOut18 = true := by kernel_rfl
theorem obRun19 : isV (runD (EV (tabL TP)) 1000 187 obIn19 ⟨17, .leaf⟩) obOut19 = true := by kernel_rfl
theorem obRun20 : isV (runD (EV (tabL TP)) 1000 184 obIn20 ⟨17, .leaf⟩) obOut20 = true := by kernel_rfl
theorem obRun21 : isV (runD (EV (tabL TP)) 1000 23 obIn21 ⟨17, .leaf⟩) obOut21 = true := by kernel_rfl
theorem obRun22 : isV (runD (EV (tabL TP)) 1000 11 obIn22 ⟨17, .leaf⟩) obOut22 = true := by kernel_rfl
theorem obRun23 : isV (runD (EV (tabL TP)) 1000 11 obIn23 ⟨17, .leaf⟩) obOut23 = true := by kernel_rfl
theorem obRun24 : isV (runD (EV (tabL TP)) 1000 11 obIn24 ⟨17, .leaf⟩) obOut24 = true := by kernel_rfl
theorem obRun25 : isV (runD (EV (tabL TP)) 1000 51 obIn25 ⟨17, .leaf⟩) obOut25 = true := by kernel_rfl
theorem obRun26 : isV (runD (EV (tabL TP)) 1000 51 obIn26 ⟨17, .leaf⟩) obOut26 = true := by kernel_rfl
theorem obRun27 : isV (runD (EV (tabL TP)) 1000 51 obIn27 ⟨17, .leaf⟩) obOut27 = true := by kernel_rfl
theorem obRun28 : isV (runD (EV (tabL TP)) 1000 51 obIn28 ⟨17, .leaf⟩) obOut28 = true := by kernel_rfl
theorem obRun29 : isV (runD (EV (tabL TP)) 1000 13 obIn29 ⟨17, .leaf⟩) obOut29 = true := by kernel_rfl
theorem obF23 : Fine ((23, look obT23) :: TP) := FP.runs (F := Tryz.f23) (by kernel_rfl) rfl (by
 intro p hp
 unfold obT23 at hp
 rcases List.mem_cons.1 hp with rfl | hp
 ·exact ⟨by kernel_rfl, by kernel_rfl, by kernel_rfl, obRun0⟩
 rcases List.mem_cons.1 hp with rfl | hp
 ·exact ⟨by kernel_rfl, by kernel_rfl, by kernel_rfl, obRun1⟩
 rcases List.mem_cons.1 hp with rfl | hp
 ·exact ⟨by kernel_rfl, by kernel_rfl, by kernel_rfl, obRun2⟩
 rcases List.mem_cons.1 hp with rfl | hp
 ·exact ⟨by kernel_rfl, by kernel_rfl, by kernel_rfl, obRun3⟩
 rcases List.mem_cons.1 hp with rfl | hp
 ·exact ⟨by kernel_rfl, by kernel_rfl, by kernel_rfl, obRun12⟩
 rcases List.mem_cons.1 hp with rfl | hp
 ·exact ⟨by kernel_rfl, by kernel_rfl, by kernel_rfl, obRun13⟩
 rcases List.mem_cons.1 hp with rfl | hp
 ·exact ⟨by kernel_rfl, by kernel_rfl, by kernel_rfl, obRun21⟩
 cases hp)
theorem obF11 : Fine ((11, look obT11) :: TP) := FP.runs (F := Tryz.f11) (by kernel_rfl) rfl (by
 intro p hp
 unfold obT11 at hp
 rcases List.mem_cons.1 hp with rfl | hp
 ·exact ⟨by kernel_rfl, by kernel_rfl, by kernel_rfl, obRun4⟩
 rcases List.mem_cons.1 hp with rfl | hp
 ·exact ⟨by kernel_rfl, by kernel_rfl, by kernel_rfl, obRun5⟩
 rcases List.mem_cons.1 hp with rfl | hp
 ·exact ⟨by kernel_rfl, by kernel_rfl, by kernel_rfl, obRun6⟩
 rcases List.mem_cons.1 hp with rfl | hp
 ·exact ⟨by kernel_rfl, by kernel_rfl, by kernel_rfl, obRun7⟩
 rcases List.mem_cons.1 hp with rfl | hp
 ·exact ⟨by kernel_rfl, by kernel_rfl, by kernel_rfl, obRun8⟩
 rcases List.mem_cons.1 hp with rfl | hp
 ·exact ⟨by kernel_rfl, by kernel_rfl, by kernel_rfl, obRun14⟩
 rcases List.mem_cons.1 hp with rfl | hp
 ·exact ⟨by kernel_rfl, by kernel_rfl, by kernel_rfl, obRun15⟩
 rcases List.mem_cons.1 hp with rfl | hp
 ·exact ⟨by kernel_rfl, by kernel_rfl, by kernel_rfl, obRun16⟩
 rcases List.mem_cons.1 hp with rfl | hp
 ·exact ⟨by kernel_rfl, by kernel_rfl, by kernel_rfl, obRun17⟩
 rcases List.mem_cons.1 hp with rfl | hp
 ·exact ⟨by kernel_rfl, by kernel_rfl, by kernel_rfl, obRun18⟩
 rcases List.mem_cons.1 hp with rfl | hp
 ·exact ⟨by kernel_rfl, by kernel_rfl, by kernel_rfl, obRun22⟩
 rcases List.mem_cons.1 hp with rfl | hp
 ·exact ⟨by kernel_rfl, by kernel_rfl, by kernel_rfl, obRun23⟩
 rcases List.mem_cons.1 hp with rfl | hp
 ·exact ⟨by kernel_rfl, by kernel_rfl, by kernel_rfl, obRun24⟩
 cases hp)
theorem obF184 : Fine ((184, look obT184) :: TP) := FP.runs (F := Tryz.f184) (by kernel_rfl) rfl (by
 intro p hp
 unfold obT184 at hp
 rcases List.mem_cons.1 hp with rfl | hp
 ·exact ⟨by kernel_rfl, by kernel_rfl, by kernel_rfl, obRun9⟩
 rcases List.mem_cons.1 hp with rfl | hp
 ·exact ⟨by kernel_rfl, by kernel_rfl, by kernel_rfl, obRun10⟩
 rcases List.mem_cons.1 hp with rfl | hp
 ·exact ⟨by kernel_rfl, by kernel_rfl, by kernel_rfl, obRun20⟩
 cases hp)
theorem obF186 : Fine ((186, look obT186) :: TP) := FP.runs (F := Tryz.f186) (by kernel_rfl) rfl (by
 intro p hp
 unfold obT186 at hp
 rcases List.mem_cons.1 hp with rfl | hp
 ·exact ⟨by kernel_rfl, by kernel_rfl, by kernel_rfl, obRun11⟩
 cases hp)
theorem obF187 : Fine ((187, look obT187) :: TP) := FP.runs (F := Tryz.f187) (by kernel_rfl) rfl (by
 intro p hp
 unfold obT187 at hp
 rcases List.mem_cons.1 hp with rfl | hp
 ·exact ⟨by kernel_rfl, by kernel_rfl, by kernel_rfl, obRun19⟩
 cases hp)
theorem obF51 : Fine ((51, look obT51) :: TP) := FP.runs (F := Tryz.f51) (by kernel_rfl) rfl (by
 intro p hp
 unfold obT51 at hp
 rcases List.mem_cons.1 hp with rfl | hp
 ·exact ⟨by kernel_rfl, by kernel_rfl, by kernel_rfl, obRun25⟩
 rcases List.mem_cons.1 hp with rfl | hp
 ·exact ⟨by kernel_rfl, by kernel_rfl, by kernel_rfl, obRun26⟩
 rcases List.mem_cons.1 hp with rfl | hp
 ·exact ⟨by kernel_rfl, by kernel_rfl, by kernel_rfl, obRun27⟩
 rcases List.mem_cons.1 hp with rfl | hp
 ·exact ⟨by kernel_rfl, by kernel_rfl, by kernel_rfl, obRun28⟩
 cases hp)
theorem obF13 : Fine ((13, look obT13) :: TP) := FP.runs (F := Tryz.f13) (by kernel_rfl) rfl (by
 intro p hp
 unfold obT13 at hp
 rcases List.mem_cons.1 hp with rfl | hp
 ·exact ⟨by kernel_rfl, by kernel_rfl, by kernel_rfl, obRun29⟩
 cases hp)
theorem FQ : Fine TQ := ((((((((((((Fine.nil).tab F25.head (l := obT52) (by kernel_rfl)).tab F1.head (l := obT36) (by kernel_rfl)).tab F16.head (l := obT60) (by kernel_rfl)).tab F24.head (l := obT88) (by kernel_rfl)).tab F23.head (l := obT15) (by kernel_rfl)).cons obF13.head).cons obF51.head).cons obF187.head).cons obF186.head).cons obF184.head).cons obF11.head).cons obF23.head
def awT : List (List Value × Value) := [([], .bool true)]
theorem awF : Fine ((5, look awT) :: TQ) := FQ.runs (F := Tryz.f5) (by kernel_rfl) rfl (by
 intro p hp
 unfold awT at hp
 rcases List.mem_cons.1 hp with rfl | hp
 ·exact ⟨by kernel_rfl, by kernel_rfl, by kernel_rfl, awakeRun⟩
 cases hp)
def TLs : List (Nat × Spec) := (5, look awT) :: TS
theorem FLs : Fine TLs := FS.cons awF.head
end Go.D
