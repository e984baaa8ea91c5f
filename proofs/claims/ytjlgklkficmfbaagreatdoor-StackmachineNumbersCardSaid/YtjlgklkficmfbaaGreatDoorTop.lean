/- The tables of pure calls are what the calls answer; awake() answers true, as an oracle. Printed by mktop.py. -/
import Derived.Test.YtjlgklkficmfbaaGreatDoorFull
import Derived.Test.YtjlgklkficmfbaaGreatDoorAwake
namespace Go.D
open Go.Proofs
set_option maxRecDepth 100000
theorem bif_cases {f g : Nat} {a b : Option Value} {v : Value} (h : (bif Nat.beq f g then a else b) = some v) : (f = g ∧ a = some v) ∨ b = some v := by
  cases hb : Nat.beq f g with
  | true => rw [hb] at h; exact .inl ⟨Nat.eq_of_beq_eq_true hb, h⟩
  | false => rw [hb] at h; exact .inr h
theorem isV_out {r : Option (Value × H)} {v : Value} (h : isV r v = true) : outV r = some v := by
  cases r with
  | none => cases h
  | some p => exact congrArg some (veq_eq 4 p.1 v h)
theorem oaAll26 : ∀ p ∈ oaTab26, Orc Tryz.prog E0 26 p.1 p.2 := by
  have go : ∀ (a : List Value) (v : Value), (callExt E0 26 a).isNone = true → a.all (afree 4) = true → afree 4 v = true → isV (runD E0 1000 26 a ⟨E0.ng, .leaf⟩) v = true → Orc Tryz.prog E0 26 a v := fun a v h1 h2 h3 h4 =>
    orc_of_run e0_ok (Fn := Tryz.f26) (by kernel_rfl) (by kernel_rfl) (Option.isNone_iff_eq_none.1 h1) h2 h3 (isV_out h4)
  intro p hp
  unfold oaTab26 at hp
  rcases List.mem_cons.1 hp with rfl | hp
  · exact go oaIn0 oaOut0 (by kernel_rfl) (by kernel_rfl) (by kernel_rfl) oaRun0
  rcases List.mem_cons.1 hp with rfl | hp
  · exact go oaIn1 oaOut1 (by kernel_rfl) (by kernel_rfl) (by kernel_rfl) oaRun1
  rcases List.mem_cons.1 hp with rfl | hp
  · exact go oaIn2 oaOut2 (by kernel_rfl) (by kernel_rfl) (by kernel_rfl) oaRun2
  rcases List.mem_cons.1 hp with rfl | hp
  · exact go oaIn3 oaOut3 (by kernel_rfl) (by kernel_rfl) (by kernel_rfl) oaRun3
  rcases List.mem_cons.1 hp with rfl | hp
  · exact go oaIn4 oaOut4 (by kernel_rfl) (by kernel_rfl) (by kernel_rfl) oaRun4
  rcases List.mem_cons.1 hp with rfl | hp
  · exact go oaIn5 oaOut5 (by kernel_rfl) (by kernel_rfl) (by kernel_rfl) oaRun5
  rcases List.mem_cons.1 hp with rfl | hp
  · exact go oaIn6 oaOut6 (by kernel_rfl) (by kernel_rfl) (by kernel_rfl) oaRun6
  rcases List.mem_cons.1 hp with rfl | hp
  · exact go oaIn7 oaOut7 (by kernel_rfl) (by kernel_rfl) (by kernel_rfl) oaRun7
  rcases List.mem_cons.1 hp with rfl | hp
  · exact go oaIn8 oaOut8 (by kernel_rfl) (by kernel_rfl) (by kernel_rfl) oaRun8
  rcases List.mem_cons.1 hp with rfl | hp
  · exact go oaIn9 oaOut9 (by kernel_rfl) (by kernel_rfl) (by kernel_rfl) oaRun9
  rcases List.mem_cons.1 hp with rfl | hp
  · exact go oaIn10 oaOut10 (by kernel_rfl) (by kernel_rfl) (by kernel_rfl) oaRun10
  rcases List.mem_cons.1 hp with rfl | hp
  · exact go oaIn11 oaOut11 (by kernel_rfl) (by kernel_rfl) (by kernel_rfl) oaRun11
  rcases List.mem_cons.1 hp with rfl | hp
  · exact go oaIn12 oaOut12 (by kernel_rfl) (by kernel_rfl) (by kernel_rfl) oaRun12
  rcases List.mem_cons.1 hp with rfl | hp
  · exact go oaIn13 oaOut13 (by kernel_rfl) (by kernel_rfl) (by kernel_rfl) oaRun13
  rcases List.mem_cons.1 hp with rfl | hp
  · exact go oaIn14 oaOut14 (by kernel_rfl) (by kernel_rfl) (by kernel_rfl) oaRun14
  rcases List.mem_cons.1 hp with rfl | hp
  · exact go oaIn15 oaOut15 (by kernel_rfl) (by kernel_rfl) (by kernel_rfl) oaRun15
  cases hp
theorem oaOrc (f : Nat) (args : List Value) (v : Value) (_ : E0.chk f = false) (h : oaTab f args = some v) : Orc Tryz.prog E0 f args v := by
  unfold oaTab at h
  rcases bif_cases h with ⟨hf, h⟩ | h
  · subst hf
    exact oaAll26 (args, v) (look_mem h)
  cases h
theorem e1_ok : EnvOk3 Tryz.prog E1 := over_ok e0_ok oaOrc
theorem obAll22 : ∀ p ∈ obTab22, Orc Tryz.prog E1 22 p.1 p.2 := by
  have go : ∀ (a : List Value) (v : Value), (callExt E1 22 a).isNone = true → a.all (afree 4) = true → afree 4 v = true → isV (runD E1 1000 22 a ⟨E1.ng, .leaf⟩) v = true → Orc Tryz.prog E1 22 a v := fun a v h1 h2 h3 h4 =>
    orc_of_run e1_ok (Fn := Tryz.f22) (by kernel_rfl) (by kernel_rfl) (Option.isNone_iff_eq_none.1 h1) h2 h3 (isV_out h4)
  intro p hp
  unfold obTab22 at hp
  rcases List.mem_cons.1 hp with rfl | hp
  · exact go obIn0 obOut0 (by kernel_rfl) (by kernel_rfl) (by kernel_rfl) obRun0
  rcases List.mem_cons.1 hp with rfl | hp
  · exact go obIn1 obOut1 (by kernel_rfl) (by kernel_rfl) (by kernel_rfl) obRun1
  rcases List.mem_cons.1 hp with rfl | hp
  · exact go obIn2 obOut2 (by kernel_rfl) (by kernel_rfl) (by kernel_rfl) obRun2
  rcases List.mem_cons.1 hp with rfl | hp
  · exact go obIn3 obOut3 (by kernel_rfl) (by kernel_rfl) (by kernel_rfl) obRun3
  rcases List.mem_cons.1 hp with rfl | hp
  · exact go obIn13 obOut13 (by kernel_rfl) (by kernel_rfl) (by kernel_rfl) obRun13
  rcases List.mem_cons.1 hp with rfl | hp
  · exact go obIn15 obOut15 (by kernel_rfl) (by kernel_rfl) (by kernel_rfl) obRun15
  rcases List.mem_cons.1 hp with rfl | hp
  · exact go obIn23 obOut23 (by kernel_rfl) (by kernel_rfl) (by kernel_rfl) obRun23
  cases hp
theorem obAll46 : ∀ p ∈ obTab46, Orc Tryz.prog E1 46 p.1 p.2 := by
  have go : ∀ (a : List Value) (v : Value), (callExt E1 46 a).isNone = true → a.all (afree 4) = true → afree 4 v = true → isV (runD E1 1000 46 a ⟨E1.ng, .leaf⟩) v = true → Orc Tryz.prog E1 46 a v := fun a v h1 h2 h3 h4 =>
    orc_of_run e1_ok (Fn := Tryz.f46) (by kernel_rfl) (by kernel_rfl) (Option.isNone_iff_eq_none.1 h1) h2 h3 (isV_out h4)
  intro p hp
  unfold obTab46 at hp
  rcases List.mem_cons.1 hp with rfl | hp
  · exact go obIn4 obOut4 (by kernel_rfl) (by kernel_rfl) (by kernel_rfl) obRun4
  rcases List.mem_cons.1 hp with rfl | hp
  · exact go obIn14 obOut14 (by kernel_rfl) (by kernel_rfl) (by kernel_rfl) obRun14
  cases hp
theorem obAll21 : ∀ p ∈ obTab21, Orc Tryz.prog E1 21 p.1 p.2 := by
  have go : ∀ (a : List Value) (v : Value), (callExt E1 21 a).isNone = true → a.all (afree 4) = true → afree 4 v = true → isV (runD E1 1000 21 a ⟨E1.ng, .leaf⟩) v = true → Orc Tryz.prog E1 21 a v := fun a v h1 h2 h3 h4 =>
    orc_of_run e1_ok (Fn := Tryz.f21) (by kernel_rfl) (by kernel_rfl) (Option.isNone_iff_eq_none.1 h1) h2 h3 (isV_out h4)
  intro p hp
  unfold obTab21 at hp
  rcases List.mem_cons.1 hp with rfl | hp
  · exact go obIn5 obOut5 (by kernel_rfl) (by kernel_rfl) (by kernel_rfl) obRun5
  rcases List.mem_cons.1 hp with rfl | hp
  · exact go obIn6 obOut6 (by kernel_rfl) (by kernel_rfl) (by kernel_rfl) obRun6
  rcases List.mem_cons.1 hp with rfl | hp
  · exact go obIn7 obOut7 (by kernel_rfl) (by kernel_rfl) (by kernel_rfl) obRun7
  rcases List.mem_cons.1 hp with rfl | hp
  · exact go obIn8 obOut8 (by kernel_rfl) (by kernel_rfl) (by kernel_rfl) obRun8
  rcases List.mem_cons.1 hp with rfl | hp
  · exact go obIn9 obOut9 (by kernel_rfl) (by kernel_rfl) (by kernel_rfl) obRun9
  rcases List.mem_cons.1 hp with rfl | hp
  · exact go obIn16 obOut16 (by kernel_rfl) (by kernel_rfl) (by kernel_rfl) obRun16
  rcases List.mem_cons.1 hp with rfl | hp
  · exact go obIn17 obOut17 (by kernel_rfl) (by kernel_rfl) (by kernel_rfl) obRun17
  rcases List.mem_cons.1 hp with rfl | hp
  · exact go obIn18 obOut18 (by kernel_rfl) (by kernel_rfl) (by kernel_rfl) obRun18
  rcases List.mem_cons.1 hp with rfl | hp
  · exact go obIn19 obOut19 (by kernel_rfl) (by kernel_rfl) (by kernel_rfl) obRun19
  rcases List.mem_cons.1 hp with rfl | hp
  · exact go obIn20 obOut20 (by kernel_rfl) (by kernel_rfl) (by kernel_rfl) obRun20
  rcases List.mem_cons.1 hp with rfl | hp
  · exact go obIn24 obOut24 (by kernel_rfl) (by kernel_rfl) (by kernel_rfl) obRun24
  rcases List.mem_cons.1 hp with rfl | hp
  · exact go obIn25 obOut25 (by kernel_rfl) (by kernel_rfl) (by kernel_rfl) obRun25
  rcases List.mem_cons.1 hp with rfl | hp
  · exact go obIn26 obOut26 (by kernel_rfl) (by kernel_rfl) (by kernel_rfl) obRun26
  cases hp
theorem obAll95 : ∀ p ∈ obTab95, Orc Tryz.prog E1 95 p.1 p.2 := by
  have go : ∀ (a : List Value) (v : Value), (callExt E1 95 a).isNone = true → a.all (afree 4) = true → afree 4 v = true → isV (runD E1 1000 95 a ⟨E1.ng, .leaf⟩) v = true → Orc Tryz.prog E1 95 a v := fun a v h1 h2 h3 h4 =>
    orc_of_run e1_ok (Fn := Tryz.f95) (by kernel_rfl) (by kernel_rfl) (Option.isNone_iff_eq_none.1 h1) h2 h3 (isV_out h4)
  intro p hp
  unfold obTab95 at hp
  rcases List.mem_cons.1 hp with rfl | hp
  · exact go obIn10 obOut10 (by kernel_rfl) (by kernel_rfl) (by kernel_rfl) obRun10
  rcases List.mem_cons.1 hp with rfl | hp
  · exact go obIn11 obOut11 (by kernel_rfl) (by kernel_rfl) (by kernel_rfl) obRun11
  rcases List.mem_cons.1 hp with rfl | hp
  · exact go obIn22 obOut22 (by kernel_rfl) (by kernel_rfl) (by kernel_rfl) obRun22
  cases hp
theorem obAll97 : ∀ p ∈ obTab97, Orc Tryz.prog E1 97 p.1 p.2 := by
  have go : ∀ (a : List Value) (v : Value), (callExt E1 97 a).isNone = true → a.all (afree 4) = true → afree 4 v = true → isV (runD E1 1000 97 a ⟨E1.ng, .leaf⟩) v = true → Orc Tryz.prog E1 97 a v := fun a v h1 h2 h3 h4 =>
    orc_of_run e1_ok (Fn := Tryz.f97) (by kernel_rfl) (by kernel_rfl) (Option.isNone_iff_eq_none.1 h1) h2 h3 (isV_out h4)
  intro p hp
  unfold obTab97 at hp
  rcases List.mem_cons.1 hp with rfl | hp
  · exact go obIn12 obOut12 (by kernel_rfl) (by kernel_rfl) (by kernel_rfl) obRun12
  cases hp
theorem obAll98 : ∀ p ∈ obTab98, Orc Tryz.prog E1 98 p.1 p.2 := by
  have go : ∀ (a : List Value) (v : Value), (callExt E1 98 a).isNone = true → a.all (afree 4) = true → afree 4 v = true → isV (runD E1 1000 98 a ⟨E1.ng, .leaf⟩) v = true → Orc Tryz.prog E1 98 a v := fun a v h1 h2 h3 h4 =>
    orc_of_run e1_ok (Fn := Tryz.f98) (by kernel_rfl) (by kernel_rfl) (Option.isNone_iff_eq_none.1 h1) h2 h3 (isV_out h4)
  intro p hp
  unfold obTab98 at hp
  rcases List.mem_cons.1 hp with rfl | hp
  · exact go obIn21 obOut21 (by kernel_rfl) (by kernel_rfl) (by kernel_rfl) obRun21
  cases hp
theorem obAll14 : ∀ p ∈ obTab14, Orc Tryz.prog E1 14 p.1 p.2 := by
  have go : ∀ (a : List Value) (v : Value), (callExt E1 14 a).isNone = true → a.all (afree 4) = true → afree 4 v = true → isV (runD E1 1000 14 a ⟨E1.ng, .leaf⟩) v = true → Orc Tryz.prog E1 14 a v := fun a v h1 h2 h3 h4 =>
    orc_of_run e1_ok (Fn := Tryz.f14) (by kernel_rfl) (by kernel_rfl) (Option.isNone_iff_eq_none.1 h1) h2 h3 (isV_out h4)
  intro p hp
  unfold obTab14 at hp
  rcases List.mem_cons.1 hp with rfl | hp
  · exact go obIn27 obOut27 (by kernel_rfl) (by kernel_rfl) (by kernel_rfl) obRun27
  cases hp
theorem obOrc (f : Nat) (args : List Value) (v : Value) (_ : E1.chk f = false) (h : obTab f args = some v) : Orc Tryz.prog E1 f args v := by
  unfold obTab at h
  rcases bif_cases h with ⟨hf, h⟩ | h
  · subst hf
    exact obAll22 (args, v) (look_mem h)
  rcases bif_cases h with ⟨hf, h⟩ | h
  · subst hf
    exact obAll46 (args, v) (look_mem h)
  rcases bif_cases h with ⟨hf, h⟩ | h
  · subst hf
    exact obAll21 (args, v) (look_mem h)
  rcases bif_cases h with ⟨hf, h⟩ | h
  · subst hf
    exact obAll95 (args, v) (look_mem h)
  rcases bif_cases h with ⟨hf, h⟩ | h
  · subst hf
    exact obAll97 (args, v) (look_mem h)
  rcases bif_cases h with ⟨hf, h⟩ | h
  · subst hf
    exact obAll98 (args, v) (look_mem h)
  rcases bif_cases h with ⟨hf, h⟩ | h
  · subst hf
    exact obAll14 (args, v) (look_mem h)
  cases h
theorem e2_ok : EnvOk3 Tryz.prog E2 := over_ok e1_ok obOrc
theorem awakeOrc : Orc Tryz.prog E0 7 [] (.bool true) :=
  (show Orc Tryz.prog E1 7 [] (.bool true) from (show Orc Tryz.prog E2 7 [] (.bool true) from orc_of_run e2_ok (Fn := Tryz.f7) (by kernel_rfl) (by kernel_rfl) (by kernel_rfl) (by kernel_rfl) (by kernel_rfl) (isV_out awakeRun)).over).over
end Go.D
