/- StackmachineNumbers: for every number the law returns true: Number of the machine and of the reference lay the same bytes, and the examples of awake() are as told. No condition but the listed package variables of the card. -/
import Derived.Test.YtjlgklkficmfbaaGreatDoorRows
import Derived.Test.YtjlgklkficmfbaaGreatDoorTie
import Derived.Test.YtjlgklkficmfbaaGreatDoorCards
import Derived.Test.YtjlgklkficmfbaaGreatDoorTop
import Derived.Test.YtjlgklkficmfbaaGreatDoorFacts
import Derived.Test.YtjlgklkficmfbaaGreatDoorFactsB
import Derived.Test.YtjlgklkficmfbaaGreatDoorW
import Derived.ProofKit
import Derived.OpenShut
import Derived.LaidMore
import Derived.Lay
import Derived.SevenTiedAt
import Derived.Stop.Joined
namespace Go.Proofs.YtjlgklkficmfbaaGreatDoor
open Go.ChangeShapes Go.WideShapes Go.ChangeAt Go.RowKit Go.D
set_option maxRecDepth 100000

theorem own : ownKnob Tryz.prog.godebug = none := by kernel_rfl

/-- One of the listed variables. -/
theorem laid_at {P : Program} {W : World} {n : String} {d : DataW Unit} : ∀ {l : List (String × DataW Unit)} {ps : List MemPlace}, DataW.LaidVars P W l ps → (n, d) ∈ l →
    ∃ g t cs fuel p, P.globalNamed n = some g ∧ (P.globals[g]?).map (·.type) = some t ∧ W.var? P n = some cs ∧ DataW.trod (fun _ => ()) P W 0 (fun _ => true) false fuel t cs.toList = some (d, p)
  | [], _, _, h => by cases h
  | (n', d') :: r, ps, ⟨g, t, cs, fuel, p, q, h1, h2, h3, h4, h5, _⟩, h => by
    rcases List.mem_cons.1 h with h | h
    · cases h; exact ⟨g, t, cs, fuel, p, h1, h2, h3, h4⟩
    · exact laid_at h5 h

theorem bytes_of {s : ByteArray} {l : List UInt8} (h : s.data.toList = l) : s = ⟨⟨l⟩⟩ := by
  obtain ⟨⟨d⟩⟩ := s
  subst h
  rfl

theorem floats_cells {W : World} {fuel : Nat} {cs : Array Value} {p : List MemPlace} (h : DataW.trod (fun _ => ()) Tryz.prog W 0 (fun _ => true) false fuel 160 cs.toList = some (Rows.laid_bowline_ops_floats, p)) : cs.toList = tabGlob := by
  have u160 : Tryz.prog.underlying 160 = some (.array 2 159) := by kernel_rfl
  have u9 : Tryz.prog.underlying 9 = some .string := by kernel_rfl
  have u3 : Tryz.prog.underlying 3 = some (.int .i64) := by kernel_rfl
  have c9 : Tryz.prog.cellsOf 9 = 1 := by kernel_rfl
  have c3 : Tryz.prog.cellsOf 3 = 1 := by kernel_rfl
  have c159 : Tryz.prog.cellsOf 159 = 2 := by kernel_rfl
  have c160 : Tryz.prog.cellsOf 160 = 4 := by kernel_rfl
  have u159 : Tryz.prog.underlying 159 = some (.struct #[⟨ "name", 9, 0, false, "", "bowline/ops", 0⟩, ⟨ "width", 3, 1, false, "", "bowline/ops", 16⟩]) := by kernel_rfl
  obtain ⟨xs, m, _, hx, hlen, hn, hel⟩ := DataW.trod_array u160 h
  rw [c160] at hlen
  have e0 := hel 0 (by decide)
  have e1 := hel 1 (by decide)
  rw [c159] at e0 e1
  match xs, hn with
  | [x0, x1], _ =>
    obtain ⟨y0, y1, n0, rfl, _, a0, a1⟩ := trod_struct2 u159 e0
    obtain ⟨z0, z1, n1, rfl, _, b0, b1⟩ := trod_struct2 u159 e1
    obtain ⟨s0, p0, rfl, _⟩ := DataW.trod_string u9 a0
    obtain ⟨k0, p1, q1, _⟩ := DataW.trod_int u3 a1
    obtain ⟨s1, p2, rfl, _⟩ := DataW.trod_string u9 b0
    obtain ⟨k1, p3, q3, _⟩ := DataW.trod_int u3 b1
    subst q1; subst q3
    simp only [Prod.mk.injEq, Rows.laid_bowline_ops_floats, List.map_cons, List.map_nil, DataW.agg.injEq, List.cons.injEq, DataW.lit.injEq, Lit.string.injEq, Lit.int.injEq, true_and, and_true] at hx
    obtain ⟨⟨⟨r0, r1⟩, r2, r3⟩, _⟩ := hx
    rw [c9] at p0 p2
    rw [c3] at p1 p3
    generalize cs.toList = l at *
    match l, hlen with
    | [v0, v1, v2, v3], _ =>
      simp at p0 p1 p2 p3
      rw [p0, p1, p2, p3, bytes_of r0.symm, bytes_of r2.symm, ← r1, ← r3]
      rfl

theorem floats_at {W : World} {ps : List MemPlace} (h : DataW.LaidVars Tryz.prog W Rows.stackmachineNumbersRow.laid ps) :
    ∀ (o : Nat) (v : Value), tabGlob[o]? = some v → W.cell? ⟨1, o, none⟩ = some v := by
  obtain ⟨g, t, cs, fuel, p, hg, ht, hv, hd⟩ := laid_at h (n := "bowline/ops.floats") (d := Rows.laid_bowline_ops_floats) (by simp [Rows.stackmachineNumbersRow])
  obtain rfl := Option.some.inj ((show Tryz.prog.globalNamed "bowline/ops.floats" = some 1 by kernel_rfl).symm.trans hg)
  obtain rfl := Option.some.inj ((show (Tryz.prog.globals[1]?).map (·.type) = some 160 by kernel_rfl).symm.trans ht)
  intro o v ho
  rw [World.var?_cell hg hv o, ← Array.getElem?_toList, floats_cells hd]
  exact ho

theorem size_at {W : World} {ps : List MemPlace} (h : DataW.LaidVars Tryz.prog W Rows.stackmachineNumbersRow.laid ps) : 17 ≤ W.heap.size := by
  obtain ⟨g, t, cs, fuel, p, hg, ht, hv, hd⟩ := laid_at h (n := "internal/strconv.float64pow10") (d := Rows.laid_internal_strconv_float64pow10) (by simp [Rows.stackmachineNumbersRow])
  obtain rfl := Option.some.inj ((show Tryz.prog.globalNamed "internal/strconv.float64pow10" = some 16 by kernel_rfl).symm.trans hg)
  simp only [World.var?, hg, Option.bind_some] at hv
  split at hv
  · rename_i hh
    have := (Array.getElem?_eq_some_iff.1 hh).1
    omega
  · cases hv

theorem hr_of {W : World} (hL : laidMetH Tryz.prog Rows.stackmachineNumbersRow.laid W) : HR E0 W.heap.size (fun _ => none) ⟨17, .leaf⟩ W := by
  rw [MakeChecks.laidMetH_plain _ _ _ (by kernel_rfl)] at hL
  obtain ⟨ps, hv, _, _⟩ := hL
  refine ⟨Nat.le_refl _, size_at hv, Nat.le_refl _, fun _ _ h => (by cases h), fun _ _ _ h => (by cases h), fun _ _ _ _ _ _ h => (by cases h), fun g o v hg => ?_, fun _ _ => rfl, fun _ _ h => (by cases h)⟩
  have hg' : (bif Nat.beq g 1 then tabGlob[o]? else none) = some v := hg
  cases hb : Nat.beq g 1 with
  | false => rw [hb] at hg'; cases hg'
  | true =>
    rw [hb] at hg'
    obtain rfl := Nat.eq_of_beq_eq_true hb
    refine ⟨by decide, ?_, floats_at hv o v hg'⟩
    have hall : tabGlob.all (afree 4) = true := by kernel_rfl
    exact List.all_eq_true.1 hall v (List.mem_of_getElem? hg')

theorem evn_ok : EnvOk3 Tryz.prog (EV tabN) := over_ok e0_ok fun f args v _ ht => by
  unfold tabN at ht
  cases hb : Nat.beq f 7 with
  | false => rw [hb] at ht; cases ht
  | true =>
    rw [hb] at ht
    obtain rfl := Nat.eq_of_beq_eq_true hb
    cases args with
    | cons a l => cases ht
    | nil => cases ht; exact awakeOrc

theorem walk (a0 : Int) (w0 : (Lit.int .u64 a0).wf = true) (W : World) (hL : laidMetH Tryz.prog Rows.stackmachineNumbersRow.laid W) :
    Calls Tryz.prog 3 #[.int .u64 a0] W fun e w' => e = .returned (.bool true) ∧ W.keptBut w' (fun _ => False) := by
  have hb : 0 ≤ a0 ∧ a0 < 18446744073709551616 := by
    simp only [Lit.wf, Bool.and_eq_true, decide_eq_true_eq] at w0
    have h1 : IntKind.u64.min = 0 := rfl
    have h2 : IntKind.u64.max = 18446744073709551615 := rfl
    omega
  obtain ⟨n, rfl⟩ : ∃ n : Nat, a0 = n := ⟨a0.toNat, by omega⟩
  obtain ⟨h', e⟩ := numbers_run n (by omega) ⟨17, .leaf⟩ (Nat.le_refl _)
  obtain ⟨k, e⟩ := callR_run e
  have hw : Wide Fence.wide := ⟨fun _ => trivial, rfl, rfl⟩
  refine (callsIn_wide (n := 0)).1 ((run_sim evn_ok 0 hw (Fn := Tryz.f3) (by kernel_rfl) (by kernel_rfl) rfl (hr_of hL).over (LR.of_afree (n := 1) rfl) e).mono fun e w' hR => ?_)
  obtain ⟨v', rfl, μ', r1, _, r3⟩ := hR
  refine ⟨by rw [r1.bool_inv], r3.os, r3.output, fun i hi => ?_⟩
  rw [r3.kept i hi (fun b m hm => by cases hm)]
  cases W.heap[i]? with
  | none => rfl
  | some o => cases o <;> simp

theorem laid_met (os : Os) (args : Array Value) : laidMetH Tryz.prog Rows.stackmachineNumbersRow.laid ((World.laidAll Tryz.prog os Rows.stackmachineNumbersRow.laid).forCall (fun _ _ => 0) ⟨#[], args, []⟩).memory := by
  rw [MakeChecks.laidMetH_plain _ _ _ (by kernel_rfl)]
  exact laidMet_laidAll _ (by kernel_rfl) (by kernel_rfl)

theorem lifted (os : Os) (started : os.Started) (H : Type) (enc : TypeId × Value → H) :
    ReturnsInHanded {} Tryz.checked os 3 .any (fun w args => (Rows.stackmachineNumbersSpec.pre enc Tryz.prog Tryz.f3 Rows.stackmachineNumbersRow.domain false w args ∧ laidMetH Tryz.prog Rows.stackmachineNumbersRow.laid w) ∧ sizedMet enc Tryz.prog Tryz.f3 (OpenSpec.ofChange Rows.stackmachineNumbersSpec) false w args)
      (Rows.stackmachineNumbersSpec.post enc Tryz.prog Tryz.f3 false true false false) := by
  refine returnsInHanded_of_change_and (C := Tryz.checked) (X := fun w _ => laidMetH Tryz.prog Rows.stackmachineNumbersRow.laid w) (fun _ _ _ hh h => h.of_heap hh) own started (by kernel_rfl) Tryz.func3
    (ChangeSpec.witness_shaped (enc := enc) (C := Tryz.checked) (os := os) (X := fun w _ => laidMetH Tryz.prog Rows.stackmachineNumbersRow.laid w) false (World.laidAll Tryz.prog os Rows.stackmachineNumbersRow.laid) #[.int .u64 0] 8 (World.laidAll_os _ _ _)
      (World.shaped_of_ZipB (by kernel_rfl) (by kernel_rfl)) (by kernel_rfl) (by kernel_rfl) (by kernel_rfl) (laid_met os _)) ?_
  intro W base args ds gs before hval0 hW _ _ hL _
  have hval : ∀ (j : Nat) t v, Tryz.f3.params[j]? = some t → args[j]? = some v → Value.okWide Tryz.prog W .any base t v := hval0
  have hW' := hW
  obtain ⟨p, q, hA0, hV, rfl, _, _⟩ := hW
  have hA : DataW.TrodAll enc Tryz.prog W 0 (fun _ => true) true Tryz.f3.params.toList args.toList ds p := hA0
  rw [Tryz.params3] at hA hval
  obtain ⟨v0, d0, rfl, rfl, h0⟩ := trodAll_one hA
  obtain ⟨rfl, rfl⟩ := trodVars_none hV
  obtain ⟨a0, rfl, rfl, rfl, w0⟩ := open_int Tryz.underlying22 (hval 0 22 v0 rfl rfl) h0
  clear hA0 hval0
  simp only [List.append_nil] at hW'
  refine (walk a0 w0 W hL).mono fun e W' ⟨he, hk⟩ => ?_
  subst he
  exact ⟨_, rfl, _, _, _, [], [], [], hW', trodAll_mk1 (shut_bool Tryz.underlying4 _), trodAll_mk1 (shut_int Tryz.underlying22 w0), rfl, World.keptBut_mono (fun _ h => h.elim) hk, fun h => by cases h⟩

theorem holds : Rows.StackmachineNumbersSaid :=
  OpenClaim.holds_of_wide 3 Tryz.f3 rfl rfl rfl rfl rfl rfl rfl ⟨rfl, rfl, rfl, rfl, rfl⟩ rfl rfl rfl rfl rfl fc_named Tryz.func3 jf fc_inst fc_wrap
    (fun os started H enc _ => lifted os started H enc)

/-- THE STATEMENT: the tied card. -/
theorem card_holds : Rows.StackmachineNumbersCardSaid :=
  Claim7.holds_tied_plain_at .later [] [.data, .data, .widerDeep, .widerDeep, .data, .data, .data, .data, .data, .sentinel, .sentinel, .data, .widerDeep, .pinned, .pinned] true (true, "04394dd97a3b046f790969d2794cadc98be4f236833fb51b22558f2b0b18a09d") true
    holds (fun _ h => by cases h) fc_wf (fun _ h => by cases h) stackmachineNumbers_row_tie rfl ⟨rfl, rfl⟩ fc_main rfl
    (fun f fn hf hfn => by
      obtain rfl : f = 3 := (Option.some.inj (fc_named.symm.trans hf)).symm
      obtain rfl : fn = Tryz.f3 := (Option.some.inj (Tryz.func3.symm.trans hfn)).symm
      exact ⟨fc_looks, fun j t ht => by
        rw [Tryz.params3] at ht
        have hm : t ∈ [22] := by simpa using Array.mem_of_getElem? ht
        have := List.all_eq_true.1 fc_wants t hm
        simpa using this⟩)
    fc_goes
#print axioms card_holds
end Go.Proofs.YtjlgklkficmfbaaGreatDoor
