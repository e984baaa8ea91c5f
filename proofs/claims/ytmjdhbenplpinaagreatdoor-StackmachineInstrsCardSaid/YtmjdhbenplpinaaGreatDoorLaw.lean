/- StackmachineInstrs: for every list of instructions, wherever it lies, and every number, the law returns true, and the list reads as before. No condition but the listed package variables of the card. -/
import Derived.Test.YtmjdhbenplpinaaGreatDoorRows
import Derived.Test.YtmjdhbenplpinaaGreatDoorTie
import Derived.Test.YtmjdhbenplpinaaGreatDoorCards
import Derived.Test.YtmjdhbenplpinaaGreatDoorWx
import Derived.Test.YtmjdhbenplpinaaGreatDoorFacts
import Derived.Test.YtmjdhbenplpinaaGreatDoorFactsB
import Derived.ProofKit
import Derived.OpenShut
import Derived.LaidMore
import Derived.Lay
import Derived.SevenTiedAt
import Derived.Stop.Joined
import Derived.WideKeyArgs
import Derived.Deep.Slices
import Derived.Lib.LaidTab
namespace Go.Proofs.YtmjdhbenplpinaaGreatDoor
open Go.ChangeShapes Go.WideShapes Go.ChangeAt Go.RowKit Go.WideElems Go.Deep Go.D
set_option maxRecDepth 100000

theorem own : ownKnob Tryz.prog.godebug = none := by kernel_rfl

/-- One of the listed variables. -/
theorem laid_at {P : Program} {W : World} {n : String} {d : DataW Unit} : ∀ {l : List (String × DataW Unit)} {ps : List MemPlace}, DataW.LaidVars P W l ps → (n, d) ∈ l →
    ∃ g t cs fuel p, P.globalNamed n = some g ∧ (P.globals[g]?).map (·.type) = some t ∧ W.var? P n = some cs ∧ DataW.trod (fun _ => ()) P W 0 (fun _ => true) false fuel t cs.toList = some (d, p)
  | [], _, _, h => by cases h
  | (n', d') :: r, ps, ⟨g, t, cs, fuel, p, q, h1, h2, h3, h4, h5, _⟩, h => by
    rcases List.mem_cons.1 h with h | h
    · cases h; exact ⟨g, t, cs, fuel, p, h1, h2, h3, h4⟩
    · exact laid_at h5 h

theorem bytes_of {s : ByteArray} {l : List UInt8} (h : s.data.toList = l) : s = ⟨⟨l⟩⟩ := by
  obtain ⟨⟨d⟩⟩ := s
  subst h
  rfl

theorem floats_cells {W : World} {fuel : Nat} {cs : Array Value} {p : List MemPlace} (h : DataW.trod (fun _ => ()) Tryz.prog W 0 (fun _ => true) false fuel 187 cs.toList = some (Rows.laid_bowline_ops_floats, p)) : cs.toList = tabGlob := by
  have u187 : Tryz.prog.underlying 187 = some (.array 2 186) := by kernel_rfl
  have u9 : Tryz.prog.underlying 9 = some .string := by kernel_rfl
  have u3 : Tryz.prog.underlying 3 = some (.int .i64) := by kernel_rfl
  have c9 : Tryz.prog.cellsOf 9 = 1 := by kernel_rfl
  have c3 : Tryz.prog.cellsOf 3 = 1 := by kernel_rfl
  have c186 : Tryz.prog.cellsOf 186 = 2 := by kernel_rfl
  have c187 : Tryz.prog.cellsOf 187 = 4 := by kernel_rfl
  have u186 : Tryz.prog.underlying 186 = some (.struct #[⟨ "name", 9, 0, false, "", "bowline/ops", 0⟩, ⟨ "width", 3, 1, false, "", "bowline/ops", 16⟩]) := by kernel_rfl
  obtain ⟨xs, m, _, hx, hlen, hn, hel⟩ := DataW.trod_array u187 h
  rw [c187] at hlen
  have e0 := hel 0 (by decide)
  have e1 := hel 1 (by decide)
  rw [c186] at e0 e1
  match xs, hn with
  | [x0, x1], _ =>
    obtain ⟨y0, y1, n0, rfl, _, a0, a1⟩ := trod_struct2 u186 e0
    obtain ⟨z0, z1, n1, rfl, _, b0, b1⟩ := trod_struct2 u186 e1
    obtain ⟨s0, p0, rfl, _⟩ := DataW.trod_string u9 a0
    obtain ⟨k0, p1, q1, _⟩ := DataW.trod_int u3 a1
    obtain ⟨s1, p2, rfl, _⟩ := DataW.trod_string u9 b0
    obtain ⟨k1, p3, q3, _⟩ := DataW.trod_int u3 b1
    subst q1; subst q3
    simp only [Prod.mk.injEq, Rows.laid_bowline_ops_floats, List.map_cons, List.map_nil, DataW.agg.injEq, List.cons.injEq, DataW.lit.injEq, Lit.string.injEq, Lit.int.injEq, true_and, and_true] at hx
    obtain ⟨⟨⟨r0, r1⟩, r2, r3⟩, _⟩ := hx
    rw [c9] at p0 p2
    rw [c3] at p1 p3
    generalize cs.toList = l at *
    match l, hlen with
    | [v0, v1, v2, v3], _ =>
      simp at p0 p1 p2 p3
      rw [p0, p1, p2, p3, bytes_of r0.symm, bytes_of r2.symm, ← r1, ← r3]
      rfl

theorem floating_cells {W : World} {fuel : Nat} {cs : Array Value} {p : List MemPlace} (h : DataW.trod (fun _ => ()) Tryz.prog W 0 (fun _ => true) false fuel 158 cs.toList = some (Rows.laid_bowline_ops_floating, p)) : cs.toList = tabFloating := by
  have u158 : Tryz.prog.underlying 158 = some (.array 9 3) := by kernel_rfl
  have u3 : Tryz.prog.underlying 3 = some (.int .i64) := by kernel_rfl
  have c3 : Tryz.prog.cellsOf 3 = 1 := by kernel_rfl
  have c158 : Tryz.prog.cellsOf 158 = 9 := by kernel_rfl
  obtain ⟨xs, m, _, hx, hlen, hn, hel⟩ := DataW.trod_array u158 h
  rw [c158] at hlen
  have hr : Rows.laid_bowline_ops_floating (H := Unit) = .agg (([6, 7, 8, 18, 30, 34, 35, 36, 37] : List Int).map fun k => .lit (.int .i64 k)) := rfl
  rw [hr] at hx
  have hx1 := (Prod.mk.inj hx).1
  have hx2 : ([6, 7, 8, 18, 30, 34, 35, 36, 37] : List Int).map (fun k => (DataW.lit (.int .i64 k) : DataW Unit)) = xs.map (·.1) := by
    injection hx1
  refine List.ext_getElem? fun i => ?_
  by_cases hi : i < 9
  · have e := hel i hi
    rw [c3, Nat.mul_one, List.getElem?_eq_getElem (by omega)] at e
    obtain ⟨k, q1, q2, _⟩ := DataW.trod_int u3 e
    have e2 : (xs.map (·.1))[i]? = some (.lit (.int .i64 k)) := by rw [List.getElem?_map, List.getElem?_eq_getElem (by omega), q2]; rfl
    rw [← hx2, List.getElem?_map] at e2
    have e3 : cs.toList[i]? = some (.int .i64 k) := by
      have : (List.take 1 (List.drop i cs.toList))[0]? = some (.int .i64 k) := by rw [q1]; rfl
      rw [List.getElem?_take_of_lt (by decide), List.getElem?_drop] at this
      simpa using this
    rw [e3]
    have e4 : tabFloating[i]? = (([6, 7, 8, 18, 30, 34, 35, 36, 37] : List Int).map (fun k => Value.int .i64 k))[i]? := rfl
    rw [e4, List.getElem?_map]
    cases hg : ([6, 7, 8, 18, 30, 34, 35, 36, 37] : List Int)[i]? with
    | none => rw [hg] at e2; cases e2
    | some z => rw [hg] at e2; cases e2; rfl
  · rw [List.getElem?_eq_none (by omega), List.getElem?_eq_none (by show 9 ≤ i; omega)]

theorem floats_at {W : World} {ps : List MemPlace} (h : DataW.LaidVars Tryz.prog W Rows.stackmachineInstrsRow.laid ps) :
    ∀ (o : Nat) (v : Value), tabGlob[o]? = some v → W.cell? ⟨1, o, none⟩ = some v := by
  obtain ⟨g, t, cs, fuel, p, hg, ht, hv, hd⟩ := laid_at h (n := "bowline/ops.floats") (d := Rows.laid_bowline_ops_floats) (by simp [Rows.stackmachineInstrsRow])
  obtain rfl := Option.some.inj ((show Tryz.prog.globalNamed "bowline/ops.floats" = some 1 by kernel_rfl).symm.trans hg)
  obtain rfl := Option.some.inj ((show (Tryz.prog.globals[1]?).map (·.type) = some 187 by kernel_rfl).symm.trans ht)
  intro o v ho
  rw [World.var?_cell hg hv o, ← Array.getElem?_toList, floats_cells hd]
  exact ho

theorem floating_at {W : World} {ps : List MemPlace} (h : DataW.LaidVars Tryz.prog W Rows.stackmachineInstrsRow.laid ps) :
    ∀ (o : Nat) (v : Value), tabFloating[o]? = some v → W.cell? ⟨0, o, none⟩ = some v := by
  obtain ⟨g, t, cs, fuel, p, hg, ht, hv, hd⟩ := laid_at h (n := "bowline/ops.floating") (d := Rows.laid_bowline_ops_floating) (by simp [Rows.stackmachineInstrsRow])
  obtain rfl := Option.some.inj ((show Tryz.prog.globalNamed "bowline/ops.floating" = some 0 by kernel_rfl).symm.trans hg)
  obtain rfl := Option.some.inj ((show (Tryz.prog.globals[0]?).map (·.type) = some 158 by kernel_rfl).symm.trans ht)
  intro o v ho
  rw [World.var?_cell hg hv o, ← Array.getElem?_toList, floating_cells hd]
  exact ho

theorem pow_cells {W : World} {fuel : Nat} {cs : Array Value} {p : List MemPlace} (h : DataW.trod (fun _ => ()) Tryz.prog W 0 (fun _ => true) false fuel 205 cs.toList = some (Rows.laid_internal_strconv_uint64pow10, p)) : cs.toList = tabPow := by
  have e := Go.Lib.cells_of_tab (zs := Go.Lib.pow10Tab) (k := .u64) (e := 34) (n := 20) (by kernel_rfl) (by kernel_rfl) (by kernel_rfl) (by kernel_rfl) h
  rw [e]
  rfl
theorem pow_var {W : World} {ps : List MemPlace} (h : DataW.LaidVars Tryz.prog W Rows.stackmachineInstrsRow.laid ps) : ∃ cs, W.var? Tryz.prog "internal/strconv.uint64pow10" = some cs ∧ cs.toList = tabPow := by
  obtain ⟨g, t, cs, fuel, p, hg, ht, hv, hd⟩ := laid_at h (n := "internal/strconv.uint64pow10") (d := Rows.laid_internal_strconv_uint64pow10) (by simp [Rows.stackmachineInstrsRow])
  obtain rfl := Option.some.inj ((show Tryz.prog.globalNamed "internal/strconv.uint64pow10" = some 2 by kernel_rfl).symm.trans hg)
  obtain rfl := Option.some.inj ((show (Tryz.prog.globals[2]?).map (·.type) = some 205 by kernel_rfl).symm.trans ht)
  exact ⟨cs, hv, pow_cells hd⟩
theorem pow_at {W : World} {ps : List MemPlace} (h : DataW.LaidVars Tryz.prog W Rows.stackmachineInstrsRow.laid ps) (o : Nat) (v : Value) (ho : tabPow[o]? = some v) : W.cell? ⟨2, o, none⟩ = some v := by
  obtain ⟨cs, hv, hc⟩ := pow_var h
  rw [World.var?_cell (show Tryz.prog.globalNamed "internal/strconv.uint64pow10" = some 2 by kernel_rfl) hv o, ← Array.getElem?_toList, hc]
  exact ho
theorem pow_sz {W : World} {ps : List MemPlace} (h : DataW.LaidVars Tryz.prog W Rows.stackmachineInstrsRow.laid ps) (g n : Nat) (hn : E0.gsz g = some n) : ∃ cs a b, W.heap[g]? = some (.cells cs a b) ∧ cs.size = n := by
  have hn' : (bif Nat.beq g 2 then some 20 else none) = some n := hn
  cases hb : Nat.beq g 2 with
  | false => rw [hb] at hn'; cases hn'
  | true =>
    rw [hb] at hn'
    cases hn'
    obtain rfl := Nat.eq_of_beq_eq_true hb
    obtain ⟨cs, hv, hc⟩ := pow_var h
    have hg : Tryz.prog.globalNamed "internal/strconv.uint64pow10" = some 2 := by kernel_rfl
    simp only [World.var?, hg, Option.bind_some] at hv
    split at hv
    · rename_i cs' a b hh
      cases hv
      exact ⟨_, _, _, hh, by have := congrArg List.length hc; simpa [tabPow] using this⟩
    · cases hv

theorem size_at {W : World} {ps : List MemPlace} (h : DataW.LaidVars Tryz.prog W Rows.stackmachineInstrsRow.laid ps) : 17 ≤ W.heap.size := by
  obtain ⟨g, t, cs, fuel, p, hg, ht, hv, hd⟩ := laid_at h (n := "internal/strconv.float64pow10") (d := Rows.laid_internal_strconv_float64pow10) (by simp [Rows.stackmachineInstrsRow])
  obtain rfl := Option.some.inj ((show Tryz.prog.globalNamed "internal/strconv.float64pow10" = some 16 by kernel_rfl).symm.trans hg)
  simp only [World.var?, hg, Option.bind_some] at hv
  split at hv
  · rename_i hh
    have := (Array.getElem?_eq_some_iff.1 hh).1
    omega
  · cases hv

/-! ### What was in memory, as D sees it -/
/-- The cells that hold no address. -/
noncomputable def glW (W : World) (g o : Nat) : Option Value := match W.cell? ⟨g, o, none⟩ with | some v => (if afree 4 v = true then some v else none) | none => none
theorem glW_of {W : World} {g o : Nat} {v : Value} (h : W.cell? ⟨g, o, none⟩ = some v) (ha : afree 4 v = true) : glW W g o = some v := by
  unfold glW
  rw [h]
  exact if_pos ha
noncomputable abbrev tabW (W : World) : Tab := TI_ W.heap.size (glW W)

/-- The table of powers of ten is a block of its own. -/
def PowSz (W : World) : Prop := ∀ g n, E0.gsz g = some n → ∃ cs a b, W.heap[g]? = some (.cells cs a b) ∧ cs.size = n
theorem glob_of (W : World) (hz : PowSz W) (g o : Nat) (v : Value) (hg : (EV (tabW W)).glob g o = some v) : g < (EV (tabW W)).ng ∧ ∃ v', (∀ μ, VR (EV (tabW W)).ng μ v v') ∧ W.cell? ⟨g, o, none⟩ = some v' ∧ ∀ n, (EV (tabW W)).gsz g = some n → ∃ cs a b, W.heap[g]? = some (.cells cs a b) ∧ cs.size = n := by
  have hg' : glW W g o = some v := hg
  unfold glW at hg'
  split at hg'
  · rename_i v' hc
    split at hg'
    · rename_i ha
      cases hg'
      exact ⟨World.block_lt_of_cell? W _ hc, _, fun μ => VR.of_afree 4 _ ha, hc, hz g⟩
    · cases hg'
  · cases hg'
theorem hr_of (W : World) (hz : PowSz W) : HR (EV (tabW W)) W.heap.size (fun _ => none) ⟨W.heap.size, .leaf⟩ W :=
  ⟨Nat.le_refl _, Nat.le_refl _, Nat.le_refl _, fun _ _ h => (by cases h), fun _ _ _ h => (by cases h), fun _ _ _ _ _ _ h => (by cases h), glob_of W hz, fun _ _ => rfl, fun _ _ h => (by cases h)⟩

theorem gl_ok {W : World} (hL : laidMetH Tryz.prog Rows.stackmachineInstrsRow.laid W) : 17 ≤ W.heap.size ∧ (∀ g o v, E0.glob g o = some v → glW W g o = some v) ∧ PowSz W := by
  rw [MakeChecks.laidMetH_plain _ _ _ (by kernel_rfl)] at hL
  obtain ⟨ps, hv, _, _⟩ := hL
  refine ⟨size_at hv, fun g o v h => glW_of ?_ (e0_glob g o v h).2, pow_sz hv⟩
  have h' : (bif Nat.beq g 1 then tabGlob[o]? else bif Nat.beq g 0 then tabFloating[o]? else bif Nat.beq g 2 then tabPow[o]? else none) = some v := h
  cases hb : Nat.beq g 1 with
  | true =>
    rw [hb] at h'
    obtain rfl := Nat.eq_of_beq_eq_true hb
    exact floats_at hv o v h'
  | false =>
    rw [hb] at h'
    cases hc : Nat.beq g 0 with
    | true =>
      rw [hc] at h'
      obtain rfl := Nat.eq_of_beq_eq_true hc
      exact floating_at hv o v h'
    | false =>
      rw [hc] at h'
      cases hd : Nat.beq g 2 with
      | true =>
        rw [hd] at h'
        obtain rfl := Nat.eq_of_beq_eq_true hd
        exact pow_at hv o v h'
      | false => rw [hd] at h'; cases h'

/-! ### The arguments -/
theorem cellsI_get (l : List Ins) (i : Nat) (v : Value) (h : (cellsI l)[i]? = some v) : ∃ x, l[i / 6]? = some x ∧ (insC x)[i % 6]? = some v := by
  have hi : i < l.length * 6 := by
    have := (List.getElem?_eq_some_iff.1 h).1
    rwa [cellsI_len] at this
  have hj : i / 6 < l.length := by omega
  have hl : (cellsI (l.take (i / 6))).length = i / 6 * 6 := by rw [cellsI_len, List.length_take]; congr 1; omega
  rw [cellsI_split l (i / 6) hj, List.getElem?_append_right (by omega), hl, List.getElem?_append_left (by rw [insC_len]; omega)] at h
  exact ⟨l[i / 6], List.getElem?_eq_getElem hj, by rwa [show i % 6 = i - i / 6 * 6 by omega]⟩
instance : Inhabited Ins := ⟨insZ⟩
theorem bytes_eta (s : ByteArray) : s = ⟨⟨s.data.toList⟩⟩ := by obtain ⟨⟨d⟩⟩ := s; rfl

theorem ins_of {H : Type} {enc : TypeId × Value → H} {W : World} {n : Nat} {cs : List Value} {y : DataW H × List MemPlace} (h : DataW.trod enc Tryz.prog W 0 (fun _ => true) true n 36 cs = some y) :
    ∃ x : Ins, cs = insC x ∧ x.num < 18446744073709551616 := by
  have u36 : Tryz.prog.underlying 36 = some (.struct #[⟨ "Op", 3, 0, false, "", "", 0⟩, ⟨ "Type", 9, 1, false, "", "", 8⟩, ⟨ "To", 9, 2, false, "", "", 24⟩, ⟨ "Num", 34, 3, false, "", "", 40⟩, ⟨ "Imm", 3, 4, false, "", "", 48⟩, ⟨ "Size", 3, 5, false, "", "", 56⟩]) := by kernel_rfl
  have c36 : Tryz.prog.cellsOf 36 = 6 := by kernel_rfl
  have u3 : Tryz.prog.underlying 3 = some (.int .i64) := by kernel_rfl
  have u9 : Tryz.prog.underlying 9 = some .string := by kernel_rfl
  have u34 : Tryz.prog.underlying 34 = some (.int .u64) := by kernel_rfl
  have c3 : Tryz.prog.cellsOf 3 = 1 := by kernel_rfl
  have c9 : Tryz.prog.cellsOf 9 = 1 := by kernel_rfl
  have c34 : Tryz.prog.cellsOf 34 = 1 := by kernel_rfl
  obtain ⟨xs, m, _, _, hl, hn, hf⟩ := DataW.trod_struct u36 h
  rw [c36] at hl
  have f0 : DataW.trod enc Tryz.prog W 0 (fun _ => true) true m 3 ((cs.drop 0).take (Tryz.prog.cellsOf 3)) = xs[0]? := hf 0 _ rfl
  have f1 : DataW.trod enc Tryz.prog W 0 (fun _ => true) true m 9 ((cs.drop 1).take (Tryz.prog.cellsOf 9)) = xs[1]? := hf 1 _ rfl
  have f2 : DataW.trod enc Tryz.prog W 0 (fun _ => true) true m 9 ((cs.drop 2).take (Tryz.prog.cellsOf 9)) = xs[2]? := hf 2 _ rfl
  have f3 : DataW.trod enc Tryz.prog W 0 (fun _ => true) true m 34 ((cs.drop 3).take (Tryz.prog.cellsOf 34)) = xs[3]? := hf 3 _ rfl
  have f4 : DataW.trod enc Tryz.prog W 0 (fun _ => true) true m 3 ((cs.drop 4).take (Tryz.prog.cellsOf 3)) = xs[4]? := hf 4 _ rfl
  have f5 : DataW.trod enc Tryz.prog W 0 (fun _ => true) true m 3 ((cs.drop 5).take (Tryz.prog.cellsOf 3)) = xs[5]? := hf 5 _ rfl
  rw [c3] at f0 f4 f5
  rw [c9] at f1 f2
  rw [c34] at f3
  match xs, hn with
  | [x0, x1, x2, x3, x4, x5], _ =>
    match cs, hl with
    | [v0, v1, v2, v3, v4, v5], _ =>
      obtain ⟨a0, q0, _, _⟩ := DataW.trod_int u3 f0
      obtain ⟨a1, q1, _⟩ := DataW.trod_string u9 f1
      obtain ⟨a2, q2, _⟩ := DataW.trod_string u9 f2
      obtain ⟨a3, q3, _, w3⟩ := DataW.trod_int u34 f3
      obtain ⟨a4, q4, _, _⟩ := DataW.trod_int u3 f4
      obtain ⟨a5, q5, _, _⟩ := DataW.trod_int u3 f5
      have hb : 0 ≤ a3 ∧ a3 < 18446744073709551616 := by
        simp only [Lit.wf, Bool.and_eq_true, decide_eq_true_eq] at w3
        have h1 : IntKind.u64.min = 0 := rfl
        have h2 : IntKind.u64.max = 18446744073709551615 := rfl
        omega
      simp at q0 q1 q2 q3 q4 q5
      refine ⟨⟨a0, a1.data.toList, a2.data.toList, a3.toNat, a4, a5⟩, ?_, by show a3.toNat < _; omega⟩
      rw [q0, q1, q2, q3, q4, q5]
      show _ = [Value.int .i64 a0, .string ⟨⟨a1.data.toList⟩⟩, .string ⟨⟨a2.data.toList⟩⟩, .int .u64 ((a3.toNat : Nat) : Int), .int .i64 a4, .int .i64 a5]
      rw [← bytes_eta a1, ← bytes_eta a2, Int.toNat_of_nonneg hb.1]

theorem add_none (b o n : Nat) : (⟨b, o, none⟩ : Addr).add n = ⟨b, o + n, none⟩ := by
  unfold Addr.add
  split
  · rename_i h; subst h; rfl
  · rfl
theorem block_lt_of_shape {W : World} {b : Nat} {x : TypeId × Nat} (h : W.shape? b = some x) : b < W.heap.size := by
  unfold World.shape? at h
  split at h
  · rename_i hh
    exact (Array.getElem?_eq_some_iff.1 hh).1
  · cases h

/-- A slice that was there: nil, or a row of the memory. -/
theorem slice_at {W : World} {H : Type} {enc : TypeId × Value → H} {t e b0 : Nat} {v : Value} {d : DataW H} {p : List MemPlace} (ut : Tryz.prog.underlying t = some (.slice e)) (hv : Value.okWide Tryz.prog W .any b0 t v)
    (hd : DataW.Trod enc Tryz.prog W 0 (fun _ => true) true t v d p) :
    v = .slice none 0 0 ∨ ∃ b o len cap n, v = .slice (some ⟨b, o, none⟩) len cap ∧ len ≤ cap ∧ b < W.heap.size ∧
      ∀ i, i < len → ∃ cs y, W.cells? 0 ⟨b, o + i * Tryz.prog.cellsOf e, none⟩ (Tryz.prog.cellsOf e) = some cs ∧ DataW.trod enc Tryz.prog W 0 (fun _ => true) true n e cs = some y := by
  obtain ⟨n0, hd⟩ := hd
  obtain ⟨a, len, cap, rfl⟩ := okWide_slice ut hv
  have hd' : DataW.trod enc Tryz.prog W 0 (fun _ => true) true n0 t [.slice a len cap] = some (d, p) := hd
  rcases open_slice ut hd' with ⟨h1, _⟩ | ⟨a', len', cap', m, n, D, Pl, h1, _, hle, _, hm, _, hx⟩
  · cases h1; exact .inl rfl
  · cases h1
    simp only [Value.okWide, ut, Cell.okWide, Cell.ok] at hv
    obtain ⟨_, _, _, hspot, row, cells, hsh, _⟩ := hv
    obtain ⟨b, o, s⟩ := a'
    have hspot' : s = none := hspot
    subst hspot'
    have hm' : m = cap := hm
    refine .inr ⟨b, o, len, cap, n, rfl, hle, block_lt_of_shape hsh, fun i hi => ?_⟩
    obtain ⟨cs', e1, e2⟩ := hx i (by omega)
    rw [add_none] at e1
    exact ⟨cs', _, e1, e2⟩

theorem arg_ins {W : World} {H : Type} {enc : TypeId × Value → H} {b0 : Nat} {v : Value} {d : DataW H} {p : List MemPlace} (hv : Value.okWide Tryz.prog W .any b0 22 v) (hd : DataW.Trod enc Tryz.prog W 0 (fun _ => true) true 22 v d p) (h : Go.D.H) :
    ∃ v0 l, VR W.heap.size (fun _ => none) v0 v ∧ InC (tabW W) h v0 l ∧ ∀ x ∈ l, x.num < 18446744073709551616 := by
  have c36 : Tryz.prog.cellsOf 36 = 6 := by kernel_rfl
  rcases slice_at (by kernel_rfl) hv hd with rfl | ⟨b, o, len, cap, n, rfl, hle, hb, hx⟩
  · exact ⟨.slice none 0 0, [], .snil, .inl ⟨rfl, rfl⟩, fun x hx => by cases hx⟩
  · obtain ⟨X, hX⟩ := choose_lt (α := Ins) (n := len) (p := fun i x => W.cells? 0 ⟨b, o + i * 6, none⟩ 6 = some (insC x) ∧ x.num < 18446744073709551616) (fun i hi => by
      obtain ⟨cs, y, e1, e2⟩ := hx i hi
      rw [c36] at e1
      obtain ⟨x, rfl, hn⟩ := ins_of e2
      exact ⟨x, e1, hn⟩)
    refine ⟨.slice (some ⟨b, o, none⟩) len (2 * cap + 1), (List.range len).map X, .gsl hb o len cap hle, .inr ⟨b, o, 2 * cap + 1, by rw [List.length_map, List.length_range], ⟨.inl hb, fun i v hi => ?_⟩, hb, by omega, by rw [List.length_map, List.length_range]; omega⟩, fun x hx => ?_⟩
    · unfold cellAt
      rw [if_pos hb]
      obtain ⟨x, x1, x2⟩ := cellsI_get _ i v hi
      have hj : i / 6 < len := by
        have := (List.getElem?_eq_some_iff.1 x1).1
        simpa using this
      rw [List.getElem?_map, List.getElem?_range hj] at x1
      cases x1
      obtain ⟨y1, _⟩ := hX (i / 6) hj
      have hc := (World.cells?_some y1).2.2 (i % 6) (Nat.mod_lt _ (by decide))
      rw [x2] at hc
      have ha : (insC (X (i / 6))).all (afree 4) = true := rfl
      have hc' : W.cell? ⟨b, o + i / 6 * 6 + i % 6, none⟩ = some v := by rw [add_none] at hc; exact hc
      rw [show o + i / 6 * 6 + i % 6 = o + i by omega] at hc'
      exact glW_of hc' (List.all_eq_true.1 ha v (List.mem_of_getElem? x2))
    · obtain ⟨i, hi, rfl⟩ := List.mem_map.1 hx
      exact (hX i (List.mem_range.1 hi)).2

/-! ### The call -/
theorem walk {H : Type} {enc : TypeId × Value → H} {b0 : Nat} {v0 : Value} {d0 : DataW H} {p0 : List MemPlace} (W : World) (hL : laidMetH Tryz.prog Rows.stackmachineInstrsRow.laid W)
    (k0 : Value.okWide Tryz.prog W .any b0 22 v0) (t0 : DataW.Trod enc Tryz.prog W 0 (fun _ => true) true 22 v0 d0 p0) (a1 : Int) (w1 : (Lit.int .i64 a1).wf = true) :
    Calls Tryz.prog 3 #[v0, .int .i64 a1] W fun e w' => e = .returned (.bool true) ∧ (w'.os = W.os ∧ w'.output = W.output) ∧ ∀ i, i < W.heap.size → w'.heap[i]? = W.heap[i]? := by
  have hb : -9223372036854775808 ≤ a1 ∧ a1 ≤ 9223372036854775807 := by
    simp only [Lit.wf, Bool.and_eq_true, decide_eq_true_eq] at w1
    have h1 : IntKind.i64.min = -9223372036854775808 := rfl
    have h2 : IntKind.i64.max = 9223372036854775807 := rfl
    omega
  obtain ⟨hng, hgl, hsz⟩ := gl_ok hL
  obtain ⟨a0, l, r0, i0, hn⟩ := arg_ins k0 t0 ⟨W.heap.size, .leaf⟩
  obtain ⟨h', e⟩ := instrs_run (tabW W) (s_in _ _) ⟨W.heap.size, .leaf⟩ (Nat.le_refl _) a0 l a1 i0 hn
  obtain ⟨k, e⟩ := callR_run e
  have hw : Wide Fence.wide := ⟨fun _ => trivial, rfl, rfl⟩
  have hr : LR W.heap.size (fun _ => none) [a0, .int .i64 a1] [v0, .int .i64 a1] := ⟨rfl, fun i v v' hi hi' => by
    match i with
    | 0 => cases hi; cases hi'; exact r0
    | 1 => cases hi; cases hi'; exact .int .i64 a1
    | n + 2 => cases hi⟩
  refine (callsIn_wide (n := 0)).1 ((run_sim (E := EV (tabW W)) (ev_ok hng hgl fun f args v _ h => FLs f args v h) 0 hw (Fn := Tryz.f3) (by kernel_rfl) (by kernel_rfl) rfl (hr_of W hsz) hr e).mono fun e w' hR => ?_)
  obtain ⟨v', rfl, μ', r1, _, r3⟩ := hR
  exact ⟨by rw [r1.bool_inv], ⟨r3.os, r3.output⟩, fun i hi => r3.kept i hi (fun b m hm => by cases hm)⟩

theorem laid_met (os : Os) (args : Array Value) : laidMetH Tryz.prog Rows.stackmachineInstrsRow.laid ((World.laidAll Tryz.prog os Rows.stackmachineInstrsRow.laid).forCall (fun _ _ => 0) ⟨#[], args, []⟩).memory := by
  rw [MakeChecks.laidMetH_plain _ _ _ (by kernel_rfl)]
  exact laidMet_laidAll _ (by kernel_rfl) (by kernel_rfl)

theorem same_of {W W' : World} {p : MemPlace} (hk : ∀ i, i < W.heap.size → W'.heap[i]? = W.heap[i]?) (hp : p.block < W.heap.size) : W.sameAt W' p := by
  cases p with
  | cell b off =>
    show W'.cell? ⟨b, off, none⟩ = W.cell? ⟨b, off, none⟩
    unfold World.cell?
    rw [hk b hp]
  | map b => exact hk b hp

theorem lifted (os : Os) (started : os.Started) (H : Type) (enc : TypeId × Value → H) :
    ReturnsInHanded {} Tryz.checked os 3 .any (fun w args => (Rows.stackmachineInstrsSpec.pre enc Tryz.prog Tryz.f3 Rows.stackmachineInstrsRow.domain false w args ∧ laidMetH Tryz.prog Rows.stackmachineInstrsRow.laid w) ∧ sizedMet enc Tryz.prog Tryz.f3 (OpenSpec.ofChange Rows.stackmachineInstrsSpec) false w args)
      (Rows.stackmachineInstrsSpec.post enc Tryz.prog Tryz.f3 false true false false) := by
  refine returnsInHanded_of_change_and (C := Tryz.checked) (X := fun w _ => laidMetH Tryz.prog Rows.stackmachineInstrsRow.laid w) (fun _ _ _ hh h => h.of_heap hh) own started (by kernel_rfl) Tryz.func3
    (ChangeSpec.witness_shaped (enc := enc) (C := Tryz.checked) (os := os) (X := fun w _ => laidMetH Tryz.prog Rows.stackmachineInstrsRow.laid w) false (World.laidAll Tryz.prog os Rows.stackmachineInstrsRow.laid) #[.slice none 0 0, .int .i64 0] 8 (World.laidAll_os _ _ _)
      (World.shaped_of_ZipB (by kernel_rfl) (by kernel_rfl)) (by kernel_rfl) (by kernel_rfl) (by kernel_rfl) (laid_met os _)) ?_
  intro W base args ds gs before hval0 hW _ _ hL _
  have hval : ∀ (j : Nat) t v, Tryz.f3.params[j]? = some t → args[j]? = some v → Value.okWide Tryz.prog W .any base t v := hval0
  have hW' := hW
  obtain ⟨p, q, hA0, hV, rfl, _, _⟩ := hW
  have hA : DataW.TrodAll enc Tryz.prog W 0 (fun _ => true) true Tryz.f3.params.toList args.toList ds p := hA0
  rw [Tryz.params3] at hA hval
  obtain ⟨v0, v1, d0, d1, p0, p1, rfl, rfl, rfl, h0, h1⟩ := trodAll_two hA
  obtain ⟨rfl, rfl⟩ := trodVars_none hV
  have lt : ∀ p ∈ p0 ++ p1, p.block < W.heap.size := fun p hp => hA.lt p hp
  have k0 := hval 0 22 v0 rfl rfl
  have k1 := hval 1 3 v1 rfl rfl
  obtain ⟨a1, rfl, rfl, rfl, w1⟩ := open_int (show Tryz.prog.underlying 3 = some (.int .i64) by kernel_rfl) k1 h1
  clear hA0 hval0
  simp only [List.append_nil] at hW'
  refine (walk W hL k0 h0 a1 w1).mono fun e W' ⟨he, ⟨ho, hq⟩, hk⟩ => ?_
  subst he
  have s0 := Trod_stays (sp' := fun b => decide (b < W.heap.size)) jf1 (by kernel_rfl) (by rw [show Tryz.prog.types.size = 474 by kernel_rfl]; decide) h0 (fun p hp => same_of hk (lt p (List.mem_append_left _ hp))) (fun p hp => decide_eq_true (lt p (List.mem_append_left _ hp)))
  refine ⟨_, rfl, _, _, _, [], p0 ++ [], [], hW', trodAll_mk1 (shut_bool Tryz.underlying4 _), trodAll_mk2 s0 (shut_int (show Tryz.prog.underlying 3 = some (.int .i64) by kernel_rfl) w1), rfl, ⟨ho, hq, fun i hi => ?_⟩, fun h => by cases h⟩
  rw [hk i hi]
  cases W.heap[i]? with
  | none => rfl
  | some o => cases o <;> simp

theorem holds : Rows.StackmachineInstrsSaid :=
  OpenClaim.holds_of_wide 3 Tryz.f3 rfl rfl rfl rfl rfl rfl rfl ⟨rfl, rfl, rfl, rfl, rfl⟩ rfl rfl rfl rfl rfl fc_named Tryz.func3 jf fc_inst fc_wrap
    (fun os started H enc _ => lifted os started H enc)

/-- THE STATEMENT: the tied card. -/
theorem card_holds : Rows.StackmachineInstrsCardSaid :=
  Claim7.holds_tied_plain_at .later [] [.data, .data, .widerDeep, .widerDeep, .data, .data, .data, .data, .data, .sentinel, .sentinel, .data, .widerDeep, .pinned, .pinned] true (true, "3c867b380e6291c8e41257c63f2b60284cc2867dbb729e342c83bfeb53507a17") true
    holds (fun _ h => by cases h) fc_wf (fun _ h => by cases h) stackmachineInstrs_row_tie rfl ⟨rfl, rfl⟩ fc_main rfl
    (fun f fn hf hfn => by
      obtain rfl : f = 3 := (Option.some.inj (fc_named.symm.trans hf)).symm
      obtain rfl : fn = Tryz.f3 := (Option.some.inj (Tryz.func3.symm.trans hfn)).symm
      exact ⟨fc_looks, fun j t ht => by
        rw [Tryz.params3] at ht
        have hm : t ∈ [22, 3] := by simpa using Array.mem_of_getElem? ht
        have := List.all_eq_true.1 fc_wants t hm
        simpa using this⟩)
    fc_goes
#print axioms card_holds
end Go.Proofs.YtmjdhbenplpinaaGreatDoor
