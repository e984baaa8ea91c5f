/- StackmachineNumbers at D's level: what Number of both packages comes to, and the law's run. -/
import Derived.Test.YtjlgklkficmfbaaGreatDoorDb
import Derived.Test.YtjlgklkficmfbaaGreatDoorEnv
namespace Go.D
noncomputable def EV (tab : Tab) : Env := over E0 tab
end Go.D

namespace Go.D
open Go.Proofs
set_option maxRecDepth 100000
/- bowline/bowlinelaw26.StackmachineNumbers -/
noncomputable def rg3_0 : Code := regAt Tryz.f3 0
def p3_0 : List Pl :=
  [.op ⟨some 2, Op.assign (Operand.const (Value.bool false)), none⟩]
theorem r3_0 (tab : Tab) (s : S) : exR (EV tab) rg3_0 s = norm (runS (E := EV tab) (callR (EV tab)) (roundR (EV tab)) p3_0 s) := exR_plan (by kernel_rfl) s
noncomputable def rg3_1 : Code := regAt Tryz.f3 1
def p3_1 : List Pl :=
  [.op ⟨some 3, Op.move (Operand.tmp 0), none⟩,
   .op ⟨some 4, Op.call (Call.mk (Callee.value (Operand.func 5)) #[(Operand.tmp 3)] #[22]), none⟩,
   .op ⟨some 5, Op.move (Operand.tmp 0), none⟩,
   .op ⟨some 6, Op.call (Call.mk (Callee.value (Operand.func 6)) #[(Operand.tmp 5)] #[22]), none⟩,
   .op ⟨some 7, Op.call (Call.mk (Callee.value (Operand.func 4)) #[(Operand.tmp 4), (Operand.tmp 6)] #[24, 24]), none⟩,
   .op ⟨some 8, Op.move (Operand.tmp 7), none⟩,
   .op ⟨some 9, Op.call (Call.mk (Callee.value (Operand.func 7)) #[] #[]), some (8, true)⟩,
   .op ⟨some 10, Op.pick (Operand.tmp 8) (Operand.tmp 9) (Operand.const (Value.bool false)), none⟩,
   .op ⟨some 2, Op.assign (Operand.tmp 10), none⟩]
theorem r3_1 (tab : Tab) (s : S) : exR (EV tab) rg3_1 s = norm (runS (E := EV tab) (callR (EV tab)) (roundR (EV tab)) p3_1 s) := exR_plan (by kernel_rfl) s
noncomputable def b3 : Code := (.seq rg3_0 (.seq rg3_1 .ret))
theorem enter3 (tab : Tab) (args : List Value) (h : H) (hx : callExt (EV tab) 3 args = none) (hl : Nat.ble args.length 11 = true) : callR (EV tab) 3 args h = finish (EV tab) [ResultVar.tmp 2] (exR (EV tab) b3 ⟨false, 11, ofArgs args 0 .leaf, h⟩) :=
  callR_enter (F := Tryz.f3) (c := b3) (by kernel_rfl) hx (by kernel_rfl) (by kernel_rfl) hl
/- bowline/bowlineref01.SameBytes -/
noncomputable def rg4_0 : Code := regAt Tryz.f4 0
def p4_0 : List Pl :=
  [.op ⟨some 4, Op.assign (Operand.const (Value.bool false)), none⟩]
theorem r4_0 (tab : Tab) (s : S) : exR (EV tab) rg4_0 s = norm (runS (E := EV tab) (callR (EV tab)) (roundR (EV tab)) p4_0 s) := exR_plan (by kernel_rfl) s
noncomputable def rg4_1 : Code := regAt Tryz.f4 1
def p4_1 : List Pl :=
  [.op ⟨some 5, Op.move (Operand.tmp 0), none⟩,
   .op ⟨some 6, Op.convert 24 9 (Operand.tmp 5), none⟩,
   .op ⟨some 7, Op.move (Operand.tmp 1), none⟩,
   .op ⟨some 8, Op.convert 24 9 (Operand.tmp 7), none⟩,
   .op ⟨some 9, Op.binOp BinOp.eql 9 (Operand.tmp 6) (Operand.tmp 8) 9, none⟩,
   .op ⟨some 4, Op.assign (Operand.tmp 9), none⟩]
theorem r4_1 (tab : Tab) (s : S) : exR (EV tab) rg4_1 s = norm (runS (E := EV tab) (callR (EV tab)) (roundR (EV tab)) p4_1 s) := exR_plan (by kernel_rfl) s
noncomputable def b4 : Code := (.seq rg4_0 (.seq rg4_1 .ret))
theorem enter4 (tab : Tab) (args : List Value) (h : H) (hx : callExt (EV tab) 4 args = none) (hl : Nat.ble args.length 10 = true) : callR (EV tab) 4 args h = finish (EV tab) [ResultVar.tmp 4] (exR (EV tab) b4 ⟨false, 10, ofArgs args 0 .leaf, h⟩) :=
  callR_enter (F := Tryz.f4) (c := b4) (by kernel_rfl) hx (by kernel_rfl) (by kernel_rfl) hl
/- bowline/stackmachine.Number -/
noncomputable def rg5_0 : Code := regAt Tryz.f5 0
def p5_0 : List Pl :=
  [.op ⟨some 2, Op.assign (Operand.const (Value.slice none 0 0)), none⟩]
theorem r5_0 (tab : Tab) (s : S) : exR (EV tab) rg5_0 s = norm (runS (E := EV tab) (callR (EV tab)) (roundR (EV tab)) p5_0 s) := exR_plan (by kernel_rfl) s
noncomputable def rg5_1 : Code := regAt Tryz.f5 1
def p5_1 : List Pl :=
  [.op ⟨some 3, Op.assign (Operand.const (Value.slice none 0 0)), none⟩]
theorem r5_1 (tab : Tab) (s : S) : exR (EV tab) rg5_1 s = norm (runS (E := EV tab) (callR (EV tab)) (roundR (EV tab)) p5_1 s) := exR_plan (by kernel_rfl) s
noncomputable def rg5_2 : Code := regAt Tryz.f5 2
def p5_2 : List Pl :=
  [.op ⟨some 4, Op.move (Operand.tmp 0), none⟩,
   .op ⟨some 5, Op.binOp BinOp.geq 22 (Operand.tmp 4) (Operand.const (Value.int IntKind.u64 128)) 22, none⟩]
theorem r5_2 (tab : Tab) (s : S) : exR (EV tab) rg5_2 s = norm (runS (E := EV tab) (callR (EV tab)) (roundR (EV tab)) p5_2 s) := exR_plan (by kernel_rfl) s
noncomputable def rg5_3 : Code := regAt Tryz.f5 3
def p5_3 : List Pl :=
  [.op ⟨some 6, Op.move (Operand.tmp 3), none⟩,
   .op ⟨some 7, Op.move (Operand.tmp 0), none⟩,
   .op ⟨some 8, Op.convert 22 5 (Operand.tmp 7), none⟩,
   .op ⟨some 9, Op.binOp BinOp.or 5 (Operand.tmp 8) (Operand.const (Value.int IntKind.u8 128)) 5, none⟩,
   .op ⟨some 10, Op.buildSlice 24 1 #[(0, (Operand.tmp 9))], none⟩,
   .op ⟨some 11, Op.call (Call.mk (Callee.builtin Builtin.append) #[(Operand.tmp 6), (Operand.tmp 10)] #[24, 24]), none⟩,
   .op ⟨some 3, Op.assign (Operand.tmp 11), none⟩]
theorem r5_3 (tab : Tab) (s : S) : exR (EV tab) rg5_3 s = norm (runS (E := EV tab) (callR (EV tab)) (roundR (EV tab)) p5_3 s) := exR_plan (by kernel_rfl) s
noncomputable def rg5_4 : Code := regAt Tryz.f5 4
def p5_4 : List Pl :=
  [.op ⟨some 12, Op.move (Operand.tmp 0), none⟩,
   .op ⟨some 13, Op.binOp BinOp.shr 22 (Operand.tmp 12) (Operand.const (Value.int IntKind.u64 7)) 28, none⟩,
   .op ⟨some 0, Op.assign (Operand.tmp 13), none⟩]
theorem r5_4 (tab : Tab) (s : S) : exR (EV tab) rg5_4 s = norm (runS (E := EV tab) (callR (EV tab)) (roundR (EV tab)) p5_4 s) := exR_plan (by kernel_rfl) s
noncomputable def rg5_5 : Code := regAt Tryz.f5 5
def p5_5 : List Pl :=
  [.op ⟨some 14, Op.move (Operand.tmp 3), none⟩,
   .op ⟨some 15, Op.move (Operand.tmp 0), none⟩,
   .op ⟨some 16, Op.convert 22 5 (Operand.tmp 15), none⟩,
   .op ⟨some 17, Op.buildSlice 24 1 #[(0, (Operand.tmp 16))], none⟩,
   .op ⟨some 18, Op.call (Call.mk (Callee.builtin Builtin.append) #[(Operand.tmp 14), (Operand.tmp 17)] #[24, 24]), none⟩,
   .op ⟨some 2, Op.assign (Operand.tmp 18), none⟩]
theorem r5_5 (tab : Tab) (s : S) : exR (EV tab) rg5_5 s = norm (runS (E := EV tab) (callR (EV tab)) (roundR (EV tab)) p5_5 s) := exR_plan (by kernel_rfl) s
noncomputable def b5 : Code := (.seq rg5_0 (.seq rg5_1 (.seq (.block 0 (.loop (.seq (.seq rg5_2 (.cond (Operand.tmp 5) .skip (Code.exit 0))) (.block 1 (.seq rg5_3 rg5_4))))) (.seq rg5_5 .ret))))
theorem enter5 (tab : Tab) (args : List Value) (h : H) (hx : callExt (EV tab) 5 args = none) (hl : Nat.ble args.length 19 = true) : callR (EV tab) 5 args h = finish (EV tab) [ResultVar.tmp 2] (exR (EV tab) b5 ⟨false, 19, ofArgs args 0 .leaf, h⟩) :=
  callR_enter (F := Tryz.f5) (c := b5) (by kernel_rfl) hx (by kernel_rfl) (by kernel_rfl) hl
/- bowline/bowlineref26.Number -/
noncomputable def rg6_0 : Code := regAt Tryz.f6 0
def p6_0 : List Pl :=
  [.op ⟨some 2, Op.assign (Operand.const (Value.slice none 0 0)), none⟩]
theorem r6_0 (tab : Tab) (s : S) : exR (EV tab) rg6_0 s = norm (runS (E := EV tab) (callR (EV tab)) (roundR (EV tab)) p6_0 s) := exR_plan (by kernel_rfl) s
noncomputable def rg6_1 : Code := regAt Tryz.f6 1
def p6_1 : List Pl :=
  [.op ⟨some 3, Op.move (Operand.tmp 0), none⟩,
   .op ⟨some 4, Op.binOp BinOp.lss 22 (Operand.tmp 3) (Operand.const (Value.int IntKind.u64 128)) 22, none⟩]
theorem r6_1 (tab : Tab) (s : S) : exR (EV tab) rg6_1 s = norm (runS (E := EV tab) (callR (EV tab)) (roundR (EV tab)) p6_1 s) := exR_plan (by kernel_rfl) s
noncomputable def rg6_2 : Code := regAt Tryz.f6 2
def p6_2 : List Pl :=
  [.op ⟨some 5, Op.move (Operand.tmp 0), none⟩,
   .op ⟨some 6, Op.convert 22 5 (Operand.tmp 5), none⟩,
   .op ⟨some 7, Op.buildSlice 24 1 #[(0, (Operand.tmp 6))], none⟩,
   .op ⟨some 2, Op.assign (Operand.tmp 7), none⟩]
theorem r6_2 (tab : Tab) (s : S) : exR (EV tab) rg6_2 s = norm (runS (E := EV tab) (callR (EV tab)) (roundR (EV tab)) p6_2 s) := exR_plan (by kernel_rfl) s
noncomputable def rg6_3 : Code := regAt Tryz.f6 3
def p6_3 : List Pl :=
  [.op ⟨some 8, Op.move (Operand.tmp 0), none⟩,
   .op ⟨some 9, Op.binOp BinOp.rem 22 (Operand.tmp 8) (Operand.const (Value.int IntKind.u64 128)) 22, none⟩,
   .op ⟨some 10, Op.convert 22 5 (Operand.tmp 9), none⟩,
   .op ⟨some 11, Op.binOp BinOp.add 5 (Operand.tmp 10) (Operand.const (Value.int IntKind.u8 128)) 5, none⟩,
   .op ⟨some 12, Op.buildSlice 24 1 #[(0, (Operand.tmp 11))], none⟩,
   .op ⟨some 13, Op.move (Operand.tmp 0), none⟩,
   .op ⟨some 14, Op.binOp BinOp.quo 22 (Operand.tmp 13) (Operand.const (Value.int IntKind.u64 128)) 22, none⟩,
   .op ⟨some 15, Op.call (Call.mk (Callee.value (Operand.func 6)) #[(Operand.tmp 14)] #[22]), none⟩,
   .op ⟨some 16, Op.call (Call.mk (Callee.builtin Builtin.append) #[(Operand.tmp 12), (Operand.tmp 15)] #[24, 24]), none⟩,
   .op ⟨some 2, Op.assign (Operand.tmp 16), none⟩]
theorem r6_3 (tab : Tab) (s : S) : exR (EV tab) rg6_3 s = norm (runS (E := EV tab) (callR (EV tab)) (roundR (EV tab)) p6_3 s) := exR_plan (by kernel_rfl) s
noncomputable def b6 : Code := (.seq rg6_0 (.seq (.seq rg6_1 (.cond (Operand.tmp 4) (.seq rg6_2 .ret) .skip)) (.seq rg6_3 .ret)))
theorem enter6 (tab : Tab) (args : List Value) (h : H) (hx : callExt (EV tab) 6 args = none) (hl : Nat.ble args.length 17 = true) : callR (EV tab) 6 args h = finish (EV tab) [ResultVar.tmp 2] (exR (EV tab) b6 ⟨false, 17, ofArgs args 0 .leaf, h⟩) :=
  callR_enter (F := Tryz.f6) (c := b6) (by kernel_rfl) hx (by kernel_rfl) (by kernel_rfl) hl
theorem ti5 (tab : Tab) : (EV tab).info 5 = some ⟨.int .u8, 1, 1, [.int .u8 0]⟩ := by kernel_rfl
theorem ti9 (tab : Tab) : (EV tab).info 9 = some ⟨.string, 1, 16, [.string ⟨#[]⟩]⟩ := by kernel_rfl
theorem ti22 (tab : Tab) : (EV tab).info 22 = some ⟨.int .u64, 1, 8, [.int .u64 0]⟩ := by kernel_rfl
theorem ti24 (tab : Tab) : (EV tab).info 24 = some ⟨.slice 5, 1, 24, [.slice none 0 0]⟩ := by kernel_rfl
theorem ti28 (tab : Tab) : (EV tab).info 28 = some ⟨.int .u64, 1, 8, [.int .u64 0]⟩ := by kernel_rfl
end Go.D

namespace Go.D
open Go.Proofs
set_option maxRecDepth 100000
set_option linter.unusedSimpArgs false
theorem ng_eq (tab : Tab) : (EV tab).ng = 17 := rfl
theorem bt_eq (tab : Tab) : (EV tab).bt = 77 := rfl

theorem same4 (tab : Tab) (hx : ∀ l, callExt (EV tab) 4 l = none) (a b : Nat) (la lb : List UInt8) (ca cb : Nat) (h : H) (ha : 17 ≤ a) (hb : 17 ≤ b) (na : la.length ≠ 0) (nb : lb.length ≠ 0)
    (ga : h.get a = some (.cells 5 1 (bs la))) (gb : h.get b = some (.cells 5 1 (bs lb))) :
    callR (EV tab) 4 [.slice (some ⟨a, 0, none⟩) la.length ca, .slice (some ⟨b, 0, none⟩) lb.length cb] h = some (.bool (la == lb), h) := by
  rw [enter4 tab _ h (hx _) rfl]
  simp only [exR_seq, exR_ret, exR_skip, exR_exit, exR_scope, exR_label, exR_block, exS_cond, branchS_true, branchS_false, andThen_normal, andThen_ret, andThen_exit, unblock_normal, unblock_ret, unblock_exit, norm_some, runS_op, runS_nil, contS_some, wantedS_none, wantedS_some, isB_bool, guardS_true, guardS_false, putS_some, putS_none, sput_some, ev_tmp, ev_func, ev_bool, ev_int, ev_str, ev_snil, ev_pnil, ev_mnil, ev_fnil, ev_inil, op_move, op_assign, op_pick, op_build, op_nil, op_bin, op_un, op_func, op_slice, op_faddr, op_field, op_iaddr, op_index, op_extract, op_load, op_lookup, op_alloc, op_box, op_row, op_make, op_map, op_range, op_store, op_insert, op_update, op_next, op_conv, same_some, pushed_some, op_call, op_callv, callS_some, withL_some, callV_func, op_len, op_append, op_copy, evs_nil, evs_cons, consO_some, Tr.get_set, ofArgs, getD_some, Nat.reduceLT, Nat.reduceEqDiff, Nat.reduceAdd, Nat.zero_add, ↓reduceIte, oPick, oBin, binD, binInt, intBin, iKind, unD, oUn, opConv, clsConv, oConv, convD, oLen, lenD, parts_nil, parts_cons, consP_some, finish_ret, finish_normal, pack_nil, pack_one, pack_two, pack_three, results_nil, results_tmp, results_cell, oRow, rowD, rowTo, denseD, oAlloc, oBox, oNil, oFunc, oExtract, oAppend, toList_mk, Nat.one_mul, cells_bool, cells_int, cells_str, cells_ptr, cells_slice, cells_map, cells_func, cells_fnil, cells_inil, cells_agg, beq_self_eq_true, Bool.and_true, Bool.true_and, Bool.and_self, List.length_cons, List.length_nil, List.append_nil, List.nil_append, List.cons_append, Nat.reduceMul, Nat.ble_eq, Nat.reduceLeDiff, ptrTo, mapTo, p4_0, r4_0, p4_1, r4_1, b4, ti5, ti9, ti22, ti24, ti28, oStr, na, nb, strOf, subD, ng_eq, Nat.not_lt.2 ha, Nat.not_lt.2 hb, ga, gb, sub_bs, byteList_bs, binStr, strBin, sEql]

def numL (n : Nat) : List UInt8 := if n < 128 then [UInt8.ofNat n] else UInt8.ofNat (n % 128 + 128) :: numL (n / 128)
termination_by n
decreasing_by omega

theorem or128 (n : Nat) : IntKind.u8.wrap ↑(BitVec.ofInt IntKind.u8.bits (IntKind.u8.wrap (n : Int)) ||| BitVec.ofInt IntKind.u8.bits 128).toNat = ((UInt8.ofNat (n % 128 + 128)).toNat : Int) := by
  have key : ∀ m : Fin 256, (BitVec.ofInt 8 (m.val : Int) ||| BitVec.ofInt 8 128).toNat = m.val % 128 + 128 := by decide
  have hw : IntKind.u8.wrap (n : Int) = ((n % 256 : Nat) : Int) := by rw [IntKind.wrap_u8]; omega
  rw [hw]
  have hm := key ⟨n % 256, Nat.mod_lt _ (by decide)⟩
  show IntKind.u8.wrap ((BitVec.ofInt 8 ((n % 256 : Nat) : Int) ||| BitVec.ofInt 8 128).toNat : Int) = _
  rw [hm, IntKind.wrap_u8]
  simp only [UInt8.toNat_ofNat']
  omega

theorem u64_nat (n : Nat) (h : n < 18446744073709551616) : IntKind.u64.wrap (n : Int) = n := IntWalk.u64_in _ ⟨by omega, by omega⟩

theorem shr7 (n : Nat) : iShr .u64 (n : Int) 7 = some (.int .u64 ((n / 128 : Nat) : Int)) := by
  unfold iShr
  rw [if_neg (by decide)]
  have h1 : (2 : Int) ^ (min (7 : Int).toNat IntKind.u64.bits) = 128 := rfl
  have h2 : (n : Int).fdiv 128 = ((n / 128 : Nat) : Int) := by rw [Int.fdiv_eq_ediv_of_nonneg _ (by decide)]; rfl
  rw [h1, h2]

theorem rem128 (n : Nat) : iRem .u64 (n : Int) 128 = some (.int .u64 ((n % 128 : Nat) : Int)) := by
  unfold iRem
  rw [if_neg (by decide)]
  rfl
theorem quo128 (n : Nat) (h : n < 18446744073709551616) : iQuo .u64 (n : Int) 128 = some (.int .u64 ((n / 128 : Nat) : Int)) := by
  unfold iQuo
  rw [if_neg (by decide)]
  have h2 : (n : Int).tdiv 128 = ((n / 128 : Nat) : Int) := rfl
  rw [h2, u64_nat _ (by omega)]
theorem low128 (n : Nat) : iAdd .u8 (IntKind.u8.wrap ((n % 128 : Nat) : Int)) 128 = some (.int .u8 ((UInt8.ofNat (n % 128 + 128)).toNat : Int)) := by
  unfold iAdd
  rw [IntKind.wrap_u8, IntKind.wrap_u8, UInt8.toNat_ofNat']
  congr 2
  omega

noncomputable def loop5 : Code := (.loop (.seq (.seq rg5_2 (.cond (Operand.tmp 5) .skip (.exit 0))) (.block 1 (.seq rg5_3 rg5_4))))

theorem num5_exit (tab : Tab) (n : Nat) (tm : Tr Value) (h : H) (v : Value) (hlt : n < 128) (t0 : tm.get 0 = some (.int .u64 n)) (t3 : tm.get 3 = some v) :
    ∃ tm', exR (EV tab) loop5 ⟨false, 19, tm, h⟩ = some (.exit 0, ⟨false, 19, tm', h⟩) ∧ tm'.get 0 = some (.int .u64 n) ∧ tm'.get 3 = some v := by
  have hge : ¬ (128 : Int) ≤ n := by omega
  generalize he : exR (EV tab) loop5 ⟨false, 19, tm, h⟩ = r
  rw [loop5, exR_loop] at he
  simp only [exR_seq, exR_ret, exR_skip, exR_exit, exR_scope, exR_label, exR_block, exS_cond, branchS_true, branchS_false, andThen_normal, andThen_ret, andThen_exit, unblock_normal, unblock_ret, unblock_exit, norm_some, runS_op, runS_nil, contS_some, wantedS_none, wantedS_some, isB_bool, guardS_true, guardS_false, putS_some, putS_none, sput_some, ev_tmp, ev_func, ev_bool, ev_int, ev_str, ev_snil, ev_pnil, ev_mnil, ev_fnil, ev_inil, op_move, op_assign, op_pick, op_build, op_nil, op_bin, op_un, op_func, op_slice, op_faddr, op_field, op_iaddr, op_index, op_extract, op_load, op_lookup, op_alloc, op_box, op_row, op_make, op_map, op_range, op_store, op_insert, op_update, op_next, op_conv, same_some, pushed_some, op_call, op_callv, callS_some, withL_some, callV_func, op_len, op_append, op_copy, evs_nil, evs_cons, consO_some, Tr.get_set, ofArgs, getD_some, Nat.reduceLT, Nat.reduceEqDiff, Nat.reduceAdd, Nat.zero_add, ↓reduceIte, oPick, oBin, binD, binInt, intBin, iKind, unD, oUn, opConv, clsConv, oConv, convD, oLen, lenD, parts_nil, parts_cons, consP_some, finish_ret, finish_normal, pack_nil, pack_one, pack_two, pack_three, results_nil, results_tmp, results_cell, oRow, rowD, rowTo, denseD, oAlloc, oBox, oNil, oFunc, oExtract, oAppend, toList_mk, Nat.one_mul, cells_bool, cells_int, cells_str, cells_ptr, cells_slice, cells_map, cells_func, cells_fnil, cells_inil, cells_agg, beq_self_eq_true, Bool.and_true, Bool.true_and, Bool.and_self, List.length_cons, List.length_nil, List.append_nil, List.nil_append, List.cons_append, Nat.reduceMul, Nat.ble_eq, Nat.reduceLeDiff, ptrTo, mapTo, p5_0, r5_0, p5_1, r5_1, p5_2, r5_2, p5_3, r5_3, p5_4, r5_4, p5_5, r5_5, b5, ti5, ti9, ti22, ti24, ti28, t0, t3, iGeq, ge_iff_le, hge, decide_false] at he
  subst he
  exact ⟨_, rfl, by simp only [Tr.get_set, Nat.reduceEqDiff, ↓reduceIte, t0], by simp only [Tr.get_set, Nat.reduceEqDiff, ↓reduceIte, t3]⟩

theorem new_bytes (tab : Tab) (h : H) (l : List UInt8) (n b c : Nat) (hb : 17 ≤ b) (hg : h.get b = some (.cells 5 1 (bs l))) (hn : l.length = n) (z : List Value) : newD (EV tab) h z 1 false (.slice (some ⟨b, 0, none⟩) n c) = some (bs l, n) := by
  subst hn
  unfold newD
  simp only [Bool.false_eq_true, if_false, lenOfD, srcD, subD, ng_eq, Nat.not_lt.2 hb, Nat.mul_one, hg, sub_bs]

theorem num5_round (tab : Tab) (h0 : H) (hng : 17 ≤ h0.next) (n : Nat) (tm : Tr Value) (h : H) (v : Value) (l : List UInt8) (hlt : ¬ n < 128) (hu : n < 18446744073709551616) (t0 : tm.get 0 = some (.int .u64 n)) (t3 : tm.get 3 = some v)
    (hr : Row h0 h 5 1 v l.length (bs l)) (hk : Kept h0 h) (hl : l.length ≤ 1000) :
    ∃ tm' h' v', exR (EV tab) loop5 ⟨false, 19, tm, h⟩ = exR (EV tab) loop5 ⟨false, 19, tm', h'⟩ ∧ tm'.get 0 = some (.int .u64 ((n / 128 : Nat) : Int)) ∧ tm'.get 3 = some v' ∧
      Row h0 h' 5 1 v' (l ++ [UInt8.ofNat (n % 128 + 128)]).length (bs (l ++ [UInt8.ofNat (n % 128 + 128)])) ∧ Kept h0 h' := by
  have hge : (128 : Int) ≤ n := by omega
  obtain ⟨v', h', e, r, k⟩ := append_row (E := EV tab) (t := 24) (ti24 tab) rfl (ti5 tab) rfl (by rw [bt_eq]; decide) hng (hr.kept (Kept.push (Kept.refl h) (.cells 5 1 (bs [UInt8.ofNat (n % 128 + 128)])))) (hk.push _)
    (new_bytes tab (h.push (.cells 5 1 (bs [UInt8.ofNat (n % 128 + 128)]))) [UInt8.ofNat (n % 128 + 128)] 1 h.next 3 (Nat.le_trans hng hk.le) (H.get_push_self _ _) rfl _) (bs_one _) (by decide) (by omega) rfl
  generalize he : exR (EV tab) loop5 ⟨false, 19, tm, h⟩ = r0
  rw [loop5, exR_loop] at he
  have e' : appendD (EV tab) (h.push (Obj.cells 5 1 [Value.int IntKind.u8 ↑(UInt8.ofNat (n % 128 + 128)).toNat])) 24 false v (Value.slice (some { block := h.next, off := 0 }) 1 3) = some (v', h') := e
  simp only [exR_seq, exR_ret, exR_skip, exR_exit, exR_scope, exR_label, exR_block, exS_cond, branchS_true, branchS_false, andThen_normal, andThen_ret, andThen_exit, unblock_normal, unblock_ret, unblock_exit, norm_some, runS_op, runS_nil, contS_some, wantedS_none, wantedS_some, isB_bool, guardS_true, guardS_false, putS_some, putS_none, sput_some, ev_tmp, ev_func, ev_bool, ev_int, ev_str, ev_snil, ev_pnil, ev_mnil, ev_fnil, ev_inil, op_move, op_assign, op_pick, op_build, op_nil, op_bin, op_un, op_func, op_slice, op_faddr, op_field, op_iaddr, op_index, op_extract, op_load, op_lookup, op_alloc, op_box, op_row, op_make, op_map, op_range, op_store, op_insert, op_update, op_next, op_conv, same_some, pushed_some, op_call, op_callv, callS_some, withL_some, callV_func, op_len, op_append, op_copy, evs_nil, evs_cons, consO_some, Tr.get_set, ofArgs, getD_some, Nat.reduceLT, Nat.reduceEqDiff, Nat.reduceAdd, Nat.zero_add, ↓reduceIte, oPick, oBin, binD, binInt, intBin, iKind, unD, oUn, opConv, clsConv, oConv, convD, oLen, lenD, parts_nil, parts_cons, consP_some, finish_ret, finish_normal, pack_nil, pack_one, pack_two, pack_three, results_nil, results_tmp, results_cell, oRow, rowD, rowTo, denseD, oAlloc, oBox, oNil, oFunc, oExtract, oAppend, toList_mk, Nat.one_mul, cells_bool, cells_int, cells_str, cells_ptr, cells_slice, cells_map, cells_func, cells_fnil, cells_inil, cells_agg, beq_self_eq_true, Bool.and_true, Bool.true_and, Bool.and_self, List.length_cons, List.length_nil, List.append_nil, List.nil_append, List.cons_append, Nat.reduceMul, Nat.ble_eq, Nat.reduceLeDiff, ptrTo, mapTo, p5_0, r5_0, p5_1, r5_1, p5_2, r5_2, p5_3, r5_3, p5_4, r5_4, p5_5, r5_5, b5, ti5, ti9, ti22, ti24, ti28, t0, t3, iGeq, ge_iff_le, hge, decide_true, iOr, or128, shr7 n, e'] at he
  subst he
  refine ⟨_, h', v', rfl, by simp only [Tr.get_set, Nat.reduceEqDiff, ↓reduceIte], by simp only [Tr.get_set, Nat.reduceEqDiff, ↓reduceIte], ?_, k⟩
  rw [bs_append, List.length_append]
  exact r

theorem num5_loop (tab : Tab) (h0 : H) (hng : 17 ≤ h0.next) : ∀ (k n : Nat) (tm : Tr Value) (h : H) (v : Value) (l : List UInt8), n < 128 ^ (k + 1) → n < 18446744073709551616 → tm.get 0 = some (.int .u64 n) → tm.get 3 = some v →
    Row h0 h 5 1 v l.length (bs l) → Kept h0 h → l.length + k ≤ 1000 →
    ∃ tm' h' v' n' pre, exR (EV tab) loop5 ⟨false, 19, tm, h⟩ = some (.exit 0, ⟨false, 19, tm', h'⟩) ∧
      tm'.get 0 = some (.int .u64 (n' : Nat)) ∧ tm'.get 3 = some v' ∧ n' < 128 ∧ numL n = pre ++ [UInt8.ofNat n'] ∧ Row h0 h' 5 1 v' (l ++ pre).length (bs (l ++ pre)) ∧ Kept h0 h' ∧ (l ++ pre).length ≤ 1000 := by
  intro k
  induction k with
  | zero =>
    intro n tm h v l hn hu t0 t3 hr hk hl
    obtain ⟨tm', e, a, b⟩ := num5_exit tab n tm h v hn t0 t3
    exact ⟨tm', h, v, n, [], e, a, b, hn, by rw [numL, if_pos hn]; rfl, by simpa using hr, hk, by simpa using hl⟩
  | succ k ih =>
    intro n tm h v l hn hu t0 t3 hr hk hl
    by_cases hlt : n < 128
    · obtain ⟨tm', e, a, b⟩ := num5_exit tab n tm h v hlt t0 t3
      exact ⟨tm', h, v, n, [], e, a, b, hlt, by rw [numL, if_pos hlt]; rfl, by simpa using hr, hk, by simp; omega⟩
    · obtain ⟨tm1, h1, v1, e, a, b, r, kk⟩ := num5_round tab h0 hng n tm h v l hlt hu t0 t3 hr hk (by omega)
      rw [e, numL, if_neg hlt]
      obtain ⟨tm', h', v', n', pre, x1, x2, x3, x4, x5, x6, x7, x8⟩ := ih (n / 128) tm1 h1 v1 _ (Nat.div_lt_of_lt_mul (by rw [Nat.pow_succ, Nat.mul_comm] at hn; exact hn)) (by omega) a b r kk (by simp; omega)
      exact ⟨tm', h', v', n', UInt8.ofNat (n % 128 + 128) :: pre, x1, x2, x3, x4, by rw [x5]; rfl, by simpa using x6, x7, by simpa using x8⟩

/-- stackmachine.Number. -/
theorem num5 (tab : Tab) (hx : ∀ l, callExt (EV tab) 5 l = none) (n : Nat) (hu : n < 18446744073709551616) (h : H) (hng : 17 ≤ h.next) :
    ∃ v' h', callR (EV tab) 5 [.int .u64 n] h = some (v', h') ∧ Row h h' 5 1 v' (numL n).length (bs (numL n)) ∧ Kept h h' := by
  generalize he : callR (EV tab) 5 [.int .u64 n] h = r0
  rw [enter5 tab _ h (hx _) rfl, b5] at he
  obtain ⟨tm1, h1, v1, n1, pre, x1, x2, x3, x4, x5, x6, x7, x8⟩ := num5_loop tab h hng 9 n (((Tr.leaf.set 0 (.int .u64 n)).set 2 (.slice none 0 0)).set 3 (.slice none 0 0)) h (.slice none 0 0) [] (by omega) hu
    (by simp only [Tr.get_set, Nat.reduceEqDiff, ↓reduceIte]) (by simp only [Tr.get_set, Nat.reduceEqDiff, ↓reduceIte]) (Row.nil _ _ _ _) (Kept.refl h) (by decide)
  have hw : IntKind.u8.wrap (n1 : Int) = ((UInt8.ofNat n1).toNat : Int) := by rw [IntKind.wrap_u8, UInt8.toNat_ofNat']; omega
  obtain ⟨v2, h2, e, r, k⟩ := append_row (E := EV tab) (t := 24) (ti24 tab) rfl (ti5 tab) rfl (by rw [bt_eq]; decide) hng (x6.kept (Kept.push (Kept.refl h1) (.cells 5 1 (bs [UInt8.ofNat n1])))) (x7.push _)
    (new_bytes tab (h1.push (.cells 5 1 (bs [UInt8.ofNat n1]))) [UInt8.ofNat n1] 1 h1.next 3 (Nat.le_trans hng x7.le) (H.get_push_self _ _) rfl _) (bs_one _) (by decide) (by omega) rfl
  have e' : appendD (EV tab) (h1.push (Obj.cells 5 1 [Value.int IntKind.u8 ↑(UInt8.ofNat n1).toNat])) 24 false v1 (Value.slice (some { block := h1.next, off := 0 }) 1 3) = some (v2, h2) := e
  have x1' := x1
  rw [loop5] at x1'
  simp only [exR_seq, exR_block, r5_0, r5_1, p5_0, p5_1, runS_op, runS_nil, contS_some, wantedS_none, guardS_true, op_assign, ev_snil, same_some, putS_some, Nat.reduceLT, norm_some, andThen_normal, ofArgs, x1', unblock_exit, if_true] at he
  simp only [exR_seq, exR_ret, exR_skip, exR_exit, exR_scope, exR_label, exR_block, exS_cond, branchS_true, branchS_false, andThen_normal, andThen_ret, andThen_exit, unblock_normal, unblock_ret, unblock_exit, norm_some, runS_op, runS_nil, contS_some, wantedS_none, wantedS_some, isB_bool, guardS_true, guardS_false, putS_some, putS_none, sput_some, ev_tmp, ev_func, ev_bool, ev_int, ev_str, ev_snil, ev_pnil, ev_mnil, ev_fnil, ev_inil, op_move, op_assign, op_pick, op_build, op_nil, op_bin, op_un, op_func, op_slice, op_faddr, op_field, op_iaddr, op_index, op_extract, op_load, op_lookup, op_alloc, op_box, op_row, op_make, op_map, op_range, op_store, op_insert, op_update, op_next, op_conv, same_some, pushed_some, op_call, op_callv, callS_some, withL_some, callV_func, op_len, op_append, op_copy, evs_nil, evs_cons, consO_some, Tr.get_set, ofArgs, getD_some, Nat.reduceLT, Nat.reduceEqDiff, Nat.reduceAdd, Nat.zero_add, ↓reduceIte, oPick, oBin, binD, binInt, intBin, iKind, unD, oUn, opConv, clsConv, oConv, convD, oLen, lenD, parts_nil, parts_cons, consP_some, finish_ret, finish_normal, pack_nil, pack_one, pack_two, pack_three, results_nil, results_tmp, results_cell, oRow, rowD, rowTo, denseD, oAlloc, oBox, oNil, oFunc, oExtract, oAppend, toList_mk, Nat.one_mul, cells_bool, cells_int, cells_str, cells_ptr, cells_slice, cells_map, cells_func, cells_fnil, cells_inil, cells_agg, beq_self_eq_true, Bool.and_true, Bool.true_and, Bool.and_self, List.length_cons, List.length_nil, List.append_nil, List.nil_append, List.cons_append, Nat.reduceMul, Nat.ble_eq, Nat.reduceLeDiff, ptrTo, mapTo, r5_5, p5_5, ti5, ti9, ti22, ti24, ti28, x2, x3, hw, e'] at he
  subst he
  refine ⟨v2, h2, rfl, ?_, k⟩
  rw [List.nil_append] at r
  rw [x5, bs_append, List.length_append]
  exact r

/-- Bytes that the run has made since 'h0'. -/
def Bytes (h0 h : H) (v : Value) (l : List UInt8) : Prop :=
  ∃ b c, v = .slice (some ⟨b, 0, none⟩) l.length c ∧ h0.next ≤ b ∧ b < h.next ∧ h.get b = some (.cells 5 1 (bs l))

theorem low6 (n : Nat) (h : n < 128) : IntKind.u8.wrap (n : Int) = ((UInt8.ofNat n).toNat : Int) := by rw [IntKind.wrap_u8, UInt8.toNat_ofNat']; omega
theorem numL_ne (n : Nat) : (numL n).length ≠ 0 := by rw [numL]; split <;> simp
theorem numL_le : ∀ (k n : Nat), n < 128 ^ (k + 1) → (numL n).length ≤ k + 1
  | 0, n, h => by rw [numL, if_pos h]; simp
  | k + 1, n, h => by
    rw [numL]
    split
    · simp
    · have := numL_le k (n / 128) (Nat.div_lt_of_lt_mul (by rw [Nat.pow_succ, Nat.mul_comm] at h; exact h))
      simp only [List.length_cons]; omega

/-- bowlineref26.Number. -/
theorem num6 (tab : Tab) (hx : ∀ l, callExt (EV tab) 6 l = none) : ∀ (k n : Nat) (h : H), n < 128 ^ (k + 1) → k ≤ 100 → n < 18446744073709551616 → 17 ≤ h.next →
    ∃ v' h', callR (EV tab) 6 [.int .u64 n] h = some (v', h') ∧ Bytes h h' v' (numL n) ∧ Kept h h'
  | 0, n, h, hk, _, hu, hng => by
    have hlt : (n : Int) < 128 := by omega
    generalize he : callR (EV tab) 6 [.int .u64 n] h = r0
    rw [enter6 tab _ h (hx _) rfl] at he
    simp only [exR_seq, exR_ret, exR_skip, exR_exit, exR_scope, exR_label, exR_block, exS_cond, branchS_true, branchS_false, andThen_normal, andThen_ret, andThen_exit, unblock_normal, unblock_ret, unblock_exit, norm_some, runS_op, runS_nil, contS_some, wantedS_none, wantedS_some, isB_bool, guardS_true, guardS_false, putS_some, putS_none, sput_some, ev_tmp, ev_func, ev_bool, ev_int, ev_str, ev_snil, ev_pnil, ev_mnil, ev_fnil, ev_inil, op_move, op_assign, op_pick, op_build, op_nil, op_bin, op_un, op_func, op_slice, op_faddr, op_field, op_iaddr, op_index, op_extract, op_load, op_lookup, op_alloc, op_box, op_row, op_make, op_map, op_range, op_store, op_insert, op_update, op_next, op_conv, same_some, pushed_some, op_call, op_callv, callS_some, withL_some, callV_func, op_len, op_append, op_copy, evs_nil, evs_cons, consO_some, Tr.get_set, ofArgs, getD_some, Nat.reduceLT, Nat.reduceEqDiff, Nat.reduceAdd, Nat.zero_add, ↓reduceIte, oPick, oBin, binD, binInt, intBin, iKind, unD, oUn, opConv, clsConv, oConv, convD, oLen, lenD, parts_nil, parts_cons, consP_some, finish_ret, finish_normal, pack_nil, pack_one, pack_two, pack_three, results_nil, results_tmp, results_cell, oRow, rowD, rowTo, denseD, oAlloc, oBox, oNil, oFunc, oExtract, oAppend, toList_mk, Nat.one_mul, cells_bool, cells_int, cells_str, cells_ptr, cells_slice, cells_map, cells_func, cells_fnil, cells_inil, cells_agg, beq_self_eq_true, Bool.and_true, Bool.true_and, Bool.and_self, List.length_cons, List.length_nil, List.append_nil, List.nil_append, List.cons_append, Nat.reduceMul, Nat.ble_eq, Nat.reduceLeDiff, ptrTo, mapTo, p6_0, r6_0, p6_1, r6_1, p6_2, r6_2, p6_3, r6_3, b6, ti5, ti9, ti22, ti24, ti28, iLss, hlt, decide_true, low6 n hk] at he
    subst he
    refine ⟨_, _, rfl, ⟨h.next, 3, ?_, Nat.le_refl _, Nat.lt_succ_self _, ?_⟩, (Kept.refl h).push _⟩
    · rw [numL, if_pos hk]; rfl
    · rw [numL, if_pos hk]; exact H.get_push_self _ _
  | k + 1, n, h, hk, hk1, hu, hng => by
    by_cases hlt0 : n < 128
    · have hlt : (n : Int) < 128 := by omega
      generalize he : callR (EV tab) 6 [.int .u64 n] h = r0
      rw [enter6 tab _ h (hx _) rfl] at he
      simp only [exR_seq, exR_ret, exR_skip, exR_exit, exR_scope, exR_label, exR_block, exS_cond, branchS_true, branchS_false, andThen_normal, andThen_ret, andThen_exit, unblock_normal, unblock_ret, unblock_exit, norm_some, runS_op, runS_nil, contS_some, wantedS_none, wantedS_some, isB_bool, guardS_true, guardS_false, putS_some, putS_none, sput_some, ev_tmp, ev_func, ev_bool, ev_int, ev_str, ev_snil, ev_pnil, ev_mnil, ev_fnil, ev_inil, op_move, op_assign, op_pick, op_build, op_nil, op_bin, op_un, op_func, op_slice, op_faddr, op_field, op_iaddr, op_index, op_extract, op_load, op_lookup, op_alloc, op_box, op_row, op_make, op_map, op_range, op_store, op_insert, op_update, op_next, op_conv, same_some, pushed_some, op_call, op_callv, callS_some, withL_some, callV_func, op_len, op_append, op_copy, evs_nil, evs_cons, consO_some, Tr.get_set, ofArgs, getD_some, Nat.reduceLT, Nat.reduceEqDiff, Nat.reduceAdd, Nat.zero_add, ↓reduceIte, oPick, oBin, binD, binInt, intBin, iKind, unD, oUn, opConv, clsConv, oConv, convD, oLen, lenD, parts_nil, parts_cons, consP_some, finish_ret, finish_normal, pack_nil, pack_one, pack_two, pack_three, results_nil, results_tmp, results_cell, oRow, rowD, rowTo, denseD, oAlloc, oBox, oNil, oFunc, oExtract, oAppend, toList_mk, Nat.one_mul, cells_bool, cells_int, cells_str, cells_ptr, cells_slice, cells_map, cells_func, cells_fnil, cells_inil, cells_agg, beq_self_eq_true, Bool.and_true, Bool.true_and, Bool.and_self, List.length_cons, List.length_nil, List.append_nil, List.nil_append, List.cons_append, Nat.reduceMul, Nat.ble_eq, Nat.reduceLeDiff, ptrTo, mapTo, p6_0, r6_0, p6_1, r6_1, p6_2, r6_2, p6_3, r6_3, b6, ti5, ti9, ti22, ti24, ti28, iLss, hlt, decide_true, low6 n hlt0] at he
      subst he
      refine ⟨_, _, rfl, ⟨h.next, 3, ?_, Nat.le_refl _, Nat.lt_succ_self _, ?_⟩, (Kept.refl h).push _⟩
      · rw [numL, if_pos hlt0]; rfl
      · rw [numL, if_pos hlt0]; exact H.get_push_self _ _
    · have hlt : ¬ (n : Int) < 128 := by omega
      have hk2 : n / 128 < 128 ^ (k + 1) := Nat.div_lt_of_lt_mul (by rw [Nat.pow_succ, Nat.mul_comm] at hk; exact hk)
      obtain ⟨v1, h1, e1, ⟨b, c, rfl, hb1, hb2, hb3⟩, k1⟩ := num6 tab hx k (n / 128) (h.push (.cells 5 1 [.int .u8 ((UInt8.ofNat (n % 128 + 128)).toNat : Int)])) hk2 (by omega) (by omega) (by rw [H.next_push]; omega)
      rw [H.next_push] at hb1
      have hg : h1.get h.next = some (.cells 5 1 [.int .u8 ((UInt8.ofNat (n % 128 + 128)).toNat : Int)]) := by
        rw [k1.get _ (by rw [H.next_push]; omega)]; exact H.get_push_self _ _
      have hnw := new_bytes tab h1 (numL (n / 128)) _ b c (by omega) hb3 rfl
      have hl1 := numL_ne (n / 128)
      have hl2 := numL_le k (n / 128) hk2
      have hap : appendD (EV tab) h1 24 false (.slice (some ⟨h.next, 0, none⟩) 1 3) (.slice (some ⟨b, 0, none⟩) (numL (n / 128)).length c) =
          some (.slice (some ⟨h1.next, 0, none⟩) (1 + (numL (n / 128)).length) 0, h1.push (.cells 5 1 ([.int .u8 ((UInt8.ofNat (n % 128 + 128)).toNat : Int)] ++ bs (numL (n / 128))))) :=
        append_full (ti24 tab) rfl (ti5 tab) rfl (show 17 ≤ h.next from hng) hg rfl (hnw _) (bs_one _) (by omega) (by decide) (by rw [bs_length, Nat.mul_one]) (by decide) (by omega)
      have hnl : numL n = UInt8.ofNat (n % 128 + 128) :: numL (n / 128) := by rw [numL, if_neg hlt0]
      generalize he : callR (EV tab) 6 [.int .u64 n] h = r0
      rw [enter6 tab _ h (hx _) rfl] at he
      simp only [exR_seq, exR_ret, exR_skip, exR_exit, exR_scope, exR_label, exR_block, exS_cond, branchS_true, branchS_false, andThen_normal, andThen_ret, andThen_exit, unblock_normal, unblock_ret, unblock_exit, norm_some, runS_op, runS_nil, contS_some, wantedS_none, wantedS_some, isB_bool, guardS_true, guardS_false, putS_some, putS_none, sput_some, ev_tmp, ev_func, ev_bool, ev_int, ev_str, ev_snil, ev_pnil, ev_mnil, ev_fnil, ev_inil, op_move, op_assign, op_pick, op_build, op_nil, op_bin, op_un, op_func, op_slice, op_faddr, op_field, op_iaddr, op_index, op_extract, op_load, op_lookup, op_alloc, op_box, op_row, op_make, op_map, op_range, op_store, op_insert, op_update, op_next, op_conv, same_some, pushed_some, op_call, op_callv, callS_some, withL_some, callV_func, op_len, op_append, op_copy, evs_nil, evs_cons, consO_some, Tr.get_set, ofArgs, getD_some, Nat.reduceLT, Nat.reduceEqDiff, Nat.reduceAdd, Nat.zero_add, ↓reduceIte, oPick, oBin, binD, binInt, intBin, iKind, unD, oUn, opConv, clsConv, oConv, convD, oLen, lenD, parts_nil, parts_cons, consP_some, finish_ret, finish_normal, pack_nil, pack_one, pack_two, pack_three, results_nil, results_tmp, results_cell, oRow, rowD, rowTo, denseD, oAlloc, oBox, oNil, oFunc, oExtract, oAppend, toList_mk, Nat.one_mul, cells_bool, cells_int, cells_str, cells_ptr, cells_slice, cells_map, cells_func, cells_fnil, cells_inil, cells_agg, beq_self_eq_true, Bool.and_true, Bool.true_and, Bool.and_self, List.length_cons, List.length_nil, List.append_nil, List.nil_append, List.cons_append, Nat.reduceMul, Nat.ble_eq, Nat.reduceLeDiff, ptrTo, mapTo, p6_0, r6_0, p6_1, r6_1, p6_2, r6_2, p6_3, r6_3, b6, ti5, ti9, ti22, ti24, ti28, iLss, hlt, decide_false, rem128, quo128 n hu, low128, e1, hap] at he
      subst he
      refine ⟨_, _, rfl, ⟨h1.next, 0, ?_, ?_, Nat.lt_succ_self _, ?_⟩, ?_⟩
      · rw [hnl, List.length_cons, Nat.add_comm 1]
      · have := k1.le; rw [H.next_push] at this; omega
      · rw [H.get_push_self, hnl]; rfl
      · exact ((((Kept.refl h).push _).trans k1).push _)

theorem callR_ext {E : Env} {f : Nat} {args : List Value} {v : Value} (hc : E.chk f = false) (hx : callExt E f args = some v) (h : H) : callR E f args h = some (v, h) := by
  unfold callR callD
  rw [if_neg (by rw [hc]; decide), hx]

/-- The table of the statement's run: awake() answers true. -/
def tabN : Tab := fun f args => bif Nat.beq f 7 then (match args with | [] => some (.bool true) | _ => none) else none

theorem numbers_run (n : Nat) (hu : n < 18446744073709551616) (h : H) (hng : 17 ≤ h.next) : ∃ h', callR (EV tabN) 3 [.int .u64 n] h = some (.bool true, h') := by
  obtain ⟨v1, h1, e1, r1, k1⟩ := num5 tabN (fun _ => rfl) n hu h hng
  rcases r1 with ⟨_, r0, _⟩ | ⟨b, rfl, r2, r3, r4, _⟩
  · exact absurd r0 (numL_ne n)
  obtain ⟨v2, h2, e2, ⟨c, d, rfl, q1, q2, q3⟩, k2⟩ := num6 tabN (fun _ => rfl) 9 n h1 (by omega) (by decide) hu (Nat.le_trans hng k1.le)
  have e3 := same4 tabN (fun _ => rfl) b c (numL n) (numL n) 0 d h2 (Nat.le_trans hng r2) (Nat.le_trans (Nat.le_trans hng k1.le) q1) (numL_ne n) (numL_ne n) (by rw [k2.get b r3]; exact r4) q3
  have e4 : callR (EV tabN) 7 [] h2 = some (.bool true, h2) := callR_ext rfl rfl h2
  generalize he : callR (EV tabN) 3 [.int .u64 n] h = r0
  rw [enter3 tabN _ h rfl rfl] at he
  simp only [exR_seq, exR_ret, exR_skip, exR_exit, exR_scope, exR_label, exR_block, exS_cond, branchS_true, branchS_false, andThen_normal, andThen_ret, andThen_exit, unblock_normal, unblock_ret, unblock_exit, norm_some, runS_op, runS_nil, contS_some, wantedS_none, wantedS_some, isB_bool, guardS_true, guardS_false, putS_some, putS_none, sput_some, ev_tmp, ev_func, ev_bool, ev_int, ev_str, ev_snil, ev_pnil, ev_mnil, ev_fnil, ev_inil, op_move, op_assign, op_pick, op_build, op_nil, op_bin, op_un, op_func, op_slice, op_faddr, op_field, op_iaddr, op_index, op_extract, op_load, op_lookup, op_alloc, op_box, op_row, op_make, op_map, op_range, op_store, op_insert, op_update, op_next, op_conv, same_some, pushed_some, op_call, op_callv, callS_some, withL_some, callV_func, op_len, op_append, op_copy, evs_nil, evs_cons, consO_some, Tr.get_set, ofArgs, getD_some, Nat.reduceLT, Nat.reduceEqDiff, Nat.reduceAdd, Nat.zero_add, ↓reduceIte, oPick, oBin, binD, binInt, intBin, iKind, unD, oUn, opConv, clsConv, oConv, convD, oLen, lenD, parts_nil, parts_cons, consP_some, finish_ret, finish_normal, pack_nil, pack_one, pack_two, pack_three, results_nil, results_tmp, results_cell, oRow, rowD, rowTo, denseD, oAlloc, oBox, oNil, oFunc, oExtract, oAppend, toList_mk, Nat.one_mul, cells_bool, cells_int, cells_str, cells_ptr, cells_slice, cells_map, cells_func, cells_fnil, cells_inil, cells_agg, beq_self_eq_true, Bool.and_true, Bool.true_and, Bool.and_self, List.length_cons, List.length_nil, List.append_nil, List.nil_append, List.cons_append, Nat.reduceMul, Nat.ble_eq, Nat.reduceLeDiff, ptrTo, mapTo, p3_0, r3_0, p3_1, r3_1, b3, ti5, ti9, ti22, ti24, ti28, e1, e2, e3, e4] at he
  subst he
  exact ⟨_, rfl⟩
end Go.D

