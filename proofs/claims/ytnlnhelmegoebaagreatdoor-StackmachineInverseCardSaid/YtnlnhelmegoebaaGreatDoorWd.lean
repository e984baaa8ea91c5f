/- The functions of the law, one after the other: what a run of D answers. -/
import Derived.Test.YtnlnhelmegoebaaGreatDoorWb
import Derived.Test.YtnlnhelmegoebaaGreatDoorFull
import Derived.Test.YtnlnhelmegoebaaGreatDoorW0
import Derived.Laws.RangeString
import Derived.Laws.RangeAny
import Derived.Laws.StructEq
namespace Go.D
open Go.Proofs
set_option maxRecDepth 100000
set_option linter.unusedVariables false
set_option linter.unusedSimpArgs false
/-! ### same -/
def eqIns (x y : Ins) : Bool := x.op == y.op && (x.t == y.t && (x.u == y.u && (x.num == y.num && (x.imm == y.imm && x.size == y.size))))
theorem eq36 (tab : Tab) (x y : Ins) : eqD (EV tab) 40 (.agg ⟨insC x⟩) (.agg ⟨insC y⟩) = some (eqIns x y) := by
  have hq : (EV tab).eqf 40 = true := rfl
  have hn : (((x.num : Nat) : Int) == ((y.num : Nat) : Int)) = (x.num == y.num) := by rw [Bool.eq_iff_iff, beq_iff_eq, beq_iff_eq]; omega
  have hb : ∀ a b : List UInt8, (({ data := ⟨a⟩ } : ByteArray) == { data := ⟨b⟩ }) = (a == b) := fun a b => by rw [beq_toListBytes, bs_beq]
  simp only [eqD, ti40, hq, insC, insL, sameKinds, beq_self_eq_true, Bool.and_self, if_true, eqCells, hb, hn, eqIns]
  cases x.op == y.op <;> cases x.t == y.t <;> cases x.u == y.u <;> cases x.num == y.num <;> cases x.imm == y.imm <;> cases x.size == y.size <;> simp
/-! ### same, the loop -/

theorem insC_veq (x : Ins) : veq 3 (.agg ⟨insC x⟩) (.agg ⟨insC x⟩) = true := insL_veq ..
theorem eqIns_iff (x y : Ins) : eqIns x y = true ↔ x = y := by
  cases x; cases y
  simp [eqIns]
noncomputable def saLoop : Code := .loop (.seq rg9_4 (.seq (.cond (Operand.tmp 14) .skip (Code.exit 0)) (.seq (.block 1 (.seq rg9_5 (.seq rg9_6 (.cond (Operand.tmp 24) (.seq rg9_7 .ret) .skip)))) rg9_8)))
theorem sa_loop (tab : Tab) (h : H) (b o c b2 o2 c2 : Nat) (l m : List Ins) (hm1 : Mem tab h b o (cellsI l)) (hm2 : Mem tab h b2 o2 (cellsI m)) (hl : m.length = l.length) (hn : l.length ≤ 1000000) :
    ∀ (k i : Nat) (tm : Tr Value), i + k = l.length → tm.get 0 = some (.slice (some ⟨b, o, none⟩) l.length c) → tm.get 1 = some (.slice (some ⟨b2, o2, none⟩) l.length c2) → tm.get 12 = some (.int .i64 l.length) → tm.get 13 = some (.int .i64 i) →
    ∃ tm', (exR (EV tab) saLoop ⟨false, 26, tm, h⟩ = some (.exit 0, ⟨false, 26, tm', h⟩) ∧ l.drop i = m.drop i) ∨ (exR (EV tab) saLoop ⟨false, 26, tm, h⟩ = some (.ret, ⟨false, 26, tm', h⟩) ∧ l.drop i ≠ m.drop i ∧ tm'.get 4 = some (.bool false)) := by
  intro k
  induction k with
  | zero =>
    intro i tm hk t0 t1 t12 t13
    have hlt : ¬ i < l.length := by omega
    generalize he : exR (EV tab) saLoop ⟨false, 26, tm, h⟩ = r
    rw [saLoop, exR_loop] at he
    simp only [sS, ofArgs, Int.reduceLT, Int.reduceLE, Int.reduceToNat, Int.reduceEq, readD, Nat.reduceLT, Nat.reduceEqDiff, Nat.reduceAdd, ↓reduceIte, binD, binInt, intBin, unD, convD, oLen, denseD, oFunc, oAppend, Nat.reduceMul, Nat.reduceLeDiff, fF9, tTGa, tTGb, t12, t13, iLss, Int.ofNat_lt, hlt, decide_false] at he
    subst he
    exact ⟨_, .inl ⟨rfl, by rw [List.drop_eq_nil_of_le (by omega), List.drop_eq_nil_of_le (by omega)]⟩⟩
  | succ k ih =>
    intro i tm hk t0 t1 t12 t13
    have hlt : i < l.length := by omega
    have hlt2 : i < m.length := by omega
    have hd : l.drop i = l[i] :: l.drop (i + 1) := (List.getElem_cons_drop hlt).symm
    have hd2 : m.drop i = m[i] :: m.drop (i + 1) := (List.getElem_cons_drop hlt2).symm
    have s1 := hm1.ins i hlt
    have s2 := hm2.ins i hlt2
    have e := eq36 tab l[i] m[i]
    have v1 := insC_veq l[i]
    have v2 := insC_veq m[i]
    rw [hd, hd2]
    cases q : eqIns l[i] m[i] with
    | true =>
      have hq := (eqIns_iff _ _).1 q
      obtain ⟨tm1, e1, a0, a1, a12, a13⟩ : ∃ tm1, exR (EV tab) saLoop ⟨false, 26, tm, h⟩ = exR (EV tab) saLoop ⟨false, 26, tm1, h⟩ ∧ tm1.get 0 = some (.slice (some ⟨b, o, none⟩) l.length c) ∧ tm1.get 1 = some (.slice (some ⟨b2, o2, none⟩) l.length c2) ∧ tm1.get 12 = some (.int .i64 l.length) ∧ tm1.get 13 = some (.int .i64 ((i + 1 : Nat) : Int)) := by
        generalize he : exR (EV tab) saLoop ⟨false, 26, tm, h⟩ = r
        rw [saLoop, exR_loop] at he
        simp only [sS, ofArgs, Int.reduceLT, Int.reduceLE, Int.reduceToNat, Int.reduceEq, readD, Nat.reduceLT, Nat.reduceEqDiff, Nat.reduceAdd, ↓reduceIte, binD, binInt, intBin, unD, convD, oLen, denseD, oFunc, oAppend, Nat.reduceMul, Nat.reduceLeDiff, fF9, tTGa, tTGb, sN, sO, loadD, isAggD, storeD, Obj.row, Obj.len, putL, Obj.put, fieldAddrD, indexAddrD, fieldD, indexD, placeOf, fillD, Nat.reduceSub, Nat.reduceLT, Nat.reduceBEq, Nat.reduceMod, Nat.reduceDiv, reduceCtorEq, ng_eq, tabL_ng, t0, t1, t12, t13, iLss, Int.ofNat_lt, hlt, decide_true, Int.natCast_nonneg, and_self, Int.toNat_natCast, s1, s2, eqBin, eqOut, e, q, v1, v2, if_true, Bool.not_true, add1 i (by omega)] at he
        subst he
        refine ⟨_, rfl, ?_, ?_, ?_, ?_⟩ <;> simp only [Tr.get_set, Nat.reduceEqDiff, ↓reduceIte, t0, t1, t12]
      obtain ⟨tm', x⟩ := ih (i + 1) tm1 (by omega) a0 a1 a12 a13
      rw [e1]
      refine ⟨tm', x.imp (fun x => ⟨x.1, by rw [hq, x.2]⟩) (fun x => ⟨x.1, fun hh => x.2.1 (List.cons.inj hh).2, x.2.2⟩)⟩
    | false =>
      generalize he : exR (EV tab) saLoop ⟨false, 26, tm, h⟩ = r
      rw [saLoop, exR_loop] at he
      simp only [sS, ofArgs, Int.reduceLT, Int.reduceLE, Int.reduceToNat, Int.reduceEq, readD, Nat.reduceLT, Nat.reduceEqDiff, Nat.reduceAdd, ↓reduceIte, binD, binInt, intBin, unD, convD, oLen, denseD, oFunc, oAppend, Nat.reduceMul, Nat.reduceLeDiff, fF9, tTGa, tTGb, sN, sO, loadD, isAggD, storeD, Obj.row, Obj.len, putL, Obj.put, fieldAddrD, indexAddrD, fieldD, indexD, placeOf, fillD, Nat.reduceSub, Nat.reduceLT, Nat.reduceBEq, Nat.reduceMod, Nat.reduceDiv, reduceCtorEq, ng_eq, tabL_ng, t0, t1, t12, t13, iLss, Int.ofNat_lt, hlt, decide_true, Int.natCast_nonneg, and_self, Int.toNat_natCast, s1, s2, eqBin, eqOut, e, q, v1, v2, if_true, Bool.not_false] at he
      subst he
      exact ⟨_, .inr ⟨rfl, fun hh => absurd ((eqIns_iff _ _).2 (List.cons.inj hh).1) (by rw [q]; decide), by simp only [Tr.get_set, Nat.reduceEqDiff, ↓reduceIte]⟩⟩
/-! ### same, joined -/

open Classical in
noncomputable def sameB (l m : List Ins) : Bool := decide (l = m)
theorem sameB_t {l m : List Ins} (h : l = m) : sameB l m = true := by simp [sameB, h]
theorem sameB_f {l m : List Ins} (h : ¬ l = m) : sameB l m = false := by simp [sameB, h]
theorem sameI_run (tab : Tab) (hx : ∀ l, callExt (EV tab) 9 l = none) (h : H) (v w : Value) (l m : List Ins) (hv : InS tab h v 40 l) (hw : InS tab h w 40 m) (hn : l.length ≤ 1000000) :
    callR (EV tab) 9 [v, w] h = some (.bool (sameB l m), h) := by
  have lv : ∃ a c, v = .slice a l.length c := by
    rcases hv with ⟨rfl, rfl⟩ | ⟨b, o, c, rfl, _⟩
    · exact ⟨_, _, rfl⟩
    · exact ⟨_, _, rfl⟩
  have lw : ∃ a c, w = .slice a m.length c := by
    rcases hw with ⟨rfl, rfl⟩ | ⟨b, o, c, rfl, _⟩
    · exact ⟨_, _, rfl⟩
    · exact ⟨_, _, rfl⟩
  by_cases q : l.length = m.length
  · have z : (((l.length : Nat) : Int) != ((m.length : Nat) : Int)) = false := by rw [q, bne_self_eq_false]
    by_cases q0 : l = []
    · subst q0
      have hm : m = [] := List.eq_nil_of_length_eq_zero q.symm
      subst hm
      obtain ⟨a, c, rfl⟩ := lv
      obtain ⟨a2, c2, rfl⟩ := lw
      have z0 : ((0 : Int) != 0) = false := rfl
      generalize he : callR _ _ _ _ = r
      rw [enter9 _ _ _ (hx _) rfl] at he
      simp only [sS, ofArgs, Int.reduceLT, Int.reduceLE, Int.reduceToNat, Int.reduceEq, readD, Nat.reduceLT, Nat.reduceEqDiff, Nat.reduceAdd, ↓reduceIte, binD, binInt, intBin, unD, convD, oLen, denseD, oFunc, oAppend, Nat.reduceMul, Nat.reduceLeDiff, fF9, tTGa, tTGb, sN, subD, loadD, isAggD, Obj.sub, Obj.get?, storeD, Obj.row, Obj.len, putL, Obj.put, fieldAddrD, indexAddrD, fieldD, indexD, placeOf, fillD, Nat.reduceSub, Nat.reduceLT, Nat.reduceBEq, Nat.reduceMod, Nat.reduceDiv, reduceCtorEq, exR_loop, ng_eq, tabL_ng, iLss, iNeq, z0, Int.cast_ofNat_Int, Int.reduceLT, decide_false, Int.lt_irrefl] at he
      subst he
      rw [sameB_t rfl]
    · rcases hv with ⟨_, rfl⟩ | ⟨b, o, c, rfl, hm1⟩
      · exact absurd rfl q0
      · rcases hw with ⟨_, rfl⟩ | ⟨b3, o3, c3, rfl, hm2⟩
        · exact absurd (List.eq_nil_of_length_eq_zero q) q0
        · have key : ∀ tm h1, (h1 = h ∧ tm.get 0 = some (.slice (some ⟨b, o, none⟩) l.length c) ∧ tm.get 1 = some (.slice (some ⟨b3, o3, none⟩) l.length c3) ∧ tm.get 12 = some (.int .i64 l.length) ∧ tm.get 13 = some (.int .i64 0)) → ∃ x s', exR (EV tab) saLoop ⟨false, 26, tm, h1⟩ = some (x, s') ∧
              ((x = .exit 0 ∧ ∃ tm', s' = ⟨false, 26, tm', h⟩ ∧ l = m) ∨ (x = .ret ∧ ∃ tm', s' = ⟨false, 26, tm', h⟩ ∧ l ≠ m ∧ tm'.get 4 = some (.bool false))) := fun tm h1 p => by
            obtain ⟨rfl, p0, p1, p2, p3⟩ := p
            obtain ⟨tm', ⟨e, x⟩ | ⟨e, x, y⟩⟩ := sa_loop tab h1 b o c b3 o3 c3 l m hm1 hm2 q.symm hn l.length 0 tm (by omega) p0 p1 p2 p3
            · exact ⟨_, _, e, .inl ⟨rfl, tm', rfl, by simpa using x⟩⟩
            · exact ⟨_, _, e, .inr ⟨rfl, tm', rfl, by simpa using x, y⟩⟩
          rw [← q]
          rw [← q] at z
          generalize he : callR _ _ _ _ = r
          rw [enter9 _ _ _ (hx _) rfl] at he
          simp only [sS, ofArgs, Int.reduceLT, Int.reduceLE, Int.reduceToNat, Int.reduceEq, readD, Nat.reduceLT, Nat.reduceEqDiff, Nat.reduceAdd, ↓reduceIte, binD, binInt, intBin, unD, convD, oLen, denseD, oFunc, oAppend, Nat.reduceMul, Nat.reduceLeDiff, b9, p9_0, r9_0, p9_1, r9_1, p9_3, r9_3, tTGa, tTGb, iNeq, z] at he
          obtain ⟨x1, s1, ⟨rfl, tm', rfl, y⟩ | ⟨rfl, tm', rfl, y, y2⟩, he⟩ := use_run key (fun o => finish (EV tab) [ResultVar.tmp 4] (andThen (unblock 0 o) (exR (EV tab) (.seq rg9_9 .ret)))) he (by
            refine ⟨rfl, ?_, ?_, ?_, ?_⟩ <;> simp only [Tr.get_set, Nat.reduceEqDiff, ↓reduceIte])
          · simp only [sS, ofArgs, Int.reduceLT, Int.reduceLE, Int.reduceToNat, Int.reduceEq, readD, Nat.reduceLT, Nat.reduceEqDiff, Nat.reduceAdd, ↓reduceIte, binD, binInt, intBin, unD, convD, oLen, denseD, oFunc, oAppend, Nat.reduceMul, Nat.reduceLeDiff, fF9, tTGa, tTGb] at he
            subst he
            rw [sameB_t y]
          · simp only [sS, ofArgs, Int.reduceLT, Int.reduceLE, Int.reduceToNat, Int.reduceEq, readD, Nat.reduceLT, Nat.reduceEqDiff, Nat.reduceAdd, ↓reduceIte, binD, binInt, intBin, unD, convD, oLen, denseD, oFunc, oAppend, Nat.reduceMul, Nat.reduceLeDiff, fF9, tTGa, tTGb, y2] at he
            subst he
            rw [sameB_f y]
  · have z : (((l.length : Nat) : Int) != ((m.length : Nat) : Int)) = true := by rw [bne_iff_ne]; omega
    obtain ⟨a, c, rfl⟩ := lv
    obtain ⟨a2, c2, rfl⟩ := lw
    generalize he : callR _ _ _ _ = r
    rw [enter9 _ _ _ (hx _) rfl] at he
    simp only [sS, ofArgs, Int.reduceLT, Int.reduceLE, Int.reduceToNat, Int.reduceEq, readD, Nat.reduceLT, Nat.reduceEqDiff, Nat.reduceAdd, ↓reduceIte, binD, binInt, intBin, unD, convD, oLen, denseD, oFunc, oAppend, Nat.reduceMul, Nat.reduceLeDiff, fF9, tTGa, tTGb, sN, subD, loadD, isAggD, Obj.sub, Obj.get?, storeD, Obj.row, Obj.len, putL, Obj.put, fieldAddrD, indexAddrD, fieldD, indexD, placeOf, fillD, Nat.reduceSub, Nat.reduceLT, Nat.reduceBEq, Nat.reduceMod, Nat.reduceDiv, reduceCtorEq, ng_eq, tabL_ng, iNeq, z] at he
    subst he
    rw [sameB_f (fun h => q (by rw [h]))]
/-! ### Bytes at an offset -/
theorem bs_get (l : List UInt8) (i : Nat) (hi : i < l.length) : (bs l)[i]? = some (.int .u8 (l[i].toNat : Nat)) := by
  rw [bs, List.getElem?_map, List.getElem?_eq_getElem hi]; rfl
/-- A row that may be cut: one that was there, with a known capacity, or one of the run's. -/
def Cut (tab : Tab) (h : H) (b c n : Nat) : Prop := (b < tab.ng ∧ c ≠ 0 ∧ n ≤ c / 2) ∨ (tab.ng ≤ b ∧ (∃ ob, h.get b = some ob ∧ ob.row = some (5, 1)) ∧ (c = 0 ∨ n ≤ c / 2))
/-- A slice of bytes that may be cut. -/
def BT (tab : Tab) (h : H) (v : Value) (l : List UInt8) : Prop :=
  (v = .slice none 0 0 ∧ l = []) ∨ ∃ (b o c : Nat), v = .slice (some ⟨b, o, none⟩) l.length c ∧ Mem tab h b o (bs l) ∧ Cut tab h b c l.length
/-- No row of bytes. -/
def NB (h : H) (p : Nat) : Prop := ∀ ob, h.get p = some ob → ob.row ≠ some (5, 1)
theorem nb_cells {h : H} {p e z : Nat} {l : List Value} (hg : h.get p = some (.cells e z l)) (hz : ¬ (e = 5 ∧ z = 1)) : NB h p := fun ob ho hr => by
  rw [hg] at ho
  cases ho
  simp only [Obj.row, Option.some.injEq, Prod.mk.injEq] at hr
  exact hz hr
theorem nb_iter {h : H} {p : Nat} {t : ByteArray} {i : Nat} (hg : h.get p = some (.iter t i)) : NB h p := fun ob ho hr => by
  rw [hg] at ho
  cases ho
  cases hr
/-- All but one block is as it was. -/
structure KeptX (p : Nat) (h h' : H) : Prop where
  le : h.next ≤ h'.next
  get : ∀ c, c < h.next → c ≠ p → h'.get c = h.get c
theorem KeptX.refl (p : Nat) (h : H) : KeptX p h h := ⟨Nat.le_refl _, fun _ _ _ => rfl⟩
theorem KeptX.trans {p : Nat} {a b c : H} (x : KeptX p a b) (y : KeptX p b c) : KeptX p a c := ⟨Nat.le_trans x.le y.le, fun d hd hp => (y.get d (Nat.lt_of_lt_of_le hd x.le) hp).trans (x.get d hd hp)⟩
theorem Kept.x {h h' : H} (k : Kept h h') (p : Nat) : KeptX p h h' := ⟨k.le, fun c hc _ => k.get c hc⟩
theorem KeptX.put {p : Nat} {h h' : H} (k : KeptX p h h') (o : Obj) : KeptX p h (h'.put p o) := ⟨k.le, fun c hc hp => by rw [H.get_put, if_neg (Ne.symm hp)]; exact k.get c hc hp⟩
theorem KeptX.push {p : Nat} {h h' : H} (k : KeptX p h h') (o : Obj) : KeptX p h (h'.push o) := ⟨by rw [H.next_push]; exact Nat.le_succ_of_le k.le, fun c hc hp => by rw [H.get_push_lt h' o (Nat.lt_of_lt_of_le hc k.le)]; exact k.get c hc hp⟩
theorem KeptX.kept {p : Nat} {h0 h h' : H} (k : KeptX p h h') (k0 : Kept h0 h) (hp : h0.next ≤ p) : Kept h0 h' :=
  ⟨Nat.le_trans k0.le k.le, fun c hc => (k.get c (Nat.lt_of_lt_of_le hc k0.le) (by omega)).trans (k0.get c hc)⟩
/-- Bytes stay where another kind of block changes. -/
theorem BT.keptX {tab : Tab} {h h' : H} {v : Value} {l : List UInt8} (i : BT tab h v l) {p : Nat} (k : KeptX p h h') (hp : NB h p) : BT tab h' v l := by
  rcases i with i | ⟨b, o, c, i1, m, t⟩
  · exact .inl i
  · rcases t with ⟨t1, t2⟩ | ⟨t1, ⟨ob, t2, t3⟩, t4⟩
    · exact .inr ⟨b, o, c, i1, ⟨.inl t1, fun i v hv => by have := m.at_ i v hv; unfold cellAt at this ⊢; rw [if_pos t1] at this ⊢; exact this⟩, .inl ⟨t1, t2⟩⟩
    · have hne : b ≠ p := by rintro rfl; exact hp ob t2 t3
      rcases m.al with q | ⟨q, q2⟩
      · omega
      · have e := k.get b q hne
        exact .inr ⟨b, o, c, i1, ⟨.inr ⟨Nat.lt_of_lt_of_le q k.le, by rw [e]; exact q2⟩, fun i v hv => by have := m.at_ i v hv; unfold cellAt at this ⊢; rw [e]; exact this⟩, .inr ⟨t1, ⟨ob, by rw [e]; exact t2, t3⟩, t4⟩⟩
theorem BT.kept {tab : Tab} {h h' : H} {v : Value} {l : List UInt8} (i : BT tab h v l) (k : Kept h h') : BT tab h' v l := by
  rcases i with i | ⟨b, o, c, i1, m, t⟩
  · exact .inl i
  · refine .inr ⟨b, o, c, i1, m.kept k, ?_⟩
    rcases t with t | ⟨t1, ⟨ob, t2, t3⟩, t4⟩
    · exact .inl t
    · rcases m.al with q | ⟨q, _⟩
      · omega
      · exact .inr ⟨t1, ⟨ob, by rw [k.get b q]; exact t2, t3⟩, t4⟩
theorem BT.len {tab : Tab} {h : H} {v : Value} {l : List UInt8} (i : BT tab h v l) : ∃ a c, v = .slice a l.length c := by
  rcases i with ⟨rfl, rfl⟩ | ⟨b, o, c, rfl, _⟩
  · exact ⟨_, _, rfl⟩
  · exact ⟨_, _, rfl⟩
theorem bt_cells {tab : Tab} {h : H} {b c : Nat} {l : List UInt8} (hb : tab.ng ≤ b) (hlt : b < h.next) (hg : h.get b = some (.cells 5 1 (bs l))) (hc : c = 0 ∨ l.length ≤ c / 2) : BT tab h (.slice (some ⟨b, 0, none⟩) l.length c) l :=
  .inr ⟨b, 0, c, rfl, mem_cells hb hlt hg, .inr ⟨hb, ⟨_, hg, rfl⟩, hc⟩⟩
theorem BT.bs {tab : Tab} {h : H} {v : Value} {l : List UInt8} (i : BT tab h v l) : BS tab h v l := by
  rcases i with i | ⟨b, o, c, i1, m, _⟩
  · exact .inl i
  · exact .inr ⟨b, o, c, i1, m⟩
theorem Row.bt {tab : Tab} {h0 h : H} {v : Value} {l : List UInt8} {n : Nat} (hn : n = l.length) (r : Row h0 h 5 1 v n (Go.D.bs l)) (hng : tab.ng ≤ h0.next) : BT tab h v l := by
  subst hn
  rcases r with ⟨r1, r2, _⟩ | ⟨b, rfl, r2, r3, r4, _⟩
  · exact .inl ⟨r1, List.eq_nil_of_length_eq_zero r2⟩
  · exact bt_cells (by omega) r3 r4 (.inl rfl)
def natV (n : Nat) : Value := .int .i64 (n : Int)
theorem slice_bt (tab : Tab) {h : H} {v : Value} {l : List UInt8} (i : BT tab h v l) (lo hi : Option Nat) (h1 : lo.getD 0 ≤ hi.getD l.length) (h2 : hi.getD l.length ≤ l.length) :
    ∃ v', sliceD (EV tab) h 23 v (lo.map natV) (hi.map natV) none = some v' ∧ BT tab h v' ((l.take (hi.getD l.length)).drop (lo.getD 0)) := by
  have bo : ∀ (o : Option Nat) (y d : Nat), o.getD d ≤ y → boundO (o.map natV) y d = some (o.getD d) := fun o y d hd => by
    cases o with
    | none => rfl
    | some n =>
      show boundD (.int .i64 (n : Nat)) y = some n
      have : (0 : Int) ≤ n ∧ (n : Int) ≤ y := by simp at hd; omega
      simp only [boundD]
      rw [if_pos this, Int.toNat_natCast]
  have boN : ∀ y d, boundO none y d = some d := fun _ _ => rfl
  rcases i with ⟨rfl, rfl⟩ | ⟨b, o, c, rfl, m, t⟩
  · simp only [List.length_nil, Nat.le_zero] at h1 h2
    rw [h2, Nat.le_zero] at h1
    refine ⟨.slice none 0 0, ?_, .inl ⟨rfl, by simp⟩⟩
    have b1 := bo hi 0 0 (by omega)
    have b2 := bo lo 0 0 (by omega)
    simp only [sliceD, ti23, ti5, sliceOf, sliceNil, b1, b2]
    rfl
  · have e0 : sliceD (EV tab) h 23 (.slice (some ⟨b, o, none⟩) l.length c) (lo.map natV) (hi.map natV) none = sliceRow b o l.length c 1 (lo.map natV) (hi.map natV) none := by
      rcases t with ⟨t1, t2, t3⟩ | ⟨t1, ⟨ob, t2, t3⟩, t4⟩
      · simp only [sliceD, ti23, ti5, sliceOf, ng_eq, if_pos t1, if_neg t2]
      · simp only [sliceD, ti23, ti5, sliceOf, ng_eq, if_neg (Nat.not_lt.2 t1), t2, t3, if_true]
    have i6 : c = 0 ∨ l.length ≤ c / 2 := by
      rcases t with ⟨_, _, t3⟩ | ⟨_, _, t4⟩
      · exact .inr t3
      · exact t4
    have hcutt : ∀ c' n', (c' = 0 → c = 0) → (c' = 0 ∨ n' ≤ c' / 2) → Cut tab h b c' n' := fun c' n' hc1 hc2 => by
      rcases t with ⟨t1, t2, t3⟩ | ⟨t1, t2, t4⟩
      · have hne : c' ≠ 0 := fun h0 => t2 (hc1 h0)
        exact .inl ⟨t1, hne, hc2.resolve_left hne⟩
      · exact .inr ⟨t1, t2, hc2⟩
    generalize ht : hi.getD l.length = t0 at h1 h2 ⊢
    generalize hs : lo.getD 0 = s at h1 ⊢
    have hl : ((l.take t0).drop s).length = t0 - s := by rw [List.length_drop, List.length_take]; omega
    have hcut : l = l.take s ++ (((l.take t0).drop s) ++ l.drop t0) := by
      have e1 : l.take s = (l.take t0).take s := by rw [List.take_take, Nat.min_eq_left h1]
      rw [← List.append_assoc, e1, List.take_append_drop, List.take_append_drop]
    have mm : Mem tab h b (o + s * 1) (bs ((l.take t0).drop s)) := by
      have m' := m
      rw [hcut, bs_append, bs_append] at m'
      exact m'.part (by rw [bs_length, List.length_take]; omega)
    rw [e0]
    unfold sliceRow
    by_cases q : c = 0
    · have b1 := bo hi l.length l.length (by omega)
      have b2 := bo lo t0 0 (by omega)
      simp only [if_pos q, boN, b1, ht, b2, hs]
      subst q
      exact ⟨_, rfl, .inr ⟨b, o + s * 1, 0, by rw [hl], mm, hcutt 0 _ (fun _ => rfl) (.inl rfl)⟩⟩
    · have hc : l.length ≤ c / 2 := by omega
      have b1 := bo hi (c / 2) l.length (by omega)
      have b2 := bo lo t0 0 (by omega)
      have z : (c = 0 && Option.isNone (none : Option Value)) = false := by simp [q]
      simp only [if_neg q, boN, b1, ht, b2, hs, Option.isSome_none, Bool.false_and, Bool.false_eq_true, if_false, z]
      by_cases q2 : c / 2 = s
      · rw [if_pos q2]
        have hl0 : (l.take t0).drop s = [] := List.eq_nil_of_length_eq_zero (by omega)
        refine ⟨_, rfl, .inr ⟨b, o, _, by rw [hl], ?_, hcutt _ _ (fun h0 => by omega) (.inr (by rw [hl]; omega))⟩⟩
        rw [hl0]
        exact ⟨m.al, fun i v hv => by cases hv⟩
      · rw [if_neg q2]
        exact ⟨_, rfl, .inr ⟨b, o + s * 1, _, by rw [hl], mm, hcutt _ _ (fun h0 => by omega) (.inr (by rw [hl]; omega))⟩⟩
/-- The i-th byte. -/
theorem Mem.byte {tab : Tab} {h : H} {b o : Nat} {l : List UInt8} (m : Mem tab h b o (bs l)) (i : Nat) (hi : i < l.length) : subD (EV tab) h b (o + i) 1 = some [.int .u8 (l[i].toNat : Nat)] := by
  have e : l = l.take i ++ ([l[i]] ++ l.drop (i + 1)) := by
    show l = l.take i ++ (l[i] :: l.drop (i + 1))
    rw [List.getElem_cons_drop hi, List.take_append_drop]
  have m' := m
  rw [e, bs_append, bs_append] at m'
  exact (m'.part (by rw [bs_length, List.length_take]; omega)).all
/-- The reader: where it stands, its error. -/
def RD (N ty : Nat) (h : H) (p : Nat) (v : Value) (e : Int) : Prop := N ≤ p ∧ p < h.next ∧ h.get p = some (.cells ty 2 [v, .int .i64 e])
theorem repl_u8 : ∀ n, repl [Value.int .u8 0] n = bs (List.replicate n 0)
  | 0 => rfl
  | n + 1 => by rw [repl, repl_u8 n]; simp [bs, List.replicate_succ]
/-! ### The law of reading -/
/-! ### What a reader reads -/
abbrev Rd := List UInt8 × Int
def dec2 (n : Nat) : List UInt8 := if n < 10 then [UInt8.ofNat (48 + n)] else [UInt8.ofNat (48 + n / 10), UInt8.ofNat (48 + n % 10)]
def typS (c : Nat) : Option (List UInt8) :=
  if c ≤ 64 then some (117 :: dec2 c) else if c ≤ 128 then some (105 :: dec2 (c - 64)) else if c = 129 then some F32 else if c = 130 then some F64 else if c = 131 then some PTR else if c = 255 then some [] else none
def takeR (n : Nat) (r : Rd) : List UInt8 × Rd :=
  if r.2 ≠ 0 ∨ r.1.length < n then (List.replicate n 0, (r.1, if r.2 = 0 then 39 else r.2)) else (r.1.take n, (r.1.drop n, 0))
def numG : List UInt8 → Nat → Nat → Nat × Rd
  | [], _, _ => (0, ([], 39))
  | b :: l, i, out => if (i = 9 ∧ 1 < b.toNat) ∨ (0 < i ∧ b.toNat = 0) then (0, (l, 1)) else
    if b.toNat < 128 then (out + b.toNat * 128 ^ i, (l, 0)) else numG l (i + 1) (out + (b.toNat - 128) * 128 ^ i)
def numI (r : Rd) : Nat × Rd := if r.2 ≠ 0 then (0, r) else numG r.1 0 0
def smallI (r : Rd) : Nat × Rd := if 2 ^ 62 < (numI r).1 then (0, ((numI r).2.1, if (numI r).2.2 = 0 then 1 else (numI r).2.2)) else numI r
def leN : List UInt8 → Nat
  | [] => 0
  | b :: l => b.toNat + 256 * leN l
def fixI (k : Nat) (r : Rd) : Nat × Rd := (leN (takeR k r).1, (takeR k r).2)
def sgnN (n : Nat) : Int := if n % 2 = 1 then -((n / 2 + 1 : Nat) : Int) else ((n / 2 : Nat) : Int)
def signI (r : Rd) : Int × Rd := (sgnN (smallI r).1, (smallI r).2)
def typI (r : Rd) : List UInt8 × Rd :=
  if (takeR 1 r).2.2 ≠ 0 then ([], (takeR 1 r).2) else match typS ((takeR 1 r).1.headD 0).toNat with
    | some s => (s, (takeR 1 r).2)
    | none => ([], ((takeR 1 r).2.1, 12))
def s32 (n : Nat) : Int := if n % 4294967296 < 2147483648 then ((n % 4294967296 : Nat) : Int) else ((n % 4294967296 : Nat) : Int) - 4294967296
def readI (c : Nat) (x : Ins) (r : Rd) : Ins × Rd :=
  if c = 84 then ({ x with t := (typI r).1 }, (typI r).2) else if c = 85 then ({ x with u := (typI r).1 }, (typI r).2) else
  if c = 110 ∨ c = 76 then ({ x with num := (numI r).1 }, (numI r).2) else if c = 115 then ({ x with imm := (signI r).1 }, (signI r).2) else
  if c = 100 then ({ x with imm := s32 (fixI 4 r).1 }, (fixI 4 r).2) else if c = 119 then ({ x with num := (fixI 8 r).1 }, (fixI 8 r).2) else
  if c = 80 then ({ x with imm := ((smallI r).1 : Nat) }, (smallI r).2) else ({ x with size := ((smallI r).1 : Nat) }, (smallI r).2)
def foldI : List UInt8 → Ins × Rd → Ins × Rd
  | [], s => s
  | c :: us, s => foldI us (readI c.toNat s.1 s.2)

/-! #### Numbers -/
theorem numL_small {n : Nat} (h : n < 128) : numL n = [UInt8.ofNat n] := by rw [numL, if_pos h]
theorem numL_big {n : Nat} (h : ¬ n < 128) : numL n = UInt8.ofNat (n % 128 + 128) :: numL (n / 128) := by rw [numL, if_neg h]
theorem ofNat_toNat {n : Nat} (h : n < 256) : (UInt8.ofNat n).toNat = n := by simp [Nat.mod_eq_of_lt h]
/-- What is written is read again. -/
theorem numG_numL (rest : List UInt8) : ∀ (k n i out : Nat), n < 128 ^ (k + 1) → i ≤ 9 → n * 128 ^ i < 2 ^ 64 → (0 < i → n ≠ 0) → numG (numL n ++ rest) i out = (out + n * 128 ^ i, (rest, 0))
  | k, n, i, out, hk, hi, hn, h0 => by
    by_cases q : n < 128
    · rw [numL_small q]
      show numG (UInt8.ofNat n :: rest) i out = _
      have e : (UInt8.ofNat n).toNat = n := ofNat_toNat (by omega)
      rw [numG, e, if_neg, if_pos q]
      rintro (⟨rfl, h⟩ | ⟨h1, h2⟩)
      · have : n * 128 ^ 9 ≥ 2 * 128 ^ 9 := Nat.mul_le_mul_right _ (by omega)
        have : (2 : Nat) * 128 ^ 9 = 2 ^ 64 := by decide
        omega
      · exact h0 h1 h2
    · cases k with
      | zero => exact absurd hk (by simpa using q)
      | succ k =>
        rw [numL_big q]
        show numG (UInt8.ofNat (n % 128 + 128) :: (numL (n / 128) ++ rest)) i out = _
        have e : (UInt8.ofNat (n % 128 + 128)).toNat = n % 128 + 128 := ofNat_toNat (by omega)
        have hi9 : i ≠ 9 := by
          rintro rfl
          have : n * 128 ^ 9 ≥ 128 * 128 ^ 9 := Nat.mul_le_mul_right _ (by omega)
          have : (128 : Nat) * 128 ^ 9 > 2 ^ 64 := by decide
          omega
        have hp : n / 128 * 128 ^ (i + 1) ≤ n * 128 ^ i := by
          rw [Nat.pow_succ, Nat.mul_comm (128 ^ i) 128, ← Nat.mul_assoc]
          exact Nat.mul_le_mul_right _ (Nat.div_mul_le_self n 128)
        rw [numG, e, if_neg (by omega), if_neg (by omega), numG_numL rest k (n / 128) (i + 1) _ (by rw [Nat.pow_succ] at hk; omega) (by omega) (by omega) (by omega)]
        have key : out + (n % 128 + 128 - 128) * 128 ^ i + n / 128 * 128 ^ (i + 1) = out + n * 128 ^ i := by
          have h1 : n % 128 + 128 - 128 = n % 128 := by omega
          have h2 : n / 128 * (128 ^ i * 128) = (n / 128 * 128) * 128 ^ i := by rw [Nat.mul_comm (128 ^ i) 128, ← Nat.mul_assoc]
          have h3 : n % 128 + n / 128 * 128 = n := by omega
          rw [h1, Nat.pow_succ, Nat.add_assoc, h2, ← Nat.add_mul, h3]
        rw [key]
theorem numI_numL (n : Nat) (hn : n < 2 ^ 64) (rest : List UInt8) : numI (numL n ++ rest, 0) = (n, (rest, 0)) := by
  unfold numI
  rw [if_neg (by simp)]
  have := numG_numL rest 9 n 0 0 (Nat.lt_of_lt_of_le hn (by decide)) (by omega) (by rw [Nat.pow_zero, Nat.mul_one]; exact hn) (by omega)
  rw [Nat.pow_zero, Nat.mul_one, Nat.zero_add] at this
  exact this
/-- What is read is what would be written. -/
theorem numG_inv : ∀ (l : List UInt8) (i out n : Nat) (l' : List UInt8), numG l i out = (n, (l', 0)) → ∃ m, l = numL m ++ l' ∧ n = out + m * 128 ^ i ∧ (0 < i → m ≠ 0) ∧ (i = 9 → m < 2)
  | [], i, out, n, l', h => by
    rw [numG] at h
    have := congrArg (fun p => p.2.2) h
    exact absurd this (by show ¬ (39 : Int) = 0; decide)
  | b :: l, i, out, n, l', h => by
    rw [numG] at h
    by_cases q1 : (i = 9 ∧ 1 < b.toNat) ∨ (0 < i ∧ b.toNat = 0)
    · rw [if_pos q1] at h
      have := congrArg (fun p => p.2.2) h
      exact absurd this (by show ¬ (1 : Int) = 0; decide)
    · rw [if_neg q1] at h
      by_cases q2 : b.toNat < 128
      · rw [if_pos q2] at h
        have h1 : out + b.toNat * 128 ^ i = n := congrArg (fun p => p.1) h
        have h2 : l = l' := congrArg (fun p => p.2.1) h
        refine ⟨b.toNat, ?_, h1.symm, fun hi hb => q1 (.inr ⟨hi, hb⟩), fun hi => ?_⟩
        · rw [numL_small q2, h2]; simp
        · have : ¬ 1 < b.toNat := fun hb => q1 (.inl ⟨hi, hb⟩)
          omega
      · rw [if_neg q2] at h
        obtain ⟨m, e1, e2, e3, e4⟩ := numG_inv l (i + 1) _ n l' h
        have hm := e3 (by omega)
        have hb : b.toNat < 256 := b.toNat_lt
        refine ⟨(b.toNat - 128) + 128 * m, ?_, ?_, fun _ => by omega, fun hi => by exfalso; exact q1 (.inl ⟨hi, by omega⟩)⟩
        · have hn : ¬ (b.toNat - 128) + 128 * m < 128 := by omega
          have h3 : ((b.toNat - 128) + 128 * m) % 128 + 128 = b.toNat := by omega
          have h4 : ((b.toNat - 128) + 128 * m) / 128 = m := by omega
          rw [numL_big hn, h3, h4, e1]
          simp
        · rw [e2, Nat.pow_succ, Nat.add_mul, Nat.add_assoc]
          congr 2
          rw [Nat.mul_comm (128 ^ i) 128, ← Nat.mul_assoc, Nat.mul_comm m 128]
theorem numG_lt : ∀ (l : List UInt8) (i out : Nat), i ≤ 9 → out < 128 ^ i → (numG l i out).1 < 2 ^ 64
  | [], i, out, _, _ => by rw [numG]; exact Nat.two_pow_pos 64
  | b :: l, i, out, hi, ho => by
    rw [numG]
    have hb : b.toNat < 256 := b.toNat_lt
    by_cases q1 : (i = 9 ∧ 1 < b.toNat) ∨ (0 < i ∧ b.toNat = 0)
    · rw [if_pos q1]; exact Nat.two_pow_pos 64
    · rw [if_neg q1]
      by_cases q2 : b.toNat < 128
      · rw [if_pos q2]
        show out + b.toNat * 128 ^ i < 2 ^ 64
        by_cases q9 : i = 9
        · subst q9
          have : b.toNat ≤ 1 := by
            have : ¬ 1 < b.toNat := fun hb => q1 (.inl ⟨rfl, hb⟩)
            omega
          have : b.toNat * 128 ^ 9 ≤ 1 * 128 ^ 9 := Nat.mul_le_mul_right _ this
          have : (128 : Nat) ^ 9 = 2 ^ 63 := by decide
          omega
        · have h2 : b.toNat * 128 ^ i ≤ 127 * 128 ^ i := Nat.mul_le_mul_right _ (by omega)
          have h3 : (128 : Nat) ^ i ≤ 128 ^ 8 := Nat.pow_le_pow_right (by decide) (by omega)
          have h4 : (128 : Nat) ^ 8 = 2 ^ 56 := by decide
          omega
      · rw [if_neg q2]
        by_cases q9 : i = 9
        · exact absurd (Or.inl ⟨q9, by omega⟩) q1
        · refine numG_lt l (i + 1) _ (by omega) ?_
          have h2 : (b.toNat - 128) * 128 ^ i ≤ 127 * 128 ^ i := Nat.mul_le_mul_right _ (by omega)
          rw [Nat.pow_succ]
          omega
theorem numI_lt (r : Rd) : (numI r).1 < 2 ^ 64 := by
  unfold numI
  split
  · show 0 < 2 ^ 64; decide
  · exact numG_lt _ _ _ (by omega) (by simp)
theorem numI_inv {l l' : List UInt8} {n : Nat} (h : numI (l, 0) = (n, (l', 0))) : l = numL n ++ l' := by
  unfold numI at h
  rw [if_neg (by simp)] at h
  obtain ⟨m, e1, e2, _, _⟩ := numG_inv _ _ _ _ _ h
  have : n = m := by simpa using e2
  subst this
  exact e1
theorem smallI_inv {l l' : List UInt8} {n : Nat} (h : smallI (l, 0) = (n, (l', 0))) : l = numL n ++ l' ∧ n ≤ 2 ^ 62 := by
  unfold smallI at h
  by_cases q : 2 ^ 62 < (numI (l, 0)).1
  · rw [if_pos q] at h
    have h2 := congrArg (fun p => p.2.2) h
    simp only at h2
    split at h2
    · cases h2
    · contradiction
  · rw [if_neg q] at h
    have := numI_inv h
    rw [h] at q
    exact ⟨this, by simpa using q⟩
theorem smallI_numL (n : Nat) (hn : n ≤ 2 ^ 62) (rest : List UInt8) : smallI (numL n ++ rest, 0) = (n, (rest, 0)) := by
  unfold smallI
  rw [numI_numL n (by omega) rest, if_neg (by omega)]
/-! #### Signed numbers -/
theorem sgn_zz (s : Int) : sgnN (zz s) = s := by
  unfold zz sgnN
  split
  · rw [if_pos (by omega)]; omega
  · rw [if_neg (by omega)]; omega
theorem zz_sgn (n : Nat) : zz (sgnN n) = n := by
  unfold zz sgnN
  split <;> split <;> omega
theorem zz_le (s : Int) (h : -2147483648 ≤ s ∧ s < 2147483648) : zz s ≤ 2 ^ 62 := by
  unfold zz; split <;> omega
/-! #### Some bytes -/
theorem takeR_ok {n : Nat} {l : List UInt8} (h : n ≤ l.length) : takeR n (l, 0) = (l.take n, (l.drop n, 0)) := by
  unfold takeR
  rw [if_neg (by simp; omega)]
theorem takeR_inv {n : Nat} {l o l' : List UInt8} (h : takeR n (l, 0) = (o, (l', 0))) : l = o ++ l' ∧ o.length = n := by
  unfold takeR at h
  by_cases q : (l, (0 : Int)).2 ≠ 0 ∨ (l, (0 : Int)).1.length < n
  · rw [if_pos q] at h
    have := congrArg (fun p => p.2.2) h
    exact absurd this (by show ¬ (39 : Int) = 0; decide)
  · rw [if_neg q] at h
    have h1 : l.take n = o := congrArg (fun p => p.1) h
    have h2 : l.drop n = l' := congrArg (fun p => p.2.1) h
    subst h1 h2
    simp only [not_or] at q
    refine ⟨(List.take_append_drop n l).symm, ?_⟩
    rw [List.length_take]
    have h3 : ¬ l.length < n := q.2
    omega
theorem fixL_len' : ∀ k n, (fixL n k).length = k
  | 0, _ => rfl
  | k + 1, n => by simp [fixL, fixL_len' k]
theorem leN_fixL : ∀ (k n : Nat), leN (fixL n k) = n % 256 ^ k
  | 0, n => by simp [fixL, leN]; omega
  | k + 1, n => by
    rw [fixL, leN, leN_fixL k, ofNat_toNat (by omega), Nat.pow_succ, Nat.mul_comm (256 ^ k) 256, Nat.mod_mul]
theorem fixL_leN : ∀ (l : List UInt8), fixL (leN l) l.length = l
  | [] => rfl
  | b :: l => by
    have hb : b.toNat < 256 := b.toNat_lt
    rw [List.length_cons, fixL, leN]
    have h1 : (b.toNat + 256 * leN l) % 256 = b.toNat := by omega
    have h2 : (b.toNat + 256 * leN l) / 256 = leN l := by omega
    rw [h1, h2, fixL_leN l]
    simp
theorem leN_lt : ∀ (l : List UInt8), leN l < 256 ^ l.length
  | [] => by simp [leN]
  | b :: l => by
    have hb : b.toNat < 256 := b.toNat_lt
    have := leN_lt l
    rw [List.length_cons, leN, Nat.pow_succ]
    omega
theorem fixI_fixL (k n : Nat) (rest : List UInt8) : fixI k (fixL n k ++ rest, 0) = (n % 256 ^ k, (rest, 0)) := by
  unfold fixI
  have h : k ≤ (fixL n k ++ rest).length := by rw [List.length_append, fixL_len']; omega
  rw [takeR_ok h, List.take_left' (fixL_len' k n), List.drop_left' (fixL_len' k n), leN_fixL]
theorem fixI_inv {k n : Nat} {l l' : List UInt8} (h : fixI k (l, 0) = (n, (l', 0))) : l = fixL n k ++ l' ∧ n < 256 ^ k := by
  unfold fixI at h
  have h1 : leN (takeR k (l, 0)).1 = n := congrArg (fun p => p.1) h
  have h2 : (takeR k (l, 0)).2 = (l', 0) := congrArg (fun p => p.2) h
  obtain ⟨a, b⟩ := takeR_inv (o := (takeR k (l, 0)).1) (l' := l') (n := k) (l := l) (by rw [← h2])
  refine ⟨?_, ?_⟩
  · rw [← h1]
    have := fixL_leN (takeR k (l, 0)).1
    rw [b] at this
    rw [this]; exact a
  · rw [← h1]
    have := leN_lt (takeR k (l, 0)).1
    rwa [b] at this
theorem s32_u64 (s : Int) (h : -2147483648 ≤ s ∧ s < 2147483648) : s32 (u64 s % 256 ^ 4) = s := by
  have e : (256 : Nat) ^ 4 = 4294967296 := by decide
  rw [e]
  unfold s32 u64
  split <;> omega
theorem fixL_mod : ∀ (k n m : Nat), n % 256 ^ k = m % 256 ^ k → fixL n k = fixL m k
  | 0, _, _, _ => rfl
  | k + 1, n, m, h => by
    rw [Nat.pow_succ, Nat.mul_comm, Nat.mod_mul, Nat.mod_mul] at h
    generalize ha : n / 256 % 256 ^ k = a at h
    generalize hb : m / 256 % 256 ^ k = b at h
    have h1 : n % 256 = m % 256 := by omega
    have h2 : n / 256 % 256 ^ k = m / 256 % 256 ^ k := by omega
    rw [fixL, fixL, h1, fixL_mod k _ _ h2]
theorem u64_s32 (n : Nat) (h : n < 256 ^ 4) : fixL (u64 (s32 n)) 4 = fixL n 4 := by
  have e : (256 : Nat) ^ 4 = 4294967296 := by decide
  apply fixL_mod
  rw [e] at h ⊢
  unfold s32 u64
  split <;> omega
/-! #### Types -/
theorem typS_code : (List.range 256).all (fun c => match typS c with | some s => decide (codeT s = (((c : Nat) : Int), 0)) | none => true) = true := by decide +kernel
theorem code_of_typ {c : Nat} {s : List UInt8} (hc : c < 256) (h : typS c = some s) : codeT s = (((c : Nat) : Int), 0) := by
  have := List.all_eq_true.1 typS_code c (List.mem_range.2 hc)
  rw [h] at this
  exact of_decide_eq_true this
/-- Digits without a leading zero, at most three of them, of a value up to 64. -/
theorem digits_of (d : List UInt8) (h : digB d = true) (hl : d.length ≤ 3) (hv : valA 0 d ≤ 64) : d = dec2 (valA 0 d) := by
  have hd : ∀ c : UInt8, isD c = true → ∃ k, k < 10 ∧ c = UInt8.ofNat (48 + k) := fun c hc => by
    simp only [isD, Bool.and_eq_true, decide_eq_true_eq] at hc
    exact ⟨c.toNat - 48, by omega, by rw [show 48 + (c.toNat - 48) = c.toNat by omega]; simp⟩
  have fin1 : ∀ a, a < 10 → digB [UInt8.ofNat (48 + a)] = true → valA 0 [UInt8.ofNat (48 + a)] ≤ 64 → [UInt8.ofNat (48 + a)] = dec2 (valA 0 [UInt8.ofNat (48 + a)]) := by decide +kernel
  have fin2 : ∀ a, a < 10 → ∀ b, b < 10 → digB [UInt8.ofNat (48 + a), UInt8.ofNat (48 + b)] = true → valA 0 [UInt8.ofNat (48 + a), UInt8.ofNat (48 + b)] ≤ 64 →
      [UInt8.ofNat (48 + a), UInt8.ofNat (48 + b)] = dec2 (valA 0 [UInt8.ofNat (48 + a), UInt8.ofNat (48 + b)]) := by decide +kernel
  have h' := h
  unfold digB at h'
  simp only [Bool.and_eq_true] at h'
  obtain ⟨⟨h1, h2⟩, h3⟩ := h'
  rcases d with _ | ⟨a, _ | ⟨b, _ | ⟨c, _ | ⟨e, l⟩⟩⟩⟩
  · simp at h2
  · simp only [List.all_cons, List.all_nil, Bool.and_true] at h1
    obtain ⟨k, hk, rfl⟩ := hd a h1
    exact fin1 k hk h hv
  · simp only [List.all_cons, List.all_nil, Bool.and_true, Bool.and_eq_true] at h1
    obtain ⟨k, hk, ek⟩ := hd a h1.1
    obtain ⟨m, hm, em⟩ := hd b h1.2
    subst ek em
    clear h1 h2 h3 hd fin1 hl
    exact fin2 k hk m hm h hv
  · exfalso
    simp only [List.all_cons, List.all_nil, Bool.and_true, Bool.and_eq_true] at h1
    have ha := h1.1
    simp only [isD, Bool.and_eq_true, decide_eq_true_eq] at ha
    have hz : a.toNat ≠ 48 := by
      intro q
      have e : a = 48 := UInt8.toNat_inj.1 q
      rw [e] at h3
      exact absurd h3 (by simp)
    clear h h1 h2 h3 fin1 fin2 hd
    have hv2 : valA 0 [a, b, c] = ((0 * 10 + (a.toNat - 48)) * 10 + (b.toNat - 48)) * 10 + (c.toNat - 48) := rfl
    rw [hv2] at hv
    omega
  · simp at hl
theorem typ_of_code {s : List UInt8} (h : (codeT s).2 = 0) : typS (codeT s).1.toNat = some s ∧ 0 ≤ (codeT s).1 ∧ (codeT s).1 < 256 := by
  unfold codeT at h ⊢
  by_cases q1 : s = F32
  · subst q1; exact ⟨by decide, by decide, by decide⟩
  by_cases q2 : s = F64
  · subst q2; exact ⟨by decide, by decide, by decide⟩
  by_cases q3 : s = PTR
  · subst q3; exact ⟨by decide, by decide, by decide⟩
  by_cases q4 : s = []
  · subst q4; exact ⟨by decide, by decide, by decide⟩
  rw [if_neg q1, if_neg q2, if_neg q3, if_neg q4] at h ⊢
  by_cases q5 : (opsW s).2 = 0
  · rw [if_pos q5]
    unfold opsW at q5 ⊢
    rw [if_neg q1, if_neg q2, if_neg q3] at q5 ⊢
    cases s with
    | nil => exact absurd rfl q4
    | cons c d =>
      simp only at q5 ⊢
      by_cases q6 : (rdTy (c :: d)).2.2 = 0
      · by_cases q7 : (c = 117 ∨ c = 105) ∧ digB d = true ∧ d.length ≤ 3
        · have e : rdTy (c :: d) = (if 64 < valA 0 d ∨ (valA 0 d = 0 ∧ c = 105) then ((0 : Int), false, (3 : Int)) else (((valA 0 d : Nat) : Int), c == 105, 0)) := by rw [rdTy, if_pos q7]
          by_cases q8 : 64 < valA 0 d ∨ (valA 0 d = 0 ∧ c = 105)
          · rw [e, if_pos q8] at q6; cases q6
          · rw [e, if_neg q8]
            have hv : valA 0 d ≤ 64 := Nat.le_of_not_lt fun hh => q8 (.inl hh)
            have hd := digits_of d q7.2.1 q7.2.2 hv
            have hc : (c :: d).head? = some c := rfl
            rw [hc]
            simp only
            have q71 := q7.1
            have hv0 : c = 105 → valA 0 d ≠ 0 := fun h1 h2 => q8 (.inr ⟨h2, h1⟩)
            clear q8 q7 e q6 q5 q1 q2 q3 q4 h
            rcases q71 with rfl | rfl
            · rw [if_neg (by decide)]
              refine ⟨?_, by omega, by omega⟩
              have : ((valA 0 d : Int) + 0).toNat = valA 0 d := by omega
              rw [this, typS, if_pos (by omega), ← hd]
            · have hv1 := hv0 rfl
              rw [if_pos rfl]
              refine ⟨?_, by omega, by omega⟩
              have : ((valA 0 d : Int) + 64).toNat = valA 0 d + 64 := by omega
              rw [this, typS, if_neg (by omega), if_pos (by omega)]
              have : valA 0 d + 64 - 64 = valA 0 d := by omega
              rw [this, ← hd]
        · rw [rdTy, if_neg q7] at q6; cases q6
      · rw [if_neg q6] at q5; cases q5
  · rw [if_neg q5] at h; cases h
theorem typI_code {t : List UInt8} (h : (codeT t).2 = 0) (rest : List UInt8) : typI ([UInt8.ofNat (codeT t).1.toNat] ++ rest, 0) = (t, (rest, 0)) := by
  obtain ⟨h1, h2, h3⟩ := typ_of_code h
  unfold typI
  rw [takeR_ok (by simp)]
  simp only [ne_eq, not_true_eq_false, if_false]
  have e : (List.headD (List.take 1 ([UInt8.ofNat (codeT t).1.toNat] ++ rest)) 0).toNat = (codeT t).1.toNat := by
    show (UInt8.ofNat (codeT t).1.toNat).toNat = _
    exact ofNat_toNat (by omega)
  rw [e, h1]
  rfl
theorem typI_inv {l l' t : List UInt8} (h : typI (l, 0) = (t, (l', 0))) : l = [UInt8.ofNat (codeT t).1.toNat] ++ l' := by
  unfold typI at h
  by_cases q : (takeR 1 (l, 0)).2.2 ≠ 0
  · rw [if_pos q] at h
    have := congrArg (fun p => p.2.2) h
    exact absurd this q
  · rw [if_neg q] at h
    have q0 : (takeR 1 (l, 0)).2.2 = 0 := Decidable.of_not_not q
    obtain ⟨a, b⟩ := takeR_inv (o := (takeR 1 (l, 0)).1) (l' := (takeR 1 (l, 0)).2.1) (n := 1) (l := l) (by
      exact Prod.ext rfl (Prod.ext rfl q0))
    obtain ⟨c, hc⟩ : ∃ c, (takeR 1 (l, 0)).1 = [c] := List.length_eq_one_iff.1 b
    rw [hc] at h a
    cases ht : typS (List.headD [c] 0).toNat with
    | none =>
      rw [ht] at h
      have := congrArg (fun p => p.2.2) h
      exact absurd this (by show ¬ (12 : Int) = 0; decide)
    | some s =>
      rw [ht] at h
      have h1 : s = t := congrArg (fun p => p.1) h
      have h2 : (takeR 1 (l, 0)).2.1 = l' := congrArg (fun p => p.2.1) h
      subst h1
      have hcc := code_of_typ (c := c.toNat) c.toNat_lt ht
      rw [hcc, a, h2]
      simp
/-! ### Reading what was written, and writing what was read -/
def opX (c : Nat) (x : Ins) : List UInt8 := opB c x.t x.u x.num x.imm x.size
def fld (c : Nat) : Nat := if c = 84 then 0 else if c = 85 then 1 else if c = 110 ∨ c = 76 ∨ c = 119 then 2 else if c = 115 ∨ c = 100 ∨ c = 80 then 3 else 4
def setF (f : Nat) (x y : Ins) : Ins :=
  if f = 0 then { y with t := x.t } else if f = 1 then { y with u := x.u } else if f = 2 then { y with num := x.num } else if f = 3 then { y with imm := x.imm } else { y with size := x.size }
/-- What the right instructions have. -/
structure Fit (x : Ins) : Prop where
  t : (codeT x.t).2 = 0
  u : (codeT x.u).2 = 0
  num : x.num < 2 ^ 64
  imm : -2147483648 ≤ x.imm ∧ x.imm < 2147483648
  size : 0 ≤ x.size ∧ x.size ≤ 65536
theorem fix8 (n : Nat) (h : n < 2 ^ 64) : n % 256 ^ 8 = n := Nat.mod_eq_of_lt (Nat.lt_of_lt_of_le h (by decide))
theorem readI_opX (c : Nat) (x y : Ins) (rest : List UInt8) (f : Fit x) (hp : c = 80 → 0 ≤ x.imm) : readI c y (opX c x ++ rest, 0) = (setF (fld c) x y, (rest, 0)) := by
  unfold readI opX opB fld
  by_cases c1 : c = 84
  · simp only [if_pos c1]; rw [typI_code f.t]; rfl
  by_cases c2 : c = 85
  · subst c2; simp only [if_true, if_neg c1]; rw [typI_code f.u]; rfl
  by_cases c3 : c = 110 ∨ c = 76
  · have c3' : c = 110 ∨ c = 76 ∨ c = 119 := c3.imp id .inl
    simp only [if_neg c1, if_neg c2, if_pos c3, if_pos c3']; rw [numI_numL _ f.num]; rfl
  by_cases c4 : c = 115
  · subst c4
    simp only [if_neg c1, if_neg c2, if_neg c3, if_true]
    unfold signI
    rw [smallI_numL _ (zz_le _ f.imm)]
    simp only [sgn_zz]; rfl
  by_cases c5 : c = 100
  · subst c5
    simp only [if_neg c1, if_neg c2, if_neg c3, if_neg c4, if_true]
    rw [fixI_fixL]
    simp only [s32_u64 _ f.imm]; rfl
  by_cases c6 : c = 119
  · subst c6
    simp only [if_neg c1, if_neg c2, if_neg c3, if_neg c4, if_neg c5, if_true]
    rw [fixI_fixL]
    simp only [fix8 _ f.num]; rfl
  have n3 : ¬ (c = 110 ∨ c = 76 ∨ c = 119) := fun h => h.elim (fun h => c3 (.inl h)) fun h => h.elim (fun h => c3 (.inr h)) c6
  by_cases c7 : c = 80
  · have h0 := hp c7
    have hi := f.imm
    subst c7
    simp only [if_neg c1, if_neg c2, if_neg c3, if_neg c4, if_neg c5, if_neg c6, if_true]
    rw [smallI_numL _ (by omega)]
    dsimp only
    rw [Int.toNat_of_nonneg h0]; rfl
  · have n4 : ¬ (c = 115 ∨ c = 100 ∨ c = 80) := fun h => h.elim c4 fun h => h.elim c5 c7
    have hs := f.size
    simp only [if_neg c1, if_neg c2, if_neg c3, if_neg c4, if_neg c5, if_neg c6, if_neg c7, if_neg n3, if_neg n4]
    rw [smallI_numL _ (by omega)]
    dsimp only
    rw [Int.toNat_of_nonneg hs.1]; rfl
def setA : List UInt8 → Ins → Ins → Ins
  | [], _, y => y
  | c :: us, x, y => setA us x (setF (fld c.toNat) x y)
def opsX (us : List UInt8) (x : Ins) : List UInt8 := us.flatMap fun c => opX c.toNat x
theorem foldI_ops (x : Ins) (f : Fit x) (rest : List UInt8) : ∀ (us : List UInt8) (y : Ins), (∀ c ∈ us, c.toNat = 80 → 0 ≤ x.imm) → foldI us (y, (opsX us x ++ rest, 0)) = (setA us x y, (rest, 0))
  | [], y, _ => rfl
  | c :: us, y, hp => by
    have e : opsX (c :: us) x ++ rest = opX c.toNat x ++ (opsX us x ++ rest) := by simp [opsX]
    rw [e, foldI, readI_opX _ _ _ _ f (hp c (List.mem_cons_self ..)), setA]
    exact foldI_ops x f rest us _ fun d hd => hp d (List.mem_cons_of_mem _ hd)

/-! #### The other way -/
theorem takeR_err (n : Nat) (l : List UInt8) (e : Int) (he : e ≠ 0) : takeR n (l, e) = (List.replicate n 0, (l, e)) := by
  unfold takeR
  rw [if_pos (.inl he), if_neg he]
theorem numI_err (l : List UInt8) (e : Int) (he : e ≠ 0) : numI (l, e) = (0, (l, e)) := by
  unfold numI; rw [if_pos he]
theorem smallI_err (l : List UInt8) (e : Int) (he : e ≠ 0) : smallI (l, e) = (0, (l, e)) := by
  unfold smallI; rw [numI_err l e he, if_neg (by show ¬ 2 ^ 62 < 0; decide)]
/-- An error stays. -/
theorem readI_err (c : Nat) (y : Ins) (l : List UInt8) (e : Int) (he : e ≠ 0) : (readI c y (l, e)).2 = (l, e) := by
  unfold readI signI fixI typI
  rw [numI_err l e he, smallI_err l e he, takeR_err 1 l e he, takeR_err 4 l e he, takeR_err 8 l e he, if_pos he]
  split
  · rfl
  split
  · rfl
  split
  · rfl
  split
  · rfl
  split
  · rfl
  split
  · rfl
  split <;> rfl
theorem foldI_err : ∀ (us : List UInt8) (y : Ins) (l : List UInt8) (e : Int), e ≠ 0 → (foldI us (y, (l, e))).2 = (l, e)
  | [], y, l, e, _ => rfl
  | c :: us, y, l, e, he => by
    rw [foldI]
    have h := readI_err c.toNat y l e he
    have h2 : readI c.toNat (y, ((l, e) : Rd)).1 (y, ((l, e) : Rd)).2 = ((readI c.toNat y (l, e)).1, (l, e)) := Prod.ext rfl h
    rw [h2]
    exact foldI_err us _ l e he
theorem readI_inv (c : Nat) (y z : Ins) (l l' : List UInt8) (h : readI c y (l, 0) = (z, (l', 0))) : l = opX c z ++ l' ∧ z = setF (fld c) z y := by
  unfold readI at h
  unfold opX opB fld
  by_cases c1 : c = 84
  · simp only [if_pos c1] at h ⊢
    have h1 := congrArg (fun p => p.1) h
    have h2 : (typI (l, 0)).2 = (l', 0) := congrArg (fun p => p.2) h
    simp only at h1
    subst h1
    exact ⟨typI_inv (Prod.ext rfl h2), rfl⟩
  by_cases c2 : c = 85
  · simp only [if_neg c1, if_pos c2] at h ⊢
    have h1 := congrArg (fun p => p.1) h
    have h2 : (typI (l, 0)).2 = (l', 0) := congrArg (fun p => p.2) h
    simp only at h1
    subst h1
    exact ⟨typI_inv (Prod.ext rfl h2), rfl⟩
  by_cases c3 : c = 110 ∨ c = 76
  · have c3' : c = 110 ∨ c = 76 ∨ c = 119 := c3.imp id .inl
    simp only [if_neg c1, if_neg c2, if_pos c3, if_pos c3'] at h ⊢
    have h1 := congrArg (fun p => p.1) h
    have h2 : (numI (l, 0)).2 = (l', 0) := congrArg (fun p => p.2) h
    simp only at h1
    subst h1
    exact ⟨numI_inv (Prod.ext rfl h2), rfl⟩
  by_cases c4 : c = 115
  · subst c4
    simp only [if_neg c1, if_neg c2, if_neg c3, if_true] at h ⊢
    have h1 := congrArg (fun p => p.1) h
    have h2 : (smallI (l, 0)).2 = (l', 0) := congrArg (fun p => p.2) h
    simp only at h1
    subst h1
    have := (smallI_inv (Prod.ext rfl h2)).1
    refine ⟨?_, rfl⟩
    show l = numL (zz (sgnN (smallI (l, 0)).1)) ++ l'
    rw [zz_sgn]; exact this
  by_cases c5 : c = 100
  · subst c5
    simp only [if_neg c1, if_neg c2, if_neg c3, if_neg c4, if_true] at h ⊢
    have h1 := congrArg (fun p => p.1) h
    have h2 : (fixI 4 (l, 0)).2 = (l', 0) := congrArg (fun p => p.2) h
    simp only at h1
    subst h1
    obtain ⟨a, b⟩ := fixI_inv (Prod.ext rfl h2 : fixI 4 (l, 0) = ((fixI 4 (l, 0)).1, (l', 0)))
    refine ⟨?_, rfl⟩
    show l = fixL (u64 (s32 (fixI 4 (l, 0)).1)) 4 ++ l'
    rw [u64_s32 _ b]; exact a
  by_cases c6 : c = 119
  · subst c6
    simp only [if_neg c1, if_neg c2, if_neg c3, if_neg c4, if_neg c5, if_true] at h ⊢
    have h1 := congrArg (fun p => p.1) h
    have h2 : (fixI 8 (l, 0)).2 = (l', 0) := congrArg (fun p => p.2) h
    simp only at h1
    subst h1
    exact ⟨(fixI_inv (Prod.ext rfl h2)).1, rfl⟩
  have n3 : ¬ (c = 110 ∨ c = 76 ∨ c = 119) := fun h => h.elim (fun h => c3 (.inl h)) fun h => h.elim (fun h => c3 (.inr h)) c6
  by_cases c7 : c = 80
  · subst c7
    simp only [if_neg c1, if_neg c2, if_neg c3, if_neg c4, if_neg c5, if_neg c6, if_true] at h ⊢
    have h1 := congrArg (fun p => p.1) h
    have h2 : (smallI (l, 0)).2 = (l', 0) := congrArg (fun p => p.2) h
    simp only at h1
    subst h1
    exact ⟨(smallI_inv (Prod.ext rfl h2)).1, rfl⟩
  · have n4 : ¬ (c = 115 ∨ c = 100 ∨ c = 80) := fun h => h.elim c4 fun h => h.elim c5 c7
    simp only [if_neg c1, if_neg c2, if_neg c3, if_neg c4, if_neg c5, if_neg c6, if_neg c7, if_neg n3, if_neg n4] at h ⊢
    have h1 := congrArg (fun p => p.1) h
    have h2 : (smallI (l, 0)).2 = (l', 0) := congrArg (fun p => p.2) h
    simp only at h1
    subst h1
    exact ⟨(smallI_inv (Prod.ext rfl h2)).1, rfl⟩
theorem opX_set (c f : Nat) (z y : Ins) (h : fld c ≠ f) (h5 : f < 5) : opX c (setF f z y) = opX c y := by
  unfold setF
  unfold fld at h
  unfold opX opB
  by_cases c1 : c = 84
  · simp only [if_pos c1] at h ⊢
    rw [if_neg (Ne.symm h)]
    repeat' split
    all_goals rfl
  by_cases c2 : c = 85
  · simp only [if_neg c1, if_pos c2] at h ⊢
    repeat' split
    all_goals first | rfl | (exfalso; omega)
  by_cases c3 : c = 110 ∨ c = 76
  · have c3' : c = 110 ∨ c = 76 ∨ c = 119 := c3.imp id .inl
    simp only [if_neg c1, if_neg c2, if_pos c3, if_pos c3'] at h ⊢
    repeat' split
    all_goals first | rfl | (exfalso; omega)
  by_cases c4 : c = 115
  · subst c4
    simp at h
    simp only [if_neg c1, if_neg c2, if_neg c3, if_true]
    repeat' split
    all_goals first | rfl | (exfalso; omega)
  by_cases c5 : c = 100
  · subst c5
    simp at h
    simp only [if_neg c1, if_neg c2, if_neg c3, if_neg c4, if_true]
    repeat' split
    all_goals first | rfl | (exfalso; omega)
  by_cases c6 : c = 119
  · subst c6
    simp at h
    simp only [if_neg c1, if_neg c2, if_neg c3, if_neg c4, if_neg c5, if_true]
    repeat' split
    all_goals first | rfl | (exfalso; omega)
  have n3 : ¬ (c = 110 ∨ c = 76 ∨ c = 119) := fun h => h.elim (fun h => c3 (.inl h)) fun h => h.elim (fun h => c3 (.inr h)) c6
  by_cases c7 : c = 80
  · subst c7
    simp at h
    simp only [if_neg c1, if_neg c2, if_neg c3, if_neg c4, if_neg c5, if_neg c6, if_true]
    repeat' split
    all_goals first | rfl | (exfalso; omega)
  · have n4 : ¬ (c = 115 ∨ c = 100 ∨ c = 80) := fun h => h.elim c4 fun h => h.elim c5 c7
    simp only [if_neg c1, if_neg c2, if_neg n3, if_neg n4] at h
    simp only [if_neg c1, if_neg c2, if_neg c3, if_neg c4, if_neg c5, if_neg c6, if_neg c7]
    repeat' split
    all_goals first | rfl | (exfalso; omega)
theorem fld_lt (c : Nat) : fld c < 5 := by
  unfold fld
  repeat' split
  all_goals decide
theorem setF_op (f : Nat) (z y : Ins) : (setF f z y).op = y.op := by
  unfold setF
  repeat' split
  all_goals rfl
/-- What the operands wrote. -/
theorem foldI_inv : ∀ (us : List UInt8) (y x : Ins) (l l' : List UInt8), (us.map fun c => fld c.toNat).Nodup → foldI us (y, (l, 0)) = (x, (l', 0)) →
    l = opsX us x ++ l' ∧ (∀ c, fld c ∉ us.map (fun c => fld c.toNat) → opX c x = opX c y) ∧ x.op = y.op
  | [], y, x, l, l', _, h => by
    cases h
    exact ⟨rfl, fun _ _ => rfl, rfl⟩
  | c :: us, y, x, l, l', hn, h => by
    rw [foldI] at h
    generalize hr : readI c.toNat (y, ((l, 0) : Rd)).1 (y, ((l, 0) : Rd)).2 = s at h
    obtain ⟨z, l1, e1⟩ := s
    by_cases he : e1 = 0
    · subst he
      obtain ⟨a1, a2⟩ := readI_inv _ _ _ _ _ hr
      rw [List.map_cons, List.nodup_cons] at hn
      obtain ⟨b1, b2, b3⟩ := foldI_inv us z x l1 l' hn.2 h
      refine ⟨?_, fun d hd => ?_, ?_⟩
      · rw [a1, b1]
        have : opsX (c :: us) x = opX c.toNat x ++ opsX us x := by simp [opsX]
        rw [this, b2 c.toNat hn.1, List.append_assoc]
      · rw [List.map_cons, List.mem_cons, not_or] at hd
        rw [b2 d hd.2, a2, opX_set d _ z y hd.1 (fld_lt _)]
      · rw [b3, a2, setF_op]
    · have := foldI_err us z l1 e1 he
      rw [h] at this
      exact absurd (congrArg (fun p => p.2) this).symm he
theorem readI_num (c : Nat) (y : Ins) (r : Rd) (hy : y.num < 2 ^ 64) : (readI c y r).1.num < 2 ^ 64 := by
  unfold readI
  split
  · exact hy
  split
  · exact hy
  split
  · exact numI_lt r
  split
  · exact hy
  split
  · exact hy
  split
  · show leN (takeR 8 r).1 < 2 ^ 64
    have h1 := leN_lt (takeR 8 r).1
    have h2 : (takeR 8 r).1.length = 8 := by
      unfold takeR
      split
      · rfl
      · rename_i q
        rw [not_or] at q
        show (r.1.take 8).length = 8
        rw [List.length_take]; omega
    rw [h2] at h1
    have : (256 : Nat) ^ 8 = 2 ^ 64 := by decide
    omega
  split <;> exact hy
theorem foldI_num : ∀ (us : List UInt8) (y : Ins) (r : Rd), y.num < 2 ^ 64 → (foldI us (y, r)).1.num < 2 ^ 64
  | [], _, _, h => h
  | c :: us, y, r, h => by
    rw [foldI]
    exact foldI_num us _ _ (readI_num c.toNat y r h)

/-! ### Instructions -/
section
variable (chk : Ins → Int)
def decG (b : List UInt8) : Ins × Nat × Int :=
  match b with
  | [] => (insZ, 0, 39)
  | o :: l => match kindAt (o.toNat : Int) with
    | none => (insZ, 0, 11)
    | some r =>
      if (foldI r.uses ({ insZ with op := o.toNat }, (l, 0))).2.2 ≠ 0 then (insZ, 0, (foldI r.uses ({ insZ with op := o.toNat }, (l, 0))).2.2) else
      if chk (foldI r.uses ({ insZ with op := o.toNat }, (l, 0))).1 ≠ 0 then (insZ, 0, chk (foldI r.uses ({ insZ with op := o.toNat }, (l, 0))).1) else
      ((foldI r.uses ({ insZ with op := o.toNat }, (l, 0))).1, l.length + 1 - (foldI r.uses ({ insZ with op := o.toNat }, (l, 0))).2.1.length, 0)
def decF : Nat → List UInt8 → Nat → List Ins → List Ins × Nat × Int
  | 0, _, _, acc => (acc, 0, 0)
  | k + 1, b, i, acc => if b.length ≤ i then (acc, 0, 0) else
    if (decG chk (b.drop i)).2.2 ≠ 0 then ([], i, (decG chk (b.drop i)).2.2) else decF k b (i + (decG chk (b.drop i)).2.1) (acc ++ [(decG chk (b.drop i)).1])
end
def bytX (x : Ins) : List UInt8 := bytesL x.op.toNat (usesAt x.op) x.t x.u x.num x.imm x.size
/-- What the error 0 of an instruction grants. -/
structure Sound (chk : Ins → Int) : Prop where
  ok : ∀ x, chk x = 0 → x.num < 2 ^ 64 → Fit x ∧ ∃ k r, x.op = (k : Nat) ∧ kindT[k]? = some r ∧ (∀ c ∈ r.uses, c.toNat = 80 → 0 ≤ x.imm) ∧
    (0 ∉ r.uses.map (fun c => fld c.toNat) → x.t = []) ∧ (1 ∉ r.uses.map (fun c => fld c.toNat) → x.u = []) ∧ (2 ∉ r.uses.map (fun c => fld c.toNat) → x.num = 0) ∧ (3 ∉ r.uses.map (fun c => fld c.toNat) → x.imm = 0) ∧
    (4 ∉ r.uses.map (fun c => fld c.toNat) → x.size = 0)
theorem kindAt_nat (k : Nat) : kindAt (k : Int) = kindT[k]? := by
  unfold kindAt
  rw [if_pos (by omega)]; rfl
theorem kindT_29 {k : Nat} {r : KindR} (h : kindT[k]? = some r) : k < 29 := by
  have := (List.getElem?_eq_some_iff.1 h).1
  exact this
theorem setA_get : ∀ (us : List UInt8) (x y : Ins),
    (setA us x y).op = y.op ∧ (setA us x y).t = (if 0 ∈ us.map (fun c => fld c.toNat) then x.t else y.t) ∧ (setA us x y).u = (if 1 ∈ us.map (fun c => fld c.toNat) then x.u else y.u) ∧
    (setA us x y).num = (if 2 ∈ us.map (fun c => fld c.toNat) then x.num else y.num) ∧ (setA us x y).imm = (if 3 ∈ us.map (fun c => fld c.toNat) then x.imm else y.imm) ∧
    (setA us x y).size = (if 4 ∈ us.map (fun c => fld c.toNat) then x.size else y.size)
  | [], x, y => by simp [setA]
  | c :: us, x, y => by
    obtain ⟨h1, h2, h3, h4, h5, h6⟩ := setA_get us x (setF (fld c.toNat) x y)
    have hf := fld_lt c.toNat
    rw [setA, h1, h2, h3, h4, h5, h6]
    simp only [List.map_cons, List.mem_cons]
    generalize fld c.toNat = f at hf
    match f, hf with
    | 0, _ => simp [setF]
    | 1, _ => simp [setF]
    | 2, _ => simp [setF]
    | 3, _ => simp [setF]
    | 4, _ => simp [setF]
theorem Ins.ext' {x y : Ins} (h1 : x.op = y.op) (h2 : x.t = y.t) (h3 : x.u = y.u) (h4 : x.num = y.num) (h5 : x.imm = y.imm) (h6 : x.size = y.size) : x = y := by
  cases x; cases y
  simp only at h1 h2 h3 h4 h5 h6
  subst h1 h2 h3 h4 h5 h6
  rfl
theorem usesAt_nat {k : Nat} {r : KindR} (h : kindT[k]? = some r) : usesAt (k : Int) = r.uses := by
  unfold usesAt
  rw [kindAt_nat, h]
theorem decG_bytes {chk : Ins → Int} (hs : Sound chk) {x : Ins} (hx : chk x = 0) (hn : x.num < 2 ^ 64) (rest : List UInt8) : decG chk (bytX x ++ rest) = (x, (bytX x).length, 0) := by
  obtain ⟨f, k, r, ho, hk, hp, z0, z1, z2, z3, z4⟩ := hs.ok x hx hn
  have h29 := kindT_29 hk
  have e1 : bytX x = UInt8.ofNat k :: opsX r.uses x := by
    unfold bytX bytesL
    rw [ho, usesAt_nat hk]
    rfl
  have e2 : (UInt8.ofNat k).toNat = k := ofNat_toNat (by omega)
  rw [e1, List.cons_append, decG]
  simp only [e2, kindAt_nat, hk]
  rw [foldI_ops x f rest r.uses _ hp]
  have e3 : setA r.uses x { insZ with op := (k : Nat) } = x := by
    obtain ⟨h1, h2, h3, h4, h5, h6⟩ := setA_get r.uses x { insZ with op := (k : Nat) }
    refine Ins.ext' (by rw [h1, ho]) ?_ ?_ ?_ ?_ ?_
    · rw [h2]; split
      · rfl
      · exact (z0 (by assumption)).symm
    · rw [h3]; split
      · rfl
      · exact (z1 (by assumption)).symm
    · rw [h4]; split
      · rfl
      · exact (z2 (by assumption)).symm
    · rw [h5]; split
      · rfl
      · exact (z3 (by assumption)).symm
    · rw [h6]; split
      · rfl
      · exact (z4 (by assumption)).symm
  rw [e3]
  simp only [hx, ne_eq, not_true_eq_false, if_false, List.length_append, List.length_cons]
  congr 2
  omega
theorem kindT_nodup : kindT.all (fun r => decide (r.uses.map fun c => fld c.toNat).Nodup) = true := by decide +kernel
theorem decG_inv {chk : Ins → Int} {b : List UInt8} {x : Ins} {n : Nat} (h : decG chk b = (x, n, 0)) : chk x = 0 ∧ x.num < 2 ^ 64 ∧ bytX x = b.take n ∧ 0 < n ∧ n ≤ b.length := by
  unfold decG at h
  cases b with
  | nil =>
    have := congrArg (fun p => p.2.2) h
    exact absurd this (by show ¬ (39 : Int) = 0; decide)
  | cons o l =>
    simp only at h
    cases hk : kindAt (o.toNat : Int) with
    | none =>
      rw [hk] at h
      have := congrArg (fun p => p.2.2) h
      exact absurd this (by show ¬ (11 : Int) = 0; decide)
    | some r =>
      rw [hk] at h
      simp only at h
      generalize hf : foldI r.uses ({ insZ with op := o.toNat }, (l, 0)) = s at h
      have hnum := foldI_num r.uses { insZ with op := o.toNat } (l, 0) (by show 0 < 2 ^ 64; decide)
      rw [hf] at hnum
      obtain ⟨z, l1, e1⟩ := s
      simp only at h hnum
      by_cases q1 : e1 = 0
      · rw [if_neg (by simp [q1])] at h
        by_cases q2 : chk z = 0
        · rw [if_neg (by simp [q2])] at h
          subst q1
          have hz : z = x := congrArg (fun p => p.1) h
          have hnn : l.length + 1 - l1.length = n := congrArg (fun p => p.2.1) h
          subst hz
          rw [kindAt_nat] at hk
          have hd := of_decide_eq_true (List.all_eq_true.1 kindT_nodup r (List.mem_of_getElem? hk))
          obtain ⟨a1, _, a3⟩ := foldI_inv _ _ _ _ _ hd hf
          have e : bytX z = o :: opsX r.uses z := by
            unfold bytX bytesL
            rw [a3]
            show UInt8.ofNat ((o.toNat : Nat) : Int).toNat :: opsL (usesAt ((o.toNat : Nat) : Int)) _ _ _ _ _ = _
            rw [usesAt_nat hk, Int.toNat_natCast, UInt8.ofNat_toNat]
            rfl
          have hl : l.length = (opsX r.uses z).length + l1.length := by
            have := congrArg List.length a1
            rwa [List.length_append] at this
          have hn2 : n = (opsX r.uses z).length + 1 := by omega
          refine ⟨q2, hnum, ?_, by omega, by rw [List.length_cons]; omega⟩
          rw [e, hn2, List.take_succ_cons]
          congr 1
          conv => rhs; rw [a1]
          exact (List.take_left' rfl).symm
        · rw [if_pos (by simpa using q2)] at h
          have := congrArg (fun p => p.2.2) h
          exact absurd this q2
      · rw [if_pos (by simpa using q1)] at h
        have := congrArg (fun p => p.2.2) h
        exact absurd this q1
def encX (l : List Ins) : List UInt8 := (l.map bytX).flatten
theorem encX_cons (x : Ins) (l : List Ins) : encX (x :: l) = bytX x ++ encX l := rfl
theorem encX_snoc (l : List Ins) (x : Ins) : encX (l ++ [x]) = encX l ++ bytX x := by simp [encX]
theorem bytX_pos (x : Ins) : 0 < (bytX x).length := by simp [bytX, bytesL]
/-- Instructions that are encoded are decoded again. -/
theorem decF_enc {chk : Ins → Int} (hs : Sound chk) : ∀ (k : Nat) (l : List Ins) (b : List UInt8) (i : Nat) (acc : List Ins), (∀ x ∈ l, chk x = 0 ∧ x.num < 2 ^ 64) → i ≤ b.length → b.drop i = encX l → l.length ≤ k → decF chk k b i acc = (acc ++ l, 0, 0)
  | 0, l, b, i, acc, _, _, _, hk => by
    have : l = [] := List.eq_nil_of_length_eq_zero (by omega)
    subst this
    simp [decF]
  | k + 1, [], b, i, acc, _, hi, hb, _ => by
    have : (b.drop i).length = 0 := by rw [hb]; rfl
    rw [List.length_drop] at this
    rw [decF, if_pos (by omega)]
    simp
  | k + 1, x :: l, b, i, acc, ha, hi, hb, hk => by
    have hx := ha x (List.mem_cons_self ..)
    have h1 : (b.drop i).length = (bytX x).length + (encX l).length := by rw [hb, encX_cons, List.length_append]
    rw [List.length_drop] at h1
    have h2 := bytX_pos x
    rw [decF, if_neg (by omega), hb, encX_cons, decG_bytes hs hx.1 hx.2]
    simp only [ne_eq, not_true_eq_false, if_false]
    rw [decF_enc hs k l b (i + (bytX x).length) (acc ++ [x]) (fun y hy => ha y (List.mem_cons_of_mem _ hy)) (by omega) ?_ (by simp at hk; omega)]
    · simp
    · rw [← List.drop_drop, hb, encX_cons, List.drop_left' rfl]
/-- Bytes that are decoded are encoded again. -/
theorem decF_inv {chk : Ins → Int} : ∀ (k : Nat) (b : List UInt8) (i : Nat) (acc l : List Ins) (p : Nat), i ≤ b.length → b.take i = encX acc → (∀ x ∈ acc, chk x = 0 ∧ x.num < 2 ^ 64) → b.length ≤ i + k → decF chk k b i acc = (l, p, 0) →
    b = encX l ∧ p = 0 ∧ ∀ x ∈ l, chk x = 0 ∧ x.num < 2 ^ 64
  | 0, b, i, acc, l, p, hi, hb, ha, hk, h => by
    simp only [decF, Prod.mk.injEq] at h
    obtain ⟨rfl, rfl, _⟩ := h
    exact ⟨by rw [← hb, List.take_of_length_le (by omega)], rfl, ha⟩
  | k + 1, b, i, acc, l, p, hi, hb, ha, hk, h => by
    rw [decF] at h
    by_cases q : b.length ≤ i
    · rw [if_pos q] at h
      simp only [Prod.mk.injEq] at h
      obtain ⟨rfl, rfl, _⟩ := h
      exact ⟨by rw [← hb, List.take_of_length_le q], rfl, ha⟩
    · rw [if_neg q] at h
      generalize hg : decG chk (b.drop i) = s at h
      obtain ⟨x, n, e⟩ := s
      simp only at h
      by_cases q2 : e = 0
      · subst q2
        simp only [ne_eq, not_true_eq_false, if_false] at h
        obtain ⟨c1, c2, c3, c4, c5⟩ := decG_inv hg
        rw [List.length_drop] at c5
        refine decF_inv k b (i + n) (acc ++ [x]) l p (by omega) ?_ ?_ (by omega) h
        · rw [List.take_add, hb, encX_snoc, c3]
        · intro y hy
          rcases List.mem_append.1 hy with hy | hy
          · exact ha y hy
          · rw [List.mem_singleton] at hy; subst hy; exact ⟨c1, c2⟩
      · rw [if_pos (by simpa using q2)] at h
        have := congrArg (fun p => p.2.2) h
        exact absurd this q2
/-! ### take -/
abbrev FirstP (tab : Tab) : Prop := ∀ (h : H) (b c n : Nat) (l : List Int), tab.ng ≤ b → h.get b = some (.cells 26 1 (l.map (.int .i64))) → l.length = n → n < 1000000 → callR (EV tab) 32 [.slice (some ⟨b, 0, none⟩) n c] h = some (.int .i64 (firstI l), h)
structure TkX (tab : Tab) : Prop where
  x1 : ∀ l, callExt (EV tab) 81 l = none
  fi : FirstP tab
abbrev RDp (tab : Tab) (h : H) (p : Nat) (v : Value) (e : Int) : Prop := RD tab.ng 109 h p v e
theorem take_run (tab : Tab) (hX : TkX tab) (h : H) (hng : tab.ng ≤ h.next) (p : Nat) (v : Value) (l : List UInt8) (e : Int) (n : Nat) (hn : n ≤ 8) (hr : RDp tab h p v e) (hb : BT tab h v l) (hl : l.length < 1000000) :
    ∃ w h' v', callR (EV tab) 81 [.pointer (some ⟨p, 0, none⟩), .int .i64 n] h = some (w, h') ∧ BT tab h' w (takeR n (l, e)).1 ∧ RDp tab h' p v' (takeR n (l, e)).2.2 ∧ BT tab h' v' (takeR n (l, e)).2.1 ∧ KeptX p h h' := by
  obtain ⟨x1, fi⟩ := hX
  obtain ⟨r1, r2, r3⟩ := hr
  have hnp : ¬ p < tab.ng := by omega
  have hpc : NB h p := nb_cells r3 (by decide)
  by_cases q : e ≠ 0 ∨ l.length < n
  · have t1 : takeR n (l, e) = (List.replicate n 0, (l, if e = 0 then 39 else e)) := by unfold takeR; rw [if_pos q]
    rw [t1]
    obtain ⟨a, c, rfl⟩ := hb.len
    have hne : (e != 0) = true ∨ ((e != 0) = false ∧ decide ((l.length : Int) < (n : Int)) = true) := by
      by_cases q0 : e = 0
      · right
        refine ⟨by rw [q0]; rfl, ?_⟩
        have : l.length < n := q.resolve_left (by simp [q0])
        exact decide_eq_true (by omega)
      · left; simpa using q0
    have hbt : BT tab (h.push (.cells 26 1 [.int .i64 e, .int .i64 39])) (.slice a l.length c) l := hb.kept ((Kept.refl h).push _)
    have hnn : ¬ h.next < tab.ng := by omega
    have hpn : ¬ h.next = p := by omega
    have ef := fi (h.push (.cells 26 1 [.int .i64 e, .int .i64 39])) h.next 5 2 [e, 39] hng (H.get_push_self _ _) rfl (by decide)
    have f1 : firstI [e, 39] = if e = 0 then 39 else e := by simp only [firstI]; split <;> rfl
    rw [f1] at ef
    have hm : (0 : Int) ≤ n ∧ (n : Int) ≤ n ∧ (n : Int) ≤ 1000000 ∧ 1 ≤ 1000 := by omega
    have hm2 : Nat.ble n 64 = true := Nat.ble_eq_true_of_le (by omega)
    have mk : makeD 5 ⟨.int .u8, 1, 1, [.int .u8 0]⟩ n n = some (.cells 5 1 (bs (List.replicate n 0)), rowTo n (2 * n + 1)) := by
      unfold makeD
      simp only [if_pos hm, Int.toNat_natCast, hm2, if_true, repl_u8]
    have fin : ∀ h2, h2 = ((h.push (.cells 26 1 [.int .i64 e, .int .i64 39])).put p (.cells 109 2 [.slice a l.length c, .int .i64 (if e = 0 then 39 else e)])).push (.cells 5 1 (bs (List.replicate n 0))) →
        BT tab h2 (.slice (some ⟨h.next + 1, 0, none⟩) n (2 * n + 1)) (List.replicate n 0) ∧ RDp tab h2 p (.slice a l.length c) (if e = 0 then 39 else e) ∧ BT tab h2 (.slice a l.length c) l ∧ KeptX p h h2 := fun h2 e2 => by
      have k : KeptX p h h2 := by rw [e2]; exact (((KeptX.refl p h).push _).put _).push _
      have hbt2 : BT tab h2 (.slice (some ⟨h.next + 1, 0, none⟩) (List.replicate n (0 : UInt8)).length (2 * n + 1)) (List.replicate n 0) :=
        bt_cells (by omega) (by rw [e2]; simp only [H.next_push, H.next_put]; omega) (by rw [e2]; simp only [H.get_push, H.next_push, H.next_put, if_true]) (.inr (by rw [List.length_replicate]; omega))
      rw [List.length_replicate] at hbt2
      refine ⟨hbt2, ⟨r1, Nat.lt_of_lt_of_le r2 k.le, ?_⟩, hb.keptX k hpc, k⟩
      · rw [e2]
        simp only [H.get_push, H.next_push, H.next_put, H.get_put]
        rw [if_neg (by omega), if_pos trivial]
    rcases hne with hne | ⟨hne, hlt⟩
    · generalize he : callR _ _ _ _ = x
      rw [enter81 _ _ _ (x1 _) rfl] at he
      simp only [sS, ofArgs, Int.reduceLT, Int.reduceLE, Int.reduceToNat, Int.reduceEq, readD, Nat.reduceLT, Nat.reduceEqDiff, Nat.reduceAdd, ↓reduceIte, binD, binInt, intBin, unD, convD, oLen, denseD, oFunc, oAppend, Nat.reduceMul, Nat.reduceLeDiff, fF81, tTGa, tTGb, sN, subD, loadD, isAggD, Obj.sub, Obj.get?, storeD, Obj.row, Obj.len, putL, Obj.put, fieldAddrD, indexAddrD, fieldD, indexD, placeOf, fillD, Nat.reduceSub, Nat.reduceLT, Nat.reduceBEq, Nat.reduceMod, Nat.reduceDiv, reduceCtorEq, ng_eq, tabL_ng, hnp, hnn, hpn, r3, iNeq, hne, ef, mk, oMake, veq_slice, op_nil] at he
      subst he
      obtain ⟨g1, g2, g3, g4⟩ := fin _ rfl
      exact ⟨_, _, _, rfl, g1, g2, g3, g4⟩
    · generalize he : callR _ _ _ _ = x
      rw [enter81 _ _ _ (x1 _) rfl] at he
      simp only [sS, ofArgs, Int.reduceLT, Int.reduceLE, Int.reduceToNat, Int.reduceEq, readD, Nat.reduceLT, Nat.reduceEqDiff, Nat.reduceAdd, ↓reduceIte, binD, binInt, intBin, unD, convD, oLen, denseD, oFunc, oAppend, Nat.reduceMul, Nat.reduceLeDiff, fF81, tTGa, tTGb, sN, subD, loadD, isAggD, Obj.sub, Obj.get?, storeD, Obj.row, Obj.len, putL, Obj.put, fieldAddrD, indexAddrD, fieldD, indexD, placeOf, fillD, Nat.reduceSub, Nat.reduceLT, Nat.reduceBEq, Nat.reduceMod, Nat.reduceDiv, reduceCtorEq, ng_eq, tabL_ng, hnp, hnn, hpn, r3, iNeq, iLss, hne, hlt, ef, mk, oMake, veq_slice, op_nil] at he
      subst he
      obtain ⟨g1, g2, g3, g4⟩ := fin _ rfl
      exact ⟨_, _, _, rfl, g1, g2, g3, g4⟩
  · rw [not_or] at q
    have q0 : e = 0 := Decidable.of_not_not q.1
    subst q0
    have hnl : n ≤ l.length := by omega
    have t1 : takeR n (l, 0) = (l.take n, (l.drop n, 0)) := by unfold takeR; rw [if_neg (by simp; omega)]
    rw [t1]
    have hlt : decide ((l.length : Int) < (n : Int)) = false := decide_eq_false (by omega)
    obtain ⟨w, ew, bw⟩ := slice_bt tab hb none (some n) (Nat.zero_le _) hnl
    obtain ⟨v', ev', bv⟩ := slice_bt tab hb (some n) none hnl (Nat.le_refl _)
    simp only [Option.map_none, Option.map_some, natV, Option.getD_some, Option.getD_none, List.drop_zero, List.take_length] at ew ev' bw bv
    have hne : ((0 : Int) != 0) = false := rfl
    obtain ⟨a, c, rfl⟩ := hb.len
    obtain ⟨a2, c2, rfl⟩ := bv.len
    generalize he : callR _ _ _ _ = x
    rw [enter81 _ _ _ (x1 _) rfl] at he
    simp only [sS, ofArgs, Int.reduceLT, Int.reduceLE, Int.reduceToNat, Int.reduceEq, readD, Nat.reduceLT, Nat.reduceEqDiff, Nat.reduceAdd, ↓reduceIte, binD, binInt, intBin, unD, convD, oLen, denseD, oFunc, oAppend, Nat.reduceMul, Nat.reduceLeDiff, fF81, tTGa, tTGb, sN, subD, loadD, isAggD, Obj.sub, Obj.get?, storeD, Obj.row, Obj.len, putL, Obj.put, fieldAddrD, indexAddrD, fieldD, indexD, placeOf, fillD, Nat.reduceSub, Nat.reduceLT, Nat.reduceBEq, Nat.reduceMod, Nat.reduceDiv, reduceCtorEq, ng_eq, tabL_ng, hnp, r3, iNeq, iLss, hne, hlt, oSlice, optO, ew, ev', veq_slice, op_nil] at he
    subst he
    have k : KeptX p h (h.put p (.cells 109 2 [.slice a2 (l.drop n).length c2, .int .i64 0])) := (KeptX.refl p h).put _
    exact ⟨_, _, _, rfl, bw.keptX k hpc, ⟨r1, r2, by rw [H.get_put, if_pos rfl]⟩, bv.keptX k hpc, k⟩
/-! ### number -/
theorem and127 (b : UInt8) : iAnd .u8 (b.toNat : Int) 127 = some (.int .u8 ((b.toNat % 128 : Nat) : Int)) := by
  have key : ∀ m : Fin 256, (BitVec.ofInt 8 (m.val : Int) &&& BitVec.ofInt 8 127).toNat = m.val % 128 := by decide
  have hm : (BitVec.ofInt 8 (b.toNat : Int) &&& BitVec.ofInt 8 127).toNat = b.toNat % 128 := key ⟨b.toNat, b.toNat_lt⟩
  unfold iAnd
  show some (Value.int .u8 (IntKind.u8.wrap ((BitVec.ofInt 8 (b.toNat : Int) &&& BitVec.ofInt 8 127).toNat : Int))) = _
  rw [hm, IntKind.wrap_u8]
  congr 2
  omega
theorem rdsub0 {ty : Nat} {v w : Value} : Obj.sub (.cells ty 2 [v, w]) 0 1 = some [v] := rfl
theorem rdsub1 {ty : Nat} {v w : Value} : Obj.sub (.cells ty 2 [v, w]) 1 1 = some [w] := rfl
theorem RD.s1 {tab : Tab} {ty : Nat} {h : H} {p : Nat} {v : Value} {e : Int} (r : RD tab.ng ty h p v e) : subD (EV tab) h p 1 1 = some [.int .i64 e] := by
  unfold subD
  rw [ng_eq, if_neg (Nat.not_lt.2 r.1), r.2.2]; rfl
theorem RD.s0 {tab : Tab} {ty : Nat} {h : H} {p : Nat} {v : Value} {e : Int} (r : RD tab.ng ty h p v e) : subD (EV tab) h p 0 1 = some [v] := by
  unfold subD
  rw [ng_eq, if_neg (Nat.not_lt.2 r.1), r.2.2]; rfl
theorem pow7 (i : Nat) : (2 : Nat) ^ (7 * i) = 128 ^ i := by rw [Nat.pow_mul]
theorem shl7 (g i : Nat) (hi : i ≤ 9) (hg : g * 128 ^ i < 18446744073709551616) : iShl .u64 (g : Int) ((7 * i : Nat) : Int) = some (.int .u64 ((g * 128 ^ i : Nat) : Int)) := by
  unfold iShl
  rw [if_neg (by omega)]
  have h1 : min ((7 * i : Nat) : Int).toNat IntKind.u64.bits = 7 * i := by rw [Int.toNat_natCast]; exact Nat.min_eq_left (by show 7 * i ≤ 64; omega)
  have h2 : (g : Int) * 2 ^ (7 * i) = ((g * 128 ^ i : Nat) : Int) := by rw [← pow7]; simp
  rw [h1, h2, u64_nat _ hg]
theorem or_add (o g i : Nat) (ho : o < 128 ^ i) (hg : o + g * 128 ^ i < 18446744073709551616) : iOr .u64 (o : Int) ((g * 128 ^ i : Nat) : Int) = some (.int .u64 ((o + g * 128 ^ i : Nat) : Int)) := by
  have h1 : o ||| g * 128 ^ i = o + g * 128 ^ i := by
    rw [Nat.mul_comm, ← pow7, Nat.or_comm, ← Nat.two_pow_add_eq_or_of_lt (by rw [pow7]; exact ho), Nat.add_comm]
  have h2 : (BitVec.ofInt 64 (o : Int) ||| BitVec.ofInt 64 ((g * 128 ^ i : Nat) : Int)).toNat = o + g * 128 ^ i := by
    rw [BitVec.toNat_or, BitVec.ofInt_natCast, BitVec.ofInt_natCast, BitVec.toNat_ofNat, BitVec.toNat_ofNat, Nat.mod_eq_of_lt (by omega), Nat.mod_eq_of_lt (by omega), h1]
  unfold iOr
  show some (Value.int .u64 (IntKind.u64.wrap ((BitVec.ofInt 64 (o : Int) ||| BitVec.ofInt 64 ((g * 128 ^ i : Nat) : Int)).toNat : Int))) = _
  rw [h2, u64_nat _ hg]
theorem add7 (i : Nat) (hi : i ≤ 9) : iAdd .i64 ((7 * i : Nat) : Int) 7 = some (.int .i64 ((7 * (i + 1) : Nat) : Int)) := by
  unfold iAdd
  rw [IntWalk.i64_in _ (by omega)]
  congr 2
abbrev TakeP (tab : Tab) : Prop := ∀ (h : H) (p : Nat) (v : Value) (l : List UInt8) (e : Int) (n : Nat), tab.ng ≤ h.next → n ≤ 8 → RDp tab h p v e → BT tab h v l → l.length < 1000000 →
  ∃ w h' v', callR (EV tab) 81 [.pointer (some ⟨p, 0, none⟩), .int .i64 n] h = some (w, h') ∧ BT tab h' w (takeR n (l, e)).1 ∧ RDp tab h' p v' (takeR n (l, e)).2.2 ∧ BT tab h' v' (takeR n (l, e)).2.1 ∧ KeptX p h h'
/-- One byte taken: what is loaded. -/
theorem take1 (tab : Tab) (hT : TakeP tab) (h : H) (p : Nat) (v : Value) (l : List UInt8) (e : Int) (hng : tab.ng ≤ h.next) (hr : RDp tab h p v e) (hb : BT tab h v l) (hl : l.length < 1000000) :
    ∃ b o c h' v', callR (EV tab) 81 [.pointer (some ⟨p, 0, none⟩), .int .i64 1] h = some (.slice (some ⟨b, o, none⟩) 1 c, h') ∧ subD (EV tab) h' b o 1 = some [.int .u8 (((takeR 1 (l, e)).1.headD 0).toNat : Nat)] ∧
      RDp tab h' p v' (takeR 1 (l, e)).2.2 ∧ BT tab h' v' (takeR 1 (l, e)).2.1 ∧ KeptX p h h' := by
  obtain ⟨w, h', v', e1, b1, r1, c1, k1⟩ := hT h p v l e 1 hng (by decide) hr hb hl
  have hlen : (takeR 1 (l, e)).1.length = 1 := by
    unfold takeR
    split
    · rfl
    · rename_i q
      rw [not_or] at q
      show (l.take 1).length = 1
      rw [List.length_take]; simp only at q; omega
  rcases b1 with ⟨_, z⟩ | ⟨b, o, c, rfl, m, _⟩
  · rw [z] at hlen; cases hlen
  · have hs := m.byte 0 (by omega)
    have hq : ∀ (q : List UInt8) (z : 0 < q.length), q.headD 0 = q[0] := fun q z => by
      cases q with
      | nil => cases z
      | cons a q => rfl
    have hh : (takeR 1 (l, e)).1.headD 0 = (takeR 1 (l, e)).1[0]'(by omega) := hq _ _
    rw [hlen] at e1
    exact ⟨b, o, c, h', v', e1, by rw [hh]; exact hs, r1, c1, k1⟩
noncomputable def nmLoop : Code := (.loop (.seq (.block 1 (.seq rg57_4 (.seq (.seq rg57_5 (.cond (Operand.tmp 17) (.seq rg57_6 .ret) .skip)) (.seq rg57_7 (.seq (.seq rg57_8 (.cond (Operand.tmp 34) (.seq rg57_9 (.seq rg57_10 .ret)) .skip)) (.seq rg57_11 (.seq rg57_12 (.cond (Operand.tmp 44) (.seq rg57_13 .ret) .skip)))))))) rg57_3))
/-- An error at hand: nothing is read. -/
theorem nm_err (tab : Tab) (hT : TakeP tab) (l : List UInt8) (e : Int) (he0 : (takeR 1 (l, e)).2.2 ≠ 0) (tm : Tr Value) (h : H) (p : Nat) (v : Value) (hng : tab.ng ≤ h.next) (hr : RDp tab h p v e) (hb : BT tab h v l) (hl : l.length < 1000000) (t0 : tm.get 0 = some (.pointer (some ⟨p, 0, none⟩))) :
    ∃ tm' h' v', exR (EV tab) nmLoop ⟨false, 46, tm, h⟩ = some (.ret, ⟨false, 46, tm', h'⟩) ∧ tm'.get 2 = some (.int .u64 0) ∧ RDp tab h' p v' (takeR 1 (l, e)).2.2 ∧ BT tab h' v' (takeR 1 (l, e)).2.1 ∧ KeptX p h h' := by
  obtain ⟨b, o, c, h', v', e1, hs, r1, c1, k1⟩ := take1 tab hT h p v l e hng hr hb hl
  have hnp : ¬ p < tab.ng := by have := hr.1; omega
  have r3 := r1.2.2
  have rs := r1.s1
  have z : ((takeR 1 (l, e)).2.2 != 0) = true := by simpa using he0
  generalize he : exR (EV tab) nmLoop ⟨false, 46, tm, h⟩ = r
  rw [nmLoop, exR_loop] at he
  simp only [sS, ofArgs, Int.reduceLT, Int.reduceLE, Int.reduceToNat, Int.reduceEq, readD, Nat.reduceLT, Nat.reduceEqDiff, Nat.reduceAdd, ↓reduceIte, binD, binInt, intBin, unD, convD, oLen, denseD, oFunc, oAppend, Nat.reduceMul, Nat.reduceLeDiff, fF57, tTGa, tTGb, sN, sO, loadD, isAggD, storeD, Obj.row, Obj.len, putL, Obj.put, fieldAddrD, indexAddrD, fieldD, indexD, placeOf, fillD, Nat.reduceSub, Nat.reduceLT, Nat.reduceBEq, Nat.reduceMod, Nat.reduceDiv, reduceCtorEq, ng_eq, tabL_ng, t0, e1, hs, hnp, r3, rs, iNeq, z, op_nil] at he
  subst he
  exact ⟨_, h', v', rfl, by simp only [Tr.get_set, Nat.reduceEqDiff, ↓reduceIte], r1, c1, k1⟩
theorem nm_loop (tab : Tab) (hT : TakeP tab) (p : Nat) : ∀ (l : List UInt8) (i out : Nat) (tm : Tr Value) (h : H) (v : Value), i ≤ 9 → out < 128 ^ i → tab.ng ≤ h.next → RDp tab h p v 0 → BT tab h v l → l.length < 1000000 →
    tm.get 0 = some (.pointer (some ⟨p, 0, none⟩)) → tm.get 3 = some (.int .u64 (out : Nat)) → tm.get 4 = some (.int .i64 ((7 * i : Nat) : Int)) →
    ∃ tm' h' v', exR (EV tab) nmLoop ⟨false, 46, tm, h⟩ = some (.ret, ⟨false, 46, tm', h'⟩) ∧ tm'.get 2 = some (.int .u64 ((numG l i out).1 : Nat)) ∧ RDp tab h' p v' (numG l i out).2.2 ∧ BT tab h' v' (numG l i out).2.1 ∧ KeptX p h h' := by
  intro l
  induction l with
  | nil =>
    intro i out tm h v hi ho hng hr hb hl t0 t3 t4
    obtain ⟨tm', h', v', e1, a1, a2, a3, a4⟩ := nm_err tab hT [] 0 (by decide) tm h p v hng hr hb hl t0
    exact ⟨tm', h', v', e1, a1, a2, a3, a4⟩
  | cons b l ih =>
    intro i out tm h v hi ho hng hr hb hl t0 t3 t4
    obtain ⟨bk, o, c, h1, v1, e1, hs, r1, c1, k1⟩ := take1 tab hT h p v (b :: l) 0 hng hr hb hl
    have ht : takeR 1 (b :: l, 0) = ([b], (l, 0)) := takeR_ok (by simp)
    rw [ht] at hs r1 c1
    simp only [List.headD_cons] at hs r1 c1
    have hnp : ¬ p < tab.ng := by have := hr.1; omega
    have r3 := r1.2.2
    have rs := r1.s1
    have z : ((0 : Int) != 0) = false := rfl
    have hbl : b.toNat < 256 := b.toNat_lt
    have hpc : NB h1 p := nb_cells r3 (by decide)
    have cv : IntKind.u64.wrap ((b.toNat % 128 : Nat) : Int) = ((b.toNat % 128 : Nat) : Int) := u64_nat _ (by omega)
    have a127 := and127 b
    by_cases q1 : (i = 9 ∧ 1 < b.toNat) ∨ (0 < i ∧ b.toNat = 0)
    · have hG : numG (b :: l) i out = (0, (l, 1)) := by rw [numG, if_pos q1]
      rw [hG]
      have k2 : KeptX p h (h1.put p (.cells 109 2 [v1, .int .i64 1])) := k1.put _
      have fin : RDp tab (h1.put p (.cells 109 2 [v1, .int .i64 1])) p v1 1 ∧ BT tab (h1.put p (.cells 109 2 [v1, .int .i64 1])) v1 l := ⟨⟨hr.1, r1.2.1, by rw [H.get_put, if_pos rfl]⟩, c1.keptX ((KeptX.refl p h1).put _) hpc⟩
      by_cases q9 : i = 9
      · have g1 : ((((7 * i : Nat) : Int)) == 63) = true := by rw [beq_iff_eq]; omega
        by_cases qb : 1 < b.toNat
        · have g2 : decide ((1 : Int) < (b.toNat : Int)) = true := decide_eq_true (by omega)
          generalize he : exR (EV tab) nmLoop ⟨false, 46, tm, h⟩ = r
          rw [nmLoop, exR_loop] at he
          simp only [sS, ofArgs, Int.reduceLT, Int.reduceLE, Int.reduceToNat, Int.reduceEq, readD, Nat.reduceLT, Nat.reduceEqDiff, Nat.reduceAdd, ↓reduceIte, binD, binInt, intBin, unD, convD, oLen, denseD, oFunc, oAppend, Nat.reduceMul, Nat.reduceLeDiff, fF57, tTGa, tTGb, sN, sO, loadD, isAggD, storeD, Obj.row, Obj.len, putL, Obj.put, fieldAddrD, indexAddrD, fieldD, indexD, placeOf, fillD, Nat.reduceSub, Nat.reduceLT, Nat.reduceBEq, Nat.reduceMod, Nat.reduceDiv, reduceCtorEq, ng_eq, tabL_ng, t0, t3, t4, e1, hs, hnp, r3, rs, iNeq, iEql, iGtr, iLss, gt_iff_lt, z, op_nil, a127, cv, g1, g2] at he
          subst he
          exact ⟨_, _, v1, rfl, by simp only [Tr.get_set, Nat.reduceEqDiff, ↓reduceIte]; rfl, fin.1, fin.2, k2⟩
        · have g2 : decide ((1 : Int) < (b.toNat : Int)) = false := decide_eq_false (by omega)
          have g3 : decide ((0 : Int) < ((7 * i : Nat) : Int)) = true := decide_eq_true (by omega)
          have g4 : ((b.toNat : Int) == 0) = true := by rw [beq_iff_eq]; omega
          generalize he : exR (EV tab) nmLoop ⟨false, 46, tm, h⟩ = r
          rw [nmLoop, exR_loop] at he
          simp only [sS, ofArgs, Int.reduceLT, Int.reduceLE, Int.reduceToNat, Int.reduceEq, readD, Nat.reduceLT, Nat.reduceEqDiff, Nat.reduceAdd, ↓reduceIte, binD, binInt, intBin, unD, convD, oLen, denseD, oFunc, oAppend, Nat.reduceMul, Nat.reduceLeDiff, fF57, tTGa, tTGb, sN, sO, loadD, isAggD, storeD, Obj.row, Obj.len, putL, Obj.put, fieldAddrD, indexAddrD, fieldD, indexD, placeOf, fillD, Nat.reduceSub, Nat.reduceLT, Nat.reduceBEq, Nat.reduceMod, Nat.reduceDiv, reduceCtorEq, ng_eq, tabL_ng, t0, t3, t4, e1, hs, hnp, r3, rs, iNeq, iEql, iGtr, iLss, gt_iff_lt, z, op_nil, a127, cv, g1, g2, g3, g4] at he
          subst he
          exact ⟨_, _, v1, rfl, by simp only [Tr.get_set, Nat.reduceEqDiff, ↓reduceIte]; rfl, fin.1, fin.2, k2⟩
      · have g1 : ((((7 * i : Nat) : Int)) == 63) = false := by rw [beq_eq_false_iff_ne]; omega
        have g3 : decide ((0 : Int) < ((7 * i : Nat) : Int)) = true := decide_eq_true (by omega)
        have g4 : ((b.toNat : Int) == 0) = true := by rw [beq_iff_eq]; omega
        generalize he : exR (EV tab) nmLoop ⟨false, 46, tm, h⟩ = r
        rw [nmLoop, exR_loop] at he
        simp only [sS, ofArgs, Int.reduceLT, Int.reduceLE, Int.reduceToNat, Int.reduceEq, readD, Nat.reduceLT, Nat.reduceEqDiff, Nat.reduceAdd, ↓reduceIte, binD, binInt, intBin, unD, convD, oLen, denseD, oFunc, oAppend, Nat.reduceMul, Nat.reduceLeDiff, fF57, tTGa, tTGb, sN, sO, loadD, isAggD, storeD, Obj.row, Obj.len, putL, Obj.put, fieldAddrD, indexAddrD, fieldD, indexD, placeOf, fillD, Nat.reduceSub, Nat.reduceLT, Nat.reduceBEq, Nat.reduceMod, Nat.reduceDiv, reduceCtorEq, ng_eq, tabL_ng, t0, t3, t4, e1, hs, hnp, r3, rs, iNeq, iEql, iGtr, iLss, gt_iff_lt, z, op_nil, a127, cv, g1, g3, g4] at he
        subst he
        exact ⟨_, _, v1, rfl, by simp only [Tr.get_set, Nat.reduceEqDiff, ↓reduceIte]; rfl, fin.1, fin.2, k2⟩
    · have hG : numG (b :: l) i out = if b.toNat < 128 then (out + b.toNat * 128 ^ i, (l, 0)) else numG l (i + 1) (out + (b.toNat - 128) * 128 ^ i) := by rw [numG, if_neg q1]
      rw [hG]
      rw [not_or] at q1
      obtain ⟨q2, q3⟩ := q1
      have hlim : b.toNat % 128 * 128 ^ i < 18446744073709551616 ∧ out + b.toNat % 128 * 128 ^ i < 18446744073709551616 := by
        by_cases q9 : i = 9
        · subst q9
          have h2 : b.toNat % 128 * 128 ^ 9 ≤ 1 * 128 ^ 9 := Nat.mul_le_mul_right _ (by omega)
          have h3 : (128 : Nat) ^ 9 = 9223372036854775808 := by decide
          omega
        · have h2 : b.toNat % 128 * 128 ^ i ≤ 127 * 128 ^ i := Nat.mul_le_mul_right _ (by omega)
          have h3 : (128 : Nat) ^ i ≤ 128 ^ 8 := Nat.pow_le_pow_right (by decide) (by omega)
          have h4 : (128 : Nat) ^ 8 = 72057594037927936 := by decide
          omega
      have s1 := shl7 (b.toNat % 128) i hi hlim.1
      have s2 := or_add out (b.toNat % 128) i ho hlim.2
      by_cases q9 : i = 9
      · have g1 : ((((7 * i : Nat) : Int)) == 63) = true := by rw [beq_iff_eq]; omega
        have g2 : decide ((1 : Int) < (b.toNat : Int)) = false := decide_eq_false (by omega)
        have g3 : decide ((0 : Int) < ((7 * i : Nat) : Int)) = true := decide_eq_true (by omega)
        have g4 : ((b.toNat : Int) == 0) = false := by rw [beq_eq_false_iff_ne]; omega
        by_cases qb : b.toNat < 128
        · have hm : b.toNat % 128 = b.toNat := Nat.mod_eq_of_lt qb
          have kb : decide ((b.toNat : Int) < 128) = true := decide_eq_true (by omega)
          rw [hm] at s1 s2 cv a127
          rw [if_pos qb]
          generalize he : exR (EV tab) nmLoop ⟨false, 46, tm, h⟩ = r
          rw [nmLoop, exR_loop] at he
          simp only [sS, ofArgs, Int.reduceLT, Int.reduceLE, Int.reduceToNat, Int.reduceEq, readD, Nat.reduceLT, Nat.reduceEqDiff, Nat.reduceAdd, ↓reduceIte, binD, binInt, intBin, unD, convD, oLen, denseD, oFunc, oAppend, Nat.reduceMul, Nat.reduceLeDiff, fF57, tTGa, tTGb, sN, sO, loadD, isAggD, storeD, Obj.row, Obj.len, putL, Obj.put, fieldAddrD, indexAddrD, fieldD, indexD, placeOf, fillD, Nat.reduceSub, Nat.reduceLT, Nat.reduceBEq, Nat.reduceMod, Nat.reduceDiv, reduceCtorEq, ng_eq, tabL_ng, t0, t3, t4, e1, hs, hnp, r3, rs, iNeq, iEql, iGtr, iLss, gt_iff_lt, z, op_nil, a127, cv, g1, g2, g3, g4, s1, s2, kb] at he
          subst he
          exact ⟨_, h1, v1, rfl, by simp only [Tr.get_set, Nat.reduceEqDiff, ↓reduceIte], r1, c1, k1⟩
        · have hm : b.toNat % 128 = b.toNat - 128 := by omega
          have kb : decide ((b.toNat : Int) < 128) = false := decide_eq_false (by omega)
          have hi9 : i < 9 := by omega
          rw [hm] at s1 s2 cv a127 hlim
          rw [if_neg qb]
          obtain ⟨tm1, e2, b0, b3, b4⟩ : ∃ tm1, exR (EV tab) nmLoop ⟨false, 46, tm, h⟩ = exR (EV tab) nmLoop ⟨false, 46, tm1, h1⟩ ∧ tm1.get 0 = some (.pointer (some ⟨p, 0, none⟩)) ∧ tm1.get 3 = some (.int .u64 ((out + (b.toNat - 128) * 128 ^ i : Nat) : Int)) ∧ tm1.get 4 = some (.int .i64 ((7 * (i + 1) : Nat) : Int)) := by
            generalize he : exR (EV tab) nmLoop ⟨false, 46, tm, h⟩ = r
            rw [nmLoop, exR_loop] at he
            simp only [sS, ofArgs, Int.reduceLT, Int.reduceLE, Int.reduceToNat, Int.reduceEq, readD, Nat.reduceLT, Nat.reduceEqDiff, Nat.reduceAdd, ↓reduceIte, binD, binInt, intBin, unD, convD, oLen, denseD, oFunc, oAppend, Nat.reduceMul, Nat.reduceLeDiff, fF57, tTGa, tTGb, sN, sO, loadD, isAggD, storeD, Obj.row, Obj.len, putL, Obj.put, fieldAddrD, indexAddrD, fieldD, indexD, placeOf, fillD, Nat.reduceSub, Nat.reduceLT, Nat.reduceBEq, Nat.reduceMod, Nat.reduceDiv, reduceCtorEq, ng_eq, tabL_ng, t0, t3, t4, e1, hs, hnp, r3, rs, iNeq, iEql, iGtr, iLss, gt_iff_lt, z, op_nil, a127, cv, g1, g2, g3, g4, s1, s2, kb, add7 i hi] at he
            subst he
            refine ⟨_, rfl, ?_, ?_, ?_⟩ <;> simp only [Tr.get_set, Nat.reduceEqDiff, ↓reduceIte, t0]
          obtain ⟨tm', h', v', x1, x2, x3, x4, x5⟩ := ih (i + 1) (out + (b.toNat - 128) * 128 ^ i) tm1 h1 v1 (by omega) (by
            have : (b.toNat - 128) * 128 ^ i ≤ 127 * 128 ^ i := Nat.mul_le_mul_right _ (by omega)
            rw [Nat.pow_succ]; omega) (Nat.le_trans hng k1.le) r1 c1 (by simp at hl; omega) b0 b3 b4
          exact ⟨tm', h', v', by rw [e2]; exact x1, x2, x3, x4, k1.trans x5⟩
      · have g1 : ((((7 * i : Nat) : Int)) == 63) = false := by rw [beq_eq_false_iff_ne]; omega
        by_cases qi : 0 < i
        · have g3 : decide ((0 : Int) < ((7 * i : Nat) : Int)) = true := decide_eq_true (by omega)
          have g4 : ((b.toNat : Int) == 0) = false := by rw [beq_eq_false_iff_ne]; omega
          by_cases qb : b.toNat < 128
          · have hm : b.toNat % 128 = b.toNat := Nat.mod_eq_of_lt qb
            have kb : decide ((b.toNat : Int) < 128) = true := decide_eq_true (by omega)
            rw [hm] at s1 s2 cv a127
            rw [if_pos qb]
            generalize he : exR (EV tab) nmLoop ⟨false, 46, tm, h⟩ = r
            rw [nmLoop, exR_loop] at he
            simp only [sS, ofArgs, Int.reduceLT, Int.reduceLE, Int.reduceToNat, Int.reduceEq, readD, Nat.reduceLT, Nat.reduceEqDiff, Nat.reduceAdd, ↓reduceIte, binD, binInt, intBin, unD, convD, oLen, denseD, oFunc, oAppend, Nat.reduceMul, Nat.reduceLeDiff, fF57, tTGa, tTGb, sN, sO, loadD, isAggD, storeD, Obj.row, Obj.len, putL, Obj.put, fieldAddrD, indexAddrD, fieldD, indexD, placeOf, fillD, Nat.reduceSub, Nat.reduceLT, Nat.reduceBEq, Nat.reduceMod, Nat.reduceDiv, reduceCtorEq, ng_eq, tabL_ng, t0, t3, t4, e1, hs, hnp, r3, rs, iNeq, iEql, iGtr, iLss, gt_iff_lt, z, op_nil, a127, cv, g1, g3, g4, s1, s2, kb] at he
            subst he
            exact ⟨_, h1, v1, rfl, by simp only [Tr.get_set, Nat.reduceEqDiff, ↓reduceIte], r1, c1, k1⟩
          · have hm : b.toNat % 128 = b.toNat - 128 := by omega
            have kb : decide ((b.toNat : Int) < 128) = false := decide_eq_false (by omega)
            have hi9 : i < 9 := by omega
            rw [hm] at s1 s2 cv a127 hlim
            rw [if_neg qb]
            obtain ⟨tm1, e2, b0, b3, b4⟩ : ∃ tm1, exR (EV tab) nmLoop ⟨false, 46, tm, h⟩ = exR (EV tab) nmLoop ⟨false, 46, tm1, h1⟩ ∧ tm1.get 0 = some (.pointer (some ⟨p, 0, none⟩)) ∧ tm1.get 3 = some (.int .u64 ((out + (b.toNat - 128) * 128 ^ i : Nat) : Int)) ∧ tm1.get 4 = some (.int .i64 ((7 * (i + 1) : Nat) : Int)) := by
              generalize he : exR (EV tab) nmLoop ⟨false, 46, tm, h⟩ = r
              rw [nmLoop, exR_loop] at he
              simp only [sS, ofArgs, Int.reduceLT, Int.reduceLE, Int.reduceToNat, Int.reduceEq, readD, Nat.reduceLT, Nat.reduceEqDiff, Nat.reduceAdd, ↓reduceIte, binD, binInt, intBin, unD, convD, oLen, denseD, oFunc, oAppend, Nat.reduceMul, Nat.reduceLeDiff, fF57, tTGa, tTGb, sN, sO, loadD, isAggD, storeD, Obj.row, Obj.len, putL, Obj.put, fieldAddrD, indexAddrD, fieldD, indexD, placeOf, fillD, Nat.reduceSub, Nat.reduceLT, Nat.reduceBEq, Nat.reduceMod, Nat.reduceDiv, reduceCtorEq, ng_eq, tabL_ng, t0, t3, t4, e1, hs, hnp, r3, rs, iNeq, iEql, iGtr, iLss, gt_iff_lt, z, op_nil, a127, cv, g1, g3, g4, s1, s2, kb, add7 i hi] at he
              subst he
              refine ⟨_, rfl, ?_, ?_, ?_⟩ <;> simp only [Tr.get_set, Nat.reduceEqDiff, ↓reduceIte, t0]
            obtain ⟨tm', h', v', x1, x2, x3, x4, x5⟩ := ih (i + 1) (out + (b.toNat - 128) * 128 ^ i) tm1 h1 v1 (by omega) (by
              have : (b.toNat - 128) * 128 ^ i ≤ 127 * 128 ^ i := Nat.mul_le_mul_right _ (by omega)
              rw [Nat.pow_succ]; omega) (Nat.le_trans hng k1.le) r1 c1 (by simp at hl; omega) b0 b3 b4
            exact ⟨tm', h', v', by rw [e2]; exact x1, x2, x3, x4, k1.trans x5⟩
        · have g3 : decide ((0 : Int) < ((7 * i : Nat) : Int)) = false := decide_eq_false (by omega)
          by_cases qb : b.toNat < 128
          · have hm : b.toNat % 128 = b.toNat := Nat.mod_eq_of_lt qb
            have kb : decide ((b.toNat : Int) < 128) = true := decide_eq_true (by omega)
            rw [hm] at s1 s2 cv a127
            rw [if_pos qb]
            generalize he : exR (EV tab) nmLoop ⟨false, 46, tm, h⟩ = r
            rw [nmLoop, exR_loop] at he
            simp only [sS, ofArgs, Int.reduceLT, Int.reduceLE, Int.reduceToNat, Int.reduceEq, readD, Nat.reduceLT, Nat.reduceEqDiff, Nat.reduceAdd, ↓reduceIte, binD, binInt, intBin, unD, convD, oLen, denseD, oFunc, oAppend, Nat.reduceMul, Nat.reduceLeDiff, fF57, tTGa, tTGb, sN, sO, loadD, isAggD, storeD, Obj.row, Obj.len, putL, Obj.put, fieldAddrD, indexAddrD, fieldD, indexD, placeOf, fillD, Nat.reduceSub, Nat.reduceLT, Nat.reduceBEq, Nat.reduceMod, Nat.reduceDiv, reduceCtorEq, ng_eq, tabL_ng, t0, t3, t4, e1, hs, hnp, r3, rs, iNeq, iEql, iGtr, iLss, gt_iff_lt, z, op_nil, a127, cv, g1, g3, s1, s2, kb] at he
            subst he
            exact ⟨_, h1, v1, rfl, by simp only [Tr.get_set, Nat.reduceEqDiff, ↓reduceIte], r1, c1, k1⟩
          · have hm : b.toNat % 128 = b.toNat - 128 := by omega
            have kb : decide ((b.toNat : Int) < 128) = false := decide_eq_false (by omega)
            have hi9 : i < 9 := by omega
            rw [hm] at s1 s2 cv a127 hlim
            rw [if_neg qb]
            obtain ⟨tm1, e2, b0, b3, b4⟩ : ∃ tm1, exR (EV tab) nmLoop ⟨false, 46, tm, h⟩ = exR (EV tab) nmLoop ⟨false, 46, tm1, h1⟩ ∧ tm1.get 0 = some (.pointer (some ⟨p, 0, none⟩)) ∧ tm1.get 3 = some (.int .u64 ((out + (b.toNat - 128) * 128 ^ i : Nat) : Int)) ∧ tm1.get 4 = some (.int .i64 ((7 * (i + 1) : Nat) : Int)) := by
              generalize he : exR (EV tab) nmLoop ⟨false, 46, tm, h⟩ = r
              rw [nmLoop, exR_loop] at he
              simp only [sS, ofArgs, Int.reduceLT, Int.reduceLE, Int.reduceToNat, Int.reduceEq, readD, Nat.reduceLT, Nat.reduceEqDiff, Nat.reduceAdd, ↓reduceIte, binD, binInt, intBin, unD, convD, oLen, denseD, oFunc, oAppend, Nat.reduceMul, Nat.reduceLeDiff, fF57, tTGa, tTGb, sN, sO, loadD, isAggD, storeD, Obj.row, Obj.len, putL, Obj.put, fieldAddrD, indexAddrD, fieldD, indexD, placeOf, fillD, Nat.reduceSub, Nat.reduceLT, Nat.reduceBEq, Nat.reduceMod, Nat.reduceDiv, reduceCtorEq, ng_eq, tabL_ng, t0, t3, t4, e1, hs, hnp, r3, rs, iNeq, iEql, iGtr, iLss, gt_iff_lt, z, op_nil, a127, cv, g1, g3, s1, s2, kb, add7 i hi] at he
              subst he
              refine ⟨_, rfl, ?_, ?_, ?_⟩ <;> simp only [Tr.get_set, Nat.reduceEqDiff, ↓reduceIte, t0]
            obtain ⟨tm', h', v', x1, x2, x3, x4, x5⟩ := ih (i + 1) (out + (b.toNat - 128) * 128 ^ i) tm1 h1 v1 (by omega) (by
              have : (b.toNat - 128) * 128 ^ i ≤ 127 * 128 ^ i := Nat.mul_le_mul_right _ (by omega)
              rw [Nat.pow_succ]; omega) (Nat.le_trans hng k1.le) r1 c1 (by simp at hl; omega) b0 b3 b4
            exact ⟨tm', h', v', by rw [e2]; exact x1, x2, x3, x4, k1.trans x5⟩
theorem number_run (tab : Tab) (hx : ∀ l, callExt (EV tab) 57 l = none) (hT : TakeP tab) (h : H) (p : Nat) (v : Value) (l : List UInt8) (e : Int) (hng : tab.ng ≤ h.next) (hr : RDp tab h p v e) (hb : BT tab h v l) (hl : l.length < 1000000) :
    ∃ h' v', callR (EV tab) 57 [.pointer (some ⟨p, 0, none⟩)] h = some (.int .u64 ((numI (l, e)).1 : Nat), h') ∧ RDp tab h' p v' (numI (l, e)).2.2 ∧ BT tab h' v' (numI (l, e)).2.1 ∧ KeptX p h h' := by
  have key : ∀ tm h1, (h1 = h ∧ tm.get 0 = some (.pointer (some ⟨p, 0, none⟩)) ∧ tm.get 3 = some (.int .u64 ((0 : Nat) : Int)) ∧ tm.get 4 = some (.int .i64 ((7 * 0 : Nat) : Int))) → ∃ x s', exR (EV tab) nmLoop ⟨false, 46, tm, h1⟩ = some (x, s') ∧
      (x = .ret ∧ ∃ tm' h' v', s' = ⟨false, 46, tm', h'⟩ ∧ tm'.get 2 = some (.int .u64 ((numI (l, e)).1 : Nat)) ∧ RDp tab h' p v' (numI (l, e)).2.2 ∧ BT tab h' v' (numI (l, e)).2.1 ∧ KeptX p h h') := fun tm h1 q => by
    obtain ⟨rfl, p0, p3, p4⟩ := q
    by_cases q : e = 0
    · subst q
      have hI : numI (l, 0) = numG l 0 0 := by unfold numI; rw [if_neg (by simp)]
      rw [hI]
      obtain ⟨tm', h', v', x1, x2, x3, x4, x5⟩ := nm_loop tab hT p l 0 0 tm h1 v (by decide) (by decide) hng hr hb hl p0 p3 p4
      exact ⟨_, _, x1, rfl, tm', h', v', rfl, x2, x3, x4, x5⟩
    · rw [numI_err l e q]
      have he := takeR_err 1 l e q
      obtain ⟨tm', h', v', x1, x2, x3, x4, x5⟩ := nm_err tab hT l e (by rw [he]; exact q) tm h1 p v hng hr hb hl p0
      rw [he] at x3 x4
      exact ⟨_, _, x1, rfl, tm', h', v', rfl, x2, x3, x4, x5⟩
  generalize he : callR _ _ _ _ = r
  rw [enter57 _ _ _ (hx _) rfl] at he
  simp only [sS, ofArgs, Int.reduceLT, Int.reduceLE, Int.reduceToNat, Int.reduceEq, readD, Nat.reduceLT, Nat.reduceEqDiff, Nat.reduceAdd, ↓reduceIte, binD, binInt, intBin, unD, convD, oLen, denseD, oFunc, oAppend, Nat.reduceMul, Nat.reduceLeDiff, b57, p57_0, r57_0, p57_1, r57_1, p57_2, r57_2, tTGa, tTGb] at he
  obtain ⟨x1, s1, ⟨rfl, tm', h', v', rfl, x2, x3, x4, x5⟩, he⟩ := use_run key (fun o => finish (EV tab) [ResultVar.tmp 2] (unblock 0 o)) he (by
    refine ⟨rfl, ?_, ?_, ?_⟩ <;> simp only [Tr.get_set, Nat.reduceEqDiff, ↓reduceIte] <;> rfl)
  simp only [sS, ofArgs, Int.reduceLT, Int.reduceLE, Int.reduceToNat, Int.reduceEq, readD, Nat.reduceLT, Nat.reduceEqDiff, Nat.reduceAdd, ↓reduceIte, binD, binInt, intBin, unD, convD, oLen, denseD, oFunc, oAppend, Nat.reduceMul, Nat.reduceLeDiff, x2] at he
  subst he
  exact ⟨h', v', rfl, x3, x4, x5⟩
/-! ### small, signed -/
abbrev NumP (tab : Tab) : Prop := ∀ (h : H) (p : Nat) (v : Value) (l : List UInt8) (e : Int), tab.ng ≤ h.next → RDp tab h p v e → BT tab h v l → l.length < 1000000 →
  ∃ h' v', callR (EV tab) 57 [.pointer (some ⟨p, 0, none⟩)] h = some (.int .u64 ((numI (l, e)).1 : Nat), h') ∧ RDp tab h' p v' (numI (l, e)).2.2 ∧ BT tab h' v' (numI (l, e)).2.1 ∧ KeptX p h h'
theorem RDp.no {tab : Tab} {h : H} {p : Nat} {v : Value} {e : Int} (r : RDp tab h p v e) : NB h p := nb_cells r.2.2 (by decide)
theorem small_run (tab : Tab) (hx : ∀ l, callExt (EV tab) 60 l = none) (hN : NumP tab) (fi : FirstP tab) (h : H) (p : Nat) (v : Value) (l : List UInt8) (e : Int) (hng : tab.ng ≤ h.next) (hr : RDp tab h p v e) (hb : BT tab h v l) (hl : l.length < 1000000) :
    ∃ h' v', callR (EV tab) 60 [.pointer (some ⟨p, 0, none⟩)] h = some (.int .i64 ((smallI (l, e)).1 : Nat), h') ∧ RDp tab h' p v' (smallI (l, e)).2.2 ∧ BT tab h' v' (smallI (l, e)).2.1 ∧ KeptX p h h' := by
  obtain ⟨h1, v1, e1, r1, b1, k1⟩ := hN h p v l e hng hr hb hl
  have hp17 := hr.1
  have hnp : ¬ p < tab.ng := by omega
  have r3 := r1.2.2
  have hlt := r1.2.1
  have hpc := r1.no
  unfold smallI
  generalize hn : numI (l, e) = s at e1 r1 b1 r3
  obtain ⟨n, l', e'⟩ := s
  simp only at e1 r1 b1 r3 ⊢
  by_cases q : 2 ^ 62 < n
  · have d1 : decide ((4611686018427387904 : Int) < (n : Int)) = true := decide_eq_true (by omega)
    rw [if_pos q]
    have hn1 : tab.ng ≤ h1.next := Nat.le_trans hng k1.le
    have hpn : ¬ h1.next = p := by omega
    have ef := fi (h1.push (.cells 26 1 [.int .i64 e', .int .i64 1])) h1.next 5 2 [e', 1] hn1 (H.get_push_self _ _) rfl (by decide)
    have f1 : firstI [e', 1] = if e' = 0 then 1 else e' := by simp only [firstI]; split <;> rfl
    rw [f1] at ef
    generalize he : callR _ _ _ _ = x
    rw [enter60 _ _ _ (hx _) rfl] at he
    simp only [sS, ofArgs, Int.reduceLT, Int.reduceLE, Int.reduceToNat, Int.reduceEq, readD, Nat.reduceLT, Nat.reduceEqDiff, Nat.reduceAdd, ↓reduceIte, binD, binInt, intBin, unD, convD, oLen, denseD, oFunc, oAppend, Nat.reduceMul, Nat.reduceLeDiff, fF60, tTGa, tTGb, sN, subD, loadD, isAggD, storeD, Obj.row, Obj.len, putL, Obj.put, fieldAddrD, indexAddrD, fieldD, indexD, placeOf, fillD, Nat.reduceSub, Nat.reduceLT, Nat.reduceBEq, Nat.reduceMod, Nat.reduceDiv, reduceCtorEq, rdsub1, ng_eq, tabL_ng, hnp, e1, iGtr, gt_iff_lt, d1, r3, hpn, ef, op_nil] at he
    subst he
    have k : KeptX p h1 ((h1.push (.cells 26 1 [.int .i64 e', .int .i64 1])).put p (.cells 109 2 [v1, .int .i64 (if e' = 0 then 1 else e')])) := ((KeptX.refl p h1).push _).put _
    exact ⟨_, v1, rfl, ⟨hr.1, Nat.lt_of_lt_of_le hlt k.le, by rw [H.get_put, if_pos rfl]⟩, b1.keptX k hpc, k1.trans k⟩
  · have d1 : decide ((4611686018427387904 : Int) < (n : Int)) = false := decide_eq_false (by omega)
    have w1 : IntKind.i64.wrap (n : Int) = n := IntWalk.i64_in _ (by omega)
    rw [if_neg q]
    generalize he : callR _ _ _ _ = x
    rw [enter60 _ _ _ (hx _) rfl] at he
    simp only [sS, ofArgs, Int.reduceLT, Int.reduceLE, Int.reduceToNat, Int.reduceEq, readD, Nat.reduceLT, Nat.reduceEqDiff, Nat.reduceAdd, ↓reduceIte, binD, binInt, intBin, unD, convD, oLen, denseD, oFunc, oAppend, Nat.reduceMul, Nat.reduceLeDiff, fF60, tTGa, tTGb, sN, subD, loadD, isAggD, storeD, Obj.row, Obj.len, putL, Obj.put, fieldAddrD, indexAddrD, fieldD, indexD, placeOf, fillD, Nat.reduceSub, Nat.reduceLT, Nat.reduceBEq, Nat.reduceMod, Nat.reduceDiv, reduceCtorEq, rdsub1, ng_eq, tabL_ng, hnp, e1, iGtr, gt_iff_lt, d1, w1, op_nil] at he
    subst he
    exact ⟨_, v1, rfl, r1, b1, k1⟩
theorem smallI_le (r : Rd) : (smallI r).1 ≤ 2 ^ 62 := by
  unfold smallI
  split
  · exact Nat.zero_le _
  · omega
abbrev SmP (tab : Tab) : Prop := ∀ (h : H) (p : Nat) (v : Value) (l : List UInt8) (e : Int), tab.ng ≤ h.next → RDp tab h p v e → BT tab h v l → l.length < 1000000 →
  ∃ h' v', callR (EV tab) 60 [.pointer (some ⟨p, 0, none⟩)] h = some (.int .i64 ((smallI (l, e)).1 : Nat), h') ∧ RDp tab h' p v' (smallI (l, e)).2.2 ∧ BT tab h' v' (smallI (l, e)).2.1 ∧ KeptX p h h'
theorem rem2 (n : Nat) : iRem .i64 (n : Int) 2 = some (.int .i64 ((n % 2 : Nat) : Int)) := by
  unfold iRem
  rw [if_neg (by decide)]
  rfl
theorem quo2 (n : Nat) (h : n ≤ 4611686018427387904) : iQuo .i64 (n : Int) 2 = some (.int .i64 ((n / 2 : Nat) : Int)) := by
  unfold iQuo
  rw [if_neg (by decide)]
  have h2 : (n : Int).tdiv 2 = ((n / 2 : Nat) : Int) := rfl
  rw [h2, IntWalk.i64_in _ (by omega)]
theorem signed_run (tab : Tab) (hx : ∀ l, callExt (EV tab) 58 l = none) (hS : SmP tab) (h : H) (p : Nat) (v : Value) (l : List UInt8) (e : Int) (hng : tab.ng ≤ h.next) (hr : RDp tab h p v e) (hb : BT tab h v l) (hl : l.length < 1000000) :
    ∃ h' v', callR (EV tab) 58 [.pointer (some ⟨p, 0, none⟩)] h = some (.int .i64 (signI (l, e)).1, h') ∧ RDp tab h' p v' (signI (l, e)).2.2 ∧ BT tab h' v' (signI (l, e)).2.1 ∧ KeptX p h h' := by
  obtain ⟨h1, v1, e1, r1, b1, k1⟩ := hS h p v l e hng hr hb hl
  have hle := smallI_le (l, e)
  unfold signI
  generalize hn : smallI (l, e) = s at e1 r1 b1 hle
  obtain ⟨n, l', e'⟩ := s
  simp only at e1 r1 b1 hle ⊢
  have r2 := rem2 n
  have q2 := quo2 n (by omega)
  unfold sgnN
  by_cases q : n % 2 = 1
  · have d1 : (((n % 2 : Nat) : Int) == 1) = true := by rw [q]; rfl
    have a1 : iAdd .i64 ((n / 2 : Nat) : Int) 1 = some (.int .i64 ((n / 2 + 1 : Nat) : Int)) := by unfold iAdd; rw [IntWalk.i64_in _ (by omega)]; rfl
    have s1 : iSub .i64 0 ((n / 2 + 1 : Nat) : Int) = some (.int .i64 (-((n / 2 + 1 : Nat) : Int))) := by unfold iSub; rw [IntWalk.i64_in _ (by omega), Int.zero_sub]
    rw [if_pos q]
    generalize he : callR _ _ _ _ = x
    rw [enter58 _ _ _ (hx _) rfl] at he
    simp only [sS, ofArgs, Int.reduceLT, Int.reduceLE, Int.reduceToNat, Int.reduceEq, readD, Nat.reduceLT, Nat.reduceEqDiff, Nat.reduceAdd, ↓reduceIte, binD, binInt, intBin, unD, convD, oLen, denseD, oFunc, oAppend, Nat.reduceMul, Nat.reduceLeDiff, fF58, tTGa, tTGb, e1, r2, q2, iEql, d1, a1, s1] at he
    subst he
    exact ⟨_, v1, rfl, r1, b1, k1⟩
  · have d1 : (((n % 2 : Nat) : Int) == 1) = false := by rw [beq_eq_false_iff_ne]; omega
    rw [if_neg q]
    generalize he : callR _ _ _ _ = x
    rw [enter58 _ _ _ (hx _) rfl] at he
    simp only [sS, ofArgs, Int.reduceLT, Int.reduceLE, Int.reduceToNat, Int.reduceEq, readD, Nat.reduceLT, Nat.reduceEqDiff, Nat.reduceAdd, ↓reduceIte, binD, binInt, intBin, unD, convD, oLen, denseD, oFunc, oAppend, Nat.reduceMul, Nat.reduceLeDiff, fF58, tTGa, tTGb, e1, r2, q2, iEql, d1] at he
    subst he
    exact ⟨_, v1, rfl, r1, b1, k1⟩
/-! ### fixed (the reader's) -/
theorem leN_append : ∀ (a b : List UInt8), leN (a ++ b) = leN a + leN b * 256 ^ a.length
  | [], b => by simp [leN]
  | x :: a, b => by
    rw [List.cons_append, leN, leN, leN_append a b, List.length_cons, Nat.pow_succ, Nat.mul_add, Nat.add_assoc]
    congr 2
    rw [Nat.mul_comm (256 ^ a.length) 256, ← Nat.mul_assoc, Nat.mul_comm 256 (leN b), Nat.mul_assoc]
theorem pow8 (i : Nat) : (2 : Nat) ^ (8 * i) = 256 ^ i := by rw [Nat.pow_mul]
theorem shl8 (g i : Nat) (hi : i < 8) (hg : g * 256 ^ i < 18446744073709551616) : iShl .u64 (g : Int) ((8 * i : Nat) : Int) = some (.int .u64 ((g * 256 ^ i : Nat) : Int)) := by
  unfold iShl
  rw [if_neg (by omega)]
  have h1 : min ((8 * i : Nat) : Int).toNat IntKind.u64.bits = 8 * i := by rw [Int.toNat_natCast]; exact Nat.min_eq_left (by show 8 * i ≤ 64; omega)
  have h2 : (g : Int) * 2 ^ (8 * i) = ((g * 256 ^ i : Nat) : Int) := by rw [← pow8]; simp
  rw [h1, h2, u64_nat _ hg]
theorem or_add8 (o g i : Nat) (ho : o < 256 ^ i) (hg : o + g * 256 ^ i < 18446744073709551616) : iOr .u64 (o : Int) ((g * 256 ^ i : Nat) : Int) = some (.int .u64 ((o + g * 256 ^ i : Nat) : Int)) := by
  have h1 : o ||| g * 256 ^ i = o + g * 256 ^ i := by
    rw [Nat.mul_comm, ← pow8, Nat.or_comm, ← Nat.two_pow_add_eq_or_of_lt (by rw [pow8]; exact ho), Nat.add_comm]
  have h2 : (BitVec.ofInt 64 (o : Int) ||| BitVec.ofInt 64 ((g * 256 ^ i : Nat) : Int)).toNat = o + g * 256 ^ i := by
    rw [BitVec.toNat_or, BitVec.ofInt_natCast, BitVec.ofInt_natCast, BitVec.toNat_ofNat, BitVec.toNat_ofNat, Nat.mod_eq_of_lt (by omega), Nat.mod_eq_of_lt (by omega), h1]
  unfold iOr
  show some (Value.int .u64 (IntKind.u64.wrap ((BitVec.ofInt 64 (o : Int) ||| BitVec.ofInt 64 ((g * 256 ^ i : Nat) : Int)).toNat : Int))) = _
  rw [h2, u64_nat _ hg]
theorem mul8 (i : Nat) (hi : i < 100) : iMul .i64 8 (i : Int) = some (.int .i64 ((8 * i : Nat) : Int)) := by
  unfold iMul
  rw [IntWalk.i64_in _ (by omega)]
  congr 2
theorem byte_u64 (b : UInt8) : IntKind.u64.wrap (b.toNat : Int) = (b.toNat : Nat) := u64_nat _ (by have := b.toNat_lt; omega)
/-- One byte more of a number. -/
theorem le_step (l : List UInt8) (i : Nat) (hi : i < l.length) (h8 : l.length ≤ 8) : leN (l.take (i + 1)) = leN (l.take i) + l[i].toNat * 256 ^ i ∧ leN (l.take i) < 256 ^ i ∧ l[i].toNat * 256 ^ i < 18446744073709551616 ∧ leN (l.take i) + l[i].toNat * 256 ^ i < 18446744073709551616 := by
  have h1 : l.take (i + 1) = l.take i ++ [l[i]] := by rw [List.take_add_one, List.getElem?_eq_getElem hi]; rfl
  have hl : (l.take i).length = i := by rw [List.length_take]; omega
  have e1 : leN (l.take (i + 1)) = leN (l.take i) + l[i].toNat * 256 ^ i := by rw [h1, leN_append, hl]; simp [leN]
  have e2 := leN_lt (l.take i)
  have e3 := leN_lt (l.take (i + 1))
  rw [hl] at e2
  have hl2 : (l.take (i + 1)).length = i + 1 := by rw [List.length_take]; omega
  rw [hl2] at e3
  have e4 : (256 : Nat) ^ (i + 1) ≤ 256 ^ 8 := Nat.pow_le_pow_right (by decide) (by omega)
  have e5 : (256 : Nat) ^ 8 = 18446744073709551616 := by decide
  exact ⟨e1, e2, by omega, by omega⟩
noncomputable def fxLoop : Code := (.loop (.seq rg59_3 (.seq (.cond (Operand.tmp 13) .skip (Code.exit 0)) (.seq (.block 1 (.seq rg59_4 rg59_5)) rg59_6))))
theorem fx_loop (tab : Tab) (h : H) (b o c : Nat) (l : List UInt8) (hm : Mem tab h b o (bs l)) (h8 : l.length ≤ 8) :
    ∀ (k i : Nat) (tm : Tr Value), i + k = l.length → tm.get 5 = some (.int .u64 (leN (l.take i) : Nat)) → tm.get 10 = some (.slice (some ⟨b, o, none⟩) l.length c) → tm.get 11 = some (.int .i64 l.length) → tm.get 12 = some (.int .i64 i) →
    ∃ tm', exR (EV tab) fxLoop ⟨false, 26, tm, h⟩ = some (.exit 0, ⟨false, 26, tm', h⟩) ∧ tm'.get 5 = some (.int .u64 (leN l : Nat)) := by
  intro k
  induction k with
  | zero =>
    intro i tm hk t5 t10 t11 t12
    have d1 : decide (i < l.length) = false := decide_eq_false (by omega)
    generalize he : exR (EV tab) fxLoop ⟨false, 26, tm, h⟩ = r
    rw [fxLoop, exR_loop] at he
    simp only [sS, ofArgs, Int.reduceLT, Int.reduceLE, Int.reduceToNat, Int.reduceEq, readD, Nat.reduceLT, Nat.reduceEqDiff, Nat.reduceAdd, ↓reduceIte, binD, binInt, intBin, unD, convD, oLen, denseD, oFunc, oAppend, Nat.reduceMul, Nat.reduceLeDiff, fF59, tTGa, tTGb, sN, sO, loadD, isAggD, storeD, Obj.row, Obj.len, putL, Obj.put, fieldAddrD, indexAddrD, fieldD, indexD, placeOf, fillD, Nat.reduceSub, Nat.reduceLT, Nat.reduceBEq, Nat.reduceMod, Nat.reduceDiv, reduceCtorEq, t5, t10, t11, t12, iLss, Int.ofNat_lt, d1] at he
    subst he
    rw [List.take_of_length_le (by omega)] at t5
    exact ⟨_, rfl, by simp only [Tr.get_set, Nat.reduceEqDiff, ↓reduceIte, t5]⟩
  | succ k ih =>
    intro i tm hk t5 t10 t11 t12
    have hi : i < l.length := by omega
    have d1 : decide (i < l.length) = true := decide_eq_true hi
    have hs := hm.byte i hi
    obtain ⟨s1, s2, s3, s4⟩ := le_step l i hi h8
    have a1 := shl8 l[i].toNat i (by omega) s3
    have a2 := or_add8 (leN (l.take i)) l[i].toNat i s2 s4
    have a3 := mul8 i (by omega)
    have a4 := byte_u64 l[i]
    obtain ⟨tm1, e1, b5, b10, b11, b12⟩ : ∃ tm1, exR (EV tab) fxLoop ⟨false, 26, tm, h⟩ = exR (EV tab) fxLoop ⟨false, 26, tm1, h⟩ ∧ tm1.get 5 = some (.int .u64 (leN (l.take (i + 1)) : Nat)) ∧ tm1.get 10 = some (.slice (some ⟨b, o, none⟩) l.length c) ∧ tm1.get 11 = some (.int .i64 l.length) ∧ tm1.get 12 = some (.int .i64 ((i + 1 : Nat) : Int)) := by
      generalize he : exR (EV tab) fxLoop ⟨false, 26, tm, h⟩ = r
      rw [fxLoop, exR_loop] at he
      simp only [sS, ofArgs, Int.reduceLT, Int.reduceLE, Int.reduceToNat, Int.reduceEq, readD, Nat.reduceLT, Nat.reduceEqDiff, Nat.reduceAdd, ↓reduceIte, binD, binInt, intBin, unD, convD, oLen, denseD, oFunc, oAppend, Nat.reduceMul, Nat.reduceLeDiff, fF59, tTGa, tTGb, sN, sO, loadD, isAggD, storeD, Obj.row, Obj.len, putL, Obj.put, fieldAddrD, indexAddrD, fieldD, indexD, placeOf, fillD, Nat.reduceSub, Nat.reduceLT, Nat.reduceBEq, Nat.reduceMod, Nat.reduceDiv, reduceCtorEq, ng_eq, tabL_ng, t5, t10, t11, t12, iLss, Int.ofNat_lt, hi, decide_true, Int.natCast_nonneg, and_self, Int.toNat_natCast, hs, a1, a2, a3, a4, add1 i (by omega)] at he
      subst he
      rw [s1]
      refine ⟨_, rfl, ?_, ?_, ?_, ?_⟩ <;> simp only [Tr.get_set, Nat.reduceEqDiff, ↓reduceIte, t10, t11]
    obtain ⟨tm', x1, x2⟩ := ih (i + 1) tm1 (by omega) b5 b10 b11 b12
    exact ⟨tm', by rw [e1]; exact x1, x2⟩
theorem takeR_len (n : Nat) (r : Rd) : (takeR n r).1.length = n := by
  unfold takeR
  split
  · rw [List.length_replicate]
  · rename_i q
    rw [not_or] at q
    show (r.1.take n).length = n
    rw [List.length_take]; omega
theorem rfixed_run (tab : Tab) (hx : ∀ l, callExt (EV tab) 59 l = none) (hT : TakeP tab) (h : H) (p : Nat) (v : Value) (l : List UInt8) (e : Int) (n : Nat) (hn : 0 < n) (hn8 : n ≤ 8) (hng : tab.ng ≤ h.next) (hr : RDp tab h p v e) (hb : BT tab h v l) (hl : l.length < 1000000) :
    ∃ h' v', callR (EV tab) 59 [.pointer (some ⟨p, 0, none⟩), .int .i64 n] h = some (.int .u64 ((fixI n (l, e)).1 : Nat), h') ∧ RDp tab h' p v' (fixI n (l, e)).2.2 ∧ BT tab h' v' (fixI n (l, e)).2.1 ∧ KeptX p h h' := by
  obtain ⟨w, h1, v1, e1, w1, r1, b1, k1⟩ := hT h p v l e n hng hn8 hr hb hl
  have hlen := takeR_len n (l, e)
  unfold fixI
  generalize takeR n (l, e) = s at e1 w1 r1 b1 hlen
  obtain ⟨bl, l', e'⟩ := s
  simp only at e1 w1 r1 b1 hlen ⊢
  rcases w1 with ⟨_, z⟩ | ⟨b, o, c, rfl, m, _⟩
  · rw [z] at hlen; simp at hlen; omega
  · have key : ∀ tm h2, (h2 = h1 ∧ tm.get 5 = some (.int .u64 0) ∧ tm.get 10 = some (.slice (some ⟨b, o, none⟩) bl.length c) ∧ tm.get 11 = some (.int .i64 bl.length) ∧ tm.get 12 = some (.int .i64 0)) → ∃ x s', exR (EV tab) fxLoop ⟨false, 26, tm, h2⟩ = some (x, s') ∧
        (x = .exit 0 ∧ ∃ tm', s' = ⟨false, 26, tm', h1⟩ ∧ tm'.get 5 = some (.int .u64 (leN bl : Nat))) := fun tm h2 q => by
      obtain ⟨rfl, p5, p10, p11, p12⟩ := q
      obtain ⟨tm', x1, x2⟩ := fx_loop tab h2 b o c bl m (by omega) bl.length 0 tm (by omega) p5 p10 p11 p12
      exact ⟨_, _, x1, rfl, tm', rfl, x2⟩
    generalize he : callR _ _ _ _ = r
    rw [enter59 _ _ _ (hx _) rfl] at he
    simp only [sS, ofArgs, Int.reduceLT, Int.reduceLE, Int.reduceToNat, Int.reduceEq, readD, Nat.reduceLT, Nat.reduceEqDiff, Nat.reduceAdd, ↓reduceIte, binD, binInt, intBin, unD, convD, oLen, denseD, oFunc, oAppend, Nat.reduceMul, Nat.reduceLeDiff, b59, p59_0, r59_0, p59_1, r59_1, p59_2, r59_2, tTGa, tTGb, e1] at he
    obtain ⟨x1, s1, ⟨rfl, tm', rfl, x2⟩, he⟩ := use_run key (fun o => finish (EV tab) [ResultVar.tmp 4] (andThen (unblock 0 o) (exR (EV tab) (.seq rg59_7 .ret)))) he (by
      refine ⟨rfl, ?_, ?_, ?_, ?_⟩ <;> simp only [Tr.get_set, Nat.reduceEqDiff, ↓reduceIte])
    simp only [sS, ofArgs, Int.reduceLT, Int.reduceLE, Int.reduceToNat, Int.reduceEq, readD, Nat.reduceLT, Nat.reduceEqDiff, Nat.reduceAdd, ↓reduceIte, binD, binInt, intBin, unD, convD, oLen, denseD, oFunc, oAppend, Nat.reduceMul, Nat.reduceLeDiff, fF59, tTGa, tTGb, x2] at he
    subst he
    exact ⟨_, v1, rfl, r1, b1, k1⟩
/-! ### typ -/
abbrev Ito (tab : Tab) : Prop := ∀ (n : Nat) (h : H), n ≤ 64 → callR (EV tab) 48 [.int .i64 n] h = some (.string ⟨⟨dec2 n⟩⟩, h)
theorem cat1 (c : UInt8) (l : List UInt8) : (ByteArray.mk ⟨[c]⟩ ++ ByteArray.mk ⟨l⟩) = ByteArray.mk ⟨c :: l⟩ := by
  apply ByteArray.ext
  rw [ByteArray.data_append]
  simp
theorem dec2_len (n : Nat) : (dec2 n).length ≤ 2 := by unfold dec2; split <;> simp
theorem cat_ok (c : UInt8) (n : Nat) : sAdd ⟨#[c]⟩ ⟨⟨dec2 n⟩⟩ = some (.string ⟨⟨c :: dec2 n⟩⟩) := by
  unfold sAdd
  have h1 : (ByteArray.mk #[c]).size = 1 := rfl
  have h2 : (ByteArray.mk ⟨dec2 n⟩).size = (dec2 n).length := rfl
  have h3 := dec2_len n
  rw [h1, h2, if_pos (Nat.ble_eq_true_of_le (by omega)), cat1]
theorem str3a {a b c : Value} : Obj.sub (.cells 9 1 [a, b, c]) 0 1 = some [a] := rfl
theorem str3b {a b c : Value} : Obj.sub (.cells 9 1 [a, b, c]) 1 1 = some [b] := rfl
theorem str3c {a b c : Value} : Obj.sub (.cells 9 1 [a, b, c]) 2 1 = some [c] := rfl
theorem byte_i64 (b : UInt8) : IntKind.i64.wrap (b.toNat : Int) = (b.toNat : Nat) := IntWalk.i64_in _ (by have := b.toNat_lt; omega)
theorem typ_run (tab : Tab) (hx : ∀ l, callExt (EV tab) 56 l = none) (hT : TakeP tab) (hI : Ito tab) (h : H) (p : Nat) (v : Value) (l : List UInt8) (e : Int) (hng : tab.ng ≤ h.next) (hr : RDp tab h p v e) (hb : BT tab h v l) (hl : l.length < 1000000) :
    ∃ h' v', callR (EV tab) 56 [.pointer (some ⟨p, 0, none⟩)] h = some (.string ⟨⟨(typI (l, e)).1⟩⟩, h') ∧ RDp tab h' p v' (typI (l, e)).2.2 ∧ BT tab h' v' (typI (l, e)).2.1 ∧ KeptX p h h' := by
  obtain ⟨b, o, c, h1, v1, e1, hs, r1, b1, k1⟩ := take1 tab hT h p v l e hng hr hb hl
  have hnp : ¬ p < tab.ng := by have := hr.1; omega
  have r3 := r1.2.2
  have hpc := r1.no
  have rs := r1.s1
  unfold typI
  generalize takeR 1 (l, e) = s at hs r1 b1 r3 rs
  obtain ⟨bl, l', e'⟩ := s
  simp only at hs r1 b1 r3 rs ⊢
  generalize bl.headD 0 = a at hs ⊢
  have hlt := a.toNat_lt
  have w1 := byte_i64 a
  by_cases q : e' = 0
  · subst q
    have z : ((0 : Int) != 0) = false := rfl
    rw [if_neg (by simp)]
    unfold typS
    by_cases q1 : a.toNat ≤ 64
    · have d1 : decide ((a.toNat : Int) ≤ 64) = true := decide_eq_true (by omega)
      have i1 := fun h => hI a.toNat h q1
      have c1 := cat_ok 117 a.toNat
      rw [if_pos q1]
      generalize he : callR _ _ _ _ = x
      rw [enter56 _ _ _ (hx _) rfl] at he
      simp only [sS, ofArgs, Int.reduceLT, Int.reduceLE, Int.reduceToNat, Int.reduceEq, readD, Nat.reduceLT, Nat.reduceEqDiff, Nat.reduceAdd, ↓reduceIte, binD, binInt, intBin, unD, convD, oLen, denseD, oFunc, oAppend, Nat.reduceMul, Nat.reduceLeDiff, fF56, tTGa, tTGb, sN, sO, loadD, isAggD, storeD, Obj.row, Obj.len, putL, Obj.put, fieldAddrD, indexAddrD, fieldD, indexD, placeOf, fillD, Nat.reduceSub, Nat.reduceLT, Nat.reduceBEq, Nat.reduceMod, Nat.reduceDiv, reduceCtorEq, ng_eq, tabL_ng, e1, hs, hnp, r3, rs, iNeq, iLeq, z, w1, op_nil, binStr, strBin, d1, i1, c1] at he
      subst he
      exact ⟨_, v1, rfl, r1, b1, k1⟩
    have d1 : decide ((a.toNat : Int) ≤ 64) = false := decide_eq_false (by omega)
    rw [if_neg q1]
    by_cases q2 : a.toNat ≤ 128
    · have d2 : decide ((a.toNat : Int) ≤ 128) = true := decide_eq_true (by omega)
      have i1 := fun h => hI (a.toNat - 64) h (by omega)
      have c1 := cat_ok 105 (a.toNat - 64)
      have s1 : iSub .i64 (a.toNat : Int) 64 = some (.int .i64 ((a.toNat - 64 : Nat) : Int)) := by unfold iSub; rw [IntWalk.i64_in _ (by omega)]; congr 2; omega
      rw [if_pos q2]
      generalize he : callR _ _ _ _ = x
      rw [enter56 _ _ _ (hx _) rfl] at he
      simp only [sS, ofArgs, Int.reduceLT, Int.reduceLE, Int.reduceToNat, Int.reduceEq, readD, Nat.reduceLT, Nat.reduceEqDiff, Nat.reduceAdd, ↓reduceIte, binD, binInt, intBin, unD, convD, oLen, denseD, oFunc, oAppend, Nat.reduceMul, Nat.reduceLeDiff, fF56, tTGa, tTGb, sN, sO, loadD, isAggD, storeD, Obj.row, Obj.len, putL, Obj.put, fieldAddrD, indexAddrD, fieldD, indexD, placeOf, fillD, Nat.reduceSub, Nat.reduceLT, Nat.reduceBEq, Nat.reduceMod, Nat.reduceDiv, reduceCtorEq, ng_eq, tabL_ng, e1, hs, hnp, r3, rs, iNeq, iLeq, z, w1, op_nil, binStr, strBin, d1, d2, i1, c1, s1] at he
      subst he
      exact ⟨_, v1, rfl, r1, b1, k1⟩
    have d2 : decide ((a.toNat : Int) ≤ 128) = false := decide_eq_false (by omega)
    rw [if_neg q2]
    by_cases q3 : a.toNat ≤ 131
    · have d3 : decide ((a.toNat : Int) ≤ 131) = true := decide_eq_true (by omega)
      have hc : a.toNat = 129 ∨ a.toNat = 130 ∨ a.toNat = 131 := by omega
      have hnn : ¬ h1.next < tab.ng := by have := k1.le; omega
      have kk : KeptX p h1 (h1.push (.cells 9 1 [.string ⟨#[102, 51, 50]⟩, .string ⟨#[102, 54, 52]⟩, .string ⟨#[112, 116, 114]⟩])) := (KeptX.refl p h1).push _
      have fin : RDp tab (h1.push (.cells 9 1 [.string ⟨#[102, 51, 50]⟩, .string ⟨#[102, 54, 52]⟩, .string ⟨#[112, 116, 114]⟩])) p v1 0 := ⟨r1.1, Nat.lt_of_lt_of_le r1.2.1 kk.le, by rw [H.get_push_lt _ _ r1.2.1]; exact r3⟩
      rcases hc with hc | hc | hc
      · rw [if_pos hc]
        have s1 : iSub .i64 (a.toNat : Int) 129 = some (.int .i64 0) := by rw [hc]; rfl
        generalize he : callR _ _ _ _ = x
        rw [enter56 _ _ _ (hx _) rfl] at he
        simp only [sS, ofArgs, Int.reduceLT, Int.reduceLE, Int.reduceToNat, Int.reduceEq, readD, Nat.reduceLT, Nat.reduceEqDiff, Nat.reduceAdd, ↓reduceIte, binD, binInt, intBin, unD, convD, oLen, denseD, oFunc, oAppend, Nat.reduceMul, Nat.reduceLeDiff, fF56, tTGa, tTGb, sN, sO, loadD, isAggD, storeD, Obj.row, Obj.len, putL, Obj.put, fieldAddrD, indexAddrD, fieldD, indexD, placeOf, fillD, Nat.reduceSub, Nat.reduceLT, Nat.reduceBEq, Nat.reduceMod, Nat.reduceDiv, reduceCtorEq, ng_eq, tabL_ng, e1, hs, hnp, r3, rs, iNeq, iLeq, z, w1, op_nil, binStr, strBin, Int.reduceToNat, Int.reduceLT, str3a, str3b, str3c, d1, d2, d3, s1, hnn] at he
        subst he
        exact ⟨_, v1, rfl, fin, b1.keptX kk hpc, k1.trans kk⟩
      · rw [if_neg (by omega), if_pos hc]
        have s1 : iSub .i64 (a.toNat : Int) 129 = some (.int .i64 1) := by rw [hc]; rfl
        generalize he : callR _ _ _ _ = x
        rw [enter56 _ _ _ (hx _) rfl] at he
        simp only [sS, ofArgs, Int.reduceLT, Int.reduceLE, Int.reduceToNat, Int.reduceEq, readD, Nat.reduceLT, Nat.reduceEqDiff, Nat.reduceAdd, ↓reduceIte, binD, binInt, intBin, unD, convD, oLen, denseD, oFunc, oAppend, Nat.reduceMul, Nat.reduceLeDiff, fF56, tTGa, tTGb, sN, sO, loadD, isAggD, storeD, Obj.row, Obj.len, putL, Obj.put, fieldAddrD, indexAddrD, fieldD, indexD, placeOf, fillD, Nat.reduceSub, Nat.reduceLT, Nat.reduceBEq, Nat.reduceMod, Nat.reduceDiv, reduceCtorEq, ng_eq, tabL_ng, e1, hs, hnp, r3, rs, iNeq, iLeq, z, w1, op_nil, binStr, strBin, Int.reduceToNat, Int.reduceLT, str3a, str3b, str3c, d1, d2, d3, s1, hnn] at he
        subst he
        exact ⟨_, v1, rfl, fin, b1.keptX kk hpc, k1.trans kk⟩
      · rw [if_neg (by omega), if_neg (by omega), if_pos hc]
        have s1 : iSub .i64 (a.toNat : Int) 129 = some (.int .i64 2) := by rw [hc]; rfl
        generalize he : callR _ _ _ _ = x
        rw [enter56 _ _ _ (hx _) rfl] at he
        simp only [sS, ofArgs, Int.reduceLT, Int.reduceLE, Int.reduceToNat, Int.reduceEq, readD, Nat.reduceLT, Nat.reduceEqDiff, Nat.reduceAdd, ↓reduceIte, binD, binInt, intBin, unD, convD, oLen, denseD, oFunc, oAppend, Nat.reduceMul, Nat.reduceLeDiff, fF56, tTGa, tTGb, sN, sO, loadD, isAggD, storeD, Obj.row, Obj.len, putL, Obj.put, fieldAddrD, indexAddrD, fieldD, indexD, placeOf, fillD, Nat.reduceSub, Nat.reduceLT, Nat.reduceBEq, Nat.reduceMod, Nat.reduceDiv, reduceCtorEq, ng_eq, tabL_ng, e1, hs, hnp, r3, rs, iNeq, iLeq, z, w1, op_nil, binStr, strBin, Int.reduceToNat, Int.reduceLT, str3a, str3b, str3c, d1, d2, d3, s1, hnn] at he
        subst he
        exact ⟨_, v1, rfl, fin, b1.keptX kk hpc, k1.trans kk⟩
    have d3 : decide ((a.toNat : Int) ≤ 131) = false := decide_eq_false (by omega)
    rw [if_neg (by omega), if_neg (by omega), if_neg (by omega)]
    by_cases q4 : a.toNat = 255
    · have z4 : ((a.toNat : Int) != 255) = false := by rw [q4]; rfl
      rw [if_pos q4]
      generalize he : callR _ _ _ _ = x
      rw [enter56 _ _ _ (hx _) rfl] at he
      simp only [sS, ofArgs, Int.reduceLT, Int.reduceLE, Int.reduceToNat, Int.reduceEq, readD, Nat.reduceLT, Nat.reduceEqDiff, Nat.reduceAdd, ↓reduceIte, binD, binInt, intBin, unD, convD, oLen, denseD, oFunc, oAppend, Nat.reduceMul, Nat.reduceLeDiff, fF56, tTGa, tTGb, sN, sO, loadD, isAggD, storeD, Obj.row, Obj.len, putL, Obj.put, fieldAddrD, indexAddrD, fieldD, indexD, placeOf, fillD, Nat.reduceSub, Nat.reduceLT, Nat.reduceBEq, Nat.reduceMod, Nat.reduceDiv, reduceCtorEq, ng_eq, tabL_ng, e1, hs, hnp, r3, rs, iNeq, iLeq, z, w1, op_nil, binStr, strBin, d1, d2, d3, z4] at he
      subst he
      exact ⟨_, v1, rfl, r1, b1, k1⟩
    · have z4 : ((a.toNat : Int) != 255) = true := by rw [bne_iff_ne]; omega
      rw [if_neg q4]
      generalize he : callR _ _ _ _ = x
      rw [enter56 _ _ _ (hx _) rfl] at he
      simp only [sS, ofArgs, Int.reduceLT, Int.reduceLE, Int.reduceToNat, Int.reduceEq, readD, Nat.reduceLT, Nat.reduceEqDiff, Nat.reduceAdd, ↓reduceIte, binD, binInt, intBin, unD, convD, oLen, denseD, oFunc, oAppend, Nat.reduceMul, Nat.reduceLeDiff, fF56, tTGa, tTGb, sN, sO, loadD, isAggD, storeD, Obj.row, Obj.len, putL, Obj.put, fieldAddrD, indexAddrD, fieldD, indexD, placeOf, fillD, Nat.reduceSub, Nat.reduceLT, Nat.reduceBEq, Nat.reduceMod, Nat.reduceDiv, reduceCtorEq, ng_eq, tabL_ng, e1, hs, hnp, r3, rs, iNeq, iLeq, z, w1, op_nil, binStr, strBin, d1, d2, d3, z4] at he
      subst he
      have k : KeptX p h1 (h1.put p (.cells 109 2 [v1, .int .i64 12])) := (KeptX.refl p h1).put _
      exact ⟨_, v1, rfl, ⟨r1.1, r1.2.1, by rw [H.get_put, if_pos rfl]⟩, b1.keptX k hpc, k1.trans k⟩
  · have z : (e' != 0) = true := by simpa using q
    rw [if_pos q]
    generalize he : callR _ _ _ _ = x
    rw [enter56 _ _ _ (hx _) rfl] at he
    simp only [sS, ofArgs, Int.reduceLT, Int.reduceLE, Int.reduceToNat, Int.reduceEq, readD, Nat.reduceLT, Nat.reduceEqDiff, Nat.reduceAdd, ↓reduceIte, binD, binInt, intBin, unD, convD, oLen, denseD, oFunc, oAppend, Nat.reduceMul, Nat.reduceLeDiff, fF56, tTGa, tTGb, sN, sO, loadD, isAggD, storeD, Obj.row, Obj.len, putL, Obj.put, fieldAddrD, indexAddrD, fieldD, indexD, placeOf, fillD, Nat.reduceSub, Nat.reduceLT, Nat.reduceBEq, Nat.reduceMod, Nat.reduceDiv, reduceCtorEq, ng_eq, tabL_ng, e1, hs, hnp, r3, rs, iNeq, iLeq, z, w1, op_nil, binStr, strBin] at he
    subst he
    exact ⟨_, v1, rfl, r1, b1, k1⟩
/-! ### read -/
theorem RDp.keep {tab : Tab} {h h' : H} {p q : Nat} {v : Value} {e : Int} (r : RDp tab h p v e) (k : KeptX q h h') (hq : p ≠ q) : RDp tab h' p v e := ⟨r.1, Nat.lt_of_lt_of_le r.2.1 k.le, by rw [k.get p r.2.1 hq]; exact r.2.2⟩
/-- All but two blocks are as they were. -/
structure KeptY (p q : Nat) (h h' : H) : Prop where
  le : h.next ≤ h'.next
  get : ∀ c, c < h.next → c ≠ p → c ≠ q → h'.get c = h.get c
theorem KeptY.refl (p q : Nat) (h : H) : KeptY p q h h := ⟨Nat.le_refl _, fun _ _ _ _ => rfl⟩
theorem KeptY.trans {p q : Nat} {a b c : H} (x : KeptY p q a b) (y : KeptY p q b c) : KeptY p q a c := ⟨Nat.le_trans x.le y.le, fun d hd hp hq => (y.get d (Nat.lt_of_lt_of_le hd x.le) hp hq).trans (x.get d hd hp hq)⟩
theorem KeptX.y1 {p q : Nat} {h h' : H} (k : KeptX p h h') : KeptY p q h h' := ⟨k.le, fun c hc hp _ => k.get c hc hp⟩
theorem KeptX.y2 {p q : Nat} {h h' : H} (k : KeptX q h h') : KeptY p q h h' := ⟨k.le, fun c hc _ hq => k.get c hc hq⟩
theorem KeptY.kept {p q : Nat} {h0 h h' : H} (k : KeptY p q h h') (k0 : Kept h0 h) (hp : h0.next ≤ p) (hq : h0.next ≤ q) : Kept h0 h' :=
  ⟨Nat.le_trans k0.le k.le, fun c hc => (k.get c (Nat.lt_of_lt_of_le hc k0.le) (by omega) (by omega)).trans (k0.get c hc)⟩
theorem KeptY.weak {p q p' q' : Nat} {h h' : H} (k : KeptY p q h h') (hp : p = p') (hq : q = q') : KeptY p' q' h h' := by subst hp hq; exact k
structure RdX (tab : Tab) : Prop where
  x1 : ∀ l, callExt (EV tab) 36 l = none
  ty : ∀ (h : H) (p : Nat) (v : Value) (l : List UInt8) (e : Int), tab.ng ≤ h.next → RDp tab h p v e → BT tab h v l → l.length < 1000000 →
    ∃ h' v', callR (EV tab) 56 [.pointer (some ⟨p, 0, none⟩)] h = some (.string ⟨⟨(typI (l, e)).1⟩⟩, h') ∧ RDp tab h' p v' (typI (l, e)).2.2 ∧ BT tab h' v' (typI (l, e)).2.1 ∧ KeptX p h h'
  nu : NumP tab
  sm : SmP tab
  sg : ∀ (h : H) (p : Nat) (v : Value) (l : List UInt8) (e : Int), tab.ng ≤ h.next → RDp tab h p v e → BT tab h v l → l.length < 1000000 →
    ∃ h' v', callR (EV tab) 58 [.pointer (some ⟨p, 0, none⟩)] h = some (.int .i64 (signI (l, e)).1, h') ∧ RDp tab h' p v' (signI (l, e)).2.2 ∧ BT tab h' v' (signI (l, e)).2.1 ∧ KeptX p h h'
  fx : ∀ (h : H) (p : Nat) (v : Value) (l : List UInt8) (e : Int) (n : Nat), 0 < n → n ≤ 8 → tab.ng ≤ h.next → RDp tab h p v e → BT tab h v l → l.length < 1000000 →
    ∃ h' v', callR (EV tab) 59 [.pointer (some ⟨p, 0, none⟩), .int .i64 n] h = some (.int .u64 ((fixI n (l, e)).1 : Nat), h') ∧ RDp tab h' p v' (fixI n (l, e)).2.2 ∧ BT tab h' v' (fixI n (l, e)).2.1 ∧ KeptX p h h'
/-- A field of the instruction is set. -/
theorem set_ins {tab : Tab} {h h1 : H} {p q : Nat} {v1 : Value} {l' : List UInt8} {e' : Int} (z : Ins) (k1 : KeptX p h h1) (hpq : q ≠ p) (hq : q < h.next) (r1 : RDp tab h1 p v1 e') (b1 : BT tab h1 v1 l') (x : Ins) (hgq : h.get q = some (.cells 41 6 (insC x))) :
    RDp tab (h1.put q (.cells 41 6 (insC z))) p v1 e' ∧ BT tab (h1.put q (.cells 41 6 (insC z))) v1 l' ∧ (h1.put q (.cells 41 6 (insC z))).get q = some (.cells 41 6 (insC z)) ∧ KeptY p q h (h1.put q (.cells 41 6 (insC z))) := by
  have k : KeptX q h1 (h1.put q (.cells 41 6 (insC z))) := (KeptX.refl q h1).put _
  refine ⟨r1.keep k (Ne.symm hpq), b1.keptX k (nb_cells (by rw [k1.get q hq hpq]; exact hgq) (by decide)), by rw [H.get_put, if_pos rfl], k1.y1.trans k.y2⟩
theorem i32_ty (n : Nat) (h : n < 4294967296) : IntKind.i64.wrap (IntKind.i32.wrap (IntKind.u32.wrap (n : Int))) = s32 n := by
  have h1 : IntKind.u32.wrap (n : Int) = n := by show (n : Int) % 4294967296 = n; omega
  unfold s32
  rw [h1]
  have h2 : n % 4294967296 = n := Nat.mod_eq_of_lt h
  rw [h2]
  have h3 : IntKind.i32.wrap (n : Int) = if n < 2147483648 then ((n : Nat) : Int) else ((n : Nat) : Int) - 4294967296 := by
    rw [IntKind.wrap_i32]
    split <;> omega
  rw [h3]
  split <;> rw [IntWalk.i64_in _ (by omega)]
theorem fixI4_lt (r : Rd) : (fixI 4 r).1 < 4294967296 := by
  unfold fixI
  have := leN_lt (takeR 4 r).1
  rw [takeR_len] at this
  exact this
theorem read_run (tab : Tab) (hX : RdX tab) (h : H) (p q : Nat) (v : Value) (l : List UInt8) (e : Int) (x : Ins) (c : Nat) (hc : c ∈ [84, 85, 110, 76, 115, 100, 119, 80, 70]) (hng : tab.ng ≤ h.next) (hr : RDp tab h p v e) (hb : BT tab h v l) (hl : l.length < 1000000)
    (hq17 : tab.ng ≤ q) (hq : q < h.next) (hgq : h.get q = some (.cells 41 6 (insC x))) (hpq : q ≠ p) :
    ∃ h' v', callR (EV tab) 36 [.pointer (some ⟨p, 0, none⟩), .pointer (some ⟨q, 0, none⟩), .int .i32 c] h = some (.tuple ⟨[]⟩, h') ∧ RDp tab h' p v' (readI c x (l, e)).2.2 ∧ BT tab h' v' (readI c x (l, e)).2.1 ∧ h'.get q = some (.cells 41 6 (insC (readI c x (l, e)).1)) ∧ KeptY p q h h' := by
  obtain ⟨x1, ty, nu, sm, sg, fx⟩ := hX
  have hnq : ¬ q < tab.ng := by omega
  simp only [List.mem_cons, List.not_mem_nil, or_false] at hc
  obtain ⟨xo, xt, xu, xn, xi, xs⟩ := x
  rcases hc with rfl | rfl | rfl | rfl | rfl | rfl | rfl | rfl | rfl
  · obtain ⟨h1, v1, e1, r1, b1, k1⟩ := ty h p v l e hng hr hb hl
    have hgq1 : h1.get q = some (.cells 41 6 (insC ⟨xo, xt, xu, xn, xi, xs⟩)) := by rw [k1.get q hq hpq]; exact hgq
    obtain ⟨f1, f2, f3, f4⟩ := set_ins ⟨xo, (typI (l, e)).1, xu, xn, xi, xs⟩ k1 hpq hq r1 b1 _ hgq
    simp only [insC, insL] at hgq1
    generalize he : callR _ _ _ _ = y
    rw [enter36 _ _ _ (x1 _) rfl] at he
    simp only [sS, ofArgs, Int.reduceLT, Int.reduceLE, Int.reduceToNat, Int.reduceEq, readD, Nat.reduceLT, Nat.reduceEqDiff, Nat.reduceAdd, ↓reduceIte, binD, binInt, intBin, unD, convD, oLen, denseD, oFunc, oAppend, Nat.reduceMul, Nat.reduceLeDiff, fF36, tTGa, tTGb, sN, subD, loadD, isAggD, storeD, Obj.row, Obj.len, putL, Obj.put, fieldAddrD, indexAddrD, fieldD, indexD, placeOf, fillD, Nat.reduceSub, Nat.reduceLT, Nat.reduceBEq, Nat.reduceMod, Nat.reduceDiv, reduceCtorEq, ng_eq, tabL_ng, hnq, hgq1, e1, iEql, Int.cast_ofNat_Int, Int.reduceBEq, op_nil] at he
    subst he
    exact ⟨_, v1, rfl, f1, f2, f3, f4⟩
  · obtain ⟨h1, v1, e1, r1, b1, k1⟩ := ty h p v l e hng hr hb hl
    have hgq1 : h1.get q = some (.cells 41 6 (insC ⟨xo, xt, xu, xn, xi, xs⟩)) := by rw [k1.get q hq hpq]; exact hgq
    obtain ⟨f1, f2, f3, f4⟩ := set_ins ⟨xo, xt, (typI (l, e)).1, xn, xi, xs⟩ k1 hpq hq r1 b1 _ hgq
    simp only [insC, insL] at hgq1
    generalize he : callR _ _ _ _ = y
    rw [enter36 _ _ _ (x1 _) rfl] at he
    simp only [sS, ofArgs, Int.reduceLT, Int.reduceLE, Int.reduceToNat, Int.reduceEq, readD, Nat.reduceLT, Nat.reduceEqDiff, Nat.reduceAdd, ↓reduceIte, binD, binInt, intBin, unD, convD, oLen, denseD, oFunc, oAppend, Nat.reduceMul, Nat.reduceLeDiff, fF36, tTGa, tTGb, sN, subD, loadD, isAggD, storeD, Obj.row, Obj.len, putL, Obj.put, fieldAddrD, indexAddrD, fieldD, indexD, placeOf, fillD, Nat.reduceSub, Nat.reduceLT, Nat.reduceBEq, Nat.reduceMod, Nat.reduceDiv, reduceCtorEq, ng_eq, tabL_ng, hnq, hgq1, e1, iEql, Int.cast_ofNat_Int, Int.reduceBEq, op_nil] at he
    subst he
    exact ⟨_, v1, rfl, f1, f2, f3, f4⟩
  · obtain ⟨h1, v1, e1, r1, b1, k1⟩ := nu h p v l e hng hr hb hl
    have hgq1 : h1.get q = some (.cells 41 6 (insC ⟨xo, xt, xu, xn, xi, xs⟩)) := by rw [k1.get q hq hpq]; exact hgq
    obtain ⟨f1, f2, f3, f4⟩ := set_ins ⟨xo, xt, xu, (numI (l, e)).1, xi, xs⟩ k1 hpq hq r1 b1 _ hgq
    simp only [insC, insL] at hgq1
    generalize he : callR _ _ _ _ = y
    rw [enter36 _ _ _ (x1 _) rfl] at he
    simp only [sS, ofArgs, Int.reduceLT, Int.reduceLE, Int.reduceToNat, Int.reduceEq, readD, Nat.reduceLT, Nat.reduceEqDiff, Nat.reduceAdd, ↓reduceIte, binD, binInt, intBin, unD, convD, oLen, denseD, oFunc, oAppend, Nat.reduceMul, Nat.reduceLeDiff, fF36, tTGa, tTGb, sN, subD, loadD, isAggD, storeD, Obj.row, Obj.len, putL, Obj.put, fieldAddrD, indexAddrD, fieldD, indexD, placeOf, fillD, Nat.reduceSub, Nat.reduceLT, Nat.reduceBEq, Nat.reduceMod, Nat.reduceDiv, reduceCtorEq, ng_eq, tabL_ng, hnq, hgq1, e1, iEql, Int.cast_ofNat_Int, Int.reduceBEq, op_nil] at he
    subst he
    exact ⟨_, v1, rfl, f1, f2, f3, f4⟩
  · obtain ⟨h1, v1, e1, r1, b1, k1⟩ := nu h p v l e hng hr hb hl
    have hgq1 : h1.get q = some (.cells 41 6 (insC ⟨xo, xt, xu, xn, xi, xs⟩)) := by rw [k1.get q hq hpq]; exact hgq
    obtain ⟨f1, f2, f3, f4⟩ := set_ins ⟨xo, xt, xu, (numI (l, e)).1, xi, xs⟩ k1 hpq hq r1 b1 _ hgq
    simp only [insC, insL] at hgq1
    generalize he : callR _ _ _ _ = y
    rw [enter36 _ _ _ (x1 _) rfl] at he
    simp only [sS, ofArgs, Int.reduceLT, Int.reduceLE, Int.reduceToNat, Int.reduceEq, readD, Nat.reduceLT, Nat.reduceEqDiff, Nat.reduceAdd, ↓reduceIte, binD, binInt, intBin, unD, convD, oLen, denseD, oFunc, oAppend, Nat.reduceMul, Nat.reduceLeDiff, fF36, tTGa, tTGb, sN, subD, loadD, isAggD, storeD, Obj.row, Obj.len, putL, Obj.put, fieldAddrD, indexAddrD, fieldD, indexD, placeOf, fillD, Nat.reduceSub, Nat.reduceLT, Nat.reduceBEq, Nat.reduceMod, Nat.reduceDiv, reduceCtorEq, ng_eq, tabL_ng, hnq, hgq1, e1, iEql, Int.cast_ofNat_Int, Int.reduceBEq, op_nil] at he
    subst he
    exact ⟨_, v1, rfl, f1, f2, f3, f4⟩
  · obtain ⟨h1, v1, e1, r1, b1, k1⟩ := sg h p v l e hng hr hb hl
    have hgq1 : h1.get q = some (.cells 41 6 (insC ⟨xo, xt, xu, xn, xi, xs⟩)) := by rw [k1.get q hq hpq]; exact hgq
    obtain ⟨f1, f2, f3, f4⟩ := set_ins ⟨xo, xt, xu, xn, (signI (l, e)).1, xs⟩ k1 hpq hq r1 b1 _ hgq
    simp only [insC, insL] at hgq1
    generalize he : callR _ _ _ _ = y
    rw [enter36 _ _ _ (x1 _) rfl] at he
    simp only [sS, ofArgs, Int.reduceLT, Int.reduceLE, Int.reduceToNat, Int.reduceEq, readD, Nat.reduceLT, Nat.reduceEqDiff, Nat.reduceAdd, ↓reduceIte, binD, binInt, intBin, unD, convD, oLen, denseD, oFunc, oAppend, Nat.reduceMul, Nat.reduceLeDiff, fF36, tTGa, tTGb, sN, subD, loadD, isAggD, storeD, Obj.row, Obj.len, putL, Obj.put, fieldAddrD, indexAddrD, fieldD, indexD, placeOf, fillD, Nat.reduceSub, Nat.reduceLT, Nat.reduceBEq, Nat.reduceMod, Nat.reduceDiv, reduceCtorEq, ng_eq, tabL_ng, hnq, hgq1, e1, iEql, Int.cast_ofNat_Int, Int.reduceBEq, op_nil] at he
    subst he
    exact ⟨_, v1, rfl, f1, f2, f3, f4⟩
  · obtain ⟨h1, v1, e1, r1, b1, k1⟩ := fx h p v l e 4 (by decide) (by decide) hng hr hb hl
    have hgq1 : h1.get q = some (.cells 41 6 (insC ⟨xo, xt, xu, xn, xi, xs⟩)) := by rw [k1.get q hq hpq]; exact hgq
    obtain ⟨f1, f2, f3, f4⟩ := set_ins ⟨xo, xt, xu, xn, s32 (fixI 4 (l, e)).1, xs⟩ k1 hpq hq r1 b1 _ hgq
    simp only [insC, insL] at hgq1
    have ec := i32_ty _ (fixI4_lt (l, e))
    simp only [Int.cast_ofNat_Int] at e1
    generalize he : callR _ _ _ _ = y
    rw [enter36 _ _ _ (x1 _) rfl] at he
    simp only [sS, ofArgs, Int.reduceLT, Int.reduceLE, Int.reduceToNat, Int.reduceEq, readD, Nat.reduceLT, Nat.reduceEqDiff, Nat.reduceAdd, ↓reduceIte, binD, binInt, intBin, unD, convD, oLen, denseD, oFunc, oAppend, Nat.reduceMul, Nat.reduceLeDiff, fF36, tTGa, tTGb, sN, subD, loadD, isAggD, storeD, Obj.row, Obj.len, putL, Obj.put, fieldAddrD, indexAddrD, fieldD, indexD, placeOf, fillD, Nat.reduceSub, Nat.reduceLT, Nat.reduceBEq, Nat.reduceMod, Nat.reduceDiv, reduceCtorEq, ng_eq, tabL_ng, hnq, hgq1, e1, iEql, Int.cast_ofNat_Int, Int.reduceBEq, op_nil, ec] at he
    subst he
    exact ⟨_, v1, rfl, f1, f2, f3, f4⟩
  · obtain ⟨h1, v1, e1, r1, b1, k1⟩ := fx h p v l e 8 (by decide) (by decide) hng hr hb hl
    have hgq1 : h1.get q = some (.cells 41 6 (insC ⟨xo, xt, xu, xn, xi, xs⟩)) := by rw [k1.get q hq hpq]; exact hgq
    obtain ⟨f1, f2, f3, f4⟩ := set_ins ⟨xo, xt, xu, (fixI 8 (l, e)).1, xi, xs⟩ k1 hpq hq r1 b1 _ hgq
    simp only [insC, insL] at hgq1
    simp only [Int.cast_ofNat_Int] at e1
    generalize he : callR _ _ _ _ = y
    rw [enter36 _ _ _ (x1 _) rfl] at he
    simp only [sS, ofArgs, Int.reduceLT, Int.reduceLE, Int.reduceToNat, Int.reduceEq, readD, Nat.reduceLT, Nat.reduceEqDiff, Nat.reduceAdd, ↓reduceIte, binD, binInt, intBin, unD, convD, oLen, denseD, oFunc, oAppend, Nat.reduceMul, Nat.reduceLeDiff, fF36, tTGa, tTGb, sN, subD, loadD, isAggD, storeD, Obj.row, Obj.len, putL, Obj.put, fieldAddrD, indexAddrD, fieldD, indexD, placeOf, fillD, Nat.reduceSub, Nat.reduceLT, Nat.reduceBEq, Nat.reduceMod, Nat.reduceDiv, reduceCtorEq, ng_eq, tabL_ng, hnq, hgq1, e1, iEql, Int.cast_ofNat_Int, Int.reduceBEq, op_nil] at he
    subst he
    exact ⟨_, v1, rfl, f1, f2, f3, f4⟩
  · obtain ⟨h1, v1, e1, r1, b1, k1⟩ := sm h p v l e hng hr hb hl
    have hgq1 : h1.get q = some (.cells 41 6 (insC ⟨xo, xt, xu, xn, xi, xs⟩)) := by rw [k1.get q hq hpq]; exact hgq
    obtain ⟨f1, f2, f3, f4⟩ := set_ins ⟨xo, xt, xu, xn, ((smallI (l, e)).1 : Nat), xs⟩ k1 hpq hq r1 b1 _ hgq
    simp only [insC, insL] at hgq1
    generalize he : callR _ _ _ _ = y
    rw [enter36 _ _ _ (x1 _) rfl] at he
    simp only [sS, ofArgs, Int.reduceLT, Int.reduceLE, Int.reduceToNat, Int.reduceEq, readD, Nat.reduceLT, Nat.reduceEqDiff, Nat.reduceAdd, ↓reduceIte, binD, binInt, intBin, unD, convD, oLen, denseD, oFunc, oAppend, Nat.reduceMul, Nat.reduceLeDiff, fF36, tTGa, tTGb, sN, subD, loadD, isAggD, storeD, Obj.row, Obj.len, putL, Obj.put, fieldAddrD, indexAddrD, fieldD, indexD, placeOf, fillD, Nat.reduceSub, Nat.reduceLT, Nat.reduceBEq, Nat.reduceMod, Nat.reduceDiv, reduceCtorEq, ng_eq, tabL_ng, hnq, hgq1, e1, iEql, Int.cast_ofNat_Int, Int.reduceBEq, op_nil] at he
    subst he
    exact ⟨_, v1, rfl, f1, f2, f3, f4⟩
  · obtain ⟨h1, v1, e1, r1, b1, k1⟩ := sm h p v l e hng hr hb hl
    have hgq1 : h1.get q = some (.cells 41 6 (insC ⟨xo, xt, xu, xn, xi, xs⟩)) := by rw [k1.get q hq hpq]; exact hgq
    obtain ⟨f1, f2, f3, f4⟩ := set_ins ⟨xo, xt, xu, xn, xi, ((smallI (l, e)).1 : Nat)⟩ k1 hpq hq r1 b1 _ hgq
    simp only [insC, insL] at hgq1
    generalize he : callR _ _ _ _ = y
    rw [enter36 _ _ _ (x1 _) rfl] at he
    simp only [sS, ofArgs, Int.reduceLT, Int.reduceLE, Int.reduceToNat, Int.reduceEq, readD, Nat.reduceLT, Nat.reduceEqDiff, Nat.reduceAdd, ↓reduceIte, binD, binInt, intBin, unD, convD, oLen, denseD, oFunc, oAppend, Nat.reduceMul, Nat.reduceLeDiff, fF36, tTGa, tTGb, sN, subD, loadD, isAggD, storeD, Obj.row, Obj.len, putL, Obj.put, fieldAddrD, indexAddrD, fieldD, indexD, placeOf, fillD, Nat.reduceSub, Nat.reduceLT, Nat.reduceBEq, Nat.reduceMod, Nat.reduceDiv, reduceCtorEq, ng_eq, tabL_ng, hnq, hgq1, e1, iEql, Int.cast_ofNat_Int, Int.reduceBEq, op_nil] at he
    subst he
    exact ⟨_, v1, rfl, f1, f2, f3, f4⟩
/-! ### decode -/
/-- All but some blocks are as they were. -/
structure KeptS (S : List Nat) (h h' : H) : Prop where
  le : h.next ≤ h'.next
  get : ∀ c, c < h.next → c ∉ S → h'.get c = h.get c
theorem KeptS.refl (S : List Nat) (h : H) : KeptS S h h := ⟨Nat.le_refl _, fun _ _ _ => rfl⟩
theorem KeptS.trans {S : List Nat} {a b c : H} (x : KeptS S a b) (y : KeptS S b c) : KeptS S a c := ⟨Nat.le_trans x.le y.le, fun d hd hp => (y.get d (Nat.lt_of_lt_of_le hd x.le) hp).trans (x.get d hd hp)⟩
theorem KeptS.put {S : List Nat} {p : Nat} {h h' : H} (k : KeptS S h h') (o : Obj) (hp : p ∈ S) : KeptS S h (h'.put p o) := ⟨k.le, fun c hc hs => by rw [H.get_put, if_neg (by rintro rfl; exact hs hp)]; exact k.get c hc hs⟩
theorem KeptY.s {S : List Nat} {p q : Nat} {h h' : H} (k : KeptY p q h h') (hp : p ∈ S) (hq : q ∈ S) : KeptS S h h' := ⟨k.le, fun c hc hs => k.get c hc (by rintro rfl; exact hs hp) (by rintro rfl; exact hs hq)⟩
theorem KeptS.kept {S : List Nat} {h0 h h' : H} (k : KeptS S h h') (k0 : Kept h0 h) (hS : ∀ c ∈ S, h0.next ≤ c) : Kept h0 h' :=
  ⟨Nat.le_trans k0.le k.le, fun c hc => (k.get c (Nat.lt_of_lt_of_le hc k0.le) (fun hs => by have := hS c hs; omega)).trans (k0.get c hc)⟩
abbrev RdP (tab : Tab) : Prop := ∀ (h : H) (p q : Nat) (v : Value) (l : List UInt8) (e : Int) (x : Ins) (c : Nat), c ∈ [84, 85, 110, 76, 115, 100, 119, 80, 70] → tab.ng ≤ h.next → RDp tab h p v e → BT tab h v l → l.length < 1000000 → tab.ng ≤ q → q < h.next → h.get q = some (.cells 41 6 (insC x)) → q ≠ p →
    ∃ h' v', callR (EV tab) 36 [.pointer (some ⟨p, 0, none⟩), .pointer (some ⟨q, 0, none⟩), .int .i32 c] h = some (.tuple ⟨[]⟩, h') ∧ RDp tab h' p v' (readI c x (l, e)).2.2 ∧ BT tab h' v' (readI c x (l, e)).2.1 ∧ h'.get q = some (.cells 41 6 (insC (readI c x (l, e)).1)) ∧ KeptY p q h h'
/-- Reading makes the rest no longer. -/
theorem takeR_le (n : Nat) (r : Rd) : (takeR n r).2.1.length ≤ r.1.length := by
  unfold takeR
  split
  · exact Nat.le_refl _
  · show (r.1.drop n).length ≤ _; rw [List.length_drop]; omega
theorem numG_le : ∀ (l : List UInt8) (i o : Nat), (numG l i o).2.1.length ≤ l.length
  | [], _, _ => by rw [numG]; exact Nat.le_refl _
  | b :: l, i, o => by
    rw [numG]
    split
    · show l.length ≤ _; simp
    · split
      · show l.length ≤ _; simp
      · have := numG_le l (i + 1) (o + (b.toNat - 128) * 128 ^ i)
        simp only [List.length_cons]; omega
theorem numI_le (r : Rd) : (numI r).2.1.length ≤ r.1.length := by
  unfold numI
  split
  · exact Nat.le_refl _
  · exact numG_le _ _ _
theorem smallI_len (r : Rd) : (smallI r).2.1.length ≤ r.1.length := by
  unfold smallI
  split <;> exact numI_le r
theorem typI_len (r : Rd) : (typI r).2.1.length ≤ r.1.length := by
  unfold typI
  split
  · exact takeR_le 1 r
  · split <;> exact takeR_le 1 r
theorem readI_len (c : Nat) (x : Ins) (r : Rd) : (readI c x r).2.1.length ≤ r.1.length := by
  unfold readI
  split
  · exact typI_len r
  split
  · exact typI_len r
  split
  · exact numI_le r
  split
  · exact smallI_len r
  split
  · exact takeR_le 4 r
  split
  · exact takeR_le 8 r
  split <;> exact smallI_len r
noncomputable def dcLoop : Code := (.loop (.seq rg23_7 (.seq (.cond (Operand.tmp 34) .skip (Code.exit 0)) (.block 1 (.seq rg23_8 rg23_9)))))
theorem dc_loop (tab : Tab) (hR : RdP tab) (p q it : Nat) (hpq : q ≠ p) (hip : it ≠ p) (hiq : it ≠ q) (h17 : tab.ng ≤ q ∧ tab.ng ≤ it) (us : List UInt8) (hu : ∀ c ∈ us, c.toNat ∈ [84, 85, 110, 76, 115, 100, 119, 80, 70]) (ha : asc us = true) (tz t2 : Value) :
    ∀ (k i : Nat) (tm : Tr Value) (h : H) (v : Value) (x : Ins) (l : List UInt8) (e : Int), i + k = us.length → tm.get 0 = some tz → tm.get 2 = some t2 → tm.get 5 = some (.pointer (some ⟨q, 0, none⟩)) → tm.get 8 = some (.pointer (some ⟨p, 0, none⟩)) → tm.get 32 = some (.pointer (some ⟨it, 0, none⟩)) →
    tab.ng ≤ h.next → h.get it = some (.iter ⟨⟨us⟩⟩ i) → it < h.next → q < h.next → RDp tab h p v e → BT tab h v l → l.length < 1000000 → h.get q = some (.cells 41 6 (insC x)) →
    ∃ tm' h' v', exR (EV tab) dcLoop ⟨false, 60, tm, h⟩ = some (.exit 0, ⟨false, 60, tm', h'⟩) ∧ tm'.get 0 = some tz ∧ tm'.get 2 = some t2 ∧ tm'.get 5 = some (.pointer (some ⟨q, 0, none⟩)) ∧ tm'.get 8 = some (.pointer (some ⟨p, 0, none⟩)) ∧
      RDp tab h' p v' (foldI (us.drop i) (x, (l, e))).2.2 ∧ BT tab h' v' (foldI (us.drop i) (x, (l, e))).2.1 ∧ h'.get q = some (.cells 41 6 (insC (foldI (us.drop i) (x, (l, e))).1)) ∧ KeptS [p, q, it] h h' ∧ (foldI (us.drop i) (x, (l, e))).2.1.length ≤ l.length := by
  intro k
  have hni : ¬ it < tab.ng := by omega
  induction k with
  | zero =>
    intro i tm h v x l e hk t0 t2' t5 t8 t32 hng hit hil hql hr hb hl hgq
    have nd := next_done (EV tab) h it i us (by rw [ng_eq]; exact hni) hit (by omega)
    generalize he : exR (EV tab) dcLoop ⟨false, 60, tm, h⟩ = y
    rw [dcLoop, exR_loop] at he
    simp only [sS, ofArgs, Int.reduceLT, Int.reduceLE, Int.reduceToNat, Int.reduceEq, readD, Nat.reduceLT, Nat.reduceEqDiff, Nat.reduceAdd, ↓reduceIte, binD, binInt, intBin, unD, convD, oLen, denseD, oFunc, oAppend, Nat.reduceMul, Nat.reduceLeDiff, fF23, tTGa, tTGb, sN, subD, loadD, isAggD, storeD, Obj.row, Obj.len, putL, Obj.put, fieldAddrD, indexAddrD, fieldD, indexD, placeOf, fillD, Nat.reduceSub, Nat.reduceLT, Nat.reduceBEq, Nat.reduceMod, Nat.reduceDiv, reduceCtorEq, oNext, ng_eq, tabL_ng, t0, t2', t5, t8, t32, nd] at he
    subst he
    have hd : us.drop i = [] := List.drop_eq_nil_of_le (by omega)
    rw [hd]
    refine ⟨_, h, v, rfl, ?_, ?_, ?_, ?_, hr, hb, hgq, KeptS.refl _ _, Nat.le_refl _⟩ <;> simp only [Tr.get_set, Nat.reduceEqDiff, ↓reduceIte, t0, t2', t5, t8]
  | succ k ih =>
    intro i tm h v x l e hk t0 t2' t5 t8 t32 hng hit hil hql hr hb hl hgq
    have hi : i < us.length := by omega
    have nd := next_more (EV tab) h it i us ha (by rw [ng_eq]; exact hni) hit hi
    have hd : us.drop i = us[i] :: us.drop (i + 1) := (List.getElem_cons_drop hi).symm
    have k0 : KeptX it h (h.put it (.iter ⟨⟨us⟩⟩ (i + 1))) := (KeptX.refl it h).put _
    have hnb : NB h it := nb_iter hit
    obtain ⟨h1, v1, e1, r1, b1, g1, k1⟩ := hR (h.put it (.iter ⟨⟨us⟩⟩ (i + 1))) p q v l e x us[i].toNat (hu _ (List.getElem_mem hi)) hng (hr.keep k0 (Ne.symm hip)) (hb.keptX k0 hnb) hl h17.1 hql (by rw [k0.get q hql (Ne.symm hiq)]; exact hgq) hpq
    obtain ⟨tm1, e2, a0, a2, a5, a8, a32⟩ : ∃ tm1, exR (EV tab) dcLoop ⟨false, 60, tm, h⟩ = exR (EV tab) dcLoop ⟨false, 60, tm1, h1⟩ ∧ tm1.get 0 = some tz ∧ tm1.get 2 = some t2 ∧ tm1.get 5 = some (.pointer (some ⟨q, 0, none⟩)) ∧ tm1.get 8 = some (.pointer (some ⟨p, 0, none⟩)) ∧ tm1.get 32 = some (.pointer (some ⟨it, 0, none⟩)) := by
      generalize he : exR (EV tab) dcLoop ⟨false, 60, tm, h⟩ = y
      rw [dcLoop, exR_loop] at he
      simp only [sS, ofArgs, Int.reduceLT, Int.reduceLE, Int.reduceToNat, Int.reduceEq, readD, Nat.reduceLT, Nat.reduceEqDiff, Nat.reduceAdd, ↓reduceIte, binD, binInt, intBin, unD, convD, oLen, denseD, oFunc, oAppend, Nat.reduceMul, Nat.reduceLeDiff, fF23, tTGa, tTGb, sN, subD, loadD, isAggD, storeD, Obj.row, Obj.len, putL, Obj.put, fieldAddrD, indexAddrD, fieldD, indexD, placeOf, fillD, Nat.reduceSub, Nat.reduceLT, Nat.reduceBEq, Nat.reduceMod, Nat.reduceDiv, reduceCtorEq, oNext, ng_eq, tabL_ng, t0, t2', t5, t8, t32, nd, e1] at he
      subst he
      refine ⟨_, rfl, ?_, ?_, ?_, ?_, ?_⟩ <;> simp only [Tr.get_set, Nat.reduceEqDiff, ↓reduceIte, t0, t2', t5, t8, t32]
    have hlen := readI_len us[i].toNat x (l, e)
    obtain ⟨tm', h', v', x1, x2, x3, x4, x5, x6, x7, x8, x9, x10⟩ := ih (i + 1) tm1 h1 v1 (readI us[i].toNat x (l, e)).1 (readI us[i].toNat x (l, e)).2.1 (readI us[i].toNat x (l, e)).2.2 (by omega) a0 a2 a5 a8 a32 (Nat.le_trans hng k1.le)
      (by rw [k1.get it hil hip hiq, H.get_put, if_pos rfl]) (Nat.lt_of_lt_of_le hil k1.le) (Nat.lt_of_lt_of_le hql k1.le) r1 b1 (by simp only at hlen; omega) g1
    rw [hd]
    refine ⟨tm', h', v', by rw [e2]; exact x1, x2, x3, x4, x5, x6, x7, x8, ?_, by simp only at hlen; exact Nat.le_trans x10 hlen⟩
    exact (((KeptS.refl [p, q, it] h).put _ (by simp)).trans (k1.s (by simp) (by simp))).trans x9
/-! ### decode, joined -/
structure DcX (tab : Tab) : Prop where
  x0 : ∀ l, callExt (EV tab) 23 l = none
  x1 : ∀ l, callExt (EV tab) 27 l = none
  x2 : ∀ l, callExt (EV tab) 44 l = none
  x3 : ∀ l, callExt (EV tab) 69 l = none
  rd : RdP tab
  ck : CheckP tab 31
  fi : FirstP tab
theorem readCall_len {E : Env} {tm : Tr Value} {os : Array Operand} {ts : Array TypeId} : oReadCall E tm ⟨.builtin .len, os, ts⟩ = oLen E tm ts.toList os := rfl
theorem isub1 {ty : Nat} {a b c d e f : Value} : Obj.sub (.cells ty 6 [a, b, c, d, e, f]) 0 1 = some [a] := rfl
theorem isub6 {ty : Nat} {a b c d e f : Value} : Obj.sub (.cells ty 6 [a, b, c, d, e, f]) 0 6 = some [a, b, c, d, e, f] := rfl
theorem ksub {ty : Nat} {a b c d e : Value} : Obj.sub (.cells ty 5 [a, b, c, d, e]) 1 1 = some [b] := rfl
theorem kindAt_out (n : Nat) (h : kindAt (n : Int) = none) : (n : Int) < 0 ∨ 29 ≤ (n : Int) := by
  rw [kindAt_nat] at h
  have := List.getElem?_eq_none_iff.1 h
  have e : kindT.length = 29 := rfl
  omega
theorem decode_run (tab : Tab) (hX : DcX tab) (h : H) (hng : tab.ng ≤ h.next) (v : Value) (o : UInt8) (l : List UInt8) (hb : BT tab h v (o :: l)) (hl : l.length < 999999) :
    ∃ h', callR (EV tab) 23 [v] h = some (.tuple ⟨[.agg ⟨insC (decG chkI (o :: l)).1⟩, .int .i64 ((decG chkI (o :: l)).2.1 : Nat), .int .i64 (decG chkI (o :: l)).2.2]⟩, h') ∧ Kept h h' := by
  obtain ⟨x0, x1, x2, x3, rd, ck, fi⟩ := hX
  have hbb := hb
  rcases hb with ⟨_, z⟩ | ⟨b, off, c, rfl, m, _⟩
  · cases z
  have hs := m.byte 0 (Nat.succ_pos l.length)
  have hblt := m.lt hng
  simp only [Nat.add_zero, List.getElem_cons_zero] at hs
  have bi := byte_i64 o
  have hnn : ¬ h.next < tab.ng := by omega
  have hnn1 : ¬ h.next + 1 < tab.ng := by omega
  have n01 : ¬ h.next = h.next + 1 := by omega
  have n10 : ¬ h.next + 1 = h.next := by omega
  have nb0 : ¬ h.next = b := by omega
  have nb1 : ¬ h.next + 1 = b := by omega
  have hlen0 : (0 : Int) < ((l.length + 1 : Nat) : Int) := by omega
  have kA : Kept h (((h.push (.cells 41 6 [.int .i64 0, .string ⟨#[]⟩, .string ⟨#[]⟩, .int .u64 0, .int .i64 0, .int .i64 0])).push (.cells 41 6 [.int .i64 0, .string ⟨#[]⟩, .string ⟨#[]⟩, .int .u64 0, .int .i64 0, .int .i64 0])).put (h.next + 1) (.cells 41 6 [.int .i64 (o.toNat : Nat), .string ⟨#[]⟩, .string ⟨#[]⟩, .int .u64 0, .int .i64 0, .int .i64 0])) := (((Kept.refl h).push _).push _).put _ (by omega)
  have hcons : decG chkI (o :: l) = match kindAt (o.toNat : Int) with
    | none => (insZ, 0, 11)
    | some r =>
      if (foldI r.uses ({ insZ with op := o.toNat }, (l, 0))).2.2 ≠ 0 then (insZ, 0, (foldI r.uses ({ insZ with op := o.toNat }, (l, 0))).2.2) else
      if chkI (foldI r.uses ({ insZ with op := o.toNat }, (l, 0))).1 ≠ 0 then (insZ, 0, chkI (foldI r.uses ({ insZ with op := o.toNat }, (l, 0))).1) else
      ((foldI r.uses ({ insZ with op := o.toNat }, (l, 0))).1, l.length + 1 - (foldI r.uses ({ insZ with op := o.toNat }, (l, 0))).2.1.length, 0) := rfl
  rw [hcons]
  cases hk : kindAt (o.toNat : Int) with
  | none =>
    obtain ⟨h1, e1, k1⟩ := kindOf_out tab x1 x2 x3 (((h.push (.cells 41 6 [.int .i64 0, .string ⟨#[]⟩, .string ⟨#[]⟩, .int .u64 0, .int .i64 0, .int .i64 0])).push (.cells 41 6 [.int .i64 0, .string ⟨#[]⟩, .string ⟨#[]⟩, .int .u64 0, .int .i64 0, .int .i64 0])).put (h.next + 1) (.cells 41 6 [.int .i64 (o.toNat : Nat), .string ⟨#[]⟩, .string ⟨#[]⟩, .int .u64 0, .int .i64 0, .int .i64 0])) (by rw [H.next_put, H.next_push, H.next_push]; omega) _ (kindAt_out _ hk)
    simp only [kindZ] at e1
    have gA : h1.get h.next = some (.cells 41 6 [.int .i64 0, .string ⟨#[]⟩, .string ⟨#[]⟩, .int .u64 0, .int .i64 0, .int .i64 0]) := by
      rw [k1.get _ (by rw [H.next_put, H.next_push, H.next_push]; omega)]
      simp only [H.get_put, H.get_push, H.next_push, n10, n01, if_false, if_true]
    have n1 : ¬ h1.next < tab.ng := by have := k1.le; simp only [H.next_put, H.next_push] at this; omega
    have n2 : ¬ h1.next = h.next := by have := k1.le; simp only [H.next_put, H.next_push] at this; omega
    generalize he : callR _ _ _ _ = y
    rw [enter23 _ _ _ (x0 _) rfl] at he
    simp only [sS, ofArgs, Int.reduceLT, Int.reduceLE, Int.reduceToNat, Int.reduceEq, readD, Nat.reduceLT, Nat.reduceEqDiff, Nat.reduceAdd, ↓reduceIte, binD, binInt, intBin, unD, convD, oLen, denseD, oFunc, oAppend, Nat.reduceMul, Nat.reduceLeDiff, fF23, tTGa, tTGb, sN, sO, loadD, isAggD, storeD, Obj.row, Obj.len, putL, Obj.put, fieldAddrD, indexAddrD, fieldD, indexD, placeOf, fillD, Nat.reduceSub, Nat.reduceLT, Nat.reduceBEq, Nat.reduceMod, Nat.reduceDiv, reduceCtorEq, isub1, isub6, ksub, rdsub0, rdsub1, ng_eq, tabL_ng, hnn, hnn1, n01, n10, nb0, nb1, hs, bi, hlen0, Int.le_refl, Int.toNat_zero, e1, gA, n1, n2, op_nil] at he
    subst he
    exact ⟨_, rfl, ((((kA.trans k1).push _).put _ (by have := (kA.trans k1).le; omega)).put _ (Nat.le_refl _))⟩
  | some r =>
    have hk' := hk
    rw [kindAt_nat] at hk'
    have hu := List.all_eq_true.1 kindT_uses r (List.mem_of_getElem? hk')
    simp only [Bool.and_eq_true, decide_eq_true_eq, List.all_eq_true] at hu
    have ha : asc r.uses = true := List.all_eq_true.1 kindT_asc r (List.mem_of_getElem? hk')
    have hor := rightV_one (h.next + 1 + 1 + 1) r.right
    obtain ⟨h1, e1, k1, hn1, -⟩ := kindOf_in tab x1 x2 x3 (((h.push (.cells 41 6 [.int .i64 0, .string ⟨#[]⟩, .string ⟨#[]⟩, .int .u64 0, .int .i64 0, .int .i64 0])).push (.cells 41 6 [.int .i64 0, .string ⟨#[]⟩, .string ⟨#[]⟩, .int .u64 0, .int .i64 0, .int .i64 0])).put (h.next + 1) (.cells 41 6 [.int .i64 (o.toNat : Nat), .string ⟨#[]⟩, .string ⟨#[]⟩, .int .u64 0, .int .i64 0, .int .i64 0])) (by rw [H.next_put, H.next_push, H.next_push]; omega) _ r hk'
    have eA : ((((h.push (.cells 41 6 [.int .i64 0, .string ⟨#[]⟩, .string ⟨#[]⟩, .int .u64 0, .int .i64 0, .int .i64 0])).push (.cells 41 6 [.int .i64 0, .string ⟨#[]⟩, .string ⟨#[]⟩, .int .u64 0, .int .i64 0, .int .i64 0])).put (h.next + 1) (.cells 41 6 [.int .i64 (o.toNat : Nat), .string ⟨#[]⟩, .string ⟨#[]⟩, .int .u64 0, .int .i64 0, .int .i64 0]))).next = h.next + 1 + 1 := rfl
    rw [eA] at hn1 e1
    simp only [kindL] at e1
    have gA : h1.get h.next = some (.cells 41 6 [.int .i64 0, .string ⟨#[]⟩, .string ⟨#[]⟩, .int .u64 0, .int .i64 0, .int .i64 0]) := by
      rw [k1.get _ (by rw [eA]; omega)]
      simp only [H.get_put, H.get_push, H.next_push, n10, n01, if_false, if_true]
    have gQ : h1.get (h.next + 1) = some (.cells 41 6 [.int .i64 (o.toNat : Nat), .string ⟨#[]⟩, .string ⟨#[]⟩, .int .u64 0, .int .i64 0, .int .i64 0]) := by
      rw [k1.get _ (by rw [eA]; omega)]
      simp only [H.get_put, H.get_push, H.next_push, n10, n01, if_false, if_true]
    have k01 : Kept h h1 := kA.trans k1
    have m1 : ¬ h1.next < tab.ng := by omega
    have m2 : ¬ h1.next = h.next := by omega
    have m3 : ¬ h1.next = h.next + 1 := by omega
    have m4 : ¬ h1.next + 1 = h1.next := by omega
    have m5 : ¬ h1.next = h1.next + 1 := by omega
    have kB : Kept h1 ((h1.push (.cells 90 5 [.string ⟨#[]⟩, .string ⟨#[]⟩, .int .i64 0, .int .i64 0, .nilFunc])).put h1.next (.cells 90 5 [.string ⟨⟨r.name⟩⟩, .string ⟨⟨r.uses⟩⟩, .int .i64 r.pops, .int .i64 r.puts, rightV (h.next + 1 + 1 + 1) r.right])) := ((Kept.refl h1).push _).put _ (Nat.le_refl _)
    obtain ⟨v1, es, bt1⟩ := slice_bt tab (hbb.kept (k01.trans kB)) (some 1) none (by simp) (Nat.le_refl _)
    simp only [Option.map_none, Option.map_some, natV, Option.getD_some, Option.getD_none, List.take_length, List.drop_succ_cons, List.drop_zero] at es bt1
    simp only [List.length_cons, Int.cast_ofNat_Int] at es
    obtain ⟨a2, c2, rfl⟩ := bt1.len
    have hbx : tab.ng ≤ h1.next + 1 := by omega
    have key : ∀ tm hh, (hh = ((((h1.push (.cells 90 5 [.string ⟨#[]⟩, .string ⟨#[]⟩, .int .i64 0, .int .i64 0, .nilFunc])).put h1.next (.cells 90 5 [.string ⟨⟨r.name⟩⟩, .string ⟨⟨r.uses⟩⟩, .int .i64 r.pops, .int .i64 r.puts, rightV (h.next + 1 + 1 + 1) r.right])).push (.cells 109 2 [.slice a2 l.length c2, .int .i64 0])).push (.iter ⟨⟨r.uses⟩⟩ 0)) ∧ tm.get 0 = some (.slice (some ⟨b, off, none⟩) (l.length + 1) c) ∧ tm.get 2 = some (.pointer (some ⟨h.next, 0, none⟩)) ∧ tm.get 5 = some (.pointer (some ⟨h.next + 1, 0, none⟩)) ∧ tm.get 8 = some (.pointer (some ⟨h1.next + 1, 0, none⟩)) ∧ tm.get 32 = some (.pointer (some ⟨h1.next + 1 + 1, 0, none⟩))) →
        ∃ x s', exR (EV tab) dcLoop ⟨false, 60, tm, hh⟩ = some (x, s') ∧ (x = .exit 0 ∧ ∃ tm' h' v', s' = ⟨false, 60, tm', h'⟩ ∧ tm'.get 0 = some (.slice (some ⟨b, off, none⟩) (l.length + 1) c) ∧ tm'.get 2 = some (.pointer (some ⟨h.next, 0, none⟩)) ∧ tm'.get 5 = some (.pointer (some ⟨h.next + 1, 0, none⟩)) ∧ tm'.get 8 = some (.pointer (some ⟨h1.next + 1, 0, none⟩)) ∧
          RDp tab h' (h1.next + 1) v' (foldI r.uses ({ insZ with op := o.toNat }, (l, 0))).2.2 ∧ BT tab h' v' (foldI r.uses ({ insZ with op := o.toNat }, (l, 0))).2.1 ∧ h'.get (h.next + 1) = some (.cells 41 6 (insC (foldI r.uses ({ insZ with op := o.toNat }, (l, 0))).1)) ∧ h'.get h.next = some (.cells 41 6 [.int .i64 0, .string ⟨#[]⟩, .string ⟨#[]⟩, .int .u64 0, .int .i64 0, .int .i64 0]) ∧ Kept h h' ∧ h1.next + 1 < h'.next ∧
          (foldI r.uses ({ insZ with op := o.toNat }, (l, 0))).2.1.length ≤ l.length) := fun tm hh q => by
      obtain ⟨rfl, p0, p2, p5, p8, p32⟩ := q
      have kC : Kept h1 ((((h1.push (.cells 90 5 [.string ⟨#[]⟩, .string ⟨#[]⟩, .int .i64 0, .int .i64 0, .nilFunc])).put h1.next (.cells 90 5 [.string ⟨⟨r.name⟩⟩, .string ⟨⟨r.uses⟩⟩, .int .i64 r.pops, .int .i64 r.puts, rightV (h.next + 1 + 1 + 1) r.right])).push (.cells 109 2 [.slice a2 l.length c2, .int .i64 0])).push (.iter ⟨⟨r.uses⟩⟩ 0)) := (kB.push _).push _
      have kD := k01.trans kC
      have hnx : (((((h1.push (.cells 90 5 [.string ⟨#[]⟩, .string ⟨#[]⟩, .int .i64 0, .int .i64 0, .nilFunc])).put h1.next (.cells 90 5 [.string ⟨⟨r.name⟩⟩, .string ⟨⟨r.uses⟩⟩, .int .i64 r.pops, .int .i64 r.puts, rightV (h.next + 1 + 1 + 1) r.right])).push (.cells 109 2 [.slice a2 l.length c2, .int .i64 0])).push (.iter ⟨⟨r.uses⟩⟩ 0))).next = h1.next + 3 := rfl
      obtain ⟨tm', h', v', y1, y2, y3, y4, y5, y6, y7, y8, y9, y10⟩ := dc_loop tab rd (h1.next + 1) (h.next + 1) (h1.next + 1 + 1) (by omega) (by omega) (by omega) ⟨by omega, by omega⟩ r.uses (fun c hc => by have := hu.2 c hc; simpa using this) ha _ _ r.uses.length 0 tm ((((h1.push (.cells 90 5 [.string ⟨#[]⟩, .string ⟨#[]⟩, .int .i64 0, .int .i64 0, .nilFunc])).put h1.next (.cells 90 5 [.string ⟨⟨r.name⟩⟩, .string ⟨⟨r.uses⟩⟩, .int .i64 r.pops, .int .i64 r.puts, rightV (h.next + 1 + 1 + 1) r.right])).push (.cells 109 2 [.slice a2 l.length c2, .int .i64 0])).push (.iter ⟨⟨r.uses⟩⟩ 0)) (.slice a2 l.length c2) { insZ with op := o.toNat } l 0 (by omega) p0 p2 p5 p8 p32
        (by rw [hnx]; omega) (by
          have e : ((h1.push (.cells 90 5 [.string ⟨#[]⟩, .string ⟨#[]⟩, .int .i64 0, .int .i64 0, .nilFunc])).put h1.next (.cells 90 5 [.string ⟨⟨r.name⟩⟩, .string ⟨⟨r.uses⟩⟩, .int .i64 r.pops, .int .i64 r.puts, rightV (h.next + 1 + 1 + 1) r.right])).next = h1.next + 1 := rfl
          simp only [H.get_push, H.next_push, e, if_true]) (by rw [hnx]; omega) (by rw [hnx]; omega) ⟨hbx, by rw [hnx]; omega, by
          have e : ((h1.push (.cells 90 5 [.string ⟨#[]⟩, .string ⟨#[]⟩, .int .i64 0, .int .i64 0, .nilFunc])).put h1.next (.cells 90 5 [.string ⟨⟨r.name⟩⟩, .string ⟨⟨r.uses⟩⟩, .int .i64 r.pops, .int .i64 r.puts, rightV (h.next + 1 + 1 + 1) r.right])).next = h1.next + 1 := rfl
          have e2 : ¬ h1.next + 1 + 1 = h1.next + 1 := by omega
          simp only [H.get_push, H.next_push, e, if_true, e2, if_false]⟩ (bt1.kept (((Kept.refl _).push _).push _)) (by omega) (by rw [kC.get _ (by omega)]; exact gQ)
      rw [List.drop_zero] at y6 y7 y8 y10
      refine ⟨_, _, y1, rfl, tm', h', v', rfl, y2, y3, y4, y5, y6, y7, y8, ?_, y9.kept kD (by simp; omega), by have := y9.le; omega, y10⟩
      rw [y9.get _ (by rw [hnx]; omega) (by simp; omega), kC.get _ (by omega)]; exact gA
    dsimp only
    generalize hf : foldI r.uses ({ insZ with op := o.toNat }, (l, 0)) = s at key ⊢
    obtain ⟨x, l', e'⟩ := s
    simp only at key ⊢
    generalize he : callR _ _ _ _ = y
    rw [enter23 _ _ _ (x0 _) rfl] at he
    simp only [sS, ofArgs, Int.reduceLT, Int.reduceLE, Int.reduceToNat, Int.reduceEq, readD, Nat.reduceLT, Nat.reduceEqDiff, Nat.reduceAdd, ↓reduceIte, binD, binInt, intBin, unD, convD, oLen, denseD, oFunc, oAppend, Nat.reduceMul, Nat.reduceLeDiff, b23, p23_0, r23_0, p23_1, r23_1, p23_2, r23_2, p23_3, r23_3, p23_5, r23_5, p23_6, r23_6, tTGa, tTGb, sN, sO, loadD, isAggD, storeD, Obj.row, Obj.len, putL, Obj.put, fieldAddrD, indexAddrD, fieldD, indexD, placeOf, fillD, Nat.reduceSub, Nat.reduceLT, Nat.reduceBEq, Nat.reduceMod, Nat.reduceDiv, reduceCtorEq, isub1, isub6, ksub, rdsub0, rdsub1, ng_eq, tabL_ng, hnn, hnn1, n01, n10, nb0, nb1, hs, bi, hlen0, Int.le_refl, Int.toNat_zero, e1, m1, m2, m3, m4, m5, hor, oSlice, optO, oRange, es, op_nil] at he
    obtain ⟨xx, ss, ⟨rfl, tm', h', v', rfl, t0, t2, t5, t8, r1, b1, gq, ga, k2, hlt2, hll⟩, he⟩ := use_run key (fun o => finish (EV tab) [ResultVar.cell 2 39, ResultVar.tmp 3, ResultVar.tmp 4] (andThen (unblock 0 o) (exR (EV tab) (.seq (.seq rg23_10 (.seq rg23_11 (.cond (Operand.tmp 48) (.seq rg23_12 .ret) .skip))) (.seq rg23_13 .ret))))) he (by
      refine ⟨rfl, ?_, ?_, ?_, ?_, ?_⟩ <;> simp only [Tr.get_set, Nat.reduceEqDiff, ↓reduceIte, H.next_push, H.next_put])
    obtain ⟨xo, xt, xu, xn, xi, xs⟩ := x
    have rs1 := r1.s1
    have rs0 := r1.s0
    obtain ⟨p17, plt, pg⟩ := r1
    have hh17 : tab.ng ≤ h'.next := by have := k2.le; omega
    have np : ¬ h1.next + 1 < tab.ng := by omega
    have ec := ck xo xt xu (xn : Nat) xi xs h' (by omega)
    have ef := fi (h'.push (.cells 26 1 [.int .i64 e', .int .i64 (checkI xo xt xu (xn : Nat) xi xs)])) h'.next 5 2 [e', checkI xo xt xu (xn : Nat) xi xs] hh17 (H.get_push_self _ _) rfl (by decide)
    have f1 : firstI [e', checkI xo xt xu (xn : Nat) xi xs] = if e' = 0 then checkI xo xt xu (xn : Nat) xi xs else e' := by
      simp only [firstI]
      split
      · split
        · rename_i q; exact q.symm
        · rfl
      · rfl
    rw [f1] at ef
    have hv := insL_veq xo xt xu (xn : Nat) xi xs
    have hck : chkI ⟨xo, xt, xu, xn, xi, xs⟩ = checkI xo xt xu (xn : Nat) xi xs := rfl
    rw [hck]
    simp only [insV, insL] at ec hv
    simp only [insC, insL] at gq
    have hx6 : subD (EV tab) h' (h.next + 1) 0 6 = some [.int .i64 xo, .string ⟨⟨xt⟩⟩, .string ⟨⟨xu⟩⟩, .int .u64 (xn : Nat), .int .i64 xi, .int .i64 xs] := by
      unfold subD
      rw [ng_eq, if_neg hnn1, gq]; rfl
    have a1 : ¬ h'.next = h.next := by have := k2.le; omega
    have a2' : ¬ h'.next = h.next + 1 := by omega
    have a3 : ¬ h'.next = h1.next + 1 := by omega
    have a4 : ¬ h1.next + 1 = h.next := by omega
    have a6 : ¬ h.next = h1.next + 1 := by omega
    have a7 : ¬ h.next = h'.next := by omega
    have kP : ∀ o1 o2, Kept h ((h'.push o1).put h.next o2) := fun o1 o2 => ((k2.push o1).put o2 (Nat.le_refl _))
    by_cases q1 : (if e' = 0 then checkI xo xt xu (xn : Nat) xi xs else e') = 0
    · have q2 : e' = 0 := by
        by_cases q : e' = 0
        · exact q
        · rw [if_neg q] at q1; exact q1
      have q3 : checkI xo xt xu (xn : Nat) xi xs = 0 := by rw [if_pos q2] at q1; exact q1
      have z : ((if e' = 0 then checkI xo xt xu (xn : Nat) xi xs else e') != 0) = false := by rw [q1]; rfl
      obtain ⟨a5, c5, rfl⟩ := b1.len
      have s1 : iSub .i64 ((l.length + 1 : Nat) : Int) ((l'.length : Nat) : Int) = some (.int .i64 ((l.length + 1 - l'.length : Nat) : Int)) := by
        unfold iSub; rw [IntWalk.i64_in _ (by omega)]; congr 2; omega
      simp only [sS, ofArgs, Int.reduceLT, Int.reduceLE, Int.reduceToNat, Int.reduceEq, readD, Nat.reduceLT, Nat.reduceEqDiff, Nat.reduceAdd, ↓reduceIte, binD, binInt, intBin, unD, convD, oLen, denseD, oFunc, oAppend, Nat.reduceMul, Nat.reduceLeDiff, fF23, tTGa, tTGb, sN, sO, loadD, isAggD, storeD, Obj.row, Obj.len, putL, Obj.put, fieldAddrD, indexAddrD, fieldD, indexD, placeOf, fillD, Nat.reduceSub, Nat.reduceLT, Nat.reduceBEq, Nat.reduceMod, Nat.reduceDiv, reduceCtorEq, isub1, isub6, rdsub0, rdsub1, ng_eq, tabL_ng, hnn, hnn1, np, t0, t2, t5, t8, pg, gq, ga, hx6, rs1, rs0, ec, ef, hv, iNeq, z, a1, a2', a3, a4, a6, a7, n01, n10, readCall_len, s1, op_nil] at he
      subst he
      rw [if_neg (fun h => h q2), if_neg (fun h => h q3)]
      exact ⟨_, rfl, kP _ _⟩
    · have z : ((if e' = 0 then checkI xo xt xu (xn : Nat) xi xs else e') != 0) = true := by simpa using q1
      simp only [sS, ofArgs, Int.reduceLT, Int.reduceLE, Int.reduceToNat, Int.reduceEq, readD, Nat.reduceLT, Nat.reduceEqDiff, Nat.reduceAdd, ↓reduceIte, binD, binInt, intBin, unD, convD, oLen, denseD, oFunc, oAppend, Nat.reduceMul, Nat.reduceLeDiff, fF23, tTGa, tTGb, sN, sO, loadD, isAggD, storeD, Obj.row, Obj.len, putL, Obj.put, fieldAddrD, indexAddrD, fieldD, indexD, placeOf, fillD, Nat.reduceSub, Nat.reduceLT, Nat.reduceBEq, Nat.reduceMod, Nat.reduceDiv, reduceCtorEq, isub1, isub6, rdsub0, rdsub1, ng_eq, tabL_ng, hnn, hnn1, np, t0, t2, t5, t8, pg, gq, ga, hx6, rs1, rs0, ec, ef, hv, iNeq, z, a1, a2', a3, a4, a6, a7, n01, n10, op_nil] at he
      subst he
      by_cases q2 : e' = 0
      · rw [if_pos q2] at q1 ⊢
        rw [if_neg (fun h => h q2), if_pos q1]
        exact ⟨_, rfl, kP _ _⟩
      · rw [if_neg q2, if_pos q2]
        exact ⟨_, rfl, kP _ _⟩
/-! ### stackmachine.Decode -/
abbrev DecP (tab : Tab) : Prop := ∀ (h : H) (v : Value) (o : UInt8) (l : List UInt8), tab.ng ≤ h.next → BT tab h v (o :: l) → l.length < 999999 →
  ∃ h', callR (EV tab) 23 [v] h = some (.tuple ⟨[.agg ⟨insC (decG chkI (o :: l)).1⟩, .int .i64 ((decG chkI (o :: l)).2.1 : Nat), .int .i64 (decG chkI (o :: l)).2.2]⟩, h') ∧ Kept h h'
noncomputable def deLoop : Code := (.loop (.seq (.seq rg8_5 (.cond (Operand.tmp 16) .skip (Code.exit 0))) (.block 1 (.seq rg8_6 (.seq (.seq rg8_7 (.cond (Operand.tmp 26) (.seq rg8_8 .ret) .skip)) (.seq rg8_9 rg8_10))))))
theorem de_loop (tab : Tab) (hD : DecP tab) (h0 : H) (hng : tab.ng ≤ h0.next) (v : Value) (b : List UInt8) (hb : BT tab h0 v b) (hl : b.length < 100000) :
    ∀ (k i : Nat) (tm : Tr Value) (h : H) (vo : Value) (acc : List Ins), b.length ≤ i + k → i ≤ b.length → acc.length ≤ i → tm.get 0 = some v → tm.get 5 = some vo → tm.get 6 = some (.int .i64 i) → Row h0 h 41 6 vo acc.length (cellsI acc) → Kept h0 h →
    ∃ tm' h', Kept h0 h' ∧ ((exR (EV tab) deLoop ⟨false, 37, tm, h⟩ = some (.exit 0, ⟨false, 37, tm', h'⟩) ∧ ∃ vo' l, tm'.get 5 = some vo' ∧ Row h0 h' 41 6 vo' l.length (cellsI l) ∧ decF chkI k b i acc = (l, 0, 0)) ∨
      (exR (EV tab) deLoop ⟨false, 37, tm, h⟩ = some (.ret, ⟨false, 37, tm', h'⟩) ∧ ∃ (j : Nat) (e : Int), tm'.get 2 = some (.slice none 0 0) ∧ tm'.get 3 = some (.int .i64 j) ∧ tm'.get 4 = some (.int .i64 e) ∧ decF chkI k b i acc = ([], j, e))) := by
  obtain ⟨a0, c0, rfl⟩ := hb.len
  have done : ∀ (i : Nat) (tm : Tr Value) (h : H) (vo : Value) (acc : List Ins) (k : Nat), b.length ≤ i → tm.get 0 = some (.slice a0 b.length c0) → tm.get 5 = some vo → tm.get 6 = some (.int .i64 i) → Row h0 h 41 6 vo acc.length (cellsI acc) → Kept h0 h →
      ∃ tm', exR (EV tab) deLoop ⟨false, 37, tm, h⟩ = some (.exit 0, ⟨false, 37, tm', h⟩) ∧ tm'.get 5 = some vo ∧ decF chkI k b i acc = (acc, 0, 0) := fun i tm h vo acc k hi t0 t5 t6 hr hkp => by
    have hlt : decide (i < b.length) = false := decide_eq_false (by omega)
    generalize he : exR (EV tab) deLoop ⟨false, 37, tm, h⟩ = r
    rw [deLoop, exR_loop] at he
    simp only [sS, ofArgs, Int.reduceLT, Int.reduceLE, Int.reduceToNat, Int.reduceEq, readD, Nat.reduceLT, Nat.reduceEqDiff, Nat.reduceAdd, ↓reduceIte, binD, binInt, intBin, unD, convD, oLen, denseD, oFunc, oAppend, Nat.reduceMul, Nat.reduceLeDiff, fF8, tTGa, tTGb, t0, t6, iLss, Int.ofNat_lt, hlt] at he
    subst he
    refine ⟨_, rfl, by simp only [Tr.get_set, Nat.reduceEqDiff, ↓reduceIte, t5], ?_⟩
    cases k with
    | zero => rfl
    | succ k => rw [decF, if_pos hi]
  intro k
  induction k with
  | zero =>
    intro i tm h vo acc hk hi ha t0 t5 t6 hr hkp
    obtain ⟨tm', e, x5, xd⟩ := done i tm h vo acc 0 (by omega) t0 t5 t6 hr hkp
    exact ⟨tm', h, hkp, .inl ⟨e, vo, acc, x5, hr, xd⟩⟩
  | succ k ih =>
    intro i tm h vo acc hk hi ha t0 t5 t6 hr hkp
    by_cases q : b.length ≤ i
    · obtain ⟨tm', e, x5, xd⟩ := done i tm h vo acc (k + 1) q t0 t5 t6 hr hkp
      exact ⟨tm', h, hkp, .inl ⟨e, vo, acc, x5, hr, xd⟩⟩
    · have hlt : i < b.length := by omega
      have hhn : tab.ng ≤ h.next := Nat.le_trans hng hkp.le
      have hd0 : b.drop i = b[i] :: b.drop (i + 1) := (List.getElem_cons_drop hlt).symm
      obtain ⟨v1, es, bt1⟩ := slice_bt tab (hb.kept hkp) (some i) none hi (Nat.le_refl _)
      simp only [Option.map_none, Option.map_some, natV, Option.getD_some, Option.getD_none, List.take_length] at es bt1
      rw [hd0] at bt1
      obtain ⟨h1, ed, k1⟩ := hD h v1 b[i] (b.drop (i + 1)) hhn bt1 (by rw [List.length_drop]; omega)
      have hdec : decF chkI (k + 1) b i acc = if (decG chkI (b[i] :: b.drop (i + 1))).2.2 ≠ 0 then ([], i, (decG chkI (b[i] :: b.drop (i + 1))).2.2) else decF chkI k b (i + (decG chkI (b[i] :: b.drop (i + 1))).2.1) (acc ++ [(decG chkI (b[i] :: b.drop (i + 1))).1]) := by
        rw [decF, if_neg q, hd0]
      rw [hdec]
      generalize hg : decG chkI (b[i] :: b.drop (i + 1)) = s at ed
      obtain ⟨x, n, e⟩ := s
      have hx : insC x = [.int .i64 x.op, .string ⟨⟨x.t⟩⟩, .string ⟨⟨x.u⟩⟩, .int .u64 (x.num : Nat), .int .i64 x.imm, .int .i64 x.size] := rfl
      simp only [hx] at ed
      have k2 : Kept h0 h1 := hkp.trans k1
      have hn1 : tab.ng ≤ h1.next := Nat.le_trans hng k2.le
      have m1 : ¬ h1.next < tab.ng := by omega
      have k3 : Kept h0 ((h1.push (.cells 41 6 [.int .i64 0, .string ⟨#[]⟩, .string ⟨#[]⟩, .int .u64 0, .int .i64 0, .int .i64 0])).put h1.next (.cells 41 6 [.int .i64 x.op, .string ⟨⟨x.t⟩⟩, .string ⟨⟨x.u⟩⟩, .int .u64 (x.num : Nat), .int .i64 x.imm, .int .i64 x.size])) := (k2.push _).put _ k2.le
      by_cases q2 : e = 0
      · subst q2
        have z : ((0 : Int) != 0) = false := rfl
        obtain ⟨-, -, -, c4, c5⟩ := decG_inv hg
        rw [← hd0, List.length_drop] at c5
        have s1 : iAdd .i64 (i : Int) (n : Int) = some (.int .i64 ((i + n : Nat) : Int)) := by unfold iAdd; rw [IntWalk.i64_in _ (by omega)]; rfl
        have hr3 : Row h0 (((h1.push (.cells 41 6 [.int .i64 0, .string ⟨#[]⟩, .string ⟨#[]⟩, .int .u64 0, .int .i64 0, .int .i64 0])).put h1.next (.cells 41 6 [.int .i64 x.op, .string ⟨⟨x.t⟩⟩, .string ⟨⟨x.u⟩⟩, .int .u64 (x.num : Nat), .int .i64 x.imm, .int .i64 x.size])).push (.cells 41 6 (insC x))) 41 6 vo acc.length (cellsI acc) := by
          rcases hr.kept k1 with r | ⟨qb, r1, r2, r3, r4, r5⟩
          · exact .inl r
          · refine .inr ⟨qb, r1, r2, by simp only [H.next_push, H.next_put]; omega, ?_, r5⟩
            rw [H.get_push_lt _ _ (by simp only [H.next_push, H.next_put]; omega), H.get_put, if_neg (by omega), H.get_push_lt _ _ r3]; exact r4
        obtain ⟨v2, h2, ea, rr, kk⟩ := append_row (E := EV tab) (t := 29) (ti29 tab) rfl (ti41 tab) rfl (by rw [bt_eq]; show 41 ≠ 86; decide) hng hr3 (k3.push _)
          (new_ins tab 41 (((h1.push (.cells 41 6 [.int .i64 0, .string ⟨#[]⟩, .string ⟨#[]⟩, .int .u64 0, .int .i64 0, .int .i64 0])).put h1.next (.cells 41 6 [.int .i64 x.op, .string ⟨⟨x.t⟩⟩, .string ⟨⟨x.u⟩⟩, .int .u64 (x.num : Nat), .int .i64 x.imm, .int .i64 x.size])).push (.cells 41 6 (insC x))) x (h1.next + 1) 3 (by omega) (by simp only [H.get_push, H.next_put, H.next_push, if_true]) _) (insC_one _) (by decide) (by omega) rfl
        have ec : cellsI acc ++ insC x = cellsI (acc ++ [x]) := by simp [cellsI]
        rw [ec] at rr
        simp only [hx] at ea
        obtain ⟨tm1, e1, b0, b5, b6⟩ : ∃ tm1, exR (EV tab) deLoop ⟨false, 37, tm, h⟩ = exR (EV tab) deLoop ⟨false, 37, tm1, h2⟩ ∧ tm1.get 0 = some (.slice a0 b.length c0) ∧ tm1.get 5 = some v2 ∧ tm1.get 6 = some (.int .i64 ((i + n : Nat) : Int)) := by
          generalize he : exR (EV tab) deLoop ⟨false, 37, tm, h⟩ = r
          rw [deLoop, exR_loop] at he
          simp only [sS, ofArgs, Int.reduceLT, Int.reduceLE, Int.reduceToNat, Int.reduceEq, readD, Nat.reduceLT, Nat.reduceEqDiff, Nat.reduceAdd, ↓reduceIte, binD, binInt, intBin, unD, convD, oLen, denseD, oFunc, oAppend, Nat.reduceMul, Nat.reduceLeDiff, fF8, tTGa, tTGb, sN, sO, loadD, isAggD, storeD, Obj.row, Obj.len, putL, Obj.put, fieldAddrD, indexAddrD, fieldD, indexD, placeOf, fillD, Nat.reduceSub, Nat.reduceLT, Nat.reduceBEq, Nat.reduceMod, Nat.reduceDiv, reduceCtorEq, isub6, ng_eq, tabL_ng, t0, t5, t6, iLss, Int.ofNat_lt, hlt, decide_true, oSlice, optO, es, ed, m1, iNeq, z, ea, s1] at he
          subst he
          refine ⟨_, rfl, ?_, ?_, ?_⟩ <;> simp only [Tr.get_set, Nat.reduceEqDiff, ↓reduceIte, t0]
        obtain ⟨tm', h', y1, y2⟩ := ih (i + n) tm1 h2 v2 (acc ++ [x]) (by omega) (by omega) (by simp; omega) b0 b5 b6 (by rw [List.length_append]; exact rr) kk
        rw [if_neg (by simp), e1]
        exact ⟨tm', h', y1, y2⟩
      · have z : (e != 0) = true := by simpa using q2
        generalize he : exR (EV tab) deLoop ⟨false, 37, tm, h⟩ = r
        rw [deLoop, exR_loop] at he
        simp only [sS, ofArgs, Int.reduceLT, Int.reduceLE, Int.reduceToNat, Int.reduceEq, readD, Nat.reduceLT, Nat.reduceEqDiff, Nat.reduceAdd, ↓reduceIte, binD, binInt, intBin, unD, convD, oLen, denseD, oFunc, oAppend, Nat.reduceMul, Nat.reduceLeDiff, fF8, tTGa, tTGb, sN, sO, loadD, isAggD, storeD, Obj.row, Obj.len, putL, Obj.put, fieldAddrD, indexAddrD, fieldD, indexD, placeOf, fillD, Nat.reduceSub, Nat.reduceLT, Nat.reduceBEq, Nat.reduceMod, Nat.reduceDiv, reduceCtorEq, isub6, ng_eq, tabL_ng, t0, t5, t6, iLss, Int.ofNat_lt, hlt, decide_true, oSlice, optO, es, ed, m1, iNeq, z] at he
        subst he
        rw [if_pos q2]
        refine ⟨_, _, k3, .inr ⟨rfl, i, e, ?_, ?_, ?_, rfl⟩⟩ <;> simp only [Tr.get_set, Nat.reduceEqDiff, ↓reduceIte]
def decL (b : List UInt8) : List Ins × Nat × Int := if 65536 < b.length then ([], 0, 4) else decF chkI b.length b 0 []
theorem Decode_run (tab : Tab) (hx : ∀ l, callExt (EV tab) 8 l = none) (hD : DecP tab) (h : H) (hng : tab.ng ≤ h.next) (v : Value) (b : List UInt8) (hb : BT tab h v b) (hl : b.length < 100000) :
    ∃ v' h', callR (EV tab) 8 [v] h = some (.tuple ⟨[v', .int .i64 ((decL b).2.1 : Nat), .int .i64 (decL b).2.2]⟩, h') ∧ Row h h' 41 6 v' (decL b).1.length (cellsI (decL b).1) ∧ Kept h h' := by
  unfold decL
  by_cases q : 65536 < b.length
  · have d1 : decide ((65536 : Int) < (b.length : Nat)) = true := decide_eq_true (by omega)
    obtain ⟨a0, c0, rfl⟩ := hb.len
    rw [if_pos q]
    generalize he : callR _ _ _ _ = r
    rw [enter8 _ _ _ (hx _) rfl] at he
    simp only [sS, ofArgs, Int.reduceLT, Int.reduceLE, Int.reduceToNat, Int.reduceEq, readD, Nat.reduceLT, Nat.reduceEqDiff, Nat.reduceAdd, ↓reduceIte, binD, binInt, intBin, unD, convD, oLen, denseD, oFunc, oAppend, Nat.reduceMul, Nat.reduceLeDiff, fF8, tTGa, tTGb, iGtr, gt_iff_lt, d1] at he
    subst he
    exact ⟨_, _, rfl, Row.nil _ _ _ _, Kept.refl _⟩
  · have d1 : decide ((65536 : Int) < (b.length : Nat)) = false := decide_eq_false (by omega)
    have key : ∀ tm h1, (h1 = h ∧ tm.get 0 = some v ∧ tm.get 5 = some (.slice none 0 0) ∧ tm.get 6 = some (.int .i64 0)) → ∃ x s', exR (EV tab) deLoop ⟨false, 37, tm, h1⟩ = some (x, s') ∧
        (∃ tm' h', Kept h h' ∧ s' = ⟨false, 37, tm', h'⟩ ∧ ((x = .exit 0 ∧ ∃ vo' l, tm'.get 5 = some vo' ∧ Row h h' 41 6 vo' l.length (cellsI l) ∧ decF chkI b.length b 0 [] = (l, 0, 0)) ∨
          (x = .ret ∧ ∃ (j : Nat) (e : Int), tm'.get 2 = some (.slice none 0 0) ∧ tm'.get 3 = some (.int .i64 j) ∧ tm'.get 4 = some (.int .i64 e) ∧ decF chkI b.length b 0 [] = ([], j, e)))) := fun tm h1 p => by
      obtain ⟨rfl, p0, p5, p6⟩ := p
      obtain ⟨tm', h', y1, ⟨y2, y3⟩ | ⟨y2, y3⟩⟩ := de_loop tab hD h1 hng v b hb hl b.length 0 tm h1 (.slice none 0 0) [] (by omega) (by omega) (by simp) p0 p5 p6 (Row.nil _ _ _ _) (Kept.refl h1)
      · exact ⟨_, _, y2, tm', h', y1, rfl, .inl ⟨rfl, y3⟩⟩
      · exact ⟨_, _, y2, tm', h', y1, rfl, .inr ⟨rfl, y3⟩⟩
    obtain ⟨a0, c0, rfl⟩ := hb.len
    rw [if_neg q]
    generalize he : callR _ _ _ _ = r
    rw [enter8 _ _ _ (hx _) rfl] at he
    simp only [sS, ofArgs, Int.reduceLT, Int.reduceLE, Int.reduceToNat, Int.reduceEq, readD, Nat.reduceLT, Nat.reduceEqDiff, Nat.reduceAdd, ↓reduceIte, binD, binInt, intBin, unD, convD, oLen, denseD, oFunc, oAppend, Nat.reduceMul, Nat.reduceLeDiff, b8, p8_0, r8_0, p8_1, r8_1, p8_3, r8_3, p8_4, r8_4, tTGa, tTGb, iGtr, gt_iff_lt, d1] at he
    obtain ⟨x1, s1, ⟨tm', h', y1, rfl, ⟨rfl, vo, l, y5, y6, y7⟩ | ⟨rfl, j, e, y2, y3, y4, y7⟩⟩, he⟩ := use_run key (fun o => finish (EV tab) [ResultVar.tmp 2, ResultVar.tmp 3, ResultVar.tmp 4] (andThen (unblock 0 o) (exR (EV tab) (.seq rg8_11 .ret)))) he (by
      refine ⟨rfl, ?_, ?_, ?_⟩ <;> simp only [Tr.get_set, Nat.reduceEqDiff, ↓reduceIte])
    · simp only [sS, ofArgs, Int.reduceLT, Int.reduceLE, Int.reduceToNat, Int.reduceEq, readD, Nat.reduceLT, Nat.reduceEqDiff, Nat.reduceAdd, ↓reduceIte, binD, binInt, intBin, unD, convD, oLen, denseD, oFunc, oAppend, Nat.reduceMul, Nat.reduceLeDiff, fF8, tTGa, tTGb, y5] at he
      subst he
      rw [y7]
      exact ⟨vo, h', rfl, y6, y1⟩
    · simp only [sS, ofArgs, Int.reduceLT, Int.reduceLE, Int.reduceToNat, Int.reduceEq, readD, Nat.reduceLT, Nat.reduceEqDiff, Nat.reduceAdd, ↓reduceIte, binD, binInt, intBin, unD, convD, oLen, denseD, oFunc, oAppend, Nat.reduceMul, Nat.reduceLeDiff, fF8, tTGa, tTGb, y2, y3, y4] at he
      subst he
      rw [y7]
      exact ⟨_, h', rfl, Row.nil _ _ _ _, y1⟩

/-! ### What Check grants a reader -/
theorem kindT_flds : kindT.all (fun r => (decide (0 ∈ r.uses.map fun c => fld c.toNat) == hasB r.uses [84]) && (decide (1 ∈ r.uses.map fun c => fld c.toNat) == hasB r.uses [85]) && (decide (2 ∈ r.uses.map fun c => fld c.toNat) == hasB r.uses [110, 119, 76]) &&
    (decide (3 ∈ r.uses.map fun c => fld c.toNat) == hasB r.uses [115, 100, 80]) && (decide (4 ∈ r.uses.map fun c => fld c.toNat) == hasB r.uses [70])) = true := by decide +kernel
theorem wrong_no {s : List UInt8} {b : Bool} (h : wrongB s b = false) : (codeT s).2 = 0 ∧ (b = false → s = []) := by
  unfold wrongB at h
  rw [Bool.or_eq_false_iff] at h
  refine ⟨by simpa using h.1, fun hb => ?_⟩
  have h2 := h.2
  rw [hb] at h2
  simpa using h2
theorem chk_sound : Sound chkI where
  ok x hx hn := by
    obtain ⟨k, r, e1, e2, -, w1, w2, sp, -, -, hi, hs, hp⟩ := check_ok hx (by omega)
    obtain ⟨t1, t2⟩ := wrong_no w1
    obtain ⟨u1, u2⟩ := wrong_no w2
    have hf := List.all_eq_true.1 kindT_flds r (List.mem_of_getElem? e2)
    simp only [Bool.and_eq_true, beq_iff_eq] at hf
    obtain ⟨⟨⟨⟨f0, f1⟩, f2⟩, f3⟩, f4⟩ := hf
    unfold spareB at sp
    simp only [Bool.or_eq_false_iff, Bool.and_eq_false_iff, Bool.not_eq_false', bne_eq_false_iff_eq] at sp
    obtain ⟨⟨s1, s2⟩, s3⟩ := sp
    refine ⟨⟨t1, u1, hn, hi, hs⟩, k, r, e1, e2, hp, fun q => t2 (by rw [← f0]; exact decide_eq_false q), fun q => u2 (by rw [← f1]; exact decide_eq_false q), fun q => ?_, fun q => ?_, fun q => ?_⟩
    · rw [← f2] at s1
      rcases s1 with s1 | s1
      · omega
      · exact absurd (of_decide_eq_true s1) q
    · rw [← f3] at s2
      rcases s2 with s2 | s2
      · exact s2
      · exact absurd (of_decide_eq_true s2) q
    · rw [← f4] at s3
      rcases s3 with s3 | s3
      · exact s3
      · exact absurd (of_decide_eq_true s3) q
theorem firstI_all : ∀ (l : List Int), (∀ x ∈ l, x = 0) → firstI l = 0
  | [], _ => rfl
  | x :: l, h => by
    rw [firstI, if_pos (h x (List.mem_cons_self ..))]
    exact firstI_all l fun y hy => h y (List.mem_cons_of_mem _ hy)
theorem allI_of {l : List Ins} (hl : l.length ≤ 4000) (h : ∀ x ∈ l, chkI x = 0) : allI l = 0 := by
  unfold allI
  rw [if_neg (by omega)]
  exact firstI_all _ fun y hy => by
    obtain ⟨x, hx, rfl⟩ := List.mem_map.1 hy
    exact h x hx
theorem enc_len : ∀ (l : List Ins), l.length ≤ (encX l).length
  | [] => Nat.le_refl _
  | x :: l => by
    have := enc_len l
    have h2 := bytX_pos x
    rw [encX_cons, List.length_append, List.length_cons]
    omega
theorem enc_le (l : List Ins) (h : ∀ x ∈ l, chkI x = 0 ∧ x.num < 18446744073709551616) : (encL l).length ≤ 100 * l.length := by
  have e : (encL l).length = lenS (l.map bytesX) := by
    show ((l.map bytesX).flatten).length = _
    rw [lenS_flat]
  rw [e]
  exact lenS_le l fun x hx => (bytesX_len x (h x hx).1 (h x hx).2).1
theorem BS.len {tab : Tab} {h : H} {v : Value} {l : List UInt8} (i : BS tab h v l) : ∃ a c, v = .slice a l.length c := by
  rcases i with ⟨rfl, rfl⟩ | ⟨b, o, c, rfl, _⟩
  · exact ⟨_, _, rfl⟩
  · exact ⟨_, _, rfl⟩
theorem short_le {l : List Ins} (h : shortB l = true) : l.length ≤ 200 ∨ l.length = 4001 := by
  unfold shortB at h
  simp only [Bool.and_eq_true, Bool.not_eq_true', Bool.and_eq_false_iff, decide_eq_false_iff_not] at h
  rcases h.1 with q | q
  · exact .inl (by omega)
  · exact .inr (by omega)
/-! ### StackmachineInverse -/
structure InvX (tab : Tab) : Prop where
  x0 : ∀ l, callExt (EV tab) 3 l = none
  xs : ∀ l, callExt (EV tab) 4 l = none
  xt : ∀ l, callExt (EV tab) 7 l = none
  xd : ∀ l, callExt (EV tab) 10 l = none
  xm : ∀ l, callExt (EV tab) 9 l = none
  xo : ∀ l, callExt (EV tab) 11 l = none
  xb : ∀ l, callExt (EV tab) 12 l = none
  xc : ∀ l, callExt (EV tab) 8 l = none
  en : EnX tab
  de : DecP tab
  aw : ∀ h, callR (EV tab) 5 [] h = some (.bool true, h)
theorem inverse_run (tab : Tab) (hX : InvX tab) (h : H) (hng : tab.ng ≤ h.next) (v w : Value) (l : List Ins) (b : List UInt8) (hv : InS tab h v 40 l) (hw : BS tab h w b) (hnum : ∀ x ∈ l, x.num < 18446744073709551616) :
    ∃ h', callR (EV tab) 3 [v, w] h = some (.bool true, h') := by
  obtain ⟨x0, xs, xt, xd, xm, xo, xb, xc, en, de, aw⟩ := hX
  obtain ⟨h1, e1, k1⟩ := short_run tab xs h hng v l hv
  obtain ⟨aw0, cw0, hwv⟩ := hw.len
  by_cases q1 : shortB l = false
  · rw [q1] at e1
    generalize he : callR _ _ _ _ = r
    rw [enter3 _ _ _ (x0 _) rfl] at he
    simp only [sS, ofArgs, Int.reduceLT, Int.reduceLE, Int.reduceToNat, Int.reduceEq, readD, Nat.reduceLT, Nat.reduceEqDiff, Nat.reduceAdd, ↓reduceIte, binD, binInt, intBin, unD, convD, oLen, denseD, oFunc, oAppend, Nat.reduceMul, Nat.reduceLeDiff, fF3, tTGa, tTGb, sN, sO, loadD, isAggD, storeD, Obj.row, Obj.len, putL, Obj.put, fieldAddrD, indexAddrD, fieldD, indexD, placeOf, fillD, Nat.reduceSub, Nat.reduceLT, Nat.reduceBEq, Nat.reduceMod, Nat.reduceDiv, reduceCtorEq, e1, aw] at he
    subst he
    exact ⟨_, rfl⟩
  have q1 : shortB l = true := by simpa using q1
  rw [q1] at e1
  by_cases q2 : 2000 < b.length
  · have d2 : decide ((2000 : Int) < (b.length : Nat)) = true := decide_eq_true (by omega)
    generalize he : callR _ _ _ _ = r
    rw [enter3 _ _ _ (x0 _) rfl] at he
    subst hwv
    simp only [sS, ofArgs, Int.reduceLT, Int.reduceLE, Int.reduceToNat, Int.reduceEq, readD, Nat.reduceLT, Nat.reduceEqDiff, Nat.reduceAdd, ↓reduceIte, binD, binInt, intBin, unD, convD, oLen, denseD, oFunc, oAppend, Nat.reduceMul, Nat.reduceLeDiff, fF3, tTGa, tTGb, sN, sO, loadD, isAggD, storeD, Obj.row, Obj.len, putL, Obj.put, fieldAddrD, indexAddrD, fieldD, indexD, placeOf, fillD, Nat.reduceSub, Nat.reduceLT, Nat.reduceBEq, Nat.reduceMod, Nat.reduceDiv, reduceCtorEq, e1, aw, iGtr, gt_iff_lt, d2, Bool.not_true] at he
    subst he
    exact ⟨_, rfl⟩
  have d2 : decide ((2000 : Int) < (b.length : Nat)) = false := decide_eq_false (by omega)
  have hll := short_le q1
  obtain ⟨v2, h2, e2, r2, k2⟩ := cv_runT tab xt h1 (Nat.le_trans hng k1.le) v l (hv.kept k1) (by omega)
  have n1 : tab.ng ≤ h1.next := Nat.le_trans hng k1.le
  have n2 : tab.ng ≤ h2.next := Nat.le_trans n1 k2.le
  obtain ⟨v3, h3, e3, r3, k3⟩ := encode_run tab en h2 n2 v2 l (r2.ins n1) (by omega) hnum
  have n3 : tab.ng ≤ h3.next := Nat.le_trans n2 k3.le
  have k03 : Kept h h3 := (k1.trans k2).trans k3
  -- the second half, from any heap that keeps what was there
  have second : ∀ hX, Kept h hX → ∃ v5 h5 v6 h6, callR (EV tab) 11 [w] hX = some (v5, h5) ∧ callR (EV tab) 8 [v5] h5 = some (.tuple ⟨[v6, .int .i64 ((decL b).2.1 : Nat), .int .i64 (decL b).2.2]⟩, h6) ∧
      ((decL b).2.2 = 0 → ∃ v7 h7, callR (EV tab) 6 [v6] h6 = some (.tuple ⟨[v7, .int .i64 0]⟩, h7) ∧ callR (EV tab) 12 [v7, w] h7 = some (.bool true, h7)) := fun hX kX => by
    have nX : tab.ng ≤ hX.next := Nat.le_trans hng kX.le
    obtain ⟨v5, h5, e5, r5, k5⟩ := own_run tab xo hX nX w b (hw.kept kX) (by omega)
    have n5 : tab.ng ≤ h5.next := Nat.le_trans nX k5.le
    obtain ⟨v6, h6, e6, r6, k6⟩ := Decode_run tab xc de h5 n5 v5 b (r5.bt rfl nX) (by omega)
    have n6 : tab.ng ≤ h6.next := Nat.le_trans n5 k6.le
    refine ⟨v5, h5, v6, h6, e5, e6, fun hz => ?_⟩
    have hdec : decF chkI b.length b 0 [] = ((decL b).1, (decL b).2.1, 0) := by
      have : decL b = decF chkI b.length b 0 [] := by unfold decL; rw [if_neg (by omega)]
      rw [← this]
      exact Prod.ext rfl (Prod.ext rfl hz)
    obtain ⟨c1, c2, c3⟩ := decF_inv b.length b 0 [] (decL b).1 (decL b).2.1 (Nat.zero_le _) rfl (fun x hx => by cases hx) (by omega) hdec
    have c4 := enc_len (decL b).1
    rw [← c1] at c4
    have c5 : allI (decL b).1 = 0 := allI_of (by omega) fun x hx => (c3 x hx).1
    obtain ⟨v7, h7, e7, r7, k7⟩ := encode_run tab en h6 n6 v6 (decL b).1 (r6.ins n5) (by omega) fun x hx => (c3 x hx).2
    rw [c5] at e7
    rw [if_pos c5, show encL (decL b).1 = b from c1.symm] at r7
    have e8 := same_run tab xb h7 v7 w b b (r7.bs rfl n6) (hw.kept ((kX.trans k5).trans (k6.trans k7)))
    exact ⟨v7, h7, e7, by rw [e8, beq_self_eq_true]⟩
  by_cases q3 : allI l = 0
  · obtain ⟨hl4, hz⟩ := allI_zero q3
    have hl2 : l.length ≤ 200 := by omega
    have hok : ∀ x ∈ l, chkI x = 0 ∧ x.num < 2 ^ 64 := fun x hx => ⟨hz x hx, hnum x hx⟩
    have hel := enc_le l hok
    rw [if_pos q3] at r3
    obtain ⟨a3, c3, hv3⟩ := (r3.bs (tab := tab) rfl n2).len
    obtain ⟨v4, h4, e4, r4, k4⟩ := Decode_run tab xc de h3 n3 v3 (encL l) (r3.bt rfl n2) (by omega)
    have hdl : decL (encL l) = (l, 0, 0) := by
      unfold decL
      rw [if_neg (by omega)]
      have c4 := enc_len l
      have := decF_enc chk_sound (encL l).length l (encL l) 0 [] hok (Nat.zero_le _) rfl c4
      rw [this, List.nil_append]
    rw [hdl] at e4 r4
    have n4 : tab.ng ≤ h4.next := Nat.le_trans n3 k4.le
    obtain ⟨v5, h5, e5, r5, k5⟩ := cv_runD tab xd h4 n4 v4 l (r4.ins n3) (by omega)
    have k05 : Kept h h5 := (k03.trans k4).trans k5
    have e6 := sameI_run tab xm h5 v5 v l l (r5.ins n4) (hv.kept k05) (by omega)
    rw [sameB_t rfl] at e6
    have z1 : ((allI l : Int) == 0) = true := by rw [q3]; rfl
    have d3 : decide (((encL l).length : Int) ≤ 65536) = true := decide_eq_true (by omega)
    have z0 : ((0 : Int) != 0) = false := rfl
    have zn : (((0 : Nat) : Int) != 0) = false := rfl
    obtain ⟨w5, g5, w6, g6, s1, s2, s3⟩ := second h5 k05
    subst hv3
    rw [q3] at e3
    have zt : ((0 : Int) == 0) = true := rfl
    by_cases q4 : (decL b).2.2 = 0
    · obtain ⟨w7, g7, s4, s5⟩ := s3 q4
      rw [q4] at s2
      generalize he : callR _ _ _ _ = r
      rw [enter3 _ _ _ (x0 _) rfl] at he
      subst hwv
      simp only [sS, ofArgs, Int.reduceLT, Int.reduceLE, Int.reduceToNat, Int.reduceEq, readD, Nat.reduceLT, Nat.reduceEqDiff, Nat.reduceAdd, ↓reduceIte, binD, binInt, intBin, unD, convD, oLen, denseD, oFunc, oAppend, Nat.reduceMul, Nat.reduceLeDiff, fF3, tTGa, tTGb, sN, sO, loadD, isAggD, storeD, Obj.row, Obj.len, putL, Obj.put, fieldAddrD, indexAddrD, fieldD, indexD, placeOf, fillD, Nat.reduceSub, Nat.reduceLT, Nat.reduceBEq, Nat.reduceMod, Nat.reduceDiv, reduceCtorEq, e1, aw, iGtr, iLeq, iEql, iNeq, gt_iff_lt, d2, d3, z0, zn, zt, e2, e3, e4, e5, e6, s1, s2, s4, s5, Bool.not_true] at he
      subst he
      exact ⟨_, rfl⟩
    · have z4 : ((decL b).2.2 == 0) = false := by rw [beq_eq_false_iff_ne]; exact q4
      generalize he : callR _ _ _ _ = r
      rw [enter3 _ _ _ (x0 _) rfl] at he
      subst hwv
      simp only [sS, ofArgs, Int.reduceLT, Int.reduceLE, Int.reduceToNat, Int.reduceEq, readD, Nat.reduceLT, Nat.reduceEqDiff, Nat.reduceAdd, ↓reduceIte, binD, binInt, intBin, unD, convD, oLen, denseD, oFunc, oAppend, Nat.reduceMul, Nat.reduceLeDiff, fF3, tTGa, tTGb, sN, sO, loadD, isAggD, storeD, Obj.row, Obj.len, putL, Obj.put, fieldAddrD, indexAddrD, fieldD, indexD, placeOf, fillD, Nat.reduceSub, Nat.reduceLT, Nat.reduceBEq, Nat.reduceMod, Nat.reduceDiv, reduceCtorEq, e1, aw, iGtr, iLeq, iEql, iNeq, gt_iff_lt, d2, d3, z0, zn, zt, z4, e2, e3, e4, e5, e6, s1, s2, Bool.not_true] at he
      subst he
      exact ⟨_, rfl⟩
  · have z1 : ((allI l : Int) == 0) = false := by rw [beq_eq_false_iff_ne]; exact q3
    obtain ⟨w5, g5, w6, g6, s1, s2, s3⟩ := second h3 k03
    have z0 : ((0 : Int) != 0) = false := rfl
    have zt : ((0 : Int) == 0) = true := rfl
    by_cases q4 : (decL b).2.2 = 0
    · obtain ⟨w7, g7, s4, s5⟩ := s3 q4
      rw [q4] at s2
      generalize he : callR _ _ _ _ = r
      rw [enter3 _ _ _ (x0 _) rfl] at he
      subst hwv
      simp only [sS, ofArgs, Int.reduceLT, Int.reduceLE, Int.reduceToNat, Int.reduceEq, readD, Nat.reduceLT, Nat.reduceEqDiff, Nat.reduceAdd, ↓reduceIte, binD, binInt, intBin, unD, convD, oLen, denseD, oFunc, oAppend, Nat.reduceMul, Nat.reduceLeDiff, fF3, tTGa, tTGb, sN, sO, loadD, isAggD, storeD, Obj.row, Obj.len, putL, Obj.put, fieldAddrD, indexAddrD, fieldD, indexD, placeOf, fillD, Nat.reduceSub, Nat.reduceLT, Nat.reduceBEq, Nat.reduceMod, Nat.reduceDiv, reduceCtorEq, e1, aw, iGtr, iLeq, iEql, iNeq, gt_iff_lt, d2, z0, zt, z1, e2, e3, s1, s2, s4, s5, Bool.not_true] at he
      subst he
      exact ⟨_, rfl⟩
    · have z4 : ((decL b).2.2 == 0) = false := by rw [beq_eq_false_iff_ne]; exact q4
      generalize he : callR _ _ _ _ = r
      rw [enter3 _ _ _ (x0 _) rfl] at he
      subst hwv
      simp only [sS, ofArgs, Int.reduceLT, Int.reduceLE, Int.reduceToNat, Int.reduceEq, readD, Nat.reduceLT, Nat.reduceEqDiff, Nat.reduceAdd, ↓reduceIte, binD, binInt, intBin, unD, convD, oLen, denseD, oFunc, oAppend, Nat.reduceMul, Nat.reduceLeDiff, fF3, tTGa, tTGb, sN, sO, loadD, isAggD, storeD, Obj.row, Obj.len, putL, Obj.put, fieldAddrD, indexAddrD, fieldD, indexD, placeOf, fillD, Nat.reduceSub, Nat.reduceLT, Nat.reduceBEq, Nat.reduceMod, Nat.reduceDiv, reduceCtorEq, e1, aw, iGtr, iLeq, iEql, iNeq, gt_iff_lt, d2, z1, z4, e2, e3, s1, s2, Bool.not_true] at he
      subst he
      exact ⟨_, rfl⟩
end Go.D
