/- The functions of the law, one after the other: what a run of D answers. -/
import Derived.Test.YtmjdhbenplpinaaGreatDoorWq
import Derived.Test.YtmjdhbenplpinaaGreatDoorFull
import Derived.Test.YtmjdhbenplpinaaGreatDoorW0
import Derived.Laws.RangeString
import Derived.Laws.RangeAny
import Derived.Laws.StructEq
namespace Go.D
open Go.Proofs
set_option maxRecDepth 100000
set_option linter.unusedVariables false
set_option linter.unusedSimpArgs false
structure InX (tab : Tab) : Prop where
 x0 : ∀ l, callExt (EV tab) 3 l = none
 xs : ∀ l, callExt (EV tab) 4 l = none
 xt : ∀ l, callExt (EV tab) 9 l = none
 pr : PrX tab
 ln : LnX tab
 nm : ∀ (op : Int) (h : H), callR (EV tab) 6 [.int .i64 op] h = some (.tuple ⟨[.string ⟨⟨(nameI op).1⟩⟩, .int .i64 (nameI op).2]⟩, h)
 nm2 : ∀ (op : Int) (h : H), callR (EV tab) 7 [.int .i64 op] h = some (.tuple ⟨[.string ⟨⟨(nameI op).1⟩⟩, .int .i64 (nameI op).2]⟩, h)
 sz : ∀ (op : Int) (t u : List UInt8) (num : Nat) (imm size : Int) (h : H), num < 18446744073709551616 → callR (EV tab) 11 [.agg ⟨insL op t u num imm size⟩] h = some (.tuple ⟨[.int .i64 (sizeI op t u num imm size).1, .int .i64 (sizeI op t u num imm size).2]⟩, h)
 sz2 : ∀ (op : Int) (t u : List UInt8) (num : Nat) (imm size : Int) (h : H), num < 18446744073709551616 → callR (EV tab) 12 [.agg ⟨insL op t u num imm size⟩] h = some (.tuple ⟨[.int .i64 (sizeI op t u num imm size).1, .int .i64 (sizeI op t u num imm size).2]⟩, h)
 ef : ∀ (op : Int) (t u : List UInt8) (num : Nat) (imm size : Int) (h : H), num < 18446744073709551616 → callR (EV tab) 13 [.agg ⟨insL op t u num imm size⟩] h = some (.tuple ⟨[.int .i64 (effectI op t u num imm size).1, .int .i64 (effectI op t u num imm size).2.1, .int .i64 (effectI op t u num imm size).2.2]⟩, h)
 ef2 : ∀ (op : Int) (t u : List UInt8) (num : Nat) (imm size : Int) (h : H), num < 18446744073709551616 → callR (EV tab) 14 [.agg ⟨insL op t u num imm size⟩] h = some (.tuple ⟨[.int .i64 (effectI op t u num imm size).1, .int .i64 (effectI op t u num imm size).2.1, .int .i64 (effectI op t u num imm size).2.2]⟩, h)
 aw : ∀ h, callR (EV tab) 5 [] h = some (.bool true, h)
def InC (tab : Tab) (h : H) (v : Value) (l : List Ins) : Prop := (v = .slice none 0 0 ∧ l = []) ∨ ∃ b o c, v = .slice (some ⟨b, o, none⟩) l.length c ∧ Mem tab h b o (cellsI l) ∧ b < tab.ng ∧ c ≠ 0 ∧ l.length ≤ c / 2
theorem InC.ins {tab : Tab} {h : H} {v : Value} {l : List Ins} (i : InC tab h v l) (e : Nat) : InS tab h v e l := by
 rcases i with i | ⟨b, o, c, i1, i2, _⟩
 ·exact .inl i
 ·exact .inr ⟨b, o, c, i1, i2⟩
theorem cut_ins (tab : Tab) {h : H} {b o n c m : Nat} (hb : b < tab.ng) (hc : c ≠ 0) (hm : m ≤ n) (hn : n ≤ c / 2) :
  sliceD (EV tab) h 22 (.slice (some ⟨b, o, none⟩) n c) none (some (.int .i64 (m : Nat))) none = some (.slice (some ⟨b, o, none⟩) m (2 * (c / 2) + 1)) := by
 have h1 : (0 : Int) ≤ (m : Nat) ∧ ((m : Nat) : Int) ≤ ((c / 2 : Nat) : Int) := by omega
 simp only [sliceD, ti22, sliceOf, ng_eq, if_pos hb, if_neg hc, ti36, sliceRow, boundO, boundD, if_pos h1, Int.toNat_natCast, Option.isNone_some, Option.isSome_none, Bool.false_and, Bool.false_eq_true, if_false, Nat.zero_mul, Nat.add_zero, ite_self, Nat.sub_zero, hc, decide_false]
theorem op_min {E : Env} {cl yl : CallD} {h : H} {tm : Tr Value} {xs : Array Operand} {ts : Array TypeId} : opD E cl yl h tm (.call ⟨.builtin .min, xs, ts⟩) = same h (oMin E tm false xs) := rfl
theorem sNeq_self (a : List UInt8) : sNeq ⟨⟨a⟩⟩ ⟨⟨a⟩⟩ = some (.bool false) := by
 unfold sNeq
 rw [bs_beq, beq_self_eq_true]
 rfl
noncomputable def inLoop : Code := .loop (.seq (Rg 3 10) (.seq (.cond (Operand.tmp 75) .skip (Code.exit 0)) (.seq (.block 1 (.seq (Rg 3 11) (.seq (Rg 3 12) (.seq (Rg 3 13) (.seq (Rg 3 14) (.seq (Rg 3 15) (.seq (Rg 3 16) (.cond (Operand.tmp 129) (.seq (Rg 3 17) .ret) .skip)))))))) (Rg 3 18))))
theorem in_loop (tab : Tab) (hX : InX tab) {h0 : H} (hng : tab.ng ≤ h0.next) {b o c n : Nat} (l : List Ins) (hm : Mem tab h0 b o (cellsI l)) (hn : n ≤ l.length) (hn2 : n ≤ 200) (hnum : ∀ x ∈ l, x.num < 18446744073709551616) :
  ∀ (k i : Nat) (tm : Tr Value) (h : H), i + k = n → tm.get 72 = some (.slice (some ⟨b, o, none⟩) n c) → tm.get 73 = some (.int .i64 n) → tm.get 74 = some (.int .i64 i) → Kept h0 h →
  ∃ tm' h', exR (EV tab) inLoop ⟨false, 132, tm, h⟩ = some (.exit 0, ⟨false, 132, tm', h'⟩) := by
 intro k
 induction k with
 | zero =>
  intro i tm h hk t72 t73 t74 hkp
  have hlt : ¬ i < n := by omega
  generalize he : exR (EV tab) inLoop ⟨false, 132, tm, h⟩ = r
  rw [inLoop, exR_loop] at he
  simp only [sS, sevalprocAttr, r3_10, tT, t73, t74, iLss, Int.ofNat_lt, hlt, decide_false] at he
  subst he
  exact ⟨_, _, rfl⟩
 | succ k ih =>
  intro i tm h hk t72 t73 t74 hkp
  have hlt : i < n := by omega
  have hli : i < l.length := by omega
  have hsub := (hm.kept hkp).ins i hli
  have hnx := hnum l[i] (List.getElem_mem hli)
  generalize l[i] = x at hsub hnx
  obtain ⟨op, t, u, num, imm, size⟩ := x
  simp only at hnx
  have hnb : ¬ h.next = b := by have := (hm.kept hkp).lt (Nat.le_trans hng hkp.le); omega
  have hhn : ¬ h.next < tab.ng := by have := hkp.le; omega
  have e1 := fun hh => hX.sz op t u num imm size hh hnx
  have e2 := fun hh => hX.sz2 op t u num imm size hh hnx
  have e3 := fun hh => hX.ef op t u num imm size hh hnx
  have e4 := fun hh => hX.ef2 op t u num imm size hh hnx
  have e5 := fun hh => hX.pr.ck op t u (num : Nat) imm size hh (by omega)
  have e6 := fun hh => hX.ln.ck op t u (num : Nat) imm size hh (by omega)
  simp only [insC, insL] at hsub e1 e2 e3 e4
  simp only [insV, insL] at e5 e6
  have hs2 : ∀ a b c d e f : Value, Obj.sub (.cells 36 6 [a, b, c, d, e, f]) 0 6 = some [a, b, c, d, e, f] := fun _ _ _ _ _ _ => rfl
  obtain ⟨tm1, h1, y, a72, a73, a74, k1⟩ : ∃ tm1 h1, exR (EV tab) inLoop ⟨false, 132, tm, h⟩ = exR (EV tab) inLoop ⟨false, 132, tm1, h1⟩ ∧ tm1.get 72 = some (.slice (some ⟨b, o, none⟩) n c) ∧ tm1.get 73 = some (.int .i64 n) ∧ tm1.get 74 = some (.int .i64 ((i + 1 : Nat) : Int)) ∧ Kept h0 h1 := by
   generalize he : exR (EV tab) inLoop ⟨false, 132, tm, h⟩ = r
   rw [inLoop, exR_loop] at he
   simp only [sS, sevalprocAttr, r3_10, r3_11, r3_12, r3_13, r3_14, r3_15, r3_16, r3_18, tT, sN, sO, ng_eq, tabL_ng, t72, t73, t74, iLss, iNeq, Int.ofNat_lt, hlt, decide_true, Int.natCast_nonneg, and_self, Int.toNat_natCast, hnb, hhn, hsub, hs2, e1, e2, e3, e4, e5, e6, bne_self_eq_false, op_nil, add1 i (by omega)] at he
   subst he
   refine ⟨_, _, rfl, ?_, ?_, ?_, (hkp.push _).put _ hkp.le⟩ <;> simp only [Tr.get_set, Nat.reduceEqDiff, ↓reduceIte, t72, t73]
  obtain ⟨tm', h', z⟩ := ih (i + 1) tm1 h1 (by omega) a72 a73 a74 k1
  exact ⟨tm', h', by rw [y]; exact z⟩
theorem instrs_run (tab : Tab) (hX : InX tab) (h : H) (hng : tab.ng ≤ h.next) (v : Value) (l : List Ins) (n : Int) (hv : InC tab h v l) (hnum : ∀ x ∈ l, x.num < 18446744073709551616) :
  ∃ h', callR (EV tab) 3 [v, .int .i64 n] h = some (.bool true, h') := by
 obtain ⟨h1, e1, k1⟩ := short_run tab hX.xs h hng v l (hv.ins _)
 by_cases q1 : shortB l = false
 ·rw [q1] at e1
  have aw := hX.aw
  generalize he : callR _ _ _ _ = r
  rw [enter3 _ _ _ (hX.x0 _) rfl] at he
  simp only [sS, sevalprocAttr, fF3, tT, e1, aw, Bool.not_false] at he
  subst he
  exact ⟨_, rfl⟩
 have q1 : shortB l = true := by simpa using q1
 rw [q1] at e1
 have hll := short_le q1
 have hty : ∀ x ∈ l, x.t.length ≤ 101 ∧ x.u.length ≤ 101 := fun x hx => by
  unfold shortB at q1
  simp only [Bool.and_eq_true] at q1
  have := List.all_eq_true.1 q1.2 x hx
  simp only [okS, Bool.and_eq_true, decide_eq_true_eq] at this
  omega
 have n1 : tab.ng ≤ h1.next := Nat.le_trans hng k1.le
 obtain ⟨v2, h2, e2, r2, k2⟩ := cv_runT tab hX.xt h1 n1 v l ((hv.ins _).kept k1) (by omega)
 have n2 : tab.ng ≤ h2.next := Nat.le_trans n1 k2.le
 obtain ⟨h3, e3, k3⟩ := print_run tab hX.pr h2 n2 v2 l (r2.ins n1) hll hnum hty
 have n3 : tab.ng ≤ h3.next := Nat.le_trans n2 k3.le
 have k03 : Kept h h3 := (k1.trans k2).trans k3
 obtain ⟨h4, e4, k4⟩ := print26_run tab hX.ln h3 n3 v l ((hv.ins _).kept k03) hll hnum hty
 have n4 : tab.ng ≤ h4.next := Nat.le_trans n3 k4.le
 have k04 : Kept h h4 := k03.trans k4
 have nm := hX.nm n
 have nm2 := hX.nm2 n
 have aw := hX.aw
 rcases hv with ⟨rfl, rfl⟩ | ⟨b, o, c, rfl, hm, hb, hc, hlc⟩
 ·have esl : sliceD (EV tab) h4 22 (.slice none 0 0) none (some (.int .i64 0)) none = some (.slice none 0 0) := rfl
  generalize he : callR _ _ _ _ = r
  rw [enter3 _ _ _ (hX.x0 _) rfl] at he
  simp only [sS, sevalprocAttr, fF3, tT, sN, sO, exR_loop, ng_eq, tabL_ng, e1, e2, e3, e4, nm, nm2, aw, Bool.not_true, binStr, strBin, sNeq_self, iNeq, iLss, bne_self_eq_false, lenD, lenOfD, op_min, oMin, minD, oSlice, optO, esl, Int.cast_ofNat_Int, Int.reduceLT, decide_false, Int.lt_irrefl] at he
  subst he
  exact ⟨_, rfl⟩
 ·obtain ⟨m, hm1, hm2, hm3⟩ : ∃ m : Nat, m ≤ l.length ∧ m ≤ 200 ∧ (if (200 : Int) < (l.length : Nat) then (200 : Int) else (l.length : Nat)) = (m : Nat) := by
   by_cases q : 200 < l.length
   ·exact ⟨200, by omega, by omega, by rw [if_pos (by omega)]; rfl⟩
   ·exact ⟨l.length, by omega, by omega, by rw [if_neg (by omega)]⟩
  have esl := cut_ins tab (h := h4) (b := b) (o := o) (n := l.length) (c := c) (m := m) hb hc hm1 hlc
  have key : ∀ tm hh, (hh = h4 ∧ tm.get 72 = some (.slice (some ⟨b, o, none⟩) m (2 * (c / 2) + 1)) ∧ tm.get 73 = some (.int .i64 m) ∧ tm.get 74 = some (.int .i64 0)) →
    ∃ x s', exR (EV tab) inLoop ⟨false, 132, tm, hh⟩ = some (x, s') ∧ (x = .exit 0 ∧ ∃ tm' h', s' = ⟨false, 132, tm', h'⟩) := fun tm hh p => by
   obtain ⟨rfl, p1, p2, p3⟩ := p
   obtain ⟨tm', h', y⟩ := in_loop tab hX n4 l (hm.kept k04) hm1 hm2 hnum m 0 tm hh (by omega) p1 p2 p3 (Kept.refl _)
   exact ⟨_, _, y, rfl, tm', h', rfl⟩
  generalize he : callR _ _ _ _ = r
  rw [enter3 _ _ _ (hX.x0 _) rfl] at he
  simp only [sS, sevalprocAttr, r3_0, r3_1, r3_3, r3_4, r3_5, r3_6, r3_7, r3_9, tT, sN, sO, ng_eq, tabL_ng, e1, e2, e3, e4, nm, nm2, Bool.not_true, binStr, strBin, sNeq_self, iNeq, bne_self_eq_false, lenD, lenOfD, op_min, oMin, minD, hm3, oSlice, optO, esl] at he
  obtain ⟨x1, s1, ⟨rfl, tm', h', rfl⟩, he⟩ := use_run key (fun o => finish (EV tab) [ResultVar.tmp 4] (andThen (unblock 0 o) (exR (EV tab) (.seq (Rg 3 19) .ret)))) he (by
   refine ⟨rfl, ?_, ?_, ?_⟩ <;> simp only [Tr.get_set, Nat.reduceEqDiff, ↓reduceIte])
  simp only [sS, sevalprocAttr, r3_19, tT, aw] at he
  subst he
  exact ⟨_, rfl⟩
end Go.D
