/- The functions of the law, one after the other: what a run of D answers. -/
import Derived.Test.YtmjdhbenplpinaaGreatDoorWf
import Derived.Test.YtmjdhbenplpinaaGreatDoorFull
import Derived.Test.YtmjdhbenplpinaaGreatDoorW0
import Derived.Laws.RangeString
import Derived.Laws.RangeAny
import Derived.Laws.StructEq
import Derived.Lib.ItoaMem
namespace Go.D
open Go.Proofs
set_option maxRecDepth 100000
set_option linter.unusedVariables false
set_option linter.unusedSimpArgs false
theorem s_app (a b : List UInt8) (h : a.length + b.length ≤ 1000000000) : sAdd ⟨⟨a⟩⟩ ⟨⟨b⟩⟩ = some (.string ⟨⟨a ++ b⟩⟩) := by
 unfold sAdd
 have hs : Nat.ble ((ByteArray.mk ⟨a⟩).size + (ByteArray.mk ⟨b⟩).size) 1000000000 = true := by rw [Nat.ble_eq]; exact h
 have e : (ByteArray.mk ⟨a⟩ ++ ByteArray.mk ⟨b⟩) = ByteArray.mk ⟨a ++ b⟩ := by
  apply ByteArray.ext
  rw [ByteArray.data_append]
  simp
 rw [if_pos hs, e]
def Bld (h0 h : H) (p : Nat) (l : List UInt8) : Prop :=
 ∃ a v, h.get p = some (.cells 82 2 [a, v]) ∧ (a = .pointer none ∨ a = .pointer (some ⟨p, 0, none⟩)) ∧ Row h0 h 5 1 v l.length (bs l) ∧ (l = [] → v = .slice none 0 0)
def Left (p : Nat) (h h' : H) : Prop := h.next ≤ h'.next ∧ ∀ c o, c < h.next → c ≠ p → h.get c = some o → o.row ≠ some (5, 1) → h'.get c = some o
theorem Bld.push {h0 h : H} {p : Nat} {l : List UInt8} (b : Bld h0 h p l) (hp : p < h.next) (o : Obj) : Bld h0 (h.push o) p l := by
 obtain ⟨a, v, hg, ha, hr, hn⟩ := b
 exact ⟨a, v, by rw [H.get_push_lt _ _ hp]; exact hg, ha, hr.kept ((Kept.refl h).push o), hn⟩
theorem Bld.put {h0 h : H} {p : Nat} {l : List UInt8} (b : Bld h0 h p l) {c : Nat} {o : Obj} (hc : c ≠ p) (hg : h.get c = some o) (ho : o.row ≠ some (5, 1)) (o' : Obj) : Bld h0 (h.put c o') p l := by
 obtain ⟨a, v, hg1, ha, hr, hn⟩ := b
 refine ⟨a, v, by rw [H.get_put, if_neg hc]; exact hg1, ha, ?_, hn⟩
 rcases hr with r | ⟨b, r1, r2, r3, r4, r5⟩
 ·exact .inl r
 ·refine .inr ⟨b, r1, r2, r3, ?_, r5⟩
  rw [H.get_put, if_neg]
  ·exact r4
  ·intro e
   rw [← e, hg] at r4
   cases r4
   exact ho rfl
theorem callR_chk {E : Env} {f : Nat} (hc : E.chk f = true) (p : Value) (h : H) : callR E f [p] h = checkD E h p := by
 unfold callR callD
 rw [if_pos hc]
theorem chk_run (tab : Tab) {h : H} {p : Nat} {a v : Value} (hp : tab.ng ≤ p) (hg : h.get p = some (.cells 82 2 [a, v])) (ha : a = .pointer none ∨ a = .pointer (some ⟨p, 0, none⟩)) :
  ∃ h1, callR (EV tab) 49 [.pointer (some ⟨p, 0, none⟩)] h = some (undef, h1) ∧ h1.next = h.next ∧ h1.get p = some (.cells 82 2 [.pointer (some ⟨p, 0, none⟩), v]) ∧ ∀ c, c ≠ p → h1.get c = h.get c := by
 rw [callR_chk (E := EV tab) rfl]
 have hn : ¬ p < (EV tab).ng := by rw [ng_eq]; omega
 rcases ha with rfl | rfl
 ·refine ⟨h.put p (.cells 82 2 [.pointer (some ⟨p, 0, none⟩), v]), ?_, rfl, by rw [H.get_put, if_pos rfl], fun c hc => by rw [H.get_put, if_neg (fun e => hc e.symm)]⟩
  unfold checkD
  simp only [if_neg hn, hg]
  rfl
 ·refine ⟨h, ?_, rfl, hg, fun _ _ => rfl⟩
  unfold checkD
  simp only [if_neg hn, hg]
  show (if p = p then some (undef, h) else none) = _
  rw [if_pos rfl]
theorem new_str (tab : Tab) (h : H) (s : List UInt8) (z : List Value) : newD (EV tab) h z 1 false (.string ⟨⟨s⟩⟩) = some (bs s, s.length) := by
 unfold newD
 rw [if_neg (by decide)]
 have : srcD (EV tab) h 1 s.length (.string ⟨⟨s⟩⟩) = some (bs s) := by
  show (if 1 = 1 then some ((s.take s.length).map fun b => Value.int .u8 b.toNat) else none) = _
  rw [if_pos rfl, List.take_length]
  rfl
 show (match (srcD (EV tab) h 1 s.length (.string ⟨⟨s⟩⟩)) with | none => none | some l => some (l, s.length)) = _
 rw [this]
theorem write_run (tab : Tab) (x0 : ∀ l, callExt (EV tab) 26 l = none) {h0 h : H} (hng : tab.ng ≤ h0.next) {p : Nat} (hp : h0.next ≤ p) (hpl : p < h.next) {l : List UInt8} (b : Bld h0 h p l) (hk : Kept h0 h)
  (s : List UInt8) (hs : s ≠ []) (hl : l.length ≤ 900000) (hsl : s.length ≤ 100000) :
  ∃ v h', callR (EV tab) 26 [.pointer (some ⟨p, 0, none⟩), .string ⟨⟨s⟩⟩] h = some (v, h') ∧ Bld h0 h' p (l ++ s) ∧ Kept h0 h' ∧ Left p h h' := by
 obtain ⟨a, v, hg, ha, hr, hn⟩ := b
 obtain ⟨h1, e1, n1, g1, k1⟩ := chk_run tab (by omega) hg ha
 have hk1 : Kept h0 h1 := ⟨by rw [n1]; exact hk.le, fun c hc => by rw [k1 c (by omega)]; exact hk.get c hc⟩
 have hr1 : Row h0 h1 5 1 v l.length (bs l) := by
  rcases hr with r | ⟨b, r1, r2, r3, r4, r5⟩
  ·exact .inl r
  ·refine .inr ⟨b, r1, r2, by rw [n1]; exact r3, ?_, r5⟩
   rw [k1 b ?_]
   ·exact r4
   ·intro e
    rw [e, hg] at r4
    cases r4
 obtain ⟨v', h2, e2, r2, k2, m2, f2⟩ := append_row2 (E := EV tab) (t := 49) (ti49 tab) rfl (ti5 tab) rfl (by rw [bt_eq]; show (5 : Nat) ≠ 82; decide) hng hr1 hk1 (x := .string ⟨⟨s⟩⟩) (new_str tab h1 s _) (bs_one _) (by omega) (by omega) (by rw [bs_length, Nat.mul_one])
 have hrow : ∀ q, v = .slice (some ⟨q, 0, none⟩) l.length 0 → h1.get q = some (.cells 5 1 (bs l)) := by
  intro q hq
  rcases hr1 with ⟨r1, _, _⟩ | ⟨b', r1, _, _, r4, _⟩
  ·rw [r1] at hq; cases hq
  ·rw [r1] at hq; cases hq; exact r4
 have gp2 : h2.get p = some (.cells 82 2 [.pointer (some ⟨p, 0, none⟩), v]) := by
  rw [f2 p (by omega) ?_]
  ·exact g1
  ·intro q hq e
   have := hrow q hq
   rw [← e, g1] at this
   cases this
 have hnp : ¬ p < tab.ng := by omega
 have hvc : v'.cells.toList = [v'] ∧ isOne v' = true := by rcases r2 with ⟨e, _, _⟩ | ⟨b, e, _⟩ <;> subst e <;> exact ⟨rfl, rfl⟩
 generalize he : callR _ _ _ _ = x
 rw [enter26 _ _ _ (x0 _) rfl] at he
 simp only [sS, sevalprocAttr, fF26, tT, sN, sM, ng_eq, tabL_ng, e1, g1, gp2, hnp, e2, op_nil, hvc.1, hvc.2] at he
 subst he
 refine ⟨_, _, rfl, ⟨_, v', by rw [H.get_put, if_pos rfl], .inr rfl, ?_, fun e => absurd (List.append_eq_nil_iff.1 e).2 hs⟩, k2.put _ hp, by rw [H.next_put]; omega, fun c o hc hcp hco hro => ?_⟩
 ·rw [List.length_append, bs_append]
  rcases r2 with r | ⟨b, q1, q2, q3, q4, q5⟩
  ·exact .inl r
  ·refine .inr ⟨b, q1, q2, q3, ?_, q5⟩
   rw [H.get_put, if_neg]
   ·exact q4
   ·intro e
    rw [← e, gp2] at q4
    cases q4
 ·rw [H.get_put, if_neg (fun e => hcp e.symm), f2 c (by omega), k1 c hcp]
  ·exact hco
  ·intro q hq e
   have := hrow q hq
   rw [← e, k1 c hcp, hco] at this
   cases this
   exact hro rfl
theorem op_data {E : Env} {cl yl : CallD} {h : H} {tm : Tr Value} {xs : Array Operand} {ts : Array TypeId} : opD E cl yl h tm (.call ⟨.builtin .unsafeSliceData, xs, ts⟩) = same h (oData E tm xs) := rfl
theorem str_run (tab : Tab) (x0 : ∀ l, callExt (EV tab) 28 l = none) {h0 h : H} (hng : tab.ng ≤ h0.next) {p : Nat} (hp : h0.next ≤ p) {l : List UInt8} (b : Bld h0 h p l) (hk : Kept h0 h) (hl : l.length ≤ 1000000) :
  ∃ h', callR (EV tab) 28 [.pointer (some ⟨p, 0, none⟩)] h = some (.string ⟨⟨l⟩⟩, h') ∧ Kept h0 h' := by
 obtain ⟨a, v, hg, ha, hr, hn⟩ := b
 have hnp : ¬ p < tab.ng := by omega
 by_cases q : l = []
 ·subst q
  obtain rfl := hn rfl
  have e : textD (EV tab) h 124 (.pointer none) 0 = some (.string ⟨#[]⟩, h) := rfl
  generalize he : callR _ _ _ _ = x
  rw [enter28 _ _ _ (x0 _) rfl] at he
  simp only [sS, sevalprocAttr, fF28, tT, sN, sM, ng_eq, tabL_ng, hg, hnp, op_nil, op_data, oData, op_text, oText, e, readCall_len, lenD, lenOfD] at he
  subst he
  exact ⟨_, rfl, hk⟩
 ·have hpos : 0 < l.length := List.length_pos_iff.2 q
  rcases hr with ⟨_, r, _⟩ | ⟨b, rfl, r2, r3, r4, r5⟩
  ·omega
  ·have hs : Obj.sub (.cells 5 1 (bs l)) 0 l.length = some (bs l) := by
    have := sub_all 5 1 (bs l)
    rwa [bs_length] at this
   have e : textD (EV tab) h 124 (.pointer (some ⟨b, 0, none⟩)) (l.length : Nat) = some (.string ⟨⟨l⟩⟩, h.kill b) := by
    simp only [textD]
    rw [if_neg (by omega), if_neg (by rw [ng_eq]; omega)]
    simp only [ti124, ti5, r4, Int.toNat_natCast, hs, byteList_bs]
    rfl
   have hl0 : ¬ l.length = 0 := by omega
   generalize he : callR _ _ _ _ = x
   rw [enter28 _ _ _ (x0 _) rfl] at he
   simp only [sS, sevalprocAttr, fF28, tT, sN, sM, ng_eq, tabL_ng, hg, hnp, op_nil, op_data, oData, op_text, oText, e, readCall_len, lenD, lenOfD, hl0] at he
   subst he
   exact ⟨_, rfl, hk.kill r2⟩
noncomputable abbrev prObj (tm : Tr Value) (st : Nat) : Obj := .loop 40 tm [33] (Rg 8 11) (.block 3 (Rg 8 12)) st none
theorem round_run (tab : Tab) (x0 : ∀ l, callExt (EV tab) 26 l = none) {h0 h : H} (hng : tab.ng ≤ h0.next) {p L : Nat} (hp : h0.next ≤ p) (hpl : p < h.next) (hL : h0.next ≤ L) (hLl : L < h.next) (hpL : L ≠ p)
  (tm : Tr Value) (t5 : tm.get 5 = some (.pointer (some ⟨p, 0, none⟩))) (hgL : h.get L = some (prObj tm 0)) {l : List UInt8} (b : Bld h0 h p l) (hk : Kept h0 h) (s : List UInt8) (hl : l.length ≤ 900000) (hsl : s.length ≤ 99999) :
  ∃ h', roundR (EV tab) L [.string ⟨⟨s⟩⟩] h = some (.bool true, h') ∧ Bld h0 h' p (l ++ 32 :: s) ∧ Kept h0 h' ∧ h'.get L = some (prObj tm 0) ∧ h.next ≤ h'.next ∧
   ∀ c o, c < h.next → c ≠ p → c ≠ L → h.get c = some o → o.row ≠ some (5, 1) → h'.get c = some o := by
 have nL : ¬ L < tab.ng := by omega
 have hrow : ∀ st, (prObj tm st).row ≠ some (5, 1) := fun st e => by cases e
 have b1 := b.put hpL hgL (hrow 0) (prObj tm 1)
 obtain ⟨v, h2, e2, b2, k2, m2, f2⟩ := write_run tab x0 hng hp (by rw [H.next_put]; exact hpl) b1 (hk.put _ hL) (32 :: s) (by simp) hl (by simp; omega)
 have hg2 : h2.get L = some (prObj tm 1) := f2 L _ (by rw [H.next_put]; exact hLl) hpL (by rw [H.get_put, if_pos rfl]) (hrow 1)
 have ea : exR (EV tab) (Rg 8 11) ⟨true, 40, tm.set 33 (.string ⟨⟨s⟩⟩), h⟩ = some (.normal, ⟨true, 40, (tm.set 33 (.string ⟨⟨s⟩⟩)).set 10 (.string ⟨⟨s⟩⟩), h⟩) := by
  simp only [sS, sevalprocAttr, fF8, tT]
 have ha : sAdd ⟨#[32]⟩ ⟨⟨s⟩⟩ = some (.string ⟨⟨32 :: s⟩⟩) := s_app [32] s (by simp; omega)
 obtain ⟨tm2, eb⟩ : ∃ tm2, exR (EV tab) (.block 3 (Rg 8 12)) ⟨true, 40, (tm.set 33 (.string ⟨⟨s⟩⟩)).set 10 (.string ⟨⟨s⟩⟩), h.put L (prObj tm 1)⟩ = some (.normal, ⟨true, 40, tm2, h2⟩) := by
  generalize he : exR (EV tab) (.block 3 (Rg 8 12)) ⟨true, 40, (tm.set 33 (.string ⟨⟨s⟩⟩)).set 10 (.string ⟨⟨s⟩⟩), h.put L (prObj tm 1)⟩ = x
  simp only [sS, sevalprocAttr, fF8, tT, t5, binStr, strBin, ha, e2] at he
  subst he
  exact ⟨_, rfl⟩
 refine ⟨h2.put L (prObj tm 0), ?_, b2.put hpL hg2 (hrow 1) _, k2.put _ hL, by rw [H.get_put, if_pos rfl], by rw [H.next_put]; rw [H.next_put] at m2; exact m2, fun c o hc hcp hcL hco hro => ?_⟩
 ·unfold roundR roundD
  rw [if_neg (by rw [ng_eq]; exact nL)]
  have hall : (List.all [33] fun p => Nat.blt p 40) = true := rfl
  simp only [hgL, hall, if_true, setTmps, ea, eb, hg2, X.code, Option.isNone_none]
 ·rw [H.get_put, if_neg (fun e => hcL e.symm)]
  exact f2 c o (by rw [H.next_put]; exact hc) hcp (by rw [H.get_put, if_neg (fun e => hcL e.symm)]; exact hco) hro
def decB (n : Nat) : List UInt8 := Lib.decDigits n
def itoaB (n : Int) : List UInt8 := Lib.itoa n
def partS (c : Nat) (t u : List UInt8) (num : Nat) (imm size : Int) : List UInt8 :=
 if c = 84 then t else if c = 85 then u else if c = 115 ∨ c = 100 ∨ c = 80 then itoaB imm else if c = 70 then itoaB size else decB num
def partsL (us : List UInt8) (t u : List UInt8) (num : Nat) (imm size : Int) : List UInt8 := us.flatMap fun c => 32 :: partS c.toNat t u num imm size
structure PtX (tab : Tab) : Prop where
 xw : ∀ l, callExt (EV tab) 26 l = none
 x0 : ∀ l, callExt (EV tab) 50 l = none
 x1 : ∀ l, callExt (EV tab) 23 l = none
 x2 : ∀ l, callExt (EV tab) 47 l = none
 x3 : ∀ l, callExt (EV tab) 79 l = none
 fu : ∀ (n : Nat) (h : H), n < 18446744073709551616 → callR (EV tab) 51 [.int .u64 n, .int .i64 10] h = some (.string ⟨⟨decB n⟩⟩, h)
 it : ∀ (n : Int) (h : H), -9223372036854775808 ≤ n → n ≤ 9223372036854775807 → callR (EV tab) 52 [.int .i64 n] h = some (.string ⟨⟨itoaB n⟩⟩, h)
noncomputable def ptLoop : Code := .loop (.seq (Rg 50 2) (.seq (.cond (Operand.tmp 18) .skip (Code.exit 0)) (.block 1 (.seq (Rg 50 3) (.seq (Rg 50 4) (.seq (.seq (Rg 50 5) (.block 2 (.seq (Rg 50 6) (.cond (Operand.tmp 24) (Rg 50 7) (.seq (Rg 50 8) (.cond (Operand.tmp 28) (Rg 50 9) (.seq (.seq (Rg 50 10) (.cond (Operand.tmp 32) .skip (.seq (Rg 50 11) (.cond (Operand.tmp 32) .skip (Rg 50 12))))) (.cond (Operand.tmp 32) (Rg 50 13) (.seq (Rg 50 14) (.cond (Operand.tmp 39) (Rg 50 15) .skip)))))))))) (.seq (Rg 50 16) (.cond (Operand.tmp 47) .ret .skip))))))))
theorem pt_loop (tab : Tab) (hX : PtX tab) {h0 : H} (hng : tab.ng ≤ h0.next) {p L q it : Nat} (hp : h0.next ≤ p) (hL : h0.next ≤ L) (hpL : L ≠ p) (hq : h0.next ≤ q) (hqp : q ≠ p) (hqL : q ≠ L) (hi0 : h0.next ≤ it) (hip : it ≠ p) (hiL : it ≠ L) (hiq : it ≠ q)
  (tmL : Tr Value) (t5 : tmL.get 5 = some (.pointer (some ⟨p, 0, none⟩))) (op : Int) (t u : List UInt8) (num : Nat) (imm size : Int) (hn : num < 18446744073709551616) (hi : -9223372036854775808 ≤ imm ∧ imm ≤ 9223372036854775807) (hs : -9223372036854775808 ≤ size ∧ size ≤ 9223372036854775807)
  (us : List UInt8) (hu : ∀ c ∈ us, c.toNat ∈ [84, 85, 110, 76, 115, 100, 119, 80, 70]) (ha : asc us = true) (hpl : ∀ c ∈ us, (partS c.toNat t u num imm size).length ≤ 150) :
  ∀ (k i : Nat) (tm : Tr Value) (h : H) (l : List UInt8), i + k = us.length → l.length + 151 * k ≤ 900000 → tm.get 0 = some (.func (.yield L) #[] #[]) → tm.get 1 = some (.pointer (some ⟨q, 0, none⟩)) → tm.get 16 = some (.pointer (some ⟨it, 0, none⟩)) →
  h.get it = some (.iter ⟨⟨us⟩⟩ i) → h.get q = some (.cells 39 6 (insL op t u num imm size)) → h.get L = some (prObj tmL 0) → p < h.next → L < h.next → q < h.next → it < h.next → Bld h0 h p l → Kept h0 h →
  ∃ tm' h', exR (EV tab) ptLoop ⟨false, 48, tm, h⟩ = some (.exit 0, ⟨false, 48, tm', h'⟩) ∧ Bld h0 h' p (l ++ partsL (us.drop i) t u num imm size) ∧ Kept h0 h' ∧ h'.get L = some (prObj tmL 0) ∧ h.next ≤ h'.next := by
 obtain ⟨xw, x0, x1, x2, x3, fu, itf⟩ := hX
 intro k
 have hn17 : ¬ it < (EV tab).ng := by rw [ng_eq]; omega
 have hqn : ¬ q < tab.ng := by omega
 induction k with
 | zero =>
  intro i tm h l hik hl t0 t1 t16 hgi hgq hgL h1 h2 h3 h4 b hk
  have e := next_done (EV tab) h it i us hn17 hgi (by omega)
  generalize he : exR (EV tab) ptLoop ⟨false, 48, tm, h⟩ = r
  rw [ptLoop, exR_loop] at he
  simp only [sS, sevalprocAttr, fF50, tT, sN, sM, oNext, t16, e] at he
  subst he
  refine ⟨_, h, rfl, ?_, hk, hgL, Nat.le_refl _⟩
  rw [List.drop_eq_nil_of_le (by omega)]
  simpa [partsL] using b
 | succ k ih =>
  intro i tm h l hik hl t0 t1 t16 hgi hgq hgL h1 h2 h3 h4 b hk
  have hiu : i < us.length := by omega
  have e := next_more (EV tab) h it i us ha hn17 hgi hiu
  have hd : us.drop i = us[i] :: us.drop (i + 1) := (List.getElem_cons_drop hiu).symm
  have hc := hu us[i] (List.getElem_mem hiu)
  have hlen := hpl us[i] (List.getElem_mem hiu)
  have hk2 : Kept h0 (h.put it (.iter ⟨⟨us⟩⟩ (i + 1))) := hk.put _ hi0
  have b2 := b.put hip hgi (fun e => by cases e) (.iter ⟨⟨us⟩⟩ (i + 1))
  have gL : (h.put it (.iter ⟨⟨us⟩⟩ (i + 1))).get L = some (prObj tmL 0) := by rw [H.get_put, if_neg hiL]; exact hgL
  have gq : (h.put it (.iter ⟨⟨us⟩⟩ (i + 1))).get q = some (.cells 39 6 (insL op t u num imm size)) := by rw [H.get_put, if_neg hiq]; exact hgq
  obtain ⟨h5, er, b5, k5, g5, m5, f5⟩ := round_run tab xw hng hp (by rw [H.next_put]; exact h1) hL (by rw [H.next_put]; exact h2) hpL tmL t5 gL b2 hk2 (partS us[i].toNat t u num imm size) (by omega) (by omega)
  rw [H.next_put] at m5
  have ef := fu num (h.put it (.iter ⟨⟨us⟩⟩ (i + 1))) hn
  have ei := itf imm (h.put it (.iter ⟨⟨us⟩⟩ (i + 1))) hi.1 hi.2
  have es := itf size (h.put it (.iter ⟨⟨us⟩⟩ (i + 1))) hs.1 hs.2
  have gi5 : h5.get it = some (.iter ⟨⟨us⟩⟩ (i + 1)) := f5 it _ (by rw [H.next_put]; exact h4) hip hiL (by rw [H.get_put, if_pos rfl]) (fun e => by cases e)
  have gq5 : h5.get q = some (.cells 39 6 (insL op t u num imm size)) := f5 q _ (by rw [H.next_put]; exact h3) hqp hqL gq (fun e => by
   have : (39 : Nat) = 5 := congrArg Prod.fst (Option.some.inj e)
   revert this; decide)
  obtain ⟨tm1, y, a0, a1, a16⟩ : ∃ tm1, exR (EV tab) ptLoop ⟨false, 48, tm, h⟩ = exR (EV tab) ptLoop ⟨false, 48, tm1, h5⟩ ∧ tm1.get 0 = some (.func (.yield L) #[] #[]) ∧ tm1.get 1 = some (.pointer (some ⟨q, 0, none⟩)) ∧ tm1.get 16 = some (.pointer (some ⟨it, 0, none⟩)) := by
   generalize us[i].toNat = c at e hc er
   simp only [insL] at gq
   simp only [List.mem_cons, List.mem_nil_iff, or_false] at hc
   generalize he : exR (EV tab) ptLoop ⟨false, 48, tm, h⟩ = r
   rw [ptLoop, exR_loop] at he
   rcases hc with rfl | rfl | rfl | rfl | rfl | rfl | rfl | rfl | rfl
   all_goals
    simp only [partS, Nat.reduceEqDiff, ↓reduceIte, or_true, true_or, or_false, false_or, or_self] at er
    simp only [sS, sevalprocAttr, fF50, tT, sN, sM, ng_eq, tabL_ng, oNext, t0, t1, t16, e, gq, hqn, ef, ei, es, er, iEql, callV_yield, op_nil] at he
    subst he
    refine ⟨_, rfl, ?_, ?_, ?_⟩ <;> simp only [Tr.get_set, Nat.reduceEqDiff, ↓reduceIte, t0, t1, t16]
  obtain ⟨tm', h', z1, z2, z3, z4, z5⟩ := ih (i + 1) tm1 h5 (l ++ 32 :: partS us[i].toNat t u num imm size) (by omega) (by rw [List.length_append, List.length_cons]; omega) a0 a1 a16 gi5 gq5 g5 (by omega) (by omega) (by omega) (by omega) b5 k5
  refine ⟨tm', h', by rw [y]; exact z1, ?_, z3, z4, by omega⟩
  rw [hd]
  rw [List.append_assoc] at z2
  exact z2
theorem Bld.kept {h0 h h' : H} {p : Nat} {l : List UInt8} (b : Bld h0 h p l) (hp : p < h.next) (k : Kept h h') : Bld h0 h' p l := by
 obtain ⟨a, v, hg, ha, hr, hn⟩ := b
 exact ⟨a, v, by rw [k.get _ hp]; exact hg, ha, hr.kept k, hn⟩
theorem Bld.kill {h0 h : H} {p : Nat} {l : List UInt8} (b : Bld h0 h p l) {c : Nat} {o : Obj} (hc : c ≠ p) (hg : h.get c = some o) (ho : o.row ≠ some (5, 1)) : Bld h0 (h.kill c) p l := by
 obtain ⟨a, v, hg1, ha, hr, hn⟩ := b
 refine ⟨a, v, by rw [H.get_kill, if_neg hc]; exact hg1, ha, ?_, hn⟩
 rcases hr with r | ⟨b, r1, r2, r3, r4, r5⟩
 ·exact .inl r
 ·refine .inr ⟨b, r1, r2, r3, ?_, r5⟩
  rw [H.get_kill, if_neg]
  ·exact r4
  ·intro e
   rw [← e, hg] at r4
   cases r4
   exact ho rfl
theorem cells_row {e z : Nat} {l : List Value} (h : e ≠ 5) : (Obj.cells e z l).row ≠ some (5, 1) := fun q => h (congrArg Prod.fst (Option.some.inj q))
theorem parts1_run (tab : Tab) (hX : PtX tab) {h0 h : H} (hng : tab.ng ≤ h0.next) {p L q : Nat} (hp : h0.next ≤ p) (hL : h0.next ≤ L) (hpL : L ≠ p) (hq : h0.next ≤ q) (hqp : q ≠ p) (hqL : q ≠ L) (h1 : p < h.next) (h2 : L < h.next) (h3 : q < h.next)
  (tmL : Tr Value) (t5 : tmL.get 5 = some (.pointer (some ⟨p, 0, none⟩))) (k : Nat) (r : KindR) (hk : kindT[k]? = some r) (t u : List UInt8) (num : Nat) (imm size : Int) (hn : num < 18446744073709551616) (hi : -9223372036854775808 ≤ imm ∧ imm ≤ 9223372036854775807) (hs : -9223372036854775808 ≤ size ∧ size ≤ 9223372036854775807)
  (hpl : ∀ c ∈ r.uses, (partS c.toNat t u num imm size).length ≤ 150) (l : List UInt8) (hl : l.length ≤ 890000) (gq : h.get q = some (.cells 39 6 (insL k t u num imm size))) (gL : h.get L = some (prObj tmL 0)) (b : Bld h0 h p l) (hkp : Kept h0 h) :
  ∃ v h', callR (EV tab) 50 [.func (.yield L) #[] #[], .pointer (some ⟨q, 0, none⟩)] h = some (v, h') ∧ Bld h0 h' p (l ++ partsL r.uses t u num imm size) ∧ Kept h0 h' ∧ h'.get L = some (prObj tmL 0) ∧ h.next ≤ h'.next := by
 have hu := List.all_eq_true.1 kindT_uses r (List.mem_of_getElem? hk)
 simp only [Bool.and_eq_true, decide_eq_true_eq, List.all_eq_true] at hu
 have ha : asc r.uses = true := List.all_eq_true.1 kindT_asc r (List.mem_of_getElem? hk)
 obtain ⟨h', e, kp, hn', -⟩ := kindOf_in tab hX.x1 hX.x2 hX.x3 h (by have := hkp.le; omega) k r hk
 have gq' : h'.get q = some (.cells 39 6 (insL k t u num imm size)) := by rw [kp.get _ h3]; exact gq
 have hqn : ¬ q < tab.ng := by omega
 have hn1 : ¬ h'.next < tab.ng := by have := hkp.le; omega
 have hn2 : ¬ h'.next = q := by omega
 have ho := rightV_one (h.next + 1) r.right
 have key : ∀ tm hh, (∃ h5, hh = h5.push (.iter ⟨⟨r.uses⟩⟩ 0) ∧ Bld h0 h5 p l ∧ Kept h0 h5 ∧ h.next ≤ h5.next ∧ h5.get q = some (.cells 39 6 (insL k t u num imm size)) ∧ h5.get L = some (prObj tmL 0) ∧
   tm.get 0 = some (.func (.yield L) #[] #[]) ∧ tm.get 1 = some (.pointer (some ⟨q, 0, none⟩)) ∧ tm.get 16 = some (.pointer (some ⟨h5.next, 0, none⟩))) →
   ∃ x s', exR (EV tab) ptLoop ⟨false, 48, tm, hh⟩ = some (x, s') ∧ (x = .exit 0 ∧ ∃ tm' h6, s' = ⟨false, 48, tm', h6⟩ ∧ Bld h0 h6 p (l ++ partsL r.uses t u num imm size) ∧ Kept h0 h6 ∧ h6.get L = some (prObj tmL 0) ∧ h.next ≤ h6.next) := fun tm hh p0 => by
  obtain ⟨h5, rfl, b5, k5, m5, gq5, gL5, t0, t1, t16⟩ := p0
  obtain ⟨tm', h6, y1, y2, y3, y4, y5⟩ := pt_loop tab hX hng hp hL hpL hq hqp hqL (it := h5.next) k5.le (by omega) (by omega) (by omega) tmL t5 k t u num imm size hn hi hs r.uses (fun c hc => by have := hu.2 c hc; simpa using this) ha hpl
   r.uses.length 0 tm (h5.push (.iter ⟨⟨r.uses⟩⟩ 0)) l (by omega) (by have := hu.1; omega) t0 t1 t16 (H.get_push_self _ _) (by rw [H.get_push_lt _ _ (by omega)]; exact gq5) (by rw [H.get_push_lt _ _ (by omega)]; exact gL5)
   (by rw [H.next_push]; omega) (by rw [H.next_push]; omega) (by rw [H.next_push]; omega) (by rw [H.next_push]; omega) (b5.push (by omega) _) (k5.push _)
  rw [List.drop_zero] at y2
  rw [H.next_push] at y5
  exact ⟨_, _, y1, rfl, tm', h6, rfl, y2, y3, y4, by omega⟩
 generalize he : callR _ _ _ _ = x
 rw [enter50 _ _ _ (hX.x0 _) rfl] at he
 simp only [insL] at gq'
 simp only [insL] at gq
 simp only [kindL] at e
 simp only [sS, sevalprocAttr, r50_0, r50_1, tT, sN, sM, ng_eq, tabL_ng, oRange, e, gq, gq', hqn, hn1, hn2, ho] at he
 obtain ⟨x1, s1, ⟨rfl, tm', h6, rfl, y2, y3, y4, y5⟩, he⟩ := use_run key (fun o => finish (EV tab) [] (unblock 0 o)) he ⟨_, rfl, by
  refine ⟨?_, ?_, ?_, ?_, ?_, ?_, ?_, ?_⟩
  ·refine ((b.kept h1 kp).push (by have := kp.le; omega) _).put (c := h'.next) (by have := kp.le; omega) (H.get_push_self _ _) (cells_row (by decide)) _
  ·exact ((hkp.trans kp).push _).put _ (by have := kp.le; have := hkp.le; omega)
  ·simp only [H.next_push, H.next_put]; have := kp.le; omega
  ·rw [H.get_put, if_neg hn2, H.get_push_lt _ _ (by have := kp.le; omega)]; exact gq'
  ·rw [H.get_put, if_neg (by have := kp.le; omega), H.get_push_lt _ _ (by have := kp.le; omega), kp.get _ h2]; exact gL
  all_goals simp only [Tr.get_set, Nat.reduceEqDiff, ↓reduceIte, H.next_push, H.next_put]⟩
 simp only [sS, sevalprocAttr, tT] at he
 subst he
 exact ⟨_, h6, rfl, y2, y3, y4, y5⟩
structure PrX (tab : Tab) : Prop where
 pt : PtX tab
 x0 : ∀ l, callExt (EV tab) 8 l = none
 xp : ∀ l, callExt (EV tab) 27 l = none
 xs : ∀ l, callExt (EV tab) 28 l = none
 xa : ∀ l, callExt (EV tab) 25 l = none
 xm : ∀ l, callExt (EV tab) 48 l = none
 xf : ∀ l, callExt (EV tab) 35 l = none
 ck : CheckP tab 15
theorem parts_run (tab : Tab) (xp : ∀ l, callExt (EV tab) 27 l = none) (h : H) (op : Int) (t u : List UInt8) (num : Nat) (imm size : Int) :
  callR (EV tab) 27 [.agg ⟨insL op t u num imm size⟩] h = some (.func (.func 50) ⟨[]⟩ ⟨[.pointer (some ⟨h.next, 0, none⟩)]⟩, h.push (.cells 39 6 (insL op t u num imm size))) := by
 generalize he : callR _ _ _ _ = r
 rw [enter27 _ _ _ (xp _) rfl] at he
 simp only [insL] at he
 simp only [sS, sevalprocAttr, fF27, tT] at he
 subst he
 rfl
theorem pr7 (tab : Tab) {h : H} (hng : tab.ng ≤ h.next) (tm : Tr Value) {b o c n i : Nat} (t16 : tm.get 16 = some (.slice (some ⟨b, o, none⟩) n c)) (t18 : tm.get 18 = some (.int .i64 i)) (hi : i < n) (hb : b ≠ h.next) (op : Int) (t u : List UInt8) (num : Nat) (imm size : Int)
  (hsub : subD (EV tab) h b (o + i * 6) 6 = some (insL op t u num imm size)) :
  ∃ tm' h', exR (EV tab) (Rg 8 7) ⟨false, 40, tm, h⟩ = some (.normal, ⟨false, 40, tm', h'⟩) ∧ tm'.get 7 = some (.pointer (some ⟨h.next, 0, none⟩)) ∧ h'.get h.next = some (.cells 39 6 (insL op t u num imm size)) ∧ Kept h h' ∧ h'.next = h.next + 1 ∧
   ∀ t, t = 5 ∨ t = 16 ∨ t = 17 ∨ t = 18 → tm'.get t = tm.get t := by
 have hnb : ¬ h.next = b := fun e => hb e.symm
 have hhn : ¬ h.next < tab.ng := by omega
 simp only [insL] at hsub ⊢
 generalize he : exR (EV tab) (Rg 8 7) ⟨false, 40, tm, h⟩ = r
 simp only [sS, sevalprocAttr, fF8, tT, sN, sO, ng_eq, tabL_ng, t16, t18, Int.ofNat_lt, hi, decide_true, Int.natCast_nonneg, and_self, Int.toNat_natCast, hnb, hhn, hsub] at he
 subst he
 refine ⟨_, _, rfl, by simp only [Tr.get_set, Nat.reduceEqDiff, ↓reduceIte], ?_, ((Kept.refl h).push _).put _ (Nat.le_refl _), rfl, ?_⟩
 ·rw [H.get_put, if_pos rfl]
  try rfl
 ·rintro t (rfl | rfl | rfl | rfl) <;> simp only [Tr.get_set, Nat.reduceEqDiff, ↓reduceIte]
theorem pr8 (tab : Tab) (hX : PtX tab) {h : H} (hng : tab.ng ≤ h.next) (tm : Tr Value) {c7 : Nat} (hc7 : tab.ng ≤ c7) (t7 : tm.get 7 = some (.pointer (some ⟨c7, 0, none⟩))) (k : Nat) (r : KindR) (hk : kindT[k]? = some r) (t u : List UInt8) (num : Nat) (imm size : Int)
  (g7 : h.get c7 = some (.cells 39 6 (insL k t u num imm size))) :
  ∃ tm' h' c8 base, exR (EV tab) (Rg 8 8) ⟨false, 40, tm, h⟩ = some (.normal, ⟨false, 40, tm', h'⟩) ∧ tm'.get 8 = some (.pointer (some ⟨c8, 0, none⟩)) ∧ h'.get c8 = some (.cells 73 5 (kindL base r)) ∧ h.next ≤ c8 ∧ c8 < h'.next ∧ Kept h h' ∧
   ∀ t, t = 5 ∨ t = 7 ∨ t = 16 ∨ t = 17 ∨ t = 18 → tm'.get t = tm.get t := by
 obtain ⟨h1, e, kp, hn', -⟩ := kindOf_in tab hX.x1 hX.x2 hX.x3 h hng k r hk
 have hc : ¬ c7 < tab.ng := by omega
 have hn1 : ¬ h1.next < tab.ng := by omega
 have ho := rightV_one (h.next + 1) r.right
 have e' := e
 simp only [kindL] at e'
 have g7' := g7
 simp only [insL] at g7'
 generalize he : exR (EV tab) (Rg 8 8) ⟨false, 40, tm, h⟩ = x
 simp only [sS, sevalprocAttr, fF8, tT, sN, sM, ng_eq, tabL_ng, t7, g7', hc, e', hn1, ho] at he
 subst he
 refine ⟨_, _, h1.next, h.next + 1, rfl, by simp only [Tr.get_set, Nat.reduceEqDiff, ↓reduceIte], ?_, by omega, ?_, (kp.push _).put _ kp.le, ?_⟩
 ·rw [H.get_put, if_pos rfl]
  try rfl
 ·rw [H.next_put, H.next_push]; omega
 ·rintro t (rfl | rfl | rfl | rfl | rfl) <;> simp only [Tr.get_set, Nat.reduceEqDiff, ↓reduceIte]
theorem pr9 (tab : Tab) (hX : PtX tab) {h0 h : H} (hng : tab.ng ≤ h0.next) {p : Nat} (hp : h0.next ≤ p) (hpl : p < h.next) (tm : Tr Value) (t5 : tm.get 5 = some (.pointer (some ⟨p, 0, none⟩))) {c8 base : Nat} (hc8 : tab.ng ≤ c8) (t8 : tm.get 8 = some (.pointer (some ⟨c8, 0, none⟩))) (r : KindR) (hr : r.name ≠ [] ∧ r.name.length ≤ 100)
  (g8 : h.get c8 = some (.cells 73 5 (kindL base r))) {l : List UInt8} (hl : l.length ≤ 900000) (b : Bld h0 h p l) (hk : Kept h0 h) :
  ∃ tm' h', exR (EV tab) (Rg 8 9) ⟨false, 40, tm, h⟩ = some (.normal, ⟨false, 40, tm', h'⟩) ∧ Bld h0 h' p (l ++ r.name) ∧ Kept h0 h' ∧ Left p h h' ∧
   ∀ t, t = 5 ∨ t = 7 ∨ t = 16 ∨ t = 17 ∨ t = 18 → tm'.get t = tm.get t := by
 obtain ⟨v, h', e, b', k', f'⟩ := write_run tab hX.xw hng hp hpl b hk r.name hr.1 hl (by omega)
 have hc : ¬ c8 < tab.ng := by omega
 have g8' := g8
 simp only [kindL] at g8'
 generalize he : exR (EV tab) (Rg 8 9) ⟨false, 40, tm, h⟩ = x
 simp only [sS, sevalprocAttr, fF8, tT, sN, sM, ng_eq, tabL_ng, t5, t8, g8', hc, e] at he
 subst he
 refine ⟨_, _, rfl, b', k', f', ?_⟩
 rintro t (rfl | rfl | rfl | rfl | rfl) <;> simp only [Tr.get_set, Nat.reduceEqDiff, ↓reduceIte]
theorem pr10 (tab : Tab) (hX : PrX tab) {h : H} (tm : Tr Value) {c7 : Nat} (hc7 : tab.ng ≤ c7) (t7 : tm.get 7 = some (.pointer (some ⟨c7, 0, none⟩))) (op : Int) (t u : List UInt8) (num : Nat) (imm size : Int)
  (g7 : h.get c7 = some (.cells 39 6 (insL op t u num imm size))) :
  ∃ tm', exR (EV tab) (Rg 8 10) ⟨false, 40, tm, h⟩ = some (.normal, ⟨false, 40, tm', h.push (.cells 39 6 (insL op t u num imm size))⟩) ∧ tm'.get 32 = some (.func (.func 50) ⟨[]⟩ ⟨[.pointer (some ⟨h.next, 0, none⟩)]⟩) ∧
   ∀ t, t = 5 ∨ t = 16 ∨ t = 17 ∨ t = 18 → tm'.get t = tm.get t := by
 have hc : ¬ c7 < tab.ng := by omega
 have e := parts_run tab hX.xp h op t u num imm size
 simp only [insL] at e g7 ⊢
 generalize he : exR (EV tab) (Rg 8 10) ⟨false, 40, tm, h⟩ = x
 simp only [sS, sevalprocAttr, fF8, tT, sN, sM, ng_eq, tabL_ng, t7, g7, hc, e] at he
 subst he
 refine ⟨_, rfl, by simp only [Tr.get_set, Nat.reduceEqDiff, ↓reduceIte], ?_⟩
 rintro t (rfl | rfl | rfl | rfl) <;> simp only [Tr.get_set, Nat.reduceEqDiff, ↓reduceIte]
theorem pr11 (tab : Tab) (hX : PrX tab) {h0 h : H} (hng : tab.ng ≤ h0.next) {p q : Nat} (hp : h0.next ≤ p) (hpl : p < h.next) (hq : h0.next ≤ q) (hql : q < h.next) (hqp : q ≠ p) (tm : Tr Value) (t5 : tm.get 5 = some (.pointer (some ⟨p, 0, none⟩)))
  (t32 : tm.get 32 = some (.func (.func 50) ⟨[]⟩ ⟨[.pointer (some ⟨q, 0, none⟩)]⟩)) (k : Nat) (r : KindR) (hk : kindT[k]? = some r) (t u : List UInt8) (num : Nat) (imm size : Int) (hn : num < 18446744073709551616) (hi : -9223372036854775808 ≤ imm ∧ imm ≤ 9223372036854775807) (hs : -9223372036854775808 ≤ size ∧ size ≤ 9223372036854775807)
  (hpl2 : ∀ c ∈ r.uses, (partS c.toNat t u num imm size).length ≤ 150) (gq : h.get q = some (.cells 39 6 (insL k t u num imm size))) {l : List UInt8} (hl : l.length ≤ 890000) (b : Bld h0 h p l) (hkp : Kept h0 h) :
  ∃ h', exR (EV tab) (.block 2 (.rangeFunc (.tmp 32) #[33] (Rg 8 11) (.block 3 (Rg 8 12)))) ⟨false, 40, tm, h⟩ = some (.normal, ⟨false, 40, tm, h'⟩) ∧ Bld h0 h' p (l ++ partsL r.uses t u num imm size) ∧ Kept h0 h' ∧ h.next ≤ h'.next := by
 have hL := hkp.le
 have hrow : ∀ st, (prObj tm st).row ≠ some (5, 1) := fun st e => by cases e
 obtain ⟨v, h1, e, b1, k1, g1, m1⟩ := parts1_run tab hX.pt (h := h.push (prObj tm 0)) hng (L := h.next) hp hL (by omega) hq hqp (by omega) (by rw [H.next_push]; omega) (by rw [H.next_push]; omega) (by rw [H.next_push]; omega)
  tm t5 k r hk t u num imm size hn hi hs hpl2 l hl (by rw [H.get_push_lt _ _ hql]; exact gq) (H.get_push_self _ _) (b.push hpl _) (hkp.push _)
 rw [H.next_push] at m1
 refine ⟨h1.kill h.next, ?_, b1.kill (by omega) g1 (hrow 0), k1.kill hL, by rw [H.next_kill]; omega⟩
 rw [exR_block, exR_range]
 unfold rangeD
 have hv : ev (EV tab) tm (.tmp 32) = some (.func (.func 50) ⟨[]⟩ ⟨[.pointer (some ⟨q, 0, none⟩)]⟩) := by rw [ev_tmp, t32]; rfl
 have hc : ((EV tab).chk 50 || ((EV tab).fn 50).isNone) = false := by kernel_rfl
 have e' : callR (EV tab) 50 ([] ++ [.func (.yield h.next) #[] #[]] ++ [.pointer (some ⟨q, 0, none⟩)]) (h.push (.loop 40 tm [33] (Rg 8 11) (.block 3 (Rg 8 12)) 0 none)) = some (v, h1) := e
 simp only [hv, hc, Bool.false_eq_true, if_false, e', g1]
 rfl
theorem pr13 (tab : Tab) (hX : PtX tab) {h0 h : H} (hng : tab.ng ≤ h0.next) {p : Nat} (hp : h0.next ≤ p) (hpl : p < h.next) (tm : Tr Value) (t5 : tm.get 5 = some (.pointer (some ⟨p, 0, none⟩))) {l : List UInt8} (hl : l.length ≤ 900000) (b : Bld h0 h p l) (hk : Kept h0 h) :
  ∃ tm' h', exR (EV tab) (Rg 8 13) ⟨false, 40, tm, h⟩ = some (.normal, ⟨false, 40, tm', h'⟩) ∧ Bld h0 h' p (l ++ [10]) ∧ Kept h0 h' ∧ h.next ≤ h'.next ∧ ∀ t, t = 5 ∨ t = 16 ∨ t = 17 ∨ t = 18 → tm'.get t = tm.get t := by
 obtain ⟨v, h', e, b', k', f'⟩ := write_run tab hX.xw hng hp hpl b hk [10] (by simp) hl (by decide)
 have e' : callR (EV tab) 26 [.pointer (some ⟨p, 0, none⟩), .string ⟨#[10]⟩] h = some (v, h') := e
 generalize he : exR (EV tab) (Rg 8 13) ⟨false, 40, tm, h⟩ = x
 simp only [sS, sevalprocAttr, fF8, tT, t5, e'] at he
 subst he
 refine ⟨_, _, rfl, b', k', f'.1, ?_⟩
 rintro t (rfl | rfl | rfl | rfl) <;> simp only [Tr.get_set, Nat.reduceEqDiff, ↓reduceIte]
def lineL (r : KindR) (x : Ins) : List UInt8 := r.name ++ partsL r.uses x.t x.u x.num x.imm x.size ++ [10]
def lineX (x : Ins) : List UInt8 := match kindAt x.op with | some r => lineL r x | none => []
def printL (l : List Ins) : List UInt8 := l.flatMap lineX
theorem kindT_name : kindT.all (fun r => decide (r.name ≠ []) && decide (r.name.length ≤ 100)) = true := by decide
theorem decB_len {n : Nat} (h : n < 18446744073709551616) : (decB n).length ≤ 20 := by
 unfold decB
 by_cases q : n = 0
 ·subst q
  rw [Lib.decDigits, dif_pos (by decide)]
  decide
 ·rw [Lib.decDigits_length]
  have := Lib.numDigits_eq n (by omega) h
  split at this <;> omega
theorem itoaB_len {n : Int} (h1 : -9223372036854775808 ≤ n) (h2 : n ≤ 9223372036854775807) : (itoaB n).length ≤ 21 := by
 unfold itoaB
 by_cases q : n < 0
 ·obtain ⟨u, rfl⟩ : ∃ u : Nat, n = -(u : Int) := ⟨n.natAbs, by omega⟩
  rw [Lib.itoa_neg u (by omega), List.length_cons]
  have := decB_len (n := u) (by omega)
  unfold decB at this
  omega
 ·obtain ⟨u, rfl⟩ : ∃ u : Nat, n = u := ⟨n.toNat, by omega⟩
  rw [Lib.itoa_nonneg]
  have := decB_len (n := u) (by omega)
  unfold decB at this
  omega
structure OkP (x : Ins) : Prop where
 k : ∃ (k : Nat) (r : KindR), x.op = k ∧ kindT[k]? = some r ∧ kindAt x.op = some r
 n : x.num < 18446744073709551616
 i : -9223372036854775808 ≤ x.imm ∧ x.imm ≤ 9223372036854775807
 s : -9223372036854775808 ≤ x.size ∧ x.size ≤ 9223372036854775807
 t : x.t.length ≤ 101
 u : x.u.length ≤ 101
theorem OkP.part {x : Ins} (h : OkP x) (c : Nat) : (partS c x.t x.u x.num x.imm x.size).length ≤ 150 := by
 have h1 := h.t
 have h2 := h.u
 have h3 := itoaB_len h.i.1 h.i.2
 have h4 := itoaB_len h.s.1 h.s.2
 have h5 := decB_len h.n
 unfold partS
 split
 ·omega
 ·split
  ·omega
  ·split
   ·omega
   ·split <;> omega
theorem partsL_len {x : Ins} (h : OkP x) : ∀ us : List UInt8, (partsL us x.t x.u x.num x.imm x.size).length ≤ 151 * us.length
 | [] => Nat.zero_le _
 | c :: us => by
  have h1 := h.part c.toNat
  have h2 := partsL_len h us
  unfold partsL at h2 ⊢
  rw [List.flatMap_cons, List.length_append, List.length_cons, List.length_cons]
  omega
theorem lineX_len {x : Ins} (h : OkP x) : (lineX x).length ≤ 1000 := by
 obtain ⟨kk, r, hop, hk1, hk2⟩ := h.k
 have hnm := List.all_eq_true.1 kindT_name r (List.mem_of_getElem? hk1)
 simp only [Bool.and_eq_true, decide_eq_true_eq] at hnm
 have hu := List.all_eq_true.1 kindT_uses r (List.mem_of_getElem? hk1)
 simp only [Bool.and_eq_true, decide_eq_true_eq, List.all_eq_true] at hu
 have hpl5 := partsL_len h r.uses
 unfold lineX
 rw [hk2]
 show (lineL r x).length ≤ 1000
 rw [lineL, List.length_append, List.length_append]
 have := hu.1
 simp only [List.length_cons, List.length_nil]
 omega
noncomputable def prBody : Code := .block 1 (.seq (Rg 8 7) (.seq (Rg 8 8) (.seq (Rg 8 9) (.seq (.seq (Rg 8 10) (.block 2 (.rangeFunc (.tmp 32) #[33] (Rg 8 11) (.block 3 (Rg 8 12))))) (Rg 8 13)))))
theorem pr_body (tab : Tab) (hX : PrX tab) {h0 h : H} (hng : tab.ng ≤ h0.next) {p : Nat} (hp : h0.next ≤ p) (hpl : p < h.next) (tm : Tr Value) (t5 : tm.get 5 = some (.pointer (some ⟨p, 0, none⟩))) {b o c n i : Nat} (t16 : tm.get 16 = some (.slice (some ⟨b, o, none⟩) n c)) (t18 : tm.get 18 = some (.int .i64 i)) (hi : i < n) (hb : b ≠ h.next)
  (x : Ins) (hx : OkP x) (hsub : subD (EV tab) h b (o + i * 6) 6 = some (insC x)) {l : List UInt8} (hl : l.length ≤ 880000) (B : Bld h0 h p l) (hk : Kept h0 h) :
  ∃ tm' h', exR (EV tab) prBody ⟨false, 40, tm, h⟩ = some (.normal, ⟨false, 40, tm', h'⟩) ∧ Bld h0 h' p (l ++ lineX x) ∧ Kept h0 h' ∧ h.next ≤ h'.next ∧ ∀ t, t = 5 ∨ t = 16 ∨ t = 17 ∨ t = 18 → tm'.get t = tm.get t := by
 obtain ⟨⟨k, r, hop, hk1, hk2⟩, xn, xi, xs, xt, xu⟩ := hx
 have hx : OkP x := ⟨⟨k, r, hop, hk1, hk2⟩, xn, xi, xs, xt, xu⟩
 have hnn := hk.le
 have hnm := List.all_eq_true.1 kindT_name r (List.mem_of_getElem? hk1)
 simp only [Bool.and_eq_true, decide_eq_true_eq] at hnm
 have hu := List.all_eq_true.1 kindT_uses r (List.mem_of_getElem? hk1)
 simp only [Bool.and_eq_true, decide_eq_true_eq, List.all_eq_true] at hu
 have hpl5 := partsL_len hx r.uses
 obtain ⟨op, t, u, num, imm, size⟩ := x
 simp only at hop xn xi xs xt xu hpl5
 subst hop
 obtain ⟨tm1, h1, e1, a7, g1, k1, n1, s1⟩ := pr7 tab (Nat.le_trans hng hnn) tm t16 t18 hi hb k t u num imm size hsub
 have B1 := B.kept hpl k1
 obtain ⟨tm2, h2, c8, base, e2, a8, g8, m8, m8', k2, s2⟩ := pr8 tab hX.pt (by omega) tm1 (c7 := h.next) (by omega) a7 k r hk1 t u num imm size g1
 have B2 := B1.kept (by omega) k2
 have t5' : tm2.get 5 = some (.pointer (some ⟨p, 0, none⟩)) := by rw [s2 5 (.inl rfl), s1 5 (.inl rfl)]; exact t5
 have l2 := k2.le
 obtain ⟨tm3, h3, e3, B3, k3, f3, s3⟩ := pr9 tab hX.pt hng hp (by omega) tm2 t5' (by omega) a8 r hnm g8 (by omega) B2 ((hk.trans k1).trans k2)
 have g7 : h3.get h.next = some (.cells 39 6 (insL k t u num imm size)) := f3.2 _ _ (by omega) (by omega) (by rw [k2.get _ (by omega)]; exact g1) (cells_row (by decide))
 have a7' : tm3.get 7 = some (.pointer (some ⟨h.next, 0, none⟩)) := by rw [s3 7 (.inr (.inl rfl)), s2 7 (.inr (.inl rfl))]; exact a7
 have l3 := f3.1
 obtain ⟨tm4, e4, a32, s4⟩ := pr10 tab hX tm3 (c7 := h.next) (by omega) a7' k t u num imm size g7
 have key : ∀ t, t = 5 ∨ t = 16 ∨ t = 17 ∨ t = 18 → tm4.get t = tm.get t := by
  intro t ht
  rw [s4 t ht, s3 t (by omega), s2 t (by omega), s1 t ht]
 obtain ⟨h5, e5, B5, k5, m5⟩ := pr11 tab hX (h := h3.push (.cells 39 6 (insL k t u num imm size))) hng (q := h3.next) hp (by rw [H.next_push]; omega) (by omega) (by rw [H.next_push]; omega) (by omega) tm4 (by rw [key 5 (.inl rfl)]; exact t5) a32 k r hk1 t u num imm size xn xi xs (fun c _ => hx.part c.toNat)
  (H.get_push_self _ _) (l := l ++ r.name) (by rw [List.length_append]; omega) (B3.push (by omega) _) (k3.push _)
 rw [H.next_push] at m5
 obtain ⟨tm6, h6, e6, B6, k6, m6, s6⟩ := pr13 tab hX.pt hng hp (by omega) tm4 (by rw [key 5 (.inl rfl)]; exact t5) (by rw [List.length_append, List.length_append]; have := hu.1; omega) B5 k5
 refine ⟨tm6, h6, ?_, ?_, k6, by omega, fun t ht => by rw [s6 t ht, key t ht]⟩
 ·rw [prBody, exR_block, exR_seq, e1, andThen_normal, exR_seq, e2, andThen_normal, exR_seq, e3, andThen_normal, exR_seq, exR_seq, e4, andThen_normal, e5, andThen_normal, e6]
  rfl
 ·have : lineX ⟨k, t, u, num, imm, size⟩ = lineL r ⟨k, t, u, num, imm, size⟩ := by unfold lineX; rw [hk2]
  rw [this, lineL, ← List.append_assoc, ← List.append_assoc]
  exact B6
noncomputable def prLoop : Code := .loop (.seq (Rg 8 6) (.seq (.cond (Operand.tmp 19) .skip (Code.exit 0)) (.seq prBody (Rg 8 14))))
theorem pr_loop (tab : Tab) (hX : PrX tab) {h0 : H} (hng : tab.ng ≤ h0.next) {p : Nat} (hp : h0.next ≤ p) {b o c : Nat} (l : List Ins) (hm : Mem tab h0 b o (cellsI l)) (hn : l.length ≤ 200) (hx : ∀ x ∈ l, OkP x) :
  ∀ (k i : Nat) (tm : Tr Value) (h : H), i + k = l.length → tm.get 5 = some (.pointer (some ⟨p, 0, none⟩)) → tm.get 16 = some (.slice (some ⟨b, o, none⟩) l.length c) → tm.get 17 = some (.int .i64 l.length) → tm.get 18 = some (.int .i64 i) → p < h.next →
  Bld h0 h p (printL (l.take i)) → (printL (l.take i)).length ≤ 1000 * i → Kept h0 h →
  ∃ tm' h', exR (EV tab) prLoop ⟨false, 40, tm, h⟩ = some (.exit 0, ⟨false, 40, tm', h'⟩) ∧ Bld h0 h' p (printL l) ∧ (printL l).length ≤ 200000 ∧ Kept h0 h' ∧ h.next ≤ h'.next ∧ tm'.get 5 = some (.pointer (some ⟨p, 0, none⟩)) := by
 intro k
 induction k with
 | zero =>
  intro i tm h hk t5 t16 t17 t18 hpl B hB hkp
  have hlt : ¬ i < l.length := by omega
  generalize he : exR (EV tab) prLoop ⟨false, 40, tm, h⟩ = r
  rw [prLoop, exR_loop] at he
  simp only [sS, sevalprocAttr, fF8, tT, t17, t18, iLss, Int.ofNat_lt, hlt, decide_false] at he
  subst he
  rw [List.take_of_length_le (by omega)] at B hB
  exact ⟨_, h, rfl, B, by omega, hkp, Nat.le_refl _, by simp only [Tr.get_set, Nat.reduceEqDiff, ↓reduceIte, t5]⟩
 | succ k ih =>
  intro i tm h hk t5 t16 t17 t18 hpl B hB hkp
  have hlt : i < l.length := by omega
  have hsub := (hm.kept hkp).ins i hlt
  have hnb : b ≠ h.next := by have := (hm.kept hkp).lt (Nat.le_trans hng hkp.le); omega
  have e6 : ∃ tm1, exR (EV tab) (Rg 8 6) ⟨false, 40, tm, h⟩ = some (.normal, ⟨false, 40, tm1, h⟩) ∧ tm1.get 19 = some (.bool true) ∧ ∀ t, t = 5 ∨ t = 16 ∨ t = 17 ∨ t = 18 → tm1.get t = tm.get t := by
   generalize he : exR (EV tab) (Rg 8 6) ⟨false, 40, tm, h⟩ = r
   simp only [sS, sevalprocAttr, fF8, tT, t17, t18, iLss, Int.ofNat_lt, hlt, decide_true] at he
   subst he
   refine ⟨_, rfl, by simp only [Tr.get_set, Nat.reduceEqDiff, ↓reduceIte], ?_⟩
   rintro t (rfl | rfl | rfl | rfl) <;> simp only [Tr.get_set, Nat.reduceEqDiff, ↓reduceIte]
  obtain ⟨tm1, e6, a19, s1⟩ := e6
  have hxi := hx l[i] (List.getElem_mem hlt)
  obtain ⟨tm2, h2, e7, B2, k2, m2, s2⟩ := pr_body tab hX hng hp hpl tm1 (by rw [s1 5 (.inl rfl)]; exact t5) (by rw [s1 16 (.inr (.inl rfl))]; exact t16) (by rw [s1 18 (.inr (.inr (.inr rfl)))]; exact t18) hlt hnb l[i] hxi hsub (by omega) B hkp
  have u16 : tm2.get 16 = some (.slice (some ⟨b, o, none⟩) l.length c) := by rw [s2 16 (.inr (.inl rfl)), s1 16 (.inr (.inl rfl))]; exact t16
  have u5 : tm2.get 5 = some (.pointer (some ⟨p, 0, none⟩)) := by rw [s2 5 (.inl rfl), s1 5 (.inl rfl)]; exact t5
  have u17 : tm2.get 17 = some (.int .i64 l.length) := by rw [s2 17 (.inr (.inr (.inl rfl))), s1 17 (.inr (.inr (.inl rfl)))]; exact t17
  have u18 : tm2.get 18 = some (.int .i64 i) := by rw [s2 18 (.inr (.inr (.inr rfl))), s1 18 (.inr (.inr (.inr rfl)))]; exact t18
  obtain ⟨tm3, e8, b5, b16, b17, b18⟩ : ∃ tm3, exR (EV tab) (Rg 8 14) ⟨false, 40, tm2, h2⟩ = some (.normal, ⟨false, 40, tm3, h2⟩) ∧ tm3.get 5 = some (.pointer (some ⟨p, 0, none⟩)) ∧ tm3.get 16 = some (.slice (some ⟨b, o, none⟩) l.length c) ∧ tm3.get 17 = some (.int .i64 l.length) ∧ tm3.get 18 = some (.int .i64 ((i + 1 : Nat) : Int)) := by
   generalize he : exR (EV tab) (Rg 8 14) ⟨false, 40, tm2, h2⟩ = r
   simp only [sS, sevalprocAttr, fF8, tT, u18, add1 i (by omega)] at he
   subst he
   refine ⟨_, rfl, ?_, ?_, ?_, ?_⟩ <;> simp only [Tr.get_set, Nat.reduceEqDiff, ↓reduceIte, u5, u16, u17]
  have ht : printL (l.take (i + 1)) = printL (l.take i) ++ lineX l[i] := by
   have q : l.take (i + 1) = l.take i ++ [l[i]] := by rw [List.take_add_one, List.getElem?_eq_getElem hlt]; rfl
   rw [q, printL, List.flatMap_append]
   simp [printL]
  have hll := lineX_len hxi
  obtain ⟨tm', h', x1, x2, x3, x4, x5, x6⟩ := ih (i + 1) tm3 h2 (by omega) b5 b16 b17 b18 (by omega) (by rw [ht]; exact B2) (by rw [ht, List.length_append]; omega) k2
  refine ⟨tm', h', ?_, x2, x3, x4, by omega, x6⟩
  rw [prLoop, exR_loop, exR_seq, e6, andThen_normal, exR_seq, exS_cond, ev_tmp, a19, getD_some, branchS_true, exR_skip, andThen_normal, exR_seq, e7, andThen_normal, e8, andThen_normal]
  exact x1
theorem print_run (tab : Tab) (hX : PrX tab) (h : H) (hng : tab.ng ≤ h.next) (v : Value) (l : List Ins) (hv : InS tab h v 39 l) (hn : l.length ≤ 200 ∨ l.length = 4001) (hnum : ∀ x ∈ l, x.num < 18446744073709551616) (hty : ∀ x ∈ l, x.t.length ≤ 101 ∧ x.u.length ≤ 101) :
  ∃ h', callR (EV tab) 8 [v] h = some (.tuple ⟨[.string ⟨⟨if allI l = 0 then printL l else []⟩⟩, .int .i64 (allI l)]⟩, h') ∧ Kept h h' := by
 obtain ⟨h1, e1, k1⟩ := checkAll_run tab hX.xa hX.xm hX.xf hX.ck h hng v l hv (by omega)
 by_cases q : allI l = 0
 ·rw [if_pos q]
  rw [q] at e1
  obtain ⟨hl, hz⟩ := allI_zero q
  have hx : ∀ x ∈ l, OkP x := fun x hx => by
   obtain ⟨k, r, a1, a2, a3, _, _, _, _, _, a4, a5, _⟩ := check_ok (hz x hx) (by have := hnum x hx; omega)
   exact ⟨⟨k, r, a1, a2, a3⟩, hnum x hx, ⟨by omega, by omega⟩, ⟨by omega, by omega⟩, (hty x hx).1, (hty x hx).2⟩
  have n1 : tab.ng ≤ h1.next := Nat.le_trans hng k1.le
  have Z : Bld h1 (h1.push (.cells 82 2 [.pointer none, .slice none 0 0])) h1.next [] := ⟨.pointer none, .slice none 0 0, H.get_push_self _ _, .inl rfl, .inl ⟨rfl, rfl, rfl⟩, fun _ => rfl⟩
  have z : ((0 : Int) != 0) = false := rfl
  rcases hv.kept k1 with ⟨rfl, rfl⟩ | ⟨b, o, c, rfl, hm⟩
  ·obtain ⟨h3, e3, k3⟩ := str_run tab hX.xs n1 (Nat.le_refl _) Z ((Kept.refl _).push _) (by decide)
   generalize he : callR _ _ _ _ = r
   rw [enter8 _ _ _ (hX.x0 _) rfl] at he
   simp only [sS, sevalprocAttr, fF8, tT, sN, sM, exR_loop, ng_eq, tabL_ng, iLss, iNeq, e1, e3, z, Int.cast_ofNat_Int, Int.reduceLT, decide_false, Int.lt_irrefl] at he
   subst he
   rw [q]
   exact ⟨_, rfl, k1.trans k3⟩
  ·have key : ∀ tm hh, (hh = h1.push (.cells 82 2 [.pointer none, .slice none 0 0]) ∧ tm.get 5 = some (.pointer (some ⟨h1.next, 0, none⟩)) ∧ tm.get 16 = some (.slice (some ⟨b, o, none⟩) l.length c) ∧ tm.get 17 = some (.int .i64 l.length) ∧ tm.get 18 = some (.int .i64 0)) →
     ∃ x s', exR (EV tab) prLoop ⟨false, 40, tm, hh⟩ = some (x, s') ∧ (x = .exit 0 ∧ ∃ tm' h4 h5, s' = ⟨false, 40, tm', h4⟩ ∧ tm'.get 5 = some (.pointer (some ⟨h1.next, 0, none⟩)) ∧ callR (EV tab) 28 [.pointer (some ⟨h1.next, 0, none⟩)] h4 = some (.string ⟨⟨printL l⟩⟩, h5) ∧ Kept h1 h5) := fun tm hh p => by
    obtain ⟨rfl, p5, p16, p17, p18⟩ := p
    obtain ⟨tm', h4, y1, y2, y3, y4, y5, y6⟩ := pr_loop tab hX n1 (p := h1.next) (Nat.le_refl _) l hm (by omega) hx l.length 0 tm _ (by omega) p5 p16 p17 p18 (by rw [H.next_push]; omega) Z (Nat.zero_le _) ((Kept.refl _).push _)
    obtain ⟨h5, e5, k5⟩ := str_run tab hX.xs n1 (Nat.le_refl _) y2 y4 (by omega)
    exact ⟨_, _, y1, rfl, tm', h4, h5, rfl, y6, e5, k5⟩
   generalize he : callR _ _ _ _ = r
   rw [enter8 _ _ _ (hX.x0 _) rfl] at he
   simp only [sS, sevalprocAttr, r8_0, r8_1, r8_2, r8_4, r8_5, tT, e1, iNeq, z] at he
   obtain ⟨x1, s1, ⟨rfl, tm', h4, h5, rfl, y5, e5, k5⟩, he⟩ := use_run key (fun o => finish (EV tab) [ResultVar.tmp 2, ResultVar.tmp 3] (andThen (unblock 0 o) (exR (EV tab) (.seq (Rg 8 15) .ret)))) he (by
    refine ⟨rfl, ?_, ?_, ?_, ?_⟩ <;> simp only [Tr.get_set, Nat.reduceEqDiff, ↓reduceIte])
   simp only [sS, sevalprocAttr, fF8, tT, y5, e5] at he
   subst he
   rw [q]
   exact ⟨_, rfl, k1.trans k5⟩
 ·rw [if_neg q]
  have z : (allI l != 0) = true := by simpa using q
  generalize he : callR _ _ _ _ = r
  rw [enter8 _ _ _ (hX.x0 _) rfl] at he
  simp only [sS, sevalprocAttr, fF8, tT, e1, iNeq, z] at he
  subst he
  exact ⟨_, rfl, k1⟩
end Go.D
