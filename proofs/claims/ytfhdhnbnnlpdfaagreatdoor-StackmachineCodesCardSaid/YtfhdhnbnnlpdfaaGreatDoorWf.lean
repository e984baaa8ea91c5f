/- The functions of the law, one after the other: what a run of D answers. -/
import Derived.Test.YtfhdhnbnnlpdfaaGreatDoorWe
import Derived.Test.YtfhdhnbnnlpdfaaGreatDoorFull
import Derived.Test.YtfhdhnbnnlpdfaaGreatDoorW0
import Derived.Laws.RangeString
import Derived.Laws.RangeAny
import Derived.Laws.StructEq
namespace Go.D
open Go.Proofs
set_option maxRecDepth 100000
set_option linter.unusedVariables false
set_option linter.unusedSimpArgs false
structure Ins where
 op : Int
 t : List UInt8
 u : List UInt8
 num : Nat
 imm : Int
 size : Int
def insC (x : Ins) : List Value := insL x.op x.t x.u x.num x.imm x.size
def insZ : Ins := ⟨0, [], [], 0, 0, 0⟩
def cellsI (l : List Ins) : List Value := l.flatMap insC
theorem insC_len (x : Ins) : (insC x).length = 6 := rfl
theorem insC_one (x : Ins) : (insC x).all isOne = true := rfl
theorem cellsI_len (l : List Ins) : (cellsI l).length = l.length * 6 := by
 induction l with
 | nil => rfl
 | cons x l ih => rw [cellsI, List.flatMap_cons, List.length_append]; show 6 + (cellsI l).length = _; rw [ih, List.length_cons]; omega
theorem cellsI_take (l : List Ins) (i : Nat) (hi : i < l.length) : cellsI (l.take (i + 1)) = cellsI (l.take i) ++ insC l[i] := by
 have h : l.take (i + 1) = l.take i ++ [l[i]] := by rw [List.take_add_one, List.getElem?_eq_getElem hi]; rfl
 rw [h, cellsI, List.flatMap_append]
 simp [cellsI]
theorem cellsI_split (l : List Ins) (i : Nat) (hi : i < l.length) : cellsI l = cellsI (l.take i) ++ (insC l[i] ++ cellsI (l.drop (i + 1))) := by
 have h : l = l.take i ++ l[i] :: l.drop (i + 1) := by rw [List.getElem_cons_drop hi, List.take_append_drop]
 have h2 : cellsI (l.take i ++ l[i] :: l.drop (i + 1)) = cellsI (l.take i) ++ (insC l[i] ++ cellsI (l.drop (i + 1))) := by rw [cellsI, List.flatMap_append, List.flatMap_cons]; rfl
 rw [← h2, ← h]
theorem cellsI_sub (e : Nat) (l : List Ins) (i : Nat) (hi : i < l.length) : Obj.sub (.cells e 6 (cellsI l)) (i * 6) 6 = some (insC l[i]) := by
 refine sub_get (insC l[i]) e 6 (i * 6) (cellsI l) fun j hj => ?_
 have hl : (cellsI (l.take i)).length = i * 6 := by rw [cellsI_len, List.length_take]; congr 1; omega
 rw [cellsI_split l i hi, List.getElem?_append_right (by omega), hl, Nat.add_sub_cancel_left, List.getElem?_append_left hj]
theorem new_ins (tab : Tab) (e : Nat) (h : H) (x : Ins) (b c : Nat) (hb : tab.ng ≤ b) (hg : h.get b = some (.cells e 6 (insC x))) (z : List Value) : newD (EV tab) h z 6 false (.slice (some ⟨b, 0, none⟩) 1 c) = some (insC x, 1) := by
 have hs := sub_all e 6 (insC x)
 rw [insC_len] at hs
 unfold newD
 simp only [Bool.false_eq_true, if_false, lenOfD, srcD, subD, ng_eq, tabL_ng, Nat.not_lt.2 hb, Nat.one_mul, hg, hs]
def cellAt (tab : Tab) (h : H) (b i : Nat) : Option Value := if b < tab.ng then tab.gl b i else (match h.get b with | none => none | some ob => ob.get? i)
structure Mem (tab : Tab) (h : H) (b o : Nat) (l : List Value) : Prop where
 al : b < tab.ng ∨ (b < h.next ∧ (h.get b).isSome = true)
 at_ : ∀ (i : Nat) (v : Value), l[i]? = some v → cellAt tab h b (o + i) = some v
theorem Mem.kept {tab : Tab} {h h' : H} {b o : Nat} {l : List Value} (m : Mem tab h b o l) (k : Kept h h') : Mem tab h' b o l := by
 rcases m.al with q | ⟨q, q2⟩
 ·exact ⟨.inl q, fun i v hv => by have := m.at_ i v hv; unfold cellAt at this ⊢; rw [if_pos q] at this ⊢; exact this⟩
 ·have e := k.get b q
  exact ⟨.inr ⟨Nat.lt_of_lt_of_le q k.le, by rw [e]; exact q2⟩, fun i v hv => by have := m.at_ i v hv; unfold cellAt at this ⊢; rw [e]; exact this⟩
theorem Mem.lt {tab : Tab} {h : H} {b o : Nat} {l : List Value} (m : Mem tab h b o l) (hng : tab.ng ≤ h.next) : b < h.next := by
 rcases m.al with q | ⟨q, _⟩
 ·omega
 ·exact q
theorem globSub_of {E : Env} {g : Nat} : ∀ {l : List Value} {o : Nat}, (∀ (i : Nat) (v : Value), l[i]? = some v → E.glob g (o + i) = some v) → globSub E g o l.length = some l
 | [], _, _ => rfl
 | v :: l, o, h => by
  have h0 := h 0 v rfl
  have ih := globSub_of (l := l) (o := o + 1) (g := g) (E := E) fun i w hw => by
   have := h (i + 1) w (by simpa using hw)
   rwa [show o + (i + 1) = o + 1 + i by omega] at this
  rw [Nat.add_zero] at h0
  simp only [List.length_cons, globSub, h0, ih]
theorem objSub_of {ob : Obj} : ∀ {l : List Value} {o : Nat}, (∀ (i : Nat) (v : Value), l[i]? = some v → ob.get? (o + i) = some v) → Obj.sub ob o l.length = some l
 | [], _, _ => rfl
 | v :: l, o, h => by
  have h0 := h 0 v rfl
  have ih := objSub_of (l := l) (o := o + 1) (ob := ob) fun i w hw => by
   have := h (i + 1) w (by simpa using hw)
   rwa [show o + (i + 1) = o + 1 + i by omega] at this
  rw [Nat.add_zero] at h0
  simp only [List.length_cons, Obj.sub, h0, ih]
theorem Mem.all {tab : Tab} {h : H} {b o : Nat} {l : List Value} (m : Mem tab h b o l) : subD (EV tab) h b o l.length = some l := by
 unfold subD
 rw [ng_eq]
 by_cases q : b < tab.ng
 ·rw [if_pos q]
  exact globSub_of fun i v hv => by have := m.at_ i v hv; unfold cellAt at this; rw [if_pos q] at this; exact this
 ·rw [if_neg q]
  rcases m.al with q' | ⟨_, q2⟩
  ·exact absurd q' q
  ·obtain ⟨ob, hob⟩ := Option.isSome_iff_exists.1 q2
   rw [hob]
   exact objSub_of fun i v hv => by have := m.at_ i v hv; unfold cellAt at this; rw [if_neg q, hob] at this; exact this
theorem Mem.part {tab : Tab} {h : H} {b o : Nat} {l1 l2 l3 : List Value} {k : Nat} (m : Mem tab h b o (l1 ++ (l2 ++ l3))) (hk : l1.length = k) : Mem tab h b (o + k) l2 :=
 ⟨m.al, fun i v hv => by
  have := m.at_ (k + i) v (by rw [List.getElem?_append_right (by omega), hk, Nat.add_sub_cancel_left, List.getElem?_append_left (List.getElem?_eq_some_iff.1 hv).1]; exact hv)
  rwa [← Nat.add_assoc] at this⟩
theorem mem_cells {tab : Tab} {h : H} {b e z : Nat} {l : List Value} (hb : tab.ng ≤ b) (hl : b < h.next) (hg : h.get b = some (.cells e z l)) : Mem tab h b 0 l :=
 ⟨.inr ⟨hl, by rw [hg]; rfl⟩, fun i v hv => by
  unfold cellAt
  rw [if_neg (Nat.not_lt.2 hb), hg, Nat.zero_add]; exact hv⟩
theorem Mem.ins {tab : Tab} {h : H} {b o : Nat} {l : List Ins} (m : Mem tab h b o (cellsI l)) (i : Nat) (hi : i < l.length) : subD (EV tab) h b (o + i * 6) 6 = some (insC l[i]) := by
 rw [cellsI_split l i hi] at m
 exact (m.part (by rw [cellsI_len, List.length_take]; congr 1; omega)).all
def InS (tab : Tab) (h : H) (v : Value) (_e : Nat) (l : List Ins) : Prop := (v = .slice none 0 0 ∧ l = []) ∨ ∃ b o c, v = .slice (some ⟨b, o, none⟩) l.length c ∧ Mem tab h b o (cellsI l)
theorem InS.kept {tab : Tab} {h h' : H} {v : Value} {e : Nat} {l : List Ins} (i : InS tab h v e l) (k : Kept h h') : InS tab h' v e l := by
 rcases i with i | ⟨b, o, c, i1, i2⟩
 ·exact .inl i
 ·exact .inr ⟨b, o, c, i1, i2.kept k⟩
theorem Row.ins {tab : Tab} {h0 h : H} {v : Value} {e : Nat} {l : List Ins} (r : Row h0 h e 6 v l.length (cellsI l)) (hng : tab.ng ≤ h0.next) : InS tab h v e l := by
 rcases r with ⟨r1, r2, _⟩ | ⟨b, r1, r2, r3, r4, _⟩
 ·exact .inl ⟨r1, List.eq_nil_of_length_eq_zero r2⟩
 ·exact .inr ⟨b, 0, 0, r1, mem_cells (by omega) r3 r4⟩
noncomputable def cvLoopT : Code := .loop (.seq (Rg 7 3) (.seq (.cond (Operand.tmp 9) .skip (Code.exit 0)) (.seq (.block 1 (.seq (Rg 7 4) (Rg 7 5))) (Rg 7 6))))
theorem cv_loopT (tab : Tab) (h0 : H) (hng : tab.ng ≤ h0.next) (b o c : Nat) (l : List Ins) (hm : Mem tab h0 b o (cellsI l)) (hn : l.length ≤ 100000) :
  ∀ (k i : Nat) (tm : Tr Value) (h : H) (v : Value), i + k = l.length → tm.get 3 = some v → tm.get 6 = some (.slice (some ⟨b, o, none⟩) l.length c) → tm.get 7 = some (.int .i64 l.length) → tm.get 8 = some (.int .i64 i) →
  Row h0 h 45 6 v i (cellsI (l.take i)) → Kept h0 h →
  ∃ tm' h' v', exR (EV tab) cvLoopT ⟨false, 18, tm, h⟩ = some (.exit 0, ⟨false, 18, tm', h'⟩) ∧ tm'.get 3 = some v' ∧ Row h0 h' 45 6 v' l.length (cellsI l) ∧ Kept h0 h' := by
 intro k
 induction k with
 | zero =>
  intro i tm h v hk t3 t6 t7 t8 hr hkp
  have hlt : ¬ i < l.length := by omega
  generalize he : exR (EV tab) cvLoopT ⟨false, 18, tm, h⟩ = r
  rw [cvLoopT, exR_loop] at he
  simp only [sS, sevalprocAttr, fF7, tT, t7, t8, iLss, Int.ofNat_lt, hlt, decide_false] at he
  subst he
  rw [List.take_of_length_le (by omega), show i = l.length by omega] at hr
  exact ⟨_, h, v, rfl, by simp only [Tr.get_set, Nat.reduceEqDiff, ↓reduceIte, t3], hr, hkp⟩
 | succ k ih =>
  intro i tm h v hk t3 t6 t7 t8 hr hkp
  have hlt : i < l.length := by omega
  have hsub := (hm.kept hkp).ins i hlt
  have hnb : ¬ h.next = b := by have := (hm.kept hkp).lt (Nat.le_trans hng hkp.le); omega
  have hhn : ¬ h.next < tab.ng := by have := hkp.le; omega
  have hk2 : Kept h0 ((h.push (.cells 44 6 [.int .i64 0, .string ⟨#[]⟩, .string ⟨#[]⟩, .int .u64 0, .int .i64 0, .int .i64 0])).put h.next (.cells 44 6 (insC l[i]))) := (hkp.push _).put _ hkp.le
  have hr2 : Row h0 ((((h.push (.cells 44 6 [.int .i64 0, .string ⟨#[]⟩, .string ⟨#[]⟩, .int .u64 0, .int .i64 0, .int .i64 0])).put h.next (.cells 44 6 (insC l[i])))).push (.cells 45 6 (insC l[i]))) 45 6 v i (cellsI (l.take i)) := by
   rcases hr with r | ⟨q, r1, r2, r3, r4, r5⟩
   ·exact .inl r
   ·refine .inr ⟨q, r1, r2, by simp only [H.next_push, H.next_put]; omega, ?_, r5⟩
    rw [H.get_push_lt _ _ (by simp only [H.next_push, H.next_put]; omega), H.get_put, if_neg (by omega), H.get_push_lt _ _ r3]; exact r4
  obtain ⟨v1, h1, e, rr, kk⟩ := append_row (E := EV tab) (t := 29) (ti29 tab) rfl (ti45 tab) rfl (by rw [bt_eq]; show 45 ≠ 94; decide) hng hr2 (hk2.push _)
   (new_ins tab 45 ((((h.push (.cells 44 6 [.int .i64 0, .string ⟨#[]⟩, .string ⟨#[]⟩, .int .u64 0, .int .i64 0, .int .i64 0])).put h.next (.cells 44 6 (insC l[i])))).push (.cells 45 6 (insC l[i]))) l[i] (h.next + 1) 3 (by omega) (by simp only [H.get_push, H.next_put, H.next_push, if_true]) _) (insC_one _) (by decide) (by omega) rfl
  rw [← cellsI_take l i hlt] at rr
  have hs2 : ∀ a b c d e f : Value, Obj.sub (.cells 44 6 [a, b, c, d, e, f]) 0 6 = some [a, b, c, d, e, f] := fun _ _ _ _ _ _ => rfl
  have e' := e
  simp only [insC, insL] at e' hsub
  obtain ⟨tm1, e1, a3, a6, a7, a8⟩ : ∃ tm1, exR (EV tab) cvLoopT ⟨false, 18, tm, h⟩ = exR (EV tab) cvLoopT ⟨false, 18, tm1, h1⟩ ∧ tm1.get 3 = some v1 ∧ tm1.get 6 = some (.slice (some ⟨b, o, none⟩) l.length c) ∧ tm1.get 7 = some (.int .i64 l.length) ∧ tm1.get 8 = some (.int .i64 ((i + 1 : Nat) : Int)) := by
   generalize he : exR (EV tab) cvLoopT ⟨false, 18, tm, h⟩ = r
   rw [cvLoopT, exR_loop] at he
   simp only [sS, sevalprocAttr, fF7, tT, sN, sO, ng_eq, tabL_ng, t3, t6, t7, t8, iLss, Int.ofNat_lt, hlt, decide_true, Int.natCast_nonneg, and_self, Int.toNat_natCast, hnb, hhn, hsub, hs2, e', add1 i (by omega)] at he
   subst he
   refine ⟨_, rfl, ?_, ?_, ?_, ?_⟩ <;> simp only [Tr.get_set, Nat.reduceEqDiff, ↓reduceIte, t6, t7]
  obtain ⟨tm', h', v', x1, x2, x3, x4⟩ := ih (i + 1) tm1 h1 v1 (by omega) a3 a6 a7 a8 rr kk
  exact ⟨tm', h', v', by rw [e1]; exact x1, x2, x3, x4⟩
theorem cv_runT (tab : Tab) (hx : ∀ l, callExt (EV tab) 7 l = none) (h : H) (hng : tab.ng ≤ h.next) (v : Value) (l : List Ins) (hv : InS tab h v 44 l) (hn : l.length ≤ 100000) :
  ∃ v' h', callR (EV tab) 7 [v] h = some (v', h') ∧ Row h h' 45 6 v' l.length (cellsI l) ∧ Kept h h' := by
 rcases hv with ⟨rfl, rfl⟩ | ⟨b, o, c, rfl, hm⟩
 ·generalize he : callR _ _ _ _ = r
  rw [enter7 _ _ _ (hx _) rfl] at he
  simp only [sS, sevalprocAttr, fF7, tT, sN, sM, exR_loop, ng_eq, tabL_ng, iLss, Int.cast_ofNat_Int, Int.reduceLT, decide_false, Int.lt_irrefl] at he
  subst he
  exact ⟨_, _, rfl, Row.nil _ _ _ _, Kept.refl h⟩
 ·have key : ∀ tm h1, (h1 = h ∧ tm.get 3 = some (.slice none 0 0) ∧ tm.get 6 = some (.slice (some ⟨b, o, none⟩) l.length c) ∧ tm.get 7 = some (.int .i64 l.length) ∧ tm.get 8 = some (.int .i64 0)) → ∃ x s', exR (EV tab) cvLoopT ⟨false, 18, tm, h1⟩ = some (x, s') ∧
    (x = .exit 0 ∧ ∃ tm' h' v', s' = ⟨false, 18, tm', h'⟩ ∧ tm'.get 3 = some v' ∧ Row h h' 45 6 v' l.length (cellsI l) ∧ Kept h h') := fun tm h1 p => by
   obtain ⟨rfl, p3, p6, p7, p8⟩ := p
   obtain ⟨tm', h', v', x1, x2, x3, x4⟩ := cv_loopT tab h1 hng b o c l hm hn l.length 0 tm h1 (.slice none 0 0) (by omega) p3 p6 p7 p8 (Row.nil _ _ _ _) (Kept.refl h1)
   exact ⟨_, _, x1, rfl, tm', h', v', rfl, x2, x3, x4⟩
  generalize he : callR _ _ _ _ = r
  rw [enter7 _ _ _ (hx _) rfl] at he
  simp only [sS, sevalprocAttr, r7_0, r7_1, r7_2, tT] at he
  obtain ⟨x1, s1, ⟨rfl, tm', h', v', rfl, x2, x3, x4⟩, he⟩ := use_run key (fun o => finish (EV tab) [ResultVar.tmp 2] (andThen (unblock 0 o) (exR (EV tab) (.seq (Rg 7 7) .ret)))) he (by
   refine ⟨rfl, ?_, ?_, ?_, ?_⟩ <;> simp only [Tr.get_set, Nat.reduceEqDiff, ↓reduceIte])
  simp only [sS, sevalprocAttr, fF7, tT, x2] at he
  subst he
  exact ⟨v', h', rfl, x3, x4⟩
noncomputable def cvLoopD : Code := .loop (.seq (Rg 14 3) (.seq (.cond (Operand.tmp 9) .skip (Code.exit 0)) (.seq (.block 1 (.seq (Rg 14 4) (Rg 14 5))) (Rg 14 6))))
theorem cv_loopD (tab : Tab) (h0 : H) (hng : tab.ng ≤ h0.next) (b o c : Nat) (l : List Ins) (hm : Mem tab h0 b o (cellsI l)) (hn : l.length ≤ 100000) :
  ∀ (k i : Nat) (tm : Tr Value) (h : H) (v : Value), i + k = l.length → tm.get 3 = some v → tm.get 6 = some (.slice (some ⟨b, o, none⟩) l.length c) → tm.get 7 = some (.int .i64 l.length) → tm.get 8 = some (.int .i64 i) →
  Row h0 h 44 6 v i (cellsI (l.take i)) → Kept h0 h →
  ∃ tm' h' v', exR (EV tab) cvLoopD ⟨false, 18, tm, h⟩ = some (.exit 0, ⟨false, 18, tm', h'⟩) ∧ tm'.get 3 = some v' ∧ Row h0 h' 44 6 v' l.length (cellsI l) ∧ Kept h0 h' := by
 intro k
 induction k with
 | zero =>
  intro i tm h v hk t3 t6 t7 t8 hr hkp
  have hlt : ¬ i < l.length := by omega
  generalize he : exR (EV tab) cvLoopD ⟨false, 18, tm, h⟩ = r
  rw [cvLoopD, exR_loop] at he
  simp only [sS, sevalprocAttr, fF14, tT, t7, t8, iLss, Int.ofNat_lt, hlt, decide_false] at he
  subst he
  rw [List.take_of_length_le (by omega), show i = l.length by omega] at hr
  exact ⟨_, h, v, rfl, by simp only [Tr.get_set, Nat.reduceEqDiff, ↓reduceIte, t3], hr, hkp⟩
 | succ k ih =>
  intro i tm h v hk t3 t6 t7 t8 hr hkp
  have hlt : i < l.length := by omega
  have hsub := (hm.kept hkp).ins i hlt
  have hnb : ¬ h.next = b := by have := (hm.kept hkp).lt (Nat.le_trans hng hkp.le); omega
  have hhn : ¬ h.next < tab.ng := by have := hkp.le; omega
  have hk2 : Kept h0 ((h.push (.cells 45 6 [.int .i64 0, .string ⟨#[]⟩, .string ⟨#[]⟩, .int .u64 0, .int .i64 0, .int .i64 0])).put h.next (.cells 45 6 (insC l[i]))) := (hkp.push _).put _ hkp.le
  have hr2 : Row h0 ((((h.push (.cells 45 6 [.int .i64 0, .string ⟨#[]⟩, .string ⟨#[]⟩, .int .u64 0, .int .i64 0, .int .i64 0])).put h.next (.cells 45 6 (insC l[i])))).push (.cells 44 6 (insC l[i]))) 44 6 v i (cellsI (l.take i)) := by
   rcases hr with r | ⟨q, r1, r2, r3, r4, r5⟩
   ·exact .inl r
   ·refine .inr ⟨q, r1, r2, by simp only [H.next_push, H.next_put]; omega, ?_, r5⟩
    rw [H.get_push_lt _ _ (by simp only [H.next_push, H.next_put]; omega), H.get_put, if_neg (by omega), H.get_push_lt _ _ r3]; exact r4
  obtain ⟨v1, h1, e, rr, kk⟩ := append_row (E := EV tab) (t := 22) (ti22 tab) rfl (ti44 tab) rfl (by rw [bt_eq]; show 44 ≠ 94; decide) hng hr2 (hk2.push _)
   (new_ins tab 44 ((((h.push (.cells 45 6 [.int .i64 0, .string ⟨#[]⟩, .string ⟨#[]⟩, .int .u64 0, .int .i64 0, .int .i64 0])).put h.next (.cells 45 6 (insC l[i])))).push (.cells 44 6 (insC l[i]))) l[i] (h.next + 1) 3 (by omega) (by simp only [H.get_push, H.next_put, H.next_push, if_true]) _) (insC_one _) (by decide) (by omega) rfl
  rw [← cellsI_take l i hlt] at rr
  have hs2 : ∀ a b c d e f : Value, Obj.sub (.cells 45 6 [a, b, c, d, e, f]) 0 6 = some [a, b, c, d, e, f] := fun _ _ _ _ _ _ => rfl
  have e' := e
  simp only [insC, insL] at e' hsub
  obtain ⟨tm1, e1, a3, a6, a7, a8⟩ : ∃ tm1, exR (EV tab) cvLoopD ⟨false, 18, tm, h⟩ = exR (EV tab) cvLoopD ⟨false, 18, tm1, h1⟩ ∧ tm1.get 3 = some v1 ∧ tm1.get 6 = some (.slice (some ⟨b, o, none⟩) l.length c) ∧ tm1.get 7 = some (.int .i64 l.length) ∧ tm1.get 8 = some (.int .i64 ((i + 1 : Nat) : Int)) := by
   generalize he : exR (EV tab) cvLoopD ⟨false, 18, tm, h⟩ = r
   rw [cvLoopD, exR_loop] at he
   simp only [sS, sevalprocAttr, fF14, tT, sN, sO, ng_eq, tabL_ng, t3, t6, t7, t8, iLss, Int.ofNat_lt, hlt, decide_true, Int.natCast_nonneg, and_self, Int.toNat_natCast, hnb, hhn, hsub, hs2, e', add1 i (by omega)] at he
   subst he
   refine ⟨_, rfl, ?_, ?_, ?_, ?_⟩ <;> simp only [Tr.get_set, Nat.reduceEqDiff, ↓reduceIte, t6, t7]
  obtain ⟨tm', h', v', x1, x2, x3, x4⟩ := ih (i + 1) tm1 h1 v1 (by omega) a3 a6 a7 a8 rr kk
  exact ⟨tm', h', v', by rw [e1]; exact x1, x2, x3, x4⟩
theorem cv_runD (tab : Tab) (hx : ∀ l, callExt (EV tab) 14 l = none) (h : H) (hng : tab.ng ≤ h.next) (v : Value) (l : List Ins) (hv : InS tab h v 45 l) (hn : l.length ≤ 100000) :
  ∃ v' h', callR (EV tab) 14 [v] h = some (v', h') ∧ Row h h' 44 6 v' l.length (cellsI l) ∧ Kept h h' := by
 rcases hv with ⟨rfl, rfl⟩ | ⟨b, o, c, rfl, hm⟩
 ·generalize he : callR _ _ _ _ = r
  rw [enter14 _ _ _ (hx _) rfl] at he
  simp only [sS, sevalprocAttr, fF14, tT, sN, sM, exR_loop, ng_eq, tabL_ng, iLss, Int.cast_ofNat_Int, Int.reduceLT, decide_false, Int.lt_irrefl] at he
  subst he
  exact ⟨_, _, rfl, Row.nil _ _ _ _, Kept.refl h⟩
 ·have key : ∀ tm h1, (h1 = h ∧ tm.get 3 = some (.slice none 0 0) ∧ tm.get 6 = some (.slice (some ⟨b, o, none⟩) l.length c) ∧ tm.get 7 = some (.int .i64 l.length) ∧ tm.get 8 = some (.int .i64 0)) → ∃ x s', exR (EV tab) cvLoopD ⟨false, 18, tm, h1⟩ = some (x, s') ∧
    (x = .exit 0 ∧ ∃ tm' h' v', s' = ⟨false, 18, tm', h'⟩ ∧ tm'.get 3 = some v' ∧ Row h h' 44 6 v' l.length (cellsI l) ∧ Kept h h') := fun tm h1 p => by
   obtain ⟨rfl, p3, p6, p7, p8⟩ := p
   obtain ⟨tm', h', v', x1, x2, x3, x4⟩ := cv_loopD tab h1 hng b o c l hm hn l.length 0 tm h1 (.slice none 0 0) (by omega) p3 p6 p7 p8 (Row.nil _ _ _ _) (Kept.refl h1)
   exact ⟨_, _, x1, rfl, tm', h', v', rfl, x2, x3, x4⟩
  generalize he : callR _ _ _ _ = r
  rw [enter14 _ _ _ (hx _) rfl] at he
  simp only [sS, sevalprocAttr, r14_0, r14_1, r14_2, tT] at he
  obtain ⟨x1, s1, ⟨rfl, tm', h', v', rfl, x2, x3, x4⟩, he⟩ := use_run key (fun o => finish (EV tab) [ResultVar.tmp 2] (andThen (unblock 0 o) (exR (EV tab) (.seq (Rg 14 7) .ret)))) he (by
   refine ⟨rfl, ?_, ?_, ?_, ?_⟩ <;> simp only [Tr.get_set, Nat.reduceEqDiff, ↓reduceIte])
  simp only [sS, sevalprocAttr, fF14, tT, x2] at he
  subst he
  exact ⟨v', h', rfl, x3, x4⟩
def chkI (x : Ins) : Int := checkI x.op x.t x.u x.num x.imm x.size
def errs (l : List Ins) : List Value := (l.map chkI).map (.int .i64)
theorem errs_take (l : List Ins) (i : Nat) (hi : i < l.length) : errs (l.take (i + 1)) = errs (l.take i) ++ [.int .i64 (chkI l[i])] := by
 have h : l.take (i + 1) = l.take i ++ [l[i]] := by rw [List.take_add_one, List.getElem?_eq_getElem hi]; rfl
 rw [h, errs, errs, List.map_append, List.map_append]; rfl
theorem new_one (tab : Tab) (e : Nat) (h : H) (v : Value) (b c : Nat) (hb : tab.ng ≤ b) (hg : h.get b = some (.cells e 1 [v])) (z : List Value) : newD (EV tab) h z 1 false (.slice (some ⟨b, 0, none⟩) 1 c) = some ([v], 1) := by
 have hs := sub_all e 1 [v]
 rw [show ([v] : List Value).length = 1 from rfl] at hs
 unfold newD
 simp only [Bool.false_eq_true, if_false, lenOfD, srcD, subD, ng_eq, tabL_ng, Nat.not_lt.2 hb, Nat.one_mul, hg, hs]
noncomputable def meLoop : Code := .loop (.seq (Rg 38 3) (.seq (.cond (Operand.tmp 11) .skip (Code.exit 0)) (.seq (.block 1 (.seq (Rg 38 4) (Rg 38 5))) (Rg 38 6))))
theorem me_loop (tab : Tab) (hc : CheckP tab 36) (h0 : H) (hng : tab.ng ≤ h0.next) (b o c : Nat) (l : List Ins) (hm : Mem tab h0 b o (cellsI l)) (hn : l.length ≤ 5000) :
  ∀ (k i : Nat) (tm : Tr Value) (h : H) (v : Value), i + k = l.length → tm.get 5 = some v → tm.get 1 = some (.func (.func 36) #[] #[]) → tm.get 8 = some (.slice (some ⟨b, o, none⟩) l.length c) → tm.get 9 = some (.int .i64 l.length) → tm.get 10 = some (.int .i64 i) →
  Row h0 h 26 1 v i (errs (l.take i)) → Kept h0 h →
  ∃ tm' h' v', exR (EV tab) meLoop ⟨false, 22, tm, h⟩ = some (.exit 0, ⟨false, 22, tm', h'⟩) ∧ tm'.get 5 = some v' ∧ Row h0 h' 26 1 v' l.length (errs l) ∧ Kept h0 h' := by
 intro k
 induction k with
 | zero =>
  intro i tm h v hk t5 t1 t8 t9 t10 hr hkp
  have hlt : ¬ i < l.length := by omega
  generalize he : exR (EV tab) meLoop ⟨false, 22, tm, h⟩ = r
  rw [meLoop, exR_loop] at he
  simp only [sS, sevalprocAttr, fF38, tT, t9, t10, iLss, Int.ofNat_lt, hlt, decide_false] at he
  subst he
  rw [List.take_of_length_le (by omega), show i = l.length by omega] at hr
  exact ⟨_, h, v, rfl, by simp only [Tr.get_set, Nat.reduceEqDiff, ↓reduceIte, t5], hr, hkp⟩
 | succ k ih =>
  intro i tm h v hk t5 t1 t8 t9 t10 hr hkp
  have hlt : i < l.length := by omega
  have hsub := (hm.kept hkp).ins i hlt
  have hnb : ¬ h.next = b := by have := (hm.kept hkp).lt (Nat.le_trans hng hkp.le); omega
  have hhn : ¬ h.next < tab.ng := by have := hkp.le; omega
  have hk2 : Kept h0 ((h.push (.cells 45 6 [.int .i64 0, .string ⟨#[]⟩, .string ⟨#[]⟩, .int .u64 0, .int .i64 0, .int .i64 0])).put h.next (.cells 45 6 (insC l[i]))) := (hkp.push _).put _ hkp.le
  have hr2 : Row h0 ((((h.push (.cells 45 6 [.int .i64 0, .string ⟨#[]⟩, .string ⟨#[]⟩, .int .u64 0, .int .i64 0, .int .i64 0])).put h.next (.cells 45 6 (insC l[i])))).push (.cells 26 1 [.int .i64 (chkI l[i])])) 26 1 v i (errs (l.take i)) := by
   rcases hr with r | ⟨q, r1, r2, r3, r4, r5⟩
   ·exact .inl r
   ·refine .inr ⟨q, r1, r2, by simp only [H.next_push, H.next_put]; omega, ?_, r5⟩
    rw [H.get_push_lt _ _ (by simp only [H.next_push, H.next_put]; omega), H.get_put, if_neg (by omega), H.get_push_lt _ _ r3]; exact r4
  obtain ⟨v1, h1, e, rr, kk⟩ := append_row (E := EV tab) (t := 111) (ti111 tab) rfl (ti26 tab) rfl (by rw [bt_eq]; show 26 ≠ 94; decide) hng hr2 (hk2.push _)
   (new_one tab 26 ((((h.push (.cells 45 6 [.int .i64 0, .string ⟨#[]⟩, .string ⟨#[]⟩, .int .u64 0, .int .i64 0, .int .i64 0])).put h.next (.cells 45 6 (insC l[i])))).push (.cells 26 1 [.int .i64 (chkI l[i])])) (.int .i64 (chkI l[i])) (h.next + 1) 3 (by omega) (by simp only [H.get_push, H.next_put, H.next_push, if_true]) _) rfl (by decide) (by omega) rfl
  rw [← errs_take l i hlt] at rr
  have hs2 : ∀ a b c d e f : Value, Obj.sub (.cells 45 6 [a, b, c, d, e, f]) 0 6 = some [a, b, c, d, e, f] := fun _ _ _ _ _ _ => rfl
  have e' := e
  have hc' := fun h => hc l[i].op l[i].t l[i].u l[i].num l[i].imm l[i].size h (by omega)
  simp only [insC, insL, insV] at e' hsub hc'
  rw [show checkI l[i].op l[i].t l[i].u l[i].num l[i].imm l[i].size = chkI l[i] from rfl] at hc'
  obtain ⟨tm1, e1, a5, a1, a8, a9, a10⟩ : ∃ tm1, exR (EV tab) meLoop ⟨false, 22, tm, h⟩ = exR (EV tab) meLoop ⟨false, 22, tm1, h1⟩ ∧ tm1.get 5 = some v1 ∧ tm1.get 1 = some (.func (.func 36) #[] #[]) ∧ tm1.get 8 = some (.slice (some ⟨b, o, none⟩) l.length c) ∧ tm1.get 9 = some (.int .i64 l.length) ∧ tm1.get 10 = some (.int .i64 ((i + 1 : Nat) : Int)) := by
   generalize he : exR (EV tab) meLoop ⟨false, 22, tm, h⟩ = r
   rw [meLoop, exR_loop] at he
   simp only [sS, sevalprocAttr, fF38, tT, sN, sO, ng_eq, tabL_ng, t1, t5, t8, t9, t10, iLss, Int.ofNat_lt, hlt, decide_true, Int.natCast_nonneg, and_self, Int.toNat_natCast, hnb, hhn, hsub, hs2, hc', e', add1 i (by omega)] at he
   subst he
   refine ⟨_, rfl, ?_, ?_, ?_, ?_, ?_⟩ <;> simp only [Tr.get_set, Nat.reduceEqDiff, ↓reduceIte, t1, t8, t9]
  obtain ⟨tm', h', v', x1, x2, x3, x4⟩ := ih (i + 1) tm1 h1 v1 (by omega) a5 a1 a8 a9 a10 rr kk
  exact ⟨tm', h', v', by rw [e1]; exact x1, x2, x3, x4⟩
theorem me_run (tab : Tab) (hx : ∀ l, callExt (EV tab) 38 l = none) (hc : CheckP tab 36) (h : H) (hng : tab.ng ≤ h.next) (v : Value) (l : List Ins) (hv : InS tab h v 45 l) (hn : l.length ≤ 5000) :
  ∃ v' h', callR (EV tab) 38 [v, .func (.func 36) #[] #[]] h = some (v', h') ∧ Row h h' 26 1 v' l.length (errs l) ∧ Kept h h' := by
 rcases hv with ⟨rfl, rfl⟩ | ⟨b, o, c, rfl, hm⟩
 ·generalize he : callR _ _ _ _ = r
  rw [enter38 _ _ _ (hx _) rfl] at he
  simp only [sS, sevalprocAttr, fF38, tT, sN, sM, exR_loop, ng_eq, tabL_ng, iLss, Int.cast_ofNat_Int, Int.reduceLT, decide_false, Int.lt_irrefl] at he
  subst he
  exact ⟨_, _, rfl, Row.nil _ _ _ _, Kept.refl h⟩
 ·have key : ∀ tm h1, (h1 = h ∧ tm.get 5 = some (.slice none 0 0) ∧ tm.get 1 = some (.func (.func 36) #[] #[]) ∧ tm.get 8 = some (.slice (some ⟨b, o, none⟩) l.length c) ∧ tm.get 9 = some (.int .i64 l.length) ∧ tm.get 10 = some (.int .i64 0)) → ∃ x s', exR (EV tab) meLoop ⟨false, 22, tm, h1⟩ = some (x, s') ∧
    (x = .exit 0 ∧ ∃ tm' h' v', s' = ⟨false, 22, tm', h'⟩ ∧ tm'.get 5 = some v' ∧ Row h h' 26 1 v' l.length (errs l) ∧ Kept h h') := fun tm h1 p => by
   obtain ⟨rfl, p3, p1, p6, p7, p8⟩ := p
   obtain ⟨tm', h', v', x1, x2, x3, x4⟩ := me_loop tab hc h1 hng b o c l hm hn l.length 0 tm h1 (.slice none 0 0) (by omega) p3 p1 p6 p7 p8 (Row.nil _ _ _ _) (Kept.refl h1)
   exact ⟨_, _, x1, rfl, tm', h', v', rfl, x2, x3, x4⟩
  generalize he : callR _ _ _ _ = r
  rw [enter38 _ _ _ (hx _) rfl] at he
  simp only [sS, sevalprocAttr, r38_0, r38_1, r38_2, tT] at he
  obtain ⟨x1, s1, ⟨rfl, tm', h', v', rfl, x2, x3, x4⟩, he⟩ := use_run key (fun o => finish (EV tab) [ResultVar.tmp 4] (andThen (unblock 0 o) (exR (EV tab) (.seq (Rg 38 7) .ret)))) he (by
   refine ⟨rfl, ?_, ?_, ?_, ?_, ?_⟩ <;> simp only [Tr.get_set, Nat.reduceEqDiff, ↓reduceIte])
  simp only [sS, sevalprocAttr, fF38, tT, x2] at he
  subst he
  exact ⟨v', h', rfl, x3, x4⟩
theorem first_nil (tab : Tab) (hx : ∀ l, callExt (EV tab) 37 l = none) (h : H) : callR (EV tab) 37 [.slice none 0 0] h = some (.int .i64 0, h) := by
 generalize he : callR _ _ _ _ = r
 rw [enter37 _ _ _ (hx _) rfl] at he
 simp only [sS, sevalprocAttr, fF37, tT, sN, sM, exR_loop, ng_eq, tabL_ng, iLss, Int.cast_ofNat_Int, Int.reduceLT, decide_false, Int.lt_irrefl] at he
 exact he.symm
def allI (l : List Ins) : Int := if 4000 < l.length then 5 else firstI (l.map chkI)
theorem checkAll_run (tab : Tab) (hx : ∀ l, callExt (EV tab) 21 l = none) (hxm : ∀ l, callExt (EV tab) 38 l = none) (hxf : ∀ l, callExt (EV tab) 37 l = none) (hc : CheckP tab 36) (h : H) (hng : tab.ng ≤ h.next) (v : Value) (l : List Ins) (hv : InS tab h v 45 l) (hn : l.length ≤ 5000) :
  ∃ h', callR (EV tab) 21 [v] h = some (.int .i64 (allI l), h') ∧ Kept h h' := by
 have hlen : ∃ a c, v = .slice a l.length c := by
  rcases hv with ⟨rfl, rfl⟩ | ⟨b, o, c, rfl, _⟩
  ·exact ⟨_, _, rfl⟩
  ·exact ⟨_, _, rfl⟩
 obtain ⟨v', h', e, r, k⟩ := me_run tab hxm hc h hng v l hv hn
 obtain ⟨a, c, rfl⟩ := hlen
 generalize he : callR _ _ _ _ = x
 rw [enter21 _ _ _ (hx _) rfl] at he
 unfold allI
 by_cases q : 4000 < l.length
 ·rw [if_pos q]
  have d : decide ((4000 : Int) < (l.length : Nat)) = true := decide_eq_true (by omega)
  simp only [sS, sevalprocAttr, fF21, tT, sN, sM, iGtr, gt_iff_lt, d] at he
  subst he
  exact ⟨_, rfl, Kept.refl h⟩
 ·rw [if_neg q]
  have d : decide ((4000 : Int) < (l.length : Nat)) = false := decide_eq_false (by omega)
  have ef : callR (EV tab) 37 [v'] h' = some (.int .i64 (firstI (l.map chkI)), h') := by
   rcases r with ⟨rfl, r2, _⟩ | ⟨b, rfl, r2, r3, r4, r5⟩
   ·have : l = [] := List.eq_nil_of_length_eq_zero r2
    subst this
    exact first_nil tab hxf h'
   ·exact first_run tab hxf h' b 0 l.length (l.map chkI) (by omega) r4 (by simp) (by omega)
  simp only [sS, sevalprocAttr, fF21, tT, sN, sM, iGtr, gt_iff_lt, d, e, ef] at he
  subst he
  exact ⟨_, rfl, k⟩
noncomputable def clLoop : Code := .loop (.seq (.seq (Rg 25 4) (.cond (Operand.tmp 11) .skip (Code.exit 0))) (.seq (.block 1 (.seq (Rg 25 6) (.seq (Rg 25 7) (.cond (Operand.tmp 20) (.seq (Rg 25 8) .ret) .skip)))) (Rg 25 5)))
theorem cl_loop (tab : Tab) (hc : CheckP tab 41) (h : H) (b o c : Nat) (l : List Ins) (hm : Mem tab h b o (cellsI l)) (hn : l.length ≤ 5000) :
  ∀ (k i : Nat) (tm : Tr Value), i + k = l.length → tm.get 0 = some (.slice (some ⟨b, o, none⟩) l.length c) → tm.get 3 = some (.int .i64 i) →
  ∃ tm', (exR (EV tab) clLoop ⟨false, 22, tm, h⟩ = some (.exit 0, ⟨false, 22, tm', h⟩) ∧ firstI ((l.drop i).map chkI) = 0) ∨
   (exR (EV tab) clLoop ⟨false, 22, tm, h⟩ = some (.ret, ⟨false, 22, tm', h⟩) ∧ tm'.get 2 = some (.int .i64 (firstI ((l.drop i).map chkI)))) := by
 intro k
 induction k with
 | zero =>
  intro i tm hk t0 t3
  have hlt : ¬ i < l.length := by omega
  generalize he : exR (EV tab) clLoop ⟨false, 22, tm, h⟩ = r
  rw [clLoop, exR_loop] at he
  simp only [sS, sevalprocAttr, fF25, tT, t0, t3, iLss, Int.ofNat_lt, hlt, decide_false] at he
  subst he
  exact ⟨_, .inl ⟨rfl, by rw [List.drop_eq_nil_of_le (by omega)]; rfl⟩⟩
 | succ k ih =>
  intro i tm hk t0 t3
  have hlt : i < l.length := by omega
  have hd : l.drop i = l[i] :: l.drop (i + 1) := (List.getElem_cons_drop hlt).symm
  have hsub := hm.ins i hlt
  have hc' := fun h => hc l[i].op l[i].t l[i].u l[i].num l[i].imm l[i].size h (by omega)
  simp only [insC, insL, insV] at hsub hc'
  rw [show checkI l[i].op l[i].t l[i].u l[i].num l[i].imm l[i].size = chkI l[i] from rfl] at hc'
  rw [hd, List.map_cons, firstI]
  by_cases q : chkI l[i] = 0
  ·rw [if_pos q]
   have z : (chkI l[i] != 0) = false := by rw [q]; rfl
   obtain ⟨tm1, e1, a0, a3⟩ : ∃ tm1, exR (EV tab) clLoop ⟨false, 22, tm, h⟩ = exR (EV tab) clLoop ⟨false, 22, tm1, h⟩ ∧ tm1.get 0 = some (.slice (some ⟨b, o, none⟩) l.length c) ∧ tm1.get 3 = some (.int .i64 ((i + 1 : Nat) : Int)) := by
    generalize he : exR (EV tab) clLoop ⟨false, 22, tm, h⟩ = r
    rw [clLoop, exR_loop] at he
    simp only [sS, sevalprocAttr, fF25, tT, sN, sO, ng_eq, tabL_ng, t0, t3, iLss, Int.ofNat_lt, hlt, decide_true, Int.natCast_nonneg, and_self, Int.toNat_natCast, hsub, hc', iNeq, z, add1 i (by omega)] at he
    subst he
    refine ⟨_, rfl, ?_, ?_⟩ <;> simp only [Tr.get_set, Nat.reduceEqDiff, ↓reduceIte, t0]
   rw [e1]
   exact ih (i + 1) tm1 (by omega) a0 a3
  ·rw [if_neg q]
   have z : (chkI l[i] != 0) = true := by simpa using q
   generalize he : exR (EV tab) clLoop ⟨false, 22, tm, h⟩ = r
   rw [clLoop, exR_loop] at he
   simp only [sS, sevalprocAttr, fF25, tT, sN, sO, ng_eq, tabL_ng, t0, t3, iLss, Int.ofNat_lt, hlt, decide_true, Int.natCast_nonneg, and_self, Int.toNat_natCast, hsub, hc', iNeq, z] at he
   subst he
   exact ⟨_, .inr ⟨rfl, by simp only [Tr.get_set, Nat.reduceEqDiff, ↓reduceIte]⟩⟩
theorem checkList_run (tab : Tab) (hx : ∀ l, callExt (EV tab) 25 l = none) (hc : CheckP tab 41) (h : H) (v : Value) (l : List Ins) (hv : InS tab h v 44 l) (hn : l.length ≤ 5000) :
  callR (EV tab) 25 [v] h = some (.int .i64 (allI l), h) := by
 rcases hv with ⟨rfl, rfl⟩ | ⟨b, o, c, rfl, hm⟩
 ·generalize he : callR _ _ _ _ = r
  rw [enter25 _ _ _ (hx _) rfl] at he
  simp only [sS, sevalprocAttr, fF25, tT, sN, sM, exR_loop, ng_eq, tabL_ng, iLss, iGtr, gt_iff_lt, Int.cast_ofNat_Int, Int.reduceLT, decide_false, Int.lt_irrefl] at he
  exact he.symm
 ·generalize he : callR _ _ _ _ = x
  rw [enter25 _ _ _ (hx _) rfl] at he
  unfold allI
  by_cases q : 4000 < l.length
  ·rw [if_pos q]
   have d : decide ((4000 : Int) < (l.length : Nat)) = true := decide_eq_true (by omega)
   simp only [sS, sevalprocAttr, fF25, tT, sN, sM, iGtr, gt_iff_lt, d] at he
   exact he.symm
  ·rw [if_neg q]
   have d : decide ((4000 : Int) < (l.length : Nat)) = false := decide_eq_false (by omega)
   have key : ∀ tm h1, (h1 = h ∧ tm.get 0 = some (.slice (some ⟨b, o, none⟩) l.length c) ∧ tm.get 3 = some (.int .i64 0)) → ∃ x s', exR (EV tab) clLoop ⟨false, 22, tm, h1⟩ = some (x, s') ∧
     ((x = .exit 0 ∧ ∃ tm', s' = ⟨false, 22, tm', h⟩ ∧ firstI (l.map chkI) = 0) ∨ (x = .ret ∧ ∃ tm', s' = ⟨false, 22, tm', h⟩ ∧ tm'.get 2 = some (.int .i64 (firstI (l.map chkI))))) := fun tm h1 p => by
    obtain ⟨rfl, p0, p3⟩ := p
    obtain ⟨tm', ⟨e, z⟩ | ⟨e, z⟩⟩ := cl_loop tab hc h1 b o c l hm hn l.length 0 tm (by omega) p0 p3
    ·exact ⟨_, _, e, .inl ⟨rfl, tm', rfl, by rw [List.drop_zero] at z; exact z⟩⟩
    ·exact ⟨_, _, e, .inr ⟨rfl, tm', rfl, by rw [List.drop_zero] at z; exact z⟩⟩
   simp only [sS, sevalprocAttr, r25_0, r25_1, r25_3, tT, iGtr, gt_iff_lt, d] at he
   obtain ⟨x1, s1, ⟨rfl, tm', rfl, z⟩ | ⟨rfl, tm', rfl, z⟩, he⟩ := use_run key (fun o => finish (EV tab) [ResultVar.tmp 2] (andThen (unblock 0 o) (exR (EV tab) (.seq (Rg 25 9) .ret)))) he (by
    refine ⟨rfl, ?_, ?_⟩ <;> simp only [Tr.get_set, Nat.reduceEqDiff, ↓reduceIte])
   ·rw [z]
    simp only [sS, sevalprocAttr, fF25, tT] at he
    exact he.symm
   ·simp only [sS, sevalprocAttr, fF25, tT, z] at he
    exact he.symm
def okS (x : Ins) : Bool := decide (x.t.length ≤ 100) && decide (x.u.length ≤ 100)
def shortB (l : List Ins) : Bool := !(decide (200 < l.length) && decide (l.length ≠ 4001)) && l.all okS
noncomputable def shLoop : Code := .loop (.seq (Rg 4 4) (.seq (.cond (Operand.tmp 16) .skip (Code.exit 0)) (.seq (.block 1 (.seq (Rg 4 5) (.seq (Rg 4 6) (.cond (Operand.tmp 28) (.seq (Rg 4 7) .ret) .skip)))) (Rg 4 8))))
theorem sh_loop (tab : Tab) (h0 : H) (hng : tab.ng ≤ h0.next) (b o c : Nat) (l : List Ins) (hm : Mem tab h0 b o (cellsI l)) (hn : l.length ≤ 5000) :
  ∀ (k i : Nat) (tm : Tr Value) (h : H), i + k = l.length → tm.get 13 = some (.slice (some ⟨b, o, none⟩) l.length c) → tm.get 14 = some (.int .i64 l.length) → tm.get 15 = some (.int .i64 i) → Kept h0 h →
  ∃ tm' h', Kept h0 h' ∧ ((exR (EV tab) shLoop ⟨false, 30, tm, h⟩ = some (.exit 0, ⟨false, 30, tm', h'⟩) ∧ (l.drop i).all okS = true) ∨
   (exR (EV tab) shLoop ⟨false, 30, tm, h⟩ = some (.ret, ⟨false, 30, tm', h'⟩) ∧ (l.drop i).all okS = false ∧ tm'.get 2 = some (.bool false))) := by
 intro k
 induction k with
 | zero =>
  intro i tm h hk t13 t14 t15 hkp
  have hlt : ¬ i < l.length := by omega
  generalize he : exR (EV tab) shLoop ⟨false, 30, tm, h⟩ = r
  rw [shLoop, exR_loop] at he
  simp only [sS, sevalprocAttr, fF4, tT, t14, t15, iLss, Int.ofNat_lt, hlt, decide_false] at he
  subst he
  exact ⟨_, h, hkp, .inl ⟨rfl, by rw [List.drop_eq_nil_of_le (by omega)]; rfl⟩⟩
 | succ k ih =>
  intro i tm h hk t13 t14 t15 hkp
  have hlt : i < l.length := by omega
  have hd : l.drop i = l[i] :: l.drop (i + 1) := (List.getElem_cons_drop hlt).symm
  have hsub := (hm.kept hkp).ins i hlt
  have hhn : ¬ h.next < tab.ng := by have := hkp.le; omega
  have hnb : ¬ h.next = b := by have := (hm.kept hkp).lt (Nat.le_trans hng hkp.le); omega
  have hs1 : ∀ a b c d e f : Value, Obj.sub (.cells 44 6 [a, b, c, d, e, f]) 1 1 = some [b] := fun _ _ _ _ _ _ => rfl
  have hs2 : ∀ a b c d e f : Value, Obj.sub (.cells 44 6 [a, b, c, d, e, f]) 2 1 = some [c] := fun _ _ _ _ _ _ => rfl
  have z1 : (ByteArray.mk ⟨l[i].t⟩).size = l[i].t.length := rfl
  have z2 : (ByteArray.mk ⟨l[i].u⟩).size = l[i].u.length := rfl
  simp only [insC, insL] at hsub
  have g1 : decide ((100 : Int) < (l[i].t.length : Nat)) = !decide (l[i].t.length ≤ 100) := by by_cases h : l[i].t.length ≤ 100 <;> simp [h] <;> omega
  have g2 : decide ((100 : Int) < (l[i].u.length : Nat)) = !decide (l[i].u.length ≤ 100) := by by_cases h : l[i].u.length ≤ 100 <;> simp [h] <;> omega
  rw [hd, List.all_cons]
  have hk3 : Kept h0 ((h.push (.cells 44 6 [.int .i64 0, .string ⟨#[]⟩, .string ⟨#[]⟩, .int .u64 0, .int .i64 0, .int .i64 0])).put h.next (.cells 44 6 (insC l[i]))) := (hkp.push _).put _ hkp.le
  cases q : okS l[i] with
  | true =>
   simp only [okS, Bool.and_eq_true] at q
   obtain ⟨q1, q2⟩ := q
   obtain ⟨tm1, e1, a13, a14, a15⟩ : ∃ tm1, exR (EV tab) shLoop ⟨false, 30, tm, h⟩ = exR (EV tab) shLoop ⟨false, 30, tm1, (h.push (.cells 44 6 [.int .i64 0, .string ⟨#[]⟩, .string ⟨#[]⟩, .int .u64 0, .int .i64 0, .int .i64 0])).put h.next (.cells 44 6 (insC l[i]))⟩ ∧ tm1.get 13 = some (.slice (some ⟨b, o, none⟩) l.length c) ∧ tm1.get 14 = some (.int .i64 l.length) ∧ tm1.get 15 = some (.int .i64 ((i + 1 : Nat) : Int)) := by
    generalize he : exR (EV tab) shLoop ⟨false, 30, tm, h⟩ = r
    rw [shLoop, exR_loop] at he
    simp only [sS, sevalprocAttr, fF4, tT, sN, sO, ng_eq, tabL_ng, t13, t14, t15, iLss, iGtr, gt_iff_lt, Int.ofNat_lt, hlt, decide_true, Int.natCast_nonneg, and_self, Int.toNat_natCast, hnb, hhn, hsub, hs1, hs2, z1, z2, g1, g2, q1, q2, Bool.not_true, add1 i (by omega)] at he
    subst he
    refine ⟨_, rfl, ?_, ?_, ?_⟩ <;> simp only [Tr.get_set, Nat.reduceEqDiff, ↓reduceIte, t13, t14]
   obtain ⟨tm', h', k', x⟩ := ih (i + 1) tm1 _ (by omega) a13 a14 a15 hk3
   rw [e1]
   exact ⟨tm', h', k', by simpa using x⟩
  | false =>
   generalize he : exR (EV tab) shLoop ⟨false, 30, tm, h⟩ = r
   rw [shLoop, exR_loop] at he
   cases q1 : decide (l[i].t.length ≤ 100) with
   | false =>
    simp only [sS, sevalprocAttr, fF4, tT, sN, sO, ng_eq, tabL_ng, t13, t14, t15, iLss, iGtr, gt_iff_lt, Int.ofNat_lt, hlt, decide_true, Int.natCast_nonneg, and_self, Int.toNat_natCast, hnb, hhn, hsub, hs1, hs2, z1, z2, g1, g2, q1, Bool.not_false] at he
    subst he
    exact ⟨_, _, hk3, .inr ⟨rfl, rfl, by simp only [Tr.get_set, Nat.reduceEqDiff, ↓reduceIte]⟩⟩
   | true =>
    have q2 : decide (l[i].u.length ≤ 100) = false := by unfold okS at q; rw [q1] at q; simpa using q
    simp only [sS, sevalprocAttr, fF4, tT, sN, sO, ng_eq, tabL_ng, t13, t14, t15, iLss, iGtr, gt_iff_lt, Int.ofNat_lt, hlt, decide_true, Int.natCast_nonneg, and_self, Int.toNat_natCast, hnb, hhn, hsub, hs1, hs2, z1, z2, g1, g2, q1, q2, Bool.not_true, Bool.not_false] at he
    subst he
    exact ⟨_, _, hk3, .inr ⟨rfl, rfl, by simp only [Tr.get_set, Nat.reduceEqDiff, ↓reduceIte]⟩⟩
theorem short_run (tab : Tab) (hx : ∀ l, callExt (EV tab) 4 l = none) (h : H) (hng : tab.ng ≤ h.next) (v : Value) (l : List Ins) (hv : InS tab h v 44 l) :
  ∃ h', callR (EV tab) 4 [v] h = some (.bool (shortB l), h') ∧ Kept h h' := by
 unfold shortB
 rcases hv with ⟨rfl, rfl⟩ | ⟨b, o, c, rfl, hm⟩
 ·generalize he : callR _ _ _ _ = r
  rw [enter4 _ _ _ (hx _) rfl] at he
  simp only [sS, sevalprocAttr, fF4, tT, sN, sM, exR_loop, ng_eq, tabL_ng, iLss, iGtr, gt_iff_lt, Int.cast_ofNat_Int, Int.reduceLT, decide_false, Int.lt_irrefl] at he
  subst he
  exact ⟨_, rfl, Kept.refl h⟩
 ·generalize he : callR _ _ _ _ = x
  rw [enter4 _ _ _ (hx _) rfl] at he
  have g1 : decide ((200 : Int) < (l.length : Nat)) = decide (200 < l.length) := by rw [decide_eq_decide]; omega
  have g2 : (((l.length : Nat) : Int) != 4001) = decide (l.length ≠ 4001) := by
   rw [Bool.eq_iff_iff]; simp; omega
  by_cases q : 200 < l.length ∧ l.length ≠ 4001
  ·have q1 : decide (200 < l.length) = true := decide_eq_true q.1
   have q2 : decide (l.length ≠ 4001) = true := decide_eq_true q.2
   rw [q1, q2]
   simp only [sS, sevalprocAttr, fF4, tT, sN, sM, iGtr, iNeq, gt_iff_lt, g1, g2, q1, q2] at he
   subst he
   exact ⟨_, rfl, Kept.refl h⟩
  ·have hn : l.length ≤ 5000 := by omega
   have q3 : (decide (200 < l.length) && decide (l.length ≠ 4001)) = false := by
    rw [Bool.and_eq_false_iff]
    by_cases q1 : 200 < l.length
    ·exact .inr (decide_eq_false (fun h => q ⟨q1, h⟩))
    ·exact .inl (decide_eq_false q1)
   rw [q3]
   have key : ∀ tm h1, (h1 = h ∧ tm.get 13 = some (.slice (some ⟨b, o, none⟩) l.length c) ∧ tm.get 14 = some (.int .i64 l.length) ∧ tm.get 15 = some (.int .i64 0)) → ∃ x s', exR (EV tab) shLoop ⟨false, 30, tm, h1⟩ = some (x, s') ∧
     ((x = .exit 0 ∧ ∃ tm' h', s' = ⟨false, 30, tm', h'⟩ ∧ Kept h h' ∧ l.all okS = true) ∨ (x = .ret ∧ ∃ tm' h', s' = ⟨false, 30, tm', h'⟩ ∧ Kept h h' ∧ l.all okS = false ∧ tm'.get 2 = some (.bool false))) := fun tm h1 p => by
    obtain ⟨rfl, p1, p2, p3⟩ := p
    obtain ⟨tm', h', kk, ⟨e, z⟩ | ⟨e, z, z2⟩⟩ := sh_loop tab h1 hng b o c l hm hn l.length 0 tm h1 (by omega) p1 p2 p3 (Kept.refl h1)
    ·exact ⟨_, _, e, .inl ⟨rfl, tm', h', rfl, kk, by rw [List.drop_zero] at z; exact z⟩⟩
    ·exact ⟨_, _, e, .inr ⟨rfl, tm', h', rfl, kk, by rw [List.drop_zero] at z; exact z, z2⟩⟩
   have go : ∀ (x : Option (Value × H)) (tm : Tr Value), (tm.get 13 = some (.slice (some ⟨b, o, none⟩) l.length c) ∧ tm.get 14 = some (.int .i64 l.length) ∧ tm.get 15 = some (.int .i64 0)) →
     finish (EV tab) [ResultVar.tmp 2] (andThen (unblock 0 (exR (EV tab) shLoop ⟨false, 30, tm, h⟩)) (exR (EV tab) (.seq (Rg 4 9) .ret))) = x → ∃ h', x = some (.bool (!false && l.all okS), h') ∧ Kept h h' := fun x tm p he => by
    obtain ⟨x1, s1, ⟨rfl, tm', h', rfl, kk, z⟩ | ⟨rfl, tm', h', rfl, kk, z, z2⟩, he⟩ := use_run key (fun o => finish (EV tab) [ResultVar.tmp 2] (andThen (unblock 0 o) (exR (EV tab) (.seq (Rg 4 9) .ret)))) he ⟨rfl, p⟩
    ·rw [z]
     simp only [sS, sevalprocAttr, fF4, tT] at he
     subst he
     exact ⟨_, rfl, kk⟩
    ·rw [z]
     simp only [sS, sevalprocAttr, fF4, tT, z2] at he
     subst he
     exact ⟨_, rfl, kk⟩
   by_cases q1 : 200 < l.length
   ·have q1' : decide (200 < l.length) = true := decide_eq_true q1
    have q2' : decide (l.length ≠ 4001) = false := decide_eq_false (fun h => q ⟨q1, h⟩)
    simp only [sS, sevalprocAttr, r4_0, r4_1, r4_3, tT, iGtr, iNeq, gt_iff_lt, g1, g2, q1', q2'] at he
    exact go _ _ ⟨by simp only [Tr.get_set, Nat.reduceEqDiff, ↓reduceIte], by simp only [Tr.get_set, Nat.reduceEqDiff, ↓reduceIte], by simp only [Tr.get_set, Nat.reduceEqDiff, ↓reduceIte]⟩ he
   ·have q1' : decide (200 < l.length) = false := decide_eq_false q1
    simp only [sS, sevalprocAttr, r4_0, r4_1, r4_3, tT, iGtr, iNeq, gt_iff_lt, g1, g2, q1'] at he
    exact go _ _ ⟨by simp only [Tr.get_set, Nat.reduceEqDiff, ↓reduceIte], by simp only [Tr.get_set, Nat.reduceEqDiff, ↓reduceIte], by simp only [Tr.get_set, Nat.reduceEqDiff, ↓reduceIte]⟩ he
def BS (tab : Tab) (h : H) (v : Value) (l : List UInt8) : Prop := (v = .slice none 0 0 ∧ l = []) ∨ ∃ b o c, v = .slice (some ⟨b, o, none⟩) l.length c ∧ Mem tab h b o (bs l)
theorem BS.kept {tab : Tab} {h h' : H} {v : Value} {l : List UInt8} (i : BS tab h v l) (k : Kept h h') : BS tab h' v l := by
 rcases i with i | ⟨b, o, c, i1, i2⟩
 ·exact .inl i
 ·exact .inr ⟨b, o, c, i1, i2.kept k⟩
theorem Bytes.bs {tab : Tab} {h0 h : H} {v : Value} {l : List UInt8} (b : Bytes h0 h v l) (hng : tab.ng ≤ h0.next) : BS tab h v l := by
 obtain ⟨c, d, r1, r2, r3, r4⟩ := b
 exact .inr ⟨c, 0, d, r1, mem_cells (by omega) r3 r4⟩
theorem Row.bs {tab : Tab} {h0 h : H} {v : Value} {l : List UInt8} {n : Nat} (hn : n = l.length) (r : Row h0 h 5 1 v n (bs l)) (hng : tab.ng ≤ h0.next) : BS tab h v l := by
 subst hn
 rcases r with ⟨r1, r2, _⟩ | ⟨b, r1, r2, r3, r4, _⟩
 ·exact .inl ⟨r1, List.eq_nil_of_length_eq_zero r2⟩
 ·exact .inr ⟨b, 0, 0, r1, mem_cells (by omega) r3 r4⟩
theorem Mem.bytes {tab : Tab} {h : H} {b o : Nat} {l : List UInt8} (m : Mem tab h b o (bs l)) : subD (EV tab) h b o l.length = some (bs l) := by
 have := m.all
 rwa [bs_length] at this
theorem str_bs (tab : Tab) {h : H} {v : Value} {l : List UInt8} (i : BS tab h v l) (tm : Tr Value) (n : Nat) (hv : ev (EV tab) tm (.tmp n) = some v) : oStr (EV tab) h tm 23 (.tmp n) = some (.string ⟨⟨l⟩⟩) := by
 rcases i with ⟨rfl, rfl⟩ | ⟨b, o, c, rfl, m⟩
 ·simp only [oStr, hv, ti23, str0, ti5]
 ·by_cases q : l.length = 0
  ·have : l = [] := List.eq_nil_of_length_eq_zero q
   subst this
   simp only [oStr, hv, ti23, List.length_nil, if_true, str0, ti5]
  ·simp only [oStr, hv, ti23, if_neg q, strOf, ti5, m.bytes, byteList_bs]
theorem new_mem (tab : Tab) {h : H} {b o : Nat} {l : List UInt8} (m : Mem tab h b o (bs l)) (c : Nat) (z : List Value) : newD (EV tab) h z 1 false (.slice (some ⟨b, o, none⟩) l.length c) = some (bs l, l.length) := by
 unfold newD
 simp only [Bool.false_eq_true, if_false, lenOfD, srcD, Nat.mul_one, m.bytes]
theorem same_run (tab : Tab) (hx : ∀ l, callExt (EV tab) 12 l = none) (h : H) (v w : Value) (l m : List UInt8) (hv : BS tab h v l) (hw : BS tab h w m) :
  callR (EV tab) 12 [v, w] h = some (.bool (l == m), h) := by
 have e1 := fun tm n hh => str_bs tab hv tm n hh
 have e2 := fun tm n hh => str_bs tab hw tm n hh
 generalize he : callR _ _ _ _ = r
 rw [enter12 _ _ _ (hx _) rfl] at he
 simp only [sS, sevalprocAttr, fF12, tT, sN, sM, e1, e2, binStr, strBin, sEql, bs_beq] at he
 exact he.symm
theorem own_run (tab : Tab) (hx : ∀ l, callExt (EV tab) 10 l = none) (h : H) (hng : tab.ng ≤ h.next) (v : Value) (l : List UInt8) (hv : BS tab h v l) (hl : l.length ≤ 1000000) :
  ∃ v' h', callR (EV tab) 10 [v] h = some (v', h') ∧ Row h h' 5 1 v' l.length (bs l) ∧ Kept h h' := by
 have hnw : ∀ z, newD (EV tab) h z 1 false v = some (bs l, l.length) := fun z => by
  rcases hv with ⟨rfl, rfl⟩ | ⟨b, o, c, rfl, m⟩
  ·rfl
  ·exact new_mem tab m c z
 obtain ⟨v', h', e, r, k⟩ := append_row (E := EV tab) (t := 23) (ti23 tab) rfl (ti5 tab) rfl (by rw [bt_eq]; show (5 : Nat) ≠ 94; decide) hng (Row.nil h h 5 1) (Kept.refl h) (hnw _) (bs_one _) hl (by decide) (by rw [bs_length, Nat.mul_one])
 generalize he : callR _ _ _ _ = x
 rw [enter10 _ _ _ (hx _) rfl] at he
 simp only [sS, sevalprocAttr, fF10, tT, e] at he
 subst he
 rw [Nat.zero_add, List.nil_append] at r
 exact ⟨v', h', rfl, r, k⟩
def bytesX (x : Ins) : List UInt8 := bytesL x.op.toNat (usesAt x.op) x.t x.u x.num x.imm x.size
abbrev byF : Value := .func (.func 24) #[] #[]
theorem bytesX_run (tab : Tab) (hB : ByX tab) (h : H) (hng : tab.ng ≤ h.next) (x : Ins) (hx : chkI x = 0) (hn : x.num < 18446744073709551616) :
  ∃ v' h', callR (EV tab) 24 [insV x.op x.t x.u x.num x.imm x.size] h = some (v', h') ∧ Bytes h h' v' (bytesX x) ∧ Kept h h' := by
 obtain ⟨k, r, hk0, hk, hk2, -, -, -, -, -, hi, hs, hp⟩ := check_ok hx (by omega)
 obtain ⟨v', h', e, b, kk⟩ := bytes_run tab hB h hng k r hk x.t x.u x.num x.imm x.size hn hi hs hp
 refine ⟨v', h', by rw [hk0]; exact e, ?_, kk⟩
 unfold bytesX usesAt
 rw [hk2, hk0]
 exact b
def PartsR (h1 h : H) (vs : List Value) (bl : List (List UInt8)) : Prop := vs.length = bl.length ∧ ∀ (j : Nat) (v : Value) (l : List UInt8), vs[j]? = some v → bl[j]? = some l → Bytes h1 h v l
theorem PartsR.kept {h1 h h' : H} {vs : List Value} {bl : List (List UInt8)} (p : PartsR h1 h vs bl) (k : Kept h h') : PartsR h1 h' vs bl :=
 ⟨p.1, fun j v l a b => by obtain ⟨c, d, r1, r2, r3, r4⟩ := p.2 j v l a b; exact ⟨c, d, r1, r2, Nat.lt_of_lt_of_le r3 k.le, by rw [k.get _ r3]; exact r4⟩⟩
theorem PartsR.one {h1 h : H} {vs : List Value} {bl : List (List UInt8)} (p : PartsR h1 h vs bl) : vs.all isOne = true := by
 rw [List.all_eq_true]
 intro v hv
 obtain ⟨j, hj⟩ := List.getElem?_of_mem hv
 have hlt : j < bl.length := by rw [← p.1]; exact (List.getElem?_eq_some_iff.1 hj).1
 obtain ⟨c, d, r1, _⟩ := p.2 j v bl[j] hj (by simp)
 rw [r1]; rfl
theorem PartsR.snoc {h1 h : H} {vs : List Value} {bl : List (List UInt8)} (p : PartsR h1 h vs bl) {v : Value} {l : List UInt8} (b : Bytes h1 h v l) : PartsR h1 h (vs ++ [v]) (bl ++ [l]) := by
 refine ⟨by simp [p.1], fun j w m hw hm => ?_⟩
 by_cases q : j < vs.length
 ·rw [List.getElem?_append_left q] at hw
  rw [List.getElem?_append_left (by rw [← p.1]; exact q)] at hm
  exact p.2 j w m hw hm
 ·have h1 := (List.getElem?_eq_some_iff.1 hw).1
  simp at h1
  have hj : j = vs.length := by omega
  subst hj
  rw [List.getElem?_append_right (Nat.le_refl _)] at hw
  rw [p.1, List.getElem?_append_right (Nat.le_refl _)] at hm
  simp at hw hm
  subst hw; subst hm
  exact b
noncomputable def mbLoop : Code := .loop (.seq (Rg 23 3) (.seq (.cond (Operand.tmp 11) .skip (Code.exit 0)) (.seq (.block 1 (.seq (Rg 23 4) (Rg 23 5))) (Rg 23 6))))
theorem mb_loop (tab : Tab) (hB : ByX tab) (h0 : H) (hng : tab.ng ≤ h0.next) (b o c : Nat) (l : List Ins) (hm : Mem tab h0 b o (cellsI l)) (hn : l.length ≤ 5000) (hok : ∀ x ∈ l, chkI x = 0 ∧ x.num < 18446744073709551616) :
  ∀ (k i : Nat) (tm : Tr Value) (h : H) (v : Value) (vs : List Value), i + k = l.length → tm.get 5 = some v → tm.get 1 = some byF → tm.get 8 = some (.slice (some ⟨b, o, none⟩) l.length c) → tm.get 9 = some (.int .i64 l.length) → tm.get 10 = some (.int .i64 i) →
  Row h0 h 23 1 v i vs → PartsR h0 h vs ((l.take i).map bytesX) → Kept h0 h →
  ∃ tm' h' v' vs', exR (EV tab) mbLoop ⟨false, 22, tm, h⟩ = some (.exit 0, ⟨false, 22, tm', h'⟩) ∧ tm'.get 5 = some v' ∧ Row h0 h' 23 1 v' l.length vs' ∧ PartsR h0 h' vs' (l.map bytesX) ∧ Kept h0 h' := by
 intro k
 induction k with
 | zero =>
  intro i tm h v vs hk t5 t1 t8 t9 t10 hr hpa hkp
  have hlt : ¬ i < l.length := by omega
  generalize he : exR (EV tab) mbLoop ⟨false, 22, tm, h⟩ = r
  rw [mbLoop, exR_loop] at he
  simp only [sS, sevalprocAttr, fF23, tT, t9, t10, iLss, Int.ofNat_lt, hlt, decide_false] at he
  subst he
  rw [List.take_of_length_le (by omega)] at hpa
  rw [show i = l.length by omega] at hr
  exact ⟨_, h, v, vs, rfl, by simp only [Tr.get_set, Nat.reduceEqDiff, ↓reduceIte, t5], hr, hpa, hkp⟩
 | succ k ih =>
  intro i tm h v vs hk t5 t1 t8 t9 t10 hr hpa hkp
  have hlt : i < l.length := by omega
  have hsub := (hm.kept hkp).ins i hlt
  have hnb : ¬ h.next = b := by have := (hm.kept hkp).lt (Nat.le_trans hng hkp.le); omega
  have hhn : ¬ h.next < tab.ng := by have := hkp.le; omega
  have hk2 : Kept h ((h.push (.cells 45 6 [.int .i64 0, .string ⟨#[]⟩, .string ⟨#[]⟩, .int .u64 0, .int .i64 0, .int .i64 0])).put h.next (.cells 45 6 (insC l[i]))) := ((Kept.refl h).push _).put _ (Nat.le_refl _)
  obtain ⟨hx0, hxn⟩ := hok l[i] (List.getElem_mem hlt)
  obtain ⟨v2, h2, e2, b2, k2⟩ := bytesX_run tab hB ((h.push (.cells 45 6 [.int .i64 0, .string ⟨#[]⟩, .string ⟨#[]⟩, .int .u64 0, .int .i64 0, .int .i64 0])).put h.next (.cells 45 6 (insC l[i]))) (by simp only [H.next_push, H.next_put]; omega) l[i] hx0 hxn
  have b2c := b2
  obtain ⟨q0, d0, hv2, -, -, -⟩ := b2c
  subst hv2
  have hkk : Kept h h2 := hk2.trans k2
  have hn2 : tab.ng ≤ h2.next := by have := hkk.le; omega
  have hone : isOne (.slice (some ⟨q0, 0, none⟩) (bytesX l[i]).length d0) = true := rfl
  have hb2' : Bytes h0 h2 (.slice (some ⟨q0, 0, none⟩) (bytesX l[i]).length d0) (bytesX l[i]) := b2.weak (by have := hkp.le; simp only [H.next_push, H.next_put]; omega)
  have hr2 : Row h0 (h2.push (.cells 23 1 [(.slice (some ⟨q0, 0, none⟩) (bytesX l[i]).length d0)])) 23 1 v i vs := hr.kept (hkk.push _)
  obtain ⟨v1, h1, e, rr, kk, le1, fr⟩ := append_row2 (E := EV tab) (t := 69) (ti69 tab) rfl (ti23 tab) rfl (by rw [bt_eq]; show 23 ≠ 94; decide) hng hr2 ((hkp.trans hkk).push _)
   (new_one tab 23 (h2.push (.cells 23 1 [(.slice (some ⟨q0, 0, none⟩) (bytesX l[i]).length d0)])) (.slice (some ⟨q0, 0, none⟩) (bytesX l[i]).length d0) h2.next 3 hn2 (H.get_push_self _ _) _) (by simp [hone]) (by decide) (by omega) rfl
  have hpa2 : PartsR h0 h2 (vs ++ [(.slice (some ⟨q0, 0, none⟩) (bytesX l[i]).length d0)]) ((l.take (i + 1)).map bytesX) := by
   have : l.take (i + 1) = l.take i ++ [l[i]] := by rw [List.take_add_one, List.getElem?_eq_getElem hlt]; rfl
   rw [this, List.map_append]
   exact (hpa.kept hkk).snoc hb2'
  have hpa3 : PartsR h0 h1 (vs ++ [(.slice (some ⟨q0, 0, none⟩) (bytesX l[i]).length d0)]) ((l.take (i + 1)).map bytesX) := by
   refine ⟨hpa2.1, fun j w m hw hm => ?_⟩
   obtain ⟨q, d, r1, r2, r3, r4⟩ := hpa2.2 j w m hw hm
   refine ⟨q, d, r1, r2, by rw [H.next_push] at le1; omega, ?_⟩
   rw [fr q (by rw [H.next_push]; omega) ?_, H.get_push_lt _ _ r3]
   ·exact r4
   ·intro q' hq' hqq
    subst hqq
    rcases hr2 with ⟨z1, _, _⟩ | ⟨q'', z1, _, z3, z4, _⟩
    ·rw [z1] at hq'; cases hq'
    ·rw [z1] at hq'; cases hq'
     rw [H.get_push_lt _ _ r3, r4] at z4
     cases z4
  have hs2 : ∀ a b c d e f : Value, Obj.sub (.cells 45 6 [a, b, c, d, e, f]) 0 6 = some [a, b, c, d, e, f] := fun _ _ _ _ _ _ => rfl
  simp only [insC, insL, insV] at e2 hsub
  obtain ⟨tm1, e1, a5, a1, a8, a9, a10⟩ : ∃ tm1, exR (EV tab) mbLoop ⟨false, 22, tm, h⟩ = exR (EV tab) mbLoop ⟨false, 22, tm1, h1⟩ ∧ tm1.get 5 = some v1 ∧ tm1.get 1 = some byF ∧ tm1.get 8 = some (.slice (some ⟨b, o, none⟩) l.length c) ∧ tm1.get 9 = some (.int .i64 l.length) ∧ tm1.get 10 = some (.int .i64 ((i + 1 : Nat) : Int)) := by
   generalize he : exR (EV tab) mbLoop ⟨false, 22, tm, h⟩ = r
   rw [mbLoop, exR_loop] at he
   simp only [sS, sevalprocAttr, fF23, tT, sN, sO, ng_eq, tabL_ng, t1, t5, t8, t9, t10, iLss, Int.ofNat_lt, hlt, decide_true, Int.natCast_nonneg, and_self, Int.toNat_natCast, hnb, hhn, hsub, hs2, e2, hone, e, add1 i (by omega)] at he
   subst he
   refine ⟨_, rfl, ?_, ?_, ?_, ?_, ?_⟩ <;> simp only [Tr.get_set, Nat.reduceEqDiff, ↓reduceIte, t1, t8, t9]
  obtain ⟨tm', h', v', vs', x1, x2, x3, x4, x5⟩ := ih (i + 1) tm1 h1 v1 (vs ++ [.slice (some ⟨q0, 0, none⟩) (bytesX l[i]).length d0]) (by omega) a5 a1 a8 a9 a10 rr hpa3 kk
  exact ⟨tm', h', v', vs', by rw [e1]; exact x1, x2, x3, x4, x5⟩
theorem mb_run (tab : Tab) (hx : ∀ l, callExt (EV tab) 23 l = none) (hB : ByX tab) (h : H) (hng : tab.ng ≤ h.next) (v : Value) (l : List Ins) (hv : InS tab h v 45 l) (hn : l.length ≤ 5000) (hok : ∀ x ∈ l, chkI x = 0 ∧ x.num < 18446744073709551616) :
  ∃ v' h' vs, callR (EV tab) 23 [v, byF] h = some (v', h') ∧ Row h h' 23 1 v' l.length vs ∧ PartsR h h' vs (l.map bytesX) ∧ Kept h h' := by
 rcases hv with ⟨rfl, rfl⟩ | ⟨b, o, c, rfl, hm⟩
 ·generalize he : callR _ _ _ _ = r
  rw [enter23 _ _ _ (hx _) rfl] at he
  simp only [sS, sevalprocAttr, fF23, tT, sN, sM, exR_loop, ng_eq, tabL_ng, iLss, Int.cast_ofNat_Int, Int.reduceLT, decide_false, Int.lt_irrefl] at he
  subst he
  exact ⟨_, _, [], rfl, Row.nil _ _ _ _, ⟨rfl, fun j v l a => by simp at a⟩, Kept.refl h⟩
 ·have key : ∀ tm h1, (h1 = h ∧ tm.get 5 = some (.slice none 0 0) ∧ tm.get 1 = some byF ∧ tm.get 8 = some (.slice (some ⟨b, o, none⟩) l.length c) ∧ tm.get 9 = some (.int .i64 l.length) ∧ tm.get 10 = some (.int .i64 0)) → ∃ x s', exR (EV tab) mbLoop ⟨false, 22, tm, h1⟩ = some (x, s') ∧
    (x = .exit 0 ∧ ∃ tm' h' v' vs, s' = ⟨false, 22, tm', h'⟩ ∧ tm'.get 5 = some v' ∧ Row h h' 23 1 v' l.length vs ∧ PartsR h h' vs (l.map bytesX) ∧ Kept h h') := fun tm h1 p => by
   obtain ⟨rfl, p3, p1, p6, p7, p8⟩ := p
   obtain ⟨tm', h', v', vs, x1, x2, x3, x4, x5⟩ := mb_loop tab hB h1 hng b o c l hm hn hok l.length 0 tm h1 (.slice none 0 0) [] (by omega) p3 p1 p6 p7 p8 (Row.nil _ _ _ _) ⟨rfl, fun j v l a => by simp at a⟩ (Kept.refl h1)
   exact ⟨_, _, x1, rfl, tm', h', v', vs, rfl, x2, x3, x4, x5⟩
  generalize he : callR _ _ _ _ = r
  rw [enter23 _ _ _ (hx _) rfl] at he
  simp only [sS, sevalprocAttr, r23_0, r23_1, r23_2, tT] at he
  obtain ⟨x1, s1, ⟨rfl, tm', h', v', vs, rfl, x2, x3, x4, x5⟩, he⟩ := use_run key (fun o => finish (EV tab) [ResultVar.tmp 4] (andThen (unblock 0 o) (exR (EV tab) (.seq (Rg 23 7) .ret)))) he (by
   refine ⟨rfl, ?_, ?_, ?_, ?_, ?_⟩ <;> simp only [Tr.get_set, Nat.reduceEqDiff, ↓reduceIte])
  simp only [sS, sevalprocAttr, fF23, tT, x2] at he
  subst he
  exact ⟨v', h', vs, rfl, x3, x4, x5⟩
theorem op_cap {E : Env} {cl : _} {yl : _} {h : H} {tm : Tr Value} {os : Array Operand} {ts : Array TypeId} : opD E cl yl h tm (.call ⟨.builtin .cap, os, ts⟩) = same h (oCap E tm ts.toList os) := rfl
theorem repl_len (n : Nat) : ∀ k, (repl [Value.int .u8 (n : Int)] k).length = k
 | 0 => rfl
 | k + 1 => by rw [repl, List.length_append, repl_len n k]; simp; omega
theorem repl_one : ∀ k, (repl [Value.int .u8 0] k).all isOne = true
 | 0 => rfl
 | k + 1 => by rw [repl, List.all_append, repl_one k]; rfl
def Gr (h h' : H) (v : Value) : Prop := v = .slice none 0 0 ∨ ∃ b L, v = .slice (some ⟨b, 0, none⟩) 0 0 ∧ h.next ≤ b ∧ b < h'.next ∧ h'.get b = some (.cells 5 1 L)
theorem grow_run (tab : Tab) (hx : ∀ l, callExt (EV tab) 39 l = none) (h : H) (hng : tab.ng ≤ h.next) (n : Nat) (hn : n ≤ 1000000) :
  ∃ v' h', callR (EV tab) 39 [.slice none 0 0, .int .i64 n] h = some (v', h') ∧ Gr h h' v' ∧ Kept h h' := by
 have d0 : decide ((n : Int) < 0) = false := decide_eq_false (by omega)
 have s0 : iSub .i64 0 0 = some (.int .i64 0) := rfl
 have s1 : iSub .i64 (n : Int) 0 = some (.int .i64 n) := by unfold iSub; rw [Int.sub_zero, IntWalk.i64_in _ (by omega)]
 by_cases q : n = 0
 ·have d1 : decide ((0 : Int) < (n : Int)) = false := decide_eq_false (by omega)
  generalize he : callR _ _ _ _ = r
  rw [enter39 _ _ _ (hx _) rfl] at he
  simp only [sS, sevalprocAttr, fF39, tT, sN, sM, ng_eq, tabL_ng, iLss, iGtr, gt_iff_lt, d0, d1, op_cap, oCap, capD, s0, s1, Int.cast_ofNat_Int] at he
  subst he
  exact ⟨_, _, rfl, .inl rfl, Kept.refl h⟩
 ·have d1 : decide ((0 : Int) < (n : Int)) = true := decide_eq_true (by omega)
  have hap : appendD (EV tab) h 23 true (.slice none 0 0) (.int .i64 n) = some (.slice (some ⟨h.next, 0, none⟩) n 0, h.push (.cells 5 1 (repl [Value.int .u8 0] n))) := by
   have hl : (repl [Value.int .u8 0] n).length = n := repl_len 0 n
   have hq : 0 ≤ (n : Int) ∧ (n : Int) ≤ 1000000 := by omega
   have hm : Nat.ble n 1000000 = true := Nat.ble_eq_true_of_le hn
   simp only [appendD, ti23, ti5, newD, if_true, if_pos hq, Int.toNat_natCast, repl_one, hl, hm, Nat.mul_one, beq_self_eq_true, Bool.and_self, Bool.not_true, Bool.false_eq_true, if_false, if_neg q]
   rfl
  have hnn : ¬ h.next < tab.ng := by omega
  have hs1 : ∀ h, sliceD (EV tab) h 23 (.slice none 0 0) none (some (.int .i64 0)) none = some (.slice none 0 0) := fun h => by
   simp only [sliceD, ti23, ti5, sliceOf, sliceNil, boundO, boundD]; rfl
  have hs2 : sliceD (EV tab) (h.push (.cells 5 1 (repl [Value.int .u8 0] n))) 23 (.slice (some ⟨h.next, 0, none⟩) n 0) none (some (.int .i64 0)) none = some (.slice (some ⟨h.next, 0, none⟩) 0 0) := by
   have h2 : (0 : Int) ≤ 0 ∧ (0 : Int) ≤ (n : Int) := by omega
   simp only [sliceD, ti23, ti5, sliceOf, ng_eq, tabL_ng, if_neg hnn, H.get_push_self, Obj.row, if_true, sliceRow]
   have hb : boundD (.int .i64 0) n = some 0 := by simp only [boundD]; rw [if_pos h2]; rfl
   simp [boundO, hb]
  generalize he : callR _ _ _ _ = r
  rw [enter39 _ _ _ (hx _) rfl] at he
  simp only [sS, sevalprocAttr, fF39, tT, sN, sM, ng_eq, tabL_ng, iLss, iGtr, gt_iff_lt, d0, d1, op_cap, oCap, capD, s0, s1, Int.cast_ofNat_Int, oSlice, optO, hs1, hs2, hap] at he
  subst he
  exact ⟨_, _, rfl, .inr ⟨h.next, _, rfl, Nat.le_refl _, Nat.lt_succ_self _, H.get_push_self _ _⟩, (Kept.refl h).push _⟩
def lenS (bl : List (List UInt8)) : Nat := (bl.map List.length).sum
theorem lenS_drop (bl : List (List UInt8)) (i : Nat) (hi : i < bl.length) : lenS (bl.drop i) = bl[i].length + lenS (bl.drop (i + 1)) := by
 have hd : bl.drop i = bl[i] :: bl.drop (i + 1) := (List.getElem_cons_drop hi).symm
 rw [hd]
 show (bl[i].length :: (bl.drop (i + 1)).map List.length).sum = _
 rw [List.sum_cons]; rfl
theorem lenS_flat (bl : List (List UInt8)) : bl.flatten.length = lenS bl := by simp [lenS, List.length_flatten]
structure CoP (N : Nat) (h : H) (v : Value) (vs : List Value) (bl : List (List UInt8)) (b c : Nat) : Prop where
 v : v = .slice (some ⟨b, 0, none⟩) bl.length c
 b1 : N ≤ b
 b2 : b < h.next
 g : h.get b = some (.cells 23 1 vs)
 l : vs.length = bl.length
 p : ∀ (j : Nat) (v : Value) (l : List UInt8), vs[j]? = some v → bl[j]? = some l → ∃ q d, v = .slice (some ⟨q, 0, none⟩) l.length d ∧ N ≤ q ∧ q < h.next ∧ h.get q = some (.cells 5 1 (bs l))
theorem CoP.kept {N : Nat} {h h' : H} {v : Value} {vs : List Value} {bl : List (List UInt8)} {b c : Nat} (s : CoP N h v vs bl b c) (k : Kept h h') : CoP N h' v vs bl b c := by
 obtain ⟨a1, a2, a3, a4, a5, a6⟩ := s
 refine ⟨a1, a2, Nat.lt_of_lt_of_le a3 k.le, by rw [k.get _ a3]; exact a4, a5, fun j v l x y => ?_⟩
 obtain ⟨q, d, r1, r2, r3, r4⟩ := a6 j v l x y
 exact ⟨q, d, r1, r2, Nat.lt_of_lt_of_le r3 k.le, by rw [k.get _ r3]; exact r4⟩
theorem CoP.at {N : Nat} {h : H} {v : Value} {vs : List Value} {bl : List (List UInt8)} {b c : Nat} (s : CoP N h v vs bl b c) (i : Nat) (hi : i < bl.length) :
  ∃ q d, Obj.sub (.cells 23 1 vs) i 1 = some [.slice (some ⟨q, 0, none⟩) bl[i].length d] ∧ N ≤ q ∧ q < h.next ∧ h.get q = some (.cells 5 1 (bs bl[i])) := by
 have hv : i < vs.length := by rw [s.l]; exact hi
 obtain ⟨q, d, r1, r2, r3, r4⟩ := s.p i vs[i] bl[i] (by simp) (by simp)
 refine ⟨q, d, ?_, r2, r3, r4⟩
 rw [← r1]
 refine sub_get [vs[i]] 23 1 i vs fun j hj => ?_
 simp only [List.length_cons, List.length_nil] at hj
 have : j = 0 := by omega
 subst this
 simp
noncomputable def coA : Code := .loop (.seq (Rg 22 3) (.seq (.cond (Operand.tmp 12) .skip (Code.exit 0)) (.seq (.block 1 (.seq (Rg 22 4) (.seq (Rg 22 5) (.seq (Rg 22 6) (.cond (Operand.tmp 20) (Rg 22 7) .skip))))) (Rg 22 8))))
noncomputable def coB : Code := .loop (.seq (Rg 22 11) (.seq (.cond (Operand.tmp 28) .skip (Code.exit 2)) (.seq (.block 3 (.seq (Rg 22 12) (Rg 22 13))) (Rg 22 14))))
theorem coA_loop (tab : Tab) (h : H) (v : Value) (vs : List Value) (bl : List (List UInt8)) (b c : Nat) (s : CoP tab.ng h v vs bl b c) (hn : bl.length ≤ 5000) (hs : lenS bl ≤ 900000) :
  ∀ (k i a : Nat) (tm : Tr Value), i + k = bl.length → a + lenS (bl.drop i) = lenS bl → tm.get 0 = some v → tm.get 3 = some (.int .i64 a) → tm.get 9 = some v → tm.get 10 = some (.int .i64 bl.length) → tm.get 11 = some (.int .i64 i) →
  ∃ tm', exR (EV tab) coA ⟨false, 36, tm, h⟩ = some (.exit 0, ⟨false, 36, tm', h⟩) ∧ tm'.get 0 = some v ∧ tm'.get 3 = some (.int .i64 (lenS bl)) := by
 intro k
 have hv := s.v
 have hb : ¬ b < tab.ng := by have := s.b1; omega
 have hg := s.g
 subst hv
 induction k with
 | zero =>
  intro i a tm hk ha t0 t3 t9 t10 t11
  have hlt : ¬ i < bl.length := by omega
  rw [List.drop_eq_nil_of_le (by omega)] at ha
  have ha' : a = lenS bl := by simpa [lenS] using ha
  subst ha'
  generalize he : exR (EV tab) coA ⟨false, 36, tm, h⟩ = r
  rw [coA, exR_loop] at he
  simp only [sS, sevalprocAttr, fF22, tT, t10, t11, iLss, Int.ofNat_lt, hlt, decide_false] at he
  subst he
  exact ⟨_, rfl, by simp only [Tr.get_set, Nat.reduceEqDiff, ↓reduceIte, t0], by simp only [Tr.get_set, Nat.reduceEqDiff, ↓reduceIte, t3]⟩
 | succ k ih =>
  intro i a tm hk ha t0 t3 t9 t10 t11
  have hlt : i < bl.length := by omega
  obtain ⟨q, d, hsub, -, -, -⟩ := s.at i hlt
  rw [lenS_drop bl i hlt] at ha
  have m1 : iAdd .i64 (a : Int) (bl[i].length : Nat) = some (.int .i64 ((a + bl[i].length : Nat) : Int)) := by
   unfold iAdd; rw [IntWalk.i64_in _ (by omega)]; rfl
  have d1 : decide (((a + bl[i].length : Nat) : Int) < 0) = false := decide_eq_false (by omega)
  obtain ⟨tm1, e1, a0, a3, a9, a10, a11⟩ : ∃ tm1, exR (EV tab) coA ⟨false, 36, tm, h⟩ = exR (EV tab) coA ⟨false, 36, tm1, h⟩ ∧ tm1.get 0 = some (.slice (some ⟨b, 0, none⟩) bl.length c) ∧ tm1.get 3 = some (.int .i64 ((a + bl[i].length : Nat) : Int)) ∧ tm1.get 9 = some (.slice (some ⟨b, 0, none⟩) bl.length c) ∧ tm1.get 10 = some (.int .i64 bl.length) ∧ tm1.get 11 = some (.int .i64 ((i + 1 : Nat) : Int)) := by
   generalize he : exR (EV tab) coA ⟨false, 36, tm, h⟩ = r
   rw [coA, exR_loop] at he
   simp only [sS, sevalprocAttr, fF22, tT, sN, subD, ng_eq, tabL_ng, t3, t9, t10, t11, iLss, Int.ofNat_lt, hlt, decide_true, Int.natCast_nonneg, and_self, Int.toNat_natCast, Nat.mul_one, hb, hg, hsub, m1, d1, add1 i (by omega)] at he
   subst he
   refine ⟨_, rfl, ?_, ?_, ?_, ?_, ?_⟩ <;> simp only [Tr.get_set, Nat.reduceEqDiff, ↓reduceIte, t0, t9, t10]
  obtain ⟨tm', x1, x2, x3⟩ := ih (i + 1) _ tm1 (by omega) (by omega) a0 a3 a9 a10 a11
  exact ⟨tm', by rw [e1]; exact x1, x2, x3⟩
def Gw (h1 h : H) (v : Value) (l : List UInt8) : Prop := Row h1 h 5 1 v l.length (bs l) ∨ (l = [] ∧ Gr h1 h v)
theorem gw_app (tab : Tab) {h1 h : H} (hng : tab.ng ≤ h1.next) {v : Value} {l : List UInt8} (o : Gw h1 h v l) (hk : Kept h1 h) (hl : l.length ≤ 1000000) {q d : Nat} {l2 : List UInt8} (hq : tab.ng ≤ q) (hg : h.get q = some (.cells 5 1 (bs l2))) (hl2 : l2.length ≤ 1000000) :
  ∃ v' h', appendD (EV tab) h 23 false v (.slice (some ⟨q, 0, none⟩) l2.length d) = some (v', h') ∧ Row h1 h' 5 1 v' (l ++ l2).length (bs (l ++ l2)) ∧ Kept h1 h' := by
 have hnw := new_bytes tab h l2 l2.length q d hq hg rfl
 have row : Row h1 h 5 1 v l.length (bs l) → _ := fun r => append_row (E := EV tab) (t := 23) (ti23 tab) rfl (ti5 tab) rfl (by rw [bt_eq]; show (5 : Nat) ≠ 94; decide) hng r hk (hnw _) (bs_one _) hl2 hl (by rw [bs_length, Nat.mul_one])
 have fin : Row h1 h 5 1 v l.length (bs l) → ∃ v' h', appendD (EV tab) h 23 false v (.slice (some ⟨q, 0, none⟩) l2.length d) = some (v', h') ∧ Row h1 h' 5 1 v' (l ++ l2).length (bs (l ++ l2)) ∧ Kept h1 h' := fun r => by
  obtain ⟨v', h', e, rr, kk⟩ := row r
  exact ⟨v', h', e, by rw [bs_append, List.length_append]; exact rr, kk⟩
 rcases o with r | ⟨rfl, rfl | ⟨b, L, rfl, g1, g2, g3⟩⟩
 ·exact fin r
 ·exact fin (Row.nil _ _ _ _)
 ·have hc : (!((bs l2).all isOne && Nat.ble l2.length 1000000 && Nat.ble 1 1000 && Nat.ble 1 1 && (bs l2).length == l2.length * 1)) = false := by
   rw [bs_one, bs_length, Nat.mul_one, Nat.ble_eq_true_of_le hl2]; simp
  have hb : (decide (b < (EV tab).ng) || !(Nat.ble 0 1000000)) = false := by
   have : ¬ b < (EV tab).ng := by rw [ng_eq]; omega
   simp [this]
  refine ⟨.slice (some ⟨h.next, 0, none⟩) (0 + l2.length) 0, (h.kill b).push (.cells 5 1 ([] ++ bs l2)), ?_, .inr ⟨h.next, by rw [Nat.zero_add]; rfl, hk.le, by rw [H.next_push, H.next_kill]; exact Nat.lt_succ_self _, H.get_push_self (h.kill b) _, by simp [bs_length]⟩, (hk.kill g1).push _⟩
  have h5 : (5 : Nat) ≠ (EV tab).bt := by rw [bt_eq]; show (5 : Nat) ≠ 94; decide
  have hs : Obj.sub (.cells 5 1 L) 0 0 = some [] := rfl
  unfold appendD
  simp only [ti23, ti5, hnw, hc, Bool.false_eq_true, if_false, hb, g3, Obj.row, Nat.zero_mul, hs, if_true, ne_eq, not_true_eq_false, or_self, if_neg h5]
theorem coB_loop (tab : Tab) (h1 : H) (hng : tab.ng ≤ h1.next) (v : Value) (vs : List Value) (bl : List (List UInt8)) (b c : Nat) (s : CoP tab.ng h1 v vs bl b c) (hn : bl.length ≤ 5000) (hs : lenS bl ≤ 900000) :
  ∀ (k i : Nat) (tm : Tr Value) (h : H) (w : Value) (l : List UInt8), i + k = bl.length → l.length + lenS (bl.drop i) ≤ 900000 → tm.get 6 = some w → tm.get 25 = some v → tm.get 26 = some (.int .i64 bl.length) → tm.get 27 = some (.int .i64 i) → Gw h1 h w l → Kept h1 h →
  ∃ tm' h' w', exR (EV tab) coB ⟨false, 36, tm, h⟩ = some (.exit 2, ⟨false, 36, tm', h'⟩) ∧ tm'.get 6 = some w' ∧ Gw h1 h' w' (l ++ (bl.drop i).flatten) ∧ Kept h1 h' := by
 intro k
 have hv := s.v
 have hb : ¬ b < tab.ng := by have := s.b1; omega
 subst hv
 induction k with
 | zero =>
  intro i tm h w l hk ha t6 t25 t26 t27 ho hkp
  have hlt : ¬ i < bl.length := by omega
  generalize he : exR (EV tab) coB ⟨false, 36, tm, h⟩ = r
  rw [coB, exR_loop] at he
  simp only [sS, sevalprocAttr, fF22, tT, t26, t27, iLss, Int.ofNat_lt, hlt, decide_false] at he
  subst he
  refine ⟨_, h, w, rfl, by simp only [Tr.get_set, Nat.reduceEqDiff, ↓reduceIte, t6], ?_, hkp⟩
  rw [List.drop_eq_nil_of_le (by omega)]
  simpa using ho
 | succ k ih =>
  intro i tm h w l hk ha t6 t25 t26 t27 ho hkp
  have hlt : i < bl.length := by omega
  have hg := (s.kept hkp).g
  obtain ⟨q, d, hsub, q1, q2, q3⟩ := (s.kept hkp).at i hlt
  rw [lenS_drop bl i hlt] at ha
  obtain ⟨w1, h2, e, r, kk⟩ := gw_app tab hng ho hkp (by omega) (d := d) q1 q3 (by omega)
  obtain ⟨tm1, e1, a6, a25, a26, a27⟩ : ∃ tm1, exR (EV tab) coB ⟨false, 36, tm, h⟩ = exR (EV tab) coB ⟨false, 36, tm1, h2⟩ ∧ tm1.get 6 = some w1 ∧ tm1.get 25 = some (.slice (some ⟨b, 0, none⟩) bl.length c) ∧ tm1.get 26 = some (.int .i64 bl.length) ∧ tm1.get 27 = some (.int .i64 ((i + 1 : Nat) : Int)) := by
   generalize he : exR (EV tab) coB ⟨false, 36, tm, h⟩ = r
   rw [coB, exR_loop] at he
   simp only [sS, sevalprocAttr, fF22, tT, sN, subD, ng_eq, tabL_ng, t6, t25, t26, t27, iLss, Int.ofNat_lt, hlt, decide_true, Int.natCast_nonneg, and_self, Int.toNat_natCast, Nat.mul_one, hb, hg, hsub, e, add1 i (by omega)] at he
   subst he
   refine ⟨_, rfl, ?_, ?_, ?_, ?_⟩ <;> simp only [Tr.get_set, Nat.reduceEqDiff, ↓reduceIte, t25, t26]
  obtain ⟨tm', h', w', x1, x2, x3, x4⟩ := ih (i + 1) tm1 h2 w1 (l ++ bl[i]) (by omega) (by rw [List.length_append]; omega) a6 a25 a26 a27 (.inl r) kk
  refine ⟨tm', h', w', by rw [e1]; exact x1, x2, ?_, x4⟩
  rw [← List.getElem_cons_drop hlt, List.flatten_cons, ← List.append_assoc]
  exact x3
theorem conc_nil (tab : Tab) (hx : ∀ l, callExt (EV tab) 22 l = none) (hxg : ∀ l, callExt (EV tab) 39 l = none) (h : H) (hng : tab.ng ≤ h.next) : ∃ v' h', callR (EV tab) 22 [.slice none 0 0] h = some (v', h') ∧ Gr h h' v' ∧ Kept h h' := by
 obtain ⟨w, h1, e, g, k⟩ := grow_run tab hxg h hng 0 (by decide)
 simp only [Int.cast_ofNat_Int] at e
 generalize he : callR _ _ _ _ = r
 rw [enter22 _ _ _ (hx _) rfl] at he
 simp only [sS, sevalprocAttr, fF22, tT, sN, sM, exR_loop, ng_eq, tabL_ng, iLss, Int.cast_ofNat_Int, Int.reduceLT, decide_false, Int.lt_irrefl, e] at he
 subst he
 exact ⟨w, h1, rfl, g, k⟩
theorem conc_run (tab : Tab) (hx : ∀ l, callExt (EV tab) 22 l = none) (hxg : ∀ l, callExt (EV tab) 39 l = none) (h : H) (hng : tab.ng ≤ h.next) (v : Value) (vs : List Value) (bl : List (List UInt8)) (b c : Nat) (s : CoP tab.ng h v vs bl b c) (hn : bl.length ≤ 5000) (hs : lenS bl ≤ 900000) (hne : bl.flatten ≠ []) :
  ∃ v' h', callR (EV tab) 22 [v] h = some (v', h') ∧ Row h h' 5 1 v' bl.flatten.length (bs bl.flatten) ∧ Kept h h' := by
 have hv := s.v
 obtain ⟨w, h1, e, g, k⟩ := grow_run tab hxg h hng (lenS bl) (by omega)
 have keyA : ∀ tm h0, (h0 = h ∧ tm.get 0 = some v ∧ tm.get 3 = some (.int .i64 0) ∧ tm.get 9 = some v ∧ tm.get 10 = some (.int .i64 bl.length) ∧ tm.get 11 = some (.int .i64 0)) → ∃ x s', exR (EV tab) coA ⟨false, 36, tm, h0⟩ = some (x, s') ∧
   (x = .exit 0 ∧ ∃ tm', s' = ⟨false, 36, tm', h⟩ ∧ tm'.get 0 = some v ∧ tm'.get 3 = some (.int .i64 (lenS bl))) := fun tm h0 p => by
  obtain ⟨rfl, p0, p3, p9, p10, p11⟩ := p
  obtain ⟨tm', x1, x2, x3⟩ := coA_loop tab h0 v vs bl b c s hn hs bl.length 0 0 tm (by omega) (by simp) p0 p3 p9 p10 p11
  exact ⟨_, _, x1, rfl, tm', rfl, x2, x3⟩
 have keyB : ∀ tm h0, (h0 = h1 ∧ tm.get 6 = some w ∧ tm.get 25 = some v ∧ tm.get 26 = some (.int .i64 bl.length) ∧ tm.get 27 = some (.int .i64 0)) → ∃ x s', exR (EV tab) coB ⟨false, 36, tm, h0⟩ = some (x, s') ∧
   (x = .exit 2 ∧ ∃ tm' h' w', s' = ⟨false, 36, tm', h'⟩ ∧ tm'.get 6 = some w' ∧ Row h h' 5 1 w' bl.flatten.length (bs bl.flatten) ∧ Kept h h') := fun tm h0 p => by
  obtain ⟨rfl, p6, p25, p26, p27⟩ := p
  obtain ⟨tm', h', w', x1, x2, x3, x4⟩ := coB_loop tab h hng v vs bl b c s hn hs bl.length 0 tm h0 w [] (by omega) (by simpa using hs) p6 p25 p26 p27 (.inr ⟨rfl, g⟩) k
  rw [List.drop_zero, List.nil_append] at x3
  rcases x3 with x3 | ⟨x3, _⟩
  ·exact ⟨_, _, x1, rfl, tm', h', w', rfl, x2, x3, x4⟩
  ·exact absurd x3 hne
 subst hv
 generalize he : callR _ _ _ _ = r
 rw [enter22 _ _ _ (hx _) rfl] at he
 simp only [sS, sevalprocAttr, r22_0, r22_1, r22_2, tT] at he
 obtain ⟨x1, s1, ⟨rfl, tm1, rfl, y0, y3⟩, he⟩ := use_run keyA (fun o => finish (EV tab) [ResultVar.tmp 2] (andThen (unblock 0 o) (exR (EV tab) (.seq (Rg 22 9) (.seq (.seq (Rg 22 10) (.block 2 coB)) (.seq (Rg 22 15) .ret)))))) he (by
  refine ⟨rfl, ?_, ?_, ?_, ?_, ?_⟩ <;> simp only [Tr.get_set, Nat.reduceEqDiff, ↓reduceIte])
 simp only [sS, sevalprocAttr, r22_9, r22_10, tT, y0, y3, e] at he
 obtain ⟨x2, s2, ⟨rfl, tm2, h2, w2, rfl, z6, z7, z8⟩, he⟩ := use_run keyB (fun o => finish (EV tab) [ResultVar.tmp 2] (andThen (unblock 2 o) (exR (EV tab) (.seq (Rg 22 15) .ret)))) he (by
  refine ⟨rfl, ?_, ?_, ?_, ?_⟩ <;> simp only [Tr.get_set, Nat.reduceEqDiff, ↓reduceIte])
 simp only [sS, sevalprocAttr, fF22, tT, z6] at he
 subst he
 exact ⟨w2, h2, rfl, z7, z8⟩
theorem grow0 (tab : Tab) (hx : ∀ l, callExt (EV tab) 39 l = none) (h : H) : callR (EV tab) 39 [.slice none 0 0, .int .i64 0] h = some (.slice none 0 0, h) := by
 have s0 : iSub .i64 0 0 = some (.int .i64 0) := rfl
 generalize he : callR _ _ _ _ = r
 rw [enter39 _ _ _ (hx _) rfl] at he
 simp only [sS, sevalprocAttr, fF39, tT, sN, sM, ng_eq, tabL_ng, iLss, iGtr, gt_iff_lt, Int.lt_irrefl, decide_false, op_cap, oCap, capD, s0, Int.cast_ofNat_Int] at he
 exact he.symm
theorem conc0 (tab : Tab) (hx : ∀ l, callExt (EV tab) 22 l = none) (hxg : ∀ l, callExt (EV tab) 39 l = none) (h : H) : callR (EV tab) 22 [.slice none 0 0] h = some (.slice none 0 0, h) := by
 have e := fun h => grow0 tab hxg h
 generalize he : callR _ _ _ _ = r
 rw [enter22 _ _ _ (hx _) rfl] at he
 simp only [sS, sevalprocAttr, fF22, tT, sN, sM, exR_loop, ng_eq, tabL_ng, iLss, Int.cast_ofNat_Int, Int.reduceLT, decide_false, Int.lt_irrefl, e] at he
 exact he.symm
theorem conc0b (tab : Tab) (hx : ∀ l, callExt (EV tab) 22 l = none) (hxg : ∀ l, callExt (EV tab) 39 l = none) (h : H) (b c : Nat) : callR (EV tab) 22 [.slice (some ⟨b, 0, none⟩) 0 c] h = some (.slice none 0 0, h) := by
 have e := fun h => grow0 tab hxg h
 generalize he : callR _ _ _ _ = r
 rw [enter22 _ _ _ (hx _) rfl] at he
 simp only [sS, sevalprocAttr, fF22, tT, sN, sM, exR_loop, ng_eq, tabL_ng, iLss, Int.cast_ofNat_Int, Int.reduceLT, decide_false, Int.lt_irrefl, e] at he
 exact he.symm
def encL (l : List Ins) : List UInt8 := (l.map bytesX).flatten
theorem bytesX_len (x : Ins) (hx : chkI x = 0) (hn : x.num < 18446744073709551616) : (bytesX x).length ≤ 100 ∧ bytesX x ≠ [] := by
 refine ⟨?_, by simp [bytesX, bytesL]⟩
 obtain ⟨k, r, hk0, hk, hk2, -, -, -, -, -, hi, hs, hp⟩ := check_ok hx (by omega)
 have hu := List.all_eq_true.1 kindT_uses r (List.mem_of_getElem? hk)
 simp only [Bool.and_eq_true, decide_eq_true_eq] at hu
 unfold bytesX usesAt
 rw [hk2]
 have hf : ∀ us : List UInt8, (opsL us x.t x.u x.num x.imm x.size).length ≤ 10 * us.length := fun us => by
  induction us with
  | nil => simp [opsL]
  | cons c us ih =>
   have := (opB_len c.toNat x.t x.u x.num x.imm x.size hn hi hs).1
   have e : opsL (c :: us) x.t x.u x.num x.imm x.size = opB c.toNat x.t x.u x.num x.imm x.size ++ opsL us x.t x.u x.num x.imm x.size := rfl
   rw [e, List.length_append, List.length_cons]; omega
 have := hf r.uses
 show (bytesL x.op.toNat r.uses x.t x.u x.num x.imm x.size).length ≤ 100
 unfold bytesL
 rw [List.length_cons]; omega
theorem firstI_zero : ∀ (l : List Int), firstI l = 0 → ∀ x ∈ l, x = 0
 | [], _, x, hx => by cases hx
 | a :: l, h, x, hx => by
  simp only [firstI] at h
  by_cases q : a = 0
  ·rw [if_pos q] at h
   rcases List.mem_cons.1 hx with rfl | hx
   ·exact q
   ·exact firstI_zero l h x hx
  ·rw [if_neg q] at h; exact absurd h q
theorem allI_zero {l : List Ins} (h : allI l = 0) : l.length ≤ 4000 ∧ ∀ x ∈ l, chkI x = 0 := by
 unfold allI at h
 by_cases q : 4000 < l.length
 ·rw [if_pos q] at h; cases h
 ·rw [if_neg q] at h
  exact ⟨by omega, fun x hx => firstI_zero _ h _ (List.mem_map_of_mem hx)⟩
theorem lenS_le (l : List Ins) (h : ∀ x ∈ l, (bytesX x).length ≤ 100) : lenS (l.map bytesX) ≤ 100 * l.length := by
 induction l with
 | nil => simp [lenS]
 | cons x l ih =>
  have := ih fun y hy => h y (List.mem_cons_of_mem _ hy)
  have h2 := h x (List.mem_cons_self ..)
  show ((bytesX x).length :: ((l.map bytesX).map List.length)).sum ≤ _
  rw [List.sum_cons, List.length_cons]
  have h3 : ((l.map bytesX).map List.length).sum = lenS (l.map bytesX) := rfl
  omega
theorem Row.weak {h0 h1 h : H} {e z : Nat} {v : Value} {n : Nat} {l : List Value} (r : Row h1 h e z v n l) (k : h0.next ≤ h1.next) : Row h0 h e z v n l := by
 rcases r with r | ⟨b, r1, r2, r⟩
 ·exact .inl r
 ·exact .inr ⟨b, r1, Nat.le_trans k r2, r⟩
structure EnX (tab : Tab) : Prop where
 by_ : ByX tab
 ck : CheckP tab 36
 x1 : ∀ l, callExt (EV tab) 6 l = none
 x2 : ∀ l, callExt (EV tab) 21 l = none
 x3 : ∀ l, callExt (EV tab) 38 l = none
 x4 : ∀ l, callExt (EV tab) 37 l = none
 x5 : ∀ l, callExt (EV tab) 23 l = none
 x6 : ∀ l, callExt (EV tab) 22 l = none
 x7 : ∀ l, callExt (EV tab) 39 l = none
theorem encode_run (tab : Tab) (hX : EnX tab) (h : H) (hng : tab.ng ≤ h.next) (v : Value) (l : List Ins) (hv : InS tab h v 45 l) (hn : l.length ≤ 5000) (hnum : ∀ x ∈ l, x.num < 18446744073709551616) :
  ∃ v' h', callR (EV tab) 6 [v] h = some (.tuple ⟨[v', .int .i64 (allI l)]⟩, h') ∧ Row h h' 5 1 v' (if allI l = 0 then encL l else []).length (bs (if allI l = 0 then encL l else [])) ∧ Kept h h' := by
 obtain ⟨hB, hc, x1, x2, x3, x4, x5, x6, x7⟩ := hX
 obtain ⟨h1, e1, k1⟩ := checkAll_run tab x2 x3 x4 hc h hng v l hv hn
 by_cases q : allI l = 0
 ·rw [if_pos q]
  obtain ⟨hl, hz⟩ := allI_zero q
  have z : (allI l != 0) = false := by rw [q]; rfl
  have hok : ∀ x ∈ l, chkI x = 0 ∧ x.num < 18446744073709551616 := fun x hx => ⟨hz x hx, hnum x hx⟩
  obtain ⟨v2, h2, vs, e2, r2, p2, k2⟩ := mb_run tab x5 hB h1 (Nat.le_trans hng k1.le) v l (hv.kept k1) hn hok
  have hn1 : tab.ng ≤ h1.next := Nat.le_trans hng k1.le
  have hn2 : tab.ng ≤ h2.next := Nat.le_trans hn1 k2.le
  rcases r2 with ⟨rfl, r2, _⟩ | ⟨b, rfl, r3, r4, r5, r6⟩
  ·have hl0 : l = [] := List.eq_nil_of_length_eq_zero r2
   subst hl0
   have e3 := conc0 tab x6 x7 h2
   generalize he : callR _ _ _ _ = r
   rw [enter6 _ _ _ (x1 _) rfl] at he
   simp only [sS, sevalprocAttr, fF6, tT, sN, sM, e1, iNeq, z, e2, e3] at he
   subst he
   rw [q]
   exact ⟨_, _, rfl, .inl ⟨rfl, rfl, rfl⟩, k1.trans k2⟩
  ·by_cases hl0 : l = []
   ·subst hl0
    have e3 := conc0b tab x6 x7 h2 b 0
    simp only [List.length_nil] at e2
    generalize he : callR _ _ _ _ = r
    rw [enter6 _ _ _ (x1 _) rfl] at he
    simp only [sS, sevalprocAttr, fF6, tT, sN, sM, e1, iNeq, z, e2, e3] at he
    subst he
    rw [q]
    exact ⟨_, _, rfl, .inl ⟨rfl, rfl, rfl⟩, k1.trans k2⟩
   ·have s : CoP tab.ng h2 (.slice (some ⟨b, 0, none⟩) (l.map bytesX).length 0) vs (l.map bytesX) b 0 := ⟨rfl, by omega, r4, r5, p2.1, fun j w m a c => by
     obtain ⟨q0, d0, a1, a2, a3, a4⟩ := p2.2 j w m a c
     exact ⟨q0, d0, a1, by omega, a3, a4⟩⟩
    have hls := lenS_le l fun x hx => (bytesX_len x (hz x hx) (hnum x hx)).1
    obtain ⟨v3, h3, e3, r7, k3⟩ := conc_run tab x6 x7 h2 hn2 _ vs (l.map bytesX) b 0 s (by simp; omega) (by omega) (by
     obtain ⟨x, l', rfl⟩ : ∃ x l', l = x :: l' := by cases l with | nil => exact absurd rfl hl0 | cons x l' => exact ⟨x, l', rfl⟩
     simp [bytesX, bytesL])
    rw [List.length_map] at e3
    generalize he : callR _ _ _ _ = r
    rw [enter6 _ _ _ (x1 _) rfl] at he
    simp only [sS, sevalprocAttr, fF6, tT, sN, sM, e1, iNeq, z, e2, e3] at he
    subst he
    rw [q]
    exact ⟨_, _, rfl, r7.weak (Nat.le_trans k1.le k2.le), (k1.trans k2).trans k3⟩
 ·rw [if_neg q]
  have z : (allI l != 0) = true := by simpa using q
  generalize he : callR _ _ _ _ = r
  rw [enter6 _ _ _ (x1 _) rfl] at he
  simp only [sS, sevalprocAttr, fF6, tT, sN, sM, e1, iNeq, z] at he
  subst he
  exact ⟨_, _, rfl, .inl ⟨rfl, rfl, rfl⟩, k1⟩
theorem bytesX26_run (tab : Tab) (hB : BrX tab) (h : H) (hng : tab.ng ≤ h.next) (x : Ins) (hx : chkI x = 0) (hn : x.num < 18446744073709551616) :
  ∃ v' h', callR (EV tab) 26 [insV x.op x.t x.u x.num x.imm x.size] h = some (v', h') ∧ Bytes h h' v' (bytesX x) ∧ Kept h h' := by
 obtain ⟨k, r, hk0, hk, hk2, -, -, -, -, -, hi, hs, hp⟩ := check_ok hx (by omega)
 rw [hk0] at hk2
 obtain ⟨v', h', e, b, kk⟩ := bytes26_run tab hB h hng k r hk hk2 x.t x.u x.num x.imm x.size hn hi hs hp
 refine ⟨v', h', by rw [hk0]; exact e, ?_, kk⟩
 unfold bytesX usesAt
 rw [hk0, hk2]
 exact b
noncomputable def erLoop : Code := .loop (.seq (.seq (Rg 8 6) (.cond (Operand.tmp 15) .skip (Code.exit 0))) (.seq (.block 1 (Rg 8 8)) (Rg 8 7)))
theorem er_loop (tab : Tab) (hB : BrX tab) (h0 : H) (hng : tab.ng ≤ h0.next) (b of c : Nat) (l : List Ins) (hm : Mem tab h0 b of (cellsI l)) (hn : l.length ≤ 5000) (hok : ∀ x ∈ l, chkI x = 0 ∧ x.num < 18446744073709551616) :
  ∀ (k i : Nat) (tm : Tr Value) (h : H) (w : Value) (o : List UInt8), i + k = l.length → o.length ≤ 100 * i → tm.get 0 = some (.slice (some ⟨b, of, none⟩) l.length c) → tm.get 5 = some w → tm.get 6 = some (.int .i64 i) → Row h0 h 5 1 w o.length (bs o) → Kept h0 h →
  ∃ tm' h' w', exR (EV tab) erLoop ⟨false, 26, tm, h⟩ = some (.exit 0, ⟨false, 26, tm', h'⟩) ∧ tm'.get 5 = some w' ∧ Row h0 h' 5 1 w' (o ++ encL (l.drop i)).length (bs (o ++ encL (l.drop i))) ∧ Kept h0 h' := by
 intro k
 induction k with
 | zero =>
  intro i tm h w o hk ho t0 t5 t6 hr hkp
  have hlt : ¬ i < l.length := by omega
  generalize he : exR (EV tab) erLoop ⟨false, 26, tm, h⟩ = r
  rw [erLoop, exR_loop] at he
  simp only [sS, sevalprocAttr, fF8, tT, t0, t6, iLss, Int.ofNat_lt, hlt, decide_false] at he
  subst he
  refine ⟨_, h, w, rfl, by simp only [Tr.get_set, Nat.reduceEqDiff, ↓reduceIte, t5], ?_, hkp⟩
  rw [List.drop_eq_nil_of_le (by omega)]
  simpa [encL] using hr
 | succ k ih =>
  intro i tm h w o hk ho t0 t5 t6 hr hkp
  have hlt : i < l.length := by omega
  have hd : l.drop i = l[i] :: l.drop (i + 1) := (List.getElem_cons_drop hlt).symm
  have hsub := (hm.kept hkp).ins i hlt
  have hhn : tab.ng ≤ h.next := Nat.le_trans hng hkp.le
  obtain ⟨hx0, hxn⟩ := hok l[i] (List.getElem_mem hlt)
  obtain ⟨v2, h2, e2, ⟨q, d, rfl, q1, q2, q3⟩, k2⟩ := bytesX26_run tab hB h hhn l[i] hx0 hxn
  have hbl := bytesX_len l[i] hx0 hxn
  obtain ⟨w1, h3, e3, r3, k3⟩ := gw_app tab hng (.inl (hr.kept k2)) (hkp.trans k2) (by omega) (d := d) (by omega : tab.ng ≤ q) q3 (by omega)
  simp only [insC, insL, insV] at e2 hsub
  obtain ⟨tm1, e1, a0, a5, a6⟩ : ∃ tm1, exR (EV tab) erLoop ⟨false, 26, tm, h⟩ = exR (EV tab) erLoop ⟨false, 26, tm1, h3⟩ ∧ tm1.get 0 = some (.slice (some ⟨b, of, none⟩) l.length c) ∧ tm1.get 5 = some w1 ∧ tm1.get 6 = some (.int .i64 ((i + 1 : Nat) : Int)) := by
   generalize he : exR (EV tab) erLoop ⟨false, 26, tm, h⟩ = r
   rw [erLoop, exR_loop] at he
   simp only [sS, sevalprocAttr, fF8, tT, sN, sO, ng_eq, tabL_ng, t0, t5, t6, iLss, Int.ofNat_lt, hlt, decide_true, Int.natCast_nonneg, and_self, Int.toNat_natCast, hsub, e2, e3, add1 i (by omega)] at he
   subst he
   refine ⟨_, rfl, ?_, ?_, ?_⟩ <;> simp only [Tr.get_set, Nat.reduceEqDiff, ↓reduceIte, t0]
  obtain ⟨tm', h', w', x1, x2, x3, x4⟩ := ih (i + 1) tm1 h3 w1 (o ++ bytesX l[i]) (by omega) (by rw [List.length_append]; omega) a0 a5 a6 r3 k3
  refine ⟨tm', h', w', by rw [e1]; exact x1, x2, ?_, x4⟩
  rw [hd]
  rw [List.append_assoc] at x3
  exact x3
theorem encode26_run (tab : Tab) (hB : BrX tab) (hx : ∀ l, callExt (EV tab) 8 l = none) (hxl : ∀ l, callExt (EV tab) 25 l = none) (hc : CheckP tab 41) (h : H) (hng : tab.ng ≤ h.next) (v : Value) (l : List Ins) (hv : InS tab h v 44 l) (hn : l.length ≤ 5000) (hnum : ∀ x ∈ l, x.num < 18446744073709551616) :
  ∃ v' h', callR (EV tab) 8 [v] h = some (.tuple ⟨[v', .int .i64 (allI l)]⟩, h') ∧ Row h h' 5 1 v' (if allI l = 0 then encL l else []).length (bs (if allI l = 0 then encL l else [])) ∧ Kept h h' := by
 have e1 := checkList_run tab hxl hc h v l hv hn
 by_cases q : allI l = 0
 ·rw [if_pos q]
  obtain ⟨hl, hz⟩ := allI_zero q
  have z : (allI l != 0) = false := by rw [q]; rfl
  have hok : ∀ x ∈ l, chkI x = 0 ∧ x.num < 18446744073709551616 := fun x hx => ⟨hz x hx, hnum x hx⟩
  rcases hv with ⟨rfl, rfl⟩ | ⟨b, o, c, rfl, hm⟩
  ·generalize he : callR _ _ _ _ = r
   rw [enter8 _ _ _ (hx _) rfl] at he
   simp only [sS, sevalprocAttr, fF8, tT, sN, sM, exR_loop, ng_eq, tabL_ng, iLss, Int.cast_ofNat_Int, Int.reduceLT, decide_false, Int.lt_irrefl, e1, iNeq, z] at he
   subst he
   rw [q]
   exact ⟨_, _, rfl, .inl ⟨rfl, rfl, rfl⟩, Kept.refl h⟩
  ·have key : ∀ tm h1, (h1 = h ∧ tm.get 0 = some (.slice (some ⟨b, o, none⟩) l.length c) ∧ tm.get 5 = some (.slice none 0 0) ∧ tm.get 6 = some (.int .i64 0)) → ∃ x s', exR (EV tab) erLoop ⟨false, 26, tm, h1⟩ = some (x, s') ∧
     (x = .exit 0 ∧ ∃ tm' h' v', s' = ⟨false, 26, tm', h'⟩ ∧ tm'.get 5 = some v' ∧ Row h h' 5 1 v' (encL l).length (bs (encL l)) ∧ Kept h h') := fun tm h1 p => by
    obtain ⟨rfl, p0, p5, p6⟩ := p
    obtain ⟨tm', h', v', x1, x2, x3, x4⟩ := er_loop tab hB h1 hng b o c l hm hn hok l.length 0 tm h1 (.slice none 0 0) [] (by omega) (by simp) p0 p5 p6 (Row.nil _ _ _ _) (Kept.refl h1)
    rw [List.drop_zero, List.nil_append] at x3
    exact ⟨_, _, x1, rfl, tm', h', v', rfl, x2, x3, x4⟩
   generalize he : callR _ _ _ _ = r
   rw [enter8 _ _ _ (hx _) rfl] at he
   simp only [sS, sevalprocAttr, r8_0, r8_1, r8_2, r8_4, r8_5, tT, e1, iNeq, z] at he
   obtain ⟨x1, s1, ⟨rfl, tm', h', v', rfl, x2, x3, x4⟩, he⟩ := use_run key (fun o => finish (EV tab) [ResultVar.tmp 2, ResultVar.tmp 3] (andThen (unblock 0 o) (exR (EV tab) (.seq (Rg 8 9) .ret)))) he (by
    refine ⟨rfl, ?_, ?_, ?_⟩ <;> simp only [Tr.get_set, Nat.reduceEqDiff, ↓reduceIte])
   simp only [sS, sevalprocAttr, fF8, tT, x2] at he
   subst he
   rw [q]
   exact ⟨_, _, rfl, x3, x4⟩
 ·rw [if_neg q]
  have z : (allI l != 0) = true := by simpa using q
  generalize he : callR _ _ _ _ = r
  rw [enter8 _ _ _ (hx _) rfl] at he
  simp only [sS, sevalprocAttr, fF8, tT, sN, sM, e1, iNeq, z] at he
  subst he
  exact ⟨_, _, rfl, .inl ⟨rfl, rfl, rfl⟩, Kept.refl h⟩
end Go.D
