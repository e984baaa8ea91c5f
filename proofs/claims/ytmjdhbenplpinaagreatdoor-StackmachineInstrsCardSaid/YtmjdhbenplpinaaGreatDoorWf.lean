/- The functions of the law, one after the other: what a run of D answers. -/
import Derived.Test.YtmjdhbenplpinaaGreatDoorWe
import Derived.Test.YtmjdhbenplpinaaGreatDoorFull
import Derived.Test.YtmjdhbenplpinaaGreatDoorW0
import Derived.Laws.RangeString
import Derived.Laws.RangeAny
import Derived.Laws.StructEq
namespace Go.D
open Go.Proofs
set_option maxRecDepth 100000
set_option linter.unusedVariables false
set_option linter.unusedSimpArgs false
structure Ins where
 op : Int
 t : List UInt8
 u : List UInt8
 num : Nat
 imm : Int
 size : Int
def insC (x : Ins) : List Value := insL x.op x.t x.u x.num x.imm x.size
def insZ : Ins := ⟨0, [], [], 0, 0, 0⟩
def cellsI (l : List Ins) : List Value := l.flatMap insC
theorem insC_len (x : Ins) : (insC x).length = 6 := rfl
theorem insC_one (x : Ins) : (insC x).all isOne = true := rfl
theorem cellsI_len (l : List Ins) : (cellsI l).length = l.length * 6 := by
 induction l with
 | nil => rfl
 | cons x l ih => rw [cellsI, List.flatMap_cons, List.length_append]; show 6 + (cellsI l).length = _; rw [ih, List.length_cons]; omega
theorem cellsI_take (l : List Ins) (i : Nat) (hi : i < l.length) : cellsI (l.take (i + 1)) = cellsI (l.take i) ++ insC l[i] := by
 have h : l.take (i + 1) = l.take i ++ [l[i]] := by rw [List.take_add_one, List.getElem?_eq_getElem hi]; rfl
 rw [h, cellsI, List.flatMap_append]
 simp [cellsI]
theorem cellsI_split (l : List Ins) (i : Nat) (hi : i < l.length) : cellsI l = cellsI (l.take i) ++ (insC l[i] ++ cellsI (l.drop (i + 1))) := by
 have h : l = l.take i ++ l[i] :: l.drop (i + 1) := by rw [List.getElem_cons_drop hi, List.take_append_drop]
 have h2 : cellsI (l.take i ++ l[i] :: l.drop (i + 1)) = cellsI (l.take i) ++ (insC l[i] ++ cellsI (l.drop (i + 1))) := by rw [cellsI, List.flatMap_append, List.flatMap_cons]; rfl
 rw [← h2, ← h]
theorem cellsI_sub (e : Nat) (l : List Ins) (i : Nat) (hi : i < l.length) : Obj.sub (.cells e 6 (cellsI l)) (i * 6) 6 = some (insC l[i]) := by
 refine sub_get (insC l[i]) e 6 (i * 6) (cellsI l) fun j hj => ?_
 have hl : (cellsI (l.take i)).length = i * 6 := by rw [cellsI_len, List.length_take]; congr 1; omega
 rw [cellsI_split l i hi, List.getElem?_append_right (by omega), hl, Nat.add_sub_cancel_left, List.getElem?_append_left hj]
theorem new_ins (tab : Tab) (e : Nat) (h : H) (x : Ins) (b c : Nat) (hb : tab.ng ≤ b) (hg : h.get b = some (.cells e 6 (insC x))) (z : List Value) : newD (EV tab) h z 6 false (.slice (some ⟨b, 0, none⟩) 1 c) = some (insC x, 1) := by
 have hs := sub_all e 6 (insC x)
 rw [insC_len] at hs
 unfold newD
 simp only [Bool.false_eq_true, if_false, lenOfD, srcD, subD, ng_eq, tabL_ng, Nat.not_lt.2 hb, Nat.one_mul, hg, hs]
def cellAt (tab : Tab) (h : H) (b i : Nat) : Option Value := if b < tab.ng then tab.gl b i else (match h.get b with | none => none | some ob => ob.get? i)
structure Mem (tab : Tab) (h : H) (b o : Nat) (l : List Value) : Prop where
 al : b < tab.ng ∨ (b < h.next ∧ (h.get b).isSome = true)
 at_ : ∀ (i : Nat) (v : Value), l[i]? = some v → cellAt tab h b (o + i) = some v
theorem Mem.kept {tab : Tab} {h h' : H} {b o : Nat} {l : List Value} (m : Mem tab h b o l) (k : Kept h h') : Mem tab h' b o l := by
 rcases m.al with q | ⟨q, q2⟩
 ·exact ⟨.inl q, fun i v hv => by have := m.at_ i v hv; unfold cellAt at this ⊢; rw [if_pos q] at this ⊢; exact this⟩
 ·have e := k.get b q
  exact ⟨.inr ⟨Nat.lt_of_lt_of_le q k.le, by rw [e]; exact q2⟩, fun i v hv => by have := m.at_ i v hv; unfold cellAt at this ⊢; rw [e]; exact this⟩
theorem Mem.lt {tab : Tab} {h : H} {b o : Nat} {l : List Value} (m : Mem tab h b o l) (hng : tab.ng ≤ h.next) : b < h.next := by
 rcases m.al with q | ⟨q, _⟩
 ·omega
 ·exact q
theorem globSub_of {E : Env} {g : Nat} : ∀ {l : List Value} {o : Nat}, (∀ (i : Nat) (v : Value), l[i]? = some v → E.glob g (o + i) = some v) → globSub E g o l.length = some l
 | [], _, _ => rfl
 | v :: l, o, h => by
  have h0 := h 0 v rfl
  have ih := globSub_of (l := l) (o := o + 1) (g := g) (E := E) fun i w hw => by
   have := h (i + 1) w (by simpa using hw)
   rwa [show o + (i + 1) = o + 1 + i by omega] at this
  rw [Nat.add_zero] at h0
  simp only [List.length_cons, globSub, h0, ih]
theorem objSub_of {ob : Obj} : ∀ {l : List Value} {o : Nat}, (∀ (i : Nat) (v : Value), l[i]? = some v → ob.get? (o + i) = some v) → Obj.sub ob o l.length = some l
 | [], _, _ => rfl
 | v :: l, o, h => by
  have h0 := h 0 v rfl
  have ih := objSub_of (l := l) (o := o + 1) (ob := ob) fun i w hw => by
   have := h (i + 1) w (by simpa using hw)
   rwa [show o + (i + 1) = o + 1 + i by omega] at this
  rw [Nat.add_zero] at h0
  simp only [List.length_cons, Obj.sub, h0, ih]
theorem Mem.all {tab : Tab} {h : H} {b o : Nat} {l : List Value} (m : Mem tab h b o l) : subD (EV tab) h b o l.length = some l := by
 unfold subD
 rw [ng_eq]
 by_cases q : b < tab.ng
 ·rw [if_pos q]
  exact globSub_of fun i v hv => by have := m.at_ i v hv; unfold cellAt at this; rw [if_pos q] at this; exact this
 ·rw [if_neg q]
  rcases m.al with q' | ⟨_, q2⟩
  ·exact absurd q' q
  ·obtain ⟨ob, hob⟩ := Option.isSome_iff_exists.1 q2
   rw [hob]
   exact objSub_of fun i v hv => by have := m.at_ i v hv; unfold cellAt at this; rw [if_neg q, hob] at this; exact this
theorem Mem.part {tab : Tab} {h : H} {b o : Nat} {l1 l2 l3 : List Value} {k : Nat} (m : Mem tab h b o (l1 ++ (l2 ++ l3))) (hk : l1.length = k) : Mem tab h b (o + k) l2 :=
 ⟨m.al, fun i v hv => by
  have := m.at_ (k + i) v (by rw [List.getElem?_append_right (by omega), hk, Nat.add_sub_cancel_left, List.getElem?_append_left (List.getElem?_eq_some_iff.1 hv).1]; exact hv)
  rwa [← Nat.add_assoc] at this⟩
theorem mem_cells {tab : Tab} {h : H} {b e z : Nat} {l : List Value} (hb : tab.ng ≤ b) (hl : b < h.next) (hg : h.get b = some (.cells e z l)) : Mem tab h b 0 l :=
 ⟨.inr ⟨hl, by rw [hg]; rfl⟩, fun i v hv => by
  unfold cellAt
  rw [if_neg (Nat.not_lt.2 hb), hg, Nat.zero_add]; exact hv⟩
theorem Mem.ins {tab : Tab} {h : H} {b o : Nat} {l : List Ins} (m : Mem tab h b o (cellsI l)) (i : Nat) (hi : i < l.length) : subD (EV tab) h b (o + i * 6) 6 = some (insC l[i]) := by
 rw [cellsI_split l i hi] at m
 exact (m.part (by rw [cellsI_len, List.length_take]; congr 1; omega)).all
def InS (tab : Tab) (h : H) (v : Value) (_e : Nat) (l : List Ins) : Prop := (v = .slice none 0 0 ∧ l = []) ∨ ∃ b o c, v = .slice (some ⟨b, o, none⟩) l.length c ∧ Mem tab h b o (cellsI l)
theorem InS.kept {tab : Tab} {h h' : H} {v : Value} {e : Nat} {l : List Ins} (i : InS tab h v e l) (k : Kept h h') : InS tab h' v e l := by
 rcases i with i | ⟨b, o, c, i1, i2⟩
 ·exact .inl i
 ·exact .inr ⟨b, o, c, i1, i2.kept k⟩
theorem Row.ins {tab : Tab} {h0 h : H} {v : Value} {e : Nat} {l : List Ins} (r : Row h0 h e 6 v l.length (cellsI l)) (hng : tab.ng ≤ h0.next) : InS tab h v e l := by
 rcases r with ⟨r1, r2, _⟩ | ⟨b, r1, r2, r3, r4, _⟩
 ·exact .inl ⟨r1, List.eq_nil_of_length_eq_zero r2⟩
 ·exact .inr ⟨b, 0, 0, r1, mem_cells (by omega) r3 r4⟩
noncomputable def cvLoopT : Code := .loop (.seq (Rg 9 3) (.seq (.cond (Operand.tmp 9) .skip (Code.exit 0)) (.seq (.block 1 (.seq (Rg 9 4) (Rg 9 5))) (Rg 9 6))))
theorem cv_loopT (tab : Tab) (h0 : H) (hng : tab.ng ≤ h0.next) (b o c : Nat) (l : List Ins) (hm : Mem tab h0 b o (cellsI l)) (hn : l.length ≤ 100000) :
  ∀ (k i : Nat) (tm : Tr Value) (h : H) (v : Value), i + k = l.length → tm.get 3 = some v → tm.get 6 = some (.slice (some ⟨b, o, none⟩) l.length c) → tm.get 7 = some (.int .i64 l.length) → tm.get 8 = some (.int .i64 i) →
  Row h0 h 39 6 v i (cellsI (l.take i)) → Kept h0 h →
  ∃ tm' h' v', exR (EV tab) cvLoopT ⟨false, 18, tm, h⟩ = some (.exit 0, ⟨false, 18, tm', h'⟩) ∧ tm'.get 3 = some v' ∧ Row h0 h' 39 6 v' l.length (cellsI l) ∧ Kept h0 h' := by
 intro k
 induction k with
 | zero =>
  intro i tm h v hk t3 t6 t7 t8 hr hkp
  have hlt : ¬ i < l.length := by omega
  generalize he : exR (EV tab) cvLoopT ⟨false, 18, tm, h⟩ = r
  rw [cvLoopT, exR_loop] at he
  simp only [sS, sevalprocAttr, fF9, tT, t7, t8, iLss, Int.ofNat_lt, hlt, decide_false] at he
  subst he
  rw [List.take_of_length_le (by omega), show i = l.length by omega] at hr
  exact ⟨_, h, v, rfl, by simp only [Tr.get_set, Nat.reduceEqDiff, ↓reduceIte, t3], hr, hkp⟩
 | succ k ih =>
  intro i tm h v hk t3 t6 t7 t8 hr hkp
  have hlt : i < l.length := by omega
  have hsub := (hm.kept hkp).ins i hlt
  have hnb : ¬ h.next = b := by have := (hm.kept hkp).lt (Nat.le_trans hng hkp.le); omega
  have hhn : ¬ h.next < tab.ng := by have := hkp.le; omega
  have hk2 : Kept h0 ((h.push (.cells 36 6 [.int .i64 0, .string ⟨#[]⟩, .string ⟨#[]⟩, .int .u64 0, .int .i64 0, .int .i64 0])).put h.next (.cells 36 6 (insC l[i]))) := (hkp.push _).put _ hkp.le
  have hr2 : Row h0 ((((h.push (.cells 36 6 [.int .i64 0, .string ⟨#[]⟩, .string ⟨#[]⟩, .int .u64 0, .int .i64 0, .int .i64 0])).put h.next (.cells 36 6 (insC l[i])))).push (.cells 39 6 (insC l[i]))) 39 6 v i (cellsI (l.take i)) := by
   rcases hr with r | ⟨q, r1, r2, r3, r4, r5⟩
   ·exact .inl r
   ·refine .inr ⟨q, r1, r2, by simp only [H.next_push, H.next_put]; omega, ?_, r5⟩
    rw [H.get_push_lt _ _ (by simp only [H.next_push, H.next_put]; omega), H.get_put, if_neg (by omega), H.get_push_lt _ _ r3]; exact r4
  obtain ⟨v1, h1, e, rr, kk⟩ := append_row (E := EV tab) (t := 31) (ti31 tab) rfl (ti39 tab) rfl (by rw [bt_eq]; show 39 ≠ 82; decide) hng hr2 (hk2.push _)
   (new_ins tab 39 ((((h.push (.cells 36 6 [.int .i64 0, .string ⟨#[]⟩, .string ⟨#[]⟩, .int .u64 0, .int .i64 0, .int .i64 0])).put h.next (.cells 36 6 (insC l[i])))).push (.cells 39 6 (insC l[i]))) l[i] (h.next + 1) 3 (by omega) (by simp only [H.get_push, H.next_put, H.next_push, if_true]) _) (insC_one _) (by decide) (by omega) rfl
  rw [← cellsI_take l i hlt] at rr
  have hs2 : ∀ a b c d e f : Value, Obj.sub (.cells 36 6 [a, b, c, d, e, f]) 0 6 = some [a, b, c, d, e, f] := fun _ _ _ _ _ _ => rfl
  have e' := e
  simp only [insC, insL] at e' hsub
  obtain ⟨tm1, e1, a3, a6, a7, a8⟩ : ∃ tm1, exR (EV tab) cvLoopT ⟨false, 18, tm, h⟩ = exR (EV tab) cvLoopT ⟨false, 18, tm1, h1⟩ ∧ tm1.get 3 = some v1 ∧ tm1.get 6 = some (.slice (some ⟨b, o, none⟩) l.length c) ∧ tm1.get 7 = some (.int .i64 l.length) ∧ tm1.get 8 = some (.int .i64 ((i + 1 : Nat) : Int)) := by
   generalize he : exR (EV tab) cvLoopT ⟨false, 18, tm, h⟩ = r
   rw [cvLoopT, exR_loop] at he
   simp only [sS, sevalprocAttr, fF9, tT, sN, sO, ng_eq, tabL_ng, t3, t6, t7, t8, iLss, Int.ofNat_lt, hlt, decide_true, Int.natCast_nonneg, and_self, Int.toNat_natCast, hnb, hhn, hsub, hs2, e', add1 i (by omega)] at he
   subst he
   refine ⟨_, rfl, ?_, ?_, ?_, ?_⟩ <;> simp only [Tr.get_set, Nat.reduceEqDiff, ↓reduceIte, t6, t7]
  obtain ⟨tm', h', v', x1, x2, x3, x4⟩ := ih (i + 1) tm1 h1 v1 (by omega) a3 a6 a7 a8 rr kk
  exact ⟨tm', h', v', by rw [e1]; exact x1, x2, x3, x4⟩
theorem cv_runT (tab : Tab) (hx : ∀ l, callExt (EV tab) 9 l = none) (h : H) (hng : tab.ng ≤ h.next) (v : Value) (l : List Ins) (hv : InS tab h v 36 l) (hn : l.length ≤ 100000) :
  ∃ v' h', callR (EV tab) 9 [v] h = some (v', h') ∧ Row h h' 39 6 v' l.length (cellsI l) ∧ Kept h h' := by
 rcases hv with ⟨rfl, rfl⟩ | ⟨b, o, c, rfl, hm⟩
 ·generalize he : callR _ _ _ _ = r
  rw [enter9 _ _ _ (hx _) rfl] at he
  simp only [sS, sevalprocAttr, fF9, tT, sN, sM, exR_loop, ng_eq, tabL_ng, iLss, Int.cast_ofNat_Int, Int.reduceLT, decide_false, Int.lt_irrefl] at he
  subst he
  exact ⟨_, _, rfl, Row.nil _ _ _ _, Kept.refl h⟩
 ·have key : ∀ tm h1, (h1 = h ∧ tm.get 3 = some (.slice none 0 0) ∧ tm.get 6 = some (.slice (some ⟨b, o, none⟩) l.length c) ∧ tm.get 7 = some (.int .i64 l.length) ∧ tm.get 8 = some (.int .i64 0)) → ∃ x s', exR (EV tab) cvLoopT ⟨false, 18, tm, h1⟩ = some (x, s') ∧
    (x = .exit 0 ∧ ∃ tm' h' v', s' = ⟨false, 18, tm', h'⟩ ∧ tm'.get 3 = some v' ∧ Row h h' 39 6 v' l.length (cellsI l) ∧ Kept h h') := fun tm h1 p => by
   obtain ⟨rfl, p3, p6, p7, p8⟩ := p
   obtain ⟨tm', h', v', x1, x2, x3, x4⟩ := cv_loopT tab h1 hng b o c l hm hn l.length 0 tm h1 (.slice none 0 0) (by omega) p3 p6 p7 p8 (Row.nil _ _ _ _) (Kept.refl h1)
   exact ⟨_, _, x1, rfl, tm', h', v', rfl, x2, x3, x4⟩
  generalize he : callR _ _ _ _ = r
  rw [enter9 _ _ _ (hx _) rfl] at he
  simp only [sS, sevalprocAttr, r9_0, r9_1, r9_2, tT] at he
  obtain ⟨x1, s1, ⟨rfl, tm', h', v', rfl, x2, x3, x4⟩, he⟩ := use_run key (fun o => finish (EV tab) [ResultVar.tmp 2] (andThen (unblock 0 o) (exR (EV tab) (.seq (Rg 9 7) .ret)))) he (by
   refine ⟨rfl, ?_, ?_, ?_, ?_⟩ <;> simp only [Tr.get_set, Nat.reduceEqDiff, ↓reduceIte])
  simp only [sS, sevalprocAttr, fF9, tT, x2] at he
  subst he
  exact ⟨v', h', rfl, x3, x4⟩
def chkI (x : Ins) : Int := checkI x.op x.t x.u x.num x.imm x.size
def errs (l : List Ins) : List Value := (l.map chkI).map (.int .i64)
theorem errs_take (l : List Ins) (i : Nat) (hi : i < l.length) : errs (l.take (i + 1)) = errs (l.take i) ++ [.int .i64 (chkI l[i])] := by
 have h : l.take (i + 1) = l.take i ++ [l[i]] := by rw [List.take_add_one, List.getElem?_eq_getElem hi]; rfl
 rw [h, errs, errs, List.map_append, List.map_append]; rfl
theorem new_one (tab : Tab) (e : Nat) (h : H) (v : Value) (b c : Nat) (hb : tab.ng ≤ b) (hg : h.get b = some (.cells e 1 [v])) (z : List Value) : newD (EV tab) h z 1 false (.slice (some ⟨b, 0, none⟩) 1 c) = some ([v], 1) := by
 have hs := sub_all e 1 [v]
 rw [show ([v] : List Value).length = 1 from rfl] at hs
 unfold newD
 simp only [Bool.false_eq_true, if_false, lenOfD, srcD, subD, ng_eq, tabL_ng, Nat.not_lt.2 hb, Nat.one_mul, hg, hs]
noncomputable def meLoop : Code := .loop (.seq (Rg 48 3) (.seq (.cond (Operand.tmp 11) .skip (Code.exit 0)) (.seq (.block 1 (.seq (Rg 48 4) (Rg 48 5))) (Rg 48 6))))
theorem me_loop (tab : Tab) (hc : CheckP tab 15) (h0 : H) (hng : tab.ng ≤ h0.next) (b o c : Nat) (l : List Ins) (hm : Mem tab h0 b o (cellsI l)) (hn : l.length ≤ 5000) :
  ∀ (k i : Nat) (tm : Tr Value) (h : H) (v : Value), i + k = l.length → tm.get 5 = some v → tm.get 1 = some (.func (.func 15) #[] #[]) → tm.get 8 = some (.slice (some ⟨b, o, none⟩) l.length c) → tm.get 9 = some (.int .i64 l.length) → tm.get 10 = some (.int .i64 i) →
  Row h0 h 25 1 v i (errs (l.take i)) → Kept h0 h →
  ∃ tm' h' v', exR (EV tab) meLoop ⟨false, 22, tm, h⟩ = some (.exit 0, ⟨false, 22, tm', h'⟩) ∧ tm'.get 5 = some v' ∧ Row h0 h' 25 1 v' l.length (errs l) ∧ Kept h0 h' := by
 intro k
 induction k with
 | zero =>
  intro i tm h v hk t5 t1 t8 t9 t10 hr hkp
  have hlt : ¬ i < l.length := by omega
  generalize he : exR (EV tab) meLoop ⟨false, 22, tm, h⟩ = r
  rw [meLoop, exR_loop] at he
  simp only [sS, sevalprocAttr, fF48, tT, t9, t10, iLss, Int.ofNat_lt, hlt, decide_false] at he
  subst he
  rw [List.take_of_length_le (by omega), show i = l.length by omega] at hr
  exact ⟨_, h, v, rfl, by simp only [Tr.get_set, Nat.reduceEqDiff, ↓reduceIte, t5], hr, hkp⟩
 | succ k ih =>
  intro i tm h v hk t5 t1 t8 t9 t10 hr hkp
  have hlt : i < l.length := by omega
  have hsub := (hm.kept hkp).ins i hlt
  have hnb : ¬ h.next = b := by have := (hm.kept hkp).lt (Nat.le_trans hng hkp.le); omega
  have hhn : ¬ h.next < tab.ng := by have := hkp.le; omega
  have hk2 : Kept h0 ((h.push (.cells 39 6 [.int .i64 0, .string ⟨#[]⟩, .string ⟨#[]⟩, .int .u64 0, .int .i64 0, .int .i64 0])).put h.next (.cells 39 6 (insC l[i]))) := (hkp.push _).put _ hkp.le
  have hr2 : Row h0 ((((h.push (.cells 39 6 [.int .i64 0, .string ⟨#[]⟩, .string ⟨#[]⟩, .int .u64 0, .int .i64 0, .int .i64 0])).put h.next (.cells 39 6 (insC l[i])))).push (.cells 25 1 [.int .i64 (chkI l[i])])) 25 1 v i (errs (l.take i)) := by
   rcases hr with r | ⟨q, r1, r2, r3, r4, r5⟩
   ·exact .inl r
   ·refine .inr ⟨q, r1, r2, by simp only [H.next_push, H.next_put]; omega, ?_, r5⟩
    rw [H.get_push_lt _ _ (by simp only [H.next_push, H.next_put]; omega), H.get_put, if_neg (by omega), H.get_push_lt _ _ r3]; exact r4
  obtain ⟨v1, h1, e, rr, kk⟩ := append_row (E := EV tab) (t := 120) (ti120 tab) rfl (ti25 tab) rfl (by rw [bt_eq]; show 25 ≠ 82; decide) hng hr2 (hk2.push _)
   (new_one tab 25 ((((h.push (.cells 39 6 [.int .i64 0, .string ⟨#[]⟩, .string ⟨#[]⟩, .int .u64 0, .int .i64 0, .int .i64 0])).put h.next (.cells 39 6 (insC l[i])))).push (.cells 25 1 [.int .i64 (chkI l[i])])) (.int .i64 (chkI l[i])) (h.next + 1) 3 (by omega) (by simp only [H.get_push, H.next_put, H.next_push, if_true]) _) rfl (by decide) (by omega) rfl
  rw [← errs_take l i hlt] at rr
  have hs2 : ∀ a b c d e f : Value, Obj.sub (.cells 39 6 [a, b, c, d, e, f]) 0 6 = some [a, b, c, d, e, f] := fun _ _ _ _ _ _ => rfl
  have e' := e
  have hc' := fun h => hc l[i].op l[i].t l[i].u l[i].num l[i].imm l[i].size h (by omega)
  simp only [insC, insL, insV] at e' hsub hc'
  rw [show checkI l[i].op l[i].t l[i].u l[i].num l[i].imm l[i].size = chkI l[i] from rfl] at hc'
  obtain ⟨tm1, e1, a5, a1, a8, a9, a10⟩ : ∃ tm1, exR (EV tab) meLoop ⟨false, 22, tm, h⟩ = exR (EV tab) meLoop ⟨false, 22, tm1, h1⟩ ∧ tm1.get 5 = some v1 ∧ tm1.get 1 = some (.func (.func 15) #[] #[]) ∧ tm1.get 8 = some (.slice (some ⟨b, o, none⟩) l.length c) ∧ tm1.get 9 = some (.int .i64 l.length) ∧ tm1.get 10 = some (.int .i64 ((i + 1 : Nat) : Int)) := by
   generalize he : exR (EV tab) meLoop ⟨false, 22, tm, h⟩ = r
   rw [meLoop, exR_loop] at he
   simp only [sS, sevalprocAttr, fF48, tT, sN, sO, ng_eq, tabL_ng, t1, t5, t8, t9, t10, iLss, Int.ofNat_lt, hlt, decide_true, Int.natCast_nonneg, and_self, Int.toNat_natCast, hnb, hhn, hsub, hs2, hc', e', add1 i (by omega)] at he
   subst he
   refine ⟨_, rfl, ?_, ?_, ?_, ?_, ?_⟩ <;> simp only [Tr.get_set, Nat.reduceEqDiff, ↓reduceIte, t1, t8, t9]
  obtain ⟨tm', h', v', x1, x2, x3, x4⟩ := ih (i + 1) tm1 h1 v1 (by omega) a5 a1 a8 a9 a10 rr kk
  exact ⟨tm', h', v', by rw [e1]; exact x1, x2, x3, x4⟩
theorem me_run (tab : Tab) (hx : ∀ l, callExt (EV tab) 48 l = none) (hc : CheckP tab 15) (h : H) (hng : tab.ng ≤ h.next) (v : Value) (l : List Ins) (hv : InS tab h v 39 l) (hn : l.length ≤ 5000) :
  ∃ v' h', callR (EV tab) 48 [v, .func (.func 15) #[] #[]] h = some (v', h') ∧ Row h h' 25 1 v' l.length (errs l) ∧ Kept h h' := by
 rcases hv with ⟨rfl, rfl⟩ | ⟨b, o, c, rfl, hm⟩
 ·generalize he : callR _ _ _ _ = r
  rw [enter48 _ _ _ (hx _) rfl] at he
  simp only [sS, sevalprocAttr, fF48, tT, sN, sM, exR_loop, ng_eq, tabL_ng, iLss, Int.cast_ofNat_Int, Int.reduceLT, decide_false, Int.lt_irrefl] at he
  subst he
  exact ⟨_, _, rfl, Row.nil _ _ _ _, Kept.refl h⟩
 ·have key : ∀ tm h1, (h1 = h ∧ tm.get 5 = some (.slice none 0 0) ∧ tm.get 1 = some (.func (.func 15) #[] #[]) ∧ tm.get 8 = some (.slice (some ⟨b, o, none⟩) l.length c) ∧ tm.get 9 = some (.int .i64 l.length) ∧ tm.get 10 = some (.int .i64 0)) → ∃ x s', exR (EV tab) meLoop ⟨false, 22, tm, h1⟩ = some (x, s') ∧
    (x = .exit 0 ∧ ∃ tm' h' v', s' = ⟨false, 22, tm', h'⟩ ∧ tm'.get 5 = some v' ∧ Row h h' 25 1 v' l.length (errs l) ∧ Kept h h') := fun tm h1 p => by
   obtain ⟨rfl, p3, p1, p6, p7, p8⟩ := p
   obtain ⟨tm', h', v', x1, x2, x3, x4⟩ := me_loop tab hc h1 hng b o c l hm hn l.length 0 tm h1 (.slice none 0 0) (by omega) p3 p1 p6 p7 p8 (Row.nil _ _ _ _) (Kept.refl h1)
   exact ⟨_, _, x1, rfl, tm', h', v', rfl, x2, x3, x4⟩
  generalize he : callR _ _ _ _ = r
  rw [enter48 _ _ _ (hx _) rfl] at he
  simp only [sS, sevalprocAttr, r48_0, r48_1, r48_2, tT] at he
  obtain ⟨x1, s1, ⟨rfl, tm', h', v', rfl, x2, x3, x4⟩, he⟩ := use_run key (fun o => finish (EV tab) [ResultVar.tmp 4] (andThen (unblock 0 o) (exR (EV tab) (.seq (Rg 48 7) .ret)))) he (by
   refine ⟨rfl, ?_, ?_, ?_, ?_, ?_⟩ <;> simp only [Tr.get_set, Nat.reduceEqDiff, ↓reduceIte])
  simp only [sS, sevalprocAttr, fF48, tT, x2] at he
  subst he
  exact ⟨v', h', rfl, x3, x4⟩
theorem first_nil (tab : Tab) (hx : ∀ l, callExt (EV tab) 35 l = none) (h : H) : callR (EV tab) 35 [.slice none 0 0] h = some (.int .i64 0, h) := by
 generalize he : callR _ _ _ _ = r
 rw [enter35 _ _ _ (hx _) rfl] at he
 simp only [sS, sevalprocAttr, fF35, tT, sN, sM, exR_loop, ng_eq, tabL_ng, iLss, Int.cast_ofNat_Int, Int.reduceLT, decide_false, Int.lt_irrefl] at he
 exact he.symm
def allI (l : List Ins) : Int := if 4000 < l.length then 5 else firstI (l.map chkI)
theorem checkAll_run (tab : Tab) (hx : ∀ l, callExt (EV tab) 25 l = none) (hxm : ∀ l, callExt (EV tab) 48 l = none) (hxf : ∀ l, callExt (EV tab) 35 l = none) (hc : CheckP tab 15) (h : H) (hng : tab.ng ≤ h.next) (v : Value) (l : List Ins) (hv : InS tab h v 39 l) (hn : l.length ≤ 5000) :
  ∃ h', callR (EV tab) 25 [v] h = some (.int .i64 (allI l), h') ∧ Kept h h' := by
 have hlen : ∃ a c, v = .slice a l.length c := by
  rcases hv with ⟨rfl, rfl⟩ | ⟨b, o, c, rfl, _⟩
  ·exact ⟨_, _, rfl⟩
  ·exact ⟨_, _, rfl⟩
 obtain ⟨v', h', e, r, k⟩ := me_run tab hxm hc h hng v l hv hn
 obtain ⟨a, c, rfl⟩ := hlen
 generalize he : callR _ _ _ _ = x
 rw [enter25 _ _ _ (hx _) rfl] at he
 unfold allI
 by_cases q : 4000 < l.length
 ·rw [if_pos q]
  have d : decide ((4000 : Int) < (l.length : Nat)) = true := decide_eq_true (by omega)
  simp only [sS, sevalprocAttr, fF25, tT, sN, sM, iGtr, gt_iff_lt, d] at he
  subst he
  exact ⟨_, rfl, Kept.refl h⟩
 ·rw [if_neg q]
  have d : decide ((4000 : Int) < (l.length : Nat)) = false := decide_eq_false (by omega)
  have ef : callR (EV tab) 35 [v'] h' = some (.int .i64 (firstI (l.map chkI)), h') := by
   rcases r with ⟨rfl, r2, _⟩ | ⟨b, rfl, r2, r3, r4, r5⟩
   ·have : l = [] := List.eq_nil_of_length_eq_zero r2
    subst this
    exact first_nil tab hxf h'
   ·exact first_run tab hxf h' b 0 l.length (l.map chkI) (by omega) r4 (by simp) (by omega)
  simp only [sS, sevalprocAttr, fF25, tT, sN, sM, iGtr, gt_iff_lt, d, e, ef] at he
  subst he
  exact ⟨_, rfl, k⟩
noncomputable def clLoop : Code := .loop (.seq (.seq (Rg 29 4) (.cond (Operand.tmp 11) .skip (Code.exit 0))) (.seq (.block 1 (.seq (Rg 29 6) (.seq (Rg 29 7) (.cond (Operand.tmp 20) (.seq (Rg 29 8) .ret) .skip)))) (Rg 29 5)))
theorem cl_loop (tab : Tab) (hc : CheckP tab 16) (h : H) (b o c : Nat) (l : List Ins) (hm : Mem tab h b o (cellsI l)) (hn : l.length ≤ 5000) :
  ∀ (k i : Nat) (tm : Tr Value), i + k = l.length → tm.get 0 = some (.slice (some ⟨b, o, none⟩) l.length c) → tm.get 3 = some (.int .i64 i) →
  ∃ tm', (exR (EV tab) clLoop ⟨false, 22, tm, h⟩ = some (.exit 0, ⟨false, 22, tm', h⟩) ∧ firstI ((l.drop i).map chkI) = 0) ∨
   (exR (EV tab) clLoop ⟨false, 22, tm, h⟩ = some (.ret, ⟨false, 22, tm', h⟩) ∧ tm'.get 2 = some (.int .i64 (firstI ((l.drop i).map chkI)))) := by
 intro k
 induction k with
 | zero =>
  intro i tm hk t0 t3
  have hlt : ¬ i < l.length := by omega
  generalize he : exR (EV tab) clLoop ⟨false, 22, tm, h⟩ = r
  rw [clLoop, exR_loop] at he
  simp only [sS, sevalprocAttr, fF29, tT, t0, t3, iLss, Int.ofNat_lt, hlt, decide_false] at he
  subst he
  exact ⟨_, .inl ⟨rfl, by rw [List.drop_eq_nil_of_le (by omega)]; rfl⟩⟩
 | succ k ih =>
  intro i tm hk t0 t3
  have hlt : i < l.length := by omega
  have hd : l.drop i = l[i] :: l.drop (i + 1) := (List.getElem_cons_drop hlt).symm
  have hsub := hm.ins i hlt
  have hc' := fun h => hc l[i].op l[i].t l[i].u l[i].num l[i].imm l[i].size h (by omega)
  simp only [insC, insL, insV] at hsub hc'
  rw [show checkI l[i].op l[i].t l[i].u l[i].num l[i].imm l[i].size = chkI l[i] from rfl] at hc'
  rw [hd, List.map_cons, firstI]
  by_cases q : chkI l[i] = 0
  ·rw [if_pos q]
   have z : (chkI l[i] != 0) = false := by rw [q]; rfl
   obtain ⟨tm1, e1, a0, a3⟩ : ∃ tm1, exR (EV tab) clLoop ⟨false, 22, tm, h⟩ = exR (EV tab) clLoop ⟨false, 22, tm1, h⟩ ∧ tm1.get 0 = some (.slice (some ⟨b, o, none⟩) l.length c) ∧ tm1.get 3 = some (.int .i64 ((i + 1 : Nat) : Int)) := by
    generalize he : exR (EV tab) clLoop ⟨false, 22, tm, h⟩ = r
    rw [clLoop, exR_loop] at he
    simp only [sS, sevalprocAttr, fF29, tT, sN, sO, ng_eq, tabL_ng, t0, t3, iLss, Int.ofNat_lt, hlt, decide_true, Int.natCast_nonneg, and_self, Int.toNat_natCast, hsub, hc', iNeq, z, add1 i (by omega)] at he
    subst he
    refine ⟨_, rfl, ?_, ?_⟩ <;> simp only [Tr.get_set, Nat.reduceEqDiff, ↓reduceIte, t0]
   rw [e1]
   exact ih (i + 1) tm1 (by omega) a0 a3
  ·rw [if_neg q]
   have z : (chkI l[i] != 0) = true := by simpa using q
   generalize he : exR (EV tab) clLoop ⟨false, 22, tm, h⟩ = r
   rw [clLoop, exR_loop] at he
   simp only [sS, sevalprocAttr, fF29, tT, sN, sO, ng_eq, tabL_ng, t0, t3, iLss, Int.ofNat_lt, hlt, decide_true, Int.natCast_nonneg, and_self, Int.toNat_natCast, hsub, hc', iNeq, z] at he
   subst he
   exact ⟨_, .inr ⟨rfl, by simp only [Tr.get_set, Nat.reduceEqDiff, ↓reduceIte]⟩⟩
theorem checkList_run (tab : Tab) (hx : ∀ l, callExt (EV tab) 29 l = none) (hc : CheckP tab 16) (h : H) (v : Value) (l : List Ins) (hv : InS tab h v 36 l) (hn : l.length ≤ 5000) :
  callR (EV tab) 29 [v] h = some (.int .i64 (allI l), h) := by
 rcases hv with ⟨rfl, rfl⟩ | ⟨b, o, c, rfl, hm⟩
 ·generalize he : callR _ _ _ _ = r
  rw [enter29 _ _ _ (hx _) rfl] at he
  simp only [sS, sevalprocAttr, fF29, tT, sN, sM, exR_loop, ng_eq, tabL_ng, iLss, iGtr, gt_iff_lt, Int.cast_ofNat_Int, Int.reduceLT, decide_false, Int.lt_irrefl] at he
  exact he.symm
 ·generalize he : callR _ _ _ _ = x
  rw [enter29 _ _ _ (hx _) rfl] at he
  unfold allI
  by_cases q : 4000 < l.length
  ·rw [if_pos q]
   have d : decide ((4000 : Int) < (l.length : Nat)) = true := decide_eq_true (by omega)
   simp only [sS, sevalprocAttr, fF29, tT, sN, sM, iGtr, gt_iff_lt, d] at he
   exact he.symm
  ·rw [if_neg q]
   have d : decide ((4000 : Int) < (l.length : Nat)) = false := decide_eq_false (by omega)
   have key : ∀ tm h1, (h1 = h ∧ tm.get 0 = some (.slice (some ⟨b, o, none⟩) l.length c) ∧ tm.get 3 = some (.int .i64 0)) → ∃ x s', exR (EV tab) clLoop ⟨false, 22, tm, h1⟩ = some (x, s') ∧
     ((x = .exit 0 ∧ ∃ tm', s' = ⟨false, 22, tm', h⟩ ∧ firstI (l.map chkI) = 0) ∨ (x = .ret ∧ ∃ tm', s' = ⟨false, 22, tm', h⟩ ∧ tm'.get 2 = some (.int .i64 (firstI (l.map chkI))))) := fun tm h1 p => by
    obtain ⟨rfl, p0, p3⟩ := p
    obtain ⟨tm', ⟨e, z⟩ | ⟨e, z⟩⟩ := cl_loop tab hc h1 b o c l hm hn l.length 0 tm (by omega) p0 p3
    ·exact ⟨_, _, e, .inl ⟨rfl, tm', rfl, by rw [List.drop_zero] at z; exact z⟩⟩
    ·exact ⟨_, _, e, .inr ⟨rfl, tm', rfl, by rw [List.drop_zero] at z; exact z⟩⟩
   simp only [sS, sevalprocAttr, r29_0, r29_1, r29_3, tT, iGtr, gt_iff_lt, d] at he
   obtain ⟨x1, s1, ⟨rfl, tm', rfl, z⟩ | ⟨rfl, tm', rfl, z⟩, he⟩ := use_run key (fun o => finish (EV tab) [ResultVar.tmp 2] (andThen (unblock 0 o) (exR (EV tab) (.seq (Rg 29 9) .ret)))) he (by
    refine ⟨rfl, ?_, ?_⟩ <;> simp only [Tr.get_set, Nat.reduceEqDiff, ↓reduceIte])
   ·rw [z]
    simp only [sS, sevalprocAttr, fF29, tT] at he
    exact he.symm
   ·simp only [sS, sevalprocAttr, fF29, tT, z] at he
    exact he.symm
def okS (x : Ins) : Bool := decide (x.t.length ≤ 100) && decide (x.u.length ≤ 100)
def shortB (l : List Ins) : Bool := !(decide (200 < l.length) && decide (l.length ≠ 4001)) && l.all okS
noncomputable def shLoop : Code := .loop (.seq (Rg 4 4) (.seq (.cond (Operand.tmp 16) .skip (Code.exit 0)) (.seq (.block 1 (.seq (Rg 4 5) (.seq (Rg 4 6) (.cond (Operand.tmp 28) (.seq (Rg 4 7) .ret) .skip)))) (Rg 4 8))))
theorem sh_loop (tab : Tab) (h0 : H) (hng : tab.ng ≤ h0.next) (b o c : Nat) (l : List Ins) (hm : Mem tab h0 b o (cellsI l)) (hn : l.length ≤ 5000) :
  ∀ (k i : Nat) (tm : Tr Value) (h : H), i + k = l.length → tm.get 13 = some (.slice (some ⟨b, o, none⟩) l.length c) → tm.get 14 = some (.int .i64 l.length) → tm.get 15 = some (.int .i64 i) → Kept h0 h →
  ∃ tm' h', Kept h0 h' ∧ ((exR (EV tab) shLoop ⟨false, 30, tm, h⟩ = some (.exit 0, ⟨false, 30, tm', h'⟩) ∧ (l.drop i).all okS = true) ∨
   (exR (EV tab) shLoop ⟨false, 30, tm, h⟩ = some (.ret, ⟨false, 30, tm', h'⟩) ∧ (l.drop i).all okS = false ∧ tm'.get 2 = some (.bool false))) := by
 intro k
 induction k with
 | zero =>
  intro i tm h hk t13 t14 t15 hkp
  have hlt : ¬ i < l.length := by omega
  generalize he : exR (EV tab) shLoop ⟨false, 30, tm, h⟩ = r
  rw [shLoop, exR_loop] at he
  simp only [sS, sevalprocAttr, fF4, tT, t14, t15, iLss, Int.ofNat_lt, hlt, decide_false] at he
  subst he
  exact ⟨_, h, hkp, .inl ⟨rfl, by rw [List.drop_eq_nil_of_le (by omega)]; rfl⟩⟩
 | succ k ih =>
  intro i tm h hk t13 t14 t15 hkp
  have hlt : i < l.length := by omega
  have hd : l.drop i = l[i] :: l.drop (i + 1) := (List.getElem_cons_drop hlt).symm
  have hsub := (hm.kept hkp).ins i hlt
  have hhn : ¬ h.next < tab.ng := by have := hkp.le; omega
  have hnb : ¬ h.next = b := by have := (hm.kept hkp).lt (Nat.le_trans hng hkp.le); omega
  have hs1 : ∀ a b c d e f : Value, Obj.sub (.cells 36 6 [a, b, c, d, e, f]) 1 1 = some [b] := fun _ _ _ _ _ _ => rfl
  have hs2 : ∀ a b c d e f : Value, Obj.sub (.cells 36 6 [a, b, c, d, e, f]) 2 1 = some [c] := fun _ _ _ _ _ _ => rfl
  have z1 : (ByteArray.mk ⟨l[i].t⟩).size = l[i].t.length := rfl
  have z2 : (ByteArray.mk ⟨l[i].u⟩).size = l[i].u.length := rfl
  simp only [insC, insL] at hsub
  have g1 : decide ((100 : Int) < (l[i].t.length : Nat)) = !decide (l[i].t.length ≤ 100) := by by_cases h : l[i].t.length ≤ 100 <;> simp [h] <;> omega
  have g2 : decide ((100 : Int) < (l[i].u.length : Nat)) = !decide (l[i].u.length ≤ 100) := by by_cases h : l[i].u.length ≤ 100 <;> simp [h] <;> omega
  rw [hd, List.all_cons]
  have hk3 : Kept h0 ((h.push (.cells 36 6 [.int .i64 0, .string ⟨#[]⟩, .string ⟨#[]⟩, .int .u64 0, .int .i64 0, .int .i64 0])).put h.next (.cells 36 6 (insC l[i]))) := (hkp.push _).put _ hkp.le
  cases q : okS l[i] with
  | true =>
   simp only [okS, Bool.and_eq_true] at q
   obtain ⟨q1, q2⟩ := q
   obtain ⟨tm1, e1, a13, a14, a15⟩ : ∃ tm1, exR (EV tab) shLoop ⟨false, 30, tm, h⟩ = exR (EV tab) shLoop ⟨false, 30, tm1, (h.push (.cells 36 6 [.int .i64 0, .string ⟨#[]⟩, .string ⟨#[]⟩, .int .u64 0, .int .i64 0, .int .i64 0])).put h.next (.cells 36 6 (insC l[i]))⟩ ∧ tm1.get 13 = some (.slice (some ⟨b, o, none⟩) l.length c) ∧ tm1.get 14 = some (.int .i64 l.length) ∧ tm1.get 15 = some (.int .i64 ((i + 1 : Nat) : Int)) := by
    generalize he : exR (EV tab) shLoop ⟨false, 30, tm, h⟩ = r
    rw [shLoop, exR_loop] at he
    simp only [sS, sevalprocAttr, fF4, tT, sN, sO, ng_eq, tabL_ng, t13, t14, t15, iLss, iGtr, gt_iff_lt, Int.ofNat_lt, hlt, decide_true, Int.natCast_nonneg, and_self, Int.toNat_natCast, hnb, hhn, hsub, hs1, hs2, z1, z2, g1, g2, q1, q2, Bool.not_true, add1 i (by omega)] at he
    subst he
    refine ⟨_, rfl, ?_, ?_, ?_⟩ <;> simp only [Tr.get_set, Nat.reduceEqDiff, ↓reduceIte, t13, t14]
   obtain ⟨tm', h', k', x⟩ := ih (i + 1) tm1 _ (by omega) a13 a14 a15 hk3
   rw [e1]
   exact ⟨tm', h', k', by simpa using x⟩
  | false =>
   generalize he : exR (EV tab) shLoop ⟨false, 30, tm, h⟩ = r
   rw [shLoop, exR_loop] at he
   cases q1 : decide (l[i].t.length ≤ 100) with
   | false =>
    simp only [sS, sevalprocAttr, fF4, tT, sN, sO, ng_eq, tabL_ng, t13, t14, t15, iLss, iGtr, gt_iff_lt, Int.ofNat_lt, hlt, decide_true, Int.natCast_nonneg, and_self, Int.toNat_natCast, hnb, hhn, hsub, hs1, hs2, z1, z2, g1, g2, q1, Bool.not_false] at he
    subst he
    exact ⟨_, _, hk3, .inr ⟨rfl, rfl, by simp only [Tr.get_set, Nat.reduceEqDiff, ↓reduceIte]⟩⟩
   | true =>
    have q2 : decide (l[i].u.length ≤ 100) = false := by unfold okS at q; rw [q1] at q; simpa using q
    simp only [sS, sevalprocAttr, fF4, tT, sN, sO, ng_eq, tabL_ng, t13, t14, t15, iLss, iGtr, gt_iff_lt, Int.ofNat_lt, hlt, decide_true, Int.natCast_nonneg, and_self, Int.toNat_natCast, hnb, hhn, hsub, hs1, hs2, z1, z2, g1, g2, q1, q2, Bool.not_true, Bool.not_false] at he
    subst he
    exact ⟨_, _, hk3, .inr ⟨rfl, rfl, by simp only [Tr.get_set, Nat.reduceEqDiff, ↓reduceIte]⟩⟩
theorem short_run (tab : Tab) (hx : ∀ l, callExt (EV tab) 4 l = none) (h : H) (hng : tab.ng ≤ h.next) (v : Value) (l : List Ins) (hv : InS tab h v 36 l) :
  ∃ h', callR (EV tab) 4 [v] h = some (.bool (shortB l), h') ∧ Kept h h' := by
 unfold shortB
 rcases hv with ⟨rfl, rfl⟩ | ⟨b, o, c, rfl, hm⟩
 ·generalize he : callR _ _ _ _ = r
  rw [enter4 _ _ _ (hx _) rfl] at he
  simp only [sS, sevalprocAttr, fF4, tT, sN, sM, exR_loop, ng_eq, tabL_ng, iLss, iGtr, gt_iff_lt, Int.cast_ofNat_Int, Int.reduceLT, decide_false, Int.lt_irrefl] at he
  subst he
  exact ⟨_, rfl, Kept.refl h⟩
 ·generalize he : callR _ _ _ _ = x
  rw [enter4 _ _ _ (hx _) rfl] at he
  have g1 : decide ((200 : Int) < (l.length : Nat)) = decide (200 < l.length) := by rw [decide_eq_decide]; omega
  have g2 : (((l.length : Nat) : Int) != 4001) = decide (l.length ≠ 4001) := by
   rw [Bool.eq_iff_iff]; simp; omega
  by_cases q : 200 < l.length ∧ l.length ≠ 4001
  ·have q1 : decide (200 < l.length) = true := decide_eq_true q.1
   have q2 : decide (l.length ≠ 4001) = true := decide_eq_true q.2
   rw [q1, q2]
   simp only [sS, sevalprocAttr, fF4, tT, sN, sM, iGtr, iNeq, gt_iff_lt, g1, g2, q1, q2] at he
   subst he
   exact ⟨_, rfl, Kept.refl h⟩
  ·have hn : l.length ≤ 5000 := by omega
   have q3 : (decide (200 < l.length) && decide (l.length ≠ 4001)) = false := by
    rw [Bool.and_eq_false_iff]
    by_cases q1 : 200 < l.length
    ·exact .inr (decide_eq_false (fun h => q ⟨q1, h⟩))
    ·exact .inl (decide_eq_false q1)
   rw [q3]
   have key : ∀ tm h1, (h1 = h ∧ tm.get 13 = some (.slice (some ⟨b, o, none⟩) l.length c) ∧ tm.get 14 = some (.int .i64 l.length) ∧ tm.get 15 = some (.int .i64 0)) → ∃ x s', exR (EV tab) shLoop ⟨false, 30, tm, h1⟩ = some (x, s') ∧
     ((x = .exit 0 ∧ ∃ tm' h', s' = ⟨false, 30, tm', h'⟩ ∧ Kept h h' ∧ l.all okS = true) ∨ (x = .ret ∧ ∃ tm' h', s' = ⟨false, 30, tm', h'⟩ ∧ Kept h h' ∧ l.all okS = false ∧ tm'.get 2 = some (.bool false))) := fun tm h1 p => by
    obtain ⟨rfl, p1, p2, p3⟩ := p
    obtain ⟨tm', h', kk, ⟨e, z⟩ | ⟨e, z, z2⟩⟩ := sh_loop tab h1 hng b o c l hm hn l.length 0 tm h1 (by omega) p1 p2 p3 (Kept.refl h1)
    ·exact ⟨_, _, e, .inl ⟨rfl, tm', h', rfl, kk, by rw [List.drop_zero] at z; exact z⟩⟩
    ·exact ⟨_, _, e, .inr ⟨rfl, tm', h', rfl, kk, by rw [List.drop_zero] at z; exact z, z2⟩⟩
   have go : ∀ (x : Option (Value × H)) (tm : Tr Value), (tm.get 13 = some (.slice (some ⟨b, o, none⟩) l.length c) ∧ tm.get 14 = some (.int .i64 l.length) ∧ tm.get 15 = some (.int .i64 0)) →
     finish (EV tab) [ResultVar.tmp 2] (andThen (unblock 0 (exR (EV tab) shLoop ⟨false, 30, tm, h⟩)) (exR (EV tab) (.seq (Rg 4 9) .ret))) = x → ∃ h', x = some (.bool (!false && l.all okS), h') ∧ Kept h h' := fun x tm p he => by
    obtain ⟨x1, s1, ⟨rfl, tm', h', rfl, kk, z⟩ | ⟨rfl, tm', h', rfl, kk, z, z2⟩, he⟩ := use_run key (fun o => finish (EV tab) [ResultVar.tmp 2] (andThen (unblock 0 o) (exR (EV tab) (.seq (Rg 4 9) .ret)))) he ⟨rfl, p⟩
    ·rw [z]
     simp only [sS, sevalprocAttr, fF4, tT] at he
     subst he
     exact ⟨_, rfl, kk⟩
    ·rw [z]
     simp only [sS, sevalprocAttr, fF4, tT, z2] at he
     subst he
     exact ⟨_, rfl, kk⟩
   by_cases q1 : 200 < l.length
   ·have q1' : decide (200 < l.length) = true := decide_eq_true q1
    have q2' : decide (l.length ≠ 4001) = false := decide_eq_false (fun h => q ⟨q1, h⟩)
    simp only [sS, sevalprocAttr, r4_0, r4_1, r4_3, tT, iGtr, iNeq, gt_iff_lt, g1, g2, q1', q2'] at he
    exact go _ _ ⟨by simp only [Tr.get_set, Nat.reduceEqDiff, ↓reduceIte], by simp only [Tr.get_set, Nat.reduceEqDiff, ↓reduceIte], by simp only [Tr.get_set, Nat.reduceEqDiff, ↓reduceIte]⟩ he
   ·have q1' : decide (200 < l.length) = false := decide_eq_false q1
    simp only [sS, sevalprocAttr, r4_0, r4_1, r4_3, tT, iGtr, iNeq, gt_iff_lt, g1, g2, q1'] at he
    exact go _ _ ⟨by simp only [Tr.get_set, Nat.reduceEqDiff, ↓reduceIte], by simp only [Tr.get_set, Nat.reduceEqDiff, ↓reduceIte], by simp only [Tr.get_set, Nat.reduceEqDiff, ↓reduceIte]⟩ he
theorem firstI_zero : ∀ (l : List Int), firstI l = 0 → ∀ x ∈ l, x = 0
 | [], _, x, hx => by cases hx
 | a :: l, h, x, hx => by
  simp only [firstI] at h
  by_cases q : a = 0
  ·rw [if_pos q] at h
   rcases List.mem_cons.1 hx with rfl | hx
   ·exact q
   ·exact firstI_zero l h x hx
  ·rw [if_neg q] at h; exact absurd h q
theorem allI_zero {l : List Ins} (h : allI l = 0) : l.length ≤ 4000 ∧ ∀ x ∈ l, chkI x = 0 := by
 unfold allI at h
 by_cases q : 4000 < l.length
 ·rw [if_pos q] at h; cases h
 ·rw [if_neg q] at h
  exact ⟨by omega, fun x hx => firstI_zero _ h _ (List.mem_map_of_mem hx)⟩
theorem short_le {l : List Ins} (h : shortB l = true) : l.length ≤ 200 ∨ l.length = 4001 := by
 unfold shortB at h
 simp only [Bool.and_eq_true, Bool.not_eq_true', Bool.and_eq_false_iff, decide_eq_false_iff_not] at h
 rcases h.1 with q | q
 ·exact .inl (by omega)
 ·exact .inr (by omega)
theorem readCall_len {E : Env} {tm : Tr Value} {os : Array Operand} {ts : Array TypeId} : oReadCall E tm ⟨.builtin .len, os, ts⟩ = oLen E tm ts.toList os := rfl
def dec2 (n : Nat) : List UInt8 := if n < 10 then [UInt8.ofNat (48 + n)] else [UInt8.ofNat (48 + n / 10), UInt8.ofNat (48 + n % 10)]
end Go.D
